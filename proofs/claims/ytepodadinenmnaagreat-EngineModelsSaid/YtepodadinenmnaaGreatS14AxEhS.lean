/-
  What formulas, tunes and acts are handed in as.
-/
import Derived.Test.YtepodadinenmnaaGreatS14AxEhC
import Derived.Test.YtepodadinenmnaaGreatAxZ
namespace Go.AX
theorem ue{α:Type}(f:α->List PV)(s:List Sh)(h1:∀r,dh s r->∃x,r=f x):∀rows:List (List PV),(∀r∈rows,dh s r)->∃l:List α,rows=l.map f
 |[],_=>⟨[],rfl⟩
 |r::rows,h=>by
  obtain⟨x,rfl⟩:=h1 r (h r R2);obtain⟨l,rfl⟩:=ue f s h1 rows (λr a=>h r (RZ _ a));exact⟨x::l,rfl⟩
theorem AB{x:PV}(h:Az (.sl [.int .i64]) x):∃l:List Int,x=.seq false 1 (aa l):=by
 simp only [Az] at h; obtain ⟨rows, rfl, _, h⟩ := h; obtain ⟨l, rfl⟩ := ue (λ i : Int => [ae i]) _ (λ r b => by
  simp only[dh,Az]at b;obtain⟨_,_,rfl,⟨a,rfl,_⟩,rfl⟩:=b;exact⟨a,rfl⟩) rows h
 exact⟨l,rfl⟩
theorem LM{x:PV}(h:Az (.sl [.sl [.int .i64]]) x):∃cs:List (List Int),x=.seq false 1 (cs.map an):=by
 rw [Az] at h; obtain ⟨rows, rfl, _, h⟩ := h; obtain ⟨l, rfl⟩ := ue an _ (λ r b => by
  rw[dh]at b;obtain⟨_,_,rfl,h1,a⟩:=b;obtain⟨l,rfl⟩:=AB h1;rw[dh]at a;subst a;exact⟨l,rfl⟩) rows h
 exact⟨l,rfl⟩
theorem J8{xs:List PV}(h:dh [.int .i64,.sl [.sl [.int .i64]]] xs):∃(v:Int)(L:List (List Int)),xs=[ae v,.seq false 1 (L.map an)]:=by
 rw[dh]at h;obtain⟨_,_,rfl,h1,h⟩:=h;rw[dh]at h;obtain⟨_,_,rfl,a,h⟩:=h;rw[dh]at h;subst h;rw[Az]at h1;obtain⟨v,rfl,_⟩:=h1;obtain⟨L,rfl⟩:=LM a;exact⟨v,L,rfl⟩
theorem Nq{xs:List PV}(h:oJ [(true,[.int .i64,.sl [.sl [.int .i64]]]),(true,[.int .i64,.int .i64,.int .i64]),(false,[.sl [.int .i64]])] xs):∃(v:Int)(L:List (List Int))(a b c:Int)(l:List Int),xs=[.agg [ae v,.seq false 1 (L.map an)],.agg [ae a,ae b,ae c],.seq false 1 (aa l)]:=by
 rw[oJ]at h;obtain⟨_,_,rfl,h1,h⟩:=h;rw[oJ]at h;obtain⟨_,_,rfl,d,h⟩:=h;rw[oJ]at h;obtain⟨_,_,rfl,f,h⟩:=h;rw[oJ]at h;subst h;simp only[AA]at h1 d f;obtain⟨ys,rfl,h1⟩:=h1;obtain⟨zs,rfl,d⟩:=d;rw[dh]at f;obtain⟨t,g,e,f⟩:=f;cases e
 obtain⟨v,L,rfl⟩:=J8 h1;obtain⟨l,rfl⟩:=AB f.1;simp only[dh,Az]at d;obtain⟨_,_,rfl,⟨a,rfl,_⟩,_,_,rfl,⟨b,rfl,_⟩,_,_,rfl,⟨c,rfl,_⟩,rfl⟩:=d;exact⟨v,L,a,b,c,l,rfl⟩
end Go.AX