/-
  What formulas, tunes and acts are handed in as.
  What formulas, tunes and budgets are handed in as.
-/
import Derived.Test.YtepodadinenmnaaGreatS14AxEjA
import Derived.Test.YtepodadinenmnaaGreatAxZ
import Derived.Test.YtepodadinenmnaaGreatS14AxSoH
namespace Go.AX
theorem rN{α:Type}(f:α->List PV)(s:List Sh)(h1:∀r,cV s r->∃x,r=f x):∀rows:List (List PV),(∀r∈rows,cV s r)->∃l:List α,rows=l.map f
 |[],_=>⟨[],rfl⟩
 |r::rows,h=>by
  obtain⟨x,rfl⟩:=h1 r (h r OA);obtain⟨l,rfl⟩:=rN f s h1 rows (λr a=>h r (Ou _ a));exact⟨x::l,rfl⟩
theorem F8{x:PV}(h:xu (.sl [.int .i64]) x):∃l:List Int,x=.seq false 1 (af l):=by
 simp only [xu] at h; obtain ⟨rows, rfl, _, h⟩ := h; obtain ⟨l, rfl⟩ := rN (λ i : Int => [ae i]) _ (λ r b => by
  simp only[cV,xu]at b;obtain⟨_,_,rfl,⟨a,rfl,_⟩,rfl⟩:=b;exact⟨a,rfl⟩) rows h
 exact⟨l,rfl⟩
theorem HR{x:PV}(h:xu (.sl [.sl [.int .i64]]) x):∃cs:List (List Int),x=.seq false 1 (cs.map aK):=by
 rw [xu] at h; obtain ⟨rows, rfl, _, h⟩ := h; obtain ⟨l, rfl⟩ := rN aK _ (λ r b => by
  rw[cV]at b;obtain⟨_,_,rfl,h1,a⟩:=b;obtain⟨l,rfl⟩:=F8 h1;rw[cV]at a;subst a;exact⟨l,rfl⟩) rows h
 exact⟨l,rfl⟩
theorem F9{xs:List PV}(h:cV [.int .i64,.sl [.sl [.int .i64]]] xs):∃(v:Int)(L:List (List Int)),xs=[ae v,.seq false 1 (L.map aK)]:=by
 rw[cV]at h;obtain⟨_,_,rfl,h1,h⟩:=h;rw[cV]at h;obtain⟨_,_,rfl,a,h⟩:=h;rw[cV]at h;subst h;rw[xu]at h1;obtain⟨v,rfl,_⟩:=h1;obtain⟨L,rfl⟩:=HR a;exact⟨v,L,rfl⟩
end Go.AX
namespace Go.AX
theorem Jq{xs:List PV}(h:nk [(true,[.int .i64,.sl [.sl [.int .i64]]]),(true,[.int .i64,.int .i64,.int .i64]),(false,[.int .i64])] xs):∃(v:Int)(L:List (List Int))(a b c g:Int),xs=[.agg [ae v,.seq false 1 (L.map aK)],.agg [ae a,ae b,ae c],ae g]:=by
 rw[nk]at h;obtain⟨_,_,rfl,h1,h⟩:=h;rw[nk]at h;obtain⟨_,_,rfl,d,h⟩:=h;rw[nk]at h;obtain⟨_,_,rfl,f,h⟩:=h;rw[nk]at h;subst h;simp only[xv]at h1 d f;obtain⟨ys,rfl,h1⟩:=h1;obtain⟨zs,rfl,d⟩:=d;obtain⟨v,L,rfl⟩:=F9 h1;simp only[cV,xu]at d f;obtain⟨_,_,rfl,⟨a,rfl,_⟩,_,_,rfl,⟨b,rfl,_⟩,_,_,rfl,⟨c,rfl,_⟩,rfl⟩:=d;obtain⟨_,_,e,⟨g,rfl,_⟩,rfl⟩:=f;cases e
 exact⟨v,L,a,b,c,g,rfl⟩
end Go.AX