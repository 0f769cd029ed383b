/-
  What formulas, tunes and acts are handed in as; and what follows.
-/
import Derived.Test.YtepodadinenmnaaGreatS14AxEjA
import Derived.Test.YtepodadinenmnaaGreatAxZ
import Derived.Test.YtepodadinenmnaaGreatS14AxRdB
namespace Go.AX
theorem uB{α:Type}(f:α->List PV)(s:List Sh)(h1:∀r,dh s r->∃x,r=f x):∀rows:List (List PV),(∀r∈rows,dh s r)->∃l:List α,rows=l.map f
 |[],_=>⟨[],rfl⟩
 |r::rows,h=>by
  obtain⟨x,rfl⟩:=h1 r (h r To);obtain⟨l,rfl⟩:=uB f s h1 rows (λr a=>h r (Tl _ a));exact⟨x::l,rfl⟩
theorem KW{x:PV}(h:A3 (.sl [.int .i64]) x):∃l:List Int,x=.seq false 1 (ae l):=by
 simp only [A3] at h; obtain ⟨rows, rfl, _, h⟩ := h; obtain ⟨l, rfl⟩ := uB (λ i : Int => [ab i]) _ (λ r b => by
  simp only[dh,A3]at b;obtain⟨_,_,rfl,⟨a,rfl,_⟩,rfl⟩:=b;exact⟨a,rfl⟩) rows h
 exact⟨l,rfl⟩
theorem MS{x:PV}(h:A3 (.sl [.sl [.int .i64]]) x):∃cs:List (List Int),x=.seq false 1 (cs.map aq):=by
 rw [A3] at h; obtain ⟨rows, rfl, _, h⟩ := h; obtain ⟨l, rfl⟩ := uB aq _ (λ r b => by
  rw[dh]at b;obtain⟨_,_,rfl,h1,a⟩:=b;obtain⟨l,rfl⟩:=KW h1;rw[dh]at a;subst a;exact⟨l,rfl⟩) rows h
 exact⟨l,rfl⟩
theorem KX{xs:List PV}(h:dh [.int .i64,.sl [.sl [.int .i64]]] xs):∃(v:Int)(L:List (List Int)),xs=[ab v,.seq false 1 (L.map aq)]:=by
 rw[dh]at h;obtain⟨_,_,rfl,h1,h⟩:=h;rw[dh]at h;obtain⟨_,_,rfl,a,h⟩:=h;rw[dh]at h;subst h;rw[A3]at h1;obtain⟨v,rfl,_⟩:=h1;obtain⟨L,rfl⟩:=MS a;exact⟨v,L,rfl⟩
end Go.AX
namespace Go.AX
theorem On{xs:List PV}(h:o7 [(true,[.int .i64,.sl [.sl [.int .i64]]]),(true,[.int .i64,.int .i64,.int .i64]),(false,[.int .i64])] xs):∃(v:Int)(L:List (List Int))(a b c g:Int),xs=[.agg [ab v,.seq false 1 (L.map aq)],.agg [ab a,ab b,ab c],ab g]:=by
 rw[o7]at h;obtain⟨_,_,rfl,h1,h⟩:=h;rw[o7]at h;obtain⟨_,_,rfl,d,h⟩:=h;rw[o7]at h;obtain⟨_,_,rfl,f,h⟩:=h;rw[o7]at h;subst h;simp only[A4]at h1 d f;obtain⟨ys,rfl,h1⟩:=h1;obtain⟨zs,rfl,d⟩:=d;obtain⟨v,L,rfl⟩:=KX h1;simp only[dh,A3]at d f;obtain⟨_,_,rfl,⟨a,rfl,_⟩,_,_,rfl,⟨b,rfl,_⟩,_,_,rfl,⟨c,rfl,_⟩,rfl⟩:=d;obtain⟨_,_,e,⟨g,rfl,_⟩,rfl⟩:=f;cases e
 exact⟨v,L,a,b,c,g,rfl⟩
end Go.AX