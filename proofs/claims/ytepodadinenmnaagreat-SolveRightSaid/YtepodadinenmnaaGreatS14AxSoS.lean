/-
  What formulas, tunes and acts are handed in as; and what follows.
-/
import Derived.Test.YtepodadinenmnaaGreatS14AxEhC
import Derived.Test.YtepodadinenmnaaGreatAxZ
import Derived.Test.YtepodadinenmnaaGreatS14AxRdB
namespace Go.AX
theorem uF{α:Type}(f:α->List PV)(s:List Sh)(h1:∀r,du s r->∃x,r=f x):∀rows:List (List PV),(∀r∈rows,du s r)->∃l:List α,rows=l.map f
 |[],_=>⟨[],rfl⟩
 |r::rows,h=>by
  obtain⟨x,rfl⟩:=h1 r (h r Tj);obtain⟨l,rfl⟩:=uF f s h1 rows (λr a=>h r (Tf _ a));exact⟨x::l,rfl⟩
theorem KK{x:PV}(h:AT (.sl [.int .i64]) x):∃l:List Int,x=.seq false 1 (ae l):=by
 simp only [AT] at h; obtain ⟨rows, rfl, _, h⟩ := h; obtain ⟨l, rfl⟩ := uF (λ i : Int => [ab i]) _ (λ r b => by
  simp only[du,AT]at b;obtain⟨_,_,rfl,⟨a,rfl,_⟩,rfl⟩:=b;exact⟨a,rfl⟩) rows h
 exact⟨l,rfl⟩
theorem MO{x:PV}(h:AT (.sl [.sl [.int .i64]]) x):∃cs:List (List Int),x=.seq false 1 (cs.map aw):=by
 rw [AT] at h; obtain ⟨rows, rfl, _, h⟩ := h; obtain ⟨l, rfl⟩ := uF aw _ (λ r b => by
  rw[du]at b;obtain⟨_,_,rfl,h1,a⟩:=b;obtain⟨l,rfl⟩:=KK h1;rw[du]at a;subst a;exact⟨l,rfl⟩) rows h
 exact⟨l,rfl⟩
theorem KL{xs:List PV}(h:du [.int .i64,.sl [.sl [.int .i64]]] xs):∃(v:Int)(L:List (List Int)),xs=[ab v,.seq false 1 (L.map aw)]:=by
 rw[du]at h;obtain⟨_,_,rfl,h1,h⟩:=h;rw[du]at h;obtain⟨_,_,rfl,a,h⟩:=h;rw[du]at h;subst h;rw[AT]at h1;obtain⟨v,rfl,_⟩:=h1;obtain⟨L,rfl⟩:=MO a;exact⟨v,L,rfl⟩
end Go.AX
namespace Go.AX
theorem Oj{xs:List PV}(h:pc [(true,[.int .i64,.sl [.sl [.int .i64]]]),(true,[.int .i64,.int .i64,.int .i64]),(false,[.int .i64])] xs):∃(v:Int)(L:List (List Int))(a b c g:Int),xs=[.agg [ab v,.seq false 1 (L.map aw)],.agg [ab a,ab b,ab c],ab g]:=by
 rw[pc]at h;obtain⟨_,_,rfl,h1,h⟩:=h;rw[pc]at h;obtain⟨_,_,rfl,d,h⟩:=h;rw[pc]at h;obtain⟨_,_,rfl,f,h⟩:=h;rw[pc]at h;subst h;simp only[AU]at h1 d f;obtain⟨ys,rfl,h1⟩:=h1;obtain⟨zs,rfl,d⟩:=d;obtain⟨v,L,rfl⟩:=KL h1;simp only[du,AT]at d f;obtain⟨_,_,rfl,⟨a,rfl,_⟩,_,_,rfl,⟨b,rfl,_⟩,_,_,rfl,⟨c,rfl,_⟩,rfl⟩:=d;obtain⟨_,_,e,⟨g,rfl,_⟩,rfl⟩:=f;cases e
 exact⟨v,L,a,b,c,g,rfl⟩
end Go.AX