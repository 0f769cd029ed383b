/-
  What formulas, tunes and acts are handed in as; and what follows.
-/
import Derived.Test.YtepodadinenmnaaGreatZO
import Derived.Test.YtepodadinenmnaaGreatZN
namespace Go.AX
theorem wJ{α:Type}(f:α->aD)(s:List Sh)(h1:∀r,d8 s r->∃x,r=f x):∀rows:aT,(∀r∈rows,d8 s r)->∃l:List α,rows=l.map f
 |[],_=>⟨[],rfl⟩
 |r::rows,h=>by
  obtain⟨x,rfl⟩:=h1 r (h r VN);obtain⟨l,rfl⟩:=wJ f s h1 rows (λr a=>h r (VG _ a));exact⟨x::l,rfl⟩
theorem NO{x:PV}(h:C0 (.sl [.int .i64]) x):∃l:af,x=.seq false 1 (am l):=by
 simp only [C0] at h; obtain ⟨rows, rfl, _, h⟩ := h; obtain ⟨l, rfl⟩ := wJ (λ i : Int => [ak i]) _ (λ r b => by
  simp only[d8,C0]at b;obtain⟨_,_,rfl,⟨a,rfl,_⟩,rfl⟩:=b;exact⟨a,rfl⟩) rows h
 exact⟨l,rfl⟩
theorem PG{x:PV}(h:C0 (.sl [.sl [.int .i64]]) x):∃cs:au,x=.seq false 1 (cs.map aF):=by
 rw [C0] at h; obtain ⟨rows, rfl, _, h⟩ := h; obtain ⟨l, rfl⟩ := wJ aF _ (λ r b => by
  rw[d8]at b;obtain⟨_,_,rfl,h1,a⟩:=b;obtain⟨l,rfl⟩:=NO h1;rw[d8]at a;subst a;exact⟨l,rfl⟩) rows h
 exact⟨l,rfl⟩
theorem NP{xs:aD}(h:d8 [.int .i64,.sl [.sl [.int .i64]]] xs):∃(v:Int)(L:au),xs=[ak v,.seq false 1 (L.map aF)]:=by
 rw[d8]at h;obtain⟨_,_,rfl,h1,h⟩:=h;rw[d8]at h;obtain⟨_,_,rfl,a,h⟩:=h;rw[d8]at h;subst h;rw[C0]at h1;obtain⟨v,rfl,_⟩:=h1;obtain⟨L,rfl⟩:=PG a;exact⟨v,L,rfl⟩
theorem Q9{xs:aD}(h:qN [(true,[.int .i64,.sl [.sl [.int .i64]]]),(true,[.int .i64,.int .i64,.int .i64]),(false,[.int .i64])] xs):∃(v:Int)(L:au)(a b c g:Int),xs=[.agg [ak v,.seq false 1 (L.map aF)],.agg [ak a,ak b,ak c],ak g]:=by
 rw[qN]at h;obtain⟨_,_,rfl,h1,h⟩:=h;rw[qN]at h;obtain⟨_,_,rfl,d,h⟩:=h;rw[qN]at h;obtain⟨_,_,rfl,f,h⟩:=h;rw[qN]at h;subst h;simp only[C1]at h1 d f;obtain⟨ys,rfl,h1⟩:=h1;obtain⟨zs,rfl,d⟩:=d;obtain⟨v,L,rfl⟩:=NP h1;simp only[d8,C0]at d f;obtain⟨_,_,rfl,⟨a,rfl,_⟩,_,_,rfl,⟨b,rfl,_⟩,_,_,rfl,⟨c,rfl,_⟩,rfl⟩:=d;obtain⟨_,_,e,⟨g,rfl,_⟩,rfl⟩:=f;cases e;exact⟨v,L,a,b,c,g,rfl⟩
end Go.AX
