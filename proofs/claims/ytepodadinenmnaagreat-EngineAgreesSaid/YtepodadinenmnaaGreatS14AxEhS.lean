/-
  What formulas, tunes and acts are handed in as.
-/
import Derived.Test.YtepodadinenmnaaGreatS14AxEhC
import Derived.Test.YtepodadinenmnaaGreatAxZ
namespace Go.AX
theorem rJ{α:Type}(f:α→List PV)(s:List Sh)(h1:∀r,cO s r→∃x,r=f x):∀rows:List (List PV),(∀r∈rows,cO s r)→∃l:List α,rows=l.map f
 |[],_=>⟨[],rfl⟩
 |r::rows,h=>by
  obtain⟨x,rfl⟩:=h1 r (h r List.mem_cons_self);obtain⟨l,rfl⟩:=rJ f s h1 rows (fun r hr=>h r (List.mem_cons_of_mem _ hr));exact⟨x::l,rfl⟩
theorem xn{x:PV}(h:xl (.sl [.int .i64]) x):∃l:List Int,x=.seq false 1 (af l):=by
 simp only [xl] at h; obtain ⟨rows, rfl, _, h⟩ := h; obtain ⟨l, rfl⟩ := rJ (fun i : Int => [ae i]) _ (fun r hr => by
  simp only[cO,xl]at hr;obtain⟨_,_,rfl,⟨a,rfl,_⟩,rfl⟩:=hr;exact⟨a,rfl⟩) rows h
 exact⟨l,rfl⟩
theorem Hr{x:PV}(h:xl (.sl [.sl [.int .i64]]) x):∃cs:List (List Int),x=.seq false 1 (cs.map aO):=by
 rw [xl] at h; obtain ⟨rows, rfl, _, h⟩ := h; obtain ⟨l, rfl⟩ := rJ aO _ (fun r hr => by
  rw[cO]at hr;obtain⟨_,_,rfl,h1,h2⟩:=hr;obtain⟨l,rfl⟩:=xn h1;rw[cO]at h2;subst h2;exact⟨l,rfl⟩) rows h
 exact⟨l,rfl⟩
theorem FT{xs:List PV}(h:cO [.int .i64,.sl [.sl [.int .i64]]] xs):∃(v:Int)(L:List (List Int)),xs=[ae v,.seq false 1 (L.map aO)]:=by
 rw[cO]at h;obtain⟨_,_,rfl,h1,h⟩:=h;rw[cO]at h;obtain⟨_,_,rfl,h2,h⟩:=h;rw[cO]at h;subst h;rw[xl]at h1;obtain⟨v,rfl,_⟩:=h1;obtain⟨L,rfl⟩:=Hr h2;exact⟨v,L,rfl⟩
theorem IW{xs:List PV}(h:m8 [(true,[.int .i64,.sl [.sl [.int .i64]]]),(true,[.int .i64,.int .i64,.int .i64]),(false,[.sl [.int .i64]])] xs):∃(v:Int)(L:List (List Int))(a b c:Int)(l:List Int),xs=[.agg [ae v,.seq false 1 (L.map aO)],.agg [ae a,ae b,ae c],.seq false 1 (af l)]:=by
 rw[m8]at h;obtain⟨_,_,rfl,h1,h⟩:=h;rw[m8]at h;obtain⟨_,_,rfl,h2,h⟩:=h;rw[m8]at h;obtain⟨_,_,rfl,h3,h⟩:=h;rw[m8]at h;subst h;simp only[xm]at h1 h2 h3;obtain⟨ys,rfl,h1⟩:=h1;obtain⟨zs,rfl,h2⟩:=h2;rw[cO]at h3;obtain⟨t,us,e,h3⟩:=h3;cases e
 obtain⟨v,L,rfl⟩:=FT h1;obtain⟨l,rfl⟩:=xn h3.1;simp only[cO,xl]at h2;obtain⟨_,_,rfl,⟨a,rfl,_⟩,_,_,rfl,⟨b,rfl,_⟩,_,_,rfl,⟨c,rfl,_⟩,rfl⟩:=h2;exact⟨v,L,a,b,c,l,rfl⟩
end Go.AX