/-
  What formulas, tunes and acts are handed in as.
-/
import Derived.Test.YtepodadinenmnaaGreatS14AxEhC
import Derived.Test.YtepodadinenmnaaGreatAxZ
namespace Go.AX
theorem tf{α:Type}(f:α->List PV)(s:List Sh)(h1:∀r,cZ s r->∃x,r=f x):∀rows:List (List PV),(∀r∈rows,cZ s r)->∃l:List α,rows=l.map f
 |[],_=>⟨[],rfl⟩
 |r::rows,h=>by
  obtain⟨x,rfl⟩:=h1 r (h r Qy);obtain⟨l,rfl⟩:=tf f s h1 rows (λr a=>h r (Qr _ a));exact⟨x::l,rfl⟩
theorem zo{x:PV}(h:zm (.sl [.int .i64]) x):∃l:List Int,x=.seq false 1 (ab l):=by
 simp only [zm] at h; obtain ⟨rows, rfl, _, h⟩ := h; obtain ⟨l, rfl⟩ := tf (λ i : Int => [af i]) _ (λ r b => by
  simp only[cZ,zm]at b;obtain⟨_,_,rfl,⟨a,rfl,_⟩,rfl⟩:=b;exact⟨a,rfl⟩) rows h
 exact⟨l,rfl⟩
theorem Kr{x:PV}(h:zm (.sl [.sl [.int .i64]]) x):∃cs:List (List Int),x=.seq false 1 (cs.map az):=by
 rw [zm] at h; obtain ⟨rows, rfl, _, h⟩ := h; obtain ⟨l, rfl⟩ := tf az _ (λ r b => by
  rw[cZ]at b;obtain⟨_,_,rfl,h1,a⟩:=b;obtain⟨l,rfl⟩:=zo h1;rw[cZ]at a;subst a;exact⟨l,rfl⟩) rows h
 exact⟨l,rfl⟩
theorem IK{xs:List PV}(h:cZ [.int .i64,.sl [.sl [.int .i64]]] xs):∃(v:Int)(L:List (List Int)),xs=[af v,.seq false 1 (L.map az)]:=by
 rw[cZ]at h;obtain⟨_,_,rfl,h1,h⟩:=h;rw[cZ]at h;obtain⟨_,_,rfl,a,h⟩:=h;rw[cZ]at h;subst h;rw[zm]at h1;obtain⟨v,rfl,_⟩:=h1;obtain⟨L,rfl⟩:=Kr a;exact⟨v,L,rfl⟩
theorem LZ{xs:List PV}(h:og [(true,[.int .i64,.sl [.sl [.int .i64]]]),(true,[.int .i64,.int .i64,.int .i64]),(false,[.sl [.int .i64]])] xs):∃(v:Int)(L:List (List Int))(a b c:Int)(l:List Int),xs=[.agg [af v,.seq false 1 (L.map az)],.agg [af a,af b,af c],.seq false 1 (ab l)]:=by
 rw[og]at h;obtain⟨_,_,rfl,h1,h⟩:=h;rw[og]at h;obtain⟨_,_,rfl,d,h⟩:=h;rw[og]at h;obtain⟨_,_,rfl,f,h⟩:=h;rw[og]at h;subst h;simp only[zn]at h1 d f;obtain⟨ys,rfl,h1⟩:=h1;obtain⟨zs,rfl,d⟩:=d;rw[cZ]at f;obtain⟨t,g,e,f⟩:=f;cases e
 obtain⟨v,L,rfl⟩:=IK h1;obtain⟨l,rfl⟩:=zo f.1;simp only[cZ,zm]at d;obtain⟨_,_,rfl,⟨a,rfl,_⟩,_,_,rfl,⟨b,rfl,_⟩,_,_,rfl,⟨c,rfl,_⟩,rfl⟩:=d;exact⟨v,L,a,b,c,l,rfl⟩
end Go.AX