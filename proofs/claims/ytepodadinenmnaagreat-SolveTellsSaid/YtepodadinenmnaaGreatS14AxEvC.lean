/-
  Contracts: lists that are the same; where a number stands; plays; and what follows.
-/
import Derived.Test.YtepodadinenmnaaGreatS14AxMovB
import Derived.Test.YtepodadinenmnaaGreatS14AxCntG
namespace Go.AX
open Go.Proofs
/-! ### Lists that are the same -/
@[simp] theorem Lt(k:Nat)(l:List (List Int)):bI k (l.map aq):=by
 rw[iJ];intro r a x hx;obtain⟨o,_,rfl⟩:=S8.1 a;simp[aq]at hx;subst hx;exact aU k o
@[simp] theorem NP(r:Nat->Nat->PV)(l:List (List Int)):jN r (l.map aq)=l.map aq:=by
 rw[bP,TX];apply UW;intro x _;simp[aq]
/-! ### Where a number stands -/
def B3(l:List Int)(n:Int):Int:=iP (λx=>decide (x=n)) l
theorem Lu(l:List Int)(n:Int):0<=B3 l n↔n∈l:=by
 unfold B3 iP;cases h:l.findIdx? (λx=>decide (x=n))with
 |none=>
  rw[VT]at h;refine⟨λa=>absurd a (by decide),λa=>by have:=h n a;simp at this⟩
 |some i=>
  rw[U5]at h;obtain⟨h1,a,_⟩:=h;refine⟨λ_=>?_,λ_=>by dsimp only;omega⟩;have:l[i]=n:=by simpa using a
  exact this▸S5 h1
theorem zf(l:List Int)(n:Int)(d:l.length<=140737488355328):aj Tryz.prog 235 [.seq false 1 (ae l),ab n] (λr=>r=.pv (ab (B3 l n))):=by
 refine ap aD Tryz.func235 ?_;simp;refine ax.intro (S:=λ(i:Nat)=>⟨[(0,.pv (.seq false 1 (ae l))),(1,.pv (ab n)),(7,.pv (ab l.length)),(8,.pv (ab i))],[]⟩) (λi=>i<=l.length∧∀j (hj:j<l.length),j<i->(λx=>decide (x=n)) l[j]=false) (λi=>l.length -i) 0 ?_ ?_ ?_
 .exact ah.to (by simp) rfl (by simp) (by simp) (by simp)
 .exact⟨by omega,λj hj h=>by omega⟩
 .intro i ⟨hi,ho⟩
  by_cases h:i<l.length
  .have b:=dv i;simp[h];refine⟨λc=>by rw[B3,eU h ho (by simpa using c.symm)],λc=>⟨i+1,by dsimp only;omega,⟨by omega,λj hj a=>?_⟩,ah.to ?_ rfl (by simp) (by simp) (by simp)⟩⟩
   .by_cases e:j=i
    .subst e;simpa usingλe=>c e.symm
    .simpa using ho j hj (by omega)
   .simp[b]
  .simp[h];rw[B3,cM (λj hj=>ho j hj (by omega))]
theorem jo(l:List Int)(n:Int)(a:l.length<=140737488355328):aj Tryz.prog 168 [.seq false 1 (ae l),ab n] (λr=>r=.pv (BL (decide (n∈l)))):=by
 refine ap aD Tryz.func168 ?_;simp;refine ai.intro (zf l n a) ?_;simp[Lu]
theorem jT(l:List Int)(n:Int)(g:l.length<=140737488355328):aj Tryz.prog 123 [.seq false 1 (ae l),ab n] (λr=>r=.pv (BL (decide (n∈l)))):=by
 refine ap aD Tryz.func123 ?_;simp;refine ax.intro (S:=λ(i:Nat)=>⟨[(0,.pv (.seq false 1 (ae l))),(1,.pv (ab n)),(5,.pv (ab i))],[]⟩) (λi=>i<=l.length∧∀j (h:j<l.length),j<i->l[j]≠n) (λi=>l.length -i) 0 ?_ ⟨Tf _,λj _ h=>by omega⟩ ?_
 .exact ah.to (by simp) rfl (by simp) (by simp[ae]) (by simp)
 .rintro i ⟨hi,ho⟩
  by_cases c:i<l.length
  .have b:=dv i;simp[c,ae];refine⟨λd=>?_,λd=>⟨i+1,by dsimp only;omega,⟨by omega,λj h1 f=>?_⟩,ah.to (by simp[b,ae]) rfl (by simp) (by simp[ae]) (by simp)⟩⟩
   .rw[←d];exact S5 c
   .by_cases e:j=i
    .subst e;exact d
    .exact ho j h1 (by omega)
  .have:i=l.length:=by omega
   subst this;simp[ae];intro h;obtain⟨j,hj,a⟩:=Tc h;exact ho j hj hj a
/-! ### Closed objects and operations -/
/-! ### May, proper -/
def de(l:List Bool):List (List PV):=l.map λb=>[BL b]
@[simp] theorem Nd(l:List Bool):(de l).length=l.length:=by simp[de]
@[simp] theorem Nf(k:Nat)(l:List Bool):bI k (de l):=by
 rw[iJ];intro r a x hx;obtain⟨o,_,rfl⟩:=S8.1 a;simp at hx;subst hx;trivial
@[simp] theorem OL(r:Nat->Nat->PV)(l:List Bool):jN r (de l)=de l:=by
 rw[de,bP,TX];congr 1
@[simp] theorem QD(l:List Bool)(i:Nat):(de l)[i]?=l[i]?.map λn=>[BL n]:=by simp[de]
@[simp] theorem OM(l:List Bool)(i:Nat)(h:i<(de l).length):(de l)[i]'h=[BL (l[i]'(by simpa using h))]:=by simp[de]
def zg(ops:List Op5)(a:List Int)(b:List Bool)(i:Nat):Prop:=(i:Int)∈a∧((ops.getD i default).e≠-1->b.getD i false=true)
instance (ops:List Op5) (order:List Int) (inn:List Bool) (i:Nat):Decidable (zg ops order inn i):=by unfold zg;infer_instance
theorem dq{α:Type}[DecidableEq α]:∀(l m:List α),l.Nodup->(∀x∈l,x∈m)->l.length<=m.length
 |[],_,_,_=>Tf _
 |x::l,m,hn,hs=>by
  have hx:=hs x To;obtain⟨h1,a⟩:=UA.1 hn;have:=dq l (m.erase x) a (λy hy=>(List.mem_erase_of_ne (λe=>h1 (by rw[←e];exact hy))).2 (hs y (Tl _ hy)));rw[List.length_erase_of_mem hx]at this;have hp:=List.length_pos_of_mem hx;simp only[Ty];omega
def marks(V:Nat)(a:List Nat):List Bool:=(List.range V).map λj=>decide (j∈a)
theorem zj(l:List Bool)(i:Nat)(b:Bool):(de l).set i [BL b]=de (l.set i b):=by simp[de,XB]
@[simp] theorem QJ(l:List Bool):Bp (de l):=by
 rw[rT];intro r a;obtain⟨o,_,rfl⟩:=S8.1 a;exact⟨trivial,trivial⟩
theorem FK(l:List Int)(i:Nat):List.take i (ae l)=ae (l.take i):=by simp[ae,UB]
def QK(n:Int)(a:List Int)(k:Nat):Prop:=0<=a.getD k 0∧a.getD k 0<n∧¬a.getD k 0∈a.take k
instance (n:Int) (order:List Int) (k:Nat):Decidable (QK n order k):=by unfold QK;infer_instance
def QL(m:Int)(row:List Int)(k:Nat):Prop:=0<=row.getD k 0∧row.getD k 0<m
instance (m:Int) (row:List Int) (k:Nat):Decidable (QL m row k):=by unfold QL;infer_instance
structure Ev where
  w:Int
  p:Int
  n:Int
instance:Inhabited Ev:=⟨⟨0,0,0⟩⟩
theorem NR:∀x y:Ev,x.w=y.w->x.p=y.p->x.n=y.n->x=y:=λx y h1 a b=>by
 cases x;cases y;simp at h1 a b;subst h1 a b;rfl
instance:DecidableEq Ev:=λa b=>if h:a.w=b.w∧a.p=b.p∧a.n=b.n then .isTrue (NR a b h.1 h.2.1 h.2.2)else .isFalse λe=>h (by subst e;exact⟨rfl,rfl,rfl⟩)
@[simp] theorem R0(r:Nat->Nat->PV)(l:List (Int×Int)):sF r (aZ fI l)=aZ fI l:=by
 rw[yy];unfold aZ;rw[TX];congr 1
@[simp] theorem Sl(l:List (Int×Int)):Lc (aZ fI l):=by
 rw[Du];intro r a;obtain⟨x,_,rfl⟩:=S8.1 a;trivial
end Go.AX