/-
  Contracts: lists that are the same; where a number stands; plays; and what follows.
-/
import Derived.Test.YtepodadinenmnaaGreatS14AxMovB
import Derived.Test.YtepodadinenmnaaGreatS14AxCntG
namespace Go.AX
open Go.Proofs
/-! ### Lists that are the same -/
@[simp] theorem pC(k:Nat)(l:List (List Int)):bL k (l.map aw):=by
 rw[iS];intro r a x hx;obtain⟨o,_,rfl⟩:=SY.1 a;simp[aw]at hx;subst hx;exact aT k o
@[simp] theorem NJ(r:Nat->Nat->PV)(l:List (List Int)):l4 r (l.map aw)=l.map aw:=by
 rw[cm,TT];apply Vb;intro x _;simp[aw]
/-! ### Where a number stands -/
def BV(l:List Int)(n:Int):Int:=gp (λx=>decide (x=n)) l
theorem Lj(l:List Int)(n:Int):0<=BV l n↔n∈l:=by
 unfold BV gp;cases h:l.findIdx? (λx=>decide (x=n))with
 |none=>
  rw[Vr]at h;refine⟨λa=>absurd a (by decide),λa=>by have:=h n a;simp at this⟩
 |some i=>
  rw[UF]at h;obtain⟨h1,a,_⟩:=h;refine⟨λ_=>?_,λ_=>by dsimp only;omega⟩;have:l[i]=n:=by simpa using a
  exact this▸SS h1
theorem yZ(l:List Int)(n:Int)(d:l.length<=140737488355328):ak Tryz.prog 235 [.seq false 1 (ae l),ab n] (λr=>r=.pv (ab (BV l n))):=by
 refine ap aC Tryz.func235 ?_;simp;refine aF.intro (S:=λ(i:Nat)=>⟨[(0,.pv (.seq false 1 (ae l))),(1,.pv (ab n)),(7,.pv (ab l.length)),(8,.pv (ab i))],[]⟩) (λi=>i<=l.length∧∀j (hj:j<l.length),j<i->(λx=>decide (x=n)) l[j]=false) (λi=>l.length -i) 0 ?_ ?_ ?_
 .exact ai.to (by simp) rfl (by simp) (by simp) (by simp)
 .exact⟨by omega,λj hj h=>by omega⟩
 .intro i ⟨hi,ho⟩
  by_cases h:i<l.length
  .have b:=dZ i;simp[h];refine⟨λc=>by rw[BV,d9 h ho (by simpa using c.symm)],λc=>⟨i+1,by dsimp only;omega,⟨by omega,λj hj a=>?_⟩,ai.to ?_ rfl (by simp) (by simp) (by simp)⟩⟩
   .by_cases e:j=i
    .subst e;simpa usingλe=>c e.symm
    .simpa using ho j hj (by omega)
   .simp[b]
  .simp[h];rw[BV,cJ (λj hj=>ho j hj (by omega))]
theorem eF(l:List Int)(n:Int)(a:l.length<=140737488355328):ak Tryz.prog 168 [.seq false 1 (ae l),ab n] (λr=>r=.pv (BL (decide (n∈l)))):=by
 refine ap aC Tryz.func168 ?_;simp;refine ah.intro (yZ l n a) ?_;simp[Lj]
/-! ### Closed objects and operations -/
/-! ### May, proper -/
def cT(l:List Bool):List (List PV):=l.map λb=>[BL b]
@[simp] theorem M8(l:List Bool):(cT l).length=l.length:=by simp[cT]
@[simp] theorem M9(k:Nat)(l:List Bool):bL k (cT l):=by
 rw[iS];intro r a x hx;obtain⟨o,_,rfl⟩:=SY.1 a;simp at hx;subst hx;trivial
@[simp] theorem OH(r:Nat->Nat->PV)(l:List Bool):l4 r (cT l)=cT l:=by
 rw[cT,cm,TT];congr 1
@[simp] theorem Qw(l:List Bool)(i:Nat):(cT l)[i]?=l[i]?.map λn=>[BL n]:=by simp[cT]
@[simp] theorem OI(l:List Bool)(i:Nat)(h:i<(cT l).length):(cT l)[i]'h=[BL (l[i]'(by simpa using h))]:=by simp[cT]
def za(ops:List Op5)(a:List Int)(b:List Bool)(i:Nat):Prop:=(i:Int)∈a∧((ops.getD i default).e≠-1->b.getD i false=true)
instance (ops:List Op5) (order:List Int) (inn:List Bool) (i:Nat):Decidable (za ops order inn i):=by unfold za;infer_instance
theorem dx{α:Type}[DecidableEq α]:∀(l m:List α),l.Nodup->(∀x∈l,x∈m)->l.length<=m.length
 |[],_,_,_=>Te _
 |x::l,m,hn,hs=>by
  have hx:=hs x Tj;obtain⟨h1,a⟩:=UE.1 hn;have:=dx l (m.erase x) a (λy hy=>(List.mem_erase_of_ne (λe=>h1 (by rw[←e];exact hy))).2 (hs y (Tf _ hy)));rw[List.length_erase_of_mem hx]at this;have hp:=List.length_pos_of_mem hx;simp only[To];omega
def marks(V:Nat)(a:List Nat):List Bool:=(List.range V).map λj=>decide (j∈a)
theorem zc(l:List Bool)(i:Nat)(b:Bool):(cT l).set i [BL b]=cT (l.set i b):=by simp[cT,WO]
@[simp] theorem QA(l:List Bool):A3 (cT l):=by
 rw[pi];intro r a;obtain⟨o,_,rfl⟩:=SY.1 a;exact⟨trivial,trivial⟩
theorem Fs(l:List Int)(i:Nat):List.take i (ae l)=ae (l.take i):=by simp[ae,U3]
def QB(n:Int)(a:List Int)(k:Nat):Prop:=0<=a.getD k 0∧a.getD k 0<n∧¬a.getD k 0∈a.take k
instance (n:Int) (order:List Int) (k:Nat):Decidable (QB n order k):=by unfold QB;infer_instance
def QC(m:Int)(row:List Int)(k:Nat):Prop:=0<=row.getD k 0∧row.getD k 0<m
instance (m:Int) (row:List Int) (k:Nat):Decidable (QC m row k):=by unfold QC;infer_instance
structure Ev where
  w:Int
  p:Int
  n:Int
instance:Inhabited Ev:=⟨⟨0,0,0⟩⟩
theorem NL:∀x y:Ev,x.w=y.w->x.p=y.p->x.n=y.n->x=y:=λx y h1 a b=>by
 cases x;cases y;simp at h1 a b;subst h1 a b;rfl
instance:DecidableEq Ev:=λa b=>if h:a.w=b.w∧a.p=b.p∧a.n=b.n then .isTrue (NL a b h.1 h.2.1 h.2.2)else .isFalse λe=>h (by subst e;exact⟨rfl,rfl,rfl⟩)
@[simp] theorem RO(r:Nat->Nat->PV)(l:List (Int×Int)):mq r (aG fI l)=aG fI l:=by
 rw[yr];unfold aG;rw[TT];congr 1
@[simp] theorem Sa(l:List (Int×Int)):K2 (aG fI l):=by
 rw[Dg];intro r a;obtain⟨x,_,rfl⟩:=SY.1 a;trivial
end Go.AX