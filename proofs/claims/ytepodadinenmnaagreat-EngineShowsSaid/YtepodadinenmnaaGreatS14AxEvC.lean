/-
  Contracts: lists that are the same; where a number stands; plays.
  Contracts: plays.
  Contracts: truths of orders and of rows of states.
  Contracts: events.
  Contracts: histories (kinds, what is a process', the same).
  Contracts: histories (a process' events; what is done).
-/
import Derived.Test.YtepodadinenmnaaGreatS14AxMovB
import Derived.Test.YtepodadinenmnaaGreatS14AxCntG
namespace Go.AX
open Go.Proofs
/-! ### Lists that are the same -/
@[simp] theorem vV(k:Nat)(l:List (List Int)):bQ k (l.map az):=by
 rw[iw];intro r a x hx;obtain⟨o,_,rfl⟩:=Qk.1 a;simp[az]at hx;subst hx;exact aS k o
@[simp] theorem Li(r:Nat->Nat->PV)(l:List (List Int)):lz r (l.map az)=l.map az:=by
 rw[cb,Ra];apply Sw;intro x _;simp[az]
/-! ### Where a number stands -/
def An(l:List Int)(n:Int):Int:=gG (λx=>decide (x=n)) l
theorem Ji(l:List Int)(n:Int):0<=An l n↔n∈l:=by
 unfold An gG;cases h:l.findIdx? (λx=>decide (x=n))with
 |none=>
  rw[Sz]at h;refine⟨λa=>absurd a (by decide),λa=>by have:=h n a;simp at this⟩
 |some i=>
  rw[RJ]at h;obtain⟨h1,a,_⟩:=h;refine⟨λ_=>?_,λ_=>by dsimp only;omega⟩;have:l[i]=n:=by simpa using a
  exact this▸Qe h1
theorem xI(l:List Int)(n:Int)(d:l.length<=140737488355328):am Tryz.prog 235 [.seq false 1 (ab l),af n] (λr=>r=.pv (af (An l n))):=by
 refine ao aD Tryz.func235 ?_;simp;refine aH.intro (S:=λ(i:Nat)=>⟨[(0,.pv (.seq false 1 (ab l))),(1,.pv (af n)),(7,.pv (af l.length)),(8,.pv (af i))],[]⟩) (λi=>i<=l.length∧∀j (hj:j<l.length),j<i->(λx=>decide (x=n)) l[j]=false) (λi=>l.length -i) 0 ?_ ?_ ?_
 .exact ai.to (by simp) rfl (by simp) (by simp) (by simp)
 .exact⟨by omega,λj hj h=>by omega⟩
 .intro i ⟨hi,ho⟩
  by_cases h:i<l.length
  .have b:=eq i;simp[h];refine⟨λc=>by rw[An,gx h ho (by simpa using c.symm)],λc=>⟨i+1,by dsimp only;omega,⟨by omega,λj hj a=>?_⟩,ai.to ?_ rfl (by simp) (by simp) (by simp)⟩⟩
   .by_cases e:j=i
    .subst e;simpa usingλe=>c e.symm
    .simpa using ho j hj (by omega)
   .simp[b]
  .simp[h];rw[An,eJ (λj hj=>ho j hj (by omega))]
theorem er(l:List Int)(n:Int)(a:l.length<=140737488355328):am Tryz.prog 168 [.seq false 1 (ab l),af n] (λr=>r=.pv (BL (decide (n∈l)))):=by
 refine ao aD Tryz.func168 ?_;simp;refine ah.intro (xI l n a) ?_;simp[Ji]
theorem Dr(l:List Int)(n:Int)(g:l.length<=140737488355328):am Tryz.prog 123 [.seq false 1 (ab l),af n] (λr=>r=.pv (BL (decide (n∈l)))):=by
 refine ao aD Tryz.func123 ?_;simp;refine aH.intro (S:=λ(i:Nat)=>⟨[(0,.pv (.seq false 1 (ab l))),(1,.pv (af n)),(5,.pv (af i))],[]⟩) (λi=>i<=l.length∧∀j (h:j<l.length),j<i->l[j]≠n) (λi=>l.length -i) 0 ?_ ⟨Qq _,λj _ h=>by omega⟩ ?_
 .exact ai.to (by simp) rfl (by simp) (by simp[ab]) (by simp)
 .rintro i ⟨hi,ho⟩
  by_cases c:i<l.length
  .have b:=eq i;simp[c,ab];refine⟨λd=>?_,λd=>⟨i+1,by dsimp only;omega,⟨by omega,λj h1 f=>?_⟩,ai.to (by simp[b,ab]) rfl (by simp) (by simp[ab]) (by simp)⟩⟩
   .rw[←d];exact Qe c
   .by_cases e:j=i
    .subst e;exact d
    .exact ho j h1 (by omega)
  .have:i=l.length:=by omega
   subst this;simp[ab];intro h;obtain⟨j,hj,a⟩:=Qm h;exact ho j hj hj a
/-! ### Closed objects and operations -/
/-! ### May, proper -/
def ea(l:List Bool):List (List PV):=l.map λb=>[BL b]
@[simp] theorem KD(l:List Bool):(ea l).length=l.length:=by simp[ea]
@[simp] theorem KE(k:Nat)(l:List Bool):bQ k (ea l):=by
 rw[iw];intro r a x hx;obtain⟨o,_,rfl⟩:=Qk.1 a;simp at hx;subst hx;trivial
@[simp] theorem Mx(r:Nat->Nat->PV)(l:List Bool):lz r (ea l)=ea l:=by
 rw[ea,cb,Ra];congr 1
@[simp] theorem Og(l:List Bool)(i:Nat):(ea l)[i]?=l[i]?.map λn=>[BL n]:=by simp[ea]
@[simp] theorem My(l:List Bool)(i:Nat)(h:i<(ea l).length):(ea l)[i]'h=[BL (l[i]'(by simpa using h))]:=by simp[ea]
def xJ(ops:List Op5)(a:List Int)(b:List Bool)(i:Nat):Prop:=(i:Int)∈a∧((ops.getD i default).e≠-1->b.getD i false=true)
instance (ops:List Op5) (order:List Int) (inn:List Bool) (i:Nat):Decidable (xJ ops order inn i):=by unfold xJ;infer_instance
theorem fi{α:Type}[DecidableEq α]:∀(l m:List α),l.Nodup->(∀x∈l,x∈m)->l.length<=m.length
 |[],_,_,_=>Qq _
 |x::l,m,hn,hs=>by
  have hx:=hs x Qy;obtain⟨h1,a⟩:=RQ.1 hn;have:=fi l (m.erase x) a (λy hy=>(List.mem_erase_of_ne (λe=>h1 (by rw[←e];exact hy))).2 (hs y (Qr _ hy)));rw[List.length_erase_of_mem hx]at this;have hp:=List.length_pos_of_mem hx;simp only[QA];omega
def marks(V:Nat)(a:List Nat):List Bool:=(List.range V).map λj=>decide (j∈a)
theorem xM(l:List Bool)(i:Nat)(b:Bool):(ea l).set i [BL b]=ea (l.set i b):=by simp[ea,T6]
@[simp] theorem Oj(l:List Bool):BI (ea l):=by
 rw[om];intro r a;obtain⟨o,_,rfl⟩:=Qk.1 a;exact⟨trivial,trivial⟩
theorem Ds(l:List Int)(i:Nat):List.take i (ab l)=ab (l.take i):=by simp[ab,SI]
def Ol(n:Int)(a:List Int)(k:Nat):Prop:=0<=a.getD k 0∧a.getD k 0<n∧¬a.getD k 0∈a.take k
instance (n:Int) (order:List Int) (k:Nat):Decidable (Ol n order k):=by unfold Ol;infer_instance
def Om(m:Int)(row:List Int)(k:Nat):Prop:=0<=row.getD k 0∧row.getD k 0<m
instance (m:Int) (row:List Int) (k:Nat):Decidable (Om m row k):=by unfold Om;infer_instance
structure Ev where
  w:Int
  p:Int
  n:Int
instance:Inhabited Ev:=⟨⟨0,0,0⟩⟩
theorem Lk:∀x y:Ev,x.w=y.w->x.p=y.p->x.n=y.n->x=y:=λx y h1 a b=>by
 cases x;cases y;simp at h1 a b;subst h1 a b;rfl
instance:DecidableEq Ev:=λa b=>if h:a.w=b.w∧a.p=b.p∧a.n=b.n then .isTrue (Lk a b h.1 h.2.1 h.2.2)else .isFalse λe=>h (by subst e;exact⟨rfl,rfl,rfl⟩)
@[simp] theorem Pp(r:Nat->Nat->PV)(l:List (Int×Int)):lO r (aC fI l)=aC fI l:=by
 rw[w8];unfold aC;rw[Ra];congr 1
@[simp] theorem PM(l:List (Int×Int)):IX (aC fI l):=by
 rw[BJ];intro r a;obtain⟨x,_,rfl⟩:=Qk.1 a;trivial
end Go.AX