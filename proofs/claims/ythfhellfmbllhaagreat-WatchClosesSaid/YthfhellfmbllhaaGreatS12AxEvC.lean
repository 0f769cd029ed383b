/-
  Contracts: lists that are the same; where a number stands; plays.
  Contracts: plays.
  Contracts: truths of orders and of rows of states.
  Contracts: events.
  Contracts: histories (kinds, what is a process', the same).
  Contracts: histories (a process' events; what is done).
-/
import Derived.Test.YthfhellfmbllhaaGreatS12AxMovB
import Derived.Test.YthfhellfmbllhaaGreatS12AxCntG
namespace Go.AX
open Go.Proofs
/-! ### Lists that are the same -/
@[simp] theorem belowR_crowF (k:Nat) (l:List (List Int)):belowR k (l.map crowF):=by
 rw[belowR_iff];intro r hr x hx;obtain⟨o,_,rfl⟩:=List.mem_map.1 hr;simp[crowF]at hx;subst hx;exact belowR_irow k o
@[simp] theorem frzR_crowF (r:Nat→Nat→PV) (l:List (List Int)):frzR r (l.map crowF)=l.map crowF:=by
 rw[frzR_map,List.map_map];apply List.map_congr_left;intro x _;simp[crowF]
theorem eq_of_get {α:Type} {a b:List α} (hl:a.length=b.length) (h:∀j (h1:j<a.length),a[j]=b[j]'(hl▸h1)):a=b:=List.ext_getElem hl fun j h1 _=>h j h1
theorem sameInts_ok (a b:List Int) (hl:a.length≤140737488355328):APure Tryz.prog 10 [.seq false 1 (irow a),.seq false 1 (irow b)] (fun r=>r=.pv (BL (decide (a=b)))):=by
 refine apure1 hmo Tryz.func10 (by kernel_rfl) rfl rfl (by kernel_rfl) (Nat.le_of_ble_eq_true rfl) ?_;simp;refine⟨fun h=>fun e=>h (by rw[e]),fun h=>?_⟩;have hl2:a.length=b.length:=by omega
 refine ALoop.intro (S:=fun(i:Nat)=>⟨[(0,.pv (.seq false 1 (irow a))),(1,.pv (.seq false 1 (irow b))),(5,.pv (I64 i))],[]⟩) (fun i=>i≤a.length∧∀j (h1:j<a.length),j<i→a[j]=b[j]'(hl2▸h1)) (fun i=>a.length -i) 0 ?_ ?_ ?_
 ·exact Weak.to (by simp) rfl (by simp) (by simp) (by simp)
 ·exact⟨by omega,fun j _ hj=>by omega⟩
 ·intro i ⟨hi,ho⟩
  by_cases h3:i<a.length
  ·have hw:w64 ((i:Int)+1)=((i+1:Nat):Int):=by rw[w64_id (by omega) (by omega)];omega
   have h4:i<b.length:=by omega
   simp[h3,h4];refine⟨fun c=>fun e=>c (by subst e;rfl),fun c=>⟨i+1,by dsimp only;omega,⟨by omega,fun j h1 hj=>?_⟩,Weak.to ?_ rfl (by simp) (by simp) (by simp)⟩⟩
   ·by_cases e:j=i
    ·subst e;exact c
    ·exact ho j h1 (by omega)
   ·simp[hw]
  ·simp[h3];exact eq_of_get hl2 fun j h1=>ho j h1 (by omega)
/-! ### Where a number stands -/
def posS (l:List Int) (n:Int):Int:=idxS (fun x=>decide (x=n)) l
theorem index_ok (l:List Int) (n:Int) (hl:l.length≤140737488355328):APure Tryz.prog 139 [.seq false 1 (irow l),I64 n] (fun r=>r=.pv (I64 (posS l n))):=by
 refine apure1 hmo Tryz.func139 (by kernel_rfl) rfl rfl (by kernel_rfl) (Nat.le_of_ble_eq_true rfl) ?_;simp;refine ALoop.intro (S:=fun(i:Nat)=>⟨[(0,.pv (.seq false 1 (irow l))),(1,.pv (I64 n)),(7,.pv (I64 l.length)),(8,.pv (I64 i))],[]⟩) (fun i=>i≤l.length∧∀j (hj:j<l.length),j<i→(fun x=>decide (x=n)) l[j]=false) (fun i=>l.length -i) 0 ?_ ?_ ?_
 ·exact Weak.to (by simp) rfl (by simp) (by simp) (by simp)
 ·exact⟨by omega,fun j hj h=>by omega⟩
 ·intro i ⟨hi,ho⟩
  by_cases h:i<l.length
  ·have hw:w64 ((i:Int)+1)=((i+1:Nat):Int):=by rw[w64_id (by omega) (by omega)];omega
   simp[h];refine⟨fun c=>by rw[posS,idxS_at h ho (by simpa using c.symm)],fun c=>⟨i+1,by dsimp only;omega,⟨by omega,fun j hj hji=>?_⟩,Weak.to ?_ rfl (by simp) (by simp) (by simp)⟩⟩
   ·by_cases e:j=i
    ·subst e;simpa using fun e=>c e.symm
    ·simpa using ho j hj (by omega)
   ·simp[hw]
  ·simp[h];rw[posS,idxS_none (fun j hj=>ho j hj (by omega))]
theorem refHas_ok (l:List Int) (n:Int) (hl:l.length≤140737488355328):APure Tryz.prog 49 [.seq false 1 (irow l),I64 n] (fun r=>r=.pv (BL (decide (n∈l)))):=by
 refine apure1 hmo Tryz.func49 (by kernel_rfl) rfl rfl (by kernel_rfl) (Nat.le_of_ble_eq_true rfl) ?_;simp;refine ALoop.intro (S:=fun(i:Nat)=>⟨[(0,.pv (.seq false 1 (irow l))),(1,.pv (I64 n)),(5,.pv (I64 i))],[]⟩) (fun i=>i≤l.length∧∀j (h:j<l.length),j<i→l[j]≠n) (fun i=>l.length -i) 0 ?_ ⟨Nat.zero_le _,fun j _ h=>by omega⟩ ?_
 ·exact Weak.to (by simp) rfl (by simp) (by simp[irow]) (by simp)
 ·rintro i ⟨hi,ho⟩
  by_cases c:i<l.length
  ·have hw:w64 ((i:Int)+1)=((i+1:Nat):Int):=by rw[w64_id (by omega) (by omega)];omega
   simp[c,irow];refine⟨fun d=>?_,fun d=>⟨i+1,by dsimp only;omega,⟨by omega,fun j h1 h2=>?_⟩,Weak.to (by simp[hw,irow]) rfl (by simp) (by simp[irow]) (by simp)⟩⟩
   ·rw[←d];exact List.getElem_mem c
   ·by_cases e:j=i
    ·subst e;exact d
    ·exact ho j h1 (by omega)
  ·have:i=l.length:=by omega
   subst this;simp[irow];intro h;obtain⟨j,hj,he⟩:=List.getElem_of_mem h;exact ho j hj hj he
/-! ### Closed objects and operations -/
/-! ### May, proper -/
def properAt (ops:List Op5) (order:List Int) (inn:List Bool) (i:Nat):Prop:=(i:Int)∈order∧((ops.getD i default).e≠-1→inn.getD i false=true)
instance (ops:List Op5) (order:List Int) (inn:List Bool) (i:Nat):Decidable (properAt ops order inn i):=by unfold properAt;infer_instance
theorem len_of_sub {α:Type} [DecidableEq α]:∀(l m:List α),l.Nodup→(∀x∈l,x∈m)→l.length≤m.length
 |[],_,_,_=>Nat.zero_le _
 |x::l,m,hn,hs=>by
  have hx:=hs x List.mem_cons_self;obtain⟨h1,h2⟩:=List.nodup_cons.1 hn;have:=len_of_sub l (m.erase x) h2 (fun y hy=>(List.mem_erase_of_ne (fun e=>h1 (by rw[←e];exact hy))).2 (hs y (List.mem_cons_of_mem _ hy)));rw[List.length_erase_of_mem hx]at this;have hp:=List.length_pos_of_mem hx;simp only[List.length_cons];omega
def marks (V:Nat) (idx:List Nat):List Bool:=(List.range V).map fun j=>decide (j∈idx)
def plAt (n:Int) (order:List Int) (k:Nat):Prop:=0≤order.getD k 0∧order.getD k 0<n∧¬order.getD k 0∈order.take k
instance (n:Int) (order:List Int) (k:Nat):Decidable (plAt n order k):=by unfold plAt;infer_instance
def stAt (m:Int) (row:List Int) (k:Nat):Prop:=0≤row.getD k 0∧row.getD k 0<m
instance (m:Int) (row:List Int) (k:Nat):Decidable (stAt m row k):=by unfold stAt;infer_instance
structure Ev where
  w:Int
  p:Int
  n:Int
instance:Inhabited Ev:=⟨⟨0,0,0⟩⟩
theorem ev_ext:∀x y:Ev,x.w=y.w→x.p=y.p→x.n=y.n→x=y:=fun x y h1 h2 h3=>by
 cases x;cases y;simp at h1 h2 h3;subst h1 h2 h3;rfl
instance:DecidableEq Ev:=fun a b=>if h:a.w=b.w∧a.p=b.p∧a.n=b.n then .isTrue (ev_ext a b h.1 h.2.1 h.2.2)else .isFalse fun e=>h (by subst e;exact⟨rfl,rfl,rfl⟩)
@[simp] theorem nwE_fI (l:List (Int×Int)):nwE (mapE fI l):=by
 rw[nwE_iff];intro r hr;obtain⟨x,_,rfl⟩:=List.mem_map.1 hr;trivial
end Go.AX