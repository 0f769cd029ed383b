/-
  Contracts: lists that are the same; where a number stands; plays.
  Contracts: plays.
  Contracts: truths of orders and of rows of states.
  Contracts: events.
  Contracts: histories (kinds, what is a process', the same).
  Contracts: histories (a process' events; what is done).
-/
import Derived.Test.YtepodadinenmnaaGreatS14AxMovB
import Derived.Test.YtepodadinenmnaaGreatS14AxCntG
namespace Go.AX
open Go.Proofs
/-! ### Lists that are the same -/
@[simp] theorem Gq(k:Nat)(l:List (List Int)):bP k (l.map aO):=by
 rw[gE];intro r hr x hx;obtain⟨o,_,rfl⟩:=List.mem_map.1 hr;simp[aO]at hx;subst hx;exact bc k o
@[simp] theorem In(r:Nat→Nat→PV)(l:List (List Int)):ke r (l.map aO)=l.map aO:=by
 rw[cd,List.map_map];apply List.map_congr_left;intro x _;simp[aO]
/-! ### Where a number stands -/
def ye(l:List Int)(n:Int):Int:=jX (fun x=>decide (x=n)) l
theorem Gs(l:List Int)(n:Int):0≤ye l n↔n∈l:=by
 unfold ye jX;cases h:l.findIdx? (fun x=>decide (x=n))with
 |none=>
  rw[List.findIdx?_eq_none_iff]at h;refine⟨fun h2=>absurd h2 (by decide),fun h2=>by have:=h n h2;simp at this⟩
 |some i=>
  rw[List.findIdx?_eq_some_iff_getElem]at h;obtain⟨h1,h2,_⟩:=h;refine⟨fun _=>?_,fun _=>by dsimp only;omega⟩;have:l[i]=n:=by simpa using h2
  exact this▸List.getElem_mem h1
theorem vU(l:List Int)(n:Int)(hl:l.length≤140737488355328):ao Tryz.prog 235 [.seq false 1 (af l),ae n] (fun r=>r=.pv (ae (ye l n))):=by
 refine aw aG Tryz.func235 (by kernel_rfl) rfl rfl (by kernel_rfl) (Nat.le_of_ble_eq_true rfl) ?_;simp;refine aH.intro (S:=fun(i:Nat)=>⟨[(0,.pv (.seq false 1 (af l))),(1,.pv (ae n)),(7,.pv (ae l.length)),(8,.pv (ae i))],[]⟩) (fun i=>i≤l.length∧∀j (hj:j<l.length),j<i→(fun x=>decide (x=n)) l[j]=false) (fun i=>l.length -i) 0 ?_ ?_ ?_
 ·exact aj.to (by simp) rfl (by simp) (by simp) (by simp)
 ·exact⟨by omega,fun j hj h=>by omega⟩
 ·intro i ⟨hi,ho⟩
  by_cases h:i<l.length
  ·have hw:aM ((i:Int)+1)=((i+1:Nat):Int):=by rw[ah (by omega) (by omega)];omega
   simp[h];refine⟨fun c=>by rw[ye,fO h ho (by simpa using c.symm)],fun c=>⟨i+1,by dsimp only;omega,⟨by omega,fun j hj hji=>?_⟩,aj.to ?_ rfl (by simp) (by simp) (by simp)⟩⟩
   ·by_cases e:j=i
    ·subst e;simpa using fun e=>c e.symm
    ·simpa using ho j hj (by omega)
   ·simp[hw]
  ·simp[h];rw[ye,eb (fun j hj=>ho j hj (by omega))]
theorem ir(l:List Int)(n:Int)(hl:l.length≤140737488355328):ao Tryz.prog 168 [.seq false 1 (af l),ae n] (fun r=>r=.pv (BL (decide (n∈l)))):=by
 refine aw aG Tryz.func168 (by kernel_rfl) rfl rfl (by kernel_rfl) (Nat.le_of_ble_eq_true rfl) ?_;simp;refine am.intro (vU l n hl) (by simp) ?_;simp[Gs]
/-! ### Closed objects and operations -/
/-! ### May, proper -/
def cF(l:List Bool):List (List PV):=l.map fun b=>[BL b]
@[simp] theorem HC(l:List Bool):(cF l).length=l.length:=by simp[cF]
@[simp] theorem HD(k:Nat)(l:List Bool):bP k (cF l):=by
 rw[gE];intro r hr x hx;obtain⟨o,_,rfl⟩:=List.mem_map.1 hr;simp at hx;subst hx;trivial
@[simp] theorem Jj(r:Nat→Nat→PV)(l:List Bool):ke r (cF l)=cF l:=by
 rw[cF,cd,List.map_map];congr 1
@[simp] theorem KU(l:List Bool)(i:Nat):(cF l)[i]?=l[i]?.map fun n=>[BL n]:=by simp[cF]
@[simp] theorem Jk(l:List Bool)(i:Nat)(h:i<(cF l).length):(cF l)[i]'h=[BL (l[i]'(by simpa using h))]:=by simp[cF]
def vV(ops:List Op5)(order:List Int)(inn:List Bool)(i:Nat):Prop:=(i:Int)∈order∧((ops.getD i default).e≠-1→inn.getD i false=true)
instance (ops:List Op5) (order:List Int) (inn:List Bool) (i:Nat):Decidable (vV ops order inn i):=by unfold vV;infer_instance
theorem eG{α:Type}[DecidableEq α]:∀(l m:List α),l.Nodup→(∀x∈l,x∈m)→l.length≤m.length
 |[],_,_,_=>Nat.zero_le _
 |x::l,m,hn,hs=>by
  have hx:=hs x List.mem_cons_self;obtain⟨h1,h2⟩:=List.nodup_cons.1 hn;have:=eG l (m.erase x) h2 (fun y hy=>(List.mem_erase_of_ne (fun e=>h1 (by rw[←e];exact hy))).2 (hs y (List.mem_cons_of_mem _ hy)));rw[List.length_erase_of_mem hx]at this;have hp:=List.length_pos_of_mem hx;simp only[List.length_cons];omega
def marks(V:Nat)(idx:List Nat):List Bool:=(List.range V).map fun j=>decide (j∈idx)
theorem vX(l:List Bool)(i:Nat)(b:Bool):(cF l).set i [BL b]=cF (l.set i b):=by simp[cF,List.map_set]
@[simp] theorem KX(l:List Bool):A9 (cF l):=by
 rw[pH];intro r hr;obtain⟨o,_,rfl⟩:=List.mem_map.1 hr;exact⟨trivial,trivial⟩
theorem Bt(l:List Int)(i:Nat):List.take i (af l)=af (l.take i):=by simp[af,List.map_take]
def KY(n:Int)(order:List Int)(k:Nat):Prop:=0≤order.getD k 0∧order.getD k 0<n∧¬order.getD k 0∈order.take k
instance (n:Int) (order:List Int) (k:Nat):Decidable (KY n order k):=by unfold KY;infer_instance
def KZ(m:Int)(row:List Int)(k:Nat):Prop:=0≤row.getD k 0∧row.getD k 0<m
instance (m:Int) (row:List Int) (k:Nat):Decidable (KZ m row k):=by unfold KZ;infer_instance
structure Ev where
  w:Int
  p:Int
  n:Int
instance:Inhabited Ev:=⟨⟨0,0,0⟩⟩
theorem Ip:∀x y:Ev,x.w=y.w→x.p=y.p→x.n=y.n→x=y:=fun x y h1 h2 h3=>by
 cases x;cases y;simp at h1 h2 h3;subst h1 h2 h3;rfl
instance:DecidableEq Ev:=fun a b=>if h:a.w=b.w∧a.p=b.p∧a.n=b.n then .isTrue (Ip a b h.1 h.2.1 h.2.2)else .isFalse fun e=>h (by subst e;exact⟨rfl,rfl,rfl⟩)
@[simp] theorem Me(r:Nat→Nat→PV)(l:List (Int×Int)):p9 r (aT fI l)=aT fI l:=by
 rw[vg];unfold aT;rw[List.map_map];congr 1
@[simp] theorem MR(l:List (Int×Int)):F6 (aT fI l):=by
 rw[zy];intro r hr;obtain⟨x,_,rfl⟩:=List.mem_map.1 hr;trivial
end Go.AX