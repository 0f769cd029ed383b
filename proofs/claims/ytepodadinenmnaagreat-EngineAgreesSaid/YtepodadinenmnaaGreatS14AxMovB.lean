/-
  Contracts: objects as tables; names' variables.
  Contracts: clauses of places, times and states.
-/
import Derived.Test.YtepodadinenmnaaGreatS14AxCntG
namespace Go.AX
open Go.Proofs
/-! ### The first error of a row -/
def KQ(e:Nat→Int)(n:Nat):Int×Int:=
 match(List.range n).find? (fun i=>decide (e i≠0))with
 |some i=>((i:Int),e i)
 |none=>((n:Int),0)
/-! ### Objects -/
structure ORow where
  s:Int
  k:Int
  n:Int
  r:Int
  deriving DecidableEq,Inhabited
structure Obj where
  st:Int
  kd:Int
  ini:Int
  rows:List ORow
def yc(a b:Int):Int:=if a<b then-1 else if a>b then 1 else 0
theorem vT(n:Int):ao Tryz.prog 313 [ae n] (fun r=>r=.pv (BL false)):=by
 refine aw aG Tryz.func313 (by kernel_rfl) rfl rfl (by kernel_rfl) (Nat.le_of_ble_eq_true rfl) ?_;simp
theorem yd(a b:Int):ao Tryz.prog 284 [ae a,ae b] (fun r=>r=.pv (ae (yc a b))):=by
 refine aw aG Tryz.func284 (by kernel_rfl) rfl rfl (by kernel_rfl) (Nat.le_of_ble_eq_true rfl) ?_;simp;refine am.intro (vT a) (by simp) ?_;simp;refine am.intro (vT b) (by simp) ?_;simp;exact⟨fun h=>by simp[yc,h],fun h=>⟨fun h2=>by simp[yc,h2,Int.not_lt.2 h],fun h2=>by simp[yc,Int.not_lt.2 h2,Int.not_lt.2 h]⟩⟩
/-! ### Moves -/
def jX{α:Type}(p:α→Bool)(l:List α):Int:=match l.findIdx? p with|some i=>(i:Int)|none=>-1
theorem fO{α:Type}{p:α→Bool}{l:List α}{i:Nat}(h:i<l.length)(hn:∀j (hj:j<l.length),j<i→p l[j]=false)(hp:p l[i]=true):jX p l=i:=by
 have:l.findIdx? p=some i:=by
  rw[List.findIdx?_eq_some_iff_getElem];exact⟨h,hp,fun j hj=>by simp[hn j (by omega) hj]⟩
 rw[jX,this]
theorem eb{α:Type}{p:α→Bool}{l:List α}(hn:∀j (hj:j<l.length),p l[j]=false):jX p l=-1:=by
 have:l.findIdx? p=none:=by
  rw[List.findIdx?_eq_none_iff];intro x hx;obtain⟨j,hj,rfl⟩:=List.mem_iff_getElem.1 hx;exact hn j hj
 rw[jX,this]
/-! ### Names -/
def af(l:List Int):List (List PV):=l.map fun i=>[ae i]
def nv(l:List Int):List PV:=[.seq true 1 (af l)]
def aO(l:List Int):List PV:=[.seq false 1 (af l)]
@[simp] theorem HB(l:List Int):(af l).length=l.length:=by simp[af]
@[simp] theorem bc(k:Nat)(l:List Int):bP k (af l):=vI k l
@[simp] theorem KR(l:List Int):A9 (af l):=by
 rw[pH];intro r hr;obtain⟨o,_,rfl⟩:=List.mem_map.1 hr;exact⟨trivial,trivial⟩
@[simp] theorem Jh(r:Nat→Nat→PV)(l:List Int):ke r (af l)=af l:=by
 rw[af,cd,List.map_map];congr 1
@[simp] theorem KS(l:List (List Int)):A9 (l.map nv):=by
 rw[pH];intro r hr;obtain⟨o,_,rfl⟩:=List.mem_map.1 hr;simp[nv]
@[simp] theorem KT(l:List Int)(i:Nat):(af l)[i]?=l[i]?.map fun n=>[ae n]:=by simp[af]
@[simp] theorem Ji(l:List Int)(i:Nat)(h:i<(af l).length):(af l)[i]'h=[ae (l[i]'(by simpa using h))]:=by simp[af]
theorem oR(l:List Int)(x:Int):af l++[[ae x]]=af (l++[x]):=by simp[af]
/-! ### At most one -/
/-! ### Rows that are filled -/
/-! ### Places -/
/-! ### Times -/
/-! ### States -/
/-! ### Times -/
end Go.AX