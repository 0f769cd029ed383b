/-
  Contracts: objects as tables; names' variables.
  Contracts: clauses of places, times and states.
-/
import Derived.Test.YthfhellfmbllhaaGreatS12AxCntG
namespace Go.AX
open Go.Proofs
/-! ### The first error of a row -/
def firstErr (e:Nat→Int) (n:Nat):Int×Int:=
 match(List.range n).find? (fun i=>decide (e i≠0))with
 |some i=>((i:Int),e i)
 |none=>((n:Int),0)
/-! ### Objects -/
structure ORow where
  s:Int
  k:Int
  n:Int
  r:Int
  deriving DecidableEq,Inhabited
structure Obj where
  st:Int
  kd:Int
  ini:Int
  rows:List ORow
/-! ### Moves -/
def idxS {α:Type} (p:α→Bool) (l:List α):Int:=match l.findIdx? p with|some i=>(i:Int)|none=>-1
theorem idxS_at {α:Type} {p:α→Bool} {l:List α} {i:Nat} (h:i<l.length) (hn:∀j (hj:j<l.length),j<i→p l[j]=false) (hp:p l[i]=true):idxS p l=i:=by
 have:l.findIdx? p=some i:=by
  rw[List.findIdx?_eq_some_iff_getElem];exact⟨h,hp,fun j hj=>by simp[hn j (by omega) hj]⟩
 rw[idxS,this]
theorem idxS_none {α:Type} {p:α→Bool} {l:List α} (hn:∀j (hj:j<l.length),p l[j]=false):idxS p l=-1:=by
 have:l.findIdx? p=none:=by
  rw[List.findIdx?_eq_none_iff];intro x hx;obtain⟨j,hj,rfl⟩:=List.mem_iff_getElem.1 hx;exact hn j hj
 rw[idxS,this]
/-! ### Names -/
def irow (l:List Int):List (List PV):=l.map fun i=>[I64 i]
def crowF (l:List Int):List PV:=[.seq false 1 (irow l)]
@[simp] theorem irow_length (l:List Int):(irow l).length=l.length:=by simp[irow]
@[simp] theorem belowR_irow (k:Nat) (l:List Int):belowR k (irow l):=belowR_ints k l
@[simp] theorem nwR_irow (l:List Int):nwR (irow l):=by
 rw[nwR_iff];intro r hr;obtain⟨o,_,rfl⟩:=List.mem_map.1 hr;exact⟨trivial,trivial⟩
@[simp] theorem frzR_irow (r:Nat→Nat→PV) (l:List Int):frzR r (irow l)=irow l:=by
 rw[irow,frzR_map,List.map_map];congr 1
@[simp] theorem irow_get (l:List Int) (i:Nat):(irow l)[i]?=l[i]?.map fun n=>[I64 n]:=by simp[irow]
@[simp] theorem irow_elem (l:List Int) (i:Nat) (h:i<(irow l).length):(irow l)[i]'h=[I64 (l[i]'(by simpa using h))]:=by simp[irow]
theorem irow_append (l:List Int) (x:Int):irow l++[[I64 x]]=irow (l++[x]):=by simp[irow]
/-! ### At most one -/
/-! ### Rows that are filled -/
/-! ### Places -/
/-! ### Times -/
/-! ### States -/
/-! ### Times -/
end Go.AX