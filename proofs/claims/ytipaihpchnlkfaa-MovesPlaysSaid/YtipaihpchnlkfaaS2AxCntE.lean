/-
  Contracts: all clauses (count, the document's answer).
-/
import Derived.Test.YtipaihpchnlkfaaS2AxCntC
import Derived.Test.YtipaihpchnlkfaaS2AxCntD
namespace Go.AX
open Go.Proofs

@[simp] theorem frzR_orow (r : Nat → Nat → PV) (ops : List Op5) : frzR r (ops.map orow) = ops.map orow := by
  rw [frzR_map, List.map_map]; congr 1
@[simp] theorem frzR_prow (r : Nat → Nat → PV) (l : List (Int × Int)) : frzR r (l.map prow) = l.map prow := by
  rw [frzR_map, List.map_map]; congr 1
@[simp] theorem frzR_ints (r : Nat → Nat → PV) (l : List Int) : frzR r (l.map fun i => [I64 i]) = l.map fun i => [I64 i] := by
  rw [frzR_map, List.map_map]; congr 1
@[simp] theorem nwR_prow (l : List (Int × Int)) : nwR (l.map prow) := by
  rw [nwR_iff]; intro r hr
  obtain ⟨o, _, rfl⟩ := List.mem_map.1 hr
  exact ⟨trivial, trivial, trivial⟩
@[simp] theorem nwR_ints (l : List Int) : nwR (l.map fun i => [I64 i]) := by
  rw [nwR_iff]; intro r hr
  obtain ⟨o, _, rfl⟩ := List.mem_map.1 hr
  exact ⟨trivial, trivial⟩

def allOk (n m : Int) (ops : List Op5) : Bool := decide ((chk ops).2 = 0) && sizeOk n m && decide ((ops.length : Int) = n)
def allN (n m : Int) (ops : List Op5) : Int :=
  if allOk n m ops then w64 (placesN n m + timesN n m (pairsTo ops ops.length).length + statesN n m + movesN n m (w64 (n - (pendTo ops ops.length).length))) else 0
theorem allOk_iff {n m : Int} {ops : List Op5} : allOk n m ops = true ↔ (chk ops).2 = 0 ∧ sizeOk n m = true ∧ (ops.length : Int) = n := by simp [allOk, and_assoc]

def varsN (n m : Int) : Int := w64 (n * n + n + (n + 1) * m)
def fitsN (n m : Int) (ops : List Op5) : Int := if allN n m ops = 0 then 2 else if allN n m ops > 500000 ∨ varsN n m > 900 then 3 else 0
end Go.AX
