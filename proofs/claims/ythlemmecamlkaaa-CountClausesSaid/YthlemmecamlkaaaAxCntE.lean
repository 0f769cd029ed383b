/-
  Contracts: all clauses (count, the document's answer).
-/
import Derived.Test.YthlemmecamlkaaaAxCntC
import Derived.Test.YthlemmecamlkaaaAxCntD
namespace Go.AX
open Go.Proofs

@[simp] theorem frzR_orow (r : Nat → Nat → PV) (ops : List Op5) : frzR r (ops.map orow) = ops.map orow := by
  rw [frzR_map, List.map_map]; congr 1
@[simp] theorem frzR_prow (r : Nat → Nat → PV) (l : List (Int × Int)) : frzR r (l.map prow) = l.map prow := by
  rw [frzR_map, List.map_map]; congr 1
@[simp] theorem frzR_ints (r : Nat → Nat → PV) (l : List Int) : frzR r (l.map fun i => [I64 i]) = l.map fun i => [I64 i] := by
  rw [frzR_map, List.map_map]; congr 1
@[simp] theorem nwR_prow (l : List (Int × Int)) : nwR (l.map prow) := by
  rw [nwR_iff]; intro r hr
  obtain ⟨o, _, rfl⟩ := List.mem_map.1 hr
  exact ⟨trivial, trivial, trivial⟩
@[simp] theorem nwR_ints (l : List Int) : nwR (l.map fun i => [I64 i]) := by
  rw [nwR_iff]; intro r hr
  obtain ⟨o, _, rfl⟩ := List.mem_map.1 hr
  exact ⟨trivial, trivial⟩

def allOk (n m : Int) (ops : List Op5) : Bool := decide ((chk ops).2 = 0) && sizeOk n m && decide ((ops.length : Int) = n)
def allN (n m : Int) (ops : List Op5) : Int :=
  if allOk n m ops then w64 (placesN n m + timesN n m (pairsTo ops ops.length).length + statesN n m + movesN n m (w64 (n - (pendTo ops ops.length).length))) else 0
theorem allOk_iff {n m : Int} {ops : List Op5} : allOk n m ops = true ↔ (chk ops).2 = 0 ∧ sizeOk n m = true ∧ (ops.length : Int) = n := by simp [allOk, and_assoc]

theorem refAll_ok (n m : Int) (ops : List Op5) (hl : ops.length ≤ 140737488355328) : APure Try.prog 17 [I64 n, I64 m, ovec ops] (fun r => r = .pv (I64 (allN n m ops))) := by
  refine apure1 hmo Try.func17 (by kernel_rfl) rfl rfl (by kernel_rfl) (Nat.le_of_ble_eq_true rfl) ?_
  simp [ovec]
  refine CallK.intro (refChk_ok ops hl) (by simp) ?_
  simp
  refine CallG.intro (r := .pv (I64 (if sizeOk n m then 0 else 2))) (fun _ => refCheck_ok n m) (by simp) ?_
  simp
  refine ⟨fun h => ?_, fun h1 h2 h3 => ?_⟩
  · rw [allN, if_neg (fun hh => by have := allOk_iff.1 hh; simp [this.1, this.2.1, this.2.2] at h)]
  have hs := sizeOk_iff.1 h2
  have hp := pendTo_length ops ops.length
  rw [allN, if_pos (allOk_iff.2 ⟨h1, h2, h3⟩)]
  refine CallK.intro (refPlaces_ok n m) (by simp) ?_
  simp
  refine CallK.intro (refPairs_ok ops (by omega)) (by simp) ?_
  simp
  refine CallK.intro (refTimes_ok n m _) (by simp) ?_
  simp
  refine CallK.intro (refStates_ok n m) (by simp) ?_
  simp
  refine CallK.intro (refPending_ok ops (by omega)) (by simp) ?_
  simp
  refine CallK.intro (refMoves_ok n m _) (by simp) ?_
  simp

def varsN (n m : Int) : Int := w64 (n * n + n + (n + 1) * m)
def fitsN (n m : Int) (ops : List Op5) : Int := if allN n m ops = 0 then 2 else if allN n m ops > 500000 ∨ varsN n m > 900 then 3 else 0
theorem refFits_ok (n m : Int) (ops : List Op5) (hl : ops.length ≤ 140737488355328) : APure Try.prog 19 [I64 n, I64 m, ovec ops] (fun r => r = .pv (I64 (fitsN n m ops))) := by
  refine apure1 hmo Try.func19 (by kernel_rfl) rfl rfl (by kernel_rfl) (Nat.le_of_ble_eq_true rfl) ?_
  simp [ovec]
  refine CallK.intro (refAll_ok n m ops hl) (by simp) ?_
  simp
  refine ⟨fun h => by simp [fitsN, h], fun h => ⟨fun h2 => by rw [fitsN, if_neg h, if_pos (by simpa [varsN] using h2)], fun h2 h3 => by rw [fitsN, if_neg h, if_neg (by simp [varsN]; exact ⟨h2, h3⟩)]⟩⟩

end Go.AX
