/-
  Contracts: what is awake (count).
-/
import Derived.Test.YthlemmecamlkaaaAxCntI
namespace Go.AX
open Go.Proofs

def lAw : List Op5 := [⟨1, 0, 0, 1, 0⟩, ⟨1, 0, 2, 3, 0⟩, ⟨2, 0, 4, -1, -1⟩]
def lAw2 : List Op5 := [⟨1, 0, 0, 1, 0⟩, ⟨1, 0, 2, 3, 0⟩]
theorem eqv {P : Program} {f : FuncId} {xs : List PV} {n m : Int} (h : APure P f xs (fun r => r = .pv (I64 n))) (e : n = m) : APure P f xs (fun r => r = .pv (I64 m)) := by subst e; exact h

set_option maxRecDepth 8000 in
theorem awake_ok : APure Try.prog 15 [] (fun r => r = .pv (BL true)) := by
  refine apure1 hmo Try.func15 (by kernel_rfl) rfl rfl (by kernel_rfl) (Nat.le_of_ble_eq_true rfl) ?_
  simp
  refine CallQ0.intro (r := .pv (I64 21)) (eqv (places_ok 3 2) (by decide +kernel)) (by simp) ?_
  simp
  refine CallQ.intro (r := .pv (I64 9)) (fun _ => eqv (times_ok 3 2 3) (by decide +kernel)) (by simp) ?_
  simp
  refine CallQ.intro (r := .pv (I64 9)) (fun _ => eqv (states_ok 3 2) (by decide +kernel)) (by simp) ?_
  simp
  refine CallQ.intro (r := .pv (I64 26)) (fun _ => eqv (moves_ok 3 2 2) (by decide +kernel)) (by simp) ?_
  simp
  refine CallQ.intro (r := .pv (I64 65)) (fun _ => eqv (all_ok 3 2 lAw (by decide)) (by decide +kernel)) (by simp) ?_
  simp
  refine CallQ.intro (r := .pv (I64 0)) (fun _ => eqv (fits_ok 3 2 lAw (by decide)) (by decide +kernel)) (by simp) ?_
  simp
  refine CallQ.intro (r := .pv (I64 0)) (fun _ => eqv (all_ok 3 2 lAw2 (by decide)) (by decide +kernel)) (by simp) ?_
  simp
  refine CallQ.intro (r := .pv (I64 2)) (fun _ => (eqv (fits_ok 3 2 [] (by decide)) (by decide +kernel)).conv ⟨_, _, rfl, .refl _, _, _, rfl, PV.as_nil 5, rfl⟩) (by simp) ?_
  simp
  refine CallQ.intro (r := .pv (I64 2)) (fun _ => (eqv (all_ok 0 1 [] (by decide)) (by decide +kernel)).conv ⟨_, _, rfl, .refl _, _, _, rfl, PV.as_nil 5, rfl⟩) (by simp) ?_
  simp
  refine CallQ.intro (r := .pv (I64 0)) (fun _ => eqv (moves_ok 3 2 4) (by decide +kernel)) (by simp) ?_
  simp
  refine CallQ.intro (r := .pv (I64 0)) (fun _ => eqv (times_ok 3 2 (-1)) (by decide +kernel)) (by simp) ?_
  simp

set_option maxRecDepth 8000 in
theorem tells_ok (a b p e : Int) : APure Try.prog 3 [.agg [I64 a, I64 b], I64 p, I64 e] (fun r => r = .pv (BL true)) := by
  refine apure1 hmo Try.func3 (by kernel_rfl) rfl rfl (by kernel_rfl) (Nat.le_of_ble_eq_true rfl) ?_
  simp
  refine CallQ0.intro (places_ok a b) (by simp) ?_
  simp
  refine CallQ0.intro (refPlaces_ok a b) (by simp) ?_
  simp
  refine CallQ.intro (fun _ => times_ok a b p) (by simp) ?_
  simp
  refine CallQ.intro (fun _ => refTimes_ok a b p) (by simp) ?_
  simp
  refine CallQ.intro (fun _ => states_ok a b) (by simp) ?_
  simp
  refine CallQ.intro (fun _ => refStates_ok a b) (by simp) ?_
  simp
  refine CallQ.intro (fun _ => moves_ok a b e) (by simp) ?_
  simp
  refine CallQ.intro (fun _ => refMoves_ok a b e) (by simp) ?_
  simp
  refine CallQ.intro (fun _ => awake_ok) (by simp) ?_
  simp

theorem countAll_ok (a b : Int) (ops : List Op5) : APure Try.prog 4 [.agg [I64 a, I64 b], ovec ops] (fun r => r = .pv (BL true)) := by
  refine apure1 hmo Try.func4 (by kernel_rfl) rfl rfl (by kernel_rfl) (Nat.le_of_ble_eq_true rfl) ?_
  simp [ovec]
  refine ⟨fun h => ?_, fun h => ?_⟩
  · refine CallK.intro awake_ok (by simp) ?_
    simp
  have hl : ops.length ≤ 140737488355328 := by omega
  refine CallQ0.intro (all_ok a b ops hl) (by simp) ?_
  simp
  refine CallQ0.intro (refAll_ok a b ops hl) (by simp) ?_
  simp
  refine CallQ.intro (fun _ => fits_ok a b ops hl) (by simp) ?_
  simp
  refine CallQ.intro (fun _ => refFits_ok a b ops hl) (by simp) ?_
  simp
  refine CallQ.intro (fun _ => awake_ok) (by simp) ?_
  simp

end Go.AX
