/-
  Contracts: all clauses (count).
-/
import Derived.Test.YtipaihpchnlkfaaS2AxCntE
namespace Go.AX
open Go.Proofs

set_option maxRecDepth 4000 in
theorem block_ok (a b : Int) : APure Try.prog 78 [.agg [I64 a, I64 b], I64 3] (fun r => r = .pv (.tup [I64 (w64 (a * a + a)), I64 b, I64 (w64 (a + 1))])) := by
  refine apureN [4, 5, 6] hmo Try.func78 (by kernel_rfl) rfl (fun _ _ => results_tmp3 rfl _ _ _) (by kernel_rfl) (Nat.le_of_ble_eq_true rfl) ?_
  simp

theorem vars_ok (a b : Int) : APure Try.prog 75 [.agg [I64 a, I64 b]] (fun r => r = .pv (I64 (if sizeOk a b then varsN a b else 0))) := by
  refine apure1 hmo Try.func75 (by kernel_rfl) rfl rfl (by kernel_rfl) (Nat.le_of_ble_eq_true rfl) ?_
  simp
  refine CallK.intro (check_ok a b) (by simp) ?_
  simp
  refine ⟨fun h h' => by simp [h] at h', fun h => ?_⟩
  refine CallK.intro (block_ok a b) (by simp) ?_
  simp [h, varsN]
  congr 1
  grind

end Go.AX
