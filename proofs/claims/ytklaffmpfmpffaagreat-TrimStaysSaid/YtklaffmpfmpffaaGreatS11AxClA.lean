/-
  Contracts: literals.
-/
import Derived.Test.YtklaffmpfmpffaaGreatS11AxMovS
import Derived.Test.YtklaffmpfmpffaaGreatAxIs
namespace Go.AX
open Go.Proofs
set_option linter.unusedSimpArgs false

def inS (n m : Int) : Bool := decide (n ≠ 0) && (decide (-m ≤ n) && decide (n ≤ m))
def okL (n : Int) : Bool := inS n 100000
def absS (n : Int) : Int := if n < 0 then -n else n
def litV (n : Int) : Int := if okL n = true then absS n else 0
def litX (n : Int) : Int := if okL n = true then (if n < 0 then 2 * absS n - 1 else 2 * absS n - 2) else -1
def litN (n : Int) : Int := if okL n = true then -n else 0
theorem okL_iff (n : Int) : okL n = true ↔ n ≠ 0 ∧ -100000 ≤ n ∧ n ≤ 100000 := by unfold okL inS; simp

theorem litIn_ok (n m : Int) (h0 : 0 ≤ m) (h1 : m ≤ 100000) : APure Tryz.prog 157 [I64 n, I64 m] (fun r => r = .pv (BL (inS n m))) := by
  refine apure1 hmo Tryz.func157 (by kernel_rfl) rfl rfl (by kernel_rfl) (Nat.le_of_ble_eq_true rfl) ?_
  have hw : w64 (-m) = -m := w64_id (by omega) (by omega)
  simp [inS, hw]
  try grind
theorem litIs_ok (n : Int) : APure Tryz.prog 151 [I64 n] (fun r => r = .pv (BL (okL n))) := by
  refine apure1 hmo Tryz.func151 (by kernel_rfl) rfl rfl (by kernel_rfl) (Nat.le_of_ble_eq_true rfl) ?_
  simp
  refine CallK.intro (litIn_ok n 100000 (by omega) (by omega)) (by simp) ?_
  simp [okL]
theorem litVar_ok (n : Int) : APure Tryz.prog 93 [I64 n] (fun r => r = .pv (I64 (litV n))) := by
  refine apure1 hmo Tryz.func93 (by kernel_rfl) rfl rfl (by kernel_rfl) (Nat.le_of_ble_eq_true rfl) ?_
  simp
  refine CallK.intro (litIs_ok n) (by simp) ?_
  by_cases c : okL n = true
  · obtain ⟨h1, h2, h3⟩ := (okL_iff n).1 c
    have hw : w64 (-n) = -n := w64_id (by omega) (by omega)
    simp [litV, absS, c, hw]
    split <;> split <;> omega
  · simp [litV, c]
theorem litNeg_ok (n : Int) : APure Tryz.prog 210 [I64 n] (fun r => r = .pv (I64 (litN n))) := by
  refine apure1 hmo Tryz.func210 (by kernel_rfl) rfl rfl (by kernel_rfl) (Nat.le_of_ble_eq_true rfl) ?_
  simp
  refine CallK.intro (litIs_ok n) (by simp) ?_
  by_cases c : okL n = true
  · obtain ⟨h1, h2, h3⟩ := (okL_iff n).1 c
    have hw : w64 (-n) = -n := w64_id (by omega) (by omega)
    simp [litN, c, hw]
  · simp [litN, c]
def litChk (n m : Int) : Int := if m < 0 ∨ 100000 < m then 2 else if inS n m = true then 0 else 10
theorem litCheck_ok (n m : Int) : APure Tryz.prog 101 [I64 n, I64 m] (fun r => r = .pv (I64 (litChk n m))) := by
  refine apure1 hmo Tryz.func101 (by kernel_rfl) rfl rfl (by kernel_rfl) (Nat.le_of_ble_eq_true rfl) ?_
  by_cases c1 : m < 0
  · simp [c1, litChk]
  by_cases c2 : 100000 < m
  · simp [c1, c2, litChk]
  simp [c1, c2, litChk]
  refine CallK.intro (litIn_ok n m (by omega) (by omega)) (by simp) ?_
  cases inS n m <;> simp

end Go.AX
