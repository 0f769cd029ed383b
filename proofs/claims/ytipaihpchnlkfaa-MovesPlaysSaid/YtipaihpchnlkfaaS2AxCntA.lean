/-
  Contracts: the numbers of clauses (count, numbering, the document's answer).
-/
import Derived.Test.YtipaihpchnlkfaaS2AxFa
namespace Go.AX
open Go.Proofs
theorem hmo : Try.prog.follows .mixedOrders = true := by kernel_rfl

/-! ### Plain laws -/
theorem w64_half (x : Int) : w64 ((w64 x).tdiv 2) = (w64 x).tdiv 2 := by
  have h1 := w64_lo x
  have h2 := w64_hi x
  have h3 := Int.mul_tdiv_add_tmod (w64 x) 2
  have h4 := Int.tmod_lt_of_pos (w64 x) (show (0 : Int) < 2 by omega)
  have h5 : -2 < (w64 x).tmod 2 := by have := Int.lt_tmod_of_pos (w64 x) (show (0 : Int) < 2 by omega); omega
  exact w64_id (by omega) (by omega)
def chooseS (n : Int) : Int := (w64 (n * (n - 1))).tdiv 2
def sizeOk (a b : Int) : Bool := !(decide (a < 0) || decide (a > 64) || decide (b < 1) || decide (b > 32))
theorem sizeOk_iff {a b : Int} : sizeOk a b = true ↔ 0 ≤ a ∧ a ≤ 64 ∧ 1 ≤ b ∧ b ≤ 32 := by
  simp [sizeOk]; omega
theorem chooseS_two {a : Int} (h0 : 0 ≤ a) (h1 : a ≤ 64) : 2 * chooseS a = a * (a - 1) := by
  obtain ⟨k, rfl⟩ := Int.eq_ofNat_of_zero_le h0
  have hk : k < 65 := by omega
  have key : ∀ j : Fin 65, 2 * chooseS (j.val : Int) = (j.val : Int) * ((j.val : Int) - 1) := by decide +kernel
  exact key ⟨k, hk⟩
def timesOk (n m p : Int) : Bool := sizeOk n m && !(decide (p < 0) || decide (p > 2016))
theorem timesOk_iff {n m p : Int} : timesOk n m p = true ↔ sizeOk n m = true ∧ 0 ≤ p ∧ p ≤ 2016 := by simp [timesOk]
def placesN (n m : Int) : Int := if sizeOk n m then w64 (n + n * n * (n - 1)) else 0
def timesN (n m p : Int) : Int := if timesOk n m p then w64 (p * chooseS n) else 0
def statesN (n m : Int) : Int := if sizeOk n m then w64 (1 + (n + 1) * (1 + chooseS m)) else 0
def movesOk (n m e : Int) : Bool := sizeOk n m && !(decide (e < 0) || decide (e > n))
theorem movesOk_iff {n m e : Int} : movesOk n m e = true ↔ sizeOk n m = true ∧ 0 ≤ e ∧ e ≤ n := by simp [movesOk]
def movesN (n m e : Int) : Int := if movesOk n m e then w64 (e * (1 + n * m) + (n - e) * (2 * n * m)) else 0
/-- The sum, so far. -/
def movesSum (n m e i : Int) : Int := if i ≤ e then i * (1 + n * m) else e * (1 + n * m) + (i - e) * (2 * n * m)
theorem movesSum_lt {n m e i : Int} (h : i < e) : movesSum n m e (i + 1) = movesSum n m e i + 1 + n * m := by
  unfold movesSum; rw [if_pos (by omega), if_pos (by omega)]; grind
theorem movesSum_ge {n m e i : Int} (h : e ≤ i) : movesSum n m e (i + 1) = movesSum n m e i + 2 * n * m := by
  unfold movesSum
  rw [if_neg (by omega)]
  by_cases h2 : i ≤ e
  · have : i = e := by omega
    subst this; rw [if_pos h2]; grind
  · rw [if_neg h2]; grind
theorem movesSum_all {n m e : Int} (h : e ≤ n) : movesSum n m e n = e * (1 + n * m) + (n - e) * (2 * n * m) := by
  unfold movesSum
  split
  · have : n = e := by omega
    subst this; grind
  · rfl

/-! ### Walks -/
theorem check_ok (a b : Int) : APure Try.prog 26 [.agg [I64 a, I64 b]] (fun r => r = .pv (I64 (if sizeOk a b then 0 else 2))) := by
  refine apure1 hmo Try.func26 (by kernel_rfl) rfl rfl (by kernel_rfl) (Nat.le_of_ble_eq_true rfl) ?_
  simp [sizeOk]
  omega

theorem refCheck_ok (a b : Int) : APure Try.prog 69 [I64 a, I64 b] (fun r => r = .pv (I64 (if sizeOk a b then 0 else 2))) := by
  refine apure1 hmo Try.func69 (by kernel_rfl) rfl rfl (by kernel_rfl) (Nat.le_of_ble_eq_true rfl) ?_
  simp [sizeOk]
  omega

end Go.AX
