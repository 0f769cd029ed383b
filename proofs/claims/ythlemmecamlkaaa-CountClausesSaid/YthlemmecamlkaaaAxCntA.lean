/-
  Contracts: the numbers of clauses (count, numbering, the document's answer).
-/
import Derived.Test.YthlemmecamlkaaaAxFa
namespace Go.AX
open Go.Proofs
theorem hmo : Try.prog.follows .mixedOrders = true := by kernel_rfl

/-! ### Plain laws -/
theorem w64_half (x : Int) : w64 ((w64 x).tdiv 2) = (w64 x).tdiv 2 := by
  have h1 := w64_lo x
  have h2 := w64_hi x
  have h3 := Int.mul_tdiv_add_tmod (w64 x) 2
  have h4 := Int.tmod_lt_of_pos (w64 x) (show (0 : Int) < 2 by omega)
  have h5 : -2 < (w64 x).tmod 2 := by have := Int.lt_tmod_of_pos (w64 x) (show (0 : Int) < 2 by omega); omega
  exact w64_id (by omega) (by omega)
def chooseS (n : Int) : Int := (w64 (n * (n - 1))).tdiv 2
def sizeOk (a b : Int) : Bool := !(decide (a < 0) || decide (a > 64) || decide (b < 1) || decide (b > 32))
theorem sizeOk_iff {a b : Int} : sizeOk a b = true ↔ 0 ≤ a ∧ a ≤ 64 ∧ 1 ≤ b ∧ b ≤ 32 := by
  simp [sizeOk]; omega
theorem chooseS_two {a : Int} (h0 : 0 ≤ a) (h1 : a ≤ 64) : 2 * chooseS a = a * (a - 1) := by
  obtain ⟨k, rfl⟩ := Int.eq_ofNat_of_zero_le h0
  have hk : k < 65 := by omega
  have key : ∀ j : Fin 65, 2 * chooseS (j.val : Int) = (j.val : Int) * ((j.val : Int) - 1) := by decide +kernel
  exact key ⟨k, hk⟩
def timesOk (n m p : Int) : Bool := sizeOk n m && !(decide (p < 0) || decide (p > 2016))
theorem timesOk_iff {n m p : Int} : timesOk n m p = true ↔ sizeOk n m = true ∧ 0 ≤ p ∧ p ≤ 2016 := by simp [timesOk]
def placesN (n m : Int) : Int := if sizeOk n m then w64 (n + n * n * (n - 1)) else 0
def timesN (n m p : Int) : Int := if timesOk n m p then w64 (p * chooseS n) else 0
def statesN (n m : Int) : Int := if sizeOk n m then w64 (1 + (n + 1) * (1 + chooseS m)) else 0
def movesOk (n m e : Int) : Bool := sizeOk n m && !(decide (e < 0) || decide (e > n))
theorem movesOk_iff {n m e : Int} : movesOk n m e = true ↔ sizeOk n m = true ∧ 0 ≤ e ∧ e ≤ n := by simp [movesOk]
def movesN (n m e : Int) : Int := if movesOk n m e then w64 (e * (1 + n * m) + (n - e) * (2 * n * m)) else 0
/-- The sum, so far. -/
def movesSum (n m e i : Int) : Int := if i ≤ e then i * (1 + n * m) else e * (1 + n * m) + (i - e) * (2 * n * m)
theorem movesSum_lt {n m e i : Int} (h : i < e) : movesSum n m e (i + 1) = movesSum n m e i + 1 + n * m := by
  unfold movesSum; rw [if_pos (by omega), if_pos (by omega)]; grind
theorem movesSum_ge {n m e i : Int} (h : e ≤ i) : movesSum n m e (i + 1) = movesSum n m e i + 2 * n * m := by
  unfold movesSum
  rw [if_neg (by omega)]
  by_cases h2 : i ≤ e
  · have : i = e := by omega
    subst this; rw [if_pos h2]; grind
  · rw [if_neg h2]; grind
theorem movesSum_all {n m e : Int} (h : e ≤ n) : movesSum n m e n = e * (1 + n * m) + (n - e) * (2 * n * m) := by
  unfold movesSum
  split
  · have : n = e := by omega
    subst this; grind
  · rfl

/-! ### Walks -/
theorem choose_ok (n : Int) : APure Try.prog 29 [I64 n] (fun r => r = .pv (I64 (chooseS n))) := by
  refine apure1 hmo Try.func29 (by kernel_rfl) rfl rfl (by kernel_rfl) (Nat.le_of_ble_eq_true rfl) ?_
  simp [chooseS, w64_half]

theorem check_ok (a b : Int) : APure Try.prog 27 [.agg [I64 a, I64 b]] (fun r => r = .pv (I64 (if sizeOk a b then 0 else 2))) := by
  refine apure1 hmo Try.func27 (by kernel_rfl) rfl rfl (by kernel_rfl) (Nat.le_of_ble_eq_true rfl) ?_
  simp [sizeOk]
  omega

theorem refCheck_ok (a b : Int) : APure Try.prog 30 [I64 a, I64 b] (fun r => r = .pv (I64 (if sizeOk a b then 0 else 2))) := by
  refine apure1 hmo Try.func30 (by kernel_rfl) rfl rfl (by kernel_rfl) (Nat.le_of_ble_eq_true rfl) ?_
  simp [sizeOk]
  omega

theorem may_ok (a b : Int) : APure Try.prog 28 [.agg [I64 a, I64 b]] (fun r => r = .pv (BL (sizeOk a b))) := by
  refine apure1 hmo Try.func28 (by kernel_rfl) rfl rfl (by kernel_rfl) (Nat.le_of_ble_eq_true rfl) ?_
  simp
  refine CallK.intro (check_ok a b) (by simp) ?_
  simp

theorem places_ok (a b : Int) : APure Try.prog 7 [.agg [I64 a, I64 b]] (fun r => r = .pv (I64 (placesN a b))) := by
  refine apure1 hmo Try.func7 (by kernel_rfl) rfl rfl (by kernel_rfl) (Nat.le_of_ble_eq_true rfl) ?_
  simp
  refine CallK.intro (may_ok a b) (by simp) ?_
  simp
  refine ⟨fun h => by simp [placesN, h], fun h => ?_⟩
  refine CallQ0.intro (choose_ok a) (by simp) ?_
  simp [placesN, h]
  have := sizeOk_iff.1 h
  congr 1
  have := chooseS_two this.1 this.2.1
  grind

theorem refPlaces_ok (a b : Int) : APure Try.prog 8 [I64 a, I64 b] (fun r => r = .pv (I64 (placesN a b))) := by
  refine apure1 hmo Try.func8 (by kernel_rfl) rfl rfl (by kernel_rfl) (Nat.le_of_ble_eq_true rfl) ?_
  simp
  refine CallK.intro (refCheck_ok a b) (by simp) ?_
  simp [placesN]
  exact ⟨fun h h' => by simp [h] at h', fun h => by simp [h]⟩

theorem times_ok (a b p : Int) : APure Try.prog 9 [.agg [I64 a, I64 b], I64 p] (fun r => r = .pv (I64 (timesN a b p))) := by
  refine apure1 hmo Try.func9 (by kernel_rfl) rfl rfl (by kernel_rfl) (Nat.le_of_ble_eq_true rfl) ?_
  simp
  refine CallK.intro (may_ok a b) (by simp) ?_
  simp
  refine ⟨fun h => ?_, fun h1 h2 h3 => ?_⟩
  · simp only [timesN]; rw [if_neg (fun hh => by have := timesOk_iff.1 hh; simp [this.1] at h; omega)]
  refine CallK.intro (choose_ok a) (by simp) ?_
  simp [timesN, timesOk_iff.2 ⟨h1, h2, h3⟩]

theorem refTimes_ok (a b p : Int) : APure Try.prog 10 [I64 a, I64 b, I64 p] (fun r => r = .pv (I64 (timesN a b p))) := by
  refine apure1 hmo Try.func10 (by kernel_rfl) rfl rfl (by kernel_rfl) (Nat.le_of_ble_eq_true rfl) ?_
  simp
  refine CallK.intro (refCheck_ok a b) (by simp) ?_
  simp
  refine ⟨fun h => ?_, fun h1 h2 h3 => ?_⟩
  · simp only [timesN]; rw [if_neg (fun hh => by have := timesOk_iff.1 hh; simp [this.1] at h; omega)]
  simp [timesN, timesOk_iff.2 ⟨h1, h2, h3⟩, chooseS, Int.mul_comm p]

theorem states_ok (a b : Int) : APure Try.prog 11 [.agg [I64 a, I64 b]] (fun r => r = .pv (I64 (statesN a b))) := by
  refine apure1 hmo Try.func11 (by kernel_rfl) rfl rfl (by kernel_rfl) (Nat.le_of_ble_eq_true rfl) ?_
  simp
  refine CallK.intro (may_ok a b) (by simp) ?_
  simp
  refine ⟨fun h => by simp [statesN, h], fun h => ?_⟩
  refine CallQ0.intro (choose_ok b) (by simp) ?_
  simp [statesN, h]

theorem refStates_ok (a b : Int) : APure Try.prog 12 [I64 a, I64 b] (fun r => r = .pv (I64 (statesN a b))) := by
  refine apure1 hmo Try.func12 (by kernel_rfl) rfl rfl (by kernel_rfl) (Nat.le_of_ble_eq_true rfl) ?_
  simp
  refine CallK.intro (refCheck_ok a b) (by simp) ?_
  simp [statesN, chooseS, w64_half]
  exact ⟨fun h h' => by simp [h] at h', fun h => by simp [h]⟩

theorem moves_ok (a b e : Int) : APure Try.prog 13 [.agg [I64 a, I64 b], I64 e] (fun r => r = .pv (I64 (movesN a b e))) := by
  refine apure1 hmo Try.func13 (by kernel_rfl) rfl rfl (by kernel_rfl) (Nat.le_of_ble_eq_true rfl) ?_
  simp
  refine CallK.intro (may_ok a b) (by simp) ?_
  simp
  refine ⟨fun h => ?_, fun h1 h2 h3 => ?_⟩
  · simp only [movesN]; rw [if_neg (fun hh => by have := movesOk_iff.1 hh; simp [this.1] at h; omega)]
  simp [movesN, movesOk_iff.2 ⟨h1, h2, h3⟩]
  congr 1
  grind

theorem refMoves_ok (n m e : Int) : APure Try.prog 14 [I64 n, I64 m, I64 e] (fun r => r = .pv (I64 (movesN n m e))) := by
  refine apure1 hmo Try.func14 (by kernel_rfl) rfl rfl (by kernel_rfl) (Nat.le_of_ble_eq_true rfl) ?_
  simp
  refine CallK.intro (refCheck_ok n m) (by simp) ?_
  simp
  refine ⟨?_, fun h1 h2 h3 => ?_⟩
  · intro h; simp only [movesN]; rw [if_neg (fun hh => by have := movesOk_iff.1 hh; simp [this.1] at h; omega)]
  have hok : movesOk n m e = true := by simp [movesOk, h1]; omega
  have hs : 0 ≤ n ∧ n ≤ 64 := by simp [sizeOk] at h1; omega
  simp only [movesN, hok, if_true]
  refine ALoop.intro (S := fun (i : Int) => ⟨[(7, .pv (I64 (w64 (movesSum n m e i)))), (8, .pv (I64 i)), (0, .pv (I64 n)), (1, .pv (I64 m)), (2, .pv (I64 e))], []⟩) (fun i => 0 ≤ i ∧ i ≤ n) (fun i => (n - i).toNat) 0 ?_ ?_ ?_
  · exact Weak.to (by simp [movesSum, h2]; decide) rfl (by simp) (by simp) (by simp)
  · omega
  · intro i hi
    simp
    refine ⟨fun h4 => ⟨fun h5 => ⟨i + 1, by dsimp only; omega, by dsimp only; omega, Weak.to ?_ rfl (by simp) (by simp) (by simp)⟩, fun h5 => ⟨i + 1, by dsimp only; omega, by dsimp only; omega, Weak.to ?_ rfl (by simp) (by simp) (by simp)⟩⟩, fun h4 => ?_⟩
    · simp [movesSum_lt h5, w64_id (show -9223372036854775808 ≤ i + 1 by omega) (by omega)]
    · simp [movesSum_ge h5, w64_id (show -9223372036854775808 ≤ i + 1 by omega) (by omega)]
    · have : i = n := by omega
      rw [this, movesSum_all h3]

end Go.AX
