/-
  Facts on the types of the seat's program (written by facts.py).
  Contracts: the numbers of clauses (count, numbering, the document's answer).
  Contracts: operations (oper, the document's answer).
  Contracts: whether operations may be.
  Contracts: pairs, the document's way.
  Contracts: all clauses (count, the document's answer).
  Contracts: all clauses (count).
  Contracts: whether operations may be (oper.Check, by maps).
  Contract: oper.Check.
  Contracts: count.All, count.Fits.
  Plain laws: with one operation, or one state, less there are no more clauses.
-/
import Derived.Test.YtpejmhpcgpnpaaaGreatAxBe
import Derived.Test.YtpejmhpcgpnpaaaGreatRows
namespace Go.AX
open Go.Proofs
@[simp] theorem fa_tk_3 : tk Tryz.prog 3 = .int ∧ ldInfo Tryz.prog 3 = some (false, 1) ∧ cvtK Tryz.prog 3 = some .i64 ∧ zeroL Tryz.prog 3 = some [.lit (.int .i64 0)] ∧ tk Tryz.prog 4 = .bool ∧ tk Tryz.prog 5 = .int ∧ cvtK Tryz.prog 5 = some .u8 ∧ tk Tryz.prog 9 = .string ∧ ldInfo Tryz.prog 9 = some (false, 1) ∧ tk Tryz.prog 26 = .int ∧ ldInfo Tryz.prog 26 = some (false, 1) ∧ tk Tryz.prog 33 = .slice ∧ ldInfo Tryz.prog 33 = some (false, 1) ∧ slSize Tryz.prog 33 = some 4 ∧ slInfo Tryz.prog 33 = some (4, 32) ∧ slZero Tryz.prog 33 = some [.lit (.int .i64 0), .lit (.int .i64 0), .lit (.int .i64 0), .lit (.int .i64 0)] ∧ ldInfo Tryz.prog 35 = some (true, 4) ∧ zeroL Tryz.prog 35 = some [.lit (.int .i64 0), .lit (.int .i64 0), .lit (.int .i64 0), .lit (.slice none 0 0)] ∧ zeroV Tryz.prog 35 = some [.lit (.int .i64 0), .lit (.int .i64 0), .lit (.int .i64 0), .lit (.slice none 0 0)] ∧ bInfo Tryz.prog 35 = some [(0, 1), (1, 1), (2, 1), (3, 1)] := by and_intros <;> kernel_rfl
@[simp] theorem fa_tk_36 : tk Tryz.prog 36 = .slice ∧ slSize Tryz.prog 36 = some 5 ∧ slInfo Tryz.prog 36 = some (5, 40) ∧ slZero Tryz.prog 36 = some [.lit (.int .i64 0), .lit (.int .i64 0), .lit (.int .i64 0), .lit (.int .i64 0), .lit (.int .i64 0)] ∧ tk Tryz.prog 37 = .slice ∧ ldInfo Tryz.prog 37 = some (false, 1) ∧ slSize Tryz.prog 37 = some 1 ∧ slInfo Tryz.prog 37 = some (1, 24) ∧ slZero Tryz.prog 37 = some [.lit (.slice none 0 0)] ∧ ldInfo Tryz.prog 39 = some (true, 2) ∧ zeroL Tryz.prog 39 = some [.lit (.int .i64 0), .lit (.slice none 0 0)] ∧ zeroV Tryz.prog 39 = some [.lit (.int .i64 0), .lit (.slice none 0 0)] ∧ bInfo Tryz.prog 39 = some [(0, 1), (1, 1)] ∧ ldInfo Tryz.prog 41 = some (true, 10) ∧ zeroL Tryz.prog 41 = some [.lit (.int .i64 0), .lit (.int .i64 0), .lit (.int .i64 0), .lit (.slice none 0 0), .lit (.slice none 0 0), .lit (.int .i64 0), .lit (.slice none 0 0), .lit (.int .i64 0), .lit (.int .i64 0), .lit (.bool false)] ∧ zeroV Tryz.prog 41 = some [.lit (.int .i64 0), .lit (.int .i64 0), .lit (.int .i64 0), .lit (.slice none 0 0), .lit (.slice none 0 0), .lit (.int .i64 0), .lit (.slice none 0 0), .lit (.int .i64 0), .lit (.int .i64 0), .lit (.bool false)] ∧ bInfo Tryz.prog 41 = some [(0, 4), (4, 1), (5, 2), (7, 1), (8, 1), (9, 1)] ∧ tk Tryz.prog 60 = .slice ∧ ldInfo Tryz.prog 60 = some (false, 1) ∧ slSize Tryz.prog 60 = some 3 := by and_intros <;> kernel_rfl
@[simp] theorem fa_si_60 : slInfo Tryz.prog 60 = some (3, 24) ∧ slZero Tryz.prog 60 = some [.lit (.int .i64 0), .lit (.int .i64 0), .lit (.int .i64 0)] ∧ ldInfo Tryz.prog 62 = some (true, 5) ∧ zeroL Tryz.prog 62 = some [.lit (.int .i64 0), .lit (.int .i64 0), .lit (.int .i64 0), .lit (.slice none 0 0), .lit (.slice none 0 0)] ∧ zeroV Tryz.prog 62 = some [.lit (.int .i64 0), .lit (.int .i64 0), .lit (.int .i64 0), .lit (.slice none 0 0), .lit (.slice none 0 0)] ∧ bInfo Tryz.prog 62 = some [(0, 4), (4, 1)] ∧ ldInfo Tryz.prog 64 = some (true, 11) ∧ zeroL Tryz.prog 64 = some [.lit (.int .i64 0), .lit (.int .i64 0), .lit (.int .i64 0), .lit (.slice none 0 0), .lit (.slice none 0 0), .lit (.slice none 0 0), .lit (.int .i64 0), .lit (.slice none 0 0), .lit (.int .i64 0), .lit (.int .i64 0), .lit (.bool false)] ∧ zeroV Tryz.prog 64 = some [.lit (.int .i64 0), .lit (.int .i64 0), .lit (.int .i64 0), .lit (.slice none 0 0), .lit (.slice none 0 0), .lit (.slice none 0 0), .lit (.int .i64 0), .lit (.slice none 0 0), .lit (.int .i64 0), .lit (.int .i64 0), .lit (.bool false)] ∧ bInfo Tryz.prog 64 = some [(0, 5), (5, 1), (6, 2), (8, 1), (9, 1), (10, 1)] ∧ tk Tryz.prog 92 = .slice ∧ ldInfo Tryz.prog 92 = some (false, 1) ∧ slSize Tryz.prog 92 = some 1 ∧ slInfo Tryz.prog 92 = some (1, 8) ∧ slZero Tryz.prog 92 = some [.lit (.int .i64 0)] ∧ ldInfo Tryz.prog 96 = some (true, 5) ∧ zeroL Tryz.prog 96 = some [.lit (.int .i64 0), .lit (.int .i64 0), .lit (.int .i64 0), .lit (.int .i64 0), .lit (.int .i64 0)] ∧ zeroV Tryz.prog 96 = some [.lit (.int .i64 0), .lit (.int .i64 0), .lit (.int .i64 0), .lit (.int .i64 0), .lit (.int .i64 0)] ∧ bInfo Tryz.prog 96 = some [(0, 1), (1, 1), (2, 1), (3, 1), (4, 1)] ∧ tk Tryz.prog 111 = .slice := by and_intros <;> kernel_rfl
@[simp] theorem fa_sl_111 : slSize Tryz.prog 111 = some 1 ∧ slInfo Tryz.prog 111 = some (1, 24) ∧ slZero Tryz.prog 111 = some [.lit (.slice none 0 0)] ∧ ldInfo Tryz.prog 117 = some (true, 3) ∧ zeroL Tryz.prog 117 = some [.lit (.int .i64 0), .lit (.int .i64 0), .lit (.int .i64 0)] ∧ zeroV Tryz.prog 117 = some [.lit (.int .i64 0), .lit (.int .i64 0), .lit (.int .i64 0)] ∧ bInfo Tryz.prog 117 = some [(0, 1), (1, 1), (2, 1)] ∧ tk Tryz.prog 120 = .slice ∧ ldInfo Tryz.prog 120 = some (false, 1) ∧ slSize Tryz.prog 120 = some 3 ∧ slInfo Tryz.prog 120 = some (3, 32) ∧ slZero Tryz.prog 120 = some [.lit (.int .i64 0), .lit (.int .i64 0), .lit (.string ByteArray.empty)] ∧ tk Tryz.prog 125 = .slice ∧ slSize Tryz.prog 125 = some 2 ∧ slInfo Tryz.prog 125 = some (2, 16) ∧ slZero Tryz.prog 125 = some [.lit (.int .i64 0), .lit (.int .i64 0)] ∧ tk Tryz.prog 154 = .slice ∧ slSize Tryz.prog 154 = some 1 ∧ slInfo Tryz.prog 154 = some (1, 24) ∧ slZero Tryz.prog 154 = some [.lit (.slice none 0 0)] := by and_intros <;> kernel_rfl
@[simp] theorem fa_tk_160 : tk Tryz.prog 160 = .slice ∧ ldInfo Tryz.prog 160 = some (false, 1) ∧ slSize Tryz.prog 160 = some 3 ∧ slInfo Tryz.prog 160 = some (3, 32) ∧ slZero Tryz.prog 160 = some [.lit (.int .i64 0), .lit (.int .i64 0), .lit (.string ByteArray.empty)] ∧ ldInfo Tryz.prog 163 = some (true, 3) ∧ zeroL Tryz.prog 163 = some [.lit (.int .i64 0), .lit (.int .i64 0), .lit (.string ByteArray.empty)] ∧ zeroV Tryz.prog 163 = some [.lit (.int .i64 0), .lit (.int .i64 0), .lit (.string ByteArray.empty)] ∧ bInfo Tryz.prog 163 = some [(0, 1), (1, 1), (2, 1)] ∧ ldInfo Tryz.prog 165 = some (false, 1) ∧ zeroL Tryz.prog 165 = some [.lit (.map none)] ∧ mpKey Tryz.prog 165 = true ∧ mpInfo Tryz.prog 165 = some (.lit (.int .i64 0)) ∧ ldInfo Tryz.prog 168 = some (true, 2) ∧ zeroL Tryz.prog 168 = some [.lit (.int .i64 0), .lit (.int .i64 0)] ∧ zeroV Tryz.prog 168 = some [.lit (.int .i64 0), .lit (.int .i64 0)] ∧ bInfo Tryz.prog 168 = some [(0, 1), (1, 1)] ∧ zeroV Tryz.prog 205 = some [.lit (.int .i64 0), .lit (.int .i64 0), .lit (.string ByteArray.empty)] ∧ bInfo Tryz.prog 205 = some [(0, 1), (1, 1), (2, 1)] ∧ tk Tryz.prog 209 = .flat 4 := by and_intros <;> kernel_rfl
@[simp] theorem fa_ld_209 : ldInfo Tryz.prog 209 = some (true, 4) ∧ zeroL Tryz.prog 209 = some [.lit (.int .i64 0), .lit (.int .i64 0), .lit (.int .i64 0), .lit (.int .i64 0)] ∧ zeroV Tryz.prog 209 = some [.lit (.int .i64 0), .lit (.int .i64 0), .lit (.int .i64 0), .lit (.int .i64 0)] ∧ bInfo Tryz.prog 209 = some [(0, 1), (1, 1), (2, 1), (3, 1)] ∧ ldInfo Tryz.prog 217 = some (true, 2) ∧ slSize Tryz.prog 217 = none ∧ arSize Tryz.prog 217 = some (2, 1) ∧ zeroL Tryz.prog 217 = some [.lit (.int .i64 0), .lit (.int .i64 0)] ∧ zeroV Tryz.prog 217 = some [.lit (.int .i64 0), .lit (.int .i64 0)] ∧ bInfo Tryz.prog 217 = some [(0, 1), (1, 1)] ∧ tk Tryz.prog 257 = .slice ∧ slSize Tryz.prog 257 = some 1 ∧ slZero Tryz.prog 257 = some [.lit (.slice none 0 0)] ∧ ldInfo Tryz.prog 262 = some (true, 3) ∧ zeroL Tryz.prog 262 = some [.lit (.int .i64 0), .lit (.int .i64 0), .lit (.int .i64 0)] ∧ zeroV Tryz.prog 262 = some [.lit (.int .i64 0), .lit (.int .i64 0), .lit (.int .i64 0)] ∧ bInfo Tryz.prog 262 = some [(0, 1), (1, 1), (2, 1)] ∧ zeroV Tryz.prog 272 = some [.lit (.int .i64 0), .lit (.int .i64 0), .lit (.int .i64 0), .lit (.slice none 0 0)] ∧ bInfo Tryz.prog 272 = some [(0, 4)] ∧ mpKey Tryz.prog 325 = true := by and_intros <;> kernel_rfl
@[simp] theorem fa_mp_325 : mpInfo Tryz.prog 325 = some (.agg [.lit (.int .i64 0), .lit (.int .i64 0), .lit (.int .i64 0), .lit (.int .i64 0), .lit (.int .i64 0)]) ∧ tk Tryz.prog 370 = .int ∧ cvtK Tryz.prog 370 = some .u64 ∧ tk Tryz.prog 393 = .int ∧ cvtK Tryz.prog 393 = some .u64 ∧ ldInfo Tryz.prog 396 = some (true, 4) ∧ zeroL Tryz.prog 396 = some [.lit (.int .i64 0), .lit (.int .i64 0), .lit (.int .i64 0), .lit (.int .i64 0)] ∧ zeroV Tryz.prog 396 = some [.lit (.int .i64 0), .lit (.int .i64 0), .lit (.int .i64 0), .lit (.int .i64 0)] ∧ bInfo Tryz.prog 396 = some [(0, 1), (1, 1), (2, 1), (3, 1)] ∧ arInfo Tryz.prog 396 = some (4, false, 1) ∧ slSize Tryz.prog 416 = some 1 ∧ slZero Tryz.prog 416 = some [.lit (.int .u8 0)] := by and_intros <;> kernel_rfl
@[simp] theorem fo_35_0 : fOff Tryz.prog 35 0 = some 0 := by kernel_rfl
@[simp] theorem fo_35_1 : fOff Tryz.prog 35 1 = some 1 := by kernel_rfl
@[simp] theorem fo_35_2 : fOff Tryz.prog 35 2 = some 2 := by kernel_rfl
@[simp] theorem fo_35_3 : fOff Tryz.prog 35 3 = some 3 := by kernel_rfl
@[simp] theorem fo_39_0 : fOff Tryz.prog 39 0 = some 0 := by kernel_rfl
@[simp] theorem fo_39_1 : fOff Tryz.prog 39 1 = some 1 := by kernel_rfl
@[simp] theorem fi_41_1 : fldInfo Tryz.prog 41 1 = some (4, false, 1) := by kernel_rfl
@[simp] theorem fo_41_2 : fOff Tryz.prog 41 2 = some 5 := by kernel_rfl
@[simp] theorem fo_41_4 : fOff Tryz.prog 41 4 = some 8 := by kernel_rfl
@[simp] theorem fo_62_0 : fOff Tryz.prog 62 0 = some 0 := by kernel_rfl
@[simp] theorem fo_62_1 : fOff Tryz.prog 62 1 = some 4 := by kernel_rfl
@[simp] theorem fo_64_2 : fOff Tryz.prog 64 2 = some 6 := by kernel_rfl
@[simp] theorem fo_64_4 : fOff Tryz.prog 64 4 = some 9 := by kernel_rfl
@[simp] theorem fo_96_0 : fOff Tryz.prog 96 0 = some 0 := by kernel_rfl
@[simp] theorem fo_96_1 : fOff Tryz.prog 96 1 = some 1 := by kernel_rfl
@[simp] theorem fo_96_2 : fOff Tryz.prog 96 2 = some 2 := by kernel_rfl
@[simp] theorem fo_96_3 : fOff Tryz.prog 96 3 = some 3 := by kernel_rfl
@[simp] theorem fo_96_4 : fOff Tryz.prog 96 4 = some 4 := by kernel_rfl
@[simp] theorem fo_117_0 : fOff Tryz.prog 117 0 = some 0 := by kernel_rfl
@[simp] theorem fo_117_1 : fOff Tryz.prog 117 1 = some 1 := by kernel_rfl
@[simp] theorem fo_117_2 : fOff Tryz.prog 117 2 = some 2 := by kernel_rfl
@[simp] theorem fo_163_1 : fOff Tryz.prog 163 1 = some 1 := by kernel_rfl
@[simp] theorem fo_163_2 : fOff Tryz.prog 163 2 = some 2 := by kernel_rfl
@[simp] theorem fo_168_0 : fOff Tryz.prog 168 0 = some 0 := by kernel_rfl
@[simp] theorem fo_168_1 : fOff Tryz.prog 168 1 = some 1 := by kernel_rfl
@[simp] theorem fo_205_1 : fOff Tryz.prog 205 1 = some 1 := by kernel_rfl
@[simp] theorem fo_205_2 : fOff Tryz.prog 205 2 = some 2 := by kernel_rfl
@[simp] theorem fo_209_0 : fOff Tryz.prog 209 0 = some 0 := by kernel_rfl
@[simp] theorem fo_209_1 : fOff Tryz.prog 209 1 = some 1 := by kernel_rfl
@[simp] theorem fo_209_2 : fOff Tryz.prog 209 2 = some 2 := by kernel_rfl
@[simp] theorem fo_209_3 : fOff Tryz.prog 209 3 = some 3 := by kernel_rfl
@[simp] theorem fo_262_0 : fOff Tryz.prog 262 0 = some 0 := by kernel_rfl
@[simp] theorem fo_262_1 : fOff Tryz.prog 262 1 = some 1 := by kernel_rfl
@[simp] theorem fo_262_2 : fOff Tryz.prog 262 2 = some 2 := by kernel_rfl
@[simp] theorem fo_272_0 : fOff Tryz.prog 272 0 = some 0 := by kernel_rfl
theorem hmo : Tryz.prog.follows .mixedOrders = true := by kernel_rfl
/-! ### Plain laws -/
theorem w64_half (x : Int) : w64 ((w64 x).tdiv 2) = (w64 x).tdiv 2 := by
 have h1 := w64_lo x; have h2 := w64_hi x; have h3 := Int.mul_tdiv_add_tmod (w64 x) 2; have h4 := Int.tmod_lt_of_pos (w64 x) (show (0 : Int) < 2 by omega); have h5 : -2 < (w64 x).tmod 2 := by have := Int.lt_tmod_of_pos (w64 x) (show (0 : Int) < 2 by omega); omega
 exact w64_id (by omega) (by omega)
def chooseS (n : Int) : Int := (w64 (n * (n - 1))).tdiv 2
def sizeOk (a b : Int) : Bool := !(decide (a < 0) || decide (a > 64) || decide (b < 1) || decide (b > 32))
theorem sizeOk_iff {a b : Int} : sizeOk a b = true ↔ 0 ≤ a ∧ a ≤ 64 ∧ 1 ≤ b ∧ b ≤ 32 := by
 simp [sizeOk]; omega
theorem chooseS_two {a : Int} (h0 : 0 ≤ a) (h1 : a ≤ 64) : 2 * chooseS a = a * (a - 1) := by
 obtain ⟨k, rfl⟩ := Int.eq_ofNat_of_zero_le h0; have hk : k < 65 := by omega
 have key : ∀ j : Fin 65, 2 * chooseS (j.val : Int) = (j.val : Int) * ((j.val : Int) - 1) := by decide +kernel
 exact key ⟨k, hk⟩
def timesOk (n m p : Int) : Bool := sizeOk n m && !(decide (p < 0) || decide (p > 2016))
theorem timesOk_iff {n m p : Int} : timesOk n m p = true ↔ sizeOk n m = true ∧ 0 ≤ p ∧ p ≤ 2016 := by simp [timesOk]
def placesN (n m : Int) : Int := if sizeOk n m then w64 (n + n * n * (n - 1)) else 0
def timesN (n m p : Int) : Int := if timesOk n m p then w64 (p * chooseS n) else 0
def statesN (n m : Int) : Int := if sizeOk n m then w64 (1 + (n + 1) * (1 + chooseS m)) else 0
def movesOk (n m e : Int) : Bool := sizeOk n m && !(decide (e < 0) || decide (e > n))
theorem movesOk_iff {n m e : Int} : movesOk n m e = true ↔ sizeOk n m = true ∧ 0 ≤ e ∧ e ≤ n := by simp [movesOk]
def movesN (n m e : Int) : Int := if movesOk n m e then w64 (e * (1 + n * m) + (n - e) * (2 * n * m)) else 0
def movesSum (n m e i : Int) : Int := if i ≤ e then i * (1 + n * m) else e * (1 + n * m) + (i - e) * (2 * n * m)
theorem movesSum_lt {n m e i : Int} (h : i < e) : movesSum n m e (i + 1) = movesSum n m e i + 1 + n * m := by
 unfold movesSum; rw [if_pos (by omega), if_pos (by omega)]; grind
theorem movesSum_ge {n m e i : Int} (h : e ≤ i) : movesSum n m e (i + 1) = movesSum n m e i + 2 * n * m := by
 unfold movesSum; rw [if_neg (by omega)]; by_cases h2 : i ≤ e
 ·have : i = e := by omega
  subst this; rw [if_pos h2]; grind
 ·rw [if_neg h2]; grind
theorem movesSum_all {n m e : Int} (h : e ≤ n) : movesSum n m e n = e * (1 + n * m) + (n - e) * (2 * n * m) := by
 unfold movesSum; split
 ·have : n = e := by omega
  subst this; grind
 ·rfl
/-! ### Walks -/
theorem choose_ok (n : Int) : APure Tryz.prog 406 [I64 n] (fun r => r = .pv (I64 (chooseS n))) := by
 refine apure1 hmo Tryz.func406 ?_; simp [chooseS, w64_half]
theorem check_ok (a b : Int) : APure Tryz.prog 165 [.agg [I64 a, I64 b]] (fun r => r = .pv (I64 (if sizeOk a b then 0 else 2))) := by
 refine apure1 hmo Tryz.func165 ?_; simp [sizeOk]; omega
theorem refCheck_ok (a b : Int) : APure Tryz.prog 126 [I64 a, I64 b] (fun r => r = .pv (I64 (if sizeOk a b then 0 else 2))) := by
 refine apure1 hmo Tryz.func126 ?_; simp [sizeOk]; omega
theorem may_ok (a b : Int) : APure Tryz.prog 344 [.agg [I64 a, I64 b]] (fun r => r = .pv (BL (sizeOk a b))) := by
 refine apure1 hmo Tryz.func344 ?_; simp; refine CallK.intro (check_ok a b) ?_; simp
theorem places_ok (a b : Int) : APure Tryz.prog 345 [.agg [I64 a, I64 b]] (fun r => r = .pv (I64 (placesN a b))) := by
 refine apure1 hmo Tryz.func345 ?_; simp; refine CallK.intro (may_ok a b) ?_; simp; refine ⟨fun h => by simp [placesN, h], fun h => ?_⟩; refine CallQ0.intro (choose_ok a) ?_; simp [placesN, h]; have := sizeOk_iff.1 h; congr 1; have := chooseS_two this.1 this.2.1
 grind
theorem refPlaces_ok (a b : Int) : APure Tryz.prog 311 [I64 a, I64 b] (fun r => r = .pv (I64 (placesN a b))) := by
 refine apure1 hmo Tryz.func311 ?_; simp; refine CallK.intro (refCheck_ok a b) ?_; simp [placesN]; exact ⟨fun h h' => by simp [h] at h', fun h => by simp [h]⟩
theorem times_ok (a b p : Int) : APure Tryz.prog 346 [.agg [I64 a, I64 b], I64 p] (fun r => r = .pv (I64 (timesN a b p))) := by
 refine apure1 hmo Tryz.func346 ?_; simp; refine CallK.intro (may_ok a b) ?_; simp; refine ⟨fun h => ?_, fun h1 h2 h3 => ?_⟩
 ·simp only [timesN]; rw [if_neg (fun hh => by have := timesOk_iff.1 hh; simp [this.1] at h; omega)]
 refine CallK.intro (choose_ok a) ?_; simp [timesN, timesOk_iff.2 ⟨h1, h2, h3⟩]
theorem refTimes_ok (a b p : Int) : APure Tryz.prog 312 [I64 a, I64 b, I64 p] (fun r => r = .pv (I64 (timesN a b p))) := by
 refine apure1 hmo Tryz.func312 ?_; simp; refine CallK.intro (refCheck_ok a b) ?_; simp; refine ⟨fun h => ?_, fun h1 h2 h3 => ?_⟩
 ·simp only [timesN]; rw [if_neg (fun hh => by have := timesOk_iff.1 hh; simp [this.1] at h; omega)]
 simp [timesN, timesOk_iff.2 ⟨h1, h2, h3⟩, chooseS, Int.mul_comm p]
theorem states_ok (a b : Int) : APure Tryz.prog 347 [.agg [I64 a, I64 b]] (fun r => r = .pv (I64 (statesN a b))) := by
 refine apure1 hmo Tryz.func347 ?_; simp; refine CallK.intro (may_ok a b) ?_; simp; refine ⟨fun h => by simp [statesN, h], fun h => ?_⟩; refine CallQ0.intro (choose_ok b) ?_; simp [statesN, h]
theorem refStates_ok (a b : Int) : APure Tryz.prog 313 [I64 a, I64 b] (fun r => r = .pv (I64 (statesN a b))) := by
 refine apure1 hmo Tryz.func313 ?_; simp; refine CallK.intro (refCheck_ok a b) ?_; simp [statesN, chooseS, w64_half]; exact ⟨fun h h' => by simp [h] at h', fun h => by simp [h]⟩
theorem moves_ok (a b e : Int) : APure Tryz.prog 348 [.agg [I64 a, I64 b], I64 e] (fun r => r = .pv (I64 (movesN a b e))) := by
 refine apure1 hmo Tryz.func348 ?_; simp; refine CallK.intro (may_ok a b) ?_; simp; refine ⟨fun h => ?_, fun h1 h2 h3 => ?_⟩
 ·simp only [movesN]; rw [if_neg (fun hh => by have := movesOk_iff.1 hh; simp [this.1] at h; omega)]
 simp [movesN, movesOk_iff.2 ⟨h1, h2, h3⟩]; congr 1
 grind
theorem refMoves_ok (n m e : Int) : APure Tryz.prog 314 [I64 n, I64 m, I64 e] (fun r => r = .pv (I64 (movesN n m e))) := by
 refine apure1 hmo Tryz.func314 ?_; simp; refine CallK.intro (refCheck_ok n m) ?_; simp; refine ⟨?_, fun h1 h2 h3 => ?_⟩
 ·intro h; simp only [movesN]; rw [if_neg (fun hh => by have := movesOk_iff.1 hh; simp [this.1] at h; omega)]
 have hok : movesOk n m e = true := by simp [movesOk, h1]; omega
 have hs : 0 ≤ n ∧ n ≤ 64 := by simp [sizeOk] at h1; omega
 simp only [movesN, hok, if_true]; refine ALoop.intro (S := fun (i : Int) => ⟨[(7, .pv (I64 (w64 (movesSum n m e i)))), (8, .pv (I64 i)), (0, .pv (I64 n)), (1, .pv (I64 m)), (2, .pv (I64 e))], []⟩) (fun i => 0 ≤ i ∧ i ≤ n) (fun i => (n - i).toNat) 0 ?_ ?_ ?_
 ·exact Weak.to (by simp [movesSum, h2]; decide) rfl (by simp) (by simp) (by simp)
 ·omega
 ·intro i hi; simp; refine ⟨fun h4 => ⟨fun h5 => ⟨i + 1, by dsimp only; omega, by dsimp only; omega, Weak.to ?_ rfl (by simp) (by simp) (by simp)⟩, fun h5 => ⟨i + 1, by dsimp only; omega, by dsimp only; omega, Weak.to ?_ rfl (by simp) (by simp) (by simp)⟩⟩, fun h4 => ?_⟩
  ·simp [movesSum_lt h5, w64_id (show -9223372036854775808 ≤ i + 1 by omega) (by omega)]
  ·simp [movesSum_ge h5, w64_id (show -9223372036854775808 ≤ i + 1 by omega) (by omega)]
  ·have : i = n := by omega
   rw [this, movesSum_all h3]
structure Op5 where
  p : Int
  k : Int
  s : Int
  e : Int
  r : Int
  deriving DecidableEq, Inhabited
def orow (o : Op5) : List PV := [I64 o.p, I64 o.k, I64 o.s, I64 o.e, I64 o.r]
def ovec (ops : List Op5) : PV := .seq false 5 (ops.map orow)
def aheadS (a b : Op5) : Bool := decide (a.e ≥ 0) && decide (a.e < b.s)
theorem ahead_ok (a b : Op5) : APure Tryz.prog 173 [.agg (orow a), .agg (orow b)] (fun r => r = .pv (BL (aheadS a b))) := by
 refine apure1 hmo Tryz.func173 ?_; simp [orow, aheadS]
theorem refAhead_ok (a b : Op5) : APure Tryz.prog 42 [.agg (orow a), .agg (orow b)] (fun r => r = .pv (BL (aheadS a b))) := by
 refine apure1 hmo Tryz.func42 ?_; simp [orow, aheadS]
def endedS (o : Op5) : Bool := if o.e = -1 then decide (o.r = -1) else decide (o.e > o.s) && decide (o.e ≤ 9999) && decide (o.r ≥ 0) && decide (o.r ≤ 1000000)
theorem ended_ok (o : Op5) : APure Tryz.prog 325 [.agg (orow o)] (fun r => r = .pv (BL (endedS o))) := by
 refine apure1 hmo Tryz.func325 ?_; simp [orow, endedS]; exact ⟨fun h h' => absurd h h', fun h h' => absurd h' h⟩
def aloneS (o : Op5) : Int := if o.p < 1 ∨ o.p > 1000 ∨ o.s < 0 ∨ o.s > 9999 then 2 else if o.k < 0 ∨ o.k ≥ 64 then 31 else if endedS o then 0 else 7
set_option maxRecDepth 4000 in
theorem alone_ok (o : Op5) : APure Tryz.prog 237 [.agg (orow o)] (fun r => r = .pv (I64 (aloneS o))) := by
 refine apure1 hmo Tryz.func237 ?_; simp [orow]; refine ⟨fun h => by rw [aloneS, if_pos (by omega)], fun h1 h2 h3 h4 => ⟨fun h => by rw [aloneS, if_neg (by omega), if_pos (by omega)], fun h5 h6 => ?_⟩⟩; refine CallK.intro (ended_ok o) ?_; simp; have : aloneS o = if endedS o = true then 0 else 7 := by rw [aloneS, if_neg (by omega), if_neg (by omega)]
 simp [this]
@[simp] theorem belowR_orow (k : Nat) (ops : List Op5) : belowR k (ops.map orow) := by
 rw [belowR_iff]; intro r hr x hx; obtain ⟨o, _, rfl⟩ := List.mem_map.1 hr; simp [orow] at hx; rcases hx with rfl | rfl | rfl | rfl | rfl <;> trivial
@[simp] theorem belowR_ints (k : Nat) (l : List Int) : belowR k (l.map fun i => [I64 i]) := by
 rw [belowR_iff]; intro r hr x hx; obtain ⟨o, _, rfl⟩ := List.mem_map.1 hr; simp at hx; subst hx; trivial
def pendTo (ops : List Op5) (n : Nat) : List Int := ((List.range n).filter fun j => decide ((ops.getD j default).e = -1)).map Int.ofNat
theorem pendTo_succ (ops : List Op5) {n : Nat} (h : n < ops.length) : pendTo ops (n + 1) = if ops[n].e = -1 then pendTo ops n ++ [(n : Int)] else pendTo ops n := by
 unfold pendTo; rw [List.range_succ, List.filter_append, List.map_append]; simp only [List.filter_cons, List.filter_nil, List.getD_eq_getElem?_getD, List.getElem?_eq_getElem h, Option.getD_some]; split <;> simp_all
theorem pendTo_length (ops : List Op5) (n : Nat) : (pendTo ops n).length ≤ n := by
 unfold pendTo; rw [List.length_map]; exact Nat.le_trans (List.length_filter_le _ _) (by simp)
theorem pending_ok (ops : List Op5) (hl : ops.length ≤ 1000000) : APure Tryz.prog 349 [ovec ops] (fun r => r = .own true 1 ((pendTo ops ops.length).map fun i => [I64 i])) := by
 refine apure1 hmo Tryz.func349 ?_; simp [ovec]; refine ALoop.intro (S := fun (i : Nat) => ⟨[(3, .own true 1 ((pendTo ops i).map fun i => [I64 i])), (6, .pv (ovec ops)), (7, .pv (I64 ops.length)), (8, .pv (I64 i))], []⟩) (fun i => i ≤ ops.length) (fun i => ops.length - i) 0 ?_ ?_ ?_
 ·exact (Weak.nilOwn (s := 3) 1 true (by simp)).trans (Weak.to (by simp [pendTo, ovec]) rfl (by simp) (by simp [ovec]) (by simp))
 ·omega
 ·intro i hi; by_cases h : i < ops.length
  ·have hw := wnx i; have hn := pendTo_length ops i; simp [ovec, h, orow]; refine ⟨fun h1 => ⟨by omega, i + 1, by dsimp only; omega, by dsimp only; omega, Weak.to ?_ rfl (by simp) (by simp) (by simp)⟩, fun h1 => ⟨i + 1, by dsimp only; omega, by dsimp only; omega, Weak.to ?_ rfl (by simp) (by simp) (by simp)⟩⟩
   ·simp [pendTo_succ ops h, h1, hw]
   ·simp [pendTo_succ ops h, h1, hw]
  ·simp [h]; have : i = ops.length := by omega
   rw [this]
theorem refPending_ok (ops : List Op5) (hl : ops.length ≤ 1000000) : APure Tryz.prog 315 [ovec ops] (fun r => r = .own true 1 ((pendTo ops ops.length).map fun i => [I64 i])) := by
 refine apure1 hmo Tryz.func315 ?_; simp [ovec]; refine ALoop.intro (S := fun (i : Nat) => ⟨[(3, .own true 1 ((pendTo ops i).map fun i => [I64 i])), (0, .pv (ovec ops)), (4, .pv (I64 i))], []⟩) (fun i => i ≤ ops.length) (fun i => ops.length - i) 0 ?_ ?_ ?_
 ·exact (Weak.nilOwn (s := 3) 1 true (by simp)).trans (Weak.to (by simp [pendTo, ovec]) rfl (by simp) (by simp [ovec]) (by simp))
 ·omega
 ·intro i hi; by_cases h : i < ops.length
  ·have hw := wnx i; have hn := pendTo_length ops i; simp [ovec, h, orow]; refine ⟨fun h1 => ⟨by omega, i + 1, by dsimp only; omega, by dsimp only; omega, Weak.to ?_ rfl (by simp) (by simp) (by simp)⟩, fun h1 => ⟨i + 1, by dsimp only; omega, by dsimp only; omega, Weak.to ?_ rfl (by simp) (by simp) (by simp)⟩⟩
   ·simp [pendTo_succ ops h, h1, hw]
   ·simp [pendTo_succ ops h, h1, hw]
  ·simp [ovec, h]; have : i = ops.length := by omega
   rw [this]
/-! ### Pairs -/
def prow (p : Int × Int) : List PV := [I64 p.1, I64 p.2]
@[simp] theorem belowR_prow (k : Nat) (l : List (Int × Int)) : belowR k (l.map prow) := by
 rw [belowR_iff]; intro r hr x hx; obtain ⟨o, _, rfl⟩ := List.mem_map.1 hr; simp [prow] at hx; rcases hx with rfl | rfl <;> trivial
def pairsRow (ops : List Op5) (i j : Nat) : List (Int × Int) := ((List.range j).filter fun b => aheadS (ops.getD i default) (ops.getD b default)).map fun (b : Nat) => ((i : Int), (b : Int))
def pairsTo (ops : List Op5) (i : Nat) : List (Int × Int) := (List.range i).flatMap fun a => pairsRow ops a ops.length
theorem pairsRow_succ (ops : List Op5) (i : Nat) {j : Nat} (hi : i < ops.length) (h : j < ops.length) : pairsRow ops i (j + 1) = if aheadS ops[i] ops[j] = true then pairsRow ops i j ++ [((i : Int), (j : Int))] else pairsRow ops i j := by
 unfold pairsRow; rw [List.range_succ, List.filter_append, List.map_append]; simp only [List.filter_cons, List.filter_nil, List.getD_eq_getElem?_getD, List.getElem?_eq_getElem h, List.getElem?_eq_getElem hi, Option.getD_some]; split <;> simp_all
theorem pairsTo_succ (ops : List Op5) (i : Nat) : pairsTo ops (i + 1) = pairsTo ops i ++ pairsRow ops i ops.length := by
 unfold pairsTo; rw [List.range_succ, List.flatMap_append]; simp
theorem pairsRow_length (ops : List Op5) (i j : Nat) : (pairsRow ops i j).length ≤ j := by
 unfold pairsRow; rw [List.length_map]; exact Nat.le_trans (List.length_filter_le _ _) (by simp)
theorem pairsTo_length (ops : List Op5) : ∀ i, (pairsTo ops i).length ≤ i * ops.length
 | 0 => by simp [pairsTo]
 | i + 1 => by
  rw [pairsTo_succ, List.length_append, Nat.succ_mul]; have := pairsTo_length ops i; have := pairsRow_length ops i ops.length; omega
theorem pairs_ok (ops : List Op5) (hl : ops.length ≤ 1000000) : APure Tryz.prog 90 [ovec ops] (fun r => r = .own true 2 ((pairsTo ops ops.length).map prow)) := by
 refine apure1 hmo Tryz.func90 ?_; simp [ovec]; refine ALoop.intro (S := fun (i : Nat) => ⟨[(3, .own true 2 ((pairsTo ops i).map prow)), (8, .pv (ovec ops)), (9, .pv (I64 ops.length)), (10, .pv (I64 i)), (0, .pv (ovec ops))], []⟩) (fun i => i ≤ ops.length) (fun i => ops.length - i) 0 ?_ ?_ ?_
 ·exact (Weak.nilOwn (s := 3) 2 true (by simp)).trans (Weak.to (by simp [pairsTo, ovec]) rfl (by simp) (by simp [ovec]) (by simp))
 ·omega
 ·intro i hi; by_cases h : i < ops.length
  ·have hw := wnx i; have hn := pairsTo_length ops i; have hn2 : i * ops.length ≤ 1000000 * 1000000 := Nat.mul_le_mul (by omega) hl; simp [ovec, h, orow]; refine ALoop.intro (S := fun (j : Nat) => ⟨[(3, .own true 2 ((pairsTo ops i ++ pairsRow ops i j).map prow)), (15, .pv (ovec ops)), (16, .pv (I64 ops.length)), (17, .pv (I64 j)), (4, .pv (I64 i)), (5, .pv (.ptr 0 0)), (8, .pv (ovec ops)), (9, .pv (I64 ops.length)), (10, .pv (I64 i)), (0, .pv (ovec ops))], [(orow ops[i]).map .pv]⟩) (fun j => j ≤ ops.length) (fun j => ops.length - j) 0 ?_ ?_ ?_
   ·exact Weak.to (by simp [pairsRow, ovec]) (by simp [orow]) (by simp) (by simp [ovec]) (by simp [orow])
   ·omega
   ·intro j hj; by_cases h2 : j < ops.length
    ·have hw2 := wnx j; have hm := pairsRow_length ops i j; simp [ovec, h2, orow]; refine CallK.intro (ahead_ok ops[i] ops[j]) ?_; simp; refine ⟨fun h3 => ⟨by omega, j + 1, by dsimp only; omega, by dsimp only; omega, Weak.to ?_ (by simp [orow]) (by simp) (by simp [ovec]) (by simp [orow])⟩, fun h3 => ⟨j + 1, by dsimp only; omega, by dsimp only; omega, Weak.to ?_ (by simp [orow]) (by simp) (by simp [ovec]) (by simp [orow])⟩⟩
     ·simp [pairsRow_succ ops i h h2, h3, hw2, ovec, prow]
     ·simp [pairsRow_succ ops i h h2, h3, hw2, ovec]
    ·simp [h2]; have : j = ops.length := by omega
     refine ⟨i + 1, by dsimp only; omega, by dsimp only; omega, Weak.to ?_ rfl (by simp) (by simp [ovec]) (by simp)⟩; simp [pairsTo_succ, this, hw, ovec]
  ·simp [h]; have : i = ops.length := by omega
   rw [this]
/-! ### Plain laws -/
def meetsS (a b : Op5) : Bool := decide (a.s = b.s) || decide (a.e = b.s) || decide (a.s = b.e) || (decide (a.e = b.e) && !decide (a.e = -1))
def badS (a o : Op5) : Bool := decide (o.s ≤ a.s) || meetsS a o
def openS (a o : Op5) : Bool := decide (a.p = o.p) && !aheadS a o
def stepE (pre : List Op5) (o : Op5) : Int := if aloneS o ≠ 0 then aloneS o else if pre.any (fun a => badS a o) = true then 32 else if pre.any (fun a => openS a o) = true then 33 else 0
def errAt (ops : List Op5) (i : Nat) : Int := stepE (ops.take i) (ops.getD i default)
def okTo (ops : List Op5) (i : Nat) : Prop := ∀ j, j < i → errAt ops j = 0
def chk (ops : List Op5) : Int × Int :=
 if ops.length > 5000 then (0, 3) else match (List.range ops.length).find? (fun i => decide (errAt ops i ≠ 0)) with
 | some i => ((i : Int), errAt ops i)
 | none => ((ops.length : Int), 0)
theorem chk_big {ops : List Op5} (h : ops.length > 5000) : chk ops = (0, 3) := by unfold chk; rw [if_pos h]
theorem chk_bad {ops : List Op5} (h : ops.length ≤ 5000) {i : Nat} (hi : i < ops.length) (ho : okTo ops i) (he : errAt ops i ≠ 0) : chk ops = ((i : Int), errAt ops i) := by
 unfold chk; rw [if_neg (by omega)]; have : (List.range ops.length).find? (fun i => decide (errAt ops i ≠ 0)) = some i := by
  rw [List.find?_range_eq_some]; refine ⟨by simpa using he, by simpa using hi, fun j hj => by simpa using ho j hj⟩
 rw [this]
theorem chk_ok {ops : List Op5} (h : ops.length ≤ 5000) (ho : okTo ops ops.length) : chk ops = ((ops.length : Int), 0) := by
 unfold chk; rw [if_neg (by omega)]; have : (List.range ops.length).find? (fun i => decide (errAt ops i ≠ 0)) = none := by
  rw [List.find?_range_eq_none]; intro j hj; simpa using ho j hj
 rw [this]
theorem okTo_succ {ops : List Op5} {i : Nat} (h : okTo ops i) (he : errAt ops i = 0) : okTo ops (i + 1) := fun j hj => by
 rcases Nat.lt_or_ge j i with h1 | h1
 ·exact h j h1
 ·have : j = i := by omega
  subst this; exact he
theorem errAt_eq {ops : List Op5} {i : Nat} (h : i < ops.length) : errAt ops i = stepE (ops.take i) ops[i] := by
 unfold errAt; simp [h]
theorem chk_alone {ops : List Op5} {i : Nat} (h : ops.length ≤ 5000) (hi : i < ops.length) (ho : okTo ops i) {n : Int} (hn : aloneS ops[i] = n) (h0 : n ≠ 0) : chk ops = ((i : Int), n) := by
 have he : errAt ops i = n := by rw [errAt_eq hi, stepE, if_pos (by rw [hn]; exact h0), hn]
 rw [chk_bad h hi ho (by rw [he]; exact h0), he]
theorem chk_order {ops : List Op5} {i : Nat} (h : ops.length ≤ 5000) (hi : i < ops.length) (ho : okTo ops i) (hn : aloneS ops[i] = 0) (hb : (ops.take i).any (fun a => badS a ops[i]) = true) : chk ops = ((i : Int), 32) := by
 have he : errAt ops i = 32 := by rw [errAt_eq hi, stepE, if_neg (by simp [hn]), if_pos hb]
 rw [chk_bad h hi ho (by rw [he]; decide), he]
theorem chk_open {ops : List Op5} {i : Nat} (h : ops.length ≤ 5000) (hi : i < ops.length) (ho : okTo ops i) (hn : aloneS ops[i] = 0) (hb : (ops.take i).any (fun a => badS a ops[i]) = false) (hc : (ops.take i).any (fun a => openS a ops[i]) = true) : chk ops = ((i : Int), 33) := by
 have he : errAt ops i = 33 := by rw [errAt_eq hi, stepE, if_neg (by simp [hn]), if_neg (by simp [hb]), if_pos hc]
 rw [chk_bad h hi ho (by rw [he]; decide), he]
theorem errAt_zero {ops : List Op5} {i : Nat} (hi : i < ops.length) (hn : aloneS ops[i] = 0) (hb : (ops.take i).any (fun a => badS a ops[i]) = false) (hc : (ops.take i).any (fun a => openS a ops[i]) = false) : errAt ops i = 0 := by
 rw [errAt_eq hi, stepE, if_neg (by simp [hn]), if_neg (by simp [hb]), if_neg (by simp [hc])]
theorem any_take_true {ops : List Op5} {i k : Nat} (f : Op5 → Bool) (hi : i ≤ ops.length) (hk : k < i) (h : f (ops[k]'(by omega)) = true) : (ops.take i).any f = true := by
 rw [List.any_eq_true]; exact ⟨_, List.mem_take_iff_getElem.2 ⟨k, by omega, rfl⟩, h⟩
theorem any_take_succ {ops : List Op5} {k : Nat} (f : Op5 → Bool) (h : k < ops.length) : (ops.take (k + 1)).any f = ((ops.take k).any f || f ops[k]) := by
 rw [List.take_succ_eq_append_getElem h, List.any_append]; simp
/-! ### The document's answer -/
set_option maxRecDepth 4000 in
theorem meets_ok (a b : Op5) : APure Tryz.prog 135 [.agg (orow a), .agg (orow b)] (fun r => r = .pv (BL (meetsS a b))) := by
 refine apure1 hmo Tryz.func135 ?_; simp [orow, meetsS]
 grind
def openTo (ops : List Op5) (k : Nat) (o : Op5) : Bool := (ops.take k).any fun a => openS a o
theorem openTo_succ {ops : List Op5} {k : Nat} (h : k < ops.length) (o : Op5) : openTo ops (k + 1) o = (openTo ops k o || openS ops[k] o) := any_take_succ _ h
set_option maxRecDepth 8000 in
set_option maxHeartbeats 1000000 in
theorem refChk_ok (ops : List Op5) (hl : ops.length ≤ 140737488355328) : APure Tryz.prog 66 [ovec ops] (fun r => r = .pv (.tup [I64 (chk ops).1, I64 (chk ops).2])) := by
 refine apureN [2, 3] hmo Tryz.func66 (fun _ _ => results_tmp2 rfl _ _ _) ?_; simp [ovec]; refine ⟨fun h => by rw [chk_big (by omega)]; exact ⟨rfl, rfl⟩, fun h => ?_⟩; refine ALoop.intro (S := fun (i : Nat) => ⟨[(0, .pv (ovec ops)), (4, .pv (I64 i))], []⟩) (fun i => i ≤ ops.length ∧ okTo ops i) (fun i => ops.length - i) 0 ?_ ?_ ?_
 ·exact Weak.to (by simp [ovec]) rfl (by simp) (by simp [ovec]) (by simp)
 ·exact ⟨by omega, fun j hj => by omega⟩
 ·intro i ⟨hi, hok⟩; by_cases hlt : i < ops.length
  ·have hw := wnx i; simp [ovec, hlt, orow]; refine ⟨fun hc => ?_, fun a1 a2 a3 a4 => ⟨fun hc => ?_, fun a5 a6 => ⟨by grind, by grind, by grind, by grind, fun hc => ?_, fun a7 a8 => ?_⟩⟩⟩
   ·rw [chk_alone (by omega) hlt hok (n := 2) (by rw [aloneS, if_pos (by omega)]) (by decide)]; exact ⟨rfl, rfl⟩
   ·rw [chk_alone (by omega) hlt hok (n := 31) (by rw [aloneS, if_neg (by omega), if_pos (by omega)]) (by decide)]; exact ⟨rfl, rfl⟩
   ·rw [chk_alone (by omega) hlt hok (n := 7) (by rw [aloneS, if_neg (by omega), if_neg (by omega), if_neg (by simp only [endedS]; split <;> simp <;> omega)]) (by decide)]; exact ⟨rfl, rfl⟩
   have hal : aloneS ops[i] = 0 := by rw [aloneS, if_neg (by omega), if_neg (by omega), if_pos (by simp only [endedS]; split <;> simp <;> omega)]
   refine ALoop.intro (S := fun (k : Nat) => ⟨[(0, .pv (ovec ops)), (4, .pv (I64 i)), (5, .pv (.ptr 0 0)), (6, .pv (BL (openTo ops k ops[i]))), (7, .pv (I64 k))], [(orow ops[i]).map .pv]⟩) (fun k => k ≤ i ∧ (ops.take k).any (fun a => badS a ops[i]) = false) (fun k => i - k) 0 ?_ ?_ ?_
   ·exact Weak.to (by simp [ovec, openTo]) (by simp [orow]) (by simp) (by simp [ovec]) (by simp [orow])
   ·exact ⟨by omega, by simp⟩
   ·intro k ⟨hk, hbad⟩; by_cases hk2 : k < i
    ·have hk3 : k < ops.length := by omega
     have hw2 := wnx k; simp [ovec, hk2, hk3, orow]; refine CallQ.intro (r := .pv (BL (meetsS ops[k] ops[i]))) (fun _ => meets_ok ops[k] ops[i]) ?_; simp; refine ⟨fun hc => ?_, fun b1 b2 => ?_⟩
     ·rw [chk_order (by omega) hlt hok hal (any_take_true _ hi hk2 (by simp [badS]; exact hc))]; exact ⟨rfl, rfl⟩
     have hb : badS ops[k] ops[i] = false := by simp [badS]; exact ⟨b1, b2⟩
     simp [hk3, orow]; refine ⟨fun g1 g2 => ⟨g1, g2⟩, CallQ.intro (r := .pv (BL (aheadS ops[k] ops[i]))) (fun _ => refAhead_ok ops[k] ops[i]) ?_⟩; simp; have h9 : (ops.take (k + 1)).any (fun a => badS a ops[i]) = false := by rw [any_take_succ _ hk3, hbad, hb]; rfl
     refine ⟨fun g1 => ⟨g1, fun g2 => ⟨g1, g2⟩⟩, k + 1, by dsimp only; omega, ⟨by omega, by simpa using h9⟩, Weak.to ?_ (by simp [orow]) (by simp) (by simp) (by simp)⟩; simp [openTo_succ hk3, openS, hw2, ovec]
    ·simp [hk2]; have : k = i := by omega
     subst this; refine ⟨fun hc => by rw [chk_open (by omega) hlt hok hal hbad hc]; exact ⟨rfl, rfl⟩, fun hc => ⟨k + 1, by dsimp only; omega, ⟨by omega, okTo_succ hok (errAt_zero hlt hal hbad hc)⟩, Weak.to ?_ rfl (by simp) (by simp) (by simp)⟩⟩; simp [hw, ovec]
  ·simp [ovec, hlt]; have : i = ops.length := by omega
   subst this; rw [chk_ok (by omega) hok]; simp
theorem refPairs_ok (ops : List Op5) (hl : ops.length ≤ 1000000) : APure Tryz.prog 59 [ovec ops] (fun r => r = .own true 2 ((pairsTo ops ops.length).map prow)) := by
 refine apure1 hmo Tryz.func59 ?_; simp [ovec]; refine ALoop.intro (S := fun (i : Nat) => ⟨[(3, .own true 2 ((pairsTo ops i).map prow)), (4, .pv (I64 i)), (0, .pv (ovec ops))], []⟩) (fun i => i ≤ ops.length) (fun i => ops.length - i) 0 ?_ ?_ ?_
 ·exact (Weak.nilOwn (s := 3) 2 true (by simp)).trans (Weak.to (by simp [pairsTo, ovec]) rfl (by simp) (by simp [ovec]) (by simp))
 ·omega
 ·intro i hi; by_cases h : i < ops.length
  ·have hw := wnx i; have hn := pairsTo_length ops i; have hn2 : i * ops.length ≤ 1000000 * 1000000 := Nat.mul_le_mul (by omega) hl; simp [ovec, h, orow]; refine ALoop.intro (S := fun (j : Nat) => ⟨[(3, .own true 2 ((pairsTo ops i ++ pairsRow ops i j).map prow)), (4, .pv (I64 i)), (5, .pv (I64 j)), (0, .pv (ovec ops))], []⟩) (fun j => j ≤ ops.length) (fun j => ops.length - j) 0 ?_ ?_ ?_
   ·exact Weak.to (by simp [pairsRow, ovec]) rfl (by simp) (by simp [ovec]) (by simp)
   ·omega
   ·intro j hj; by_cases h2 : j < ops.length
    ·have hw2 := wnx j; have hm := pairsRow_length ops i j; simp [ovec, h, h2, orow]; refine CallQ0.intro (refAhead_ok ops[i] ops[j]) ?_; simp; refine ⟨fun h3 => ⟨by omega, j + 1, by dsimp only; omega, by dsimp only; omega, Weak.to ?_ rfl (by simp) (by simp) (by simp)⟩, fun h3 => ⟨j + 1, by dsimp only; omega, by dsimp only; omega, Weak.to ?_ rfl (by simp) (by simp) (by simp)⟩⟩
     ·simp [pairsRow_succ ops i h h2, h3, hw2, prow]
     ·simp [pairsRow_succ ops i h h2, h3, hw2]
    ·simp [ovec, h2]; have : j = ops.length := by omega
     refine ⟨i + 1, by dsimp only; omega, by dsimp only; omega, Weak.to ?_ rfl (by simp) (by simp) (by simp)⟩; simp [pairsTo_succ, this, hw]
  ·simp [ovec, h]; have : i = ops.length := by omega
   rw [this]
@[simp] theorem frzR_orow (r : Nat → Nat → PV) (ops : List Op5) : frzR r (ops.map orow) = ops.map orow := by
 rw [frzR_map, List.map_map]; congr 1
@[simp] theorem frzR_prow (r : Nat → Nat → PV) (l : List (Int × Int)) : frzR r (l.map prow) = l.map prow := by
 rw [frzR_map, List.map_map]; congr 1
@[simp] theorem nwR_prow (l : List (Int × Int)) : nwR (l.map prow) := by
 rw [nwR_iff]; intro r hr; obtain ⟨o, _, rfl⟩ := List.mem_map.1 hr; exact ⟨trivial, trivial, trivial⟩
@[simp] theorem nwR_ints (l : List Int) : nwR (l.map fun i => [I64 i]) := by
 rw [nwR_iff]; intro r hr; obtain ⟨o, _, rfl⟩ := List.mem_map.1 hr; exact ⟨trivial, trivial⟩
def allOk (n m : Int) (ops : List Op5) : Bool := decide ((chk ops).2 = 0) && sizeOk n m && decide ((ops.length : Int) = n)
def allN (n m : Int) (ops : List Op5) : Int :=
 if allOk n m ops then w64 (placesN n m + timesN n m (pairsTo ops ops.length).length + statesN n m + movesN n m (w64 (n - (pendTo ops ops.length).length))) else 0
theorem allOk_iff {n m : Int} {ops : List Op5} : allOk n m ops = true ↔ (chk ops).2 = 0 ∧ sizeOk n m = true ∧ (ops.length : Int) = n := by simp [allOk, and_assoc]
theorem refAll_ok (n m : Int) (ops : List Op5) (hl : ops.length ≤ 140737488355328) : APure Tryz.prog 222 [I64 n, I64 m, ovec ops] (fun r => r = .pv (I64 (allN n m ops))) := by
 refine apure1 hmo Tryz.func222 ?_; simp [ovec]; refine CallK.intro (refChk_ok ops hl) ?_; simp; refine CallG.intro (r := .pv (I64 (if sizeOk n m then 0 else 2))) (fun _ => refCheck_ok n m) ?_; simp; refine ⟨fun h => ?_, fun h1 h2 h3 => ?_⟩
 ·rw [allN, if_neg (fun hh => by have := allOk_iff.1 hh; simp [this.1, this.2.1, this.2.2] at h)]
 have hs := sizeOk_iff.1 h2; have hp := pendTo_length ops ops.length; rw [allN, if_pos (allOk_iff.2 ⟨h1, h2, h3⟩)]; refine CallK.intro (refPlaces_ok n m) ?_; simp; refine CallK.intro (refPairs_ok ops (by omega)) ?_; simp; refine CallK.intro (refTimes_ok n m _) ?_; simp; refine CallK.intro (refStates_ok n m) ?_; simp; refine CallK.intro (refPending_ok ops (by omega)) ?_; simp; refine CallK.intro (refMoves_ok n m _) ?_; simp
def varsN (n m : Int) : Int := w64 (n * n + n + (n + 1) * m)
def fitsN (n m : Int) (ops : List Op5) : Int := if allN n m ops = 0 then 2 else if allN n m ops > 500000 ∨ varsN n m > 900 then 3 else 0
theorem refFits_ok (n m : Int) (ops : List Op5) (hl : ops.length ≤ 140737488355328) : APure Tryz.prog 125 [I64 n, I64 m, ovec ops] (fun r => r = .pv (I64 (fitsN n m ops))) := by
 refine apure1 hmo Tryz.func125 ?_; simp [ovec]; refine CallK.intro (refAll_ok n m ops hl) ?_; simp; refine ⟨fun h => by simp [fitsN, h], fun h => ⟨fun h2 => by rw [fitsN, if_neg h, if_pos (by simpa [varsN] using h2)], fun h2 h3 => by rw [fitsN, if_neg h, if_neg (by simp [varsN]; exact ⟨h2, h3⟩)]⟩⟩
theorem add_ok (h : List (List SV)) (n s : Int) : AMut Tryz.prog 350 [I64 n, .ptr h.length 0] (h ++ [[.pv (I64 s)]]) (fun r h' => r = .pv (.tup []) ∧ h' = h ++ [[.pv (I64 (w64 (s + n)))]]) := by
 refine amutN [] hmo Tryz.func350 (fun _ _ => results_none rfl _ _ _) ?_; simp
set_option maxRecDepth 4000 in
theorem block_ok (a b : Int) : APure Tryz.prog 179 [.agg [I64 a, I64 b], I64 3] (fun r => r = .pv (.tup [I64 (w64 (a * a + a)), I64 b, I64 (w64 (a + 1))])) := by
 refine apureN [4, 5, 6] hmo Tryz.func179 (fun _ _ => results_tmp3 rfl _ _ _) ?_; simp
theorem vars_ok (a b : Int) : APure Tryz.prog 93 [.agg [I64 a, I64 b]] (fun r => r = .pv (I64 (if sizeOk a b then varsN a b else 0))) := by
 refine apure1 hmo Tryz.func93 ?_; simp; refine CallK.intro (check_ok a b) ?_; simp; refine ⟨fun h h' => by simp [h] at h', fun h => ?_⟩; refine CallK.intro (block_ok a b) ?_; simp [h, varsN]; congr 1
 grind
/-! ### Maps of one kind -/
def mapE {α : Type} (f : α → PV) (l : List (Int × α)) : List (Int × PV) := l.map fun p => (p.1, f p.2)
def lk {α : Type} : List (Int × α) → Int → Option α
 | [], _ => none
 | (k, x) :: r, n => if k = n then some x else lk r n
def pt {α : Type} : List (Int × α) → Int → α → List (Int × α)
 | [], n, y => [(n, y)]
 | (k, x) :: r, n, y => if k = n then (k, y) :: r else (k, x) :: pt r n y
theorem amLook_mapE {α : Type} (f : α → PV) : ∀ (l : List (Int × α)) (k : Int), amLook (mapE f l) k = (lk l k).map f
 | [], _ => rfl
 | (j, x) :: r, k => by
  have := amLook_mapE f r k; simp only [mapE, List.map_cons, amLook, lk] at this ⊢; split
  ·rfl
  ·exact this
theorem amPut_mapE {α : Type} (f : α → PV) : ∀ (l : List (Int × α)) (k : Int) (y : α), amPut (mapE f l) k (f y) = mapE f (pt l k y)
 | [], _, _ => rfl
 | (j, x) :: r, k, y => by
  have := amPut_mapE f r k y; simp only [mapE, List.map_cons, amPut, pt] at this ⊢; split
  ·rfl
  ·rw [this]; rfl
theorem lk_pt {α : Type} : ∀ (l : List (Int × α)) (k : Int) (y : α) (n : Int), lk (pt l k y) n = if k = n then some y else lk l n
 | [], k, y, n => rfl
 | (j, x) :: r, k, y, n => by
  simp only [pt]; split
  ·rename_i h; subst h; simp only [lk]; split <;> rfl
  ·rename_i h; simp only [lk, lk_pt r k y n]; split
   ·rename_i h2; subst h2; rw [if_neg (fun e => h e.symm)]
   ·rfl
def fI (n : Int) : PV := I64 n
def fO (o : Op5) : PV := .agg (orow o)
@[simp] theorem look_fI (l : List (Int × Int)) (k : Int) : (amLook (mapE fI l) k).getD (I64 0) = I64 ((lk l k).getD 0) := by
 rw [amLook_mapE]; cases lk l k <;> rfl
@[simp] theorem look_fO (l : List (Int × Op5)) (k : Int) : (amLook (mapE fO l) k).getD (.agg [I64 0, I64 0, I64 0, I64 0, I64 0]) = .agg [I64 ((lk l k).getD default).p, I64 ((lk l k).getD default).k, I64 ((lk l k).getD default).s, I64 ((lk l k).getD default).e, I64 ((lk l k).getD default).r] := by
 rw [amLook_mapE]; cases lk l k <;> rfl
@[simp] theorem some_fO (l : List (Int × Op5)) (k : Int) : (amLook (mapE fO l) k).isSome = (lk l k).isSome := by
 rw [amLook_mapE]; cases lk l k <;> rfl
@[simp] theorem put_fI (l : List (Int × Int)) (k n : Int) : amPut (mapE fI l) k (I64 n) = mapE fI (pt l k n) := amPut_mapE fI l k n
@[simp] theorem put_fO (l : List (Int × Op5)) (k a b c d e : Int) : amPut (mapE fO l) k (.agg [I64 a, I64 b, I64 c, I64 d, I64 e]) = mapE fO (pt l k ⟨a, b, c, d, e⟩) := amPut_mapE fO l k ⟨a, b, c, d, e⟩
@[simp] theorem belowE_fI (n : Nat) (l : List (Int × Int)) : belowE n (mapE fI l) := by
 rw [belowE_iff]; intro r hr; obtain ⟨p, _, rfl⟩ := List.mem_map.1 hr; trivial
@[simp] theorem belowE_fO (n : Nat) (l : List (Int × Op5)) : belowE n (mapE fO l) := by
 rw [belowE_iff]; intro r hr; obtain ⟨p, _, rfl⟩ := List.mem_map.1 hr; exact ⟨trivial, trivial, trivial, trivial, trivial, trivial⟩
@[simp] theorem mapE_nil {α : Type} (f : α → PV) : mapE f [] = [] := rfl
/-! ### What the maps hold -/
def useStep (u : List (Int × Int)) (o : Op5) : List (Int × Int) :=
 if o.e ≥ 0 then pt (pt u o.s (w64 ((lk u o.s).getD 0 + 1))) o.e (w64 ((lk (pt u o.s (w64 ((lk u o.s).getD 0 + 1))) o.e).getD 0 + 1)) else pt u o.s (w64 ((lk u o.s).getD 0 + 1))
def usedTo (ops : List Op5) : Nat → List (Int × Int)
 | 0 => []
 | i + 1 => useStep (usedTo ops i) (ops.getD i default)
def latTo (ops : List Op5) : Nat → List (Int × Op5)
 | 0 => []
 | i + 1 => pt (latTo ops i) (ops.getD i default).p (ops.getD i default)
theorem usedTo_succ {ops : List Op5} {i : Nat} (h : i < ops.length) : usedTo ops (i + 1) = useStep (usedTo ops i) ops[i] := by simp [usedTo, h]
theorem latTo_succ {ops : List Op5} {i : Nat} (h : i < ops.length) : latTo ops (i + 1) = pt (latTo ops i) ops[i].p ops[i] := by simp [latTo, h]
structure Fine (ops : List Op5) (i : Nat) (o : Op5) : Prop where
  al : aloneS o = 0
  bad : ∀ j (h : j < ops.length), j < i → badS ops[j] o = false
  opn : ∀ j (h : j < ops.length), j < i → openS ops[j] o = false
theorem errAt_fine {ops : List Op5} {i : Nat} (hi : i < ops.length) (h : errAt ops i = 0) : Fine ops i ops[i] := by
 rw [errAt_eq hi, stepE] at h; split at h
 ·rename_i h1; exact absurd h h1
 ·rename_i h1; split at h
  ·cases h
  ·rename_i h2; split at h
   ·cases h
   ·rename_i h3; simp only [List.any_eq_true, not_exists, not_and, Bool.not_eq_true] at h2 h3; exact ⟨Decidable.of_not_not h1, fun j hj hji => h2 _ (List.mem_take_iff_getElem.2 ⟨j, by omega, rfl⟩), fun j hj hji => h3 _ (List.mem_take_iff_getElem.2 ⟨j, by omega, rfl⟩)⟩
theorem okTo_fine {ops : List Op5} {i j : Nat} (h : okTo ops i) (hi : i ≤ ops.length) (hj : j < i) : Fine ops j (ops[j]'(by omega)) := errAt_fine (by omega) (h j hj)
theorem alone_facts {o : Op5} (h : aloneS o = 0) : 0 ≤ o.s ∧ (o.e = -1 ∨ o.s < o.e) := by
 unfold aloneS at h; split at h
 ·cases h
 ·rename_i h1; split at h
  ·cases h
  ·split at h
   ·rename_i h3; unfold endedS at h3; split at h3
    ·exact ⟨by omega, .inl ‹_›⟩
    ·simp at h3; exact ⟨by omega, .inr (by omega)⟩
   ·cases h
theorem bad_facts {a o : Op5} : badS a o = false ↔ a.s < o.s ∧ a.e ≠ o.s ∧ a.s ≠ o.e ∧ (a.e = o.e → a.e = -1) := by
 simp only [badS, meetsS, Bool.or_eq_false_iff, decide_eq_false_iff_not, Bool.and_eq_false_iff, Bool.not_eq_false', decide_eq_true_iff]; constructor
 ·rintro ⟨h1, ⟨⟨h2, h3⟩, h4⟩, h5⟩; exact ⟨by omega, h3, h4, fun e => h5.resolve_left (fun hn => hn e)⟩
 ·rintro ⟨h1, h2, h3, h4⟩; refine ⟨by omega, ⟨⟨by omega, h2⟩, h3⟩, ?_⟩; by_cases e : a.e = o.e
  ·exact .inr (h4 e)
  ·exact .inl e
def inUse (ops : List Op5) (i : Nat) (x : Int) : Prop := ∃ j, ∃ h : j < ops.length, j < i ∧ (ops[j].s = x ∨ (0 ≤ ops[j].e ∧ ops[j].e = x))
theorem used_val {ops : List Op5} : ∀ {i : Nat}, i ≤ ops.length → okTo ops i → ∀ x, ((lk (usedTo ops i) x).getD 0 = 1 ∧ inUse ops i x) ∨ ((lk (usedTo ops i) x).getD 0 = 0 ∧ ¬ inUse ops i x)
 | 0, _, _, x => .inr ⟨rfl, fun ⟨j, _, h, _⟩ => by omega⟩
 | i + 1, hi, ho, x => by
  have hok : okTo ops i := fun j hj => ho j (by omega); have hf := okTo_fine ho hi (show i < i + 1 by omega); have ih := used_val (show i ≤ ops.length by omega) hok; have hif : i < ops.length := by omega
  obtain ⟨hs0, he0⟩ := alone_facts hf.al; have nS : ¬ inUse ops i ops[i].s := fun ⟨j, hj, hji, h⟩ => by
   have := bad_facts.1 (hf.bad j hj hji); omega
  have nE : 0 ≤ ops[i].e → ¬ inUse ops i ops[i].e := fun h0 ⟨j, hj, hji, h⟩ => by
   have := bad_facts.1 (hf.bad j hj hji); rcases h with h | ⟨h, h'⟩
   ·exact this.2.2.1 h
   ·have := this.2.2.2 h'; omega
  have v1 : (lk (usedTo ops i) ops[i].s).getD 0 = 0 := by
   rcases ih ops[i].s with ⟨_, h⟩ | ⟨h, _⟩
   ·exact absurd h nS
   ·exact h
  have v2 : 0 ≤ ops[i].e → (lk (usedTo ops i) ops[i].e).getD 0 = 0 := fun h0 => by
   rcases ih ops[i].e with ⟨_, h⟩ | ⟨h, _⟩
   ·exact absurd h (nE h0)
   ·exact h
  have hw : w64 (0 + 1) = 1 := by decide
  have hin : inUse ops (i + 1) x ↔ inUse ops i x ∨ ops[i].s = x ∨ (0 ≤ ops[i].e ∧ ops[i].e = x) := by
   constructor
   ·rintro ⟨j, hj, hji, h⟩; by_cases e : j = i
    ·subst e; exact .inr h
    ·exact .inl ⟨j, hj, by omega, h⟩
   ·rintro (⟨j, hj, hji, h⟩ | h)
    ·exact ⟨j, hj, by omega, h⟩
    ·exact ⟨i, hif, by omega, h⟩
  rw [hin, usedTo_succ hif, useStep, v1, hw]; split
  ·rename_i h0; have hne : ¬ ops[i].s = ops[i].e := by omega
   rw [lk_pt (usedTo ops i) ops[i].s 1 ops[i].e, if_neg hne, v2 h0, hw, lk_pt]; by_cases e1 : ops[i].e = x
   ·left; rw [if_pos e1]; exact ⟨rfl, .inr (.inr ⟨h0, e1⟩)⟩
   ·rw [if_neg e1, lk_pt]; by_cases e2 : ops[i].s = x
    ·left; rw [if_pos e2]; exact ⟨rfl, .inr (.inl e2)⟩
    ·rw [if_neg e2]; rcases ih x with ⟨h1, h2⟩ | ⟨h1, h2⟩
     ·exact .inl ⟨h1, .inl h2⟩
     ·exact .inr ⟨h1, by rintro (h | h | ⟨_, h⟩); exact h2 h; exact e2 h; exact e1 h⟩
  ·rename_i h0; rw [lk_pt]; by_cases e2 : ops[i].s = x
   ·left; rw [if_pos e2]; exact ⟨rfl, .inr (.inl e2)⟩
   ·rw [if_neg e2]; rcases ih x with ⟨h1, h2⟩ | ⟨h1, h2⟩
    ·exact .inl ⟨h1, .inl h2⟩
    ·exact .inr ⟨h1, by rintro (h | h | ⟨h, _⟩); exact h2 h; exact e2 h; exact h0 h⟩
theorem used_pos {ops : List Op5} {i : Nat} (hi : i ≤ ops.length) (ho : okTo ops i) (x : Int) : 0 < (lk (usedTo ops i) x).getD 0 ↔ inUse ops i x := by
 rcases used_val hi ho x with ⟨h1, h2⟩ | ⟨h1, h2⟩
 ·rw [h1]; exact ⟨fun _ => h2, fun _ => by decide⟩
 ·rw [h1]; exact ⟨fun h => by omega, fun h => absurd h h2⟩
theorem starts_up {ops : List Op5} {i : Nat} (hi : i ≤ ops.length) (ho : okTo ops i) {j k : Nat} (hk : k < i) (hj : j < k) : (ops[j]'(by omega)).s < (ops[k]'(by omega)).s :=
 (bad_facts.1 ((okTo_fine ho hi hk).bad j (by omega) hj)).1
theorem order_iff {ops : List Op5} {i : Nat} (hi : i < ops.length) (ho : okTo ops i) (ha : aloneS ops[i] = 0) :
 (ops.take i).any (fun a => badS a ops[i]) = true ↔ (∃ h : 0 < i, ops[i].s ≤ (ops[i - 1]'(by omega)).s) ∨ inUse ops i ops[i].s ∨ (0 ≤ ops[i].e ∧ inUse ops i ops[i].e) := by
 obtain ⟨hs0, he0⟩ := alone_facts ha; rw [List.any_eq_true]; constructor
 ·rintro ⟨a, hm, hb⟩; obtain ⟨j, hj, rfl⟩ := List.mem_take_iff_getElem.1 hm; have hji : j < i := by omega
  have ha2 := alone_facts (okTo_fine ho (by omega) hji).al; by_cases h1 : ops[i].s ≤ ops[j].s
  ·left; refine ⟨by omega, ?_⟩; by_cases e : j = i - 1
   ·subst e; exact h1
   ·have := starts_up (by omega) ho (show i - 1 < i by omega) (show j < i - 1 by omega); omega
  ·right; by_cases h2 : ops[j].e = ops[i].s
   ·exact .inl ⟨j, by omega, hji, .inr ⟨by omega, h2⟩⟩
   ·by_cases h3 : ops[j].s = ops[i].e
    ·exact .inr ⟨by omega, j, by omega, hji, .inl h3⟩
    ·by_cases h4 : ops[j].e = ops[i].e → ops[j].e = -1
     ·have := bad_facts.2 ⟨by omega, h2, h3, h4⟩; rw [this] at hb; cases hb
     ·obtain ⟨h5, h6⟩ := Classical.not_imp.1 h4; exact .inr ⟨by omega, j, by omega, hji, .inr ⟨by omega, h5⟩⟩
 ·rintro (⟨h0, h⟩ | ⟨j, hj, hji, h⟩ | ⟨h0, j, hj, hji, h⟩)
  ·exact ⟨_, List.mem_take_iff_getElem.2 ⟨i - 1, by omega, rfl⟩, by cases hb : badS _ _ with | true => rfl | false => have := bad_facts.1 hb; omega⟩
  ·exact ⟨_, List.mem_take_iff_getElem.2 ⟨j, by omega, rfl⟩, by cases hb : badS _ _ with | true => rfl | false => have := bad_facts.1 hb; omega⟩
  ·exact ⟨_, List.mem_take_iff_getElem.2 ⟨j, by omega, rfl⟩, by
    cases hb : badS _ _ with
    | true => rfl
    | false =>
     have := bad_facts.1 hb; rcases h with h | ⟨h, h'⟩
     ·exact absurd h this.2.2.1
     ·have := this.2.2.2 h'; omega⟩
theorem lat_val {ops : List Op5} (p : Int) : ∀ {i : Nat}, i ≤ ops.length → (lk (latTo ops i) p = none ∧ ∀ j (h : j < ops.length), j < i → ops[j].p ≠ p) ∨ ∃ j, ∃ h : j < ops.length, j < i ∧ lk (latTo ops i) p = some ops[j] ∧ ops[j].p = p ∧ ∀ k (h : k < ops.length), j < k → k < i → ops[k].p ≠ p
 | 0, _ => .inl ⟨rfl, fun j _ h => by omega⟩
 | i + 1, hi => by
  have hif : i < ops.length := by omega
  rw [latTo_succ hif, lk_pt]; by_cases e : ops[i].p = p
  ·right; exact ⟨i, hif, by omega, if_pos e, e, fun k _ h1 h2 => by omega⟩
  ·rw [if_neg e]; rcases lat_val p (show i ≤ ops.length by omega) with ⟨h1, h2⟩ | ⟨j, hj, h1, h2, h3, h4⟩
   ·left; exact ⟨h1, fun j hj hji => by by_cases e2 : j = i; (subst e2; exact e); exact h2 j hj (by omega)⟩
   ·right; exact ⟨j, hj, by omega, h2, h3, fun k hk hjk hki => by by_cases e2 : k = i; (subst e2; exact e); exact h4 k hk hjk (by omega)⟩
theorem ahead_iff {a b : Op5} : aheadS a b = true ↔ 0 ≤ a.e ∧ a.e < b.s := by simp [aheadS]
theorem open_iff {ops : List Op5} {i : Nat} (hi : i < ops.length) (ho : okTo ops i) :
 (ops.take i).any (fun a => openS a ops[i]) = true ↔ (lk (latTo ops i) ops[i].p).isSome = true ∧ aheadS ((lk (latTo ops i) ops[i].p).getD default) ops[i] = false := by
 rw [List.any_eq_true]; rcases lat_val ops[i].p (show i ≤ ops.length by omega) with ⟨h1, h2⟩ | ⟨j, hj, hji, h1, h2, h3⟩
 ·rw [h1]; constructor
  ·rintro ⟨a, hm, hb⟩; obtain ⟨k, hk, rfl⟩ := List.mem_take_iff_getElem.1 hm; simp only [openS, Bool.and_eq_true, decide_eq_true_iff] at hb; exact absurd hb.1 (h2 k (by omega) (by omega))
  ·rintro ⟨h, _⟩; cases h
 ·rw [h1]; simp only [Option.isSome_some, Option.getD_some, true_and]; constructor
  ·rintro ⟨a, hm, hb⟩; obtain ⟨k, hk, rfl⟩ := List.mem_take_iff_getElem.1 hm; simp only [openS, Bool.and_eq_true, decide_eq_true_iff, Bool.not_eq_true'] at hb; have hkj : k ≤ j := Nat.le_of_not_lt fun hl => h3 k (by omega) hl (by omega) hb.1; by_cases e : k = j
   ·subst e; exact hb.2
   ·cases hah : aheadS ops[j] ops[i] with
    | false => rfl
    | true =>
     have hop := (okTo_fine ho (by omega) hji).opn k (by omega) (by omega); simp only [openS, Bool.and_eq_false_iff, decide_eq_false_iff_not, Bool.not_eq_false'] at hop; have hop2 := ahead_iff.1 (hop.resolve_left (fun hn => hn (by rw [hb.1, h2]))); have hj2 := ahead_iff.1 hah; have := alone_facts (okTo_fine ho (by omega) hji).al; have : aheadS ops[k] ops[i] = true := ahead_iff.2 ⟨by omega, by omega⟩; rw [this] at hb; cases hb.2
  ·intro h; exact ⟨_, List.mem_take_iff_getElem.2 ⟨j, by omega, rfl⟩, by simp only [openS, h2, h, decide_true, Bool.not_false, Bool.and_self]⟩
set_option maxRecDepth 8000 in
set_option maxHeartbeats 2000000 in
theorem chk_okC (ops : List Op5) (hl : ops.length ≤ 140737488355328) : APure Tryz.prog 148 [ovec ops] (fun r => r = .pv (.tup [I64 (chk ops).1, I64 (chk ops).2])) := by
 refine apureN [2, 3] hmo Tryz.func148 (fun _ _ => results_tmp2 rfl _ _ _) ?_; simp [ovec]; refine ⟨fun h => by rw [chk_big (by omega)]; exact ⟨rfl, rfl⟩, fun h => ?_⟩; refine ALoop.intro (S := fun (i : Nat) => ⟨[(0, .pv (ovec ops)), (4, .omap true (mapE fI (usedTo ops i))), (5, .omap true (mapE fO (latTo ops i))), (16, .pv (ovec ops)), (17, .pv (I64 ops.length)), (18, .pv (I64 i))], []⟩) (fun i => i ≤ ops.length ∧ okTo ops i) (fun i => ops.length - i) 0 ?_ ?_ ?_
 ·exact Weak.to (by simp [ovec, usedTo, latTo]) rfl (by simp) (by simp [ovec]) (by simp)
 ·exact ⟨by omega, fun j hj => by omega⟩
 ·intro i ⟨hi, hok⟩; by_cases hlt : i < ops.length
  ·have hw := wnx i; have hfin : ∀ st, wkL st.t [(0, .pv (ovec ops)), (4, .omap true (mapE fI (useStep (usedTo ops i) ops[i]))), (5, .omap true (mapE fO (pt (latTo ops i) ops[i].p ops[i]))), (16, .pv (ovec ops)), (17, .pv (I64 ops.length)), (18, .pv (I64 ((i + 1 : Nat) : Int)))] → errAt ops i = 0 → ∃ y, ops.length - y < ops.length - i ∧ (y ≤ ops.length ∧ okTo ops y) ∧ Weak 0 st ⟨[(0, .pv (ovec ops)), (4, .omap true (mapE fI (usedTo ops y))), (5, .omap true (mapE fO (latTo ops y))), (16, .pv (ovec ops)), (17, .pv (I64 ops.length)), (18, .pv (I64 y))], []⟩ := by
    intro st h1 h2; refine ⟨i + 1, by omega, ⟨by omega, okTo_succ hok h2⟩, ?_⟩; rw [usedTo_succ hlt, latTo_succ hlt]; exact Weak.to h1 rfl (by simp) (by simp [ovec]) (by simp)
   have hord := order_iff hlt hok; have hopn := open_iff hlt hok; rcases Nat.eq_zero_or_pos i with h0 | h0
   ·subst h0; simp [ovec, hlt, orow]; refine CallK.intro (alone_ok ops[0]) ?_; simp; refine ⟨fun hc => ?_, fun hc => ?_⟩
    ·rw [chk_alone (by omega) hlt hok rfl hc]; exact ⟨rfl, rfl⟩
    have ho := hord hc; rw [← used_pos hi hok, ← used_pos hi hok] at ho; refine ⟨fun a1 => ⟨a1, fun a2 => ⟨a1, a2⟩⟩, fun hb => ?_, fun a1 a2 => ?_⟩
    ·rw [chk_order (by omega) hlt hok hc (ho.2 (.inr hb))]; exact ⟨rfl, rfl⟩
    have hnb : (ops.take 0).any (fun a => badS a ops[0]) = false := rfl; refine CallG.intro (r := .pv (BL (aheadS ((lk (latTo ops 0) ops[0].p).getD default) ops[0]))) (fun _ => ahead_ok _ _) ?_; simp; refine ⟨fun b1 b2 => ?_, fun b1 => ?_⟩
    ·rw [chk_open (by omega) hlt hok hc hnb (hopn.2 ⟨b1, b2⟩)]; exact ⟨rfl, rfl⟩
    have hno : (ops.take 0).any (fun a => openS a ops[0]) = false := rfl; have he := errAt_zero hlt hc hnb hno; have hw1 : w64 1 = 1 := by decide
    exact ⟨fun b2 => hfin _ (by simp [ovec, useStep, b2, hw1]) he, fun b2 => hfin _ (by simp [ovec, useStep, Int.not_le.2 b2, hw1]) he⟩
   ·have hq : w64 ((i : Int) - 1) = ((i - 1 : Nat) : Int) := by rw [w64_id (by omega) (by omega)]; omega
    have hq2 : i - 1 < ops.length := by omega
    simp [ovec, hlt, orow]; refine CallK.intro (alone_ok ops[i]) ?_; simp [h0, hq, hq2, orow]; refine ⟨fun hc => ?_, fun hc => ?_⟩
    ·rw [chk_alone (by omega) hlt hok rfl hc]; exact ⟨rfl, rfl⟩
    have ho := hord hc; rw [← used_pos hi hok, ← used_pos hi hok] at ho; refine ⟨fun a1 a2 => ⟨⟨a1, a2⟩, fun a3 => ⟨⟨a1, a2⟩, a3⟩⟩, fun hb => ?_, fun a1 a2 a3 => ?_⟩
    ·rw [chk_order (by omega) hlt hok hc (ho.2 (hb.elim (fun h => h.elim (fun h => .inl ⟨h0, h⟩) (fun h => .inr (.inl h))) (fun h => .inr (.inr h))))]; exact ⟨rfl, rfl⟩
    have hnb : (ops.take i).any (fun a => badS a ops[i]) = false := by
     rw [Bool.eq_false_iff, ne_eq, ho]; rintro (⟨_, h⟩ | h | ⟨h, h'⟩)
     ·omega
     ·omega
     ·have := a3 h; omega
    refine CallG.intro (r := .pv (BL (aheadS ((lk (latTo ops i) ops[i].p).getD default) ops[i]))) (fun _ => ahead_ok _ _) ?_; simp; refine ⟨fun b1 b2 => ?_, fun b1 => ?_⟩
    ·rw [chk_open (by omega) hlt hok hc hnb (hopn.2 ⟨b1, b2⟩)]; exact ⟨rfl, rfl⟩
    have hno : (ops.take i).any (fun a => openS a ops[i]) = false := by
     rw [Bool.eq_false_iff, ne_eq, hopn]; rintro ⟨h1, h2⟩; rw [b1 h1] at h2; cases h2
    have he := errAt_zero hlt hc hnb hno; exact ⟨fun b2 => hfin _ (by simp [ovec, useStep, b2, hw]) he, fun b2 => hfin _ (by simp [ovec, useStep, Int.not_le.2 b2, hw]) he⟩
  ·simp [ovec, hlt]; have : i = ops.length := by omega
   subst this; rw [chk_ok (by omega) hok]; simp
theorem all_ok (n m : Int) (ops : List Op5) (hl : ops.length ≤ 140737488355328) : APure Tryz.prog 250 [.agg [I64 n, I64 m], ovec ops] (fun r => r = .pv (I64 (allN n m ops))) := by
 refine apure1 hmo Tryz.func250 ?_; simp [ovec]; refine CallK.intro (chk_okC ops hl) ?_; simp; refine CallG.intro (r := .pv (BL (sizeOk n m))) (fun _ => may_ok n m) ?_; simp; refine ⟨fun h => ?_, fun h1 h2 h3 => ?_⟩
 ·rw [allN, if_neg (fun hh => by have := allOk_iff.1 hh; simp [this.1, this.2.1, this.2.2] at h)]
 have hs := sizeOk_iff.1 h2; have hp := pendTo_length ops ops.length; refine CallQ0.intro (places_ok n m) ?_; simp; refine CallQ0.intro (pairs_ok ops (by omega)) ?_; simp; refine CallQ0.intro (times_ok n m _) ?_; simp; refine CallQ0.intro (states_ok n m) ?_; simp; refine CallQ0.intro (pending_ok ops (by omega)) ?_; simp; refine CallQ0.intro (moves_ok n m _) ?_; simp; refine ALoop.intro (S := fun (y : Int × Int) => ⟨[(51, .pv (I64 y.1)), (50, .pv (.agg [I64 (placesN n m), I64 (timesN n m ((pairsTo ops ops.length).length : Nat)), I64 (statesN n m), I64 (movesN n m (w64 (n - ((pendTo ops ops.length).length : Nat))))])), (9, .pv (.fn (.func 350) [] [.ptr 2 0])), (8, .pv (.ptr 2 0))], [[.pv (I64 n), .pv (I64 m)], [.pv (I64 (placesN n m)), .pv (I64 (timesN n m ((pairsTo ops ops.length).length : Nat))), .pv (I64 (statesN n m)), .pv (I64 (movesN n m (w64 (n - ((pendTo ops ops.length).length : Nat)))))], [.pv (I64 y.2)]]⟩)
  (fun y => (y.1 = 0 ∧ y.2 = 0) ∨ (y.1 = 1 ∧ y.2 = w64 (0 + placesN n m)) ∨ (y.1 = 2 ∧ y.2 = w64 (0 + placesN n m + timesN n m ((pairsTo ops ops.length).length : Nat))) ∨ (y.1 = 3 ∧ y.2 = w64 (0 + placesN n m + timesN n m ((pairsTo ops ops.length).length : Nat) + statesN n m)) ∨
   (y.1 = 4 ∧ y.2 = w64 (0 + placesN n m + timesN n m ((pairsTo ops ops.length).length : Nat) + statesN n m + movesN n m (w64 (n - ((pendTo ops ops.length).length : Nat)))))) (fun y => (4 - y.1).toNat) (0, 0) ?_ ?_ ?_
 ·exact Weak.to (by simp) (by simp) (by simp) (by simp) (by simp)
 ·exact .inl ⟨rfl, rfl⟩
 ·rintro ⟨i, s⟩ hy; have hw1 : w64 1 = 1 := by decide
  have hw2 : w64 2 = 2 := by decide
  have hw3 : w64 3 = 3 := by decide
  have hw4 : w64 4 = 4 := by decide
  rcases hy with ⟨h, h'⟩ | ⟨h, h'⟩ | ⟨h, h'⟩ | ⟨h, h'⟩ | ⟨h, h'⟩
  ·dsimp only at h h'; subst h; subst h'; simp; refine CallB.intro (add_ok [_, _] _ _) ?_; rintro _ _ ⟨rfl, rfl⟩; simp; exact ⟨(1, w64 (placesN n m)), by simp, by simp, Weak.to (by simp [hw1]) (by simp) (by simp) (by simp) (by simp)⟩
  ·dsimp only at h h'; subst h; subst h'; simp; refine CallB.intro (add_ok [_, _] _ _) ?_; rintro _ _ ⟨rfl, rfl⟩; simp; exact ⟨(2, w64 (placesN n m + timesN n m ((pairsTo ops ops.length).length : Nat))), by simp, by simp, Weak.to (by simp [hw2]) (by simp) (by simp) (by simp) (by simp)⟩
  ·dsimp only at h h'; subst h; subst h'; simp; refine CallB.intro (add_ok [_, _] _ _) ?_; rintro _ _ ⟨rfl, rfl⟩; simp; exact ⟨(3, w64 (placesN n m + timesN n m ((pairsTo ops ops.length).length : Nat) + statesN n m)), by simp, by simp, Weak.to (by simp [hw3]) (by simp) (by simp) (by simp) (by simp)⟩
  ·dsimp only at h h'; subst h; subst h'; simp; refine CallB.intro (add_ok [_, _] _ _) ?_; rintro _ _ ⟨rfl, rfl⟩; simp; exact ⟨(4, w64 (placesN n m + timesN n m ((pairsTo ops ops.length).length : Nat) + statesN n m + movesN n m (w64 (n - ((pendTo ops ops.length).length : Nat))))), by simp, by simp, Weak.to (by simp [hw4]) (by simp) (by simp) (by simp) (by simp)⟩
  ·dsimp only at h h'; subst h; subst h'; simp; rw [allN, if_pos (allOk_iff.2 ⟨h1, h2, h3⟩)]
theorem fits_ok (n m : Int) (ops : List Op5) (hl : ops.length ≤ 140737488355328) : APure Tryz.prog 163 [.agg [I64 n, I64 m], ovec ops] (fun r => r = .pv (I64 (fitsN n m ops))) := by
 refine apure1 hmo Tryz.func163 ?_; simp [ovec]; refine CallK.intro (all_ok n m ops hl) ?_; simp; refine ⟨fun h => by simp [fitsN, h], fun h => ?_⟩; have hs : sizeOk n m = true := by
  cases hh : sizeOk n m with
  | true => rfl
  | false => exact absurd (by rw [allN, if_neg (fun hk => by have := (allOk_iff.1 hk).2.1; rw [hh] at this; cases this)]) h
 refine CallG.intro (r := .pv (I64 (varsN n m))) (fun _ => by have := vars_ok n m; rw [if_pos hs] at this; exact this) ?_; simp; exact ⟨fun h2 => by rw [fitsN, if_neg h, if_pos (by omega)], fun h2 h3 => by rw [fitsN, if_neg h, if_neg (by omega)]⟩
theorem chk_zero {ops : List Op5} (h : (chk ops).2 = 0) : ops.length ≤ 5000 ∧ okTo ops ops.length := by
 by_cases h1 : ops.length > 5000
 ·rw [chk_big h1] at h; cases h
 refine ⟨by omega, ?_⟩; unfold chk at h; rw [if_neg h1] at h; split at h
 ·rename_i i hi; rw [List.find?_range_eq_some] at hi; exact absurd h (by simpa using hi.1)
 ·rename_i hn; rw [List.find?_range_eq_none] at hn; intro j hj; have := hn j hj; simpa using this
theorem ahead_lt {ops : List Op5} (ho : okTo ops ops.length) {i j : Nat} (hi : i < ops.length) (hj : j < ops.length) (h : aheadS ops[i] ops[j] = true) : i < j := by
 obtain ⟨h1, h2⟩ := ahead_iff.1 h; have a1 := alone_facts (okTo_fine ho (Nat.le_refl _) hi).al; rcases Nat.lt_trichotomy i j with hlt | heq | hgt
 ·exact hlt
 ·subst heq; omega
 ·have := starts_up (Nat.le_refl _) ho hi hgt; omega
theorem row_le {ops : List Op5} (ho : okTo ops ops.length) {i : Nat} (hi : i < ops.length) : ∀ j, j ≤ ops.length → (pairsRow ops i j).length ≤ j - 1 - i
 | 0, _ => by simp [pairsRow]
 | j + 1, hj => by
  have ih := row_le ho hi j (by omega); rw [pairsRow_succ ops i hi (show j < ops.length by omega)]; split
  ·rename_i h; have := ahead_lt ho hi (show j < ops.length by omega) h; simp; omega
  ·omega
theorem pairs_le {ops : List Op5} (ho : okTo ops ops.length) : ∀ k, k ≤ ops.length → 2 * (pairsTo ops k).length ≤ k * (2 * ops.length - 1 - k)
 | 0, _ => by simp [pairsTo]
 | k + 1, hk => by
  have ih := pairs_le ho k (by omega); have hr := row_le ho (show k < ops.length by omega) ops.length (Nat.le_refl _); rw [pairsTo_succ, List.length_append]; obtain ⟨d, hd⟩ : ∃ d, ops.length = k + 1 + d := ⟨ops.length - (k + 1), by omega⟩; rw [hd] at ih hr ⊢; have e1 : 2 * (k + 1 + d) - 1 - k = k + 1 + 2 * d := by omega
  have e2 : 2 * (k + 1 + d) - 1 - (k + 1) = k + 2 * d := by omega
  have e3 : k + 1 + d - 1 - k = d := by omega
  rw [e1] at ih; rw [e2]; rw [e3] at hr; have : (k + 1) * (k + 2 * d) = k * (k + 1 + 2 * d) + 2 * d := by grind
  omega
/-! ### How many clauses -/
end Go.AX
