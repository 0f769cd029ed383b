/-
  AX, part X: whole numbers that wrap.
-/
import Derived.Test.YtipaihpchnlkfaaAxS
namespace Go.AX

/-- A number in a slot. -/
abbrev I64 (n : Int) : PV := .lit (.int .i64 n)
abbrev BL (b : Bool) : PV := .lit (.bool b)
/-- A number as int64 holds it. -/
def w64 (n : Int) : Int := IntKind.i64.wrap n
@[simp] theorem w64_def (n : Int) : IntKind.i64.wrap n = w64 n := rfl

theorem w64_eq (n : Int) : w64 n = (n + 9223372036854775808) % 18446744073709551616 - 9223372036854775808 := by
  unfold w64; rw [IntKind.wrap_i64]
theorem w64_id {n : Int} (h1 : -9223372036854775808 ≤ n) (h2 : n ≤ 9223372036854775807) : w64 n = n := by rw [w64_eq]; omega
theorem w64_ex (n : Int) : ∃ k, w64 n = n + 18446744073709551616 * k := by
  refine ⟨-((n + 9223372036854775808) / 18446744073709551616), ?_⟩
  rw [w64_eq]
  have := Int.emod_add_mul_ediv (n + 9223372036854775808) 18446744073709551616
  omega
theorem w64_shift (n k : Int) : w64 (n + 18446744073709551616 * k) = w64 n := by rw [w64_eq, w64_eq]; omega
@[simp] theorem w64_w64 (a : Int) : w64 (w64 a) = w64 a := by rw [w64_eq (w64 a), w64_eq]; omega
@[simp] theorem w64_add_l (a b : Int) : w64 (w64 a + b) = w64 (a + b) := by simp only [w64_eq]; omega
@[simp] theorem w64_add_r (a b : Int) : w64 (a + w64 b) = w64 (a + b) := by simp only [w64_eq]; omega
@[simp] theorem w64_sub_l (a b : Int) : w64 (w64 a - b) = w64 (a - b) := by simp only [w64_eq]; omega
@[simp] theorem w64_sub_r (a b : Int) : w64 (a - w64 b) = w64 (a - b) := by simp only [w64_eq]; omega
@[simp] theorem w64_neg (a : Int) : w64 (- w64 a) = w64 (-a) := by simp only [w64_eq]; omega
@[simp] theorem w64_mul_l (a b : Int) : w64 (w64 a * b) = w64 (a * b) := by
  obtain ⟨k, hk⟩ := w64_ex a
  rw [hk, Int.add_mul, Int.mul_assoc, w64_shift]
@[simp] theorem w64_mul_r (a b : Int) : w64 (a * w64 b) = w64 (a * b) := by rw [Int.mul_comm, w64_mul_l, Int.mul_comm]
theorem w64_lo (a : Int) : -9223372036854775808 ≤ w64 a := by rw [w64_eq]; omega
theorem w64_hi (a : Int) : w64 a ≤ 9223372036854775807 := by rw [w64_eq]; omega

@[simp] theorem belowR_append (k : Nat) (a b : List (List PV)) : belowR k (a ++ b) ↔ belowR k a ∧ belowR k b := by
  simp only [belowR_iff, List.mem_append]
  constructor
  · intro h; exact ⟨fun r hr => h r (.inl hr), fun r hr => h r (.inr hr)⟩
  · rintro ⟨h1, h2⟩ r (hr | hr)
    · exact h1 r hr
    · exact h2 r hr

/-! ### Arguments in other words -/
/-- What one says, the other says too. -/
def PV.as (x y : PV) : Prop := ∀ (w : World) (v : Value), Fit (snap w) x v → Fit (snap w) y v
theorem PV.as.refl (x : PV) : PV.as x x := fun _ _ h => h
theorem PV.as_nil (e : Nat) : PV.as (.lit (.slice none 0 0)) (.seq false e []) := fun _ _ h => ⟨none, 0, h, Nat.le_refl _, .inl rfl⟩
def asL : List PV → List PV → Prop
  | [], ys => ys = []
  | x :: xs, ys => ∃ y r, ys = y :: r ∧ PV.as x y ∧ asL xs r
theorem asL_fit {w : World} : ∀ {xs ys : List PV} {vs : List Value}, asL xs ys → FitL (snap w) xs vs → FitL (snap w) ys vs
  | [], _, _, h, h' => by simp only [asL] at h; subst h; exact h'
  | x :: xs, _, _, h, h' => by
    simp only [asL] at h
    obtain ⟨y, r, rfl, h1, h2⟩ := h
    obtain ⟨v, q, rfl, h3, h4⟩ := h'
    exact ⟨v, q, rfl, h1 w v h3, asL_fit h2 h4⟩
theorem APure.conv {P : Program} {f : FuncId} {xs ys : List PV} {R : SV → Prop} (h : APure P f ys R) (hc : asL xs ys) : APure P f xs R :=
  ⟨h.1, fun w vs hv => h.2 w vs (asL_fit hc hv)⟩

theorem CallM.intro {P : Program} {st : St} {f : FuncId} {pa : List PV} {d : Option Tmp} {K : St → Prop} {R : SV → List (List SV) → Prop} (h : AMut P f pa st.h R) (hK : ∀ r h', R r h' → K (putR d r ⟨killL qCell st.t, h'⟩)) : CallM P st f pa d K := ⟨R, h, hK⟩

end Go.AX
