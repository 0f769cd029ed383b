/-
  TrimStays: the walk.
-/
import Derived.Test.YthfhellfmbllhaaGreatS12AxTtB
namespace Go.AX
open Go.Proofs
set_option linter.unusedSimpArgs false
theorem few43_le {L : List (List Int)} {ss : List Stp} (h : few43B L ss = true) : L.length ≤ 60 ∧ ss.length ≤ 60 ∧ (∀ c ∈ L, c.length ≤ 50) ∧ ∀ s ∈ ss, s.lits.length ≤ 60 ∧ s.hints.length ≤ 200 := by
  unfold few43B fewV fewS at h
  simp only [Bool.and_eq_true, decide_eq_true_eq, List.all_eq_true] at h
  exact ⟨h.1.1.2, h.2, h.1.1.1.2, h.1.2.2⟩
end Go.AX
