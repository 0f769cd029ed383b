/-
  Contracts: whether a formula holds (package cnf).
-/
import Derived.Test.YtklaffmpfmpffaaGreatDoorS10AxMovR
import Derived.Test.YtklaffmpfmpffaaGreatDoorS10AxClB
namespace Go.AX
open Go.Proofs
set_option linter.unusedSimpArgs false

theorem lit_split (l : Int) : (splitS l).1 = litV l ∧ (litV l ≠ 0 → (splitS l).2 = decide (0 < l)) := by
  unfold splitS litV absS
  by_cases c : okL l = true
  · obtain ⟨h1, h2, h3⟩ := (okL_iff l).1 c
    rw [if_pos c]
    by_cases d : l < 0
    · rw [if_neg (by omega), if_pos ⟨d, h2⟩, if_pos d]
      exact ⟨rfl, fun _ => (decide_eq_false (by omega)).symm⟩
    · rw [if_pos ⟨by omega, h3⟩, if_neg d]
      exact ⟨rfl, fun _ => (decide_eq_true (by omega)).symm⟩
  · have hn : ¬ (l ≠ 0 ∧ -100000 ≤ l ∧ l ≤ 100000) := fun h => c ((okL_iff l).2 h)
    rw [if_neg c, if_neg (by omega), if_neg (by omega)]
    exact ⟨rfl, fun h => absurd rfl h⟩
end Go.AX
