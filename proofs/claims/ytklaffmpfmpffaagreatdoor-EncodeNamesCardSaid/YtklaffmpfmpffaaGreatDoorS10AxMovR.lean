/-
  Contracts: where a clause holds.
-/
import Derived.Test.YtklaffmpfmpffaaGreatDoorS10AxMovS
namespace Go.AX
open Go.Proofs
set_option linter.unusedSimpArgs false

def splitS (l : Int) : Int × Bool := if 0 < l ∧ l ≤ 100000 then (l, true) else if l < 0 ∧ -100000 ≤ l then (-l, false) else (0, false)
theorem splitS_in (l : Int) : 0 ≤ (splitS l).1 ∧ (splitS l).1 ≤ 100000 := by
  unfold splitS
  split
  · dsimp only; omega
  · split
    · dsimp only; omega
    · simp
def litS (m : List Bool) (l : Int) : Bool := decide ((splitS l).1 ≠ 0) && (decide ((splitS l).1 ≤ (m.length : Int)) && m.getD ((splitS l).1 - 1).toNat false) == (splitS l).2
def holdsS (c : List Int) (m : List Bool) : Bool := c.any (litS m)

/-- The first clause that does not hold. -/
def firstS (L : List (List Int)) (m : List Bool) : Int := idxS (fun c => !holdsS c m) L
theorem firstS_neg (L : List (List Int)) (m : List Bool) : firstS L m < 0 ↔ ∀ c ∈ L, holdsS c m = true := by
  unfold firstS idxS
  cases h : L.findIdx? (fun c => !holdsS c m) with
  | none =>
    rw [List.findIdx?_eq_none_iff] at h
    exact ⟨fun _ c hc => by have := h c hc; simpa using this, fun _ => by decide⟩
  | some i =>
    rw [List.findIdx?_eq_some_iff_getElem] at h
    obtain ⟨h1, h2, _⟩ := h
    refine ⟨fun h3 => absurd h3 (by dsimp only; omega), fun h3 => ?_⟩
    rw [h3 L[i] (List.getElem_mem h1)] at h2
    cases h2

end Go.AX
