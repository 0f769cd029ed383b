/-
  The walk of MovesCounts.
-/
import Derived.Test.YtklaffmpfmpffaaGreatDoorS10AxMovO
namespace Go.AX
open Go.Proofs

theorem movI_lenG (o : Obj) (n m : Int) (x : Op5) (M i : Nat) : ∀ k, (movI o n m x M i k).length = k * (M * (if x.e = -1 then 2 else 1))
  | 0 => by simp [movI]
  | k + 1 => by
    have ih := movI_lenG o n m x M i k
    have hk : ∀ b, (movK o n m x i k b).length = b * (if x.e = -1 then 2 else 1) := by
      intro b
      induction b with
      | zero => simp [movK]
      | succ b ihb => rw [movK_succ, List.length_append, ihb, Nat.succ_mul]; unfold movB; split <;> simp
    rw [movI_succ, List.length_append, ih, hk, Nat.succ_mul]
theorem movTo_small {o : Obj} {n m : Int} {N M : Nat} {ops : List Op5} {i : Nat} : ∀ c ∈ movTo o n m N M ops i, 1 ≤ c.length ∧ c.length ≤ 4 := by
  intro c hc
  unfold movTo at hc
  obtain ⟨j, _, hc⟩ := List.mem_flatMap.1 hc
  rcases List.mem_append.1 hc with hc | hc
  · unfold movH at hc
    split at hc
    · cases hc
    · simp at hc; subst hc; simp
  · unfold movI at hc
    obtain ⟨k, _, hc⟩ := List.mem_flatMap.1 hc
    unfold movK at hc
    obtain ⟨b, _, hc⟩ := List.mem_flatMap.1 hc
    unfold movB at hc
    rcases List.mem_cons.1 hc with rfl | hc
    · cases mayS o (ops.getD j default) b <;> simp [optL]
    · split at hc
      · simp at hc; subst hc; simp
      · cases hc

end Go.AX
