/-
  The walk of MovesTells.
-/
import Derived.Test.YtklaffmpfmpffaaGreatDoorS10AxMovO
import Derived.Test.YtklaffmpfmpffaaGreatDoorS10AxMovG
namespace Go.AX
open Go.Proofs
set_option linter.unusedSimpArgs false

theorem movesC_small {o : Obj} {ops : List Op5} : ∀ c ∈ movesC o ops, c.length ≤ 140737488355328 := by
  intro c hc
  unfold movesC at hc
  split at hc
  · have := movTo_small c hc; omega
  · cases hc
theorem movesC_few {o : Obj} {ops : List Op5} (h : sizeOk (sizeP o ops).1 (sizeP o ops).2 = true) : (movesC o ops).length ≤ 1000000 := by
  obtain ⟨k1, k2, hP, h64, hm1, hm2⟩ := sizeP_all h
  obtain ⟨M, hM⟩ := Int.eq_ofNat_of_zero_le (show 0 ≤ o.st by omega)
  have hM' : o.st = (M : Int) := hM
  have hC : movesC o ops = movTo o ops.length M ops.length M ops ops.length := by
    rw [movesC, if_pos h, hP, hM']; simp
  have := movTo_length o ops.length M ops.length M ops ops.length (Nat.le_refl _)
  have hlt1 : ops.length * (M * 2) ≤ 64 * (32 * 2) := Nat.mul_le_mul h64 (by omega)
  have hlt2 : ops.length * (1 + ops.length * (M * 2)) ≤ 64 * (1 + 64 * (32 * 2)) := Nat.mul_le_mul (by omega) (by omega)
  rw [hC]; omega

end Go.AX
