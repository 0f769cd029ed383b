/-
  Contracts: pairs, the document's way.
-/
import Derived.Test.YtklaffmpfmpffaaGreatDoorS10AxCntC
namespace Go.AX
open Go.Proofs

theorem refPairs_ok (ops : List Op5) (hl : ops.length ≤ 1000000) : APure Tryz.prog 96 [ovec ops] (fun r => r = .own true 2 ((pairsTo ops ops.length).map prow)) := by
  refine apure1 hmo Tryz.func96 (by kernel_rfl) rfl rfl (by kernel_rfl) (Nat.le_of_ble_eq_true rfl) ?_
  simp [ovec]
  refine ALoop.intro (S := fun (i : Nat) => ⟨[(3, .own true 2 ((pairsTo ops i).map prow)), (4, .pv (I64 i)), (0, .pv (ovec ops))], []⟩) (fun i => i ≤ ops.length) (fun i => ops.length - i) 0 ?_ ?_ ?_
  · exact (Weak.nilOwn (s := 3) 2 true (by simp)).trans (Weak.to (by simp [pairsTo, ovec]) rfl (by simp) (by simp [ovec]) (by simp))
  · omega
  · intro i hi
    by_cases h : i < ops.length
    · have hw : w64 ((i : Int) + 1) = ((i + 1 : Nat) : Int) := by rw [w64_id (by omega) (by omega)]; omega
      have hn := pairsTo_length ops i
      have hn2 : i * ops.length ≤ 1000000 * 1000000 := Nat.mul_le_mul (by omega) hl
      simp [ovec, h, orow]
      refine ALoop.intro (S := fun (j : Nat) => ⟨[(3, .own true 2 ((pairsTo ops i ++ pairsRow ops i j).map prow)), (4, .pv (I64 i)), (5, .pv (I64 j)), (0, .pv (ovec ops))], []⟩) (fun j => j ≤ ops.length) (fun j => ops.length - j) 0 ?_ ?_ ?_
      · exact Weak.to (by simp [pairsRow, ovec]) rfl (by simp) (by simp [ovec]) (by simp)
      · omega
      · intro j hj
        by_cases h2 : j < ops.length
        · have hw2 : w64 ((j : Int) + 1) = ((j + 1 : Nat) : Int) := by rw [w64_id (by omega) (by omega)]; omega
          have hm := pairsRow_length ops i j
          simp [ovec, h, h2, orow]
          refine CallQ0.intro (refAhead_ok ops[i] ops[j]) (by simp) ?_
          simp
          refine ⟨fun h3 => ⟨by omega, j + 1, by dsimp only; omega, by dsimp only; omega, Weak.to ?_ rfl (by simp) (by simp) (by simp)⟩, fun h3 => ⟨j + 1, by dsimp only; omega, by dsimp only; omega, Weak.to ?_ rfl (by simp) (by simp) (by simp)⟩⟩
          · simp [pairsRow_succ ops i h h2, h3, hw2, prow]
          · simp [pairsRow_succ ops i h h2, h3, hw2]
        · simp [ovec, h2]
          have : j = ops.length := by omega
          refine ⟨i + 1, by dsimp only; omega, by dsimp only; omega, Weak.to ?_ rfl (by simp) (by simp) (by simp)⟩
          simp [pairsTo_succ, this, hw]
    · simp [ovec, h]
      have : i = ops.length := by omega
      rw [this]

end Go.AX
