/-
  Contracts: the document's clauses of moves, walked.
-/
import Derived.Test.YtipaihpchnlkfaaS2AxMovJ
namespace Go.AX
open Go.Proofs
set_option linter.unusedSimpArgs false

set_option maxRecDepth 16000 in
theorem refMovesC_ok (o : Obj) (ops : List Op5) (hr : objR o) (hl : o.rows.length ≤ 140737488355328) (hl2 : ops.length ≤ 140737488355328) : APure Try.prog 22 [robj o, ovec ops] (fun r => r = (if sizeOk (sizeP o ops).1 (sizeP o ops).2 then .own true 1 ((movesC o ops).map crow) else .pv (.lit (.slice none 0 0)))) := by
  refine apure1 hmo Try.func22 (by kernel_rfl) rfl rfl (by kernel_rfl) (Nat.le_of_ble_eq_true rfl) ?_
  have hsz := refSize_ok o ops hr hl hl2
  simp only [robj, ovec] at hsz
  simp [robj, ovec]
  refine CallK.intro hsz (by simp) ?_
  simp
  refine CallK.intro (refCheck_ok _ _) (by simp) ?_
  cases c : sizeOk (sizeP o ops).1 (sizeP o ops).2
  · simp [c]
  simp [c]
  obtain ⟨k1, k2, hP, h64, hm1, hm2⟩ := sizeP_all c
  obtain ⟨M, hM⟩ := Int.eq_ofNat_of_zero_le (show 0 ≤ o.st by omega)
  have hM' : o.st = (M : Int) := hM
  have hC : movesC o ops = movTo o ops.length M ops.length M ops ops.length := by
    rw [movesC, if_pos c, hP, hM']; simp
  rw [hC]
  have e1 : (sizeP o ops).1 = ops.length := by rw [hP]
  have e2 : (sizeP o ops).2 = M := by rw [hP]; exact hM'
  rw [e1, e2] at c
  rw [e1, e2]
  have hMM : M ≤ 32 := by omega
  refine ALoop.intro (S := fun (i : Nat) => ⟨[(5, .own true 1 ((movTo o ops.length M ops.length M ops i).map crow)), (1, .pv (.seq false 5 (ops.map orow))), (2, .pv (.ptr 0 0)), (6, .pv (I64 ops.length)), (7, .pv (I64 M)), (8, .pv (I64 i))], [[.pv (I64 o.st), .pv (I64 o.kd), .pv (I64 o.ini), .pv (.seq false 4 (o.rows.map rrow))]]⟩) (fun i => i ≤ ops.length) (fun i => ops.length - i) 0 ?_ ?_ ?_
  · exact (Weak.nilOwn (s := 5) 1 true (by simp)).trans (Weak.to (by simp [movTo]) (by simp) (by simp) (by simp) (by simp))
  · omega
  · intro i hi
    by_cases h : i < ops.length
    · have hw : w64 ((i : Int) + 1) = ((i + 1 : Nat) : Int) := by rw [w64_id (by omega) (by omega)]; omega
      have hlt := movTo_length o ops.length M ops.length M ops i hi
      have hlt1 : ops.length * (M * 2) ≤ 64 * (32 * 2) := Nat.mul_le_mul h64 (by omega)
      have hlt2 : i * (1 + ops.length * (M * 2)) ≤ 64 * (1 + 64 * (32 * 2)) := Nat.mul_le_mul (by omega) (by omega)
      have hmay := fun b => refMay_ok o ops[i] b hl
      simp only [robj, orow] at hmay
      have v2 := var2 (n := ops.length) (m := M) (a := i) c (by omega)
      simp [h, orow]
      refine CallK.intro (v2 ▸ refIn_ok ops.length M i) (by simp) ?_
      simp [h, orow]
      have hmh : (movH ops.length M ops[i] i).length ≤ 1 := by unfold movH; split <;> simp
      refine ⟨fun he => ⟨by omega, ?_⟩, fun he => ?_⟩
      all_goals
        refine ALoop.intro (S := fun (k : Nat) => ⟨[(5, .own true 1 ((movTo o ops.length M ops.length M ops i ++ (movH ops.length M ops[i] i ++ movI o ops.length M ops[i] M i k)).map crow)), (1, .pv (.seq false 5 (ops.map orow))), (2, .pv (.ptr 0 0)), (6, .pv (I64 ops.length)), (7, .pv (I64 M)), (8, .pv (I64 i)), (9, .pv (I64 (varS ops.length M 2 i 0))), (10, .pv (I64 k))], [[.pv (I64 o.st), .pv (I64 o.kd), .pv (I64 o.ini), .pv (.seq false 4 (o.rows.map rrow))]]⟩) (fun k => k ≤ ops.length) (fun k => ops.length - k) 0 ?_ ?_ ?_
        · exact Weak.to (by simp [movH, movI, he, crow, irow]) (by simp) (by simp) (by simp) (by simp)
        · omega
        · intro k hk
          by_cases h2 : k < ops.length
          · have hw2 : w64 ((k : Int) + 1) = ((k + 1 : Nat) : Int) := by rw [w64_id (by omega) (by omega)]; omega
            have hli := movI_length o ops.length M ops[i] M i k
            have hli2 : k * (M * 2) ≤ 64 * (32 * 2) := Nat.mul_le_mul (by omega) (by omega)
            simp [h2]
            refine ALoop.intro (S := fun (b : Nat) => ⟨[(5, .own true 1 ((movTo o ops.length M ops.length M ops i ++ (movH ops.length M ops[i] i ++ (movI o ops.length M ops[i] M i k ++ movK o ops.length M ops[i] i k b))).map crow)), (1, .pv (.seq false 5 (ops.map orow))), (2, .pv (.ptr 0 0)), (6, .pv (I64 ops.length)), (7, .pv (I64 M)), (8, .pv (I64 i)), (9, .pv (I64 (varS ops.length M 2 i 0))), (10, .pv (I64 k)), (11, .pv (I64 b))], [[.pv (I64 o.st), .pv (I64 o.kd), .pv (I64 o.ini), .pv (.seq false 4 (o.rows.map rrow))]]⟩) (fun b => b ≤ M) (fun b => M - b) 0 ?_ ?_ ?_
            · exact Weak.to (by simp [movK]) (by simp) (by simp) (by simp) (by simp)
            · omega
            · intro b hb
              by_cases h3 : b < M
              · have hw3 : w64 ((b : Int) + 1) = ((b + 1 : Nat) : Int) := by rw [w64_id (by omega) (by omega)]; omega
                have hlk := movK_length o ops.length M ops[i] i k b
                have hmb := hmay b
                have v1 := var1 (n := ops.length) (m := M) (a := i) (b := k) c (by omega) (by omega)
                have v3 := var3 (n := ops.length) (m := M) (a := k) (b := b) c (by omega) (by omega)
                have v4 := var3 (n := ops.length) (m := M) (a := (k : Int) + 1) (b := b) c (by omega) (by omega)
                have hwk : w64 ((k : Int) + 1) = (k : Int) + 1 := w64_id (by omega) (by omega)
                simp [h3, h, orow]
                refine CallK.intro (v1 ▸ refAt_ok ops.length M i k) (by simp) ?_
                simp
                refine CallK.intro (v3 ▸ refState_ok ops.length M k b) (by simp) ?_
                simp [h, orow]
                cases hms : mayS o ops[i] b with
                | none =>
                  rw [hms] at hmb
                  simp only [mayPV] at hmb
                  refine CallQ0.intro hmb (by simp) ?_
                  simp [h, orow, he]
                  first
                    | refine ⟨by omega, b + 1, by dsimp only; omega, by dsimp only; omega, Weak.to ?_ (by simp) (by simp) (by simp) (by simp)⟩
                      simp [hw3, movK_succ, movB, hms, optL, he, crow, irow, orow]
                    | refine ⟨by omega, ?_⟩
                      simp [hwk]
                      refine CallK.intro (v4 ▸ refState_ok ops.length M ((k : Int) + 1) b) (by simp) ?_
                      simp
                      refine ⟨by omega, b + 1, by dsimp only; omega, by dsimp only; omega, Weak.to ?_ (by simp) (by simp) (by simp) (by simp)⟩
                      simp [hw3, movK_succ, movB, hms, optL, he, crow, irow, orow]
                | some y =>
                  rw [hms] at hmb
                  simp only [mayPV] at hmb
                  have hy := mayS_in k1 hms
                  have v5 := var3 (n := ops.length) (m := M) (a := (k : Int) + 1) (b := y) c (by omega) (by omega)
                  refine CallQ0.intro hmb (by simp) ?_
                  simp [hwk]
                  refine CallK.intro (v5 ▸ refState_ok ops.length M ((k : Int) + 1) y) (by simp) ?_
                  simp [h, orow, he]
                  first
                    | refine ⟨by omega, b + 1, by dsimp only; omega, by dsimp only; omega, Weak.to ?_ (by simp) (by simp) (by simp) (by simp)⟩
                      simp [hw3, movK_succ, movB, hms, optL, he, crow, irow, orow]
                    | refine ⟨by omega, ?_⟩
                      simp [hwk]
                      refine CallK.intro (v4 ▸ refState_ok ops.length M ((k : Int) + 1) b) (by simp) ?_
                      simp
                      refine ⟨by omega, b + 1, by dsimp only; omega, by dsimp only; omega, Weak.to ?_ (by simp) (by simp) (by simp) (by simp)⟩
                      simp [hw3, movK_succ, movB, hms, optL, he, crow, irow, orow]
              · simp [h3]
                have : b = M := by omega
                subst this
                refine ⟨k + 1, by dsimp only; omega, by dsimp only; omega, Weak.to ?_ (by simp) (by simp) (by simp) (by simp)⟩
                simp [hw2, movI_succ]
          · simp [h2]
            have hkN : k = ops.length := by omega
            refine ⟨i + 1, by dsimp only; omega, by dsimp only; omega, Weak.to ?_ (by simp) (by simp) (by simp) (by simp)⟩
            simp [hw, movTo_succ _ _ _ _ _ h, hkN]
    · simp [h]
      have : i = ops.length := by omega
      rw [this]

end Go.AX
