/-
  The walk of MovesCounts.
-/
import Derived.Test.YtipaihpchnlkfaaS2AxMovO
namespace Go.AX
open Go.Proofs

theorem movI_lenG (o : Obj) (n m : Int) (x : Op5) (M i : Nat) : ∀ k, (movI o n m x M i k).length = k * (M * (if x.e = -1 then 2 else 1))
  | 0 => by simp [movI]
  | k + 1 => by
    have ih := movI_lenG o n m x M i k
    have hk : ∀ b, (movK o n m x i k b).length = b * (if x.e = -1 then 2 else 1) := by
      intro b
      induction b with
      | zero => simp [movK]
      | succ b ihb => rw [movK_succ, List.length_append, ihb, Nat.succ_mul]; unfold movB; split <;> simp
    rw [movI_succ, List.length_append, ih, hk, Nat.succ_mul]
theorem movTo_small {o : Obj} {n m : Int} {N M : Nat} {ops : List Op5} {i : Nat} : ∀ c ∈ movTo o n m N M ops i, 1 ≤ c.length ∧ c.length ≤ 4 := by
  intro c hc
  unfold movTo at hc
  obtain ⟨j, _, hc⟩ := List.mem_flatMap.1 hc
  rcases List.mem_append.1 hc with hc | hc
  · unfold movH at hc
    split at hc
    · cases hc
    · simp at hc; subst hc; simp
  · unfold movI at hc
    obtain ⟨k, _, hc⟩ := List.mem_flatMap.1 hc
    unfold movK at hc
    obtain ⟨b, _, hc⟩ := List.mem_flatMap.1 hc
    unfold movB at hc
    rcases List.mem_cons.1 hc with rfl | hc
    · cases mayS o (ops.getD j default) b <;> simp [optL]
    · split at hc
      · simp at hc; subst hc; simp
      · cases hc

set_option maxRecDepth 16000 in
theorem movesCounts_ok (o : Obj) (ops : List Op5) : APure Try.prog 5 [robj o, ovec ops] (fun r => r = .pv (BL true)) := by
  refine apure1 hmo Try.func5 (by kernel_rfl) rfl rfl (by kernel_rfl) (Nat.le_of_ble_eq_true rfl) ?_
  have hfew := few_ok o
  have hsz := size_ok o ops
  have hmv := movesC_ok o ops
  simp only [robj, ovec] at hfew hsz hmv
  simp [robj, ovec]
  refine CallK.intro hfew (by simp) ?_
  simp
  refine ⟨fun c => ?_, fun c1 c2 => ?_⟩
  · refine CallK.intro awakeM_ok (by simp) ?_
    simp
  have hl : o.rows.length ≤ 140737488355328 := by omega
  have hl2 : ops.length ≤ 140737488355328 := by omega
  replace hsz := hsz hl hl2
  replace hmv := hmv hl hl2
  cases hc : sizeOk (sizeP o ops).1 (sizeP o ops).2 with
  | false =>
    simp only [hc, Bool.false_eq_true, if_false] at hmv
    refine CallK.intro hmv (by simp) ?_
    simp
    refine CallK.intro hsz (by simp) ?_
    simp
    refine CallK.intro (check_ok _ _) (by simp) ?_
    simp [hc]
    refine CallG.intro (r := .pv (BL true)) (fun _ => awakeM_ok) (by simp) ?_
    simp
  | true =>
    obtain ⟨k1, k2, hP, h64, hm1, hm2⟩ := sizeP_all hc
    obtain ⟨M, hM⟩ := Int.eq_ofNat_of_zero_le (show 0 ≤ o.st by omega)
    have hM' : o.st = (M : Int) := hM
    have hC : movesC o ops = movTo o ops.length M ops.length M ops ops.length := by
      rw [movesC, if_pos hc, hP, hM']; simp
    rw [if_pos hc, hC] at hmv
    have e1 : (sizeP o ops).1 = ops.length := by rw [hP]
    have e2 : (sizeP o ops).2 = M := by rw [hP]; exact hM'
    rw [e1, e2] at hsz hc
    have hNM : ops.length * M ≤ 64 * 32 := Nat.mul_le_mul h64 (by omega)
    have hNM' : ((ops.length * M : Nat) : Int) = (ops.length : Int) * M := by simp
    refine CallK.intro hmv (by simp) ?_
    simp
    refine CallK.intro hsz (by simp) ?_
    simp
    refine CallK.intro (check_ok _ _) (by simp) ?_
    simp [hc]
    generalize hL : movTo o ops.length M ops.length M ops ops.length = L at *
    refine ALoop.intro (S := fun (i : Nat) => ⟨[(5, .own true 1 (L.map crow)), (6, .pv (.ptr 1 0)), (1, .pv (.seq false 5 (ops.map orow))), (7, .pv (I64 ((movTo o ops.length M ops.length M ops i).length : Nat))), (8, .pv (I64 i))], [[.pv (I64 o.st), .pv (I64 o.kd), .pv (I64 o.ini), .pv (.seq false 4 (o.rows.map rrow))], [.pv (I64 ops.length), .pv (I64 M)]]⟩) (fun i => i ≤ ops.length) (fun i => ops.length - i) 0 ?_ ?_ ?_
    · exact Weak.to (by simp [movTo]) (by simp) (by simp) (by simp) (by simp)
    · omega
    · intro i hi
      by_cases h : i < ops.length
      · have hw : w64 ((i : Int) + 1) = ((i + 1 : Nat) : Int) := by rw [w64_id (by omega) (by omega)]; omega
        have hlt := movTo_length o ops.length M ops.length M ops i hi
        have hlt1 : ops.length * (M * 2) ≤ 64 * (32 * 2) := Nat.mul_le_mul h64 (by omega)
        have hlt2 : i * (1 + ops.length * (M * 2)) ≤ 64 * (1 + 64 * (32 * 2)) := Nat.mul_le_mul (by omega) (by omega)
        simp [h, orow]
        refine ⟨fun he => ?_, fun he => ?_⟩
        all_goals
          refine ⟨i + 1, by dsimp only; omega, by dsimp only; omega, Weak.to ?_ (by simp) (by simp) (by simp) (by simp)⟩
          have hs : (movTo o ops.length M ops.length M ops (i + 1)).length = (movTo o ops.length M ops.length M ops i).length + ((movH ops.length M ops[i] i).length + ops.length * (M * (if ops[i].e = -1 then 2 else 1))) := by
            rw [movTo_succ _ _ _ _ _ h, List.length_append, List.length_append, movI_lenG]
          simp only [movH, he, if_true, if_false, ← Nat.mul_assoc, Nat.mul_one, List.length_nil, List.length_singleton] at hs
          simp [hw]
          rw [hs]
          (try rw [Int.mul_assoc])
          rw [← hNM', w64_id (by omega) (by omega)]
          omega
      · have : i = ops.length := by omega
        subst this
        rw [hL]
        simp
        have hLs : ∀ c ∈ L, 1 ≤ c.length ∧ c.length ≤ 4 := by rw [← hL]; exact movTo_small
        have hLl : L.length ≤ 1000000 := by
          have := movTo_length o ops.length M ops.length M ops ops.length (Nat.le_refl _)
          have hlt1 : ops.length * (M * 2) ≤ 64 * (32 * 2) := Nat.mul_le_mul h64 (by omega)
          have hlt2 : ops.length * (1 + ops.length * (M * 2)) ≤ 64 * (1 + 64 * (32 * 2)) := Nat.mul_le_mul (by omega) (by omega)
          rw [hL] at this
          omega
        refine ALoop.intro (S := fun (j : Nat) => ⟨[(5, .own true 1 (L.map crow)), (7, .pv (I64 (L.length : Nat))), (9, .pv (I64 j))], [[.pv (I64 o.st), .pv (I64 o.kd), .pv (I64 o.ini), .pv (.seq false 4 (o.rows.map rrow))], [.pv (I64 ops.length), .pv (I64 M)]]⟩) (fun j => j ≤ L.length) (fun j => L.length - j) 0 ?_ ?_ ?_
        · exact Weak.to (by simp) (by simp) (by simp) (by simp) (by simp)
        · omega
        · intro j hj
          by_cases h2 : j < L.length
          · have hw : w64 ((j : Int) + 1) = ((j + 1 : Nat) : Int) := by rw [w64_id (by omega) (by omega)]; omega
            have hq := hLs L[j] (List.getElem_mem h2)
            simp [h2, crow]
            have hne : ¬ L[j] = [] := fun e => by rw [e] at hq; simp at hq
            refine ⟨⟨by omega, hne⟩, fun _ _ => ⟨j + 1, by dsimp only; omega, by dsimp only; omega, Weak.to ?_ (by simp) (by simp) (by simp) (by simp)⟩⟩
            simp [hw, crow]
          · simp [h2]
            refine CallG.intro (r := .pv (BL true)) (fun _ => awakeM_ok) (by simp) ?_
            simp

end Go.AX
