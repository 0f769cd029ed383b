/-
  The walk of MovesTells.
-/
import Derived.Test.YtipaihpchnlkfaaS2AxMovO
import Derived.Test.YtipaihpchnlkfaaS2AxMovG
namespace Go.AX
open Go.Proofs
set_option linter.unusedSimpArgs false

theorem movesC_small {o : Obj} {ops : List Op5} : ∀ c ∈ movesC o ops, c.length ≤ 140737488355328 := by
  intro c hc
  unfold movesC at hc
  split at hc
  · have := movTo_small c hc; omega
  · cases hc
theorem movesC_few {o : Obj} {ops : List Op5} (h : sizeOk (sizeP o ops).1 (sizeP o ops).2 = true) : (movesC o ops).length ≤ 1000000 := by
  obtain ⟨k1, k2, hP, h64, hm1, hm2⟩ := sizeP_all h
  obtain ⟨M, hM⟩ := Int.eq_ofNat_of_zero_le (show 0 ≤ o.st by omega)
  have hM' : o.st = (M : Int) := hM
  have hC : movesC o ops = movTo o ops.length M ops.length M ops ops.length := by
    rw [movesC, if_pos h, hP, hM']; simp
  have := movTo_length o ops.length M ops.length M ops ops.length (Nat.le_refl _)
  have hlt1 : ops.length * (M * 2) ≤ 64 * (32 * 2) := Nat.mul_le_mul h64 (by omega)
  have hlt2 : ops.length * (1 + ops.length * (M * 2)) ≤ 64 * (1 + 64 * (32 * 2)) := Nat.mul_le_mul (by omega) (by omega)
  rw [hC]; omega

set_option maxRecDepth 16000 in
theorem movesTells_ok (o : Obj) (ops : List Op5) (state : Int) (hr : objR o) : APure Try.prog 3 [robj o, ovec ops, I64 state] (fun r => r = .pv (BL true)) := by
  refine apure1 hmo Try.func3 (by kernel_rfl) rfl rfl (by kernel_rfl) (Nat.le_of_ble_eq_true rfl) ?_
  have hfew := few_ok o
  have hsz := size_ok o ops
  have hmv := movesC_ok o ops
  have hrsz := refSize_ok o ops hr
  have hrmv := refMovesC_ok o ops hr
  simp only [robj, ovec] at hfew hsz hmv hrsz hrmv
  simp [robj, ovec]
  refine CallK.intro hfew (by simp) ?_
  simp
  refine ⟨fun c => ?_, fun c1 c2 => ?_⟩
  · refine CallK.intro awakeM_ok (by simp) ?_
    simp
  have hl : o.rows.length ≤ 140737488355328 := by omega
  have hl2 : ops.length ≤ 140737488355328 := by omega
  replace hsz := hsz hl hl2
  replace hmv := hmv hl hl2
  replace hrsz := hrsz hl hl2
  replace hrmv := hrmv hl hl2
  refine CallK.intro hrsz (by simp) ?_
  simp
  refine CallK.intro hsz (by simp) ?_
  simp
  generalize hN : (sizeP o ops).1 = n at *
  generalize hM : (sizeP o ops).2 = m at *
  refine ALoop.intro (S := fun (i : Nat) => ⟨[(1, .pv (.seq false 5 (ops.map orow))), (2, .pv (I64 state)), (3, .pv (.ptr 0 0)), (7, .pv (I64 n)), (8, .pv (I64 m)), (9, .pv (.ptr 1 0)), (10, .pv (I64 i))], [[.pv (I64 o.st), .pv (I64 o.kd), .pv (I64 o.ini), .pv (.seq false 4 (o.rows.map rrow))], [.pv (I64 n), .pv (I64 m)]]⟩) (fun i => i ≤ ops.length) (fun i => ops.length - i) 0 ?_ ?_ ?_
  · exact Weak.to (by simp) (by simp) (by simp) (by simp) (by simp)
  · omega
  · intro i hi
    by_cases h : i < ops.length
    · have hw : w64 ((i : Int) + 1) = ((i + 1 : Nat) : Int) := by rw [w64_id (by omega) (by omega)]; omega
      have h1 := mayM_ok o ops[i] state hl
      have h2 := refMay_ok o ops[i] state hl
      simp only [robj, orow] at h1 h2
      cases hms : mayS o ops[i] state
      all_goals
        rw [hms] at h1 h2
        simp only [mayPV] at h1 h2
        simp [h, orow]
        refine CallQ0.intro h1 (by simp) ?_
        simp [h, orow]
        refine CallQ0.intro h2 (by simp) ?_
        simp [h, orow]
        refine ⟨i + 1, by dsimp only; omega, by dsimp only; omega, Weak.to ?_ (by simp) (by simp) (by simp) (by simp)⟩
        simp [hw, orow]
    · simp [h]
      cases hc : sizeOk n m with
      | false =>
        simp only [hc, Bool.false_eq_true, if_false] at hmv hrmv
        have hs := (sameRows_ok [] [] (by decide) (fun x hx => nomatch hx)).conv (xs := [.lit (.slice none 0 0), .lit (.slice none 0 0)]) ⟨_, _, rfl, PV.as_nil 1, _, _, rfl, PV.as_nil 1, rfl⟩
        refine CallQ.intro (fun _ => hmv) (by simp) ?_
        simp
        refine CallQ.intro (fun _ => hrmv) (by simp) ?_
        simp
        refine CallQ.intro (fun _ => hs) (by simp) ?_
        simp
        refine CallQ.intro (fun _ => awakeM_ok) (by simp) ?_
        simp
      | true =>
        simp only [hc, if_true] at hmv hrmv
        have hs := sameRows_ok (movesC o ops) (movesC o ops) (by have := movesC_few (o := o) (ops := ops) (by rw [hN, hM]; exact hc); omega) movesC_small
        refine CallQ.intro (fun _ => hmv) (by simp) ?_
        simp
        refine CallQ.intro (fun _ => hrmv) (by simp) ?_
        simp
        refine CallQ.intro (fun _ => hs) (by simp) ?_
        simp
        refine CallQ.intro (fun _ => awakeM_ok) (by simp) ?_
        simp

end Go.AX
