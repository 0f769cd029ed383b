/-
  Contracts: the document's formula; the law's contract EncodeTells.
-/
import Derived.Test.YtpalffhlfegeeaaGreatDoorS9AxEnK
import Derived.Test.YtpalffhlfegeeaaGreatDoorS9AxEnD
namespace Go.AX
open Go.Proofs
set_option linter.unusedSimpArgs false

set_option maxRecDepth 16000 in
theorem refEnc_ok (o : Obj) (ops : List Op5) (hr : objR o) (hl : o.rows.length ≤ 140737488355328) (hl2 : ops.length ≤ 1000000) : APure Tryz.prog 10 [robj o, ovec ops] (fun r => r = .pv (encPV o ops)) := by
  refine apureX [] [.cell 4 _, .tmp 5] hmo Tryz.func10 (by kernel_rfl) rfl rfl (by kernel_rfl) (Nat.le_of_ble_eq_true rfl) ?_
  have h1 := refErr_ok o ops hr hl (by omega)
  have h2 := refPairs_ok ops (by omega)
  have h3 := refMovesC_ok o ops hr hl (by omega)
  simp only [robj, ovec] at h1 h2 h3
  unfold encPV
  simp [robj, ovec]
  refine CallK.intro h1 (by simp) ?_
  by_cases hf : failE o ops = 0
  rotate_left
  · simp [hf]
  obtain ⟨g1, g2, g3, hP, hE, hc⟩ := failE_zero hr hf
  obtain ⟨q1, q2, q3, q4⟩ := obj_good hr g1
  obtain ⟨b0, b1, b2, b3, b4⟩ := enc_len hr hf
  obtain ⟨M, hM⟩ : ∃ M : Nat, o.st = (M : Int) := ⟨o.st.toNat, by omega⟩
  have hC : encC o ops = placesC ops.length o.st ++ (timesC ops.length o.st (pairsTo ops ops.length) ++ (statesC ops.length o.st o.ini ++ movesC o ops)) := rfl
  rw [hP] at h3
  rw [if_pos hc] at h3
  have k1 := refPlC_ok ops.length o.st hc
  have k2 := refTiC_ok ops.length o.st (pairsTo ops ops.length) hc (by have := pairs_few g2 g3; omega) (pairs_proper (chk_zero g2).2)
  rw [hM] at hc
  have k3 := refStC_ok ops.length M o.ini hc (by omega)
  have hs := sizeOk_iff.1 hc
  obtain ⟨e1, _, n1, n2, n3, n4⟩ := varC_eq hc
  have hV : varsN ops.length M = (ops.length : Int) * (ops.length : Int) + (ops.length : Int) + ((ops.length : Int) + 1) * (M : Int) := (varsN_eq hc).1
  simp only [hM] at k1 k2 k3 h3 hC b1 b2 b3 b4 ⊢
  have w1 : w64 ((ops.length : Int) * (ops.length : Int)) = (ops.length : Int) * (ops.length : Int) := w64_id (by omega) (by omega)
  have w2 : w64 ((ops.length : Int) + 1) = (ops.length : Int) + 1 := w64_id (by omega) (by omega)
  have hcM : (((ops.length + 1) * M : Nat) : Int) = ((ops.length : Int) + 1) * (M : Int) := by simp
  have hcN : ((ops.length * ops.length : Nat) : Int) = (ops.length : Int) * (ops.length : Int) := by simp
  have w3 : w64 (((ops.length : Int) + 1) * (M : Int)) = ((ops.length : Int) + 1) * (M : Int) := by rw [← hcM]; exact w64_id (by omega) (by omega)
  have w4 : w64 ((ops.length : Int) * (ops.length : Int) + (ops.length : Int)) = (ops.length : Int) * (ops.length : Int) + (ops.length : Int) := by rw [← hcN]; exact w64_id (by omega) (by omega)
  have w5 : w64 ((ops.length : Int) * (ops.length : Int) + (ops.length : Int) + ((ops.length : Int) + 1) * (M : Int)) = (ops.length : Int) * (ops.length : Int) + (ops.length : Int) + ((ops.length : Int) + 1) * (M : Int) := by rw [← hcN, ← hcM]; exact w64_id (by omega) (by omega)
  simp [hf, w1, w2, w3, w4, w5]
  refine CallQ0.intro k1 (by simp) ?_
  simp
  refine ⟨by omega, ?_⟩
  refine CallQ0.intro h2 (by simp) ?_
  simp
  refine CallQ0.intro k2 (by simp) ?_
  simp
  refine ⟨by omega, ?_⟩
  refine CallQ0.intro k3 (by simp) ?_
  simp
  refine ⟨by omega, ?_⟩
  refine CallQ0.intro h3 (by simp) ?_
  simp
  refine ⟨by omega, ?_⟩
  rw [hC, hV]
  simp
set_option maxRecDepth 16000 in
theorem encodeTells_ok (o : Obj) (ops : List Op5) (M : List Bool) (hr : objR o) : APure Tryz.prog 3 [robj o, ovec ops, .seq false 1 (brow M)] (fun r => r = .pv (BL true)) := by
  refine apure1 hmo Tryz.func3 (by kernel_rfl) rfl rfl (by kernel_rfl) (Nat.le_of_ble_eq_true rfl) ?_
  have hfew := few_ok o
  simp only [robj] at hfew
  simp [robj, ovec]
  refine CallK.intro hfew (by simp) ?_
  by_cases c1 : (o.rows.length : Int) ≤ 300
  rotate_left
  · simp [c1]
    refine CallK.intro awakeE_ok (by simp) ?_
    simp
  by_cases c2 : (7 : Int) < (ops.length : Int)
  · simp [c1, c2]
    refine CallK.intro awakeE_ok (by simp) ?_
    simp
  by_cases c3 : (1000 : Int) < (M.length : Int)
  · simp [c1, c2, c3]
    refine CallK.intro awakeE_ok (by simp) ?_
    simp
  have hl : o.rows.length ≤ 140737488355328 := by omega
  have hl2 : ops.length ≤ 1000000 := by omega
  have hM : M.length ≤ 1000000 := by omega
  have e1 := encode_ok o ops hr hl hl2
  have e2 := refEnc_ok o ops hr hl hl2
  have y1 := says_ok o ops M hr hl hl2 hM
  have y2 := refSays_ok o ops M hr hl hl2 hM
  simp only [robj, ovec] at e1 e2 y1 y2
  simp [c1, c2, c3]
  generalize saysS o ops M = s at *
  by_cases hf : failE o ops = 0
  rotate_left
  · have q2 : encPV o ops = .tup [.agg [I64 0, .lit (.slice none 0 0)], I64 (failE o ops)] := by unfold encPV; rw [if_neg hf]
    rw [q2] at e1 e2
    have s1 : APure Tryz.prog 11 [.agg [I64 0, .lit (.slice none 0 0)], .agg [I64 0, .lit (.slice none 0 0)]] (fun r => r = .pv (BL true)) := (show APure Tryz.prog 11 [.agg [I64 0, .seq false 1 (([] : List (List Int)).map crowF)], .agg [I64 0, .seq false 1 (([] : List (List Int)).map crowF)]] (fun r => r = .pv (BL true)) from refSame_ok 0 0 [] [] (by decide) (by decide)).conv ⟨_, _, rfl, PV.as_agg ⟨_, _, rfl, PV.as.refl _, _, _, rfl, PV.as_nil 1, rfl⟩, _, _, rfl, PV.as_agg ⟨_, _, rfl, PV.as.refl _, _, _, rfl, PV.as_nil 1, rfl⟩, rfl⟩
    generalize failE o ops = E at *
    refine CallK.intro e1 (by simp) ?_
    simp
    refine CallK.intro e2 (by simp) ?_
    simp
    refine CallQ0.intro s1 (by simp) ?_
    simp
    refine CallQ.intro (fun _ => y1) (by simp) ?_
    simp
    refine CallQ.intro (fun _ => y2) (by simp) ?_
    simp
    refine CallQ.intro (fun _ => awakeE_ok) (by simp) ?_
    simp
  have q2 : encPV o ops = .tup [.agg [I64 (varsN ops.length o.st), .seq true 1 ((encC o ops).map crow)], I64 0] := by unfold encPV; rw [if_pos hf, hf]
  rw [q2] at e1 e2
  obtain ⟨g1, g2, g3, hP, hE, hc⟩ := failE_zero hr hf
  have s1 := refSame_ok (varsN ops.length o.st) (varsN ops.length o.st) (encC o ops) (encC o ops) (by have := (enc_len hr hf).1; omega) (fun x hx => by have := enc_rows hc x hx; omega)
  rw [decide_eq_true rfl, decide_eq_true rfl, Bool.and_self] at s1
  generalize encC o ops = L at *
  refine CallK.intro e1 (by simp) ?_
  simp
  refine CallK.intro e2 (by simp) ?_
  simp
  refine CallQ0.intro s1 (by simp) ?_
  simp
  refine CallQ.intro (fun _ => y1) (by simp) ?_
  simp
  refine CallQ.intro (fun _ => y2) (by simp) ?_
  simp
  refine CallQ.intro (fun _ => awakeE_ok) (by simp) ?_
  simp
end Go.AX
