/-
  The law's contract: DecodeRight.
  The law's contract: DecodeBack.
-/
import Derived.Test.YtpalffhlfegeeaaGreatS8AxDeT
import Derived.Test.YtpalffhlfegeeaaGreatS8AxDfC
import Derived.Test.YtpalffhlfegeeaaGreatS8AxDfE
import Derived.Test.YtpalffhlfegeeaaGreatS8AxDfF
namespace Go.AX
open Go.Proofs
set_option linter.unusedSimpArgs false

theorem sat_says {o : Obj} {ops : List Op5} {T : List Bool} (hr : objR o) (hf : failE o ops = 0) : (decide ((T.length : Int) = varsN ops.length o.st) && decide (∀ c ∈ encC o ops, holdsS c T = true)) = saysS o ops T := by
  rw [Bool.eq_iff_iff, ← sat_iff hr hf, Bool.and_eq_true, decide_eq_true_iff, decide_eq_true_iff]
set_option maxRecDepth 16000 in
theorem decodeRight_ok (o : Obj) (ops : List Op5) (M : List Bool) (hr : objR o) : APure Tryz.prog 4 [robj o, ovec ops, .seq false 1 (brow M)] (fun r => r = .pv (BL true)) := by
  refine apure1 hmo Tryz.func4 (by kernel_rfl) rfl rfl (by kernel_rfl) (Nat.le_of_ble_eq_true rfl) ?_
  have hfew := few_ok o
  simp only [robj] at hfew
  simp [robj, ovec]
  refine CallK.intro hfew (by simp) ?_
  by_cases c1 : (o.rows.length : Int) ≤ 300
  rotate_left
  · simp [c1]
    refine CallK.intro awakeD_ok (by simp) ?_
    simp
  by_cases c2 : (7 : Int) < (ops.length : Int)
  · simp [c1, c2]
    refine CallK.intro awakeD_ok (by simp) ?_
    simp
  by_cases c3 : (1000 : Int) < (M.length : Int)
  · simp [c1, c2, c3]
    refine CallK.intro awakeD_ok (by simp) ?_
    simp
  have hl : o.rows.length ≤ 140737488355328 := by omega
  have hl2 : ops.length ≤ 1000000 := by omega
  have hM : M.length ≤ 1000000 := by omega
  have e1 := encode_ok o ops hr hl hl2
  have d1 := dec_ok o ops M hr hl hl2 hM
  simp only [robj, ovec] at e1 d1
  simp [c1, c2, c3]
  by_cases hf : failE o ops = 0
  rotate_left
  · have hd : decE o ops M = failE o ops := by unfold decE; rw [if_pos hf]
    have q1 : decPV o ops M = .tup [.lit (.slice none 0 0), I64 (failE o ops)] := by unfold decPV; rw [hd, if_neg hf]
    have q2 : encPV o ops = .tup [.agg [I64 0, .lit (.slice none 0 0)], I64 (failE o ops)] := by unfold encPV; rw [if_neg hf]
    rw [q1] at d1
    rw [q2] at e1
    refine CallK.intro e1 (by simp) ?_
    simp
    refine CallK.intro d1 (by simp) ?_
    simp [hf]
    refine CallG.intro (fun _ => awakeD_ok) (by simp) ?_
    simp
  have q2 : encPV o ops = .tup [.agg [I64 (varsN ops.length o.st), .seq true 1 ((encC o ops).map crow)], I64 0] := by unfold encPV; rw [if_pos hf, hf]
  rw [q2] at e1
  obtain ⟨g1, g2, g3, hP, hE, hc⟩ := failE_zero hr hf
  have hh := holds_ok (varsN ops.length o.st) (encC o ops) M (by have := (enc_len hr hf).1; omega) (fun x hx => by have := enc_rows hc x hx; omega)
  rw [sat_says hr hf] at hh
  refine CallK.intro e1 (by simp) ?_
  simp
  by_cases hs : saysS o ops M = true
  rotate_left
  · have hs' : saysS o ops M = false := by simpa using hs
    have hd : decE o ops M = 5 := by unfold decE; rw [if_neg (by omega), if_neg hs]
    have q1 : decPV o ops M = .tup [.lit (.slice none 0 0), I64 5] := by unfold decPV; rw [hd, if_neg (by decide)]
    rw [q1] at d1
    rw [hs'] at hh
    refine CallK.intro d1 (by simp) ?_
    simp
    refine CallK.intro hh (by simp) ?_
    simp
    refine CallG.intro (fun _ => awakeD_ok) (by simp) ?_
    simp
  have hd : decE o ops M = 0 := by unfold decE; rw [if_neg (by omega), if_pos hs]
  have q1 : decPV o ops M = .tup [.seq true 2 ((decL o ops M).map prow), I64 0] := by unfold decPV; rw [hd, if_pos rfl]
  rw [q1] at d1
  rw [hs] at hh
  have hw := says_wit hr hs
  have hlen := decL_len o ops M hl2
  have i1 := isW_ok o ops (decL o ops M) hl hl2 hlen
  rw [decide_eq_true (wit_chk hw)] at i1
  have i2 := refLin_ok o ops (decL o ops M) hr hl hl2 hlen hw
  simp only [robj, ovec] at i1 i2
  refine CallK.intro d1 (by simp) ?_
  simp
  refine CallK.intro hh (by simp) ?_
  simp
  first
    | refine CallG.intro (fun _ => i2) (by simp) ?_
    | refine CallQ.intro (fun _ => i2) (by simp) ?_
  simp
  first
    | refine CallG.intro (fun _ => i1) (by simp) ?_
    | refine CallQ.intro (fun _ => i1) (by simp) ?_
  simp
  first
    | refine CallG.intro (fun _ => awakeD_ok) (by simp) ?_
    | refine CallQ.intro (fun _ => awakeD_ok) (by simp) ?_
  simp
end Go.AX

namespace Go.AX
open Go.Proofs
set_option linter.unusedSimpArgs false

set_option maxRecDepth 16000 in
theorem decodeBack_ok (o : Obj) (ops : List Op5) (ps : List (Int × Int)) (hr : objR o) : APure Tryz.prog 5 [robj o, ovec ops, .seq false 2 (ps.map prow)] (fun r => r = .pv (BL true)) := by
  refine apure1 hmo Tryz.func5 (by kernel_rfl) rfl rfl (by kernel_rfl) (Nat.le_of_ble_eq_true rfl) ?_
  have hfew := few_ok o
  simp only [robj] at hfew
  simp [robj, ovec]
  refine CallK.intro hfew (by simp) ?_
  by_cases c1 : (o.rows.length : Int) ≤ 300
  rotate_left
  · simp [c1]
    refine CallK.intro awakeD_ok (by simp) ?_
    simp
  by_cases c2 : (7 : Int) < (ops.length : Int)
  · simp [c1, c2]
    refine CallK.intro awakeD_ok (by simp) ?_
    simp
  by_cases c3 : (40 : Int) < (ps.length : Int)
  · simp [c1, c2, c3]
    refine CallK.intro awakeD_ok (by simp) ?_
    simp
  have hl : o.rows.length ≤ 140737488355328 := by omega
  have hl2 : ops.length ≤ 1000000 := by omega
  have hp : ps.length ≤ 1000000 := by omega
  have e1 := encode_ok o ops hr hl hl2
  have t1 := tru_ok o ops ps hr hl hl2 hp
  have i1 := isW_ok o ops ps hl hl2 hp
  simp only [robj, ovec] at e1 t1 i1
  simp [c1, c2, c3]
  by_cases hf : failE o ops = 0
  rotate_left
  · have hd : truE o ops ps = failE o ops := by unfold truE; rw [if_pos hf]
    have q1 : truPV o ops ps = .tup [.lit (.slice none 0 0), I64 (failE o ops)] := by unfold truPV; rw [hd, if_neg hf]
    have q2 : encPV o ops = .tup [.agg [I64 0, .lit (.slice none 0 0)], I64 (failE o ops)] := by unfold encPV; rw [if_neg hf]
    rw [q1] at t1
    rw [q2] at e1
    refine CallK.intro e1 (by simp) ?_
    simp
    refine CallK.intro t1 (by simp) ?_
    simp [hf]
    refine CallG.intro (fun _ => i1) (by simp) ?_
    simp [hf]
    refine CallG.intro (fun _ => awakeD_ok) (by simp) ?_
    simp
  have q2 : encPV o ops = .tup [.agg [I64 (varsN ops.length o.st), .seq true 1 ((encC o ops).map crow)], I64 0] := by unfold encPV; rw [if_pos hf, hf]
  rw [q2] at e1
  have hd : truE o ops ps = (chkW o ops ps).2 := by unfold truE; rw [if_neg (by omega)]
  by_cases hw : (chkW o ops ps).2 = 0
  rotate_left
  · have q1 : truPV o ops ps = .tup [.lit (.slice none 0 0), I64 (chkW o ops ps).2] := by unfold truPV; rw [hd, if_neg hw]
    rw [q1] at t1
    rw [decide_eq_false hw] at i1
    refine CallK.intro e1 (by simp) ?_
    simp
    refine CallK.intro t1 (by simp) ?_
    simp
    refine CallG.intro (fun _ => i1) (by simp) ?_
    simp [hw]
    refine CallG.intro (fun _ => awakeD_ok) (by simp) ?_
    simp
  rw [hw] at hd
  have q1 : truPV o ops ps = .tup [.seq true 1 (brow (truL o ops ps)), I64 0] := by unfold truPV; rw [hd, if_pos rfl]
  rw [q1] at t1
  rw [decide_eq_true hw] at i1
  obtain ⟨hs, hb⟩ := back_says hr hf hw
  obtain ⟨g1, g2, g3, hP, hE, hc⟩ := failE_zero hr hf
  have hh := holds_ok (varsN ops.length o.st) (encC o ops) (truL o ops ps) (by have := (enc_len hr hf).1; omega) (fun x hx => by have := enc_rows hc x hx; omega)
  rw [sat_says hr hf, hs] at hh
  have hdd : decE o ops (truL o ops ps) = 0 := by unfold decE; rw [if_neg (by omega), if_pos hs]
  have hv : (truL o ops ps).length ≤ 1000000 := by
    rw [truL_len]
    have hsz := sizeOk_iff.1 hc
    have h7 : ops.length ≤ 7 := by omega
    have n1 : ops.length * ops.length ≤ 7 * 7 := Nat.mul_le_mul h7 h7
    have n2 : (ops.length + 1) * o.st.toNat ≤ 8 * 32 := Nat.mul_le_mul (by omega) (by omega)
    unfold varC
    omega
  have d1 := dec_ok o ops (truL o ops ps) hr hl hl2 hv
  have q3 : decPV o ops (truL o ops ps) = .tup [.seq true 2 (ps.map prow), I64 0] := by unfold decPV; rw [hdd, if_pos rfl, hb]
  rw [q3] at d1
  simp only [robj, ovec] at d1
  have s1 := samePicks_ok ps ps (by omega)
  rw [decide_eq_true rfl] at s1
  refine CallK.intro e1 (by simp) ?_
  simp
  refine CallK.intro t1 (by simp) ?_
  simp
  refine CallG.intro (fun _ => i1) (by simp) ?_
  simp
  refine CallK.intro d1 (by simp) ?_
  simp
  refine CallG.intro (fun _ => hh) (by simp) ?_
  simp
  refine CallG.intro (fun _ => s1) (by simp) ?_
  simp
  refine CallG.intro (fun _ => awakeD_ok) (by simp) ?_
  simp
end Go.AX
