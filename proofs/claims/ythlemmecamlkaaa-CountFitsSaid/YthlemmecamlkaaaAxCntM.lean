/-
  The walk of CountFits.
-/
import Derived.Test.YthlemmecamlkaaaAxCntL
namespace Go.AX
open Go.Proofs

set_option maxRecDepth 8000 in
theorem countFits_ok (a b : Int) (ops : List Op5) : APure Try.prog 5 [.agg [I64 a, I64 b], ovec ops] (fun r => r = .pv (BL true)) := by
  refine apure1 hmo Try.func5 (by kernel_rfl) rfl rfl (by kernel_rfl) (Nat.le_of_ble_eq_true rfl) ?_
  by_cases h70 : ops.length ≤ 70
  case neg =>
    have h : (70 : Int) < ops.length := by omega
    simp [ovec, h]
    refine CallG.intro (r := .pv (I64 0)) (fun hh => hh.elim) (by simp) ?_
    simp
    refine CallK.intro awake_ok (by simp) ?_
    simp
  have hl : ops.length ≤ 140737488355328 := by omega
  have h : ¬ (70 : Int) < ops.length := by omega
  by_cases hf : fitsN a b ops = 0
  case neg =>
    simp [ovec, h]
    refine CallG.intro (r := .pv (I64 (fitsN a b ops))) (fun hh => fits_ok a b ops hl) (by simp) ?_
    simp [hf]
    refine CallK.intro awake_ok (by simp) ?_
    simp
  have hok := all_ok_of (fits_iff.1 hf).1
  obtain ⟨k1, k2, k3⟩ := allOk_iff.1 hok
  have hs := sizeOk_iff.1 k2
  have hwb : w64 (b - 1) = b - 1 := w64_id (by omega) (by omega)
  have hwa : w64 (a - 1) = a - 1 := w64_id (by omega) (by omega)
  by_cases ha : 0 < a
  case pos =>
    have hl1 : (0 : Int) < ops.length := by omega
    have hlp : 0 < ops.length := by omega
    have hwl : w64 ((ops.length : Int) - 1) = ((ops.length - 1 : Nat) : Int) := by rw [w64_id (by omega) (by omega)]; omega
    simp [ovec, h]
    refine CallG.intro (r := .pv (I64 0)) (fun hh => hf ▸ fits_ok a b ops hl) (by simp) ?_
    simp [ha, hl1, hlp, hwl, hwa]
    have hv : frzR (frzP [[SV.pv (I64 a), SV.pv (I64 b)]] 3) (List.take (ops.length - 1) (List.map orow ops)) = (ops.take (ops.length - 1)).map orow := by rw [← List.map_take, frzR_orow]
    rw [hv]
    have hfl := fits_less hf ha
    refine CallQ.intro (r := .pv (I64 0)) (fun hh => hfl ▸ fits_ok (a - 1) b (ops.take (ops.length - 1)) (by simp; omega)) (by simp) ?_
    simp
    simp [hwb]
    refine CallG.intro (r := .pv (I64 0)) (fun hh => fits_less_state hf hh ▸ fits_ok a (b - 1) ops hl) (by simp) ?_
    simp
    refine CallG.intro (r := .pv (BL true)) (fun _ => awake_ok) (by simp) ?_
    simp
  have ha0 : ¬ 0 < a := ha
  simp [ovec, h]
  refine CallG.intro (r := .pv (I64 0)) (fun hh => hf ▸ fits_ok a b ops hl) (by simp) ?_
  simp [ha0]
  refine CallQ.intro (r := .pv (I64 0)) (fun hh => hh.elim) (by simp) ?_
  simp [hwb]
  refine CallG.intro (r := .pv (I64 0)) (fun hh => fits_less_state hf hh ▸ fits_ok a (b - 1) ops hl) (by simp) ?_
  simp
  refine CallG.intro (r := .pv (BL true)) (fun _ => awake_ok) (by simp) ?_
  simp

end Go.AX
