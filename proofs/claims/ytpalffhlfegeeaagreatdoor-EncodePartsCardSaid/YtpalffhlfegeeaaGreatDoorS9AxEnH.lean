/-
  The law's contract: EncodeParts.
-/
import Derived.Test.YtpalffhlfegeeaaGreatDoorS9AxEnD
import Derived.Test.YtpalffhlfegeeaaGreatDoorS9AxEnG
namespace Go.AX
open Go.Proofs
set_option linter.unusedSimpArgs false

set_option maxRecDepth 16000 in
theorem cnfCheck_ok (v : Int) (L : List (List Int)) (hv : 0 ≤ v ∧ v ≤ 100000) (hl : L.length ≤ 500000) (hg : ∀ c ∈ L, c.length ≤ 1000 ∧ chkC c v = 0 ∧ tautS c = false) : APure Tryz.prog 20 [.agg [I64 v, .seq false 1 (L.map crowF)]] (fun r => r = .pv (.tup [I64 L.length, I64 0])) := by
  refine apureN [2, 3] hmo Tryz.func20 (by kernel_rfl) rfl (fun _ _ => results_tmp2 rfl _ _ _) (by kernel_rfl) (Nat.le_of_ble_eq_true rfl) ?_
  have h1 : ¬ v < 0 := by omega
  have h2 : ¬ 100000 < v := by omega
  have h3 : ¬ (1000000 : Int) < (L.length : Int) := by omega
  have h3' : ¬ 1000000 < L.length := by omega
  simp [h1, h2, h3, h3']
  refine ALoop.intro (S := fun (i : Nat) => ⟨[(1, .pv (.ptr 0 0)), (22, .pv (.seq false 1 (L.map crowF))), (23, .pv (I64 L.length)), (24, .pv (I64 i))], [[.pv (I64 v), .pv (.seq false 1 (L.map crowF))]]⟩) (fun i => i ≤ L.length) (fun i => L.length - i) 0 ?_ (Nat.zero_le _) ?_
  · exact Weak.to (by simp) (by simp) (by simp) (by simp) (by simp)
  intro i hi
  by_cases h : i < L.length
  rotate_left
  · have hie : i = L.length := by omega
    subst hie
    simp
  have hw : w64 ((i : Int) + 1) = ((i + 1 : Nat) : Int) := by rw [w64_id (by omega) (by omega)]; omega
  obtain ⟨g1, g2, g3⟩ := hg L[i] (List.getElem_mem h)
  have k1 := clCheck_ok L[i] v (by omega)
  rw [g2] at k1
  have k2 := taut_ok L[i] (by omega)
  rw [g3] at k2
  simp [h, crowF]
  refine CallK.intro k1 (by simp) ?_
  simp
  refine CallK.intro k2 (by simp) ?_
  simp
  exact ⟨i + 1, by (try dsimp only); omega, by (try dsimp only); omega, Weak.to (by simp [hw, crowF]) (by simp [crowF]) (by simp) (by simp) (by simp)⟩
set_option maxRecDepth 16000 in
theorem encodeParts_ok (o : Obj) (ops : List Op5) (hr : objR o) : APure Tryz.prog 6 [robj o, ovec ops] (fun r => r = .pv (BL true)) := by
  refine apure1 hmo Tryz.func6 (by kernel_rfl) rfl rfl (by kernel_rfl) (Nat.le_of_ble_eq_true rfl) ?_
  have hfew := few_ok o
  simp only [robj] at hfew
  simp [robj, ovec]
  refine CallK.intro hfew (by simp) ?_
  by_cases c1 : (o.rows.length : Int) ≤ 300
  rotate_left
  · simp [c1]
    refine CallK.intro awakeE_ok (by simp) ?_
    simp
  by_cases c2 : (10 : Int) < (ops.length : Int)
  · simp [c1, c2]
    refine CallK.intro awakeE_ok (by simp) ?_
    simp
  have hl : o.rows.length ≤ 140737488355328 := by omega
  have hl2 : ops.length ≤ 1000000 := by omega
  have e1 := encode_ok o ops hr hl hl2
  have z1 := size_ok o ops hl (by omega)
  have a1 := all_ok (sizeP o ops).1 (sizeP o ops).2 ops (by omega)
  simp only [robj, ovec] at e1 z1 a1
  simp [c1, c2]
  by_cases hf : failE o ops = 0
  rotate_left
  · have q2 : encPV o ops = .tup [.agg [I64 0, .lit (.slice none 0 0)], I64 (failE o ops)] := by unfold encPV; rw [if_neg hf]
    rw [q2] at e1
    refine CallK.intro e1 (by simp) ?_
    simp [hf]
    refine CallG.intro (fun _ => awakeE_ok) (by simp) ?_
    simp
  have q2 : encPV o ops = .tup [.agg [I64 (varsN ops.length o.st), .seq true 1 ((encC o ops).map crow)], I64 0] := by unfold encPV; rw [if_pos hf, hf]
  rw [q2] at e1
  obtain ⟨g1, g2, g3, hP, hE, hc⟩ := failE_zero hr hf
  obtain ⟨b1, b2, b3⟩ := enc_all hr hf
  have hv0 : 0 ≤ varsN ops.length o.st := by
    obtain ⟨q1, q2, q3, q4, q5⟩ := varsN_eq hc
    omega
  have hgood := enc_good hr hf
  have hrows := enc_rows hc
  have k1 := cnfCheck_ok (varsN ops.length o.st) (encC o ops) (by omega) (by omega) (fun c hm => ⟨by have := hrows c hm; omega, (hgood c hm).chk (by have := hrows c hm; omega) (by omega) hv0, (hgood c hm).taut⟩)
  rw [hP] at z1 a1
  dsimp only at z1 a1
  rw [b1] at a1
  generalize encC o ops = L at *
  refine CallK.intro e1 (by simp) ?_
  simp
  refine CallK.intro k1 (by simp) ?_
  simp
  refine CallQ.intro (fun _ => z1) (by simp) ?_
  simp
  refine CallQ.intro (fun _ => a1) (by simp) ?_
  simp
  refine CallQ.intro (fun _ => awakeE_ok) (by simp) ?_
  simp
end Go.AX
