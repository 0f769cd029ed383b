/-
  The probe of layer 37.
-/
import Derived.Test.YtklaffmpfmpffaaGreatDoorS10AxEnN
import Derived.Test.YtklaffmpfmpffaaGreatDoorS10AxDeL
import Derived.Test.YtklaffmpfmpffaaGreatDoorAxBe
namespace Go.AX
open Go.Proofs Go.Shelf
set_option linter.unusedSimpArgs false

theorem APure.argsA {P : Program} {f : FuncId} {xs ys : List PV} {R : SV → Prop} (h : APure P f ys R) (hw : wkAL xs ys) : APure P f xs R :=
  ⟨h.1, fun w vs hv => h.2 w vs (wkAL_ok hw hv)⟩
theorem refSame_ok (v1 v2 : Int) (a b : List (List Int)) (hl : a.length ≤ 140737488355328) (hr : ∀ x ∈ a, x.length ≤ 140737488355328) : APure Tryz.prog 13 [.agg [I64 v1, .seq false 1 (a.map crowF)], .agg [I64 v2, .seq false 1 (b.map crowF)]] (fun r => r = .pv (BL (decide (v1 = v2) && decide (a = b)))) := by
  refine apure1 hmo Tryz.func13 (by kernel_rfl) rfl rfl (by kernel_rfl) (Nat.le_of_ble_eq_true rfl) ?_
  have h := sameRows_ok a b hl hr
  simp
  refine CallG.intro (fun _ => h) (by simp) ?_
  simp
theorem one37_ok : APure Tryz.prog 12 [] (fun r => r = .pv (.agg [I64 1, I64 1, I64 0, .seq true 4 [[I64 0, I64 0, I64 0, I64 7]]])) := by
  refine apureC hmo Tryz.func12 (by kernel_rfl) rfl rfl (by kernel_rfl) (Nat.le_of_ble_eq_true rfl) ?_
  simp
theorem oneE_objR : objR oneO := ⟨⟨by decide, by decide⟩, ⟨by decide, by decide⟩⟩
theorem zeroE_objR : objR ⟨0, 0, 0, []⟩ := ⟨⟨by decide, by decide⟩, ⟨by decide, by decide⟩⟩
def eOps : List Op5 := [⟨1, 0, 0, 1, 7⟩]
theorem encPV_at {o : Obj} {ops : List Op5} {L : List (List Int)} {v : Int} (h1 : failE o ops = 0) (h2 : encC o ops = L) (h3 : varsN ops.length o.st = v) : encPV o ops = .tup [.agg [I64 v, .seq true 1 (L.map crow)], I64 0] := by
  unfold encPV; rw [h1, h2, h3]; rfl
theorem ew1 : failE oneO [] = 0 := by kernel_rfl
theorem ew2 : encC oneO [] = [[1], [1]] := by kernel_rfl
theorem ew3 : varsN (([] : List Op5).length) oneO.st = 1 := by kernel_rfl
theorem ew4 : failE oneO eOps = 0 := by kernel_rfl
theorem ew5 : (encC oneO eOps).length = 6 := by kernel_rfl
theorem ew6 : varsN (eOps.length) oneO.st = 4 := by kernel_rfl
theorem ew7 : failE ⟨0, 0, 0, []⟩ [] = 2 := by kernel_rfl
theorem ew8 : saysS oneO eOps [true, true, true, true] = true := by kernel_rfl
theorem ew9 : saysS oneO eOps [true, false, true, true] = false := by kernel_rfl
theorem dig0 : digS 0 = ⟨#[48]⟩ := by unfold digS; rw [Lib.decDigits]; rfl
theorem dig1 : digS 1 = ⟨#[49]⟩ := by unfold digS; rw [Lib.decDigits]; rfl
theorem ewN : nmsTo 1 1 4 = [⟨#[112, 108, 97, 99, 101, 32, 48, 32, 48]⟩, ⟨#[105, 110, 32, 48]⟩, ⟨#[115, 116, 97, 116, 101, 32, 48, 32, 48]⟩, ⟨#[115, 116, 97, 116, 101, 32, 49, 32, 48]⟩] := by
  have e : nmsTo 1 1 4 = [nmS (1, 0, 0), nmS (2, 0, 0), nmS (3, 0, 0), nmS (3, 1, 0)] := rfl
  rw [e]
  unfold nmS
  simp only [dig0, dig1]
  rfl
set_option maxRecDepth 16000 in
theorem awakeE_ok : APure Tryz.prog 6 [] (fun r => r = .pv (BL true)) := by
  refine apure1 hmo Tryz.func6 (by kernel_rfl) rfl rfl (by kernel_rfl) (Nat.le_of_ble_eq_true rfl) ?_
  have c1 := encode_ok oneO [] oneE_objR (by decide) (by decide)
  rw [encPV_at ew1 ew2 ew3] at c1
  have c2 := encode_ok oneO eOps oneE_objR (by decide) (by decide)
  rw [encPV_at ew4 rfl ew6] at c2
  have c3 := encode_ok ⟨0, 0, 0, []⟩ [] zeroE_objR (by decide) (by decide)
  rw [show encPV ⟨0, 0, 0, []⟩ [] = .tup [.agg [I64 0, .lit (.slice none 0 0)], I64 2] by unfold encPV; rw [ew7]; rfl] at c3
  have c4 := names_ok oneO eOps oneE_objR (by decide) (by decide)
  rw [if_pos ew4, show varC eOps.length oneO.st.toNat = 4 from rfl, show oneO.st.toNat = 1 from rfl, show eOps.length = 1 from rfl, ewN] at c4
  have hE6 := ew5
  generalize encC oneO eOps = L6 at *
  have s1 : APure Tryz.prog 13 [.agg [I64 1, .seq false 1 ([[1], [1]].map crowF)], .agg [I64 1, .seq false 1 ([[1], [1]].map crowF)]] (fun r => r = .pv (BL true)) := refSame_ok 1 1 [[1], [1]] [[1], [1]] (by decide) (by decide)
  have y1 := says_ok oneO eOps [true, true, true, true] oneE_objR (by decide) (by decide) (by decide)
  rw [ew8] at y1
  have y2 := says_ok oneO eOps [true, false, true, true] oneE_objR (by decide) (by decide) (by decide)
  rw [ew9] at y2
  have k1 := concat_ok [[[1]], [], [[2], [3]]] (by decide) (by decide) (by decide)
  rw [show ([[[1]], [], [[2], [3]]] : List (List (List Int))).flatten = [[1], [2], [3]] from rfl] at k1
  have s2 : APure Tryz.prog 9 [.seq false 1 ([[1], [2], [3]].map crowF), .seq false 1 ([[1], [2], [3]].map crowF)] (fun r => r = .pv (BL true)) := sameRows_ok [[1], [2], [3]] [[1], [2], [3]] (by decide) (by decide)
  simp only [robj, oneO, ovec, eOps, List.map_cons, List.map_nil, orow, rrow, brow, irow, crow, crowF, partR, srow] at c1 c2 c3 c4 s1 y1 y2 k1 s2
  replace c1 := c1.conv (xs := [.agg [I64 1, I64 1, I64 0, .seq false 4 [[I64 0, I64 0, I64 0, I64 7]]], .lit (.slice none 0 0)]) ⟨_, _, rfl, PV.as.refl _, _, _, rfl, PV.as_nil 5, rfl⟩
  replace c3 := c3.conv (xs := [.agg [I64 0, I64 0, I64 0, .lit (.slice none 0 0)], .lit (.slice none 0 0)]) ⟨_, _, rfl, PV.as_agg ⟨_, _, rfl, PV.as.refl _, _, _, rfl, PV.as.refl _, _, _, rfl, PV.as.refl _, _, _, rfl, PV.as_nil 4, rfl⟩, _, _, rfl, PV.as_nil 5, rfl⟩
  replace k1 := k1.argsA (xs := [.seq false 1 [[.seq false 1 [[.seq false 1 [[I64 1]]]]], [.lit (.slice none 0 0)], [.seq false 1 [[.seq false 1 [[I64 2]]], [.seq false 1 [[I64 3]]]]]]]) (by simp [wkAL, wkA, wkRR, wkPL, wkP, isNilSl])
  simp
  refine CallK.intro one37_ok (by simp) ?_
  simp
  refine CallK.intro c1 (by simp) ?_
  simp
  refine CallK.intro one37_ok (by simp) ?_
  simp
  refine CallK.intro c2 (by simp) ?_
  simp
  refine CallK.intro c3 (by simp) ?_
  simp
  refine CallK.intro one37_ok (by simp) ?_
  simp
  refine CallK.intro c4 (by simp) ?_
  simp [hE6]
  refine CallG.intro (fun _ => s1) (by simp) ?_
  simp [hE6]
  refine CallG.intro (fun _ => one37_ok) (by simp) ?_
  simp [hE6]
  refine CallG.intro (fun _ => y1) (by simp) ?_
  simp [hE6]
  refine CallG.intro (fun _ => one37_ok) (by simp) ?_
  simp [hE6]
  refine CallG.intro (fun _ => y2) (by simp) ?_
  simp [hE6]
  refine CallG.intro (fun _ => k1) (by simp) ?_
  simp [hE6]
  refine CallG.intro (fun _ => s2) (by simp) ?_
  simp [hE6]
end Go.AX
