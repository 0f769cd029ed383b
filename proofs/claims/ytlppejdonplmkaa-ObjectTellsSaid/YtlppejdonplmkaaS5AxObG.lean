/-
  Contracts: what is awake (objects).
  The walk of ObjectTells.
-/
import Derived.Test.YtlppejdonplmkaaS5AxObD
import Derived.Test.YtlppejdonplmkaaS5AxObE
import Derived.Test.YtlppejdonplmkaaAxAg
namespace Go.AX
open Go.Proofs
set_option linter.unusedSimpArgs false

def flagO : Obj := ⟨2, 2, 0, [⟨0, 0, 1, 0⟩, ⟨0, 1, 0, 0⟩, ⟨1, 1, 1, 1⟩]⟩
def threeO : Obj := ⟨2, 3, 0, [⟨0, 0, 1, 0⟩, ⟨0, 1, 0, 0⟩, ⟨1, 1, 1, 1⟩]⟩
theorem flag_ok : APure Try.prog 23 [] (fun r => r = .pv (.agg [I64 2, I64 2, I64 0, .seq true 4 [[I64 0, I64 0, I64 1, I64 0], [I64 0, I64 1, I64 0, I64 0], [I64 1, I64 1, I64 1, I64 1]]])) := by
  refine apureC hmo Try.func23 (by kernel_rfl) rfl rfl (by kernel_rfl) (Nat.le_of_ble_eq_true rfl) ?_
  simp
theorem flagM_ok (h : List (List SV)) : AMut Try.prog 23 [] h (fun r h' => r = .agl [(I64 2, none), (I64 2, none), (I64 0, none), (.bot, some (.cell h.length 3))] ∧ h' = h ++ [[.pv (I64 2), .pv (I64 2), .pv (I64 0), .own true 4 [[I64 0, I64 0, I64 1, I64 0], [I64 0, I64 1, I64 0, I64 0], [I64 1, I64 1, I64 1, I64 1]]]]) := by
  refine amutAg2 hmo Try.func23 (by kernel_rfl) rfl rfl (by kernel_rfl) (Nat.le_of_ble_eq_true rfl) ?_
  simp
theorem objChk_at {o : Obj} (y : Int × Int) (h : (decide (objChk o = y) && decide (o.rows.length ≤ 10)) = true) : APure Try.prog 8 [robj o] (fun r => r = .pv (.tup [I64 y.1, I64 y.2])) := by
  simp only [Bool.and_eq_true, decide_eq_true_eq] at h
  have := objChk_ok o (by omega)
  rw [h.1] at this
  exact this
theorem move_at {o : Obj} {s k : Int} (y : Option (Int × Int)) (h : (decide (moveS o s k = y) && decide (o.rows.length ≤ 10)) = true) : APure Try.prog 10 [robj o, I64 s, I64 k] (fun r => r = .pv (movePV y)) := by
  simp only [Bool.and_eq_true, decide_eq_true_eq] at h
  have := move_ok o s k (by omega)
  rw [h.1] at this
  exact this
theorem same_at {a b : Obj} (y : Bool) (h : (decide (sameO a b = y) && decide (a.rows.length ≤ 10)) = true) : APure Try.prog 17 [robj a, robj b] (fun r => r = .pv (BL y)) := by
  simp only [Bool.and_eq_true, decide_eq_true_eq] at h
  have := sameO_ok a b (by omega)
  rw [h.1] at this
  exact this
theorem flagR : objR flagO := by unfold objR inR flagO; decide
theorem threeR : objR threeO := by unfold objR inR threeO; decide
theorem flag_reach : reachS flagO = [0, 1] := by
  have hf : objFine flagO := objFine_iff.1 (by decide +kernel)
  have r0 : RE flagO 0 := RE.init
  have r1 : RE flagO 1 := RE.step (r := ⟨0, 0, 1, 0⟩) (by simp [flagO]) r0
  unfold reachS
  rw [if_pos hf]
  show List.filter _ [(0 : Int), 1] = _
  simp [r0, r1]
theorem three_reach : reachS threeO = [0, 1] := by
  have hf : objFine threeO := objFine_iff.1 (by decide +kernel)
  have r0 : RE threeO 0 := RE.init
  have r1 : RE threeO 1 := RE.step (r := ⟨0, 0, 1, 0⟩) (by simp [threeO]) r0
  unfold reachS
  rw [if_pos hf]
  show List.filter _ [(0 : Int), 1] = _
  simp [r0, r1]
theorem three_dead : deadS threeO = [2] := by
  have hf : objFine threeO := objFine_iff.1 (by decide +kernel)
  unfold deadS
  rw [if_pos hf]
  show List.filter _ [(0 : Int), 1, 2] = _
  have h3 := three_reach
  unfold threeO at h3
  simp [deadOf, h3, threeO]
theorem flag_sort : sortR [⟨1, 1, 1, 1⟩, ⟨0, 0, 1, 0⟩] = [⟨0, 0, 1, 0⟩, ⟨1, 1, 1, 1⟩] := sortR_is (List.Perm.swap _ _ _) (by simp [ltP])

set_option maxRecDepth 16000 in
theorem awakeO_ok : APure Try.prog 7 [] (fun r => r = .pv (BL true)) := by
  refine apure1 hmo Try.func7 (by kernel_rfl) rfl rfl (by kernel_rfl) (Nat.le_of_ble_eq_true rfl) ?_
  have c1 := objChk_at (o := flagO) (3, 0) (by decide +kernel)
  have c2 := move_at (o := flagO) (s := 0) (k := 0) (some (1, 0)) (by decide +kernel)
  have c3 := move_at (o := flagO) (s := 1) (k := 0) none (by decide +kernel)
  have c4 := objChk_at (o := ⟨2, 2, 0, [⟨0, 0, 1, 0⟩, ⟨0, 1, 0, 0⟩, ⟨1, 2, 1, 1⟩]⟩) (2, 31) (by decide +kernel)
  have c5 := objChk_at (o := ⟨0, 0, 0, []⟩) (-1, 2) (by decide +kernel)
  have c6 := reach_ok flagO flagR (by decide)
  rw [flag_reach] at c6
  have c7 := dead_ok threeO threeR (by decide)
  rw [three_dead] at c7
  have c8 := same_at (a := flagO) (b := flagO) true (by decide +kernel)
  have c9 := same_at (a := flagO) (b := threeO) false (by decide +kernel)
  have c10 := sortO_ok [⟨1, 1, 1, 1⟩, ⟨0, 0, 1, 0⟩] (by decide)
  rw [flag_sort] at c10
  have d6 := sameInts_ok [0, 1] [0, 1] (by decide)
  have d7 := sameInts_ok [2] [2] (by decide)
  have d10 := refSameRows_ok [⟨0, 0, 1, 0⟩, ⟨1, 1, 1, 1⟩] [⟨0, 0, 1, 0⟩, ⟨1, 1, 1, 1⟩] (by decide)
  simp only [robj, flagO, threeO, rrow, irow, List.map_cons, List.map_nil, movePV, decide_true] at c1 c2 c3 c4 c5 c6 c7 c8 c9 c10 d6 d7 d10
  simp
  refine CallK.intro flag_ok (by simp) ?_
  simp
  refine CallK.intro c1 (by simp) ?_
  simp
  refine CallK.intro flag_ok (by simp) ?_
  simp
  refine CallK.intro c2 (by simp) ?_
  simp
  refine CallK.intro flag_ok (by simp) ?_
  simp
  refine CallK.intro c3 (by simp) ?_
  simp
  refine CallK.introM (flagM_ok _) (by simp) ?_
  rintro r h' ⟨rfl, rfl⟩
  simp
  refine CallK.intro c4 (by simp) ?_
  simp
  have c5' := c5.conv (xs := [.agg [I64 0, I64 0, I64 0, .lit (.slice none 0 0)]]) ⟨_, _, rfl, PV.as_agg ⟨_, _, rfl, PV.as.refl _, _, _, rfl, PV.as.refl _, _, _, rfl, PV.as.refl _, _, _, rfl, PV.as_nil 4, rfl⟩, rfl⟩
  refine CallK.intro c5' (by simp) ?_
  simp
  refine CallK.intro flag_ok (by simp) ?_
  simp
  refine CallQ.intro (fun _ => flag_ok) (by simp) ?_
  simp
  refine CallQ.intro (fun _ => c6) (by simp) ?_
  simp
  refine CallQ.intro (fun _ => d6) (by simp) ?_
  simp
  refine CallQ.intro (fun _ => c7) (by simp) ?_
  simp
  refine CallQ.intro (fun _ => d7) (by simp) ?_
  simp
  refine CallQ.intro (fun _ => flag_ok) (by simp) ?_
  simp
  refine CallQ.intro (fun _ => flag_ok) (by simp) ?_
  simp
  refine CallQ.intro (fun _ => c8) (by simp) ?_
  simp
  refine CallQ.intro (fun _ => flag_ok) (by simp) ?_
  simp
  refine CallQ.intro (fun _ => c9) (by simp) ?_
  simp
  refine CallQ.intro (fun _ => flag_ok) (by simp) ?_
  simp
  refine CallQ.intro (fun _ => flag_ok) (by simp) ?_
  simp
  refine CallQ.intro (fun _ => c10) (by simp) ?_
  simp
  refine CallQ.intro (fun _ => flag_ok) (by simp) ?_
  simp
  refine CallQ.intro (fun _ => flag_ok) (by simp) ?_
  simp
  refine CallQ.intro (fun _ => d10) (by simp) ?_
  simp

end Go.AX

namespace Go.AX
open Go.Proofs
set_option linter.unusedSimpArgs false

set_option maxRecDepth 16000 in
theorem objectTells_ok (o p : Obj) (x y : Int) (hr : objR o) : APure Try.prog 3 [robj o, robj p, .agg [I64 x, I64 y]] (fun r => r = .pv (BL true)) := by
  refine apure1 hmo Try.func3 (by kernel_rfl) rfl rfl (by kernel_rfl) (Nat.le_of_ble_eq_true rfl) ?_
  have f1 := few_ok o
  have f2 := few_ok p
  have c1 := objChk_ok o
  have c2 := refObjChk_ok o hr
  have c3 := move_ok o x y
  have c4 := refMove_ok o x y
  have c5 := reach_ok o hr
  have c6 := refReach_ok o hr
  have c7 := dead_ok o hr
  have c8 := refDead_ok o hr
  have c9 := sameO_ok o p
  have c10 := refSameO_ok o p
  simp only [robj] at f1 f2 c1 c2 c3 c4 c5 c6 c7 c8 c9 c10
  simp [robj]
  refine CallK.intro f1 (by simp) ?_
  simp
  refine CallG.intro (fun _ => f2) (by simp) ?_
  simp
  refine ⟨fun c => ?_, fun d1 d2 => ?_⟩
  · refine CallK.intro awakeO_ok (by simp) ?_
    simp
  have hl : o.rows.length ≤ 140737488355328 := by omega
  have hl2 : o.rows.length ≤ 1000000 := by omega
  replace c1 := c1 hl; replace c2 := c2 hl; replace c3 := c3 hl; replace c4 := c4 hl; replace c5 := c5 hl2; replace c6 := c6 hl2; replace c7 := c7 hl2; replace c8 := c8 hl2; replace c9 := c9 hl; replace c10 := c10 hl
  have c11 := sortO_ok o.rows hl2
  have c12 := refSort_ok o.rows hl2
  have c13 := refSameRows_ok (sortR o.rows) (sortR o.rows) (by rw [sortR_len]; exact hl)
  have c14 := sameInts_ok (reachS o) (reachS o) (by have := reachS_len hr; omega)
  have hdl : (deadS o).length ≤ 64 := by
    unfold deadS
    split
    · rename_i h
      have := objFine_st hr h
      have h2 : (deadTo o o.kd.toNat).length ≤ o.kd.toNat := upTo_len
      omega
    · simp
  have c15 := sameInts_ok (deadS o) (deadS o) (by omega)
  simp only [decide_true] at c13 c14 c15
  refine CallK.intro c1 (by simp) ?_
  simp
  refine CallK.intro c2 (by simp) ?_
  simp
  obtain ⟨a, b, q, hm⟩ : ∃ a b q, movePV (moveS o x y) = .tup [I64 a, I64 b, BL q] := by
    cases moveS o x y with
    | none => exact ⟨_, _, _, rfl⟩
    | some z => exact ⟨_, _, _, rfl⟩
  rw [hm] at c3 c4
  refine CallK.intro c3 (by simp) ?_
  simp
  refine CallK.intro c4 (by simp) ?_
  simp
  refine CallQ.intro (fun _ => c5) (by simp) ?_
  simp
  refine CallQ.intro (fun _ => c6) (by simp) ?_
  simp
  refine CallQ.intro (fun _ => c14) (by simp) ?_
  simp
  refine CallQ.intro (fun _ => c7) (by simp) ?_
  simp
  refine CallQ.intro (fun _ => c8) (by simp) ?_
  simp
  refine CallQ.intro (fun _ => c15) (by simp) ?_
  simp
  refine CallQ.intro (fun _ => c9) (by simp) ?_
  simp
  refine CallQ.intro (fun _ => c10) (by simp) ?_
  simp
  refine CallQ.intro (fun _ => c11) (by simp) ?_
  simp
  refine CallQ.intro (fun _ => c12) (by simp) ?_
  simp
  refine CallQ.intro (fun _ => c13) (by simp) ?_
  simp
  refine CallQ.intro (fun _ => awakeO_ok) (by simp) ?_
  simp

end Go.AX
