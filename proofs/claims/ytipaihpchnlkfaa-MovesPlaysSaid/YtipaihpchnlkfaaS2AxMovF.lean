/-
  Contracts: what is awake (moves).
-/
import Derived.Test.YtipaihpchnlkfaaS2AxMovE
namespace Go.AX
set_option linter.unusedSimpArgs false
open Go.Proofs

theorem PV.as_agg {xs ys : List PV} (hc : asL xs ys) : PV.as (.agg xs) (.agg ys) := fun w v h => by
  obtain ⟨a, rfl, hf⟩ := h
  exact ⟨a, rfl, asL_fit hc hf⟩

theorem movesC_at {o : Obj} {ops : List Op5} (L : List (List Int)) (h : (sizeOk (sizeP o ops).1 (sizeP o ops).2 && (decide (movesC o ops = L) && (decide (o.rows.length ≤ 10) && decide (ops.length ≤ 10)))) = true) : APure Try.prog 21 [robj o, ovec ops] (fun r => r = .own true 1 (L.map crow)) := by
  simp only [Bool.and_eq_true, decide_eq_true_eq] at h
  have := movesC_ok o ops (by omega) (by omega)
  rw [if_pos h.1, h.2.1] at this
  exact this
theorem size_at {o : Obj} {ops : List Op5} (n m : Int) (h : (decide (sizeP o ops = (n, m)) && (decide (o.rows.length ≤ 10) && decide (ops.length ≤ 10))) = true) : APure Try.prog 17 [robj o, ovec ops] (fun r => r = .pv (.agg [I64 n, I64 m])) := by
  simp only [Bool.and_eq_true, decide_eq_true_eq] at h
  have := size_ok o ops (by omega) (by omega)
  rw [h.1] at this
  exact this
theorem mayM_at {o : Obj} {x : Op5} {s : Int} (y : Option Int) (h : (decide (mayS o x s = y) && decide (o.rows.length ≤ 10)) = true) : APure Try.prog 18 [robj o, .agg (orow x), I64 s] (fun r => r = .pv (mayPV y)) := by
  simp only [Bool.and_eq_true, decide_eq_true_eq] at h
  have := mayM_ok o x s (by omega)
  rw [h.1] at this
  exact this
theorem playM_at {o : Obj} {ops : List Op5} {order : List Int} {inn : List Bool} (y : Option (List Int)) (h : (decide (playS o ops order inn = y) && (decide (o.rows.length ≤ 10) && decide (ops.length ≤ 10))) = true) : APure Try.prog 23 [robj o, ovec ops, .seq false 1 (irow order), .seq false 1 (brow inn)] (fun r => r = .pv (playPV true y)) := by
  simp only [Bool.and_eq_true, decide_eq_true_eq] at h
  have := playM_ok o ops order inn (by omega) (by omega)
  rw [h.1] at this
  exact this
theorem sameRows_at {a b : List (List Int)} (h : (decide (a = b) && (decide (a.length ≤ 10) && a.all fun x => decide (x.length ≤ 10))) = true) : APure Try.prog 20 [.seq false 1 (a.map crowF), .seq false 1 (b.map crowF)] (fun r => r = .pv (BL true)) := by
  simp only [Bool.and_eq_true, decide_eq_true_eq, List.all_eq_true] at h
  have := sameRows_ok a b (by omega) (fun x hx => by have := h.2.2 x hx; omega)
  rw [h.1, decide_eq_true rfl] at this
  rw [h.1]
  exact this

@[simp] theorem nwL_orow (x : Op5) : nwL (orow x) := by simp [orow]

@[simp] theorem nwL_crow (x : List Int) : nwL (crow x) := by simp [crow]

set_option maxRecDepth 16000 in
theorem awakeM_ok : APure Try.prog 15 [] (fun r => r = .pv (BL true)) := by
  refine apure1 hmo Try.func15 (by kernel_rfl) rfl rfl (by kernel_rfl) (Nat.le_of_ble_eq_true rfl) ?_
  have c1 := playM_at (o := oneO) (ops := [⟨1, 0, 0, 1, 7⟩]) (order := [0]) (inn := [true]) (some [0, 0]) (by decide +kernel)
  have c2 := playM_at (o := oneO) (ops := [⟨1, 0, 0, 1, 6⟩]) (order := [0]) (inn := [true]) none (by decide +kernel)
  have c3 := playM_at (o := oneO) (ops := [⟨1, 0, 0, 1, 7⟩]) (order := [0]) (inn := [false]) none (by decide +kernel)
  have c4 := mayM_at (o := oneO) (x := ⟨1, 0, 0, 1, 7⟩) (s := 0) (some 0) (by decide +kernel)
  have c5 := mayM_at (o := oneO) (x := ⟨1, 0, 0, 1, 6⟩) (s := 0) none (by decide +kernel)
  have c6 := movesC_at (o := oneO) (ops := [⟨1, 0, 0, 1, 7⟩]) [[2], [-1, -2, -3, 4]] (by decide +kernel)
  have c7 := movesC_at (o := oneO) (ops := [⟨1, 0, 0, 1, 6⟩]) [[2], [-1, -2, -3]] (by decide +kernel)
  have c8 := movesC_at (o := oneO) (ops := [⟨1, 0, 0, -1, -1⟩]) [[-1, -2, -3, 4], [-1, 2, -3, 4]] (by decide +kernel)
  have c9 := size_at (o := oneO) (ops := []) 0 1 (by decide +kernel)
  have c10 := size_at (o := ⟨0, 0, 0, []⟩) (ops := []) 0 0 (by decide +kernel)
  have d6 := sameRows_at (a := [[2], [-1, -2, -3, 4]]) (b := [[2], [-1, -2, -3, 4]]) (by decide +kernel)
  have d7 := sameRows_at (a := [[2], [-1, -2, -3]]) (b := [[2], [-1, -2, -3]]) (by decide +kernel)
  have d8 := sameRows_at (a := [[-1, -2, -3, 4], [-1, 2, -3, 4]]) (b := [[-1, -2, -3, 4], [-1, 2, -3, 4]]) (by decide +kernel)
  have d9 := sameInts_ok [0, 0] [0, 0] (by decide)
  simp only [playPV] at c1 c2 c3
  simp only [mayPV] at c4 c5
  simp
  refine CallK.intro one35_ok (by simp) ?_
  simp [orow]
  refine CallK.intro (ended35_ok 7) (by simp) ?_
  simp [orow]
  refine CallK.intro c1 (by simp) ?_
  simp [orow]
  refine CallK.intro one35_ok (by simp) ?_
  simp [orow]
  refine CallK.intro (ended35_ok 6) (by simp) ?_
  simp [orow]
  refine CallK.intro c2 (by simp) ?_
  simp [orow]
  refine CallK.intro one35_ok (by simp) ?_
  simp [orow]
  refine CallK.intro (ended35_ok 7) (by simp) ?_
  simp [orow]
  refine CallK.intro c3 (by simp) ?_
  simp [orow]
  refine CallK.intro one35_ok (by simp) ?_
  simp [orow]
  refine CallK.intro (ended35_ok 7) (by simp) ?_
  simp [orow]
  refine CallK.intro c4 (by simp) ?_
  simp [orow]
  refine CallK.intro one35_ok (by simp) ?_
  simp [orow]
  refine CallK.intro (ended35_ok 6) (by simp) ?_
  simp [orow]
  refine CallK.intro c5 (by simp) ?_
  simp [orow]
  refine CallQ0.intro one35_ok (by simp) ?_
  simp [orow]
  refine CallQ0.intro (ended35_ok 7) (by simp) ?_
  simp [orow]
  refine CallQ0.intro c6 (by simp) ?_
  simp [orow]
  refine CallQ0.intro d6 (by simp) ?_
  simp [orow]
  refine CallQ.intro (r := .pv (.agg [I64 1, I64 1, I64 0, .seq true 4 [[I64 0, I64 0, I64 0, I64 7]]])) (fun _ => one35_ok) (by simp) ?_
  simp [orow]
  refine CallQ.intro (r := .pv (.agg (orow ⟨1, 0, 0, 1, 6⟩))) (fun _ => ended35_ok 6) (by simp) ?_
  simp [orow]
  refine CallQ.intro (r := .own true 1 (List.map crow [[2], [-1, -2, -3]])) (fun _ => c7) (by simp) ?_
  simp [orow]
  refine CallQ.intro (r := .pv (BL true)) (fun _ => d7) (by simp) ?_
  simp [orow]
  refine CallQ.intro (r := .pv (.agg [I64 1, I64 1, I64 0, .seq true 4 [[I64 0, I64 0, I64 0, I64 7]]])) (fun _ => one35_ok) (by simp) ?_
  simp [orow]
  refine CallQ.intro (r := .own true 1 (List.map crow [[-1, -2, -3, 4], [-1, 2, -3, 4]])) (fun _ => c8) (by simp) ?_
  simp [orow]
  refine CallQ.intro (r := .pv (BL true)) (fun _ => d8) (by simp) ?_
  simp [orow]
  refine CallQ.intro (r := .pv (BL (decide ([(0 : Int), 0] = [0, 0])))) (fun _ => d9) (by simp) ?_
  simp [orow]
  refine CallQ.intro (r := .pv (.agg [I64 1, I64 1, I64 0, .seq true 4 [[I64 0, I64 0, I64 0, I64 7]]])) (fun _ => one35_ok) (by simp) ?_
  simp [orow]
  refine CallQ.intro (r := .pv (.agg [I64 0, I64 1])) (fun _ => c9.conv ⟨_, _, rfl, .refl _, _, _, rfl, PV.as_nil 5, rfl⟩) (by simp) ?_
  simp [orow]
  refine CallQ.intro (r := .pv (.agg [I64 0, I64 0])) (fun _ => c10.conv ⟨_, _, rfl, PV.as_agg ⟨_, _, rfl, .refl _, _, _, rfl, .refl _, _, _, rfl, .refl _, _, _, rfl, PV.as_nil 4, rfl⟩, _, _, rfl, PV.as_nil 5, rfl⟩) (by simp) ?_
  simp [orow]

end Go.AX
