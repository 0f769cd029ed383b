/-
  Contracts: a linearization, by all pairs.
-/
import Derived.Test.YtpalffhlfegeeaaGreatS8AxDfC
namespace Go.AX
open Go.Proofs
set_option linter.unusedSimpArgs false

theorem pos_mem {l : List Int} {x : Int} (h : x ∈ l) : 0 ≤ posS l x := by
  have := pos_take (l := l) (x := x) (i := l.length)
  rw [List.take_length] at this
  apply Classical.byContradiction
  intro hc
  exact this.1 (.inl (by omega)) h
theorem pos_at {l : List Int} {x : Int} (h : 0 ≤ posS l x) : ∃ j, ∃ hj : j < l.length, posS l x = (j : Int) ∧ l[j] = x := by
  unfold posS idxS at h ⊢
  cases hh : l.findIdx? (fun y => decide (y = x)) with
  | none => rw [hh] at h; simp at h
  | some j =>
    rw [List.findIdx?_eq_some_iff_getElem] at hh
    obtain ⟨h1, h2, _⟩ := hh
    exact ⟨j, h1, rfl, by simpa using h2⟩
theorem lin_no {ops : List Op5} {ps : List (Int × Int)} (ho : ordW ops ps < 0) {i k : Nat} (hi : i < ops.length) (hk : k < ops.length) (ha : aheadS ops[i] ops[k] = true) (hy : 0 ≤ posS (tops ps) k) : 0 ≤ posS (tops ps) i ∧ posS (tops ps) i < posS (tops ps) k := by
  obtain ⟨j, hj, e, hjk⟩ := pos_at hy
  have hj' : j < ps.length := by simpa [tops] using hj
  have hno := ordGo_no ps ho j hj'
  rw [List.nil_append] at hno
  have hpj : ps[j].1 = (k : Int) := by simpa [tops] using hjk
  have hm : (i : Int) ∈ tops (ps.take j) := by
    apply Classical.byContradiction
    intro hc
    have := badT_yes (u := tops (ps.take j)) (q := ps[j].2) hk hi ha hc
    rw [← hpj] at this
    rw [show (ps[j].1, ps[j].2) = ps[j] from rfl, hno] at this
    cases this
  rw [tops_takeC] at hm
  have := pos_take (l := tops ps) (x := (i : Int)) (i := j)
  have h2 : ¬ (posS (tops ps) i < 0 ∨ (j : Int) ≤ posS (tops ps) i) := fun hh => this.1 hh hm
  omega
set_option maxRecDepth 16000 in
theorem refLin_ok (o : Obj) (ops : List Op5) (ps : List (Int × Int)) (hr : objR o) (hl : o.rows.length ≤ 140737488355328) (hl2 : ops.length ≤ 1000000) (hp : ps.length ≤ 1000000) (hw : WitOk o ops ps) : APure Tryz.prog 19 [robj o, ovec ops, .seq false 2 (ps.map prow)] (fun r => r = .pv (BL true)) := by
  refine apure1 hmo Tryz.func19 (by kernel_rfl) rfl rfl (by kernel_rfl) (Nat.le_of_ble_eq_true rfl) ?_
  have hF := refFrom_ok o ops o.ini ps hr hl (by omega) hp
  have hf : fromS o ops o.ini ps = runGo o ops [] 0 o.ini ps := by
    unfold fromS
    have := hw.ini
    rw [if_neg (fun hh => hh hw.obj), if_neg (by omega)]
  have he := hw.run
  rw [← hf] at he
  generalize fromS o ops o.ini ps = q at hF he
  obtain ⟨q1, q2, q3⟩ := q
  dsimp only at he
  subst he
  simp only [robj, ovec] at hF
  simp [robj, ovec]
  refine CallK.intro hF (by simp) ?_
  simp
  refine ALoop.intro (S := fun (i : Nat) => ⟨[(1, .pv (.seq false 5 (ops.map orow))), (2, .pv (.seq false 2 (ps.map prow))), (10, .pv (I64 i))], [[.pv (I64 o.st), .pv (I64 o.kd), .pv (I64 o.ini), .pv (.seq false 4 (o.rows.map rrow))]]⟩) (fun i => i ≤ ops.length) (fun i => ops.length - i) 0 ?_ (Nat.zero_le _) ?_
  · exact Weak.to (by simp) (by simp) (by simp) (by simp) (by simp)
  intro i hi
  by_cases h : i < ops.length
  rotate_left
  · have hie : i = ops.length := by omega
    subst hie
    simp
  have hw0 : w64 ((i : Int) + 1) = ((i + 1 : Nat) : Int) := by rw [w64_id (by omega) (by omega)]; omega
  have hpi := placeP_ok ps i (by omega)
  have hmi : ops[i].e ≠ -1 → ¬ posS (tops ps) i < 0 := fun e => by have := pos_mem (miss_no hw.mis h e); omega
  have hno := fun (k : Nat) (hk : k < ops.length) => lin_no (i := i) (k := k) hw.ord h hk
  generalize posS (tops ps) (i : Int) = p at *
  simp [h, orow]
  refine CallG.intro (fun _ => hpi) (by simp) ?_
  simp
  refine ⟨fun e => by have := hmi e; omega, fun _ => ?_⟩
  refine ALoop.intro (S := fun (k : Nat) => ⟨[(1, .pv (.seq false 5 (ops.map orow))), (2, .pv (.seq false 2 (ps.map prow))), (10, .pv (I64 i)), (11, .pv (I64 k))], [[.pv (I64 o.st), .pv (I64 o.kd), .pv (I64 o.ini), .pv (.seq false 4 (o.rows.map rrow))]]⟩) (fun k => k ≤ ops.length) (fun k => ops.length - k) 0 ?_ (Nat.zero_le _) ?_
  · exact Weak.to (by simp [orow]) (by simp) (by simp) (by simp) (by simp)
  intro k hk
  by_cases hkl : k < ops.length
  rotate_left
  · have hie : k = ops.length := by omega
    subst hie
    simp
    exact ⟨i + 1, by (try dsimp only); omega, by (try dsimp only); omega, Weak.to (by simp [hw0]) (by simp) (by simp) (by simp) (by simp)⟩
  have hw1 : w64 ((k : Int) + 1) = ((k + 1 : Nat) : Int) := by rw [w64_id (by omega) (by omega)]; omega
  have hpk := placeP_ok ps k (by omega)
  have hah := refAhead_ok ops[i] ops[k]
  have hn := hno k hkl
  generalize posS (tops ps) (k : Int) = y at *
  simp only [orow] at hah
  simp [hkl]
  refine CallK.intro hpi (by simp) ?_
  simp
  refine CallK.intro hpk (by simp) ?_
  simp [h, hkl, orow]
  refine CallQ0.intro hah (by simp) ?_
  have hb : (aheadS ops[i] ops[k] && (decide (0 ≤ y) && (decide (p < 0) || decide (y < p)))) = false := by
    cases ha : aheadS ops[i] ops[k]
    · rfl
    by_cases c : 0 ≤ y
    · obtain ⟨z1, z2⟩ := hn ha c
      rw [decide_eq_false (show ¬ p < 0 by omega), decide_eq_false (show ¬ y < p by omega)]
      simp
    · rw [decide_eq_false c]; simp
  cases ha : aheadS ops[i] ops[k]
  · simp [h, hkl, orow]
    exact ⟨k + 1, by (try dsimp only); omega, by (try dsimp only); omega, Weak.to (by simp [hw1, orow]) (by simp) (by simp) (by simp) (by simp)⟩
  by_cases c : 0 ≤ y
  · obtain ⟨z1, z2⟩ := hn ha c
    have z3 : ¬ p < 0 := by omega
    have z4 : ¬ y < p := by omega
    simp [h, hkl, orow, c, z3, z4]
    exact ⟨k + 1, by (try dsimp only); omega, by (try dsimp only); omega, Weak.to (by simp [hw1, orow]) (by simp) (by simp) (by simp) (by simp)⟩
  · simp [h, hkl, orow, c]
    exact ⟨k + 1, by (try dsimp only); omega, by (try dsimp only); omega, Weak.to (by simp [hw1, orow]) (by simp) (by simp) (by simp) (by simp)⟩
end Go.AX
