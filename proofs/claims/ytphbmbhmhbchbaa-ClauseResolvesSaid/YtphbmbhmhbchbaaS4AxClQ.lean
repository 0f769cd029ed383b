/-
  ClauseResolves: plain laws, the walk.
-/
import Derived.Test.YtphbmbhmhbchbaaS4AxClO
import Derived.Test.YtphbmbhmhbchbaaS4AxMovR
namespace Go.AX
open Go.Proofs
set_option linter.unusedSimpArgs false

theorem split_zero (x : Int) : (splitS x).1 ≠ 0 ↔ okL x = true := by
  rw [okL_iff]
  unfold splitS
  split
  · dsimp only; omega
  · split
    · dsimp only; omega
    · simp; omega
theorem lit_ok {m : List Bool} {x : Int} (h : litS m x = true) : okL x = true := by
  unfold litS at h
  simp only [Bool.and_eq_true, decide_eq_true_eq] at h
  exact (split_zero x).1 h.1
theorem split_neg {x : Int} (h : okL x = true) : splitS (-x) = ((splitS x).1, !(splitS x).2) := by
  obtain ⟨h1, h2, h3⟩ := (okL_iff x).1 h
  unfold splitS
  by_cases c : 0 < x
  · rw [if_neg (by omega), if_pos (by omega), if_pos (by omega)]; simp
  · rw [if_pos (by omega), if_neg (by omega), if_pos (by omega)]; simp
theorem lit_neg {m : List Bool} {x : Int} (h : okL x = true) : litS m (-x) = !litS m x := by
  have hz : decide ((splitS x).1 ≠ 0) = true := by simpa using (split_zero x).2 h
  unfold litS
  rw [split_neg h]
  dsimp only
  rw [hz]
  cases (decide ((splitS x).1 ≤ (m.length : Int)) && m.getD ((splitS x).1 - 1).toNat false) <;> cases (splitS x).2 <;> rfl
theorem holds_iff (c : List Int) (m : List Bool) : holdsS c m = true ↔ ∃ x ∈ c, litS m x = true := by unfold holdsS; rw [List.any_eq_true]
theorem sub_holds {c d : List Int} {m : List Bool} (h : subS c d = true) (hc : holdsS c m = true) : holdsS d m = true := by
  obtain ⟨x, hx, hl⟩ := (holds_iff c m).1 hc
  have ho := lit_ok hl
  have := (sub_iff c d).1 h x (((normS_is c).2 x).2 ⟨ho, hx⟩)
  exact (holds_iff d m).2 ⟨x, (((normS_is d).2 x).1 this).2, hl⟩
theorem taut_holds {c : List Int} {m : List Bool} (h : tautS c = true) : holdsS c m = true := by
  obtain ⟨x, hx, h2⟩ := List.any_eq_true.1 h
  rw [Bool.and_eq_true, has_iff, has_iff] at h2
  cases hl : litS m x
  · exact (holds_iff c m).2 ⟨-x, h2.2.2, by rw [lit_neg h2.1.1, hl]; rfl⟩
  · exact (holds_iff c m).2 ⟨x, hx, hl⟩
theorem mem_wth (c : List Int) (n x : Int) : x ∈ wthS c n ↔ (okL x = true ∧ x ∈ c) ∧ x ≠ n := by
  unfold wthS; rw [List.mem_filter, (normS_is c).2]; simp
theorem res_holds {c d : List Int} {n : Int} {m : List Bool} (hc : holdsS c m = true) (hd : holdsS d m = true) : holdsS (resS c d n) m = true := by
  obtain ⟨x, hx, hl⟩ := (holds_iff c m).1 hc
  obtain ⟨y, hy, hl2⟩ := (holds_iff d m).1 hd
  have ho := lit_ok hl
  have ho2 := lit_ok hl2
  have key : ∀ z, okL z = true → z ∈ wthS c n ++ wthS d (-n) → litS m z = true → holdsS (resS c d n) m = true := fun z h1 h2 h3 =>
    (holds_iff _ m).2 ⟨z, ((normS_is _).2 z).2 ⟨h1, h2⟩, h3⟩
  by_cases e : x = n
  · subst e
    refine key y ho2 (List.mem_append_right _ ((mem_wth d _ y).2 ⟨⟨ho2, hy⟩, fun e2 => ?_⟩)) hl2
    rw [e2, lit_neg ho, hl] at hl2
    cases hl2
  · exact key x ho (List.mem_append_left _ ((mem_wth c n x).2 ⟨⟨ho, hx⟩, e⟩)) hl
set_option maxRecDepth 16000 in
theorem clauseResolves_ok (c d : List Int) (m : List Bool) : APure Try.prog 13 [.seq false 1 (irow c), .seq false 1 (irow d), .seq false 1 (brow m)] (fun r => r = .pv (BL true)) := by
  refine apure1 hmo Try.func13 (by kernel_rfl) rfl rfl (by kernel_rfl) (Nat.le_of_ble_eq_true rfl) ?_
  by_cases c1 : 100 < c.length
  · have c1' : 100 < (c.length : Int) := by omega
    simp [c1, c1']
    exact CallK.intro clAwake_ok (by simp) (by simp)
  have c1' : ¬ 100 < (c.length : Int) := by omega
  by_cases c2 : 100 < d.length
  · have c2' : 100 < (d.length : Int) := by omega
    simp [c1, c1', c2, c2']
    exact CallK.intro clAwake_ok (by simp) (by simp)
  have c2' : ¬ 100 < (d.length : Int) := by omega
  by_cases c3 : 1000 < m.length
  · have c3' : 1000 < (m.length : Int) := by omega
    simp [c1, c1', c2, c2', c3, c3']
    exact CallK.intro clAwake_ok (by simp) (by simp)
  have c3' : ¬ 1000 < (m.length : Int) := by omega
  have k1 := subset_ok c d (by omega) (by omega)
  have k2 := refHolds_ok c m (by omega)
  have k3 := refHolds_ok d m (by omega)
  have k4 := taut_ok c (by omega)
  have p1 := sub_holds (c := c) (d := d) (m := m)
  have p2 := taut_holds (c := c) (m := m)
  simp [c1, c1', c2, c2', c3, c3']
  refine CallK.intro k1 (by simp) ?_
  simp
  refine CallG.intro (r := .pv (BL (holdsS c m))) (fun _ => k2) (by simp) ?_
  simp
  refine CallG.intro (r := .pv (BL (holdsS d m))) (fun _ => k3) (by simp) ?_
  simp
  refine CallG.intro (r := .pv (BL (tautS c))) (fun _ => k4) (by simp) ?_
  simp
  refine CallG.intro (r := .pv (BL (holdsS c m))) (fun _ => k2) (by simp) ?_
  simp
  refine ⟨fun h => ⟨h, fun ht => ⟨h, ht⟩⟩, ⟨p1, p2⟩, fun _ _ => ?_⟩
  refine ALoop.intro (S := fun (i : Nat) => ⟨[(0, .pv (.seq false 1 (irow c))), (1, .pv (.seq false 1 (irow d))), (2, .pv (.seq false 1 (brow m))), (7, .pv (I64 i))], []⟩) (fun i => i ≤ c.length) (fun i => c.length - i) 0 ?_ (Nat.zero_le _) ?_
  · exact Weak.to (by simp) rfl (by simp) (by simp) (by simp)
  · intro i hi
    by_cases ci : i < c.length
    · have hw : w64 ((i : Int) + 1) = ((i + 1 : Nat) : Int) := by rw [w64_id (by omega) (by omega)]; omega
      obtain ⟨n, hn⟩ : ∃ n, c[i] = n := ⟨_, rfl⟩
      have r1 := resolve_ok c d n (by omega)
      simp [ci, hn]
      by_cases e : resE c d n = 0
      · have hp : resPV c d n = .seq true 1 (irow (resS c d n)) := by unfold resPV; rw [if_pos e]
        have hlen : (resS c d n).length ≤ 140737488355328 := by
          have h1 := normS_len (wthS c n ++ wthS d (-n))
          have h2 := wthS_len c n
          have h3 := wthS_len d (-n)
          rw [List.length_append] at h1
          unfold resS; omega
        have k5 := refHolds_ok (resS c d n) m hlen
        have p3 := res_holds (c := c) (d := d) (n := n) (m := m)
        rw [hp, e] at r1
        refine CallK.intro r1 (by simp) ?_
        simp
        refine CallG.intro (r := .pv (BL (holdsS c m))) (fun _ => k2) (by simp) ?_
        simp
        refine CallG.intro (r := .pv (BL (holdsS d m))) (fun _ => k3) (by simp) ?_
        simp
        refine CallG.intro (r := .pv (BL (holdsS (resS c d n) m))) (fun _ => k5) (by simp) ?_
        simp
        refine ⟨p3, fun _ => ⟨i + 1, by (try dsimp only); omega, by (try dsimp only); omega, Weak.to (by simp [hw]) rfl (by simp) (by simp) (by simp)⟩⟩
      · have hp : resPV c d n = .lit (.slice none 0 0) := by unfold resPV; rw [if_neg e]
        rw [hp] at r1
        refine CallK.intro r1 (by simp) ?_
        simp [e]
        refine CallG.intro (r := .pv (BL true)) (fun h => h.elim) (by simp) ?_
        simp
        refine CallG.intro (r := .pv (BL true)) (fun h => h.elim) (by simp) ?_
        simp
        refine CallG.intro (r := .pv (BL true)) (fun h => h.elim) (by simp) ?_
        simp
        exact ⟨i + 1, by (try dsimp only); omega, by (try dsimp only); omega, Weak.to (by simp [hw]) rfl (by simp) (by simp) (by simp)⟩
    · have : i = c.length := by omega
      subst this
      simp
      exact CallK.intro clAwake_ok (by simp) (by simp)

end Go.AX
