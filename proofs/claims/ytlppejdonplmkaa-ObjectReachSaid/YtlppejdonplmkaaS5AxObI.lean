/-
  Contracts: what is awake (objects).
  The walk of ObjectReach.
-/
import Derived.Test.YtlppejdonplmkaaS5AxObD
import Derived.Test.YtlppejdonplmkaaS5AxObE
import Derived.Test.YtlppejdonplmkaaAxAg
namespace Go.AX
open Go.Proofs
set_option linter.unusedSimpArgs false

def flagO : Obj := ⟨2, 2, 0, [⟨0, 0, 1, 0⟩, ⟨0, 1, 0, 0⟩, ⟨1, 1, 1, 1⟩]⟩
def threeO : Obj := ⟨2, 3, 0, [⟨0, 0, 1, 0⟩, ⟨0, 1, 0, 0⟩, ⟨1, 1, 1, 1⟩]⟩
theorem flag_ok : APure Try.prog 23 [] (fun r => r = .pv (.agg [I64 2, I64 2, I64 0, .seq true 4 [[I64 0, I64 0, I64 1, I64 0], [I64 0, I64 1, I64 0, I64 0], [I64 1, I64 1, I64 1, I64 1]]])) := by
  refine apureC hmo Try.func23 (by kernel_rfl) rfl rfl (by kernel_rfl) (Nat.le_of_ble_eq_true rfl) ?_
  simp
theorem flagM_ok (h : List (List SV)) : AMut Try.prog 23 [] h (fun r h' => r = .agl [(I64 2, none), (I64 2, none), (I64 0, none), (.bot, some (.cell h.length 3))] ∧ h' = h ++ [[.pv (I64 2), .pv (I64 2), .pv (I64 0), .own true 4 [[I64 0, I64 0, I64 1, I64 0], [I64 0, I64 1, I64 0, I64 0], [I64 1, I64 1, I64 1, I64 1]]]]) := by
  refine amutAg2 hmo Try.func23 (by kernel_rfl) rfl rfl (by kernel_rfl) (Nat.le_of_ble_eq_true rfl) ?_
  simp
theorem objChk_at {o : Obj} (y : Int × Int) (h : (decide (objChk o = y) && decide (o.rows.length ≤ 10)) = true) : APure Try.prog 8 [robj o] (fun r => r = .pv (.tup [I64 y.1, I64 y.2])) := by
  simp only [Bool.and_eq_true, decide_eq_true_eq] at h
  have := objChk_ok o (by omega)
  rw [h.1] at this
  exact this
theorem move_at {o : Obj} {s k : Int} (y : Option (Int × Int)) (h : (decide (moveS o s k = y) && decide (o.rows.length ≤ 10)) = true) : APure Try.prog 10 [robj o, I64 s, I64 k] (fun r => r = .pv (movePV y)) := by
  simp only [Bool.and_eq_true, decide_eq_true_eq] at h
  have := move_ok o s k (by omega)
  rw [h.1] at this
  exact this
theorem same_at {a b : Obj} (y : Bool) (h : (decide (sameO a b = y) && decide (a.rows.length ≤ 10)) = true) : APure Try.prog 17 [robj a, robj b] (fun r => r = .pv (BL y)) := by
  simp only [Bool.and_eq_true, decide_eq_true_eq] at h
  have := sameO_ok a b (by omega)
  rw [h.1] at this
  exact this
theorem flagR : objR flagO := by unfold objR inR flagO; decide
theorem threeR : objR threeO := by unfold objR inR threeO; decide
theorem flag_reach : reachS flagO = [0, 1] := by
  have hf : objFine flagO := objFine_iff.1 (by decide +kernel)
  have r0 : RE flagO 0 := RE.init
  have r1 : RE flagO 1 := RE.step (r := ⟨0, 0, 1, 0⟩) (by simp [flagO]) r0
  unfold reachS
  rw [if_pos hf]
  show List.filter _ [(0 : Int), 1] = _
  simp [r0, r1]
theorem three_reach : reachS threeO = [0, 1] := by
  have hf : objFine threeO := objFine_iff.1 (by decide +kernel)
  have r0 : RE threeO 0 := RE.init
  have r1 : RE threeO 1 := RE.step (r := ⟨0, 0, 1, 0⟩) (by simp [threeO]) r0
  unfold reachS
  rw [if_pos hf]
  show List.filter _ [(0 : Int), 1] = _
  simp [r0, r1]
theorem three_dead : deadS threeO = [2] := by
  have hf : objFine threeO := objFine_iff.1 (by decide +kernel)
  unfold deadS
  rw [if_pos hf]
  show List.filter _ [(0 : Int), 1, 2] = _
  have h3 := three_reach
  unfold threeO at h3
  simp [deadOf, h3, threeO]
theorem flag_sort : sortR [⟨1, 1, 1, 1⟩, ⟨0, 0, 1, 0⟩] = [⟨0, 0, 1, 0⟩, ⟨1, 1, 1, 1⟩] := sortR_is (List.Perm.swap _ _ _) (by simp [ltP])

set_option maxRecDepth 16000 in
theorem awakeO_ok : APure Try.prog 7 [] (fun r => r = .pv (BL true)) := by
  refine apure1 hmo Try.func7 (by kernel_rfl) rfl rfl (by kernel_rfl) (Nat.le_of_ble_eq_true rfl) ?_
  have c1 := objChk_at (o := flagO) (3, 0) (by decide +kernel)
  have c2 := move_at (o := flagO) (s := 0) (k := 0) (some (1, 0)) (by decide +kernel)
  have c3 := move_at (o := flagO) (s := 1) (k := 0) none (by decide +kernel)
  have c4 := objChk_at (o := ⟨2, 2, 0, [⟨0, 0, 1, 0⟩, ⟨0, 1, 0, 0⟩, ⟨1, 2, 1, 1⟩]⟩) (2, 31) (by decide +kernel)
  have c5 := objChk_at (o := ⟨0, 0, 0, []⟩) (-1, 2) (by decide +kernel)
  have c6 := reach_ok flagO flagR (by decide)
  rw [flag_reach] at c6
  have c7 := dead_ok threeO threeR (by decide)
  rw [three_dead] at c7
  have c8 := same_at (a := flagO) (b := flagO) true (by decide +kernel)
  have c9 := same_at (a := flagO) (b := threeO) false (by decide +kernel)
  have c10 := sortO_ok [⟨1, 1, 1, 1⟩, ⟨0, 0, 1, 0⟩] (by decide)
  rw [flag_sort] at c10
  have d6 := sameInts_ok [0, 1] [0, 1] (by decide)
  have d7 := sameInts_ok [2] [2] (by decide)
  have d10 := refSameRows_ok [⟨0, 0, 1, 0⟩, ⟨1, 1, 1, 1⟩] [⟨0, 0, 1, 0⟩, ⟨1, 1, 1, 1⟩] (by decide)
  simp only [robj, flagO, threeO, rrow, irow, List.map_cons, List.map_nil, movePV, decide_true] at c1 c2 c3 c4 c5 c6 c7 c8 c9 c10 d6 d7 d10
  simp
  refine CallK.intro flag_ok (by simp) ?_
  simp
  refine CallK.intro c1 (by simp) ?_
  simp
  refine CallK.intro flag_ok (by simp) ?_
  simp
  refine CallK.intro c2 (by simp) ?_
  simp
  refine CallK.intro flag_ok (by simp) ?_
  simp
  refine CallK.intro c3 (by simp) ?_
  simp
  refine CallK.introM (flagM_ok _) (by simp) ?_
  rintro r h' ⟨rfl, rfl⟩
  simp
  refine CallK.intro c4 (by simp) ?_
  simp
  have c5' := c5.conv (xs := [.agg [I64 0, I64 0, I64 0, .lit (.slice none 0 0)]]) ⟨_, _, rfl, PV.as_agg ⟨_, _, rfl, PV.as.refl _, _, _, rfl, PV.as.refl _, _, _, rfl, PV.as.refl _, _, _, rfl, PV.as_nil 4, rfl⟩, rfl⟩
  refine CallK.intro c5' (by simp) ?_
  simp
  refine CallK.intro flag_ok (by simp) ?_
  simp
  refine CallQ.intro (fun _ => flag_ok) (by simp) ?_
  simp
  refine CallQ.intro (fun _ => c6) (by simp) ?_
  simp
  refine CallQ.intro (fun _ => d6) (by simp) ?_
  simp
  refine CallQ.intro (fun _ => c7) (by simp) ?_
  simp
  refine CallQ.intro (fun _ => d7) (by simp) ?_
  simp
  refine CallQ.intro (fun _ => flag_ok) (by simp) ?_
  simp
  refine CallQ.intro (fun _ => flag_ok) (by simp) ?_
  simp
  refine CallQ.intro (fun _ => c8) (by simp) ?_
  simp
  refine CallQ.intro (fun _ => flag_ok) (by simp) ?_
  simp
  refine CallQ.intro (fun _ => c9) (by simp) ?_
  simp
  refine CallQ.intro (fun _ => flag_ok) (by simp) ?_
  simp
  refine CallQ.intro (fun _ => flag_ok) (by simp) ?_
  simp
  refine CallQ.intro (fun _ => c10) (by simp) ?_
  simp
  refine CallQ.intro (fun _ => flag_ok) (by simp) ?_
  simp
  refine CallQ.intro (fun _ => flag_ok) (by simp) ?_
  simp
  refine CallQ.intro (fun _ => d10) (by simp) ?_
  simp

end Go.AX

namespace Go.AX
open Go.Proofs
set_option linter.unusedSimpArgs false

theorem re_last {o : Obj} {s : Int} (h : RE o s) (hn : s ≠ o.ini) : ∃ r ∈ o.rows, r.n = s ∧ r.s ≠ s ∧ RE o r.s := by
  induction h with
  | init => exact absurd rfl hn
  | step hm hr ih =>
    rename_i r
    by_cases e : r.s = r.n
    · rw [e] at ih; exact ih hn
    · exact ⟨r, hm, rfl, e, hr⟩

set_option maxRecDepth 16000 in
theorem objectReach_ok (o : Obj) (hr : objR o) : APure Try.prog 5 [robj o] (fun r => r = .pv (BL true)) := by
  refine apure1 hmo Try.func5 (by kernel_rfl) rfl rfl (by kernel_rfl) (Nat.le_of_ble_eq_true rfl) ?_
  have f1 := few_ok o
  have c1 := objChk_ok o
  have c5 := reach_ok o hr
  have c7 := dead_ok o hr
  simp only [robj] at f1 c1 c5 c7
  simp [robj]
  refine CallK.intro f1 (by simp) ?_
  simp
  refine ⟨fun c => ?_, fun d1 => ?_⟩
  · refine CallK.intro awakeO_ok (by simp) ?_
    simp
  have hl : o.rows.length ≤ 140737488355328 := by omega
  have hl2 : o.rows.length ≤ 1000000 := by omega
  replace c1 := c1 hl; replace c5 := c5 hl2; replace c7 := c7 hl2
  have hrl := reachS_len hr
  have hdl : (deadS o).length ≤ 64 := by
    unfold deadS
    split
    · rename_i h
      have := objFine_st hr h
      have h2 : (deadTo o o.kd.toNat).length ≤ o.kd.toNat := upTo_len
      omega
    · simp
  have hbad : ¬ objFine o → reachS o = [] ∧ deadS o = [] := fun h => ⟨by unfold reachS; rw [if_neg h], by unfold deadS; rw [if_neg h]⟩
  have hin : objFine o → ∀ s, s ∈ reachS o ↔ RE o s := fun h s => by unfold reachS; rw [if_pos h]; exact mem_reachL hr h
  have hlt : (reachS o).Pairwise (· < ·) := by
    unfold reachS
    split
    · exact reachL_lt o
    · exact List.Pairwise.nil
  have hdead : objFine o → ∀ r ∈ o.rows, RE o r.s → r.k ∉ deadS o := fun h r hm hs hd => by
    unfold deadS at hd
    rw [if_pos h] at hd
    unfold deadTo at hd
    have hd2 := (List.mem_filter.1 hd).2
    unfold deadOf at hd2
    simp only [Bool.not_eq_true', List.any_eq_false, Bool.and_eq_true, decide_eq_true_eq, not_and] at hd2
    exact hd2 r hm rfl ((hin h r.s).2 hs)
  refine CallK.intro c5 (by simp) ?_
  simp
  refine CallK.intro c7 (by simp) ?_
  simp
  refine CallK.intro c1 (by simp) ?_
  simp
  refine ⟨fun e => ?_, fun e => ?_⟩
  · obtain ⟨e1, e2⟩ := hbad (fun h => e (objFine_iff.2 h))
    simp [e1, e2]
    refine CallG.intro (r := .pv (BL true)) (fun _ => awakeO_ok) (by simp) ?_
    simp
  have hfo := objFine_iff.1 e
  replace hin := hin hfo
  replace hdead := hdead hfo
  generalize reachS o = re at *
  generalize deadS o = de at *
  refine CallK.intro (refHas_ok re o.ini (by omega)) (by simp) ?_
  simp
  refine ⟨(hin _).2 RE.init, fun _ => ?_⟩
  refine ALoop.intro (S := fun (i : Nat) => ⟨[(1, .pv (.ptr 0 0)), (3, .own true 1 (irow re)), (4, .own true 1 (irow de)), (7, .pv (I64 i))], [[.pv (I64 o.st), .pv (I64 o.kd), .pv (I64 o.ini), .pv (.seq false 4 (o.rows.map rrow))]]⟩)
    (fun i => i ≤ o.rows.length) (fun i => o.rows.length - i) 0 ?_ (Nat.zero_le _) ?_
  · exact Weak.to (by simp) (by simp) (by simp) (by simp) (by simp)
  intro i hi
  by_cases c2 : i < o.rows.length
  · have hw : w64 ((i : Int) + 1) = ((i + 1 : Nat) : Int) := by rw [w64_id (by omega) (by omega)]; omega
    have hmem := List.getElem_mem c2
    simp [c2, rrow]
    refine CallK.intro (refHas_ok re o.rows[i].s (by omega)) (by simp) ?_
    simp
    refine CallG.intro (r := .pv (BL (decide (o.rows[i].n ∈ re)))) (fun _ => refHas_ok re o.rows[i].n (by omega)) (by simp) ?_
    simp
    refine CallG.intro (r := .pv (BL (decide (o.rows[i].k ∈ de)))) (fun _ => refHas_ok de o.rows[i].k (by omega)) (by simp) ?_
    simp
    exact ⟨fun a => ⟨a, fun b => ⟨a, b⟩⟩, fun a => ⟨(hin _).2 (RE.step hmem ((hin _).1 a)), hdead _ hmem ((hin _).1 a)⟩, fun _ => ⟨i + 1, by (try dsimp only); omega, by (try dsimp only); omega, Weak.to (by simp [hw, rrow]) (by simp) (by simp) (by simp) (by simp)⟩⟩
  · simp [c2]
    refine ALoop.intro (S := fun (i : Nat) => ⟨[(1, .pv (.ptr 0 0)), (3, .own true 1 (irow re)), (9, .pv (I64 i))], [[.pv (I64 o.st), .pv (I64 o.kd), .pv (I64 o.ini), .pv (.seq false 4 (o.rows.map rrow))]]⟩)
      (fun i => i ≤ re.length) (fun i => re.length - i) 0 ?_ (Nat.zero_le _) ?_
    · exact Weak.to (by simp) (by simp) (by simp) (by simp) (by simp)
    intro i hi
    by_cases c3 : i < re.length
    · have hw : w64 ((i : Int) + 1) = ((i + 1 : Nat) : Int) := by rw [w64_id (by omega) (by omega)]; omega
      simp [c3]
      refine ALoop.intro (S := fun (k : Nat) => ⟨[(1, .pv (.ptr 0 0)), (3, .own true 1 (irow re)), (9, .pv (I64 i)), (10, .pv (BL (decide (re[i] = o.ini) || (o.rows.take k).any fun r => decide (r.n = re[i]) && (!decide (r.s = re[i]) && decide (r.s ∈ re))))), (11, .pv (I64 k))], [[.pv (I64 o.st), .pv (I64 o.kd), .pv (I64 o.ini), .pv (.seq false 4 (o.rows.map rrow))]]⟩)
        (fun k => k ≤ o.rows.length) (fun k => o.rows.length - k) 0 ?_ (Nat.zero_le _) ?_
      · exact Weak.to (by simp) (by simp) (by simp) (by simp) (by simp)
      intro k hk
      by_cases c4 : k < o.rows.length
      · have hw2 : w64 ((k : Int) + 1) = ((k + 1 : Nat) : Int) := by rw [w64_id (by omega) (by omega)]; omega
        have hta : ((o.rows.take (k + 1)).any fun r => decide (r.n = re[i]) && (!decide (r.s = re[i]) && decide (r.s ∈ re))) = (((o.rows.take k).any fun r => decide (r.n = re[i]) && (!decide (r.s = re[i]) && decide (r.s ∈ re))) || (decide (o.rows[k].n = re[i]) && (!decide (o.rows[k].s = re[i]) && decide (o.rows[k].s ∈ re)))) := by
          rw [← List.take_append_getElem c4, List.any_append]; simp
        generalize ((o.rows.take k).any fun r => decide (r.n = re[i]) && (!decide (r.s = re[i]) && decide (r.s ∈ re))) = q0 at hta ⊢
        rw [show (decide (re[i] = o.ini) || q0) = (decide (re[i] = o.ini) || q0) from rfl]
        obtain ⟨q, hq⟩ : ∃ q, (decide (re[i] = o.ini) || q0) = q := ⟨_, rfl⟩
        rw [hq]
        have hta2 : (decide (re[i] = o.ini) || ((o.rows.take (k + 1)).any fun r => decide (r.n = re[i]) && (!decide (r.s = re[i]) && decide (r.s ∈ re)))) = (q || (decide (o.rows[k].n = re[i]) && (!decide (o.rows[k].s = re[i]) && decide (o.rows[k].s ∈ re)))) := by
          rw [hta, ← Bool.or_assoc, hq]
        cases q with
        | true =>
          simp only [Bool.true_or] at hta2
          simp [c3, c4, rrow]
          refine CallQ.intro (r := .pv (BL (decide (o.rows[k].s ∈ re)))) (fun _ => refHas_ok re o.rows[k].s (by omega)) (by simp) ?_
          simp
          exact ⟨k + 1, by (try dsimp only); omega, by (try dsimp only); omega, Weak.to (by simp only [hta2]; simp [hw2, rrow]) (by simp) (by simp) (by simp) (by simp)⟩
        | false =>
          simp only [Bool.false_or] at hta2
          simp [c3, c4, rrow]
          refine CallQ.intro (r := .pv (BL (decide (o.rows[k].s ∈ re)))) (fun _ => refHas_ok re o.rows[k].s (by omega)) (by simp) ?_
          simp
          exact ⟨k + 1, by (try dsimp only); omega, by (try dsimp only); omega, Weak.to (by simp only [hta2]; simp [hw2, rrow, Bool.and_assoc]) (by simp) (by simp) (by simp) (by simp)⟩
      · have hke : k = o.rows.length := by omega
        subst hke
        have hled : (decide (re[i] = o.ini) || (o.rows.take o.rows.length).any fun r => decide (r.n = re[i]) && (!decide (r.s = re[i]) && decide (r.s ∈ re))) = true := by
          rw [List.take_length, Bool.or_eq_true]
          by_cases h0 : re[i] = o.ini
          · left; exact decide_eq_true h0
          · right
            obtain ⟨r, h1, h2, h3, h4⟩ := re_last ((hin _).1 (List.getElem_mem c3)) h0
            rw [List.any_eq_true]
            exact ⟨r, h1, by simp [h2, h3, (hin _).2 h4]⟩
        rw [hled]
        rcases Nat.eq_zero_or_pos i with h0 | h0
        · subst h0
          simp [c3]
          exact ⟨0 + 1, by (try dsimp only); omega, by (try dsimp only); omega, Weak.to (by simp [show w64 1 = 1 by decide]) (by simp) (by simp) (by simp) (by simp)⟩
        · have hq1 : w64 ((i : Int) - 1) = ((i - 1 : Nat) : Int) := by rw [w64_id (by omega) (by omega)]; omega
          have hq2 : i - 1 < re.length := by omega
          have hlt2 : re[i - 1] < re[i] := List.pairwise_iff_getElem.1 hlt _ _ hq2 c3 (by omega)
          simp [c3, h0, hq1, hq2]
          exact ⟨hlt2, fun _ => ⟨i + 1, by (try dsimp only); omega, by (try dsimp only); omega, Weak.to (by simp [hw]) (by simp) (by simp) (by simp) (by simp)⟩⟩
    · simp [c3]
      refine CallK.intro awakeO_ok (by simp) ?_
      simp

end Go.AX
