/-
  Contracts: steps and runs.
  Contracts: runs of picks.
  Contracts: whether picks are a linearization (by the program).
  Contracts: runs, and linearizations, of picks, by the document.
-/
import Derived.Test.YtpalffhlfegeeaaGreatS8AxDeQ
import Derived.Test.YtpalffhlfegeeaaGreatS8AxMovO
import Derived.Test.YtpalffhlfegeeaaGreatS8AxCntL
import Derived.Test.YtpalffhlfegeeaaGreatAxBe
namespace Go.AX
open Go.Proofs
set_option linter.unusedSimpArgs false

theorem tmove_ok (o : Obj) (s k : Int) (hl : o.rows.length ≤ 140737488355328) : APure Tryz.prog 148 [robj o, I64 s, I64 k] (fun r => r = .pv (movePV (moveS o s k))) := by
  refine apureN [6, 7, 8] hmo Tryz.func148 (by kernel_rfl) rfl (fun _ _ => results_tmp3 rfl _ _ _) (by kernel_rfl) (Nat.le_of_ble_eq_true rfl) ?_
  have h1 := move_ok o s k hl
  simp only [robj] at h1
  cases hm : moveS o s k with
  | none =>
    rw [hm] at h1
    simp only [movePV] at h1
    simp [robj]
    refine CallK.intro h1 (by simp) ?_
    simp [movePV]
  | some y =>
    rw [hm] at h1
    simp only [movePV] at h1
    simp [robj]
    refine CallK.intro h1 (by simp) ?_
    simp [movePV]
set_option maxRecDepth 8000 in
theorem step_ok (o : Obj) (s k r : Int) (hl : o.rows.length ≤ 140737488355328) : APure Tryz.prog 144 [robj o, I64 s, I64 k, I64 r] (fun x => x = .pv (.tup [I64 (stepS o s k r).1, I64 (stepS o s k r).2])) := by
  refine apureN [8, 9] hmo Tryz.func144 (by kernel_rfl) rfl (fun _ _ => results_tmp2 rfl _ _ _) (by kernel_rfl) (Nat.le_of_ble_eq_true rfl) ?_
  have h1 := tmove_ok o s k hl
  simp only [robj] at h1
  by_cases c : s < 0
  · have hS : stepS o s k r = (0, 30) := by unfold stepS; rw [if_pos (by omega)]
    simp [robj, c, hS]
  by_cases c2 : o.st ≤ s
  · have hS : stepS o s k r = (0, 30) := by unfold stepS; rw [if_pos (by omega)]
    simp [robj, c, c2, hS]
  have hS : stepS o s k r = match moveS o s k with | some q => if q.2 = r then (q.1, 0) else (0, 40) | none => (0, 40) := by unfold stepS; rw [if_neg (by omega)]; rfl
  generalize stepS o s k r = S at *
  cases hm : moveS o s k with
  | none =>
    rw [hm] at h1 hS
    simp only [movePV] at h1 hS
    subst hS
    simp [robj, c, c2]
    refine CallK.intro h1 (by simp) ?_
    simp
  | some y =>
    rw [hm] at h1 hS
    simp only [movePV] at h1 hS
    by_cases e : y.2 = r
    · rw [if_pos e] at hS
      subst hS
      simp [robj, c, c2]
      refine CallK.intro h1 (by simp) ?_
      simp [e]
    · rw [if_neg e] at hS
      subst hS
      simp [robj, c, c2]
      refine CallK.intro h1 (by simp) ?_
      simp [e]
set_option maxRecDepth 8000 in
theorem refStep_ok (o : Obj) (s k r : Int) (hl : o.rows.length ≤ 140737488355328) : APure Tryz.prog 104 [robj o, I64 s, I64 k, I64 r] (fun x => x = .pv (.tup [I64 (stepS o s k r).1, I64 (stepS o s k r).2])) := by
  refine apureN [8, 9] hmo Tryz.func104 (by kernel_rfl) rfl (fun _ _ => results_tmp2 rfl _ _ _) (by kernel_rfl) (Nat.le_of_ble_eq_true rfl) ?_
  have h1 := refMove_ok o s k hl
  simp only [robj] at h1
  by_cases c : s < 0
  · have hS : stepS o s k r = (0, 30) := by unfold stepS; rw [if_pos (by omega)]
    simp [robj, c, hS]
  by_cases c2 : o.st ≤ s
  · have hS : stepS o s k r = (0, 30) := by unfold stepS; rw [if_pos (by omega)]
    simp [robj, c, c2, hS]
  have hS : stepS o s k r = match moveS o s k with | some q => if q.2 = r then (q.1, 0) else (0, 40) | none => (0, 40) := by unfold stepS; rw [if_neg (by omega)]; rfl
  generalize stepS o s k r = S at *
  cases hm : moveS o s k with
  | none =>
    rw [hm] at h1 hS
    simp only [movePV] at h1 hS
    subst hS
    simp [robj, c, c2]
    refine CallK.intro h1 (by simp) ?_
    simp
  | some y =>
    rw [hm] at h1 hS
    simp only [movePV] at h1 hS
    by_cases e : y.2 = r
    · rw [if_pos e] at hS
      subst hS
      simp [robj, c, c2]
      refine CallK.intro h1 (by simp) ?_
      simp [e]
    · rw [if_neg e] at hS
      subst hS
      simp [robj, c, c2]
      refine CallK.intro h1 (by simp) ?_
      simp [e]
theorem rmay_ok (o : Obj) (s : Int) (hl : o.rows.length ≤ 140737488355328) : APure Tryz.prog 136 [robj o, I64 s] (fun x => x = .pv (I64 (if (objChk o).2 ≠ 0 then 2 else if s < 0 ∨ s ≥ o.st then 30 else 0))) := by
  refine apure1 hmo Tryz.func136 (by kernel_rfl) rfl rfl (by kernel_rfl) (Nat.le_of_ble_eq_true rfl) ?_
  have h1 := objChk_ok o hl
  simp only [robj] at h1
  generalize objChk o = q at *
  obtain ⟨q1, q2⟩ := q
  simp [robj]
  refine CallK.intro h1 (by simp) ?_
  by_cases c : q2 = 0
  · by_cases c1 : s < 0
    · simp [c, c1]
    · by_cases c2 : o.st ≤ s
      · simp [c, c1, c2]
      · simp [c, c1, c2]
  · simp [c]

/-! ### What was used, by a map -/
def CntOk (u : List Int) (m : List (Int × Int)) : Prop := ∀ k, (lk m k).getD 0 = (u.count k : Nat)
theorem cntOk_nil : CntOk [] [] := fun k => rfl
theorem CntOk.inc {u : List Int} {m : List (Int × Int)} (h : CntOk u m) (hl : u.length ≤ 1000000) (k : Int) : CntOk (u ++ [k]) (pt m k (w64 ((lk m k).getD 0 + 1))) := by
  intro n
  have hk := h k
  have hn := h n
  have hc : u.count k ≤ u.length := List.count_le_length
  rw [lk_pt, List.count_append]
  by_cases e : k = n
  · subst e
    rw [if_pos rfl, Option.getD_some, hk, w64_id (by omega) (by omega)]
    simp
  · rw [if_neg e, hn]
    simp [e]
theorem CntOk.zero {u : List Int} {m : List (Int × Int)} (h : CntOk u m) (k : Int) : (lk m k).getD 0 = 0 ↔ k ∉ u := by
  rw [h k]
  constructor
  · intro e; exact List.count_eq_zero.1 (by omega)
  · intro e; rw [List.count_eq_zero.2 e]; rfl
theorem CntOk.pos {u : List Int} {m : List (Int × Int)} (h : CntOk u m) (k : Int) : 0 < (lk m k).getD 0 ↔ k ∈ u := by
  have := h.zero k
  have h2 := h k
  constructor
  · intro e; exact Classical.byContradiction fun hc => by have := this.2 hc; omega
  · intro e
    have : (lk m k).getD 0 ≠ 0 := fun hc => (this.1 hc) e
    omega
def runB (o : Obj) (ops : List Op5) (s : Int) (m : List (Int × Int)) : List (List SV) := [[.pv (I64 o.st), .pv (I64 o.kd), .pv (I64 o.ini), .pv (.seq false 4 (o.rows.map rrow))], [.pv (ovec ops)], [.pv (I64 s)], [.omap true (mapE fI m)]]
theorem runner_ok (o : Obj) (ops : List Op5) (s : Int) (h : List (List SV)) : AMut Tryz.prog 137 [robj o, ovec ops, I64 s] h (fun r h' => r = .pv (.fn (.func 143) [] [.ptr (h.length + 1) 0, .ptr (h.length + 3) 0, .ptr h.length 0, .ptr (h.length + 2) 0]) ∧ h' = h ++ runB o ops s []) := by
  refine amut1 hmo Tryz.func137 (by kernel_rfl) rfl rfl (by kernel_rfl) (Nat.le_of_ble_eq_true rfl) ?_
  simp [robj, ovec, runB]
end Go.AX

namespace Go.AX
open Go.Proofs
set_option linter.unusedSimpArgs false

@[simp ↓ high] theorem AGs_true {P : Program} {st : St} {Gd : Prop} {o : Op} {d : Option Tmp} {K : St → Prop} (h : Gd) : AGs P st Gd o d K = AE P st o d K :=
  propext ⟨fun x => x.1 h, fun x => ⟨fun _ => x, fun hn => absurd h hn⟩⟩
/-- Where what runs one pick stands: behind the object, and ahead of the pick. -/
def runH (o : Obj) (ops : List Op5) (s : Int) (m : List (Int × Int)) (p : Int × Int) : List (List SV) := [[.pv (I64 o.st), .pv (I64 o.kd), .pv (I64 o.ini), .pv (.seq false 4 (o.rows.map rrow))], [.pv (I64 o.st), .pv (I64 o.kd), .pv (I64 o.ini), .pv (.seq false 4 (o.rows.map rrow))], [.pv (.seq false 5 (ops.map orow))], [.pv (I64 s)], [.omap true (mapE fI m)], [.pv (I64 p.1), .pv (I64 p.2)]]
set_option maxRecDepth 16000 in
theorem run1_ok (o : Obj) (ops : List Op5) (s : Int) (u : List Int) (m : List (Int × Int)) (p : Int × Int) (hl : o.rows.length ≤ 140737488355328) (hl2 : ops.length ≤ 140737488355328) (hm : CntOk u m) (hu : u.length ≤ 1000000) :
    AMut Tryz.prog 143 [.agg (prow p), .ptr 2 0, .ptr 4 0, .ptr 1 0, .ptr 3 0] (runH o ops s m p) (fun r h' => r = .pv (.tup [I64 (pickS o ops u s p).1, I64 (pickS o ops u s p).2]) ∧ ∃ s' m' ext, ((pickS o ops u s p).2 = 0 → s' = (pickS o ops u s p).1 ∧ CntOk (u ++ [p.1]) m') ∧ h' = runH o ops s' m' p ++ ext) := by
  refine amutN [6, 7] hmo Tryz.func143 (by kernel_rfl) rfl (fun _ _ => results_tmp2 rfl _ _ _) (by kernel_rfl) (Nat.le_of_ble_eq_true rfl) ?_
  obtain ⟨i, q⟩ := p
  by_cases c : i < 0 ∨ i ≥ ops.length
  · have hP : pickS o ops u s (i, q) = (0, 2) := by unfold pickS; rw [if_pos c]
    rw [hP]
    by_cases c1 : i < 0
    · simp [prow, runH, c1]
      exact ⟨m, rfl⟩
    · have c2 : (ops.length : Int) ≤ i := by omega
      simp [prow, runH, c1, c2]
      exact ⟨m, rfl⟩
  have c1 : ¬ i < 0 := by omega
  have c2 : ¬ (ops.length : Int) ≤ i := by omega
  obtain ⟨x, rfl⟩ := Int.eq_ofNat_of_zero_le (show 0 ≤ i by omega)
  have hx : x < ops.length := by omega
  have hx2 : ¬ ops.length ≤ x := by omega
  have hpos := hm.pos x
  by_cases d : (x : Int) ∈ u
  · have hP : pickS o ops u s ((x : Int), q) = (0, 21) := by unfold pickS; rw [if_neg c, if_pos d]
    rw [hP]
    have d' := hpos.2 d
    simp [prow, runH, hx, hx2, d']
    exact ⟨m, rfl⟩
  have d' : ¬ 0 < (lk m x).getD 0 := fun hh => d (hpos.1 hh)
  have hinc := hm.inc hu x
  have hg : ops.getD (x : Int).toNat default = ops[x] := by rw [Int.toNat_natCast, List.getD_eq_getElem?_getD, List.getElem?_eq_getElem hx]; rfl
  have hP : pickS o ops u s ((x : Int), q) = if (stepS o s ops[x].k q).2 ≠ 0 then (0, (stepS o s ops[x].k q).2) else if ops[x].e ≠ -1 ∧ ops[x].r ≠ q then (0, 40) else ((stepS o s ops[x].k q).1, 0) := by
    unfold pickS
    rw [if_neg c, if_neg d]
    dsimp only
    rw [hg]
  have hstep := step_ok o s ops[x].k q hl
  simp only [robj] at hstep
  generalize stepS o s ops[x].k q = S at *
  generalize pickS o ops u s ((x : Int), q) = Q at *
  obtain ⟨S1, S2⟩ := S
  dsimp only at hP hstep
  simp [prow, runH, hx, hx2, d', orow]
  refine CallK.intro hstep (by simp) ?_
  generalize pt m x (w64 ((lk m x).getD 0 + 1)) = m' at *
  by_cases e : S2 = 0
  · subst e
    rw [if_neg (by omega)] at hP
    by_cases e1 : ops[x].e = -1
    · rw [if_neg (by omega)] at hP
      subst hP
      simp [e1, orow]
      exact ⟨_, m', ⟨rfl, hinc⟩, rfl, rfl⟩
    · by_cases e2 : ops[x].r = q
      · rw [if_neg (by omega)] at hP
        subst hP
        simp [e1, e2, orow]
        exact ⟨_, m', ⟨rfl, hinc⟩, rfl, rfl⟩
      · rw [if_pos ⟨e1, e2⟩] at hP
        subst hP
        simp [e1, e2, orow]
        exact ⟨m', rfl⟩
  · rw [if_pos e] at hP
    subst hP
    simp [e, orow]
    exact ⟨m', rfl⟩

set_option maxRecDepth 16000 in
theorem from_ok (o : Obj) (ops : List Op5) (s0 : Int) (ps : List (Int × Int)) (hl : o.rows.length ≤ 140737488355328) (hl2 : ops.length ≤ 140737488355328) (hp : ps.length ≤ 1000000) : APure Tryz.prog 114 [robj o, ovec ops, I64 s0, .seq false 2 (ps.map prow)] (fun r => r = .pv (.tup [I64 (fromS o ops s0 ps).1, I64 (fromS o ops s0 ps).2.1, I64 (fromS o ops s0 ps).2.2])) := by
  refine apureN [8, 9, 10] hmo Tryz.func114 (by kernel_rfl) rfl (fun _ _ => results_tmp3 rfl _ _ _) (by kernel_rfl) (Nat.le_of_ble_eq_true rfl) ?_
  have hmay := rmay_ok o s0 hl
  have hrun := fun h => runner_ok o ops s0 h
  simp only [robj, ovec, runB] at hmay hrun
  simp [robj, ovec]
  refine CallK.intro hmay (by simp) ?_
  by_cases c : (objChk o).2 = 0
  rotate_left
  · have hS : fromS o ops s0 ps = (0, -1, 2) := by unfold fromS; rw [if_pos c]
    simp [c, hS]
  by_cases c2 : s0 < 0 ∨ s0 ≥ o.st
  · have hS : fromS o ops s0 ps = (0, -1, 30) := by unfold fromS; rw [if_neg (by omega), if_pos c2]
    simp [c, c2, hS]
  have hS : fromS o ops s0 ps = runGo o ops [] 0 s0 ps := by unfold fromS; rw [if_neg (by omega), if_neg c2]
  rw [hS]
  simp [c, c2]
  refine CallK.introM (hrun _) (by simp) ?_
  rintro _ _ ⟨rfl, rfl⟩
  simp
  refine ALoop.intro (S := fun (x : Nat × Int × List (Int × Int)) => ⟨[(3, .pv (.seq false 2 (ps.map prow))), (8, .pv (I64 x.2.1)), (12, .pv (.fn (.func 143) [] [.ptr 2 0, .ptr 4 0, .ptr 1 0, .ptr 3 0])), (28, .pv (.seq false 2 (ps.map prow))), (29, .pv (I64 ps.length)), (30, .pv (I64 x.1))], [[.pv (I64 o.st), .pv (I64 o.kd), .pv (I64 o.ini), .pv (.seq false 4 (o.rows.map rrow))], [.pv (I64 o.st), .pv (I64 o.kd), .pv (I64 o.ini), .pv (.seq false 4 (o.rows.map rrow))], [.pv (.seq false 5 (ops.map orow))], [.pv (I64 x.2.1)], [.omap true (mapE fI x.2.2)]]⟩) (fun x => x.1 ≤ ps.length ∧ CntOk (tops (ps.take x.1)) x.2.2 ∧ runGo o ops (tops (ps.take x.1)) x.1 x.2.1 (ps.drop x.1) = runGo o ops [] 0 s0 ps) (fun x => ps.length - x.1) (0, s0, []) ?_ ⟨Nat.zero_le _, cntOk_nil, rfl⟩ ?_
  · exact Weak.to (by simp) (by simp) (by simp) (by simp) (by simp)
  rintro ⟨i, s, m⟩ ⟨hi, hm, hgo⟩
  dsimp only at hi hm hgo
  by_cases h : i < ps.length
  · have hw : w64 ((i : Int) + 1) = ((i + 1 : Nat) : Int) := by rw [w64_id (by omega) (by omega)]; omega
    have hr := run1_ok o ops s (tops (ps.take i)) m ps[i] hl hl2 hm (by simp [tops]; omega)
    rw [runGo_at o ops _ s ps h] at hgo
    simp only [runH, prow] at hr
    generalize pickS o ops (tops (ps.take i)) s ps[i] = Q at *
    simp [h, prow]
    refine CallB.intro hr (by trivial) ?_
    rintro _ _ ⟨rfl, s', m', ext, hq, rfl⟩
    by_cases e : Q.2 = 0
    · obtain ⟨rfl, hm'⟩ := hq e
      rw [if_pos e] at hgo
      simp [e]
      exact ⟨(i + 1, Q.1, m'), by (try dsimp only); omega, ⟨by (try dsimp only); omega, by rw [tops_take ps h]; exact hm', by rw [tops_take ps h]; exact hgo⟩, Weak.to (by simp [hw]) (by simp) (by simp) (by simp) (by simp)⟩
    · rw [if_neg e] at hgo
      rw [← hgo]
      simp [e]
  · have hie : i = ps.length := by omega
    subst hie
    rw [List.drop_length] at hgo
    rw [← hgo]
    simp [runGo]
theorem picks_ok (o : Obj) (ops : List Op5) (ps : List (Int × Int)) (hl : o.rows.length ≤ 140737488355328) (hl2 : ops.length ≤ 140737488355328) (hp : ps.length ≤ 1000000) : APure Tryz.prog 77 [robj o, ovec ops, .seq false 2 (ps.map prow)] (fun r => r = .pv (.tup [I64 (fromS o ops o.ini ps).1, I64 (fromS o ops o.ini ps).2.1, I64 (fromS o ops o.ini ps).2.2])) := by
  refine apureN [6, 7, 8] hmo Tryz.func77 (by kernel_rfl) rfl (fun _ _ => results_tmp3 rfl _ _ _) (by kernel_rfl) (Nat.le_of_ble_eq_true rfl) ?_
  have hf := from_ok o ops o.ini ps hl hl2 hp
  simp only [robj, ovec] at hf
  simp [robj, ovec]
  refine CallK.intro hf (by simp) ?_
  simp
end Go.AX

namespace Go.AX
open Go.Proofs
set_option linter.unusedSimpArgs false

def inRg (n : Nat) (l : List Int) : List Int := l.filter fun x => decide (0 ≤ x ∧ x < (n : Int))
theorem inRg_mem {n : Nat} {l : List Int} {k : Nat} (hk : k < n) : (k : Int) ∈ inRg n l ↔ (k : Int) ∈ l := by
  unfold inRg
  rw [List.mem_filter]
  exact ⟨fun h => h.1, fun h => ⟨h, decide_eq_true (by omega)⟩⟩
theorem inRg_in {n : Nat} {l : List Int} {x : Int} (hx : 0 ≤ x ∧ x < n) : inRg n (l ++ [x]) = inRg n l ++ [x] := by
  unfold inRg
  rw [List.filter_append, List.filter_cons, List.filter_nil, if_pos (decide_eq_true hx)]
theorem inRg_out {n : Nat} {l : List Int} {x : Int} (hx : ¬ (0 ≤ x ∧ x < n)) : inRg n (l ++ [x]) = inRg n l := by
  unfold inRg
  rw [List.filter_append, List.filter_cons, List.filter_nil, if_neg (by simpa using hx), List.append_nil]
theorem inRg_len (n : Nat) (l : List Int) : (inRg n l).length ≤ l.length := List.length_filter_le _ _
theorem badT_out {ops : List Op5} {u : List Int} {p : Int × Int} (h : ¬ (0 ≤ p.1 ∧ p.1 < ops.length)) : badT ops u p = false := by
  unfold badT
  rw [decide_eq_false h, Bool.false_and]
theorem badT_yes {ops : List Op5} {u : List Int} {x k : Nat} {q : Int} (hx : x < ops.length) (hk : k < ops.length) (h1 : aheadS ops[k] ops[x] = true) (h2 : (k : Int) ∉ u) : badT ops u ((x : Int), q) = true := by
  unfold badT
  rw [decide_eq_true (by dsimp only; omega), Bool.true_and, List.any_eq_true]
  exact ⟨k, List.mem_range.2 hk, by simp [hk, hx, h1, h2]⟩
theorem badT_no {ops : List Op5} {u : List Int} {x : Nat} {q : Int} (hx : x < ops.length) (h : ∀ k (hk : k < ops.length), aheadS ops[k] ops[x] = true → (k : Int) ∈ u) : badT ops u ((x : Int), q) = false := by
  unfold badT
  rw [decide_eq_true (by dsimp only; omega), Bool.true_and, List.any_eq_false]
  intro k hk hc
  have hk := List.mem_range.1 hk
  simp [hk, hx] at hc
  exact hc.2 (h k hk hc.1)

set_option maxRecDepth 16000 in
theorem ordW_ok (ops : List Op5) (ps : List (Int × Int)) (hl2 : ops.length ≤ 140737488355328) (hp : ps.length ≤ 1000000) : APure Tryz.prog 78 [ovec ops, .seq false 2 (ps.map prow)] (fun r => r = .pv (I64 (ordW ops ps))) := by
  refine apure1 hmo Tryz.func78 (by kernel_rfl) rfl rfl (by kernel_rfl) (Nat.le_of_ble_eq_true rfl) ?_
  simp [ovec]
  refine ALoop.intro (S := fun (x : Nat × List (Int × Int)) => ⟨[(0, .pv (.seq false 5 (ops.map orow))), (1, .pv (.seq false 2 (ps.map prow))), (5, .omap true (mapE fI x.2)), (11, .pv (.seq false 2 (ps.map prow))), (12, .pv (I64 ps.length)), (13, .pv (I64 x.1))], []⟩) (fun x => x.1 ≤ ps.length ∧ CntOk (inRg ops.length (tops (ps.take x.1))) x.2 ∧ ordGo ops (tops (ps.take x.1)) x.1 (ps.drop x.1) = ordW ops ps) (fun x => ps.length - x.1) (0, []) ?_ ⟨Nat.zero_le _, cntOk_nil, rfl⟩ ?_
  · exact Weak.to (by simp) (by simp) (by simp) (by simp) (by simp)
  rintro ⟨i, m⟩ ⟨hi, hm, hgo⟩
  dsimp only at hi hm hgo
  by_cases h : i < ps.length
  rotate_left
  · have hie : i = ps.length := by omega
    subst hie
    rw [List.drop_length] at hgo
    simp [← hgo, ordGo]
  have hw : w64 ((i : Int) + 1) = ((i + 1 : Nat) : Int) := by rw [w64_id (by omega) (by omega)]; omega
  rw [ordGo_at ops _ ps h] at hgo
  have htk := tops_take ps h
  have hul : (inRg ops.length (tops (ps.take i))).length ≤ 1000000 := Nat.le_trans (inRg_len _ _) (by simp [tops]; omega)
  obtain ⟨⟨j, q⟩, hpi⟩ : ∃ z, ps[i] = z := ⟨_, rfl⟩
  rw [hpi] at hgo htk
  by_cases c : 0 ≤ j ∧ j < ops.length
  rotate_left
  · rw [badT_out (p := (j, q)) c, if_neg (by simp)] at hgo
    have hin : inRg ops.length (tops (ps.take (i + 1))) = inRg ops.length (tops (ps.take i)) := by rw [htk]; exact inRg_out c
    by_cases c1 : j < 0
    · simp [h, hpi, prow, c1]
      exact ⟨(i + 1, m), by (try dsimp only); omega, ⟨by (try dsimp only); omega, by rw [hin]; exact hm, by rw [htk]; exact hgo⟩, Weak.to (by simp [hw]) (by simp) (by simp) (by simp) (by simp)⟩
    · have c2 : (ops.length : Int) ≤ j := by omega
      simp [h, hpi, prow, c1, c2]
      exact ⟨(i + 1, m), by (try dsimp only); omega, ⟨by (try dsimp only); omega, by rw [hin]; exact hm, by rw [htk]; exact hgo⟩, Weak.to (by simp [hw]) (by simp) (by simp) (by simp) (by simp)⟩
  obtain ⟨x, rfl⟩ := Int.eq_ofNat_of_zero_le c.1
  have hx : x < ops.length := by omega
  have hx2 : ¬ ops.length ≤ x := by omega
  simp [h, hpi, prow, hx2]
  refine ALoop.intro (S := fun (k : Nat) => ⟨[(0, .pv (.seq false 5 (ops.map orow))), (1, .pv (.seq false 2 (ps.map prow))), (5, .omap true (mapE fI m)), (6, .pv (I64 i)), (7, .pv (.ptr 0 0)), (11, .pv (.seq false 2 (ps.map prow))), (12, .pv (I64 ps.length)), (13, .pv (I64 i)), (28, .pv (.seq false 5 (ops.map orow))), (29, .pv (I64 ops.length)), (30, .pv (I64 k))], [[.pv (I64 x), .pv (I64 q)]]⟩) (fun k => k ≤ ops.length ∧ ∀ y (hy : y < ops.length), y < k → aheadS ops[y] ops[x] = true → (y : Int) ∈ tops (ps.take i)) (fun k => ops.length - k) 0 ?_ ⟨Nat.zero_le _, fun y _ hy => absurd hy (Nat.not_lt_zero _)⟩ ?_
  · exact Weak.to (by simp) (by simp) (by simp) (by simp) (by simp)
  rintro k ⟨hk, hall⟩
  by_cases hkl : k < ops.length
  · have hw1 : w64 ((k : Int) + 1) = ((k + 1 : Nat) : Int) := by rw [w64_id (by omega) (by omega)]; omega
    have hz := hm.zero k
    rw [inRg_mem hkl] at hz
    have hah := ahead_ok ops[k] ops[x]
    have hyes := fun h1 h2 => badT_yes (u := tops (ps.take i)) (q := q) hx hkl h1 h2
    have hnxt : (aheadS ops[k] ops[x] = true → (k : Int) ∈ tops (ps.take i)) → ∀ y (hy : y < ops.length), y < k + 1 → aheadS ops[y] ops[x] = true → (y : Int) ∈ tops (ps.take i) := fun hh y hy hyk => by
      by_cases e : y = k
      · subst e; exact hh
      · exact hall y hy (by omega)
    simp only [orow] at hah
    simp [h, hkl, hx, orow]
    refine CallQ0.intro hah (by simp) ?_
    cases ha : aheadS ops[k] ops[x]
    · simp [h, hkl, hx, orow]
      exact ⟨k + 1, by (try dsimp only); omega, ⟨by (try dsimp only); omega, hnxt (by rw [ha]; simp)⟩, Weak.to (by simp [hw1]) (by simp) (by simp) (by simp) (by simp)⟩
    · by_cases d : (k : Int) ∈ tops (ps.take i)
      · have d' : ¬ (lk m k).getD 0 = 0 := fun e => (hz.1 e) d
        simp [h, hkl, hx, orow, d']
        exact ⟨k + 1, by (try dsimp only); omega, ⟨by (try dsimp only); omega, hnxt (fun _ => d)⟩, Weak.to (by simp [hw1]) (by simp) (by simp) (by simp) (by simp)⟩
      · have d' : (lk m k).getD 0 = 0 := hz.2 d
        rw [hyes ha d, if_pos rfl] at hgo
        simp [h, hkl, hx, orow, d', hgo]
  · have hie : k = ops.length := by omega
    subst hie
    rw [badT_no hx (fun y hy => hall y hy hy), if_neg (by simp)] at hgo
    have hinc := hm.inc hul x
    simp [h]
    exact ⟨(i + 1, _), by (try dsimp only); omega, ⟨by (try dsimp only); omega, by rw [htk]; rw [inRg_in ⟨by omega, by dsimp only; omega⟩]; exact hinc, by rw [htk]; exact hgo⟩, Weak.to (by simp [hw]) (by simp) (by simp) (by simp) (by simp)⟩

/-! ### Who is absent -/
@[simp] theorem frzE_fI (r : Nat → Nat → PV) (l : List (Int × Int)) : frzE r (mapE fI l) = mapE fI l := by
  rw [frzE_map]; unfold mapE; rw [List.map_map]; congr 1
theorem frz_map0 {h : List (List SV)} {b : Nat} {nw : Bool} {m : List (Int × Int)} (hb : h[b]? = some [.omap nw (mapE fI m)]) (n : Nat) : frzP h (n + 1) b 0 = .iptr 1 [[.amap false (mapE fI m)]] 0 0 := by
  obtain ⟨hlt, hb'⟩ := List.getElem?_eq_some_iff.1 hb
  simp [frzP, hlt, hb', frzC]
def cntTo (ps : List (Int × Int)) : Nat → List (Int × Int)
  | 0 => []
  | i + 1 => pt (cntTo ps i) (ps.getD i default).1 (w64 ((lk (cntTo ps i) (ps.getD i default).1).getD 0 + 1))
theorem cntTo_ok (ps : List (Int × Int)) (hp : ps.length ≤ 1000000) : ∀ i, i ≤ ps.length → CntOk (tops (ps.take i)) (cntTo ps i)
  | 0, _ => cntOk_nil
  | i + 1, hi => by
    have h : i < ps.length := by omega
    rw [tops_take ps h, cntTo]
    have hg : ps.getD i default = ps[i] := by rw [List.getD_eq_getElem?_getD, List.getElem?_eq_getElem h]; rfl
    rw [hg]
    exact (cntTo_ok ps hp i (by omega)).inc (by simp [tops]; omega) _
theorem absent1_ok (m : List (Int × Int)) (i : Int) : APure Tryz.prog 145 [I64 i, .iptr 1 [[.amap false (mapE fI m)]] 0 0] (fun r => r = .pv (BL (decide ((lk m i).getD 0 = 0)))) := by
  refine apure1 hmo Tryz.func145 (by kernel_rfl) rfl rfl (by kernel_rfl) (Nat.le_of_ble_eq_true rfl) ?_
  simp
theorem absent_ok (ps : List (Int × Int)) (hp : ps.length ≤ 1000000) : AMut Tryz.prog 138 [.seq false 2 (ps.map prow)] [] (fun r h' => r = .pv (.fn (.func 145) [] [.ptr 0 0]) ∧ h' = [[.omap true (mapE fI (cntTo ps ps.length))]]) := by
  refine amut1 hmo Tryz.func138 (by kernel_rfl) rfl rfl (by kernel_rfl) (Nat.le_of_ble_eq_true rfl) ?_
  simp
  refine ALoop.intro (S := fun (i : Nat) => ⟨[(3, .pv (.ptr 0 0)), (7, .pv (.seq false 2 (ps.map prow))), (8, .pv (I64 ps.length)), (9, .pv (I64 i))], [[.omap true (mapE fI (cntTo ps i))]]⟩) (fun i => i ≤ ps.length) (fun i => ps.length - i) 0 ?_ (Nat.zero_le _) ?_
  · exact Weak.to (by simp) (by simp [cntTo]) (by simp) (by simp) (by simp)
  intro i hi
  by_cases hlt : i < ps.length
  · have hw : w64 ((i : Int) + 1) = ((i + 1 : Nat) : Int) := by rw [w64_id (by omega) (by omega)]; omega
    have hg : ps.getD i default = ps[i] := by rw [List.getD_eq_getElem?_getD, List.getElem?_eq_getElem hlt]; rfl
    have hn : cntTo ps (i + 1) = pt (cntTo ps i) ps[i].1 (w64 ((lk (cntTo ps i) ps[i].1).getD 0 + 1)) := by rw [cntTo, hg]
    simp [hlt, prow]
    exact ⟨i + 1, by (try dsimp only); omega, by (try dsimp only); omega, Weak.to (by simp [hw]) (by simp [hn]) (by simp) (by simp) (by simp)⟩
  · have hie : i = ps.length := by omega
    subst hie
    simp
set_option maxRecDepth 8000 in
theorem those_ok (ops : List Op5) (ps : List (Int × Int)) (pend : Bool) (hl2 : ops.length ≤ 1000000) (hp : ps.length ≤ 1000000) : APure Tryz.prog 115 [ovec ops, .seq false 2 (ps.map prow), BL pend] (fun r => r = .own true 1 (irow (missTo ops ps pend ops.length))) := by
  refine apure1 hmo Tryz.func115 (by kernel_rfl) rfl rfl (by kernel_rfl) (Nat.le_of_ble_eq_true rfl) ?_
  simp [ovec]
  refine CallK.introM (absent_ok ps hp) (by simp) ?_
  rintro _ _ ⟨rfl, rfl⟩
  simp
  have hcnt := cntTo_ok ps hp ps.length (Nat.le_refl _)
  rw [List.take_length] at hcnt
  generalize cntTo ps ps.length = m at *
  refine ALoop.intro (S := fun (i : Nat) => ⟨[(2, .pv (BL pend)), (7, .pv (.fn (.func 145) [] [.ptr 0 0])), (8, .own true 1 (irow (missTo ops ps pend i))), (13, .pv (.seq false 5 (ops.map orow))), (14, .pv (I64 ops.length)), (15, .pv (I64 i))], [[.omap true (mapE fI m)]]⟩) (fun i => i ≤ ops.length) (fun i => ops.length - i) 0 ?_ (Nat.zero_le _) ?_
  · exact (Weak.nilOwn (s := 8) 1 true (by simp)).trans (Weak.to (by simp [missTo, irow]) (by simp) (by simp) (by simp) (by simp))
  intro i hi
  by_cases h : i < ops.length
  · have hw : w64 ((i : Int) + 1) = ((i + 1 : Nat) : Int) := by rw [w64_id (by omega) (by omega)]; omega
    have hn := missTo_succ ops ps pend h
    have hlen := missTo_length ops ps pend i
    have ha := absent1_ok m i
    have hz := hcnt.zero i
    rw [show (decide ((lk m i).getD 0 = 0)) = !decide ((i : Int) ∈ tops ps) by rw [Bool.eq_iff_iff]; simp [hz]] at ha
    by_cases c : ops[i].e = -1
    · cases pend
      · rw [if_neg (by simp [c])] at hn
        simp [h, orow, c]
        exact ⟨i + 1, by (try dsimp only); omega, by (try dsimp only); omega, Weak.to (by simp [hw, hn]) (by simp) (by simp) (by simp) (by simp)⟩
      · rw [show (decide (ops[i].e = -1) == true) = true by simp [c], Bool.true_and] at hn
        simp [h, orow, c]
        rw [frz_map0 (m := m) (nw := true) rfl 2]
        refine CallB.introP ha (by simp) (by simp) ?_
        by_cases d : (i : Int) ∈ tops ps
        · rw [if_neg (by simp [d])] at hn
          simp [h, orow, c, d]
          exact ⟨i + 1, by (try dsimp only); omega, by (try dsimp only); omega, Weak.to (by simp [hw, hn]) (by simp) (by simp) (by simp) (by simp)⟩
        · rw [if_pos (by simp [d])] at hn
          simp [h, orow, c, d]
          exact ⟨by omega, i + 1, by (try dsimp only); omega, by (try dsimp only); omega, Weak.to (by simp [hw, hn, irow]) (by simp) (by simp) (by simp) (by simp)⟩
    · cases pend
      · rw [show (decide (ops[i].e = -1) == false) = true by simp [c], Bool.true_and] at hn
        simp [h, orow, c]
        rw [frz_map0 (m := m) (nw := true) rfl 2]
        refine CallB.introP ha (by simp) (by simp) ?_
        by_cases d : (i : Int) ∈ tops ps
        · rw [if_neg (by simp [d])] at hn
          simp [h, orow, c, d]
          exact ⟨i + 1, by (try dsimp only); omega, by (try dsimp only); omega, Weak.to (by simp [hw, hn]) (by simp) (by simp) (by simp) (by simp)⟩
        · rw [if_pos (by simp [d])] at hn
          simp [h, orow, c, d]
          exact ⟨by omega, i + 1, by (try dsimp only); omega, by (try dsimp only); omega, Weak.to (by simp [hw, hn, irow]) (by simp) (by simp) (by simp) (by simp)⟩
      · rw [if_neg (by simp [c])] at hn
        simp [h, orow, c]
        exact ⟨i + 1, by (try dsimp only); omega, by (try dsimp only); omega, Weak.to (by simp [hw, hn]) (by simp) (by simp) (by simp) (by simp)⟩
  · have hie : i = ops.length := by omega
    subst hie
    simp
theorem missing_ok (ops : List Op5) (ps : List (Int × Int)) (hl2 : ops.length ≤ 1000000) (hp : ps.length ≤ 1000000) : APure Tryz.prog 79 [ovec ops, .seq false 2 (ps.map prow)] (fun r => r = .own true 1 (irow (missTo ops ps false ops.length))) := by
  refine apure1 hmo Tryz.func79 (by kernel_rfl) rfl rfl (by kernel_rfl) (Nat.le_of_ble_eq_true rfl) ?_
  have h1 := those_ok ops ps false hl2 hp
  simp only [ovec] at h1
  simp [ovec]
  refine CallK.intro h1 (by simp) ?_
  simp
set_option maxRecDepth 8000 in
theorem chkW_ok (o : Obj) (ops : List Op5) (ps : List (Int × Int)) (hl : o.rows.length ≤ 140737488355328) (hl2 : ops.length ≤ 1000000) (hp : ps.length ≤ 1000000) : APure Tryz.prog 35 [robj o, ovec ops, .seq false 2 (ps.map prow)] (fun r => r = .pv (.tup [I64 (chkW o ops ps).1, I64 (chkW o ops ps).2])) := by
  refine apureN [6, 7] hmo Tryz.func35 (by kernel_rfl) rfl (fun _ _ => results_tmp2 rfl _ _ _) (by kernel_rfl) (Nat.le_of_ble_eq_true rfl) ?_
  have h1 := objChk_ok o hl
  have h2 := chk_okC ops (by omega)
  have h3 := picks_ok o ops ps hl (by omega) hp
  have h4 := ordW_ok ops ps (by omega) hp
  have h5 := missing_ok ops ps hl2 hp
  have hml := missTo_length ops ps false ops.length
  unfold chkW
  generalize objChk o = q at *
  generalize chk ops = q2 at *
  generalize fromS o ops o.ini ps = F at *
  generalize ordW ops ps = W at *
  generalize missTo ops ps false ops.length = M at *
  obtain ⟨a1, a2⟩ := q
  obtain ⟨b1, b2⟩ := q2
  obtain ⟨F1, F2, F3⟩ := F
  simp only [robj, ovec] at h1 h2 h3 h4 h5
  simp [robj, ovec]
  refine CallK.intro h1 (by simp) ?_
  simp
  refine CallK.intro h2 (by simp) ?_
  by_cases c1 : a2 = 0
  rotate_left
  · simp [c1]
  by_cases c2 : b2 = 0
  rotate_left
  · simp [c1, c2]
  simp [c1, c2]
  refine CallK.intro h3 (by simp) ?_
  by_cases c3 : F3 = 0
  rotate_left
  · simp [c3]
  simp [c3]
  refine CallK.intro h4 (by simp) ?_
  by_cases c4 : 0 ≤ W
  · simp [c4]
  simp [c4]
  refine CallK.intro h5 (by simp) ?_
  cases M with
  | nil => simp [irow]
  | cons x r => simp [irow]
theorem isW_ok (o : Obj) (ops : List Op5) (ps : List (Int × Int)) (hl : o.rows.length ≤ 140737488355328) (hl2 : ops.length ≤ 1000000) (hp : ps.length ≤ 1000000) : APure Tryz.prog 20 [robj o, ovec ops, .seq false 2 (ps.map prow)] (fun r => r = .pv (BL (decide ((chkW o ops ps).2 = 0)))) := by
  refine apure1 hmo Tryz.func20 (by kernel_rfl) rfl rfl (by kernel_rfl) (Nat.le_of_ble_eq_true rfl) ?_
  have h1 := chkW_ok o ops ps hl hl2 hp
  simp only [robj, ovec] at h1
  simp [robj, ovec]
  refine CallK.intro h1 (by simp) ?_
  simp
end Go.AX

namespace Go.AX
open Go.Proofs
set_option linter.unusedSimpArgs false

theorem samePicks_ok (a b : List (Int × Int)) (hl : a.length ≤ 140737488355328) : APure Tryz.prog 12 [.seq false 2 (a.map prow), .seq false 2 (b.map prow)] (fun r => r = .pv (BL (decide (a = b)))) := by
  refine apure1 hmo Tryz.func12 (by kernel_rfl) rfl rfl (by kernel_rfl) (Nat.le_of_ble_eq_true rfl) ?_
  simp
  refine ⟨fun h => fun e => h (by rw [e]), fun h => ?_⟩
  have hl2 : a.length = b.length := by omega
  refine ALoop.intro (S := fun (i : Nat) => ⟨[(0, .pv (.seq false 2 (a.map prow))), (1, .pv (.seq false 2 (b.map prow))), (5, .pv (I64 i))], []⟩) (fun i => i ≤ a.length ∧ ∀ j (h1 : j < a.length), j < i → a[j] = b[j]'(hl2 ▸ h1)) (fun i => a.length - i) 0 ?_ ?_ ?_
  · exact Weak.to (by simp) rfl (by simp) (by simp) (by simp)
  · exact ⟨by omega, fun j _ hj => by omega⟩
  · intro i ⟨hi, ho⟩
    by_cases h3 : i < a.length
    · have hw : w64 ((i : Int) + 1) = ((i + 1 : Nat) : Int) := by rw [w64_id (by omega) (by omega)]; omega
      have h4 : i < b.length := by omega
      simp [h3, h4, prow]
      refine ⟨fun c => fun e => by subst e; simp at c, fun c d => ⟨i + 1, by dsimp only; omega, ⟨by omega, fun j h1 hj => ?_⟩, Weak.to ?_ rfl (by simp) (by simp) (by simp)⟩⟩
      · by_cases e : j = i
        · subst e; exact Prod.ext c d
        · exact ho j h1 (by omega)
      · simp [hw]
    · simp [h3]
      exact eq_of_get hl2 fun j h1 => ho j h1 (by omega)
theorem sameBools_ok (a b : List Bool) (hl : a.length ≤ 140737488355328) : APure Tryz.prog 13 [.seq false 1 (brow a), .seq false 1 (brow b)] (fun r => r = .pv (BL (decide (a = b)))) := by
  refine apure1 hmo Tryz.func13 (by kernel_rfl) rfl rfl (by kernel_rfl) (Nat.le_of_ble_eq_true rfl) ?_
  simp
  refine ⟨fun h => fun e => h (by rw [e]), fun h => ?_⟩
  have hl2 : a.length = b.length := by omega
  refine ALoop.intro (S := fun (i : Nat) => ⟨[(0, .pv (.seq false 1 (brow a))), (1, .pv (.seq false 1 (brow b))), (5, .pv (I64 i))], []⟩) (fun i => i ≤ a.length ∧ ∀ j (h1 : j < a.length), j < i → a[j] = b[j]'(hl2 ▸ h1)) (fun i => a.length - i) 0 ?_ ?_ ?_
  · exact Weak.to (by simp) rfl (by simp) (by simp) (by simp)
  · exact ⟨by omega, fun j _ hj => by omega⟩
  · intro i ⟨hi, ho⟩
    by_cases h3 : i < a.length
    · have hw : w64 ((i : Int) + 1) = ((i + 1 : Nat) : Int) := by rw [w64_id (by omega) (by omega)]; omega
      have h4 : i < b.length := by omega
      simp [h3, h4]
      refine ⟨fun c => fun e => c (by subst e; rfl), fun c => ⟨i + 1, by dsimp only; omega, ⟨by omega, fun j h1 hj => ?_⟩, Weak.to ?_ rfl (by simp) (by simp) (by simp)⟩⟩
      · by_cases e : j = i
        · subst e; exact c
        · exact ho j h1 (by omega)
      · simp [hw]
    · simp [h3]
      exact eq_of_get hl2 fun j h1 => ho j h1 (by omega)
theorem placeP_ok (ps : List (Int × Int)) (n : Int) (hl : ps.length ≤ 140737488355328) : APure Tryz.prog 40 [.seq false 2 (ps.map prow), I64 n] (fun r => r = .pv (I64 (posS (tops ps) n))) := by
  refine apure1 hmo Tryz.func40 (by kernel_rfl) rfl rfl (by kernel_rfl) (Nat.le_of_ble_eq_true rfl) ?_
  have htl : (tops ps).length = ps.length := by simp [tops]
  have hg : ∀ j (h : j < ps.length), (tops ps)[j]'(by omega) = ps[j].1 := fun j h => by simp [tops]
  simp
  refine ALoop.intro (S := fun (i : Nat) => ⟨[(0, .pv (.seq false 2 (ps.map prow))), (1, .pv (I64 n)), (5, .pv (I64 i))], []⟩) (fun i => i ≤ ps.length ∧ ∀ j (h1 : j < (tops ps).length), j < i → (fun x => decide (x = n)) (tops ps)[j] = false) (fun i => ps.length - i) 0 ?_ ⟨Nat.zero_le _, fun j _ hj => absurd hj (Nat.not_lt_zero _)⟩ ?_
  · exact Weak.to (by simp) rfl (by simp) (by simp) (by simp)
  intro i ⟨hi, ho⟩
  by_cases h : i < ps.length
  · have hw : w64 ((i : Int) + 1) = ((i + 1 : Nat) : Int) := by rw [w64_id (by omega) (by omega)]; omega
    have hgi := hg i h
    simp [h, prow]
    refine ⟨fun c => by rw [posS, idxS_at (i := i) (by omega) ho (by rw [hgi]; simp [c])], fun c => ⟨i + 1, by dsimp only; omega, ⟨by omega, fun j h1 hj => ?_⟩, Weak.to (by simp [hw]) rfl (by simp) (by simp) (by simp)⟩⟩
    by_cases e : j = i
    · subst e; rw [hgi]; simp [c]
    · simpa using ho j h1 (by omega)
  · simp [h]
    rw [posS, idxS_none fun j hj => ho j hj (by omega)]
theorem pos_take {l : List Int} {x : Int} {i : Nat} : (posS l x < 0 ∨ (i : Int) ≤ posS l x) ↔ x ∉ l.take i := by
  unfold posS idxS
  cases h : l.findIdx? (fun y => decide (y = x)) with
  | none =>
    rw [List.findIdx?_eq_none_iff] at h
    refine ⟨fun _ hm => ?_, fun _ => .inl (by decide)⟩
    have := h x (List.mem_of_mem_take hm)
    simp at this
  | some j =>
    rw [List.findIdx?_eq_some_iff_getElem] at h
    obtain ⟨h1, h2, h3⟩ := h
    dsimp only
    constructor
    · intro hc hm
      obtain ⟨y, hy, e⟩ := List.mem_take_iff_getElem.1 hm
      have := h3 y (by omega)
      simp [e] at this
    · intro hm
      right
      apply Classical.byContradiction
      intro hc
      exact hm (List.mem_take_iff_getElem.2 ⟨j, by omega, by simpa using h2⟩)
theorem tops_takeC (ps : List (Int × Int)) (i : Nat) : tops (ps.take i) = (tops ps).take i := by simp [tops]

set_option maxRecDepth 16000 in
theorem refFrom_ok (o : Obj) (ops : List Op5) (s0 : Int) (ps : List (Int × Int)) (hr : objR o) (hl : o.rows.length ≤ 140737488355328) (hl2 : ops.length ≤ 140737488355328) (hp : ps.length ≤ 1000000) : APure Tryz.prog 54 [robj o, ovec ops, I64 s0, .seq false 2 (ps.map prow)] (fun r => r = .pv (.tup [I64 (fromS o ops s0 ps).1, I64 (fromS o ops s0 ps).2.1, I64 (fromS o ops s0 ps).2.2])) := by
  refine apureN [8, 9, 10] hmo Tryz.func54 (by kernel_rfl) rfl (fun _ _ => results_tmp3 rfl _ _ _) (by kernel_rfl) (Nat.le_of_ble_eq_true rfl) ?_
  have hchk := refObjChk_ok o hr hl
  simp only [robj] at hchk
  simp [robj, ovec]
  refine CallK.intro hchk (by simp) ?_
  by_cases c : (objChk o).2 = 0
  rotate_left
  · have hS : fromS o ops s0 ps = (0, -1, 2) := by unfold fromS; rw [if_pos c]
    simp [c, hS]
  by_cases c1 : s0 < 0
  · have hS : fromS o ops s0 ps = (0, -1, 30) := by unfold fromS; rw [if_neg (by omega), if_pos (by omega)]
    simp [c, c1, hS]
  by_cases c2 : o.st ≤ s0
  · have hS : fromS o ops s0 ps = (0, -1, 30) := by unfold fromS; rw [if_neg (by omega), if_pos (by omega)]
    simp [c, c1, c2, hS]
  have hS : fromS o ops s0 ps = runGo o ops [] 0 s0 ps := by unfold fromS; rw [if_neg (by omega), if_neg (by omega)]
  rw [hS]
  simp [c, c1, c2]
  refine ALoop.intro (S := fun (x : Nat × Int) => ⟨[(1, .pv (.seq false 5 (ops.map orow))), (2, .pv (I64 x.2)), (3, .pv (.seq false 2 (ps.map prow))), (4, .pv (.ptr 0 0)), (13, .pv (I64 x.1))], [[.pv (I64 o.st), .pv (I64 o.kd), .pv (I64 o.ini), .pv (.seq false 4 (o.rows.map rrow))]]⟩) (fun x => x.1 ≤ ps.length ∧ runGo o ops (tops (ps.take x.1)) x.1 x.2 (ps.drop x.1) = runGo o ops [] 0 s0 ps) (fun x => ps.length - x.1) (0, s0) ?_ ⟨Nat.zero_le _, rfl⟩ ?_
  · exact Weak.to (by simp) (by simp) (by simp) (by simp) (by simp)
  rintro ⟨i, s⟩ ⟨hi, hgo⟩
  dsimp only at hi hgo
  by_cases h : i < ps.length
  rotate_left
  · have hie : i = ps.length := by omega
    subst hie
    rw [List.drop_length] at hgo
    rw [← hgo]
    simp [runGo]
  have hw : w64 ((i : Int) + 1) = ((i + 1 : Nat) : Int) := by rw [w64_id (by omega) (by omega)]; omega
  rw [runGo_at o ops _ s ps h] at hgo
  have htk := tops_take ps h
  obtain ⟨⟨j, q⟩, hpi⟩ : ∃ z, ps[i] = z := ⟨_, rfl⟩
  rw [hpi] at hgo htk
  by_cases d : j < 0 ∨ j ≥ ops.length
  · have hP : pickS o ops (tops (ps.take i)) s (j, q) = (0, 2) := by unfold pickS; rw [if_pos d]
    rw [hP, if_neg (by decide)] at hgo
    rw [← hgo]
    by_cases d1 : j < 0
    · simp [h, hpi, prow, d1]
    · have d2 : (ops.length : Int) ≤ j := by omega
      simp [h, hpi, prow, d1, d2]
  obtain ⟨x, rfl⟩ := Int.eq_ofNat_of_zero_le (show 0 ≤ j by omega)
  have hx : x < ops.length := by omega
  have hx2 : ¬ ops.length ≤ x := by omega
  simp [h, hpi, prow, hx2]
  refine ALoop.intro (S := fun (k : Nat) => ⟨[(1, .pv (.seq false 5 (ops.map orow))), (2, .pv (I64 s)), (3, .pv (.seq false 2 (ps.map prow))), (4, .pv (.ptr 0 0)), (13, .pv (I64 i)), (14, .pv (.ptr 1 0)), (15, .pv (I64 k))], [[.pv (I64 o.st), .pv (I64 o.kd), .pv (I64 o.ini), .pv (.seq false 4 (o.rows.map rrow))], [.pv (I64 x), .pv (I64 q)]]⟩) (fun k => k ≤ i ∧ ∀ y (hy : y < ps.length), y < k → ps[y].1 ≠ (x : Int)) (fun k => i - k) 0 ?_ ⟨Nat.zero_le _, fun y _ hy => absurd hy (Nat.not_lt_zero _)⟩ ?_
  · exact Weak.to (by simp) (by simp) (by simp) (by simp) (by simp)
  rintro k ⟨hk, hall⟩
  by_cases hki : k < i
  · have hw1 : w64 ((k : Int) + 1) = ((k + 1 : Nat) : Int) := by rw [w64_id (by omega) (by omega)]; omega
    have hkp : k < ps.length := by omega
    by_cases e : ps[k].1 = (x : Int)
    · have hmem : (x : Int) ∈ tops (ps.take i) := by
        rw [← e, tops_takeC]
        exact List.mem_take_iff_getElem.2 ⟨k, by simp [tops]; omega, by simp [tops]⟩
      have hP : pickS o ops (tops (ps.take i)) s ((x : Int), q) = (0, 21) := by unfold pickS; rw [if_neg d, if_pos hmem]
      rw [hP, if_neg (by decide)] at hgo
      rw [← hgo]
      simp [h, hki, hkp, prow, e]
    · simp [h, hki, hkp, prow, e]
      refine ⟨k + 1, by (try dsimp only); omega, ⟨by (try dsimp only); omega, fun y hy hyk => ?_⟩, Weak.to (by simp [hw1]) (by simp) (by simp) (by simp) (by simp)⟩
      by_cases e1 : y = k
      · subst e1; exact e
      · exact hall y hy (by omega)
  have hnm : (x : Int) ∉ tops (ps.take i) := by
    intro hm
    rw [tops_takeC] at hm
    obtain ⟨y, hy, e⟩ := List.mem_take_iff_getElem.1 hm
    have hy2 : y < ps.length := by simp [tops] at hy; omega
    refine hall y hy2 (by omega) ?_
    simpa [tops] using e
  have hg : ops.getD (x : Int).toNat default = ops[x] := by rw [Int.toNat_natCast, List.getD_eq_getElem?_getD, List.getElem?_eq_getElem hx]; rfl
  have hP : pickS o ops (tops (ps.take i)) s ((x : Int), q) = if (stepS o s ops[x].k q).2 ≠ 0 then (0, (stepS o s ops[x].k q).2) else if ops[x].e ≠ -1 ∧ ops[x].r ≠ q then (0, 40) else ((stepS o s ops[x].k q).1, 0) := by
    unfold pickS
    rw [if_neg d, if_neg hnm]
    dsimp only
    rw [hg]
  have hstep := refStep_ok o s ops[x].k q hl
  simp only [robj] at hstep
  generalize stepS o s ops[x].k q = S at *
  generalize pickS o ops (tops (ps.take i)) s ((x : Int), q) = Q at *
  obtain ⟨S1, S2⟩ := S
  dsimp only at hP hstep
  simp [h, hki, hx, orow]
  refine CallQ0.intro hstep (by simp) ?_
  by_cases e : S2 = 0
  · subst e
    rw [if_neg (by omega)] at hP
    by_cases e1 : ops[x].e = -1
    · rw [if_neg (by omega)] at hP
      subst hP
      rw [if_pos rfl] at hgo
      simp [hx, e1, orow]
      exact ⟨(i + 1, S1), by (try dsimp only); omega, ⟨by (try dsimp only); omega, by rw [htk]; exact hgo⟩, Weak.to (by simp [hw]) (by simp) (by simp) (by simp) (by simp)⟩
    · by_cases e2 : ops[x].r = q
      · rw [if_neg (by omega)] at hP
        subst hP
        rw [if_pos rfl] at hgo
        simp [hx, e1, e2, orow]
        exact ⟨(i + 1, S1), by (try dsimp only); omega, ⟨by (try dsimp only); omega, by rw [htk]; exact hgo⟩, Weak.to (by simp [hw]) (by simp) (by simp) (by simp) (by simp)⟩
      · rw [if_pos ⟨e1, e2⟩] at hP
        subst hP
        rw [if_neg (by decide)] at hgo
        rw [← hgo]
        simp [hx, e1, e2, orow]
  · rw [if_pos e] at hP
    subst hP
    rw [if_neg e] at hgo
    rw [← hgo]
    simp [hx, e, orow]
set_option maxRecDepth 16000 in
theorem refOrdW_ok (ops : List Op5) (ps : List (Int × Int)) (hl2 : ops.length ≤ 140737488355328) (hp : ps.length ≤ 1000000) : APure Tryz.prog 83 [ovec ops, .seq false 2 (ps.map prow)] (fun r => r = .pv (I64 (ordW ops ps))) := by
  refine apure1 hmo Tryz.func83 (by kernel_rfl) rfl rfl (by kernel_rfl) (Nat.le_of_ble_eq_true rfl) ?_
  simp [ovec]
  refine ALoop.intro (S := fun (i : Nat) => ⟨[(0, .pv (.seq false 5 (ops.map orow))), (1, .pv (.seq false 2 (ps.map prow))), (5, .pv (I64 i))], []⟩) (fun i => i ≤ ps.length ∧ ordGo ops (tops (ps.take i)) i (ps.drop i) = ordW ops ps) (fun i => ps.length - i) 0 ?_ ⟨Nat.zero_le _, rfl⟩ ?_
  · exact Weak.to (by simp) (by simp) (by simp) (by simp) (by simp)
  rintro i ⟨hi, hgo⟩
  by_cases h : i < ps.length
  rotate_left
  · have hie : i = ps.length := by omega
    subst hie
    rw [List.drop_length] at hgo
    simp [← hgo, ordGo]
  have hw : w64 ((i : Int) + 1) = ((i + 1 : Nat) : Int) := by rw [w64_id (by omega) (by omega)]; omega
  rw [ordGo_at ops _ ps h] at hgo
  have htk := tops_take ps h
  obtain ⟨⟨j, q⟩, hpi⟩ : ∃ z, ps[i] = z := ⟨_, rfl⟩
  rw [hpi] at hgo htk
  by_cases c : 0 ≤ j ∧ j < ops.length
  rotate_left
  · rw [badT_out (p := (j, q)) c, if_neg (by simp)] at hgo
    simp [h, hpi, prow]
    refine ALoop.intro (S := fun (k : Nat) => ⟨[(0, .pv (.seq false 5 (ops.map orow))), (1, .pv (.seq false 2 (ps.map prow))), (5, .pv (I64 i)), (6, .pv (I64 j)), (7, .pv (I64 k))], []⟩) (fun k => k = 0) (fun k => 0) 0 ?_ rfl ?_
    · exact Weak.to (by simp) (by simp) (by simp) (by simp) (by simp)
    rintro k rfl
    by_cases c0 : ops.length = 0
    · simp [c0]
      exact ⟨i + 1, by (try dsimp only); omega, ⟨by (try dsimp only); omega, by rw [htk]; exact hgo⟩, Weak.to (by simp [hw]) (by simp) (by simp) (by simp) (by simp)⟩
    · have c0' : 0 < ops.length := by omega
      by_cases c1 : 0 ≤ j
      · have c2 : ¬ j < (ops.length : Int) := by omega
        simp [c0', c1, c2]
        exact ⟨i + 1, by (try dsimp only); omega, ⟨by (try dsimp only); omega, by rw [htk]; exact hgo⟩, Weak.to (by simp [hw]) (by simp) (by simp) (by simp) (by simp)⟩
      · simp [c0', c1]
        exact ⟨i + 1, by (try dsimp only); omega, ⟨by (try dsimp only); omega, by rw [htk]; exact hgo⟩, Weak.to (by simp [hw]) (by simp) (by simp) (by simp) (by simp)⟩
  obtain ⟨x, rfl⟩ := Int.eq_ofNat_of_zero_le c.1
  have hx : x < ops.length := by omega
  simp [h, hpi, prow]
  refine ALoop.intro (S := fun (k : Nat) => ⟨[(0, .pv (.seq false 5 (ops.map orow))), (1, .pv (.seq false 2 (ps.map prow))), (5, .pv (I64 i)), (6, .pv (I64 x)), (7, .pv (I64 k))], []⟩) (fun k => k ≤ ops.length ∧ ∀ y (hy : y < ops.length), y < k → aheadS ops[y] ops[x] = true → (y : Int) ∈ tops (ps.take i)) (fun k => ops.length - k) 0 ?_ ⟨Nat.zero_le _, fun y _ hy => absurd hy (Nat.not_lt_zero _)⟩ ?_
  · exact Weak.to (by simp) (by simp) (by simp) (by simp) (by simp)
  rintro k ⟨hk, hall⟩
  by_cases hkl : k < ops.length
  · have hw1 : w64 ((k : Int) + 1) = ((k + 1 : Nat) : Int) := by rw [w64_id (by omega) (by omega)]; omega
    have hah := refAhead_ok ops[k] ops[x]
    have hpl := placeP_ok ps k (by omega)
    have hyes := fun h1 h2 => badT_yes (u := tops (ps.take i)) (q := q) hx hkl h1 h2
    have hpt := pos_take (l := tops ps) (x := (k : Int)) (i := i)
    rw [← tops_takeC] at hpt
    have hnxt : (aheadS ops[k] ops[x] = true → (k : Int) ∈ tops (ps.take i)) → ∀ y (hy : y < ops.length), y < k + 1 → aheadS ops[y] ops[x] = true → (y : Int) ∈ tops (ps.take i) := fun hh y hy hyk => by
      by_cases e : y = k
      · subst e; exact hh
      · exact hall y hy (by omega)
    generalize posS (tops ps) (k : Int) = p at *
    simp only [orow] at hah
    simp [h, hkl, hx]
    refine CallK.intro hpl (by simp) ?_
    simp [h, hkl, hx, orow]
    refine CallQ0.intro hah (by simp) ?_
    cases ha : aheadS ops[k] ops[x]
    · simp [h, hkl, hx, orow]
      exact ⟨k + 1, by (try dsimp only); omega, ⟨by (try dsimp only); omega, hnxt (by rw [ha]; simp)⟩, Weak.to (by simp [hw1]) (by simp) (by simp) (by simp) (by simp)⟩
    · by_cases d : (k : Int) ∈ tops (ps.take i)
      · have d1 : ¬ p < 0 := fun e => hpt.1 (.inl e) d
        have d2 : ¬ (i : Int) ≤ p := fun e => hpt.1 (.inr e) d
        simp [h, hkl, hx, orow, d1, d2]
        exact ⟨k + 1, by (try dsimp only); omega, ⟨by (try dsimp only); omega, hnxt (fun _ => d)⟩, Weak.to (by simp [hw1]) (by simp) (by simp) (by simp) (by simp)⟩
      · rw [hyes ha d, if_pos rfl] at hgo
        by_cases d1 : p < 0
        · simp [h, hkl, hx, orow, d1, hgo]
        · have d2 : (i : Int) ≤ p := (hpt.2 d).resolve_left d1
          simp [h, hkl, hx, orow, d1, d2]
          exact hgo
  · have hie : k = ops.length := by omega
    subst hie
    rw [badT_no hx (fun y hy => hall y hy hy), if_neg (by simp)] at hgo
    simp [h]
    exact ⟨i + 1, by (try dsimp only); omega, ⟨by (try dsimp only); omega, by rw [htk]; exact hgo⟩, Weak.to (by simp [hw]) (by simp) (by simp) (by simp) (by simp)⟩
set_option maxRecDepth 8000 in
theorem refMiss_ok (ops : List Op5) (ps : List (Int × Int)) (pend : Bool) (hl2 : ops.length ≤ 1000000) (hp : ps.length ≤ 1000000) : APure Tryz.prog 84 [ovec ops, .seq false 2 (ps.map prow), BL pend] (fun r => r = .own true 1 (irow (missTo ops ps pend ops.length))) := by
  refine apure1 hmo Tryz.func84 (by kernel_rfl) rfl rfl (by kernel_rfl) (Nat.le_of_ble_eq_true rfl) ?_
  simp [ovec]
  refine ALoop.intro (S := fun (i : Nat) => ⟨[(0, .pv (.seq false 5 (ops.map orow))), (1, .pv (.seq false 2 (ps.map prow))), (2, .pv (BL pend)), (7, .own true 1 (irow (missTo ops ps pend i))), (8, .pv (I64 i))], []⟩) (fun i => i ≤ ops.length) (fun i => ops.length - i) 0 ?_ (Nat.zero_le _) ?_
  · exact (Weak.nilOwn (s := 7) 1 true (by simp)).trans (Weak.to (by simp [missTo, irow]) (by simp) (by simp) (by simp) (by simp))
  intro i hi
  by_cases h : i < ops.length
  · have hw : w64 ((i : Int) + 1) = ((i + 1 : Nat) : Int) := by rw [w64_id (by omega) (by omega)]; omega
    have hn := missTo_succ ops ps pend h
    have hlen := missTo_length ops ps pend i
    have hpl := placeP_ok ps i (by omega)
    have hz := posS_neg (tops ps) i
    generalize posS (tops ps) (i : Int) = p at *
    simp [h]
    refine CallK.intro hpl (by simp) ?_
    by_cases d : (i : Int) ∈ tops ps
    · rw [if_neg (by simp [d])] at hn
      have d' : ¬ p < 0 := fun e => hz.1 e d
      simp [h, d']
      exact ⟨i + 1, by (try dsimp only); omega, by (try dsimp only); omega, Weak.to (by simp [hw, hn]) (by simp) (by simp) (by simp) (by simp)⟩
    · have d' : p < 0 := hz.2 d
      by_cases c : ops[i].e = -1 <;> cases pend
      · rw [if_neg (by simp [c])] at hn
        simp [h, d', orow, c]
        exact ⟨i + 1, by (try dsimp only); omega, by (try dsimp only); omega, Weak.to (by simp [hw, hn]) (by simp) (by simp) (by simp) (by simp)⟩
      · rw [if_pos (by simp [c, d])] at hn
        simp [h, d', orow, c]
        exact ⟨by omega, i + 1, by (try dsimp only); omega, by (try dsimp only); omega, Weak.to (by simp [hw, hn, irow]) (by simp) (by simp) (by simp) (by simp)⟩
      · rw [if_pos (by simp [c, d])] at hn
        simp [h, d', orow, c]
        exact ⟨by omega, i + 1, by (try dsimp only); omega, by (try dsimp only); omega, Weak.to (by simp [hw, hn, irow]) (by simp) (by simp) (by simp) (by simp)⟩
      · rw [if_neg (by simp [c])] at hn
        simp [h, d', orow, c]
        exact ⟨i + 1, by (try dsimp only); omega, by (try dsimp only); omega, Weak.to (by simp [hw, hn]) (by simp) (by simp) (by simp) (by simp)⟩
  · have hie : i = ops.length := by omega
    subst hie
    simp
set_option maxRecDepth 8000 in
theorem refChkW_ok (o : Obj) (ops : List Op5) (ps : List (Int × Int)) (hr : objR o) (hl : o.rows.length ≤ 140737488355328) (hl2 : ops.length ≤ 1000000) (hp : ps.length ≤ 1000000) : APure Tryz.prog 39 [robj o, ovec ops, .seq false 2 (ps.map prow)] (fun r => r = .pv (.tup [I64 (chkW o ops ps).1, I64 (chkW o ops ps).2])) := by
  refine apureN [6, 7] hmo Tryz.func39 (by kernel_rfl) rfl (fun _ _ => results_tmp2 rfl _ _ _) (by kernel_rfl) (Nat.le_of_ble_eq_true rfl) ?_
  have h1 := refObjChk_ok o hr hl
  have h2 := refChk_ok ops (by omega)
  have h3 := refFrom_ok o ops o.ini ps hr hl (by omega) hp
  have h4 := refOrdW_ok ops ps (by omega) hp
  have h5 := refMiss_ok ops ps false hl2 hp
  have hml := missTo_length ops ps false ops.length
  unfold chkW
  generalize objChk o = q at *
  generalize chk ops = q2 at *
  generalize fromS o ops o.ini ps = F at *
  generalize ordW ops ps = W at *
  generalize missTo ops ps false ops.length = M at *
  obtain ⟨a1, a2⟩ := q
  obtain ⟨b1, b2⟩ := q2
  obtain ⟨F1, F2, F3⟩ := F
  simp only [robj, ovec] at h1 h2 h3 h4 h5
  simp [robj, ovec]
  refine CallK.intro h1 (by simp) ?_
  simp
  refine CallK.intro h2 (by simp) ?_
  by_cases c1 : a2 = 0
  rotate_left
  · simp [c1]
  by_cases c2 : b2 = 0
  rotate_left
  · simp [c1, c2]
  simp [c1, c2]
  refine CallK.intro h3 (by simp) ?_
  by_cases c3 : F3 = 0
  rotate_left
  · simp [c3]
  simp [c3]
  refine CallK.intro h4 (by simp) ?_
  by_cases c4 : 0 ≤ W
  · simp [c4]
  simp [c4]
  refine CallK.intro h5 (by simp) ?_
  cases M with
  | nil => simp [irow]
  | cons x r => simp [irow]
end Go.AX
