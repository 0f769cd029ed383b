/-
  Contracts: what is awake (moves).
  Contracts: the document's objects, sizes, moves.
  Contracts: the document's clauses of moves.
  Contracts: the document's clauses of moves, walked.
  Contracts: the document's plays; the walk of MovesPlays.
-/
import Derived.Test.YtklaffmpfmpffaaGreatDoorS10AxMovS
namespace Go.AX
set_option linter.unusedSimpArgs false
open Go.Proofs

theorem PV.as_agg {xs ys : List PV} (hc : asL xs ys) : PV.as (.agg xs) (.agg ys) := fun w v h => by
  obtain ⟨a, rfl, hf⟩ := h
  exact ⟨a, rfl, asL_fit hc hf⟩

theorem movesC_at {o : Obj} {ops : List Op5} (L : List (List Int)) (h : (sizeOk (sizeP o ops).1 (sizeP o ops).2 && (decide (movesC o ops = L) && (decide (o.rows.length ≤ 10) && decide (ops.length ≤ 10)))) = true) : APure Tryz.prog 30 [robj o, ovec ops] (fun r => r = .own true 1 (L.map crow)) := by
  simp only [Bool.and_eq_true, decide_eq_true_eq] at h
  have := movesC_ok o ops (by omega) (by omega)
  rw [if_pos h.1, h.2.1] at this
  exact this
theorem size_at {o : Obj} {ops : List Op5} (n m : Int) (h : (decide (sizeP o ops = (n, m)) && (decide (o.rows.length ≤ 10) && decide (ops.length ≤ 10))) = true) : APure Tryz.prog 38 [robj o, ovec ops] (fun r => r = .pv (.agg [I64 n, I64 m])) := by
  simp only [Bool.and_eq_true, decide_eq_true_eq] at h
  have := size_ok o ops (by omega) (by omega)
  rw [h.1] at this
  exact this
theorem mayM_at {o : Obj} {x : Op5} {s : Int} (y : Option Int) (h : (decide (mayS o x s = y) && decide (o.rows.length ≤ 10)) = true) : APure Tryz.prog 65 [robj o, .agg (orow x), I64 s] (fun r => r = .pv (mayPV y)) := by
  simp only [Bool.and_eq_true, decide_eq_true_eq] at h
  have := mayM_ok o x s (by omega)
  rw [h.1] at this
  exact this
theorem playM_at {o : Obj} {ops : List Op5} {order : List Int} {inn : List Bool} (y : Option (List Int)) (h : (decide (playS o ops order inn = y) && (decide (o.rows.length ≤ 10) && decide (ops.length ≤ 10))) = true) : APure Tryz.prog 34 [robj o, ovec ops, .seq false 1 (irow order), .seq false 1 (brow inn)] (fun r => r = .pv (playPV true y)) := by
  simp only [Bool.and_eq_true, decide_eq_true_eq] at h
  have := playM_ok o ops order inn (by omega) (by omega)
  rw [h.1] at this
  exact this
theorem sameRows_at {a b : List (List Int)} (h : (decide (a = b) && (decide (a.length ≤ 10) && a.all fun x => decide (x.length ≤ 10))) = true) : APure Tryz.prog 9 [.seq false 1 (a.map crowF), .seq false 1 (b.map crowF)] (fun r => r = .pv (BL true)) := by
  simp only [Bool.and_eq_true, decide_eq_true_eq, List.all_eq_true] at h
  have := sameRows_ok a b (by omega) (fun x hx => by have := h.2.2 x hx; omega)
  rw [h.1, decide_eq_true rfl] at this
  rw [h.1]
  exact this

@[simp] theorem nwL_orow (x : Op5) : nwL (orow x) := by simp [orow]

@[simp] theorem nwL_crow (x : List Int) : nwL (crow x) := by simp [crow]

end Go.AX

namespace Go.AX
open Go.Proofs

def inR (n : Int) : Prop := -9223372036854775808 ≤ n ∧ n ≤ 9223372036854775807
def objR (o : Obj) : Prop := inR o.st ∧ inR o.kd
theorem objOk_raw {o : Obj} (h : objR o) : objOk o = true ↔ (1 ≤ o.st ∧ o.st ≤ 32 ∧ 1 ≤ o.kd ∧ o.kd ≤ 64 ∧ 0 ≤ o.ini ∧ o.ini < o.st) := by
  rw [objOk_iff, withinS_iff, withinS_iff, withinS_iff, w64_eq, w64_eq]
  obtain ⟨⟨h1, h2⟩, h3, h4⟩ := h
  omega
theorem placeS_raw (a b : ORow) : 0 ≤ placeS a b ↔ (b.s < a.s ∨ a.s = b.s ∧ b.k ≤ a.k) := by
  unfold placeS cmpS
  split <;> (repeat' split) <;> omega

theorem rowE_raw {o : Obj} {i : Nat} (h : i < o.rows.length) : rowE o i = if o.rows[i].s < 0 ∨ o.st ≤ o.rows[i].s ∨ o.rows[i].n < 0 ∨ o.st ≤ o.rows[i].n then 30 else if o.rows[i].k < 0 ∨ o.kd ≤ o.rows[i].k then 31 else if o.rows[i].r < 0 ∨ 1000000 < o.rows[i].r then 7 else
    if 0 < i ∧ (o.rows[i].s < (o.rows.getD (i - 1) default).s ∨ (o.rows.getD (i - 1) default).s = o.rows[i].s ∧ o.rows[i].k ≤ (o.rows.getD (i - 1) default).k) then 32 else 0 := by
  rw [rowE_eq h]
  refine ite_congr (propext ?_) (fun _ => rfl) fun _ => ite_congr (propext ?_) (fun _ => rfl) fun _ => ite_congr (propext ?_) (fun _ => rfl) fun _ => ite_congr (propext ?_) (fun _ => rfl) fun _ => rfl
  · simp [withinS]; omega
  · simp [withinS]; omega
  · simp [withinS]; omega
  · rw [placeS_raw]

set_option maxRecDepth 16000 in
theorem refObjChk_ok (o : Obj) (hr : objR o) (hl : o.rows.length ≤ 140737488355328) : APure Tryz.prog 46 [robj o] (fun r => r = .pv (.tup [I64 (objChk o).1, I64 (objChk o).2])) := by
  refine apureN [2, 3] hmo Tryz.func46 (by kernel_rfl) rfl (fun _ _ => results_tmp2 rfl _ _ _) (by kernel_rfl) (Nat.le_of_ble_eq_true rfl) ?_
  have hraw := objOk_raw hr
  simp [robj]
  refine ⟨fun c => ?_, fun c => ?_⟩
  · have : objOk o = false := by
      cases hk : objOk o with
      | false => rfl
      | true => rw [hk] at hraw; have := hraw.1 rfl; omega
    simp [objChk, this]
  intro c2 c3 c4 c5 c6
  have hok : objChk o = firstErr (rowE o) o.rows.length := by rw [objChk, if_pos (hraw.2 ⟨c, c2, c3, c4, c5, c6⟩)]
  rw [hok]
  refine ALoop.intro (S := fun (i : Nat) => ⟨[(1, .pv (.ptr 0 0)), (4, .pv (I64 i))], [[.pv (I64 o.st), .pv (I64 o.kd), .pv (I64 o.ini), .pv (.seq false 4 (o.rows.map rrow))]]⟩) (fun i => i ≤ o.rows.length ∧ okUp (rowE o) i) (fun i => o.rows.length - i) 0 ?_ ?_ ?_
  · exact Weak.to (by simp) (by simp) (by simp) (by simp) (by simp)
  · exact ⟨by omega, fun j hj => by omega⟩
  · intro i ⟨hi, ho⟩
    by_cases h : i < o.rows.length
    · have hw : w64 ((i : Int) + 1) = ((i + 1 : Nat) : Int) := by rw [w64_id (by omega) (by omega)]; omega
      have hE := rowE_raw h
      have hb : ∀ e : Int, rowE o i = e → e ≠ 0 → firstErr (rowE o) o.rows.length = ((i : Int), e) := fun e he hz => by rw [firstErr_bad h ho (by rw [he]; exact hz), he]
      rcases Nat.eq_zero_or_pos i with h0 | h0
      · subst h0
        simp [h, rrow]
        refine ⟨fun d => ?_, fun d1 d2 d3 d4 => ⟨fun d => ?_, fun d5 d6 => ⟨fun d => ?_, fun d7 d8 => ?_⟩⟩⟩
        · rw [hb 30 (by rw [hE, if_pos (by omega)]) (by decide)]; exact ⟨rfl, rfl⟩
        · rw [hb 31 (by rw [hE, if_neg (by omega), if_pos (by omega)]) (by decide)]; exact ⟨rfl, rfl⟩
        · rw [hb 7 (by rw [hE, if_neg (by omega), if_neg (by omega), if_pos (by omega)]) (by decide)]; exact ⟨rfl, rfl⟩
        · refine ⟨0 + 1, by dsimp only; omega, ⟨by omega, okUp_succ ho (by rw [hE, if_neg (by omega), if_neg (by omega), if_neg (by omega), if_neg (by omega)])⟩, Weak.to ?_ (by simp) (by simp) (by simp) (by simp)⟩
          simp [show w64 1 = 1 by decide]
      · have hq1 : w64 ((i : Int) - 1) = ((i - 1 : Nat) : Int) := by rw [w64_id (by omega) (by omega)]; omega
        have hq2 : i - 1 < o.rows.length := by omega
        have hg : o.rows.getD (i - 1) default = o.rows[i - 1] := by simp [hq2]
        rw [hg] at hE
        simp [h, rrow, h0, hq1, hq2]
        refine ⟨fun d => ?_, fun d1 d2 d3 d4 => ⟨fun d => ?_, fun d5 d6 => ⟨fun d => ?_, fun d7 d8 => ⟨fun d => ⟨d, fun d9 => ⟨d, d9⟩⟩, fun d => ?_, fun d9 d10 => ?_⟩⟩⟩⟩
        · rw [hb 30 (by rw [hE, if_pos (by omega)]) (by decide)]; exact ⟨rfl, rfl⟩
        · rw [hb 31 (by rw [hE, if_neg (by omega), if_pos (by omega)]) (by decide)]; exact ⟨rfl, rfl⟩
        · rw [hb 7 (by rw [hE, if_neg (by omega), if_neg (by omega), if_pos (by omega)]) (by decide)]; exact ⟨rfl, rfl⟩
        · rw [hb 32 (by rw [hE, if_neg (by omega), if_neg (by omega), if_neg (by omega), if_pos (by omega)]) (by decide)]; exact ⟨rfl, rfl⟩
        · refine ⟨i + 1, by dsimp only; omega, ⟨by omega, okUp_succ ho (by rw [hE, if_neg (by omega), if_neg (by omega), if_neg (by omega), if_neg (by omega)])⟩, Weak.to ?_ (by simp) (by simp) (by simp) (by simp)⟩
          simp [hw, rrow]
    · simp [h]
      have : i = o.rows.length := by omega
      rw [firstErr_ok (this ▸ ho)]; simp

theorem find_at {α : Type} {p : α → Bool} {l : List α} {i : Nat} (h : i < l.length) (hn : ∀ j (hj : j < l.length), j < i → p l[j] = false) (hp : p l[i] = true) : l.find? p = some l[i] :=
  List.find?_eq_some_iff_getElem.2 ⟨hp, i, h, rfl, fun j hj => by simp [hn j (by omega) hj]⟩
theorem find_no {α : Type} {p : α → Bool} {l : List α} (hn : ∀ j (hj : j < l.length), p l[j] = false) : l.find? p = none := by
  rw [List.find?_eq_none]
  intro x hx
  obtain ⟨j, hj, rfl⟩ := List.mem_iff_getElem.1 hx
  simp [hn j hj]

end Go.AX

namespace Go.AX
open Go.Proofs

theorem mayS_in {o : Obj} {x : Op5} {b y : Int} (h : (objChk o).2 = 0) (hm : mayS o x b = some y) : 0 ≤ y ∧ y < o.st := by
  unfold objChk at h
  split at h
  · rw [firstErr_zero] at h
    have : ∃ r, r ∈ o.rows ∧ y = r.n := by
      unfold mayS moveS at hm
      cases hf : o.rows.find? (isRow b x.k) with
      | none => rw [hf] at hm; simp at hm
      | some r =>
        rw [hf] at hm
        simp at hm
        exact ⟨r, List.mem_of_find?_eq_some hf, by grind⟩
    obtain ⟨r, hr, rfl⟩ := this
    obtain ⟨i, hi, rfl⟩ := List.mem_iff_getElem.1 hr
    have he := h i hi
    rw [rowE_raw hi] at he
    by_cases c : o.rows[i].s < 0 ∨ o.st ≤ o.rows[i].s ∨ o.rows[i].n < 0 ∨ o.st ≤ o.rows[i].n
    · rw [if_pos c] at he; cases he
    · omega
  · cases h

theorem var1 {n m a b : Int} (h : sizeOk n m = true) (ha : 0 ≤ a ∧ a < n) (hb : 0 ≤ b ∧ b < n) : w64 (a * n + b + 1) = varS n m 1 a b := by
  have hv : varOk n m 1 a b = true := varOk_iff.2 ⟨h, by decide, by decide, ha.1, ha.2, hb.1, hb.2⟩
  have := block_small hv
  rw [varS, if_pos hv]
  simp [blockFrom, blockWide] at this ⊢
  exact w64_id (by omega) (by omega)
theorem var2 {n m a : Int} (h : sizeOk n m = true) (ha : 0 ≤ a ∧ a < n) : w64 (n * n + a + 1) = varS n m 2 a 0 := by
  have hv : varOk n m 2 a 0 = true := varOk_iff.2 ⟨h, by decide, by decide, ha.1, ha.2, by decide, by simp [blockWide]⟩
  have := block_small hv
  rw [varS, if_pos hv]
  simp [blockFrom, blockWide] at this ⊢
  exact w64_id (by omega) (by omega)
theorem var3 {n m a b : Int} (h : sizeOk n m = true) (ha : 0 ≤ a ∧ a ≤ n) (hb : 0 ≤ b ∧ b < m) : w64 (n * n + n + a * m + b + 1) = varS n m 3 a b := by
  have hv : varOk n m 3 a b = true := varOk_iff.2 ⟨h, by decide, by decide, ha.1, by simp [blockTall]; omega, hb.1, by simp [blockWide]; exact hb.2⟩
  have := block_small hv
  rw [varS, if_pos hv]
  simp [blockFrom, blockWide] at this ⊢
  exact w64_id (by omega) (by omega)

end Go.AX

namespace Go.AX
open Go.Proofs
set_option linter.unusedSimpArgs false

end Go.AX

namespace Go.AX
open Go.Proofs
set_option linter.unusedSimpArgs false

theorem posS_neg (l : List Int) (n : Int) : posS l n < 0 ↔ ¬ n ∈ l := by rw [← Int.not_le, posS_nn]

def caseV (order : List Int) (inn : List Bool) (row : List Int) : PV := .agg [.seq false 1 (irow order), .seq false 1 (brow inn), .seq false 1 (irow row)]

end Go.AX
