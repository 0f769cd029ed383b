/-
  Contracts: the document's objects, sizes, moves.
-/
import Derived.Test.YtipaihpchnlkfaaS2AxMovF
namespace Go.AX
open Go.Proofs

def inR (n : Int) : Prop := -9223372036854775808 ≤ n ∧ n ≤ 9223372036854775807
def objR (o : Obj) : Prop := inR o.st ∧ inR o.kd
theorem objOk_raw {o : Obj} (h : objR o) : objOk o = true ↔ (1 ≤ o.st ∧ o.st ≤ 32 ∧ 1 ≤ o.kd ∧ o.kd ≤ 64 ∧ 0 ≤ o.ini ∧ o.ini < o.st) := by
  rw [objOk_iff, withinS_iff, withinS_iff, withinS_iff, w64_eq, w64_eq]
  obtain ⟨⟨h1, h2⟩, h3, h4⟩ := h
  omega
theorem placeS_raw (a b : ORow) : 0 ≤ placeS a b ↔ (b.s < a.s ∨ a.s = b.s ∧ b.k ≤ a.k) := by
  unfold placeS cmpS
  split <;> (repeat' split) <;> omega

theorem rowE_raw {o : Obj} {i : Nat} (h : i < o.rows.length) : rowE o i = if o.rows[i].s < 0 ∨ o.st ≤ o.rows[i].s ∨ o.rows[i].n < 0 ∨ o.st ≤ o.rows[i].n then 30 else if o.rows[i].k < 0 ∨ o.kd ≤ o.rows[i].k then 31 else if o.rows[i].r < 0 ∨ 1000000 < o.rows[i].r then 7 else
    if 0 < i ∧ (o.rows[i].s < (o.rows.getD (i - 1) default).s ∨ (o.rows.getD (i - 1) default).s = o.rows[i].s ∧ o.rows[i].k ≤ (o.rows.getD (i - 1) default).k) then 32 else 0 := by
  rw [rowE_eq h]
  refine ite_congr (propext ?_) (fun _ => rfl) fun _ => ite_congr (propext ?_) (fun _ => rfl) fun _ => ite_congr (propext ?_) (fun _ => rfl) fun _ => ite_congr (propext ?_) (fun _ => rfl) fun _ => rfl
  · simp [withinS]; omega
  · simp [withinS]; omega
  · simp [withinS]; omega
  · rw [placeS_raw]

set_option maxRecDepth 16000 in
theorem refObjChk_ok (o : Obj) (hr : objR o) (hl : o.rows.length ≤ 140737488355328) : APure Try.prog 64 [robj o] (fun r => r = .pv (.tup [I64 (objChk o).1, I64 (objChk o).2])) := by
  refine apureN [2, 3] hmo Try.func64 (by kernel_rfl) rfl (fun _ _ => results_tmp2 rfl _ _ _) (by kernel_rfl) (Nat.le_of_ble_eq_true rfl) ?_
  have hraw := objOk_raw hr
  simp [robj]
  refine ⟨fun c => ?_, fun c => ?_⟩
  · have : objOk o = false := by
      cases hk : objOk o with
      | false => rfl
      | true => rw [hk] at hraw; have := hraw.1 rfl; omega
    simp [objChk, this]
  intro c2 c3 c4 c5 c6
  have hok : objChk o = firstErr (rowE o) o.rows.length := by rw [objChk, if_pos (hraw.2 ⟨c, c2, c3, c4, c5, c6⟩)]
  rw [hok]
  refine ALoop.intro (S := fun (i : Nat) => ⟨[(1, .pv (.ptr 0 0)), (4, .pv (I64 i))], [[.pv (I64 o.st), .pv (I64 o.kd), .pv (I64 o.ini), .pv (.seq false 4 (o.rows.map rrow))]]⟩) (fun i => i ≤ o.rows.length ∧ okUp (rowE o) i) (fun i => o.rows.length - i) 0 ?_ ?_ ?_
  · exact Weak.to (by simp) (by simp) (by simp) (by simp) (by simp)
  · exact ⟨by omega, fun j hj => by omega⟩
  · intro i ⟨hi, ho⟩
    by_cases h : i < o.rows.length
    · have hw : w64 ((i : Int) + 1) = ((i + 1 : Nat) : Int) := by rw [w64_id (by omega) (by omega)]; omega
      have hE := rowE_raw h
      have hb : ∀ e : Int, rowE o i = e → e ≠ 0 → firstErr (rowE o) o.rows.length = ((i : Int), e) := fun e he hz => by rw [firstErr_bad h ho (by rw [he]; exact hz), he]
      rcases Nat.eq_zero_or_pos i with h0 | h0
      · subst h0
        simp [h, rrow]
        refine ⟨fun d => ?_, fun d1 d2 d3 d4 => ⟨fun d => ?_, fun d5 d6 => ⟨fun d => ?_, fun d7 d8 => ?_⟩⟩⟩
        · rw [hb 30 (by rw [hE, if_pos (by omega)]) (by decide)]; exact ⟨rfl, rfl⟩
        · rw [hb 31 (by rw [hE, if_neg (by omega), if_pos (by omega)]) (by decide)]; exact ⟨rfl, rfl⟩
        · rw [hb 7 (by rw [hE, if_neg (by omega), if_neg (by omega), if_pos (by omega)]) (by decide)]; exact ⟨rfl, rfl⟩
        · refine ⟨0 + 1, by dsimp only; omega, ⟨by omega, okUp_succ ho (by rw [hE, if_neg (by omega), if_neg (by omega), if_neg (by omega), if_neg (by omega)])⟩, Weak.to ?_ (by simp) (by simp) (by simp) (by simp)⟩
          simp [show w64 1 = 1 by decide]
      · have hq1 : w64 ((i : Int) - 1) = ((i - 1 : Nat) : Int) := by rw [w64_id (by omega) (by omega)]; omega
        have hq2 : i - 1 < o.rows.length := by omega
        have hg : o.rows.getD (i - 1) default = o.rows[i - 1] := by simp [hq2]
        rw [hg] at hE
        simp [h, rrow, h0, hq1, hq2]
        refine ⟨fun d => ?_, fun d1 d2 d3 d4 => ⟨fun d => ?_, fun d5 d6 => ⟨fun d => ?_, fun d7 d8 => ⟨fun d => ⟨d, fun d9 => ⟨d, d9⟩⟩, fun d => ?_, fun d9 d10 => ?_⟩⟩⟩⟩
        · rw [hb 30 (by rw [hE, if_pos (by omega)]) (by decide)]; exact ⟨rfl, rfl⟩
        · rw [hb 31 (by rw [hE, if_neg (by omega), if_pos (by omega)]) (by decide)]; exact ⟨rfl, rfl⟩
        · rw [hb 7 (by rw [hE, if_neg (by omega), if_neg (by omega), if_pos (by omega)]) (by decide)]; exact ⟨rfl, rfl⟩
        · rw [hb 32 (by rw [hE, if_neg (by omega), if_neg (by omega), if_neg (by omega), if_pos (by omega)]) (by decide)]; exact ⟨rfl, rfl⟩
        · refine ⟨i + 1, by dsimp only; omega, ⟨by omega, okUp_succ ho (by rw [hE, if_neg (by omega), if_neg (by omega), if_neg (by omega), if_neg (by omega)])⟩, Weak.to ?_ (by simp) (by simp) (by simp) (by simp)⟩
          simp [hw, rrow]
    · simp [h]
      have : i = o.rows.length := by omega
      rw [firstErr_ok (this ▸ ho)]; simp

theorem find_at {α : Type} {p : α → Bool} {l : List α} {i : Nat} (h : i < l.length) (hn : ∀ j (hj : j < l.length), j < i → p l[j] = false) (hp : p l[i] = true) : l.find? p = some l[i] :=
  List.find?_eq_some_iff_getElem.2 ⟨hp, i, h, rfl, fun j hj => by simp [hn j (by omega) hj]⟩
theorem find_no {α : Type} {p : α → Bool} {l : List α} (hn : ∀ j (hj : j < l.length), p l[j] = false) : l.find? p = none := by
  rw [List.find?_eq_none]
  intro x hx
  obtain ⟨j, hj, rfl⟩ := List.mem_iff_getElem.1 hx
  simp [hn j hj]

set_option maxRecDepth 16000 in
theorem refMove_ok (o : Obj) (s k : Int) (hl : o.rows.length ≤ 140737488355328) : APure Try.prog 67 [robj o, I64 s, I64 k] (fun r => r = .pv (movePV (moveS o s k))) := by
  refine apureN [6, 7, 8] hmo Try.func67 (by kernel_rfl) rfl (fun _ _ => results_tmp3 rfl _ _ _) (by kernel_rfl) (Nat.le_of_ble_eq_true rfl) ?_
  simp [robj]
  refine ALoop.intro (S := fun (i : Nat) => ⟨[(1, .pv (I64 s)), (2, .pv (I64 k)), (3, .pv (.ptr 0 0)), (9, .pv (I64 i))], [[.pv (I64 o.st), .pv (I64 o.kd), .pv (I64 o.ini), .pv (.seq false 4 (o.rows.map rrow))]]⟩) (fun i => i ≤ o.rows.length ∧ ∀ j (hj : j < o.rows.length), j < i → isRow s k o.rows[j] = false) (fun i => o.rows.length - i) 0 ?_ ?_ ?_
  · exact Weak.to (by simp) (by simp) (by simp) (by simp) (by simp)
  · exact ⟨by omega, fun j _ hj => by omega⟩
  · intro i ⟨hi, ho⟩
    by_cases h : i < o.rows.length
    · have hw : w64 ((i : Int) + 1) = ((i + 1 : Nat) : Int) := by rw [w64_id (by omega) (by omega)]; omega
      simp [h, rrow]
      refine ⟨fun d1 d2 => ?_, fun d => ⟨i + 1, by dsimp only; omega, ⟨by omega, fun j hj hji => ?_⟩, Weak.to ?_ (by simp) (by simp) (by simp) (by simp)⟩⟩
      · rw [moveS, find_at h ho (by simp [isRow, d1, d2])]; rfl
      · by_cases e : j = i
        · subst e; simp [isRow]; exact d
        · exact ho j hj (by omega)
      · simp [hw, rrow]
    · simp [h]
      rw [moveS, find_no (fun j hj => ho j hj (by omega))]
      simp [movePV]

theorem refAt_ok (n m a b : Int) : APure Try.prog 71 [I64 n, I64 m, I64 a, I64 b] (fun r => r = .pv (I64 (w64 (a * n + b + 1)))) := by
  refine apure1 hmo Try.func71 (by kernel_rfl) rfl rfl (by kernel_rfl) (Nat.le_of_ble_eq_true rfl) ?_
  simp
theorem refIn_ok (n m a : Int) : APure Try.prog 70 [I64 n, I64 m, I64 a] (fun r => r = .pv (I64 (w64 (n * n + a + 1)))) := by
  refine apure1 hmo Try.func70 (by kernel_rfl) rfl rfl (by kernel_rfl) (Nat.le_of_ble_eq_true rfl) ?_
  simp
theorem refState_ok (n m a b : Int) : APure Try.prog 72 [I64 n, I64 m, I64 a, I64 b] (fun r => r = .pv (I64 (w64 (n * n + n + a * m + b + 1)))) := by
  refine apure1 hmo Try.func72 (by kernel_rfl) rfl rfl (by kernel_rfl) (Nat.le_of_ble_eq_true rfl) ?_
  simp

end Go.AX
