/-
  Contracts: the document's clauses of moves.
-/
import Derived.Test.YtipaihpchnlkfaaS2AxMovI
namespace Go.AX
open Go.Proofs

set_option maxRecDepth 16000 in
theorem refSize_ok (o : Obj) (ops : List Op5) (hr : objR o) (hl : o.rows.length ≤ 140737488355328) (hl2 : ops.length ≤ 140737488355328) : APure Try.prog 16 [robj o, ovec ops] (fun r => r = .pv (.tup [I64 (sizeP o ops).1, I64 (sizeP o ops).2])) := by
  refine apureN [4, 5] hmo Try.func16 (by kernel_rfl) rfl (fun _ _ => results_tmp2 rfl _ _ _) (by kernel_rfl) (Nat.le_of_ble_eq_true rfl) ?_
  have h1 := refObjChk_ok o hr hl
  have h2 := refChk_ok ops hl2
  simp only [robj, ovec] at h1 h2
  simp [robj, ovec]
  refine CallK.intro h1 (by simp) ?_
  simp
  refine CallK.intro h2 (by simp) ?_
  simp
  refine ⟨fun c => ?_, fun c1 c2 => ?_⟩
  · have : sizeP o ops = (0, 0) := by rw [sizeP, if_neg]; rintro ⟨h3, h4⟩; simp [h3, h4] at c
    simp [this]
  · simp [sizeP, c1, c2]

set_option maxRecDepth 16000 in
theorem refMay_ok (o : Obj) (x : Op5) (state : Int) (hl : o.rows.length ≤ 140737488355328) : APure Try.prog 19 [robj o, .agg (orow x), I64 state] (fun r => r = .pv (mayPV (mayS o x state))) := by
  refine apureN [6, 7] hmo Try.func19 (by kernel_rfl) rfl (fun _ _ => results_tmp2 rfl _ _ _) (by kernel_rfl) (Nat.le_of_ble_eq_true rfl) ?_
  have h := refMove_ok o state x.k hl
  simp only [robj] at h
  unfold mayS
  cases hm : moveS o state x.k with
  | none =>
    rw [hm] at h
    simp only [movePV] at h
    simp [robj, orow]
    refine CallK.intro h (by simp) ?_
    simp [mayPV]
  | some y =>
    rw [hm] at h
    simp only [movePV] at h
    simp [robj, orow]
    refine CallK.intro h (by simp) ?_
    simp
    exact ⟨fun c => by rw [if_neg (by omega)]; rfl, fun c1 c2 => by rw [if_pos ⟨c1, c2⟩]; rfl⟩

theorem mayS_in {o : Obj} {x : Op5} {b y : Int} (h : (objChk o).2 = 0) (hm : mayS o x b = some y) : 0 ≤ y ∧ y < o.st := by
  unfold objChk at h
  split at h
  · rw [firstErr_zero] at h
    have : ∃ r, r ∈ o.rows ∧ y = r.n := by
      unfold mayS moveS at hm
      cases hf : o.rows.find? (isRow b x.k) with
      | none => rw [hf] at hm; simp at hm
      | some r =>
        rw [hf] at hm
        simp at hm
        exact ⟨r, List.mem_of_find?_eq_some hf, by grind⟩
    obtain ⟨r, hr, rfl⟩ := this
    obtain ⟨i, hi, rfl⟩ := List.mem_iff_getElem.1 hr
    have he := h i hi
    rw [rowE_raw hi] at he
    by_cases c : o.rows[i].s < 0 ∨ o.st ≤ o.rows[i].s ∨ o.rows[i].n < 0 ∨ o.st ≤ o.rows[i].n
    · rw [if_pos c] at he; cases he
    · omega
  · cases h

theorem var1 {n m a b : Int} (h : sizeOk n m = true) (ha : 0 ≤ a ∧ a < n) (hb : 0 ≤ b ∧ b < n) : w64 (a * n + b + 1) = varS n m 1 a b := by
  have hv : varOk n m 1 a b = true := varOk_iff.2 ⟨h, by decide, by decide, ha.1, ha.2, hb.1, hb.2⟩
  have := block_small hv
  rw [varS, if_pos hv]
  simp [blockFrom, blockWide] at this ⊢
  exact w64_id (by omega) (by omega)
theorem var2 {n m a : Int} (h : sizeOk n m = true) (ha : 0 ≤ a ∧ a < n) : w64 (n * n + a + 1) = varS n m 2 a 0 := by
  have hv : varOk n m 2 a 0 = true := varOk_iff.2 ⟨h, by decide, by decide, ha.1, ha.2, by decide, by simp [blockWide]⟩
  have := block_small hv
  rw [varS, if_pos hv]
  simp [blockFrom, blockWide] at this ⊢
  exact w64_id (by omega) (by omega)
theorem var3 {n m a b : Int} (h : sizeOk n m = true) (ha : 0 ≤ a ∧ a ≤ n) (hb : 0 ≤ b ∧ b < m) : w64 (n * n + n + a * m + b + 1) = varS n m 3 a b := by
  have hv : varOk n m 3 a b = true := varOk_iff.2 ⟨h, by decide, by decide, ha.1, by simp [blockTall]; omega, hb.1, by simp [blockWide]; exact hb.2⟩
  have := block_small hv
  rw [varS, if_pos hv]
  simp [blockFrom, blockWide] at this ⊢
  exact w64_id (by omega) (by omega)

end Go.AX
