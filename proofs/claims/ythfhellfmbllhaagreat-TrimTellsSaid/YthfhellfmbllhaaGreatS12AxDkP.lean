/-
  Trails: what the program keeps and what the document keeps go together (plain law).
-/
import Derived.Test.YthfhellfmbllhaaGreatS12AxRfA
import Derived.Test.YthfhellfmbllhaaGreatS12AxClG
import Derived.Test.YthfhellfmbllhaaGreatAxBL
namespace Go.AX
open Go.Proofs
set_option linter.unusedSimpArgs false
structure RelT (T : Tr) (t : RT) : Prop where
  len : T.marks.length = 7
  vars : t.vars = 6
  lits : T.lits = t.rows.map (·.l)
  dep : t.dep = (T.beg.length : Int)
  ok : ∀ x ∈ t.rows, litChk x.l 6 = 0 ∧ 0 ≤ x.lev ∧ x.lev ≤ t.dep
  free : ∀ v : Int, plR t v < 0 → (mkAt T v).v = 0
  mark : ∀ (v : Int) (i : Nat) (hi : i < t.rows.length), plR t v = (i : Int) → mkAt T v = ⟨if t.rows[i].l < 0 then -1 else 1, t.rows[i].lev, t.rows[i].rea, i⟩
  cnt : T.marks.countP (fun m => decide (m.v ≠ 0)) = t.rows.length
theorem RelT.few {T : Tr} {t : RT} (h : RelT T t) : t.rows.length ≤ 7 := by
  have := List.countP_le_length (p := fun m : Mk => decide (m.v ≠ 0)) (l := T.marks)
  rw [h.cnt, h.len] at this
  exact this
theorem RelT.okT {T : Tr} {t : RT} (h : RelT T t) : T.ok := ⟨by rw [h.len]; omega, by rw [h.len]; omega⟩
theorem litV_ok6 {l : Int} (h : litChk l 6 = 0) : 1 ≤ litV l ∧ litV l ≤ 6 ∧ l ≠ 0 ∧ -6 ≤ l ∧ l ≤ 6 ∧ litV l = absS l := by
  obtain ⟨a, b, _, d⟩ := litV_in (by omega) h
  obtain ⟨e, f, g⟩ := (litChk_zero (by omega)).1 h
  exact ⟨a, b, e, f, g, d⟩
def RelD (T : Tr) (t : RT) : Prop := RelT T t ∧ T.beg.length ≤ t.rows.length
theorem relT_of {T : Tr} {t : RT} (h : RelT T t) (v : Int) : (ofT T v).1.lev = (ofR t v).1 ∧ (ofT T v).1.rea = (ofR t v).2 ∧ (ofT T v).1.pla = plR t v := by
  unfold ofT ofR
  have hl := h.len
  by_cases c : plR t v < 0
  · rw [if_pos c, if_pos]
    · refine ⟨rfl, rfl, ?_⟩
      have : plR t v = -1 := by
        unfold plR idxS at *
        split at c
        · omega
        · rfl
      rw [this]
    · exact .inr (.inr (h.free v c))
  · obtain ⟨i, hi, e1, e2⟩ := plR_in (t := t) (v := v) (by omega)
    obtain ⟨a, b, _⟩ := litV_ok6 (h.ok _ (List.getElem_mem hi)).1
    have hm := h.mark v i hi e1
    rw [if_neg c, if_neg, hm, e1]
    · simp [hi]
    · rw [hm]
      simp only
      have : (if t.rows[i].l < 0 then (-1 : Int) else 1) ≠ 0 := by split <;> omega
      simp [this]; omega
end Go.AX
