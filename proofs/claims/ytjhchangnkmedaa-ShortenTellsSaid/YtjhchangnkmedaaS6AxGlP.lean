/-
  Contracts: rows that may be forgotten: which is worse, what stays.
  Plain law: which rows are forgotten.
-/
import Derived.Test.YtjhchangnkmedaaS6AxTrA
import Derived.Test.YtjhchangnkmedaaAxBR
namespace Go.AX
open Go.Proofs
set_option linter.unusedSimpArgs false

structure Gr where
  at' : Int
  gl : Int
  wi : Int
  lo : Bool
deriving DecidableEq, Inhabited
def grE (x : Gr) : List Value := [.int .i64 x.at', .int .i64 x.gl, .int .i64 x.wi, .bool x.lo]
def grR (x : Gr) : List PV := [I64 x.at', I64 x.gl, I64 x.wi, BL x.lo]
theorem rowsB_gr (l : List Gr) : rowsB grE l = l.map grR := rfl
@[simp] theorem belowR_grR (k : Nat) (l : List Gr) : belowR k (l.map grR) := by
  induction l with
  | nil => trivial
  | cons x xs ih => exact ⟨⟨trivial, trivial, trivial, trivial, trivial⟩, ih⟩
@[simp] theorem nwR_grR (l : List Gr) : nwR (l.map grR) := by
  induction l with
  | nil => trivial
  | cons x xs ih => exact ⟨⟨trivial, trivial, trivial, trivial, trivial⟩, ih⟩
@[simp] theorem frzR_grR (r : Nat → Nat → PV) (l : List Gr) : frzR r (l.map grR) = l.map grR := by
  rw [frzR_map, List.map_map]; rfl
def worS (a b : Gr) : Bool := decide (b.gl < a.gl) || (decide (a.gl = b.gl) && (decide (b.wi < a.wi) || (decide (a.wi = b.wi) && decide (a.at' < b.at'))))
theorem worse_ok (a b : Gr) : APure Try.prog 27 [.agg (grR a), .agg (grR b)] (fun r => r = .pv (BL (worS a b))) := by
  refine apure1 hmo Try.func27 (by kernel_rfl) rfl rfl (by kernel_rfl) (Nat.le_of_ble_eq_true rfl) ?_
  unfold worS
  by_cases c1 : a.gl = b.gl
  · by_cases c2 : a.wi = b.wi
    · simp [grR, c1, c2]
    · simp [grR, c1, c2]
  · simp [grR, c1]
theorem refWorse_ok (a b : Gr) : APure Try.prog 28 [.agg (grR a), .agg (grR b)] (fun r => r = .pv (BL (worS a b))) := by
  refine apure1 hmo Try.func28 (by kernel_rfl) rfl rfl (by kernel_rfl) (Nat.le_of_ble_eq_true rfl) ?_
  unfold worS
  by_cases c0 : b.gl < a.gl
  · simp [grR, c0]
  by_cases c1 : a.gl = b.gl
  · by_cases c2 : b.wi < a.wi
    · simp [grR, c0, c1, c2]
    · by_cases c3 : a.wi = b.wi
      · simp [grR, c0, c1, c2, c3]
      · simp [grR, c0, c1, c2, c3]
  · simp [grR, c0, c1]
def stayS (x : Gr) : Bool := x.lo || decide (x.gl ≤ 2)
theorem stay_ok (x : Gr) : APure Try.prog 60 [.agg (grR x)] (fun r => r = .pv (BL (stayS x))) := by
  refine apure1 hmo Try.func60 (by kernel_rfl) rfl rfl (by kernel_rfl) (Nat.le_of_ble_eq_true rfl) ?_
  unfold stayS
  cases c : x.lo <;> simp [grR, c]
def cmpG (a b : Gr) : Int := if worS a b = true then -1 else if worS b a = true then 1 else 0
theorem cmpG_ok (a b : Gr) : APure Try.prog 64 [.agg (grR a), .agg (grR b)] (fun r => r = .pv (I64 (cmpG a b))) := by
  refine apure1 hmo Try.func64 (by kernel_rfl) rfl rfl (by kernel_rfl) (Nat.le_of_ble_eq_true rfl) ?_
  have h1 := worse_ok a b
  have h2 := worse_ok b a
  unfold cmpG
  simp [grR] at h1 h2 ⊢
  refine CallK.intro h1 (by simp) ?_
  cases c : worS a b
  · simp
    refine CallK.intro h2 (by simp) ?_
    cases c2 : worS b a <;> simp
  · simp
theorem cloneG_ok (l : List Gr) (hl : l.length ≤ 1000000) : APure Try.prog 62 [.seq false 4 (l.map grR)] (fun r => r = .own true 4 (l.map grR)) := by
  refine APure.own0 (R := fun r => r = .own true 4 (l.map grR) ∨ (l = [] ∧ r = .pv (.lit (.slice none 0 0)))) ?_ (fun r h => h.imp id fun ⟨e1, e2⟩ => ⟨e2, true, 4, by rw [e1]; rfl⟩)
  refine apure1 hmo Try.func62 (by kernel_rfl) rfl rfl (by kernel_rfl) (Nat.le_of_ble_eq_true rfl) ?_
  simp
  cases l with
  | nil => simp
  | cons x l => simp at hl ⊢; omega
theorem indexG_ok (l : List Gr) (hl : l.length ≤ 1000000) (g : Nat) (p : Gr → Bool)
    (h : ∀ x, APure Try.prog g [.agg (grR x)] (fun r => r = .pv (BL (p x)))) : APure Try.prog 94 [.seq false 4 (l.map grR), .fn (.func g) [] []] (fun r => r = .pv (I64 (idxS p l))) := by
  refine apure1 hmo Try.func94 (by kernel_rfl) rfl rfl (by kernel_rfl) (Nat.le_of_ble_eq_true rfl) ?_
  simp
  refine ALoop.intro (S := fun (i : Nat) => ⟨[(0, .pv (.seq false 4 (l.map grR))), (1, .pv (.fn (.func g) [] [])), (7, .pv (I64 l.length)), (8, .pv (I64 i))], []⟩) (fun i => i ≤ l.length ∧ ∀ j (hj : j < l.length), j < i → p l[j] = false) (fun i => l.length - i) 0 ?_ ⟨Nat.zero_le _, fun j _ h => by omega⟩ ?_
  · exact Weak.to (by simp) rfl (by simp) (by simp) (by simp)
  · intro i ⟨hi, ho⟩
    by_cases c : i < l.length
    · have hw : w64 ((i : Int) + 1) = ((i + 1 : Nat) : Int) := by rw [w64_id (by omega) (by omega)]; omega
      have hx := h l[i]
      simp [c, grR] at hx ⊢
      refine CallK.intro hx (by simp) ?_
      cases hpx : p l[i]
      · simp
        refine ⟨i + 1, by dsimp only; omega, ⟨by omega, fun j hj hji => ?_⟩, Weak.to (by simp [hw, grR]) rfl (by simp) (by simp) (by simp)⟩
        by_cases e : j = i
        · subst e; exact hpx
        · exact ho j hj (by omega)
      · simp
        rw [idxS_at c ho hpx]
    · simp [c]
      rw [idxS_none (fun j hj => ho j hj (by omega))]
end Go.AX

namespace Go.AX
open Go.Proofs Go.Sort

/-- A row that may be forgotten: it is not locked. -/
structure G3 where
  at' : Int
  gl : Int
  wi : Int
deriving DecidableEq, Inhabited
def g3 (x : G3) : Gr := ⟨x.at', x.gl, x.wi, false⟩
def of3 (x : Gr) : G3 := ⟨x.at', x.gl, x.wi⟩
def lt3 (a b : G3) : Prop := b.gl < a.gl ∨ a.gl = b.gl ∧ (b.wi < a.wi ∨ a.wi = b.wi ∧ a.at' < b.at')
instance (a b : G3) : Decidable (lt3 a b) := by unfold lt3; infer_instance
theorem dec5 {p q r s t : Prop} [Decidable p] [Decidable q] [Decidable r] [Decidable s] [Decidable t] [Decidable (p ∨ q ∧ (r ∨ s ∧ t))] : (decide p || (decide q && (decide r || (decide s && decide t)))) = decide (p ∨ q ∧ (r ∨ s ∧ t)) := by
  by_cases h1 : p <;> by_cases h2 : q <;> by_cases h3 : r <;> by_cases h4 : s <;> by_cases h5 : t <;> simp [h1, h2, h3, h4, h5]
theorem worS_lt (a b : G3) : worS (g3 a) (g3 b) = decide (lt3 a b) := dec5
def cmp3 (a b : G3) : Int := cmpG (g3 a) (g3 b)
theorem cmp3_lt (a b : G3) : cmp3 a b < 0 ↔ lt3 a b := by
  unfold cmp3 cmpG
  rw [worS_lt, worS_lt]
  by_cases h : lt3 a b
  · simp [h]
  · by_cases h2 : lt3 b a <;> simp [h, h2]
theorem cmp3_ltOf (a b : G3) : ltOf cmp3 a b = decide (lt3 a b) := by
  unfold ltOf
  exact decide_eq_decide.2 (cmp3_lt a b)
theorem cmp3_swo : SWO (ltOf cmp3) := by
  refine ⟨fun a => ?_, fun a b c => ?_, fun a b c => ?_⟩ <;> simp only [cmp3_ltOf, decide_eq_true_eq, decide_eq_false_iff_not] <;> simp only [lt3]
  · omega
  · intro h1 h2; omega
  · intro h1 h2; omega
theorem lt3_tot {x y : G3} (h1 : ¬ lt3 x y) (h2 : ¬ lt3 y x) : x = y := by
  obtain ⟨a, b, c⟩ := x
  obtain ⟨a', b', c'⟩ := y
  simp only [lt3] at h1 h2
  simp only [G3.mk.injEq]
  omega
theorem cmp3_tot : ∀ x y, (ltOf cmp3) x y = false → (ltOf cmp3) y x = false → x = y := by
  intro x y
  simp only [cmp3_ltOf, decide_eq_false_iff_not]
  exact lt3_tot
def sort3 (l : List G3) : List G3 := l.mergeSort fun x y => !(ltOf cmp3) y x
theorem sort3_perm (l : List G3) : (sort3 l).Perm l := List.mergeSort_perm _ _
theorem sort3_sorted (l : List G3) : (sort3 l).Pairwise (fun a b => ¬ lt3 b a) := by
  have := List.pairwise_mergeSort (le := fun x y : G3 => !(ltOf cmp3) y x) (fun a b c h1 h2 => by
    simp only [cmp3_ltOf, Bool.not_eq_true', decide_eq_false_iff_not] at *; simp only [lt3] at *; omega) (fun a b => by
    simp only [cmp3_ltOf, Bool.or_eq_true, Bool.not_eq_true', decide_eq_false_iff_not]; simp only [lt3]; omega) l
  exact this.imp fun h => by simpa [cmp3_ltOf] using h

/-- What of rows may be forgotten. -/
def mayG (l : List Gr) : List G3 := (l.filter fun x => !stayS x).map of3
theorem mayG_rows (l : List Gr) : (mayG l).map g3 = l.filter fun x => !stayS x := by
  unfold mayG
  rw [List.map_map]
  conv => rhs; rw [← List.map_id (l.filter fun x => !stayS x)]
  apply List.map_congr_left
  intro x hx
  have := (List.mem_filter.1 hx).2
  obtain ⟨a, b, c, d⟩ := x
  simp [stayS] at this
  simp [g3, of3, this.1]
theorem mayG_len (l : List Gr) : (mayG l).length ≤ l.length := by
  unfold mayG; rw [List.length_map]; exact List.length_filter_le _ _
def sortI (l : List Int) : List Int := l.mergeSort fun x y => decide (x ≤ y)
def forgS (l : List Gr) (keep : Int) : List Int := if (l.length : Int) ≤ keep then [] else sortI (((sort3 (mayG l)).take (l.length / 2)).map (·.at'))

/-- How often a row is among the first ones. -/
theorem count_sorted (x : G3) : ∀ {s : List G3}, s.Pairwise (fun a b => ¬ lt3 b a) → ∀ m, (s.take m).count x = min (s.count x) (m - s.countP (fun y => decide (lt3 y x)))
  | [], _, m => by simp
  | y :: t, hs, 0 => by simp
  | y :: t, hs, m + 1 => by
    have ih := count_sorted x hs.of_cons m
    have h0 : ∀ z ∈ t, ¬ lt3 z y := fun z hz => List.rel_of_pairwise_cons hs hz
    rw [List.take_succ_cons, List.count_cons, List.count_cons, List.countP_cons, ih]
    by_cases c : lt3 y x
    · have hne : ¬ y = x := fun e => by subst e; simp only [lt3] at c; omega
      simp [c, hne]
    · by_cases c2 : lt3 x y
      · have h1 : t.count x = 0 := List.count_eq_zero.2 fun hx => h0 x hx c2
        have hne : ¬ y = x := fun e => by subst e; simp only [lt3] at c2; omega
        simp [h1, hne]
      · have e : y = x := lt3_tot c c2
        subst e
        have h1 : t.countP (fun z => decide (lt3 z y)) = 0 := by
          rw [List.countP_eq_zero]
          intro z hz
          simpa using h0 z hz
        simp [c, h1]
/-- How many are worse than the i-th row, or as bad and ahead of it. -/
def badG (may : List G3) (i k : Nat) : Bool := decide (lt3 (may.getD k default) (may.getD i default)) || (decide (k < i) && !decide (lt3 (may.getD i default) (may.getD k default)))
def nTo (may : List G3) (i : Nat) : Nat → Nat
  | 0 => 0
  | k + 1 => nTo may i k + if badG may i k = true then 1 else 0
theorem nTo_is (may : List G3) (i : Nat) (hi : i < may.length) : ∀ k, k ≤ may.length → nTo may i k = (may.take k).countP (fun y => decide (lt3 y may[i])) + (may.take (min i k)).count may[i]
  | 0, _ => by simp [nTo]
  | k + 1, hk => by
    have ih := nTo_is may i hi k (by omega)
    have h1 : may.getD k default = may[k] := by rw [List.getD_eq_getElem?_getD, List.getElem?_eq_getElem (by omega)]; rfl
    have h2 : may.getD i default = may[i] := by rw [List.getD_eq_getElem?_getD, List.getElem?_eq_getElem (by omega)]; rfl
    rw [nTo, ih, badG, h1, h2, List.take_add_one, List.getElem?_eq_getElem (by omega : k < may.length), Option.toList_some, List.countP_append]
    simp only [List.countP_cons, List.countP_nil]
    by_cases c : k < i
    · rw [show min i (k + 1) = k + 1 by omega, show min i k = k by omega, List.take_add_one, List.getElem?_eq_getElem (by omega : k < may.length), Option.toList_some, List.count_append]
      simp only [List.count_cons, List.count_nil]
      by_cases d : lt3 may[k] may[i]
      · have hne : ¬ may[k] = may[i] := fun e => by rw [e] at d; simp only [lt3] at d; omega
        simp [d, hne]
        omega
      · by_cases d2 : lt3 may[i] may[k]
        · have hne : ¬ may[k] = may[i] := fun e => by rw [e] at d2; simp only [lt3] at d2; omega
          simp [d, d2, hne]
        · have e : may[k] = may[i] := lt3_tot d d2
          simp [e, c]
          have : ¬ lt3 may[i] may[i] := by simp only [lt3]; omega
          simp [this]
          omega
    · rw [show min i (k + 1) = i by omega, show min i k = i by omega]
      by_cases d : lt3 may[k] may[i] <;> simp [d, c]
      omega
theorem count_first (may : List G3) (x : G3) (m : Nat) : ∀ L, L ≤ may.length → (((List.range L).filter fun i => decide (nTo may i may.length < m)).map fun i => may.getD i default).count x = min ((may.take L).count x) (m - may.countP (fun y => decide (lt3 y x)))
  | 0, _ => by simp
  | L + 1, hL => by
    have ih := count_first may x m L (by omega)
    have h1 : may.getD L default = may[L] := by rw [List.getD_eq_getElem?_getD, List.getElem?_eq_getElem (by omega)]; rfl
    have h1' : may[L]?.getD default = may[L] := by rw [List.getElem?_eq_getElem (by omega)]; rfl
    have hn := nTo_is may L (by omega) may.length (Nat.le_refl _)
    rw [List.take_length, show min L may.length = L by omega] at hn
    rw [List.range_succ, List.filter_append, List.map_append, List.count_append, ih, List.take_add_one, List.getElem?_eq_getElem (by omega : L < may.length), Option.toList_some, List.count_append]
    by_cases c : may[L] = x
    · subst c
      by_cases d : nTo may L may.length < m
      · simp [d, h1']; omega
      · simp [d]; omega
    · by_cases d : nTo may L may.length < m
      · simp [d, h1', c]
      · simp [d, c]
theorem first_perm (may : List G3) (m : Nat) : (((List.range may.length).filter fun i => decide (nTo may i may.length < m)).map fun i => may.getD i default).Perm ((sort3 may).take m) := by
  rw [List.perm_iff_count]
  intro x
  rw [count_first may x m may.length (Nat.le_refl _), count_sorted x (sort3_sorted may), List.take_length, (sort3_perm may).count_eq, (sort3_perm may).countP_eq]
/-- A number is put behind all that are not above it. -/
def insI (x : Int) : List Int → List Int
  | [] => [x]
  | y :: l => if x < y then x :: y :: l else y :: insI x l
theorem insI_at {x : Int} : ∀ {l : List Int} {k : Nat}, k ≤ l.length → (∀ j (hj : j < l.length), j < k → l[j] ≤ x) → (∀ h : k < l.length, ¬ l[k] ≤ x) → insI x l = l.take k ++ x :: l.drop k
  | [], k, h, _, _ => by simp [insI]
  | y :: l, 0, _, _, h2 => by
    have := h2 (by simp)
    simp only [List.getElem_cons_zero] at this
    rw [insI, if_pos (by omega)]; rfl
  | y :: l, k + 1, h, h1, h2 => by
    have h0 := h1 0 (by simp) (by omega)
    simp only [List.getElem_cons_zero] at h0
    rw [insI, if_neg (by omega), insI_at (l := l) (k := k) (by simpa using h) (fun j hj hjk => by have := h1 (j + 1) (by simpa using hj) (by omega); simpa using this) (fun h => by have := h2 (by simpa using h); simpa using this)]
    rfl
theorem insI_perm (x : Int) : ∀ l, (insI x l).Perm (x :: l)
  | [] => List.Perm.refl _
  | y :: l => by
    rw [insI]
    split
    · exact List.Perm.refl _
    · exact ((insI_perm x l).cons y).trans (List.Perm.swap x y l)
theorem insI_sorted {x : Int} : ∀ {l : List Int}, l.Pairwise (· ≤ ·) → (insI x l).Pairwise (· ≤ ·)
  | [], _ => by simp [insI]
  | y :: l, h => by
    rw [insI]
    split
    · rename_i c
      refine List.pairwise_cons.2 ⟨fun z hz => ?_, h⟩
      rcases List.mem_cons.1 hz with rfl | hz
      · omega
      · have := List.rel_of_pairwise_cons h hz; omega
    · rename_i c
      refine List.pairwise_cons.2 ⟨fun z hz => ?_, insI_sorted h.of_cons⟩
      rcases List.mem_cons.1 ((insI_perm x l).mem_iff.1 hz) with rfl | hz
      · omega
      · exact List.rel_of_pairwise_cons h hz
def outTo (may : List G3) (m : Nat) : Nat → List Int
  | 0 => []
  | i + 1 => if nTo may i may.length < m then insI (may.getD i default).at' (outTo may m i) else outTo may m i
theorem outTo_is (may : List G3) (m : Nat) : ∀ L, (outTo may m L).Pairwise (· ≤ ·) ∧ (outTo may m L).Perm ((((List.range L).filter fun i => decide (nTo may i may.length < m)).map fun i => may.getD i default).map (·.at'))
  | 0 => by simp [outTo]
  | L + 1 => by
    obtain ⟨h1, h2⟩ := outTo_is may m L
    rw [outTo, List.range_succ, List.filter_append, List.map_append, List.map_append]
    by_cases c : nTo may L may.length < m
    · rw [if_pos c]
      refine ⟨insI_sorted h1, (insI_perm _ _).trans ?_⟩
      simp [c]
      exact (h2.cons _).trans (by simpa using (List.perm_append_comm (l₁ := [(may.getD L default).at'])))
    · rw [if_neg c]
      refine ⟨h1, ?_⟩
      simp [c]
      simpa using h2
def refForg (l : List Gr) (keep : Int) : List Int := if (l.length : Int) ≤ keep then [] else outTo (mayG l) (l.length / 2) (mayG l).length
theorem sortI_sorted (l : List Int) : (sortI l).Pairwise (· ≤ ·) := by
  have := List.pairwise_mergeSort (le := fun x y : Int => decide (x ≤ y)) (fun a b c h1 h2 => by simp only [decide_eq_true_eq] at *; omega) (fun a b => by simp only [Bool.or_eq_true, decide_eq_true_eq]; omega) l
  exact this.imp fun h => by simpa using h
theorem refForg_is (l : List Gr) (keep : Int) : forgS l keep = refForg l keep := by
  unfold forgS refForg
  split
  · rfl
  obtain ⟨h1, h2⟩ := outTo_is (mayG l) (l.length / 2) (mayG l).length
  refine List.Perm.eq_of_pairwise (fun x y _ _ a b => Int.le_antisymm a b) (sortI_sorted _) h1 ((List.mergeSort_perm _ _).trans ?_)
  exact (((first_perm (mayG l) (l.length / 2)).map (·.at')).symm).trans h2.symm
end Go.AX
