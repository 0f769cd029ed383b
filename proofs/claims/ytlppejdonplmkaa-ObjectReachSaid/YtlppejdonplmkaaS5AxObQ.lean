/-
  Plain law: rows put in order: one order, one result.
-/
import Derived.Test.YtlppejdonplmkaaS5AxObP
import Derived.Test.YtlppejdonplmkaaAxSK
namespace Go.AX
open Go.Proofs Go.Sort

/-- A row stands ahead of another one. -/
def ltP (a b : ORow) : Prop := a.s < b.s ∨ a.s = b.s ∧ (a.k < b.k ∨ a.k = b.k ∧ (a.n < b.n ∨ a.n = b.n ∧ a.r < b.r))
instance (a b : ORow) : Decidable (ltP a b) := by unfold ltP; infer_instance
def rowC (a b : ORow) : Int := if placeS a b ≠ 0 then placeS a b else if cmpS a.n b.n ≠ 0 then cmpS a.n b.n else cmpS a.r b.r
theorem rowC_lt (a b : ORow) : rowC a b < 0 ↔ ltP a b := by
  unfold rowC placeS cmpS ltP
  repeat' split
  all_goals omega
theorem rowC_ltOf (a b : ORow) : ltOf rowC a b = decide (ltP a b) := by
  unfold ltOf
  exact decide_eq_decide.2 (rowC_lt a b)
theorem rowC_swo : SWO (ltOf rowC) := by
  refine ⟨fun a => ?_, fun a b c => ?_, fun a b c => ?_⟩ <;> simp only [rowC_ltOf, decide_eq_true_eq, decide_eq_false_iff_not] <;> simp only [ltP]
  · omega
  · intro h1 h2; omega
  · intro h1 h2; omega
theorem rowC_tot : ∀ x y, (ltOf rowC) x y = false → (ltOf rowC) y x = false → x = y := by
  intro x y
  simp only [rowC_ltOf, decide_eq_false_iff_not]
  simp only [ltP]
  intro h1 h2
  obtain ⟨a, b, c, d⟩ := x
  obtain ⟨a', b', c', d'⟩ := y
  simp only [ORow.mk.injEq]
  dsimp only at h1 h2
  omega
def sortR (l : List ORow) : List ORow := l.mergeSort fun x y => !(ltOf rowC) y x
theorem sortR_perm (l : List ORow) : (sortR l).Perm l := List.mergeSort_perm _ _
theorem sortR_sorted (l : List ORow) : (sortR l).Pairwise (fun a b => ¬ ltP b a) := by
  have := List.pairwise_mergeSort (le := fun x y : ORow => !(ltOf rowC) y x) (fun a b c h1 h2 => by
    simp only [rowC_ltOf, Bool.not_eq_true', decide_eq_false_iff_not] at *; simp only [ltP] at *; omega) (fun a b => by
    simp only [rowC_ltOf, Bool.or_eq_true, Bool.not_eq_true', decide_eq_false_iff_not]; simp only [ltP]; omega) l
  exact this.imp fun h => by simpa [rowC_ltOf] using h
theorem sortR_is {l m : List ORow} (hp : m.Perm l) (hs : m.Pairwise (fun a b => ¬ ltP b a)) : sortR l = m := by
  refine List.Perm.eq_of_pairwise (fun x y _ _ h1 h2 => ?_) (sortR_sorted l) hs ((sortR_perm l).trans hp.symm)
  exact rowC_tot x y (by rw [rowC_ltOf]; simpa using h2) (by rw [rowC_ltOf]; simpa using h1)
theorem sortR_len (l : List ORow) : (sortR l).length = l.length := (sortR_perm l).length_eq

/-- A row is put in its place. -/
def insR (x : ORow) : List ORow → List ORow
  | [] => [x]
  | y :: l => if ltP x y then x :: y :: l else y :: insR x l
theorem insR_at {x : ORow} : ∀ {l : List ORow} {k : Nat}, k ≤ l.length → (∀ j (hj : j < l.length), j < k → ¬ ltP x l[j]) → (∀ h : k < l.length, ltP x l[k]) → insR x l = l.take k ++ x :: l.drop k
  | [], k, h, _, _ => by simp [insR]
  | y :: l, 0, _, _, h2 => by
    have := h2 (by simp)
    simp only [List.getElem_cons_zero] at this
    rw [insR, if_pos this]; rfl
  | y :: l, k + 1, h, h1, h2 => by
    have h0 := h1 0 (by simp) (by omega)
    simp only [List.getElem_cons_zero] at h0
    rw [insR, if_neg h0, insR_at (l := l) (k := k) (by simpa using h) (fun j hj hjk => by have := h1 (j + 1) (by simpa using hj) (by omega); simpa using this) (fun h => by have := h2 (by simpa using h); simpa using this)]
    rfl
theorem insR_perm (x : ORow) : ∀ l : List ORow, (insR x l).Perm (x :: l)
  | [] => List.Perm.refl _
  | y :: l => by
    rw [insR]
    split
    · exact List.Perm.refl _
    · exact ((insR_perm x l).cons y).trans (List.Perm.swap x y l)
theorem insR_sorted {x : ORow} : ∀ {l : List ORow}, l.Pairwise (fun a b => ¬ ltP b a) → (insR x l).Pairwise (fun a b => ¬ ltP b a)
  | [], _ => by simp [insR]
  | y :: l, h => by
    rw [List.pairwise_cons] at h
    rw [insR]
    split
    · rename_i hx
      rw [List.pairwise_cons, List.pairwise_cons]
      refine ⟨fun z hz => ?_, h⟩
      simp only [List.mem_cons] at hz
      rcases hz with rfl | hz
      · unfold ltP at *; omega
      · have := h.1 z hz; unfold ltP at *; omega
    · rename_i hx
      rw [List.pairwise_cons]
      refine ⟨fun z hz => ?_, insR_sorted h.2⟩
      have := (insR_perm x l).mem_iff.1 hz
      simp only [List.mem_cons] at this
      rcases this with rfl | hz
      · exact hx
      · exact h.1 z hz
def putAll (l : List ORow) (i : Nat) : List ORow := (l.take i).foldl (fun out x => insR x out) []
theorem putAll_succ {l : List ORow} {i : Nat} (h : i < l.length) : putAll l (i + 1) = insR l[i] (putAll l i) := by
  unfold putAll
  rw [← List.take_append_getElem h, List.foldl_append]; rfl
theorem foldl_ins : ∀ (l out : List ORow), out.Pairwise (fun a b => ¬ ltP b a) → ((l.foldl (fun out x => insR x out) out).Perm (l ++ out) ∧ (l.foldl (fun out x => insR x out) out).Pairwise (fun a b => ¬ ltP b a))
  | [], out, h => ⟨List.Perm.refl _, h⟩
  | x :: l, out, h => by
    obtain ⟨h1, h2⟩ := foldl_ins l (insR x out) (insR_sorted h)
    refine ⟨h1.trans ?_, h2⟩
    exact ((insR_perm x out).append_left l).trans (List.perm_middle)
theorem putAll_perm (l : List ORow) (i : Nat) : (putAll l i).Perm (l.take i) := by
  have := (foldl_ins (l.take i) [] List.Pairwise.nil).1
  rwa [List.append_nil] at this
theorem putAll_all (l : List ORow) : putAll l l.length = sortR l := by
  have := foldl_ins l [] List.Pairwise.nil
  rw [List.append_nil] at this
  unfold putAll
  rw [List.take_length]
  exact (sortR_is this.1 this.2).symm
theorem putAll_len (l : List ORow) {i : Nat} (h : i ≤ l.length) : (putAll l i).length = i := by
  rw [(putAll_perm l i).length_eq, List.length_take]; omega

/-! ### The rows of an object that may be -/
theorem fine_step {o : Obj} (h : objFine o) {i : Nat} (hi : i + 1 < o.rows.length) : o.rows[i].s < o.rows[i + 1].s ∨ o.rows[i].s = o.rows[i + 1].s ∧ o.rows[i].k < o.rows[i + 1].k := by
  have he := h.2 (i + 1) hi
  rw [rowE_raw hi] at he
  have hg : o.rows.getD (i + 1 - 1) default = o.rows[i] := by
    rw [Nat.add_sub_cancel, List.getD_eq_getElem?_getD, List.getElem?_eq_getElem (by omega)]; rfl
  rw [hg] at he
  split at he
  · cases he
  · split at he
    · cases he
    · split at he
      · cases he
      · split at he
        · cases he
        · omega
theorem fine_lt {o : Obj} (h : objFine o) {i : Nat} : ∀ {j : Nat} (hij : i < j) (hj : j < o.rows.length), o.rows[i].s < o.rows[j].s ∨ o.rows[i].s = o.rows[j].s ∧ o.rows[i].k < o.rows[j].k
  | 0, hij, _ => absurd hij (by omega)
  | j + 1, hij, hj => by
    have h1 := fine_step h hj
    by_cases e : i = j
    · subst e; exact h1
    · have h2 := fine_lt h (i := i) (j := j) (by omega) (by omega)
      omega
theorem fine_sorted {o : Obj} (h : objFine o) : sortR o.rows = o.rows := by
  refine sortR_is (List.Perm.refl _) ?_
  rw [List.pairwise_iff_getElem]
  intro i j hi hj hij
  have := fine_lt h hij hj
  unfold ltP; omega
theorem fine_one {o : Obj} (h : objFine o) {s k : Int} {i j : Nat} (hi : i < o.rows.length) (hj : j < o.rows.length) (h1 : isRow s k o.rows[i] = true) (h2 : isRow s k o.rows[j] = true) : i = j := by
  simp only [isRow, Bool.and_eq_true, decide_eq_true_eq] at h1 h2
  rcases Nat.lt_trichotomy i j with c | c | c
  · have := fine_lt h c hj; omega
  · exact c
  · have := fine_lt h c hi; omega
theorem moveS_fine {o : Obj} (h : objFine o) {s k : Int} {i : Nat} (hi : i < o.rows.length) (h1 : isRow s k o.rows[i] = true) : moveS o s k = some (o.rows[i].n, o.rows[i].r) := by
  unfold moveS
  rw [find_at hi (fun j hj hji => ?_) h1]; · rfl
  cases hc : isRow s k o.rows[j] with
  | false => rfl
  | true => have := fine_one h hi hj h1 hc; omega
/-- How many rows there are of a state and kind. -/
def manyTo (o : Obj) (s k : Int) (i : Nat) : Nat := ((o.rows.take i).countP (isRow s k))
theorem manyTo_succ (o : Obj) (s k : Int) {i : Nat} (h : i < o.rows.length) : manyTo o s k (i + 1) = manyTo o s k i + if isRow s k o.rows[i] = true then 1 else 0 := by
  unfold manyTo
  rw [← List.take_append_getElem h, List.countP_append]
  congr 1
  rw [List.countP_cons]; simp
theorem manyTo_le (o : Obj) (s k : Int) (i : Nat) : manyTo o s k i ≤ i := by
  unfold manyTo
  exact Nat.le_trans List.countP_le_length (by rw [List.length_take]; omega)
theorem manyTo_pos (o : Obj) (s k : Int) : 0 < manyTo o s k o.rows.length ↔ (moveS o s k).isSome = true := by
  unfold manyTo moveS
  rw [List.take_length, List.countP_pos_iff, Option.isSome_map, List.find?_isSome]
theorem manyTo_fine {o : Obj} (h : objFine o) (s k : Int) : ∀ i, i ≤ o.rows.length → manyTo o s k i ≤ 1 ∧ (manyTo o s k i = 1 → ∃ j, ∃ hj : j < o.rows.length, j < i ∧ isRow s k o.rows[j] = true)
  | 0, _ => ⟨by simp [manyTo], fun e => by simp [manyTo] at e⟩
  | i + 1, hi => by
    obtain ⟨h1, h2⟩ := manyTo_fine h s k i (by omega)
    rw [manyTo_succ o s k (by omega)]
    split
    · rename_i hc
      have : manyTo o s k i = 0 := by
        rcases Nat.eq_zero_or_pos (manyTo o s k i) with e | e
        · exact e
        · obtain ⟨j, hj, hji, hp⟩ := h2 (by omega)
          have := fine_one h hj (by omega) hp hc
          omega
      exact ⟨by omega, fun _ => ⟨i, by omega, by omega, hc⟩⟩
    · exact ⟨by omega, fun e => by obtain ⟨j, hj, hji, hp⟩ := h2 (by omega); exact ⟨j, hj, by omega, hp⟩⟩
/-- How often a row is there, up to a place. -/
def timesR (l : List ORow) (x : ORow) (i : Nat) : Nat := (l.take i).count x
theorem timesR_succ (l : List ORow) (x : ORow) {i : Nat} (h : i < l.length) : timesR l x (i + 1) = timesR l x i + if l[i] = x then 1 else 0 := by
  unfold timesR
  rw [← List.take_append_getElem h, List.count_append]
  congr 1
  rw [List.count_cons]; simp
theorem timesR_le (l : List ORow) (x : ORow) (i : Nat) : timesR l x i ≤ i := by
  unfold timesR
  exact Nat.le_trans List.count_le_length (by rw [List.length_take]; omega)
theorem timesR_same (l : List ORow) (x : ORow) : timesR (sortR l) x (sortR l).length = timesR l x l.length := by
  unfold timesR
  rw [List.take_length, List.take_length]
  exact (sortR_perm l).count_eq x
end Go.AX
