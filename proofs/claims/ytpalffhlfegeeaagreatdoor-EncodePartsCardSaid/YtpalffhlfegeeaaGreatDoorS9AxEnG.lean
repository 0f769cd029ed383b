/-
  The clauses of a history may be (plain law).
-/
import Derived.Test.YtpalffhlfegeeaaGreatDoorS9AxDfE
import Derived.Test.YtpalffhlfegeeaaGreatDoorS9AxDeQ
import Derived.Test.YtpalffhlfegeeaaGreatDoorS9AxMovO
import Derived.Test.YtpalffhlfegeeaaGreatDoorS9AxClG
import Derived.Test.YtpalffhlfegeeaaGreatDoorS9AxCntO
namespace Go.AX
open Go.Proofs

theorem pairs_aheadE {ops : List Op5} {p : Int × Int} (h : p ∈ pairsTo ops ops.length) : ∃ a b : Nat, ∃ ha : a < ops.length, ∃ hb : b < ops.length, p = ((a : Int), (b : Int)) ∧ aheadS ops[a] ops[b] = true := by
  simp only [pairsTo, pairsRow, List.mem_flatMap, List.mem_map, List.mem_filter, List.mem_range] at h
  obtain ⟨a, ha, b, ⟨hb, hah⟩, rfl⟩ := h
  exact ⟨a, b, ha, hb, rfl, by simpa [ha, hb] using hah⟩
/-- A literal of a name. -/
def LitN (N m l : Int) (x : Int × Int × Int) : Prop := varOk N m x.1 x.2.1 x.2.2 = true ∧ (l = varS N m x.1 x.2.1 x.2.2 ∨ l = w64 (-varS N m x.1 x.2.1 x.2.2))
theorem LitN.abs {N m l : Int} {x : Int × Int × Int} (h : LitN N m l x) : l.natAbs = markAt N m x.1 x.2.1 x.2.2 + 1 ∧ (l.natAbs : Int) ≤ varsN N m := by
  obtain ⟨h1, h2⟩ := h
  obtain ⟨m1, m2⟩ := mark_in h1
  have hs := (varOk_iff.1 h1).1
  have hv := varsN_eq hs
  have hss := sizeOk_iff.1 hs
  have hw : w64 (-varS N m x.1 x.2.1 x.2.2) = -varS N m x.1 x.2.1 x.2.2 := w64_id (by omega) (by omega)
  rw [hw] at h2
  rcases h2 with rfl | rfl <;> omega
theorem LitN.ne {N m l l' : Int} {x x' : Int × Int × Int} (h : LitN N m l x) (h' : LitN N m l' x') (hx : x ≠ x') : l.natAbs ≠ l'.natAbs := fun e => by
  have e1 := h.abs.1
  have e2 := h'.abs.1
  obtain ⟨a, b, c⟩ := mark_inj h.1 h'.1 (by omega)
  exact hx (Prod.ext a (Prod.ext b c))
structure GoodC (N m : Int) (c : List Int) : Prop where
  lits : ∀ l ∈ c, ∃ x, LitN N m l x
  nd : c.Pairwise fun a b => a.natAbs ≠ b.natAbs
theorem good_nil (N m : Int) : GoodC N m [] := ⟨fun _ h => (by cases h), .nil⟩
theorem good_cons {N m l : Int} {c : List Int} {x : Int × Int × Int} (h : LitN N m l x) (hc : GoodC N m c) (hne : ∀ l' ∈ c, ∃ x', LitN N m l' x' ∧ x ≠ x') : GoodC N m (l :: c) := by
  refine ⟨fun y hy => ?_, List.pairwise_cons.2 ⟨fun y hy => ?_, hc.nd⟩⟩
  · rcases List.mem_cons.1 hy with rfl | hy
    · exact ⟨x, h⟩
    · exact hc.lits y hy
  · obtain ⟨x', h', hx⟩ := hne y hy
    exact h.ne h' hx
theorem good_one {N m l : Int} {x : Int × Int × Int} (h : LitN N m l x) : GoodC N m [l] := good_cons h (good_nil N m) fun _ hh => by cases hh
theorem good_two {N m l l' : Int} {x x' : Int × Int × Int} (h : LitN N m l x) (h' : LitN N m l' x') (hx : x ≠ x') : GoodC N m [l, l'] := good_cons h (good_one h') fun y hy => by
  cases List.mem_singleton.1 hy
  exact ⟨x', h', hx⟩
theorem good_three {N m a b c : Int} {x y z : Int × Int × Int} (ha : LitN N m a x) (hb : LitN N m b y) (hc : LitN N m c z) (h1 : x ≠ y) (h2 : x ≠ z) (h3 : y ≠ z) : GoodC N m [a, b, c] := good_cons ha (good_two hb hc h3) fun w hw => by
  rcases List.mem_cons.1 hw with rfl | hw
  · exact ⟨y, hb, h1⟩
  · cases List.mem_singleton.1 hw
    exact ⟨z, hc, h2⟩
theorem good_four {N m a b c d : Int} {x y z w : Int × Int × Int} (ha : LitN N m a x) (hb : LitN N m b y) (hc : LitN N m c z) (hd : LitN N m d w) (h1 : x ≠ y) (h2 : x ≠ z) (h3 : y ≠ z) (h4 : x ≠ w) (h5 : y ≠ w) (h6 : z ≠ w) : GoodC N m [a, b, c, d] := good_cons ha (good_three hb hc hd h3 h5 h6) fun v hv => by
  rcases List.mem_cons.1 hv with rfl | hv
  · exact ⟨y, hb, h1⟩
  rcases List.mem_cons.1 hv with rfl | hv
  · exact ⟨z, hc, h2⟩
  · cases List.mem_singleton.1 hv
    exact ⟨w, hd, h4⟩
theorem good_row {N m : Int} {K : Nat} {g : Nat → Int × Int × Int} (h : ∀ i, i < K → varOk N m (g i).1 (g i).2.1 (g i).2.2 = true) (hi : ∀ i j, i < j → j < K → g i ≠ g j) : GoodC N m ((List.range K).map fun i => varS N m (g i).1 (g i).2.1 (g i).2.2) ∧ ∀ c ∈ mostS ((List.range K).map fun i => varS N m (g i).1 (g i).2.1 (g i).2.2), GoodC N m c := by
  refine ⟨⟨fun l hl => ?_, List.pairwise_map.2 (List.Pairwise.imp_of_mem (fun {a b} ha hb hab => ?_) List.pairwise_lt_range)⟩, fun c hc => ?_⟩
  · obtain ⟨i, hi', rfl⟩ := List.mem_map.1 hl
    exact ⟨g i, h i (List.mem_range.1 hi'), .inl rfl⟩
  · exact LitN.ne (x := g a) (x' := g b) ⟨h a (List.mem_range.1 ha), .inl rfl⟩ ⟨h b (List.mem_range.1 hb), .inl rfl⟩ (hi a b hab (List.mem_range.1 hb))
  · obtain ⟨i, j, hi', hj, hij, rfl⟩ := mem_mostS.1 hc
    have hj' : j < K := by simpa using hj
    have hi'' : i < K := by simpa using hi'
    simp only [List.getElem_map, List.getElem_range]
    exact good_two (x := g i) (x' := g j) ⟨h i hi'', .inr rfl⟩ ⟨h j hj', .inr rfl⟩ (hi i j hij hj')
theorem GoodC.dup {N m : Int} {c : List Int} (h : GoodC N m c) : ∀ i, i ≤ c.length → dupTo c i = 0
  | 0, _ => rfl
  | i + 1, hi => by
    rw [dupTo, h.dup i (by omega), if_neg]
    intro hm
    obtain ⟨j, hj, e⟩ := List.mem_take_iff_getElem.1 hm
    have hlt : i < c.length := hi
    rw [List.getD_eq_getElem?_getD, List.getElem?_eq_getElem hlt] at e
    have e : c[j] = c[i] := e
    exact List.pairwise_iff_getElem.1 h.nd j i (by omega) hlt (by omega) (by rw [e])
theorem GoodC.taut {N m : Int} {c : List Int} (h : GoodC N m c) : tautS c = false := by
  unfold tautS
  rw [List.any_eq_false]
  intro x hx hh
  simp only [hasS, Bool.and_eq_true, decide_eq_true_eq] at hh
  obtain ⟨i, hi, e1⟩ := List.getElem_of_mem hx
  obtain ⟨j, hj, e2⟩ := List.getElem_of_mem hh.2.2
  have hab : c[i].natAbs = c[j].natAbs := by rw [e1, e2]; omega
  rcases Nat.lt_trichotomy i j with e | e | e
  · exact List.pairwise_iff_getElem.1 h.nd i j hi hj e hab
  · subst e
    obtain ⟨y, hy⟩ := h.lits x hx
    have := hy.abs.1
    omega
  · exact List.pairwise_iff_getElem.1 h.nd j i hj hi e hab.symm
theorem GoodC.chk {N m : Int} {c : List Int} (h : GoodC N m c) (hl : c.length ≤ 1000) (hv : varsN N m ≤ 100000) (h0 : 0 ≤ varsN N m) : chkC c (varsN N m) = 0 := by
  have hall : (c.all fun x => inS x (varsN N m)) = true := List.all_eq_true.2 fun x hx => by
    obtain ⟨y, hy⟩ := h.lits x hx
    obtain ⟨e1, e2⟩ := hy.abs
    unfold inS
    simp only [Bool.and_eq_true, decide_eq_true_eq]
    omega
  unfold chkC
  rw [if_neg (by omega), if_neg (by omega), if_neg (by rw [hall]; simp), if_pos (h.dup _ (Nat.le_refl _))]
theorem enc_good {o : Obj} {ops : List Op5} (hr : objR o) (hf : failE o ops = 0) : ∀ c ∈ encC o ops, GoodC ops.length o.st c := by
  obtain ⟨g1, g2, g3, hP, _, hc⟩ := failE_zero hr hf
  obtain ⟨q1, q2, q3, q4⟩ := obj_good hr g1
  obtain ⟨_, hok⟩ := chk_zero g2
  have en : ((ops.length : Int)).toNat = ops.length := by omega
  have v1 : ∀ a k : Int, 0 ≤ a → a < ops.length → 0 ≤ k → k < ops.length → varOk ops.length o.st 1 a k = true := fun a k h1 h2 h3 h4 => varOk_iff.2 ⟨hc, by decide, by decide, h1, by simp [blockTall]; omega, h3, by simp [blockWide]; omega⟩
  have v2 : ∀ a : Int, 0 ≤ a → a < ops.length → varOk ops.length o.st 2 a 0 = true := fun a h1 h2 => varOk_iff.2 ⟨hc, by decide, by decide, h1, by simp [blockTall]; omega, by omega, by simp [blockWide]⟩
  have v3 : ∀ a b : Int, 0 ≤ a → a ≤ ops.length → 0 ≤ b → b < o.st → varOk ops.length o.st 3 a b = true := fun a b h1 h2 h3 h4 => varOk_iff.2 ⟨hc, by decide, by decide, h1, by simp [blockTall]; omega, h3, by simp [blockWide]; omega⟩
  have rA : ∀ a : Nat, a < ops.length → GoodC ops.length o.st (rowA ops.length o.st ops.length a) ∧ ∀ c ∈ mostS (rowA ops.length o.st ops.length a), GoodC ops.length o.st c := fun a ha => good_row (g := fun i => (1, (a : Int), (i : Int))) (fun i hi => v1 (a : Int) (i : Int) (by omega) (by omega) (by omega) (by omega)) (fun i j hij _ e => by simp only [Prod.mk.injEq] at e; omega)
  have rB : ∀ k : Nat, k < ops.length → ∀ c ∈ mostS (rowB ops.length o.st ops.length k), GoodC ops.length o.st c := fun k hk => (good_row (g := fun i => (1, (i : Int), (k : Int))) (fun i hi => v1 (i : Int) (k : Int) (by omega) (by omega) (by omega) (by omega)) (fun i j hij _ e => by simp only [Prod.mk.injEq] at e; omega)).2
  have rS : ∀ a : Nat, a ≤ ops.length → GoodC ops.length o.st (rowS ops.length o.st o.st.toNat a) ∧ ∀ c ∈ mostS (rowS ops.length o.st o.st.toNat a), GoodC ops.length o.st c := fun a ha => good_row (g := fun i => (3, (a : Int), (i : Int))) (fun i hi => v3 (a : Int) (i : Int) (by omega) (by omega) (by omega) (by omega)) (fun i j hij _ e => by simp only [Prod.mk.injEq] at e; omega)
  intro c hm
  unfold encC at hm
  rcases List.mem_append.1 hm with hm | hm
  · unfold placesC at hm
    rw [if_pos hc, en] at hm
    rcases List.mem_append.1 hm with hm | hm
    · obtain ⟨a, ha, hm⟩ := List.mem_flatMap.1 hm
      have ha := List.mem_range.1 ha
      rcases List.mem_cons.1 hm with rfl | hm
      · exact (rA a ha).1
      · exact (rA a ha).2 _ hm
    · obtain ⟨a, ha, hm⟩ := List.mem_flatMap.1 hm
      exact rB a (List.mem_range.1 ha) _ hm
  rcases List.mem_append.1 hm with hm | hm
  · unfold timesC timesTo at hm
    rw [if_pos hc, en] at hm
    obtain ⟨p, hp, hm⟩ := List.mem_flatMap.1 hm
    obtain ⟨x, y, hx, hy, rfl, _⟩ := pairs_aheadE (List.mem_of_mem_take hp)
    split at hm
    · obtain ⟨a, ha, hm⟩ := List.mem_flatMap.1 hm
      obtain ⟨b, hb, rfl⟩ := List.mem_map.1 hm
      have ha := List.mem_range.1 ha
      have hb := List.mem_range.1 hb
      exact good_two (x := (1, (x : Int), (a : Int))) (x' := (1, (y : Int), (b : Int))) ⟨v1 (x : Int) (a : Int) (by omega) (by omega) (by omega) (by omega), .inr rfl⟩ ⟨v1 (y : Int) (b : Int) (by omega) (by omega) (by omega) (by omega), .inr rfl⟩ (fun e => by simp only [Prod.mk.injEq] at e; omega)
    · cases hm
  rcases List.mem_append.1 hm with hm | hm
  · unfold statesC at hm
    split at hm
    · rcases List.mem_cons.1 hm with rfl | hm
      · exact good_one (x := (3, 0, o.ini)) ⟨v3 0 o.ini (by omega) (by omega) q3 q4, .inl rfl⟩
      · obtain ⟨a, ha, hm⟩ := List.mem_flatMap.1 hm
        have ha := List.mem_range.1 ha
        rcases List.mem_cons.1 hm with rfl | hm
        · exact (rS a (by omega)).1
        · exact (rS a (by omega)).2 _ hm
    · cases hm
  · unfold movesC at hm
    rw [hP] at hm
    dsimp only at hm
    rw [if_pos hc, en] at hm
    obtain ⟨i, hi, hm⟩ := List.mem_flatMap.1 hm
    have hi := List.mem_range.1 hi
    have li : LitN ops.length o.st (varS ops.length o.st 2 i 0) (2, (i : Int), 0) := ⟨v2 (i : Int) (by omega) (by omega), .inl rfl⟩
    have lin : LitN ops.length o.st (w64 (-varS ops.length o.st 2 i 0)) (2, (i : Int), 0) := ⟨v2 (i : Int) (by omega) (by omega), .inr rfl⟩
    rcases List.mem_append.1 hm with hm | hm
    · unfold movH at hm
      split at hm
      · cases hm
      · rcases List.mem_cons.1 hm with rfl | hm
        · exact good_one li
        · cases hm
    · obtain ⟨k, hk, hm⟩ := List.mem_flatMap.1 hm
      obtain ⟨b, hb, hm⟩ := List.mem_flatMap.1 hm
      have hk := List.mem_range.1 hk
      have hb := List.mem_range.1 hb
      have lp : LitN ops.length o.st (w64 (-varS ops.length o.st 1 i k)) (1, (i : Int), (k : Int)) := ⟨v1 (i : Int) (k : Int) (by omega) (by omega) (by omega) (by omega), .inr rfl⟩
      have ls : LitN ops.length o.st (w64 (-varS ops.length o.st 3 k b)) (3, (k : Int), (b : Int)) := ⟨v3 (k : Int) (b : Int) (by omega) (by omega) (by omega) (by omega), .inr rfl⟩
      have ln : ∀ y : Int, 0 ≤ y → y < o.st → LitN ops.length o.st (varS ops.length o.st 3 ((k : Int) + 1) y) (3, (k : Int) + 1, y) := fun y h1 h2 => ⟨v3 ((k : Int) + 1) y (by omega) (by omega) h1 h2, .inl rfl⟩
      unfold movB at hm
      rcases List.mem_cons.1 hm with rfl | hm
      · cases hmy : mayS o (ops.getD i default) b with
        | none => exact good_three lp lin ls (fun e => by simp only [Prod.mk.injEq] at e; omega) (fun e => by simp only [Prod.mk.injEq] at e; omega) (fun e => by simp only [Prod.mk.injEq] at e; omega)
        | some y =>
          obtain ⟨y1, y2⟩ := mayS_in g1 hmy
          exact good_four lp lin ls (ln y y1 y2) (fun e => by simp only [Prod.mk.injEq] at e; omega) (fun e => by simp only [Prod.mk.injEq] at e; omega) (fun e => by simp only [Prod.mk.injEq] at e; omega) (fun e => by simp only [Prod.mk.injEq] at e; omega) (fun e => by simp only [Prod.mk.injEq] at e; omega) (fun e => by simp only [Prod.mk.injEq] at e; omega)
      · split at hm
        · rcases List.mem_cons.1 hm with rfl | hm
          · exact good_four lp li ls (ln b (by omega) (by omega)) (fun e => by simp only [Prod.mk.injEq] at e; omega) (fun e => by simp only [Prod.mk.injEq] at e; omega) (fun e => by simp only [Prod.mk.injEq] at e; omega) (fun e => by simp only [Prod.mk.injEq] at e; omega) (fun e => by simp only [Prod.mk.injEq] at e; omega) (fun e => by simp only [Prod.mk.injEq] at e; omega)
          · cases hm
        · cases hm
theorem objOk_ofE {o : Obj} (h : (objChk o).2 = 0) : 0 ≤ o.ini ∧ o.ini < o.st := by
  unfold objChk at h
  split at h
  · rename_i hk; exact withinS_iff.1 (objOk_iff.1 hk).2.2
  · cases h
/-- There are as many as were counted. -/
theorem enc_all {o : Obj} {ops : List Op5} (hr : objR o) (hf : failE o ops = 0) : allN ops.length o.st ops = ((encC o ops).length : Int) ∧ ((encC o ops).length : Int) ≤ 500000 ∧ varsN ops.length o.st ≤ 900 := by
  obtain ⟨h1, h2, g3, hP, _, h⟩ := failE_zero hr hf
  have hs := sizeOk_iff.1 h
  have hok : allOk ops.length o.st ops = true := allOk_iff.2 ⟨h2, h, rfl⟩
  obtain ⟨_, ho⟩ := chk_zero h2
  obtain ⟨_, hp⟩ := allN_eq hok
  have hi := objOk_ofE h1
  obtain ⟨M, hM⟩ := Int.eq_ofNat_of_zero_le (show 0 ≤ o.st by omega)
  have hpl := pendTo_length ops ops.length
  have hw : w64 ((ops.length : Int) - ((pendTo ops ops.length).length : Nat)) = (ops.length : Int) - ((pendTo ops ops.length).length : Nat) := w64_id (by omega) (by omega)
  have l1 := placesC_len h
  have l2 := timesC_len h ho hp
  have l3 : ((statesC ops.length o.st o.ini).length : Int) = statesN ops.length o.st := by
    have hM' : o.st = (M : Int) := hM
    rw [hM'] at h hi ⊢
    exact statesC_len h hi
  have l4 := movesC_len hP h
  obtain ⟨b0, b1, b2, b3, b4⟩ := enc_len hr hf
  have hall : allN ops.length o.st ops = ((encC o ops).length : Int) := by
    rw [allN, if_pos hok, hw, ← l1, ← l2, ← l3, ← l4]
    unfold encC
    rw [List.length_append, List.length_append, List.length_append]
    rw [w64_id (by omega) (by omega)]
    omega
  have hff : fitsN ops.length o.st ops = 0 := by
    have := hf
    unfold failE at this
    rw [if_neg (by rintro (e | e); exact e h1; exact e h2), if_neg (by omega), hP] at this
    exact this
  obtain ⟨f1, f2, f3⟩ := fits_iff.1 hff
  exact ⟨hall, by rw [← hall]; exact f2, f3⟩
end Go.AX
