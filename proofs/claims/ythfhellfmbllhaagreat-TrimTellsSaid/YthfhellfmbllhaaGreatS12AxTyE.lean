/-
  Plain facts: the document's checker is the program's.
  Plain facts: what the document says is needed, is.
  Contracts: the document's answer for trim: Needed.
  Contracts: the document's answer for trim: Trim, Core, at.
  Contracts: the document's answer for trim: Renumber.
-/
import Derived.Test.YthfhellfmbllhaaGreatS12AxTxI
import Derived.Test.YthfhellfmbllhaaGreatS12AxTtB
namespace Go.AX
open Go.Proofs
set_option linter.unusedSimpArgs false
theorem lk_noR {α : Type} : ∀ {m : List (Int × α)} {k : Int}, (∀ q ∈ m, q.1 ≠ k) → lk m k = none
  | [], _, _ => rfl
  | (j, y) :: m, k, h => by
    rw [AX.lk, if_neg (h _ List.mem_cons_self)]
    exact lk_noR fun q hq => h q (List.mem_cons_of_mem _ hq)
theorem lk_dlR {α : Type} : ∀ {m : List (Int × α)}, Rise m → ∀ (k x : Int), lk (dl m k) x = if x = k then none else lk m x
  | [], _, k, x => by
    rw [dl, AX.lk]
    split <;> rfl
  | (j, y) :: m, h, k, x => by
    obtain ⟨h1, h2⟩ := List.pairwise_cons.1 h
    rw [dl]
    by_cases c : j = k
    · rw [if_pos c]
      subst c
      by_cases e : x = j
      · subst e
        rw [if_pos rfl]
        exact lk_noR fun q hq => by have := h1 q hq; simp only at this; omega
      · rw [if_neg e, AX.lk, if_neg (fun e' => e e'.symm)]
    · rw [if_neg c, AX.lk, AX.lk, lk_dlR h2 k x]
      by_cases e : x = k
      · rw [if_pos e, if_pos e, if_neg (by omega)]
      · rw [if_neg e, if_neg e]
theorem fltD_dl : ∀ {m : List (Int × List Int)}, Rise m → ∀ k : Int, fltD m k = dl m k
  | [], _, _ => rfl
  | (j, y) :: m, h, k => by
    obtain ⟨h1, h2⟩ := List.pairwise_cons.1 h
    have ih := fltD_dl h2 k
    unfold fltD at ih ⊢
    rw [List.filter_cons, dl]
    by_cases c : j = k
    · rw [if_neg (by simp [c]), if_pos c]
      exact List.filter_eq_self.2 fun q hq => by have := h1 q hq; simp only at this; simp; omega
    · rw [if_pos (by simp [c]), if_neg c, ih]
theorem drp_is : ∀ (ids : List Int) (m : List (Int × List Int)), Rise m → ((ids.Nodup ∧ ∀ x ∈ ids, (lk m x).isSome = true) → drpGo m ids = (ids.foldl dl m, 0)) ∧ (¬ (ids.Nodup ∧ ∀ x ∈ ids, (lk m x).isSome = true) → (drpGo m ids).2 = 20)
  | [], m, _ => ⟨fun _ => rfl, fun h => absurd ⟨List.nodup_nil, fun x hx => absurd hx List.not_mem_nil⟩ h⟩
  | id :: ids, m, hm => by
    rw [drpGo]
    cases e : (lk m id).isSome
    · rw [if_pos rfl]
      refine ⟨fun h => ?_, fun _ => rfl⟩
      have := h.2 id List.mem_cons_self
      rw [e] at this
      cases this
    · rw [if_neg (by simp), fltD_dl hm, List.foldl_cons]
      obtain ⟨h1, h2⟩ := drp_is ids (dl m id) (hm.sublist (dl_subl m id))
      have key : (ids.Nodup ∧ ∀ x ∈ ids, (lk (dl m id) x).isSome = true) ↔ ((id :: ids).Nodup ∧ ∀ x ∈ id :: ids, (lk m x).isSome = true) := by
        rw [List.nodup_cons]
        constructor
        · rintro ⟨a, b⟩
          refine ⟨⟨fun hin => ?_, a⟩, fun x hx => ?_⟩
          · have := b id hin
            rw [lk_dlR hm, if_pos rfl] at this
            cases this
          · rcases List.mem_cons.1 hx with rfl | hx
            · exact e
            · have := b x hx
              rw [lk_dlR hm] at this
              split at this
              · cases this
              · exact this
        · rintro ⟨⟨a, b⟩, d⟩
          refine ⟨b, fun x hx => ?_⟩
          rw [lk_dlR hm, if_neg (fun e' : x = id => a (e' ▸ hx))]
          exact d x (List.mem_cons_of_mem _ hx)
      exact ⟨fun h => h1 (key.2 h), fun h => h2 fun h' => h (key.1 h')⟩
theorem compI_isT {zs : List Int} (hs : zs.Pairwise (· ≤ ·)) : ∀ j, j ≤ zs.length → (compTo zs j).Pairwise (· < ·) ∧ ∀ x, x ∈ compTo zs j ↔ x ∈ zs.take j
  | 0, _ => ⟨by simp [compTo], fun x => by simp [compTo]⟩
  | j + 1, h => by
    obtain ⟨h1, h2⟩ := compI_isT hs j (by omega)
    have hg : zs.getD j 0 = zs[j] := by simp [show j < zs.length by omega]
    rw [compTo, hg, List.take_add_one, List.getElem?_eq_getElem (by omega), Option.toList_some]
    have hp := List.pairwise_iff_getElem.1 hs
    by_cases d : j = 0 ∨ zs[j] ≠ zs.getD (j - 1) 0
    · rw [if_pos d]
      refine ⟨List.pairwise_append.2 ⟨h1, by simp, fun y hy z hz => ?_⟩, fun x => by rw [List.mem_append, List.mem_append, h2]⟩
      rw [List.mem_singleton] at hz
      subst hz
      obtain ⟨k, hk, rfl⟩ := List.getElem_of_mem ((h2 y).1 hy)
      rw [List.length_take] at hk
      rw [List.getElem_take]
      rcases d with rfl | d
      · omega
      · have e2 : zs.getD (j - 1) 0 = zs[j - 1] := by simp [show j - 1 < zs.length by omega]
        rw [e2] at d
        have a1 : zs[k] ≤ zs[j - 1] := by
          by_cases e : k = j - 1
          · subst e; exact Int.le_refl _
          · exact hp k (j - 1) (by omega) (by omega) (by omega)
        have a2 : zs[j - 1] ≤ zs[j] := hp (j - 1) j (by omega) (by omega) (by omega)
        omega
    · rw [if_neg d]
      refine ⟨h1, fun x => ?_⟩
      rw [h2, List.mem_append, List.mem_singleton]
      refine ⟨.inl, fun hx => hx.elim id fun e => ?_⟩
      have hj : j ≠ 0 := fun e => d (.inl e)
      have e2 : zs.getD (j - 1) 0 = zs[j - 1] := by simp [show j - 1 < zs.length by omega]
      have e3 : zs[j] = zs[j - 1] := Classical.byContradiction fun hh => d (.inr (by rw [e2]; exact hh))
      rw [e, e3]
      exact List.mem_take_iff_getElem.2 ⟨j - 1, by omega, rfl⟩
theorem compTo_full {zs : List Int} : ∀ j, j ≤ zs.length → (compTo zs j).length = j → compTo zs j = zs.take j
  | 0, _, _ => by simp [compTo]
  | j + 1, h, hl => by
    have hg : zs.getD j 0 = zs[j] := by simp [show j < zs.length by omega]
    have := compTo_len zs j
    rw [compTo] at hl ⊢
    by_cases d : j = 0 ∨ zs.getD j 0 ≠ zs.getD (j - 1) 0
    · rw [if_pos d] at hl ⊢
      rw [List.length_append, List.length_singleton] at hl
      rw [compTo_full j (by omega) (by omega), hg, List.take_add_one, List.getElem?_eq_getElem (by omega)]
      rfl
    · rw [if_neg d] at hl
      omega
theorem compTo_strict {zs : List Int} (hs : zs.Pairwise (· < ·)) : ∀ j, j ≤ zs.length → (compTo zs j).length = j
  | 0, _ => rfl
  | j + 1, h => by
    have ih := compTo_strict hs j (by omega)
    have hg : zs.getD j 0 = zs[j] := by simp [show j < zs.length by omega]
    rw [compTo, if_pos, List.length_append, ih]
    · rfl
    · by_cases e : j = 0
      · exact .inl e
      · right
        have e2 : zs.getD (j - 1) 0 = zs[j - 1] := by simp [show j - 1 < zs.length by omega]
        have := List.pairwise_iff_getElem.1 hs (j - 1) j (by omega) (by omega) (by omega)
        rw [hg, e2]
        omega
theorem comp_nodup (ids : List Int) : ¬ (compS (sortZ ids)).length < ids.length ↔ ids.Nodup := by
  have hp : (sortZ ids).Perm ids := List.mergeSort_perm _ _
  have hl := hp.length_eq
  have hs := sortZ_pairwise ids
  constructor
  · intro h
    have h1 := compTo_len (sortZ ids) (sortZ ids).length
    unfold compS at h
    have h2 := compTo_full (zs := sortZ ids) _ (Nat.le_refl _) (by omega)
    have h3 := (compI_isT hs _ (Nat.le_refl _)).1
    rw [h2, List.take_length] at h3
    exact hp.nodup_iff.1 (h3.imp fun h => by omega)
  · intro h
    have hn := hp.nodup_iff.2 h
    have := compTo_strict ((List.pairwise_and_iff.2 ⟨hs, hn⟩).imp fun ⟨a, b⟩ => by omega) _ (Nat.le_refl (sortZ ids).length)
    unfold compS
    omega
theorem dropB_is {c : Ck} {ids : List Int} (hi : ∀ x ∈ ids, 1 ≤ x ∧ x ≤ 20000000) : dropB c ids = false ↔ (ids.Nodup ∧ ∀ x ∈ ids, (lk c.m x).isSome = true) := by
  unfold dropB thereS
  rw [Bool.or_eq_false_iff, decide_eq_false_iff_not, comp_nodup, Bool.not_eq_false', List.all_eq_true]
  refine and_congr_right fun _ => forall_congr' fun x => forall_congr' fun hx => ?_
  rw [absM_pos (hi x hx).1 (hi x hx).2]
theorem wthn_in {l : List Int} {lo : Int} (h : wthnS l lo = true) : ∀ x ∈ l, lo ≤ x ∧ x ≤ 10000000 := by
  unfold wthnS at h
  rw [Bool.and_eq_true, Bool.not_eq_true', List.any_eq_false] at h
  intro x hx
  have := h.2 x hx
  unfold outW at this
  simp at this
  omega
theorem ids_same {c : Ck} (hc : CkG c) : idsS c = dIds c :=
  sortZ_eq (List.Perm.refl _) (List.pairwise_map.2 (hc.rs.imp fun h => Int.le_of_lt h))
theorem nodup_one {l : List Nat} {b : Nat} (h : l.Nodup) (hm : ∀ x, x ∈ l ↔ x = b) : l = [b] := by
  match l, h, hm with
  | [], _, hm => exact absurd ((hm b).2 rfl) List.not_mem_nil
  | [x], _, hm => rw [(hm x).1 List.mem_cons_self]
  | x :: y :: l, h, hm =>
    have h1 := (hm x).1 List.mem_cons_self
    have h2 := (hm y).1 (List.mem_cons_of_mem _ List.mem_cons_self)
    subst h1
    subst h2
    exact absurd List.mem_cons_self (List.nodup_cons.1 h).1
theorem bs_at {l : List Int} (hs : l.Pairwise (· < ·)) {X : Int} {j : Nat} (hj : j < l.length) (e : l[j] = X) : bsI l X = j ∧ bsB l X = true := by
  have hp := List.pairwise_iff_getElem.1 hs
  have h1 : bsI l X = j := bsI_is (Nat.le_of_lt hj) (fun k hk h => by have := hp k j hk hj h; omega) (fun k hk h => by
    by_cases ek : k = j
    · subst ek; omega
    · have := hp j k hj hk (by omega); omega)
  refine ⟨h1, ?_⟩
  unfold bsB
  rw [h1, List.getElem?_eq_getElem hj, e]
  simp
theorem fil_bs {l : List Int} (hs : l.Pairwise (· < ·)) (X : Int) : ((List.range l.length).filter fun j : Nat => decide (l.getD j 0 = X)) = if bsB l X = true then [bsI l X] else [] := by
  have hg : ∀ j (h : j < l.length), l.getD j 0 = l[j] := fun j h => by simp [h]
  by_cases c : bsB l X = true
  · rw [if_pos c]
    apply nodup_one
    · exact List.nodup_range.filter _
    · intro x
      rw [List.mem_filter, List.mem_range, decide_eq_true_iff]
      constructor
      · rintro ⟨h1, h2⟩
        rw [hg x h1] at h2
        exact (bs_at hs h1 h2).1.symm
      · rintro rfl
        unfold bsB at c
        have := of_decide_eq_true c
        obtain ⟨h1, h2⟩ := List.getElem?_eq_some_iff.1 this
        exact ⟨h1, by rw [hg _ h1, h2]⟩
  · rw [if_neg c]
    rw [List.filter_eq_nil_iff]
    intro j hj h
    rw [List.mem_range] at hj
    rw [decide_eq_true_iff, hg j hj] at h
    exact c (bs_at hs hj h).2
theorem eacG_is {c : Ck} (hc : CkG c) (g : List Int) (m : List (Int × List (List Int))) : (eacG c g (dIds c).length).foldl (fun m e => pt m e.1 e.2) m = noteF c m g := by
  have hs : (dIds c).Pairwise (· < ·) := List.pairwise_map.2 hc.rs
  unfold eacG noteF
  rw [fil_bs hs, ids_same hc]
  split <;> rfl
theorem each_same {c : Ck} (hc : CkG c) (gs : List (List Int)) : ptA (eacD c gs) = eachS c gs := by
  unfold ptA eacD eacTo eachS
  rw [List.take_length]
  generalize ([] : List (Int × List (List Int))) = m
  induction gs generalizing m with
  | nil => rfl
  | cons g gs ih =>
    rw [List.map_cons, List.flatten_cons, List.foldl_append, eacG_is hc, ih, List.foldl_cons]
theorem shoD_same {c : Ck} (hc : CkG c) (lits hints : List Int) : shoD c lits hints = shoC c lits hints := by
  unfold shoD shoC
  rw [ids_same hc, each_same hc]
theorem there_same (c : Ck) {ids : List Int} (h : ∀ x ∈ ids, -10000000 ≤ x ∧ x ≤ 10000000) : thereD c ids = thereS c ids := by
  unfold thereD thereS
  apply Bool.eq_iff_iff.2
  rw [List.all_eq_true, List.all_eq_true]
  refine forall_congr' fun x => forall_congr' fun hx => ?_
  have := h x hx
  have e : sizD x = absM x := by
    unfold sizD absM
    rw [w64_id (by omega) (by omega)]
    split
    · rw [if_pos (by omega)]
    · rw [if_neg (by omega)]
  rw [e]
theorem mayP_hints {s : Stp} (h : mayP s = true) : (∀ x ∈ s.hints, -10000000 ≤ x ∧ x ≤ 10000000) ∧ (s.kind = 2 → ∀ x ∈ s.hints, 1 ≤ x ∧ x ≤ 10000000) := by
  unfold mayP at h
  by_cases k1 : s.kind = 1
  · rw [if_pos k1] at h
    simp only [Bool.and_eq_true, decide_eq_true_eq] at h
    exact ⟨wthn_in h.2.2.2, fun k => by omega⟩
  · rw [if_neg k1] at h
    by_cases k2 : s.kind = 2
    · rw [if_pos k2] at h
      simp only [Bool.and_eq_true, decide_eq_true_eq] at h
      have := wthn_in h.2.2.2
      exact ⟨fun x hx => by have := this x hx; omega, fun _ => this⟩
    · rw [if_neg k2] at h
      cases h
theorem step_same {c : Ck} (hc : CkG c) (s : Stp) : stepD c s = stepC c s := by
  unfold stepD stepC
  by_cases hm : mayP s = true
  rotate_left
  · have e : pchE [s] = 2 := by rw [pchE_one, if_neg hm]
    rw [if_pos (by simpa using hm), e, if_pos (by decide)]
  have e : pchE [s] = 0 := by rw [pchE_one, if_pos hm]
  have hz : ¬ ((0 : Int) ≠ 0) := by decide
  rw [if_neg (by rw [hm]; decide), e, if_neg hz]
  obtain ⟨h1, h2⟩ := mayP_hints hm
  by_cases k2 : s.kind = 2
  · rw [if_pos k2, if_pos k2]
    obtain ⟨d1, d2⟩ := drp_is s.hints c.m hc.rs
    have hb := dropB_is (c := c) (ids := s.hints) fun x hx => by have := h2 k2 x hx; omega
    unfold dropC dropE dropTo
    cases b : dropB c s.hints
    · rw [d1 (hb.1 b), if_neg hz, if_neg (by decide), if_neg (by decide), List.take_length]
    · have := d2 fun h => by rw [hb.2 h] at b; cases b
      rw [this, if_pos (by decide), if_pos rfl, if_pos rfl]
  · rw [if_neg k2, if_neg k2]
    unfold addC
    rw [there_same c h1, shoD_same hc]
    by_cases a1 : s.id ≤ c.last
    · rw [if_pos a1, if_pos a1]
    rw [if_neg a1, if_neg a1]
    have hid := mayP_id hm
    have hp : putC c s.id s.lits = ⟨c.m ++ [(s.id, s.lits)], s.id, c.done || decide (s.lits.length = 0)⟩ := by
      have := (hc.put (id := s.id) (l := s.lits) (by omega) (by omega)).1
      unfold putC at this ⊢
      simp only at this
      rw [this]
    rw [hp]
theorem chkG_same : ∀ (ss : List Stp) (c : Ck) (i : Nat), CkG c → chkDGo c ss i = chkGo c ss i
  | [], _, _, _ => rfl
  | s :: ss, c, i, hc => by
    rw [chkDGo, chkGo, step_same hc]
    by_cases h : (stepC c s).2 = 0
    · rw [if_neg (by simp [h]), if_neg (by simp [h])]
      exact chkG_same ss _ _ (stepC_good hc h).1
    · rw [if_pos h, if_pos h]
theorem chk_same (v : Int) {L : List (List Int)} (hL : L.length ≤ 100000) (ss : List Stp) : chkD v L ss = chkS v L ss := by
  unfold chkD chkS
  have hg : CkG (newC L) := (CkG.new L hL L.length (Nat.le_refl _)).1
  rw [chkG_same ss _ _ hg]
theorem pln_good : ∀ (ss : List Stp) (c : Ck) (i : Nat), CkG c → (chkGo c ss i).2 = 0 → plnDGo c ss = plnGo c ss
  | [], c, i, _, h => by
    rw [chkGo] at h
    rw [plnDGo, plnGo]
    split at h
    · rename_i e; exact e.symm
    · cases h
  | s :: ss, c, i, hc, h => by
    obtain ⟨h1, h2⟩ := chkGo_cons h
    rw [plnDGo, plnGo, step_same hc]
    by_cases e : s.kind = 1 ∧ shnB c s = false
    · rw [if_pos e, if_pos (.inl e)]
    · rw [if_neg e, if_neg (fun h => h.elim e fun h => h h1)]
      exact pln_good ss _ _ (stepC_good hc h1).1 h2
theorem pln_bad : ∀ (ss : List Stp) (c : Ck) (i : Nat), (chkGo c ss i).2 ≠ 0 → plnGo c ss = false
  | [], c, i, h => by
    rw [chkGo] at h
    rw [plnGo]
    split at h
    · exact absurd rfl h
    · rename_i e; simpa using e
  | s :: ss, c, i, h => by
    rw [chkGo] at h
    rw [plnGo]
    split at h
    · rename_i e; rw [if_pos (.inr e)]
    · split
      · rfl
      · exact pln_bad ss _ _ h
theorem pln_same (v : Int) {L : List (List Int)} (hL : L.length ≤ 100000) (ss : List Stp) : plnD v L ss = plnS v L ss := by
  have hg : CkG (newC L) := (CkG.new L hL L.length (Nat.le_refl _)).1
  unfold plnD plnS newDC
  rw [chk_same v hL]
  by_cases h0 : (cnfS v L).2 = 0
  rotate_left
  · have e : (chkS v L ss).2 ≠ 0 := by unfold chkS; rw [if_pos h0]; exact h0
    rw [if_pos e, if_pos h0]
  have h0' : ¬ (cnfS v L).2 ≠ 0 := by simp [h0]
  have e : chkS v L ss = chkGo (newC L) ss 0 := by unfold chkS; rw [if_neg h0']
  rw [e]
  by_cases h : (chkGo (newC L) ss 0).2 = 0
  · rw [if_neg (by simp [h]), if_neg h0', if_neg h0']
    exact pln_good ss _ _ hg h
  · rw [if_pos h, if_neg h0', pln_bad ss _ _ h]
end Go.AX

namespace Go.AX
open Go.Proofs
set_option linter.unusedSimpArgs false
/-! ### Numbers in their places -/
theorem ptK3_lt : ∀ (l : List Int) (n : Int), ∀ x ∈ l.take (ptK3 l n), x < n
  | [], n, x, h => by simp at h
  | y :: l, n, x, h => by
    rw [ptK3] at h
    split at h
    · rw [List.take_succ_cons] at h
      rcases List.mem_cons.1 h with rfl | h
      · assumption
      · exact ptK3_lt l n x h
    · simp at h
theorem ptK3_ge : ∀ {l : List Int} (n : Int), l.Pairwise (· < ·) → ∀ x ∈ l.drop (ptK3 l n), n ≤ x
  | [], n, _, x, h => by simp at h
  | y :: l, n, hs, x, h => by
    obtain ⟨h1, h2⟩ := List.pairwise_cons.1 hs
    rw [ptK3] at h
    split at h
    · rw [List.drop_succ_cons] at h
      exact ptK3_ge n h2 x h
    · rename_i hn
      rcases List.mem_cons.1 h with rfl | h
      · omega
      · have := h1 x h; omega
theorem ptL3_mem (l : List Int) (n x : Int) : x ∈ ptL3 l n ↔ (x = n ∨ x ∈ l) := by
  unfold ptL3
  split
  · rename_i h
    exact ⟨.inr, fun hx => hx.elim (fun e => e ▸ h) id⟩
  · rw [List.mem_append, List.mem_append, List.mem_singleton]
    have : x ∈ l ↔ (x ∈ l.take (ptK3 l n) ∨ x ∈ l.drop (ptK3 l n)) := by rw [← List.mem_append, List.take_append_drop]
    rw [this]
    constructor
    · rintro ((h | h) | h)
      · exact .inr (.inl h)
      · exact .inl h
      · exact .inr (.inr h)
    · rintro (h | h | h)
      · exact .inl (.inr h)
      · exact .inl (.inl h)
      · exact .inr h
theorem ptL3_srt {l : List Int} (n : Int) (h : l.Pairwise (· < ·)) : (ptL3 l n).Pairwise (· < ·) := by
  unfold ptL3
  split
  · exact h
  · rename_i hn
    have h1 := ptK3_lt l n
    have h2 := ptK3_ge n h
    rw [List.append_assoc, List.pairwise_append]
    refine ⟨h.sublist (List.take_sublist _ _), List.pairwise_cons.2 ⟨fun x hx => ?_, h.sublist (List.drop_sublist _ _)⟩, fun x hx y hy => ?_⟩
    · have := h2 x hx
      have : x ≠ n := fun e => hn (e ▸ List.mem_of_mem_drop hx)
      omega
    · have a := h1 x hx
      rcases List.mem_cons.1 hy with rfl | hy
      · exact a
      · have := h2 y hy; omega
theorem ptL3_in {l : List Int} {n : Int} (h : n ∈ l) : ptL3 l n = l := by unfold ptL3; rw [if_pos h]
theorem ptL3_new {l : List Int} {n : Int} (h : n ∉ l) : (ptL3 l n).length = l.length + 1 := by
  unfold ptL3
  have := ptK3_le l n
  rw [if_neg h]
  simp
  omega
theorem srt_eq {a b : List Int} (ha : a.Pairwise (· < ·)) (hb : b.Pairwise (· < ·)) (h : ∀ x, x ∈ a ↔ x ∈ b) : a = b :=
  List.Perm.eq_of_pairwise (le := (· < ·)) (fun x y _ _ h1 h2 => by omega) ha hb ((List.perm_ext_iff_of_nodup (ha.imp fun h => by omega) (hb.imp fun h => by omega)).2 h)
def Cls43 (ss : List Stp) (N : List Int) : Prop := ∀ s ∈ ss, s.kind = 1 → s.id ∈ N → ∀ x ∈ s.hints, x ∈ N
structure IsNeed (f : Int) (ss : List Stp) (N : List Int) : Prop where
  srt : N.Pairwise (· < ·)
  fst : f ∈ N
  cls : Cls43 ss N
  lst : ∀ out : List Int, f ∈ out → Cls43 ss out → ∀ x ∈ N, x ∈ out
theorem IsNeed.eq {f : Int} {ss : List Stp} {N out : List Int} (h : IsNeed f ss N) (h1 : out.Pairwise (· < ·)) (h2 : f ∈ out) (h3 : Cls43 ss out) (h4 : ∀ x ∈ out, x ∈ N) : out = N :=
  srt_eq h1 h.srt fun x => ⟨h4 x, h.lst out h2 h3 x⟩
theorem marR_pos {m : List (Int × Int)} {n : Nat} (h : cntB n m) (hk : ∀ x, mkq m x ↔ x ∈ kys m) : ∀ (ss : List Stp), n + hintN ss ≤ 1000000000 → ∀ x, mkq (marR m ss) x ↔ x ∈ kys (marR m ss)
  | [], _, x => hk x
  | s :: ss, hn, x => by
    have hn' : n + hintN ss ≤ 1000000000 := by rw [hintN] at hn; omega
    have ih := marR_pos h hk ss hn'
    rw [marR_cons h s ss hn, marR]
    unfold mrkS
    by_cases c : s.kind = 1 ∧ 0 < (lk (marR m ss) s.id).getD 0
    · rw [if_pos c, (incF_kys s.hints (marR m ss)).2.2, ih x]
      constructor
      · rintro (a | a)
        · exact .inl a.2.2
        · exact .inr a
      · rintro (a | a)
        · exact .inl ⟨c.1, c.2, a⟩
        · exact .inr a
    · rw [if_neg c, ih x]
      constructor
      · rintro (a | a)
        · exact absurd ⟨a.1, a.2.1⟩ c
        · exact a
      · exact .inr
theorem marR_least {m : List (Int × Int)} {n : Nat} (h : cntB n m) {out : List Int} (hm : ∀ x, mkq m x → x ∈ out) : ∀ (ss : List Stp), n + hintN ss ≤ 1000000000 → Cls43 ss out → ∀ x, mkq (marR m ss) x → x ∈ out
  | [], _, _, x, hx => hm x hx
  | s :: ss, hn, hc, x, hx => by
    have hn' : n + hintN ss ≤ 1000000000 := by rw [hintN] at hn; omega
    have ih := marR_least h hm ss hn' fun t ht => hc t (List.mem_cons_of_mem _ ht)
    rcases (marR_cons h s ss hn x).1 hx with a | a
    · exact hc s List.mem_cons_self a.1 (ih _ a.2.1) x a.2.2
    · exact ih x a
theorem mkq_oneI (k x : Int) : mkq [(k, 1)] x ↔ x ∈ kys [(k, (1 : Int))] := by
  unfold mkq
  rw [lk, lk]
  by_cases e : k = x
  · rw [if_pos e]; simp [e]
  · rw [if_neg e]; simp; omega
theorem chkS_go {v : Int} {L : List (List Int)} {ss : List Stp} (h : (chkS v L ss).2 = 0) : (chkGo (newC L) ss 0).2 = 0 := by
  rw [← (chkS_zero h).2]; exact h
theorem plnS_go {v : Int} {L : List (List Int)} {ss : List Stp} (h : plnS v L ss = true) : plnGo (newC L) ss = true := by
  unfold plnS at h
  split at h
  · cases h
  · exact h
theorem need_least {v : Int} {L : List (List Int)} {ss : List Stp} (hL : L.length ≤ 100000) (hs : ss.length ≤ 100000) (hn : 1 + hintN ss ≤ 1000000) (h : (chkS v L ss).2 = 0) (hp : plnS v L ss = true) : IsNeed (emptyS L ss) ss (nedS v L ss) ∧ ∀ x, x ∈ nedS v L ss ↔ Nee L ss x := by
  have hN := need_ok hL hs hn h
  have hm : neeM v L ss = marksS L ss := by unfold neeM; rw [if_pos hp]
  have hg : CkG (newC L) := (CkG.new L hL L.length (Nat.le_refl _)).1
  have hpl := plnS_go hp
  have mem : ∀ x, x ∈ nedS v L ss ↔ Nee L ss x := fun x => by
    rw [hN.mem, hm]
    exact (marR_pos (cntB_one _) (mkq_oneI _) ss (by omega) x).symm
  refine ⟨⟨hN.srt, (mem _).2 (nee_empty (by omega)), fun s h1 h2 h3 x hx => ?_, fun out h1 h2 x hx => ?_⟩, mem⟩
  · exact (mem x).2 (marR_closed (cntB_one _) ss (by omega) (plnGo_ord hg hpl) s h1 h2 ((mem _).1 h3) x hx)
  · refine marR_least (cntB_one (emptyS L ss)) (fun y hy => ?_) ss (by omega) h2 x ((mem x).1 hx)
    have := (mkq_oneI _ _).1 hy
    have this : y = emptyS L ss := by simpa [kys] using this
    rw [this]; exact h1
/-! ### All -/
def addI (ss : List Stp) : List Int := (ss.filter fun s => decide (s.kind = 1)).map (·.id)
def allL (L : List (List Int)) (ss : List Stp) : List Int := ((List.range L.length).map fun i : Nat => ((i + 1 : Nat) : Int)) ++ addI ss
theorem addI_mem {ss : List Stp} {x : Int} : x ∈ addI ss ↔ ∃ s ∈ ss, s.kind = 1 ∧ x = s.id := by
  unfold addI
  rw [List.mem_map]
  constructor
  · rintro ⟨s, h1, h2⟩
    rw [List.mem_filter, decide_eq_true_iff] at h1
    exact ⟨s, h1.1, h1.2, h2.symm⟩
  · rintro ⟨s, h1, h2, h3⟩
    exact ⟨s, List.mem_filter.2 ⟨h1, by simp [h2]⟩, h3.symm⟩
theorem chkGo_last : ∀ {ss : List Stp} {c : Ck} {i : Nat}, CkG c → (chkGo c ss i).2 = 0 → (∀ x ∈ addI ss, c.last < x) ∧ (addI ss).Pairwise (· < ·)
  | [], _, _, _, _ => ⟨fun x hx => absurd hx List.not_mem_nil, List.Pairwise.nil⟩
  | s :: ss, c, i, hc, h => by
    obtain ⟨h1, h2⟩ := chkGo_cons h
    obtain ⟨g1, g2⟩ := stepC_good hc h1
    obtain ⟨k1, k2⟩ := chkGo_last g1 h2
    unfold addI at k1 k2 ⊢
    rw [List.filter_cons]
    by_cases k : s.kind = 1
    · rw [if_pos (by simp [k]), List.map_cons, List.pairwise_cons]
      have h4 := ((stepC_zero h1).2.resolve_left fun h => by have := h.1; omega)
      have hl : (stepC c s).1.last = s.id := by rw [h4.2.2.2.2.2]; rfl
      rw [hl] at k1
      refine ⟨fun x hx => ?_, k1, k2⟩
      rcases List.mem_cons.1 hx with rfl | hx
      · exact h4.2.1
      · have := k1 x hx; have := h4.2.1; omega
    · rw [if_neg (by simp [k])]
      exact ⟨fun x hx => by have := k1 x hx; omega, k2⟩
theorem newC_last {L : List (List Int)} (hL : L.length ≤ 100000) : (newC L).last = L.length := (CkG.new L hL L.length (Nat.le_refl _)).2
theorem all_srt {L : List (List Int)} {ss : List Stp} (hL : L.length ≤ 100000) {i : Nat} (h : (chkGo (newC L) ss i).2 = 0) : (allL L ss).Pairwise (· < ·) := by
  have hg : CkG (newC L) := (CkG.new L hL L.length (Nat.le_refl _)).1
  obtain ⟨h1, h2⟩ := chkGo_last hg h
  rw [newC_last hL] at h1
  unfold allL
  rw [List.pairwise_append]
  refine ⟨List.pairwise_map.2 (List.pairwise_lt_range.imp fun h => by omega), h2, fun x hx y hy => ?_⟩
  obtain ⟨j, hj, rfl⟩ := List.mem_map.1 hx
  rw [List.mem_range] at hj
  have := h1 y hy
  omega
theorem all_need {v : Int} {L : List (List Int)} {ss : List Stp} (hL : L.length ≤ 100000) (h : (chkS v L ss).2 = 0) (hp : plnS v L ss = false) : nedS v L ss = allL L ss := by
  have hgo := chkS_go h
  have hs := all_srt hL hgo
  have hm : neeM v L ss = allS L ss := by unfold neeM; rw [hp, if_neg (by simp)]
  unfold nedS
  rw [if_neg (by simp [h]), hm]
  refine sortZ_eq ((List.perm_ext_iff_of_nodup ((allF_kys ss _).1 (allTo1_kys _).1) (hs.imp fun h => by omega)).2 fun x => ?_) (hs.imp fun h => by omega)
  refine ((allF_kys ss (allTo1 L.length)).2.2 x).trans ?_
  rw [(allTo1_kys L.length).2.2, ← addI_mem]
  unfold allL
  rw [List.mem_append, List.mem_map]
  refine or_congr_left ?_
  constructor
  · rintro ⟨h1, h2⟩
    exact ⟨(x - 1).toNat, List.mem_range.2 (by omega), by omega⟩
  · rintro ⟨j, h1, h2⟩
    rw [List.mem_range] at h1
    omega
/-! ### What the document trims -/
def trmD (pl : Bool) (N : List Int) (ss : List Stp) : List Stp := ss.filter fun s => !pl || (decide (s.kind = 1) && decide (s.id ∈ N))
theorem trm_same {v : Int} {L : List (List Int)} {ss : List Stp} (hL : L.length ≤ 100000) (hs : ss.length ≤ 100000) (hn : 1 + hintN ss ≤ 1000000) (h : (chkS v L ss).2 = 0) : trmD (plnS v L ss) (nedS v L ss) ss = trmS v L ss := by
  unfold trmD
  cases hp : plnS v L ss
  · rw [trmS_not hp]
    exact List.filter_eq_self.2 fun s _ => rfl
  · rw [trmS_plain (by omega) hp]
    have := (need_least hL hs hn h hp).2
    unfold keep1
    apply List.filter_congr
    intro s _
    rw [Bool.not_true, Bool.false_or, decide_eq_decide.2 (this s.id)]
/-! ### Places -/
def atG : List Int → Nat → Int → Int
  | [], _, _ => 0
  | y :: l, i, x => if y = x then ((i + 1 : Nat) : Int) else atG l (i + 1) x
def atL (N : List Int) (x : Int) : Int := atG N 0 x
theorem atG_app : ∀ (P : List Int) (i : Nat) (x : Int) (R : List Int), x ∉ P → atG (P ++ R) i x = atG R (i + P.length) x
  | [], i, x, R, _ => rfl
  | y :: P, i, x, R, h => by
    rw [List.mem_cons, not_or] at h
    rw [List.cons_append, atG, if_neg (fun e => h.1 e.symm), atG_app P (i + 1) x R h.2, List.length_cons]
    congr 1
    omega
theorem atL_at {N P R : List Int} {x : Int} (e : N = P ++ x :: R) (h : x ∉ P) : atL N x = ((P.length + 1 : Nat) : Int) := by
  unfold atL
  rw [e, atG_app P 0 x _ h, atG, if_pos rfl, Nat.zero_add]
def stpAt (N : List Int) (s : Stp) : Stp := ⟨1, atL N s.id, s.lits, s.hints.map (atL N)⟩
theorem ren_at {N : List Int} (hN : N.Pairwise (· < ·)) : ∀ (T : List Stp) (M : List (Int × Int)) (P : List Int), N = P ++ T.map (·.id) → (∀ x ∈ P, lk M x = some (atL N x)) → (∀ s ∈ T, s.kind = 1 ∧ ∀ x ∈ s.hints, x ∈ N ∧ x < s.id) → renGo M P.length T = T.map (stpAt N)
  | [], _, _, _, _, _ => rfl
  | s :: T, M, P, e, hP, hT => by
    obtain ⟨hk, hh⟩ := hT s List.mem_cons_self
    rw [List.map_cons] at e
    have hs := hN
    rw [e, List.pairwise_append] at hs
    have hni : s.id ∉ P := fun hin => by have := hs.2.2 _ hin _ List.mem_cons_self; omega
    have hat := atL_at e hni
    have hM : ∀ x ∈ P ++ [s.id], lk (pt M s.id ((P.length + 1 : Nat) : Int)) x = some (atL N x) := fun x hx => by
      rw [lk_pt]
      rcases List.mem_append.1 hx with hx | hx
      · rw [if_neg (fun e' : s.id = x => hni (e' ▸ hx))]
        exact hP x hx
      · rw [List.mem_singleton] at hx
        subst hx
        rw [if_pos rfl, hat]
    have hin : ∀ x ∈ s.hints, x ∈ P := fun x hx => by
      obtain ⟨h1, h2⟩ := hh x hx
      rw [e] at h1
      rcases List.mem_append.1 h1 with h1 | h1
      · exact h1
      · rcases List.mem_cons.1 h1 with rfl | h1
        · omega
        · have := (List.pairwise_cons.1 hs.2.1).1 x h1
          omega
    have hl : (P ++ [s.id]).length = P.length + 1 := by simp
    have ih := ren_at hN T (pt M s.id ((P.length + 1 : Nat) : Int)) (P ++ [s.id]) (by rw [e, List.append_assoc]; rfl) hM fun t ht => hT t (List.mem_cons_of_mem _ ht)
    rw [hl] at ih
    rw [renGo, ih, List.map_cons]
    congr 1
    unfold renStp stpAt renH
    rw [hk, hM s.id (by simp), Option.getD_some]
    congr 1
    apply List.map_congr_left
    intro x hx
    rw [hM x (List.mem_append_left _ (hin x hx)), Option.getD_some]
theorem plnGo_lt : ∀ {ss : List Stp} {c : Ck}, CkG c → plnGo c ss = true → ∀ t ∈ ss, t.kind = 1 → ∀ x ∈ t.hints, x < t.id
  | s :: ss, c, hc, h, t, ht, hk, x, hx => by
    obtain ⟨h1, h2, h3⟩ := plnGo_cons h
    obtain ⟨g1, _⟩ := stepC_good hc h2
    rcases List.mem_cons.1 ht with rfl | ht
    · obtain ⟨y, _, _, b⟩ := shown_hints hc (h1 hk) x hx
      have h4 := ((stepC_zero h2).2.resolve_left fun h => by have := h.1; omega)
      have := h4.2.1
      omega
    · exact plnGo_lt g1 h3 t ht hk x hx
theorem plnGo_known {A : Int → Prop} : ∀ {ss : List Stp} {c : Ck}, CkG c → plnGo c ss = true → (∀ q ∈ c.m, A q.1) → (∀ s ∈ ss, s.kind = 1 → A s.id) → ∀ t ∈ ss, t.kind = 1 → ∀ x ∈ t.hints, A x
  | s :: ss, c, hc, h, hm, hs, t, ht, hk, x, hx => by
    obtain ⟨h1, h2, h3⟩ := plnGo_cons h
    obtain ⟨g1, _⟩ := stepC_good hc h2
    rcases List.mem_cons.1 ht with rfl | ht
    · obtain ⟨y, a, _, _⟩ := shown_hints hc (h1 hk) x hx
      exact hm _ a
    · refine plnGo_known g1 h3 (fun q hq => ?_) (fun u hu => hs u (List.mem_cons_of_mem _ hu)) t ht hk x hx
      obtain ⟨hmay, h4 | h4⟩ := stepC_zero h2
      · rw [h4.2.2] at hq
        exact hm q ((foldl_dl_subl _ _).subset hq)
      · have hid := mayP_id hmay
        rw [h4.2.2.2.2.2, (hc.put h4.2.1 (by omega)).1] at hq
        rcases List.mem_append.1 hq with hq | hq
        · exact hm q hq
        · rw [List.mem_singleton] at hq
          subst hq
          exact hs s List.mem_cons_self h4.1
theorem need_split {v : Int} {L : List (List Int)} {ss : List Stp} (hL : L.length ≤ 100000) (hs : ss.length ≤ 100000) (hn : 1 + hintN ss ≤ 1000000) (h : (chkS v L ss).2 = 0) (hp : plnS v L ss = true) : nedS v L ss = corS v L ss ++ (trmS v L ss).map (·.id) := by
  have hN := need_ok hL hs hn h
  obtain ⟨hI, hmem⟩ := need_least hL hs hn h hp
  obtain ⟨c1, c2, c3⟩ := cor_ok hN
  have hgo := chkS_go h
  have hg : CkG (newC L) := (CkG.new L hL L.length (Nat.le_refl _)).1
  obtain ⟨a1, a2⟩ := chkGo_last hg hgo
  rw [newC_last hL] at a1
  have ht : trmS v L ss = keep1 (Nee L ss) ss := trmS_plain (by omega) hp
  have hsub : ((trmS v L ss).map (·.id)).Sublist (addI ss) := by
    rw [ht]
    unfold keep1 addI
    have e : (ss.filter fun s => decide (s.kind = 1) && decide (Nee L ss s.id)) = ((ss.filter fun s => decide (s.kind = 1)).filter fun s => decide (Nee L ss s.id)) := by
      rw [List.filter_filter]
      apply List.filter_congr
      intro s _
      rw [Bool.and_comm]
    rw [e]
    exact List.filter_sublist.map _
  have hknown : ∀ x ∈ nedS v L ss, x ≤ L.length ∨ x ∈ addI ss := fun x hx => by
    have hm : neeM v L ss = marksS L ss := by unfold neeM; rw [if_pos hp]
    have hk := (hN.mem x).1 hx
    rw [hm] at hk
    have hA : ∀ q ∈ (newC L).m, q.1 ≤ L.length ∨ q.1 ∈ addI ss := fun q hq => by
      have := hg.hi q hq
      rw [newC_last hL] at this
      exact .inl this
    rcases (marR_kys [(emptyS L ss, 1)] ss).2.2.1 x hk with hx | ⟨s, k1, k2, k3⟩
    · have hx : x = emptyS L ss := by simpa [kys] using hx
      subst hx
      rcases emptyS_at hgo with ⟨k, b1, b2, _⟩ | ⟨_, s, b1, b2, _, b3⟩
      · left; omega
      · right; rw [← b3]; exact addI_mem.2 ⟨s, b1, b2, rfl⟩
    · exact plnGo_known (A := fun x => x ≤ L.length ∨ x ∈ addI ss) hg (plnS_go hp) hA (fun t ht hk => .inr (addI_mem.2 ⟨t, ht, hk, rfl⟩)) s k1 k2 x k3
  refine srt_eq hN.srt (List.pairwise_append.2 ⟨c1, a2.sublist hsub, fun x hx y hy => ?_⟩) fun x => ?_
  · have := (c3 x hx).2
    have := a1 y (hsub.subset hy)
    omega
  · rw [List.mem_append, c2]
    constructor
    · intro hx
      rcases hknown x hx with h1 | h1
      · exact .inl ⟨hx, h1⟩
      · right
        obtain ⟨s, b1, b2, rfl⟩ := addI_mem.1 h1
        rw [ht]
        exact List.mem_map.2 ⟨s, List.mem_filter.2 ⟨b1, by simp [b2, (hmem s.id).1 hx]⟩, rfl⟩
    · rintro (h1 | h1)
      · exact h1.1
      · rw [ht] at h1
        obtain ⟨s, b1, rfl⟩ := List.mem_map.1 h1
        have := (List.mem_filter.1 b1).2
        simp at this
        exact (hmem _).2 this.2
theorem ren_same {v : Int} {L : List (List Int)} {ss : List Stp} (hL : L.length ≤ 100000) (hs : ss.length ≤ 100000) (hn : 1 + hintN ss ≤ 1000000) (h : (chkS v L ss).2 = 0) (hp : plnS v L ss = true) :
    renS (corS v L ss) (trmS v L ss) (trmS v L ss).length = (trmS v L ss).map (stpAt (nedS v L ss)) := by
  have hN := need_ok hL hs hn h
  obtain ⟨hI, hmem⟩ := need_least hL hs hn h hp
  obtain ⟨c1, c2, c3⟩ := cor_ok hN
  have he := need_split hL hs hn h hp
  have hg : CkG (newC L) := (CkG.new L hL L.length (Nat.le_refl _)).1
  have ht : trmS v L ss = keep1 (Nee L ss) ss := trmS_plain (by omega) hp
  rw [renS_all]
  refine ren_at hN.srt _ _ _ he (fun x hx => ?_) fun s hs' => ?_
  · obtain ⟨i, hi, rfl⟩ := List.getElem_of_mem hx
    rw [nowC_lk c1 _ (Nat.le_refl _) i hi hi]
    have hd : corS v L ss = (corS v L ss).take i ++ (corS v L ss)[i] :: (corS v L ss).drop (i + 1) := by
      rw [← List.drop_eq_getElem_cons hi, List.take_append_drop]
    have hnot : (corS v L ss)[i] ∉ (corS v L ss).take i := fun hin => by
      obtain ⟨k, hk, e⟩ := List.mem_take_iff_getElem.1 hin
      have := List.pairwise_iff_getElem.1 c1 k i (by omega) hi (by omega)
      omega
    have e2 : nedS v L ss = (corS v L ss).take i ++ (corS v L ss)[i] :: ((corS v L ss).drop (i + 1) ++ (trmS v L ss).map (·.id)) := by
      rw [he, ← List.cons_append, ← List.append_assoc, ← hd]
    rw [atL_at e2 hnot, List.length_take, Nat.min_eq_left (Nat.le_of_lt hi)]
  · rw [ht] at hs'
    have := (List.mem_filter.1 hs')
    simp at this
    refine ⟨this.2.1, fun x hx => ⟨hI.cls s this.1 this.2.1 ((hmem _).2 this.2.2) x hx, plnGo_lt hg (plnS_go hp) s this.1 this.2.1 x hx⟩⟩
end Go.AX

namespace Go.AX
open Go.Proofs
set_option linter.unusedSimpArgs false
theorem ptL3_sub {N out : List Int} {x : Int} (h : ∀ y ∈ out, y ∈ N) (hx : x ∈ N) : ∀ y ∈ ptL3 out x, y ∈ N := fun y hy =>
  ((ptL3_mem out x y).1 hy).elim (fun e => e ▸ hx) (h y)
theorem srt_len : ∀ {a b : List Int}, a.Pairwise (· < ·) → (∀ x ∈ a, x ∈ b) → a.length ≤ b.length
  | [], _, _, _ => Nat.zero_le _
  | x :: a, b, ha, h => by
    obtain ⟨h1, h2⟩ := List.pairwise_cons.1 ha
    have hx := h x List.mem_cons_self
    have := srt_len (b := b.erase x) h2 fun y hy => by
      have := h1 y hy
      exact (List.mem_erase_of_ne (by omega)).2 (h y (List.mem_cons_of_mem _ hy))
    rw [List.length_erase_of_mem hx] at this
    have := List.length_pos_iff.2 (List.ne_nil_of_mem hx)
    rw [List.length_cons]
    omega
def ClsTo (ss : List Stp) (out : List Int) (i : Nat) : Prop := ∀ j (h : j < ss.length), j < i → ss[j].kind = 1 → ss[j].id ∈ out → ∀ x ∈ ss[j].hints, x ∈ out
structure NeeI (N out : List Int) (was : Nat) : Prop where
  srt : out.Pairwise (· < ·)
  sub : ∀ y ∈ out, y ∈ N
  len : was ≤ out.length
theorem NeeI.put {N out : List Int} {was : Nat} (h : NeeI N out was) {x : Int} (hx : x ∈ N) : NeeI N (ptL3 out x) was ∧ ((ptL3 out x).length = was → x ∈ out ∧ ptL3 out x = out) := by
  refine ⟨⟨ptL3_srt x h.srt, ptL3_sub h.sub hx, ?_⟩, fun e => ?_⟩
  · by_cases c : x ∈ out
    · rw [ptL3_in c]; exact h.len
    · rw [ptL3_new c]; have := h.len; omega
  · by_cases c : x ∈ out
    · exact ⟨c, ptL3_in c⟩
    · rw [ptL3_new c] at e; have := h.len; omega
theorem addI_take {ss : List Stp} {i : Nat} (h : i < ss.length) : addI (ss.take (i + 1)) = if ss[i].kind = 1 then addI (ss.take i) ++ [ss[i].id] else addI (ss.take i) := by
  unfold addI
  rw [List.take_add_one, List.getElem?_eq_getElem h, Option.toList_some, List.filter_append, List.map_append, List.filter_cons, List.filter_nil]
  by_cases k : ss[i].kind = 1
  · rw [if_pos (by simp [k]), if_pos k]; rfl
  · rw [if_neg (by simp [k]), if_neg k]; simp
set_option maxRecDepth 16000 in
theorem r43Needed_ok (v : Int) (L : List (List Int)) (ss : List Stp) (hL : L.length ≤ 400) (hn : ss.length ≤ 400) (hr : ∀ c ∈ L, c.length ≤ 100000) (hs : ∀ s ∈ ss, s.lits.length ≤ 100000 ∧ s.hints.length ≤ 1000)
    (N : List Int) (hN0 : (chkD v L ss).2 ≠ 0 → N = []) (hN1 : (chkD v L ss).2 = 0 → plnD v L ss = false → N = allL L ss) (hN2 : (chkD v L ss).2 = 0 → plnD v L ss = true → IsNeed (emptyS L ss) ss N) (hNl : N.length ≤ 1000000) :
    AMut Tryz.prog 16 [.agg [I64 v, .seq false 1 (L.map crowF)], .seq false 4 (ss.map stpR)] [] (fun r g' => g' = [] ∧ r = .pv (.tup [.seq false 1 (irow N), I64 (chkD v L ss).2])) := by
  refine amutXW [] [.tmp 4, .tmp 5] hmo Tryz.func16 (by kernel_rfl) rfl rfl (by kernel_rfl) (Nat.le_of_ble_eq_true rfl) ?_
  have kC := rcheck_ok v L ss hL hn hr hs
  have kP := rplain_ok v L ss hL hn hr hs
  have kF := tfirst_ok v L ss (by omega)
  generalize emptyS L ss = f at *
  generalize plnD v L ss = pl at *
  generalize chkD v L ss = C at *
  obtain ⟨c1, c2⟩ := C
  simp only at *
  simp
  refine CallK.intro kC (by simp) ?_
  by_cases c : c2 = 0
  rotate_left
  · rw [hN0 c]
    simp [c, wkP, wkPL, irow]
  subst c
  simp
  refine CallK.intro kP (by simp) ?_
  cases pl
  · have hN := hN1 rfl rfl
    subst hN
    simp
    obtain ⟨Q, hQ⟩ : ∃ Q : Nat → List (List PV), ∀ i, Q i = irow ((List.range i).map fun j : Nat => ((j + 1 : Nat) : Int)) := ⟨_, fun _ => rfl⟩
    have hQ0 : Q 0 = [] := by rw [hQ]; rfl
    have hQs : ∀ i, Q (i + 1) = Q i ++ [[I64 ((i + 1 : Nat) : Int)]] := fun i => by
      rw [hQ, hQ, List.range_succ, List.map_append]
      unfold irow
      rw [List.map_append]; rfl
    have hQl : ∀ i, (Q i).length = i := fun i => by rw [hQ]; simp [irow]
    refine ALoop.intro (S := fun (i : Nat) => ⟨[(1, .pv (.seq false 4 (ss.map stpR))), (2, .pv (.ptr 0 0)), (8, .own true 1 (Q i)), (9, .pv (I64 i))], [[.pv (I64 v), .pv (.seq false 1 (L.map crowF))]]⟩) (fun i => i ≤ L.length) (fun i => L.length - i) 0 ?_ (Nat.zero_le _) ?_
    · exact (Weak.nilOwn (s := 8) 1 true (by simp)).trans (Weak.keep (by simp [hQ0]) (by simp))
    intro i hi
    have hql := hQl i
    by_cases d : i < L.length
    · have hw : w64 ((i : Int) + 1) = ((i + 1 : Nat) : Int) := by rw [w64_id (by omega) (by omega)]; omega
      have hqs := hQs i
      simp [d, hw]
      exact ⟨by omega, i + 1, by (try dsimp only); omega, by (try dsimp only); omega, Weak.keep (by simp [hw, hqs]) (by simp)⟩
    · have : i = L.length := by omega
      subst this
      simp
      obtain ⟨R, hR⟩ : ∃ R : Nat → List (List PV), ∀ i, R i = Q L.length ++ irow (addI (ss.take i)) := ⟨_, fun _ => rfl⟩
      have hR0 : R 0 = Q L.length := by rw [hR]; simp [addI, irow]
      have hRe : R ss.length = irow (allL L ss) := by
        rw [hR, List.take_length, hQ]
        unfold allL irow
        rw [List.map_append]
      have hRs : ∀ i (h : i < ss.length), R (i + 1) = if ss[i].kind = 1 then R i ++ [[I64 ss[i].id]] else R i := fun i h => by
        rw [hR, hR, addI_take h]
        split
        · unfold irow; rw [List.map_append, ← List.append_assoc]; rfl
        · rfl
      have hRl : ∀ i, (R i).length ≤ L.length + ss.length := fun i => by
        rw [hR, List.length_append, hql]
        have : (addI (ss.take i)).length ≤ (ss.take i).length := by unfold addI; rw [List.length_map]; exact List.length_filter_le _ _
        rw [List.length_take] at this
        unfold irow
        rw [List.length_map]
        omega
      refine ALoop.intro (S := fun (i : Nat) => ⟨[(1, .pv (.seq false 4 (ss.map stpR))), (8, .own true 1 (R i)), (10, .pv (I64 i))], [[.pv (I64 v), .pv (.seq false 1 (L.map crowF))]]⟩) (fun i => i ≤ ss.length) (fun i => ss.length - i) 0 ?_ (Nat.zero_le _) ?_
      · exact Weak.keep (by simp [hR0]) (by simp)
      intro i hi
      have hrl := hRl i
      by_cases d : i < ss.length
      · have hw : w64 ((i : Int) + 1) = ((i + 1 : Nat) : Int) := by rw [w64_id (by omega) (by omega)]; omega
        have hq : ss[i]? = some ss[i] := List.getElem?_eq_getElem d
        have hrs := hRs i d
        by_cases k : ss[i].kind = 1
        · rw [if_pos k] at hrs
          simp [d, hq, stpR, k]
          exact ⟨by omega, i + 1, by (try dsimp only); omega, by (try dsimp only); omega, Weak.keep (by simp [hw, hrs, stpR]) (by simp)⟩
        · rw [if_neg k] at hrs
          simp [d, hq, stpR, k]
          exact ⟨i + 1, by (try dsimp only); omega, by (try dsimp only); omega, Weak.keep (by simp [hw, hrs, stpR]) (by simp)⟩
      · have : i = ss.length := by omega
        subst this
        simp [hRe, wkP, wkPL]
  · have hN := hN2 rfl rfl
    have hf1 : ptL3 [] f = [f] := by simp [ptL3, ptK3]
    have kp0 := (t43put_ok [] f (by simp)).mono (R' := fun r _ => r = .pv (.seq false 1 (irow [f]))) fun _ _ h => by rw [← hf1]; exact h.2
    have kp1 : AMut Tryz.prog 62 [.lit (.slice none 0 0), I64 f] [] (fun r _ => r = .pv (.seq false 1 (irow [f]))) := by
      refine AMut.argsF kp0 fun g vs hv => ?_
      obtain ⟨v1, r1, h1, h2, h3⟩ := hv
      exact ⟨v1, r1, h1, ⟨none, 0, h2, Nat.le_refl _, .inl rfl⟩, h3⟩
    have kp : ∀ out : List Int, out.length ≤ N.length → ∀ x, AMut Tryz.prog 62 [.seq false 1 (irow out), I64 x] [] (fun r _ => r = .pv (.seq false 1 (irow (ptL3 out x)))) := fun out ho x => (t43put_ok out x (by omega)).mono fun _ _ h => h.2
    simp
    refine CallK.intro kF (by simp) ?_
    simp
    refine CallK.introX (CallX.pureM (p := []) (q := []) (zs := [.lit (.slice none 0 0), I64 f]) kp1 (by simp) rfl (by simp [argsPv]) (by simp) (by simp) ?_)
    simp
    refine ALoop.intro (S := fun (x : List Int × Int) => ⟨[(1, .pv (.seq false 4 (ss.map stpR))), (8, .pv (.seq false 1 (irow x.1))), (11, .pv (I64 x.2))], [[.pv (I64 v), .pv (.seq false 1 (L.map crowF))]]⟩) (fun x => NeeI N x.1 0 ∧ f ∈ x.1 ∧ -1 ≤ x.2 ∧ x.2 ≤ x.1.length ∧ (x.2 = x.1.length → ClsTo ss x.1 ss.length)) (fun x => (N.length - x.2).toNat) ([f], -1) ?_ ?_ ?_
    · exact Weak.keep (by simp) (by simp)
    · exact ⟨⟨List.pairwise_singleton _ _, fun y hy => by rw [List.mem_singleton] at hy; rw [hy]; exact hN.fst, Nat.zero_le _⟩, List.mem_singleton.2 rfl, Int.le_refl _, by simp, by simp⟩
    rintro ⟨out, was⟩ ⟨hI, hfo, hw1, hw2, hcl⟩
    dsimp only at hI hfo hw1 hw2 hcl
    have hol : out.length ≤ N.length := srt_len hI.srt hI.sub
    by_cases d : was < out.length
    · simp [d]
      refine ALoop.intro (S := fun (x : Nat × List Int) => ⟨[(1, .pv (.seq false 4 (ss.map stpR))), (8, .pv (.seq false 1 (irow x.2))), (11, .pv (I64 out.length)), (12, .pv (I64 x.1))], [[.pv (I64 v), .pv (.seq false 1 (L.map crowF))]]⟩) (fun x => x.1 ≤ ss.length ∧ NeeI N x.2 out.length ∧ f ∈ x.2 ∧ (x.2.length = out.length → ClsTo ss x.2 x.1)) (fun x => ss.length - x.1) (0, out) ?_ ⟨Nat.zero_le _, ⟨hI.srt, hI.sub, Nat.le_refl _⟩, hfo, fun _ j _ h => by omega⟩ ?_
      · exact Weak.keep (by simp) (by simp)
      rintro ⟨i, o1⟩ ⟨hi, hI1, hf1', hc1⟩
      dsimp only at hi hI1 hf1' hc1
      have ho1 : o1.length ≤ N.length := srt_len hI1.srt hI1.sub
      by_cases e : i < ss.length
      · have hw : w64 ((i : Int) + 1) = ((i + 1 : Nat) : Int) := by rw [w64_id (by omega) (by omega)]; omega
        have hq : ss[i]? = some ss[i] := List.getElem?_eq_getElem e
        have hh := (hs _ (List.getElem_mem e)).2
        simp [e]
        refine ALoop.intro (S := fun (x : Nat × List Int) => ⟨[(1, .pv (.seq false 4 (ss.map stpR))), (8, .pv (.seq false 1 (irow x.2))), (11, .pv (I64 out.length)), (12, .pv (I64 i)), (13, .pv (I64 x.1))], [[.pv (I64 v), .pv (.seq false 1 (L.map crowF))]]⟩) (fun x => x.1 ≤ ss[i].hints.length ∧ NeeI N x.2 out.length ∧ f ∈ x.2 ∧ (x.2.length = out.length → ClsTo ss x.2 i ∧ ∀ k (_ : k < ss[i].hints.length), k < x.1 → ss[i].hints[k] ∈ x.2)) (fun x => ss[i].hints.length - x.1) (0, o1) ?_ ⟨Nat.zero_le _, hI1, hf1', fun h => ⟨hc1 h, fun k _ h => by omega⟩⟩ ?_
        · exact Weak.keep (by simp) (by simp)
        rintro ⟨k, o2⟩ ⟨hk, hI2, hf2, hc2⟩
        dsimp only at hk hI2 hf2 hc2
        have ho2 : o2.length ≤ N.length := srt_len hI2.srt hI2.sub
        have kH := refHas_ok o2 ss[i].id (by omega)
        have hnext : (ss[i].kind = 1 → ss[i].id ∈ o2 → k = ss[i].hints.length) → (o2.length = out.length → ClsTo ss o2 (i + 1)) := fun hx e2 => by
          obtain ⟨a1, a2⟩ := hc2 e2
          intro j hj hji hkj hin x hxm
          by_cases ej : j = i
          · subst ej
            obtain ⟨q, hq1, rfl⟩ := List.getElem_of_mem hxm
            exact a2 q hq1 (by have := hx hkj hin; omega)
          · exact a1 j hj (by omega) hkj hin x hxm
        by_cases g : k < ss[i].hints.length
        · have hwk : w64 ((k : Int) + 1) = ((k + 1 : Nat) : Int) := by rw [w64_id (by omega) (by omega)]; omega
          have hqk : ss[i].hints[k]? = some ss[i].hints[k] := List.getElem?_eq_getElem g
          by_cases k1 : ss[i].kind = 1
          · by_cases m1 : ss[i].id ∈ o2
            · rw [decide_eq_true m1] at kH
              have hxN : ss[i].hints[k] ∈ N := hN.cls _ (List.getElem_mem e) k1 (hI2.sub _ m1) _ (List.getElem_mem g)
              obtain ⟨hI3, hc3⟩ := hI2.put hxN
              simp [e, hq, stpR, k1, g]
              refine CallG.intro (fun _ => kH) (by simp) ?_
              simp [e, hq, stpR, g, hqk]
              refine CallK.introX (CallX.pureM (p := []) (q := []) (zs := [.seq false 1 (irow o2), I64 ss[i].hints[k]]) (kp o2 ho2 _) (by simp) rfl (by simp [argsPv]) (by simp) (by simp) ?_)
              simp
              refine ⟨(k + 1, ptL3 o2 ss[i].hints[k]), by (try dsimp only); omega, ⟨by (try dsimp only); omega, hI3, (ptL3_mem _ _ _).2 (.inr hf2), fun e2 => ?_⟩, Weak.keep (by simp [hwk, stpR]) (by simp)⟩
              obtain ⟨b1, b2⟩ := hc3 e2
              dsimp only at e2 ⊢
              rw [b2] at e2 ⊢
              obtain ⟨a1, a2⟩ := hc2 e2
              refine ⟨a1, fun q hq1 hq2 => ?_⟩
              by_cases eq : q = k
              · subst eq; exact b1
              · exact a2 q hq1 (by omega)
            · rw [decide_eq_false m1] at kH
              simp [e, hq, stpR, k1, g]
              refine CallG.intro (fun _ => kH) (by simp) ?_
              simp
              exact ⟨(i + 1, o2), by (try dsimp only); omega, ⟨by (try dsimp only); omega, hI2, hf2, hnext fun _ h => absurd h m1⟩, Weak.keep (by simp [hw, stpR]) (by simp)⟩
          · simp [e, hq, stpR, k1, g]
            refine CallG.intro (fun h => absurd h (by simp)) (r := .pv (BL false)) (by simp) ?_
            simp
            exact ⟨(i + 1, o2), by (try dsimp only); omega, ⟨by (try dsimp only); omega, hI2, hf2, hnext fun h => absurd h k1⟩, Weak.keep (by simp [hw, stpR]) (by simp)⟩
        · have : k = ss[i].hints.length := by omega
          subst this
          simp [e, hq, stpR]
          refine CallG.intro (fun h => absurd h (by simp)) (r := .pv (BL false)) (by simp) ?_
          simp
          exact ⟨(i + 1, o2), by (try dsimp only); omega, ⟨by (try dsimp only); omega, hI2, hf2, hnext fun _ _ => rfl⟩, Weak.keep (by simp [hw, stpR]) (by simp)⟩
      · have : i = ss.length := by omega
        subst this
        simp
        refine ⟨(o1, (out.length : Int)), ?_, ⟨⟨hI1.srt, hI1.sub, Nat.zero_le _⟩, hf1', by (try dsimp only); omega, by have := hI1.len; dsimp only; omega, fun e2 => hc1 (by dsimp only at e2; omega)⟩, Weak.keep (by simp) (by simp)⟩
        dsimp only
        omega
    · have e2 : was = out.length := by omega
      have hcls := hcl e2
      have : out = N := hN.eq hI.srt hfo (fun s h1 h2 h3 x hx => by
        obtain ⟨j, hj, rfl⟩ := List.getElem_of_mem h1
        exact hcls j hj hj h2 h3 x hx) hI.sub
      subst this
      simp [d, wkP, wkPL]
end Go.AX

namespace Go.AX
open Go.Proofs
set_option linter.unusedSimpArgs false
structure NeedD (v : Int) (L : List (List Int)) (ss : List Stp) (N : List Int) : Prop where
  bad : (chkD v L ss).2 ≠ 0 → N = []
  all : (chkD v L ss).2 = 0 → plnD v L ss = false → N = allL L ss
  one : (chkD v L ss).2 = 0 → plnD v L ss = true → IsNeed (emptyS L ss) ss N
  len : N.length ≤ 1000000
theorem trmD_take {pl : Bool} {N : List Int} {ss : List Stp} {i : Nat} (h : i < ss.length) : trmD pl N (ss.take (i + 1)) = if (!pl || (decide (ss[i].kind = 1) && decide (ss[i].id ∈ N))) = true then trmD pl N (ss.take i) ++ [ss[i]] else trmD pl N (ss.take i) := by
  unfold trmD
  rw [List.take_add_one, List.getElem?_eq_getElem h, Option.toList_some, List.filter_append, List.filter_cons, List.filter_nil]
  split
  · rfl
  · simp
theorem trmD_le (pl : Bool) (N : List Int) (ss : List Stp) : (trmD pl N ss).length ≤ ss.length := List.length_filter_le _ _
theorem delS_take43 {p : Int → Bool} {N : List Int} {i : Nat} (h : i < N.length) : delS p (N.take (i + 1)) = if p N[i] = false then delS p (N.take i) ++ [N[i]] else delS p (N.take i) := by
  unfold delS
  rw [List.take_add_one, List.getElem?_eq_getElem h, Option.toList_some, List.filter_append, List.filter_cons, List.filter_nil]
  cases p N[i]
  · rfl
  · simp
section
variable (v : Int) (L : List (List Int)) (ss : List Stp) (hL : L.length ≤ 400) (hn : ss.length ≤ 400) (hr : ∀ c ∈ L, c.length ≤ 100000) (hs : ∀ s ∈ ss, s.lits.length ≤ 100000 ∧ s.hints.length ≤ 1000) (N : List Int) (hN : NeedD v L ss N)
include hL hn hr hs hN
set_option maxRecDepth 16000 in
theorem r43Trim_ok : AMut Tryz.prog 18 [.agg [I64 v, .seq false 1 (L.map crowF)], .seq false 4 (ss.map stpR)] [] (fun r g' => g' = [] ∧ r = .pv (.tup [if (chkD v L ss).2 ≠ 0 then .lit (.slice none 0 0) else .seq false 4 ((trmD (plnD v L ss) N ss).map stpR), I64 (chkD v L ss).2])) := by
  refine amutXW [] [.tmp 4, .tmp 5] hmo Tryz.func18 (by kernel_rfl) rfl rfl (by kernel_rfl) (Nat.le_of_ble_eq_true rfl) ?_
  have kN := (r43Needed_ok v L ss hL hn hr hs N hN.bad hN.all hN.one hN.len).mono (R' := fun r _ => r = .pv (.tup [.seq false 1 (irow N), I64 (chkD v L ss).2])) fun _ _ h => h.2
  have kP := rplain_ok v L ss hL hn hr hs
  have hNl := hN.len
  clear hN
  generalize plnD v L ss = pl at *
  generalize chkD v L ss = C at *
  obtain ⟨c1, c2⟩ := C
  simp only at *
  simp
  refine CallK.introX (CallX.pureM (p := []) (q := []) (zs := [.agg [I64 v, .seq false 1 (L.map crowF)], .seq false 4 (ss.map stpR)]) kN (by simp) rfl (by simp [argsPv]) (by simp) (by simp) ?_)
  by_cases c : c2 = 0
  rotate_left
  · simp [c, wkP, wkPL]
  subst c
  simp
  refine CallK.intro kP (by simp) ?_
  simp
  obtain ⟨R, hR⟩ : ∃ R : Nat → List (List PV), ∀ i, R i = (trmD pl N (ss.take i)).map stpR := ⟨_, fun _ => rfl⟩
  have hR0 : R 0 = [] := by rw [hR]; rfl
  have hRe : R ss.length = (trmD pl N ss).map stpR := by rw [hR, List.take_length]
  have hRs : ∀ i (h : i < ss.length), R (i + 1) = if (!pl || (decide (ss[i].kind = 1) && decide (ss[i].id ∈ N))) = true then R i ++ [stpR ss[i]] else R i := fun i h => by
    rw [hR, hR, trmD_take h]
    split
    · rw [List.map_append]; rfl
    · rfl
  have hRl : ∀ i, (R i).length ≤ ss.length := fun i => by
    rw [hR, List.length_map]
    have := trmD_le pl N (ss.take i)
    rw [List.length_take] at this
    omega
  refine ALoop.intro (S := fun (i : Nat) => ⟨[(1, .pv (.seq false 4 (ss.map stpR))), (6, .pv (.seq false 1 (irow N))), (8, .pv (BL pl)), (9, .own true 4 (R i)), (10, .pv (I64 i))], [[.pv (I64 v), .pv (.seq false 1 (L.map crowF))]]⟩) (fun i => i ≤ ss.length) (fun i => ss.length - i) 0 ?_ (Nat.zero_le _) ?_
  · exact (Weak.nilOwn (s := 9) 4 true (by simp)).trans (Weak.keep (by simp [hR0]) (by simp))
  intro i hi
  have hrl := hRl i
  by_cases d : i < ss.length
  · have hw : w64 ((i : Int) + 1) = ((i + 1 : Nat) : Int) := by rw [w64_id (by omega) (by omega)]; omega
    have hq : ss[i]? = some ss[i] := List.getElem?_eq_getElem d
    have hrs := hRs i d
    have kH := refHas_ok N ss[i].id (by omega)
    cases pl
    · rw [if_pos (by simp)] at hrs
      simp [d, hq, stpR]
      refine CallG.intro (fun h : False => h.elim) (r := .pv (BL false)) (by simp) ?_
      simp [d, hq, stpR]
      exact ⟨by omega, i + 1, by (try dsimp only); omega, by (try dsimp only); omega, Weak.keep (by simp [hw, hrs, stpR]) (by simp)⟩
    · by_cases k1 : ss[i].kind = 1
      · simp [d, hq, stpR, k1]
        refine CallG.intro (fun _ => kH) (by simp) ?_
        by_cases m1 : ss[i].id ∈ N
        · rw [if_pos (by simp [k1, m1])] at hrs
          simp [d, hq, stpR, k1, m1]
          exact ⟨by omega, i + 1, by (try dsimp only); omega, by (try dsimp only); omega, Weak.keep (by simp [hw, hrs, stpR, k1]) (by simp)⟩
        · rw [if_neg (by simp [k1, m1])] at hrs
          simp [d, hq, stpR, k1, m1]
          exact ⟨i + 1, by (try dsimp only); omega, by (try dsimp only); omega, Weak.keep (by simp [hw, hrs, stpR]) (by simp)⟩
      · rw [if_neg (by simp [k1])] at hrs
        simp [d, hq, stpR, k1]
        refine CallG.intro (fun h : False => h.elim) (r := .pv (BL false)) (by simp) ?_
        simp [d, hq, stpR, k1]
        exact ⟨i + 1, by (try dsimp only); omega, by (try dsimp only); omega, Weak.keep (by simp [hw, hrs, stpR]) (by simp)⟩
  · have : i = ss.length := by omega
    subst this
    simp [hRe, wkP, wkPL]
set_option maxRecDepth 16000 in
theorem r43Core_ok : AMut Tryz.prog 20 [.agg [I64 v, .seq false 1 (L.map crowF)], .seq false 4 (ss.map stpR)] [] (fun r g' => g' = [] ∧ r = .pv (.tup [.seq false 1 (irow (delS (fun id => decide ((L.length : Int) < id)) N)), I64 (chkD v L ss).2])) := by
  refine amutXW [] [.tmp 4, .tmp 5] hmo Tryz.func20 (by kernel_rfl) rfl rfl (by kernel_rfl) (Nat.le_of_ble_eq_true rfl) ?_
  have kN := (r43Needed_ok v L ss hL hn hr hs N hN.bad hN.all hN.one hN.len).mono (R' := fun r _ => r = .pv (.tup [.seq false 1 (irow N), I64 (chkD v L ss).2])) fun _ _ h => h.2
  have hNl := hN.len
  clear hN
  generalize chkD v L ss = C at *
  obtain ⟨c1, c2⟩ := C
  simp only at *
  simp
  refine CallK.introX (CallX.pureM (p := []) (q := []) (zs := [.agg [I64 v, .seq false 1 (L.map crowF)], .seq false 4 (ss.map stpR)]) kN (by simp) rfl (by simp [argsPv]) (by simp) (by simp) ?_)
  simp
  obtain ⟨R, hR⟩ : ∃ R : Nat → List (List PV), ∀ i, R i = irow (delS (fun id => decide ((L.length : Int) < id)) (N.take i)) := ⟨_, fun _ => rfl⟩
  have hR0 : R 0 = [] := by rw [hR]; rfl
  have hRe : R N.length = irow (delS (fun id => decide ((L.length : Int) < id)) N) := by rw [hR, List.take_length]
  have hRs : ∀ i (h : i < N.length), R (i + 1) = if N[i] ≤ L.length then R i ++ [[I64 N[i]]] else R i := fun i h => by
    rw [hR, hR, delS_take43 h]
    by_cases c : N[i] ≤ L.length
    · rw [if_pos (by simp; omega), if_pos c]; unfold irow; rw [List.map_append]; rfl
    · rw [if_neg (by simp; omega), if_neg c]
  have hRl : ∀ i, (R i).length ≤ N.length := fun i => by
    rw [hR]
    have : (delS (fun id => decide ((L.length : Int) < id)) (N.take i)).length ≤ (N.take i).length := List.length_filter_le _ _
    rw [List.length_take] at this
    unfold irow
    rw [List.length_map]
    omega
  refine ALoop.intro (S := fun (i : Nat) => ⟨[(2, .pv (.ptr 0 0)), (6, .pv (.seq false 1 (irow N))), (7, .pv (I64 c2)), (8, .own true 1 (R i)), (9, .pv (I64 i))], [[.pv (I64 v), .pv (.seq false 1 (L.map crowF))]]⟩) (fun i => i ≤ N.length) (fun i => N.length - i) 0 ?_ (Nat.zero_le _) ?_
  · exact (Weak.nilOwn (s := 8) 1 true (by simp)).trans (Weak.keep (by simp [hR0]) (by simp))
  intro i hi
  have hrl := hRl i
  by_cases d : i < N.length
  · have hw : w64 ((i : Int) + 1) = ((i + 1 : Nat) : Int) := by rw [w64_id (by omega) (by omega)]; omega
    have hq : N[i]? = some N[i] := List.getElem?_eq_getElem d
    have hrs := hRs i d
    by_cases k : N[i] ≤ L.length
    · rw [if_pos k] at hrs
      simp [d, hq, k]
      exact ⟨by omega, i + 1, by (try dsimp only); omega, by (try dsimp only); omega, Weak.keep (by simp [hw, hrs]) (by simp)⟩
    · rw [if_neg k] at hrs
      simp [d, hq, k]
      exact ⟨i + 1, by (try dsimp only); omega, by (try dsimp only); omega, Weak.keep (by simp [hw, hrs]) (by simp)⟩
  · have : i = N.length := by omega
    subst this
    simp [hRe, wkP, wkPL]
end
set_option maxRecDepth 16000 in
theorem r43at_ok (N : List Int) (x : Int) (hl : N.length ≤ 1000000) : APure Tryz.prog 71 [.seq false 1 (irow N), I64 x] (fun r => r = .pv (I64 (atL N x))) := by
  refine apure1 hmo Tryz.func71 (by kernel_rfl) rfl rfl (by kernel_rfl) (Nat.le_of_ble_eq_true rfl) ?_
  have hA : atL N x = atG (N.drop 0) 0 x := rfl
  generalize atL N x = A at *
  simp
  refine ALoop.intro (S := fun (i : Nat) => ⟨[(0, .pv (.seq false 1 (irow N))), (1, .pv (I64 x)), (5, .pv (I64 i))], []⟩) (fun i => i ≤ N.length ∧ A = atG (N.drop i) i x) (fun i => N.length - i) 0 ?_ ⟨Nat.zero_le _, hA⟩ ?_
  · exact Weak.keep (by simp) (by simp)
  rintro i ⟨hi, hAi⟩
  by_cases d : i < N.length
  · have hw : w64 ((i : Int) + 1) = ((i + 1 : Nat) : Int) := by rw [w64_id (by omega) (by omega)]; omega
    have hq : N[i]? = some N[i] := List.getElem?_eq_getElem d
    rw [List.drop_eq_getElem_cons d, atG] at hAi
    by_cases e : N[i] = x
    · rw [if_pos e] at hAi
      subst hAi
      simp [d, hq, e, hw]
    · rw [if_neg e] at hAi
      simp [d, hq, e]
      exact ⟨i + 1, by (try dsimp only); omega, ⟨by (try dsimp only); omega, hAi⟩, Weak.keep (by simp [hw]) (by simp)⟩
  · have : i = N.length := by omega
    subst this
    rw [List.drop_eq_nil_of_le (Nat.le_refl _), atG] at hAi
    subst hAi
    simp
end Go.AX

namespace Go.AX
open Go.Proofs
set_option linter.unusedSimpArgs false
def stpM (x : Stp) : List PV := [I64 x.kind, I64 x.id, .seq false 1 (irow x.lits), .seq true 1 (irow x.hints)]
@[simp] theorem belowR_stpM (k : Nat) (l : List Stp) : belowR k (l.map stpM) := by
  induction l with
  | nil => trivial
  | cons x xs ih => exact ⟨⟨trivial, trivial, belowR_irow k _, belowR_irow k _, trivial⟩, ih⟩
@[simp] theorem frzR_stpM (r : Nat → Nat → PV) (l : List Stp) : frzR r (l.map stpM) = l.map stpR := by
  rw [frzR_map, List.map_map]
  apply List.map_congr_left
  intro x _
  simp [stpR, stpM]
def renD (v : Int) (L : List (List Int)) (ss : List Stp) (N : List Int) : PV :=
  if (chkD v L ss).2 ≠ 0 then .tup [.agg [I64 0, .lit (.slice none 0 0)], .lit (.slice none 0 0), I64 (chkD v L ss).2]
  else if plnD v L ss = false then .tup [.agg [I64 v, .seq false 1 (L.map crowF)], .seq false 4 (ss.map stpR), I64 0]
  else .tup [.agg [I64 v, .seq false 1 ((delS (fun id => decide ((L.length : Int) < id)) N).map fun id => crowF (rnRow L id))], .seq false 4 ((trmD true N ss).map fun s => stpM (stpAt N s)), I64 0]
set_option maxRecDepth 16000 in
theorem r43Renumber_ok (v : Int) (L : List (List Int)) (ss : List Stp) (hL : L.length ≤ 400) (hn : ss.length ≤ 400) (hr : ∀ c ∈ L, c.length ≤ 100000) (hs : ∀ s ∈ ss, s.lits.length ≤ 100000 ∧ s.hints.length ≤ 1000) (N : List Int) (hN : NeedD v L ss N) (hNp : ∀ x ∈ N, 1 ≤ x) :
    AMut Tryz.prog 22 [.agg [I64 v, .seq false 1 (L.map crowF)], .seq false 4 (ss.map stpR)] [] (fun r g' => g' = [] ∧ r = .pv (renD v L ss N)) := by
  refine amutXW [] [.cell 4 _, .tmp 5, .tmp 6] hmo Tryz.func22 (by kernel_rfl) rfl rfl (by kernel_rfl) (Nat.le_of_ble_eq_true rfl) ?_
  have kN := (r43Needed_ok v L ss hL hn hr hs N hN.bad hN.all hN.one hN.len).mono (R' := fun r _ => r = .pv (.tup [.seq false 1 (irow N), I64 (chkD v L ss).2])) fun _ _ h => h.2
  have kP := rplain_ok v L ss hL hn hr hs
  have kT := (r43Trim_ok v L ss hL hn hr hs N hN).mono (R' := fun r _ => r = .pv (.tup [if (chkD v L ss).2 ≠ 0 then .lit (.slice none 0 0) else .seq false 4 ((trmD (plnD v L ss) N ss).map stpR), I64 (chkD v L ss).2])) fun _ _ h => h.2
  have kC := (r43Core_ok v L ss hL hn hr hs N hN).mono (R' := fun r _ => r = .pv (.tup [.seq false 1 (irow (delS (fun id => decide ((L.length : Int) < id)) N)), I64 (chkD v L ss).2])) fun _ _ h => h.2
  have kA := fun x => r43at_ok N x hN.len
  have hNl := hN.len
  have hRR : renD v L ss N = if (chkD v L ss).2 ≠ 0 then .tup [.agg [I64 0, .lit (.slice none 0 0)], .lit (.slice none 0 0), I64 (chkD v L ss).2]
    else if plnD v L ss = false then .tup [.agg [I64 v, .seq false 1 (L.map crowF)], .seq false 4 (ss.map stpR), I64 0]
    else .tup [.agg [I64 v, .seq false 1 ((delS (fun id => decide ((L.length : Int) < id)) N).map fun id => crowF (rnRow L id))], .seq false 4 ((trmD true N ss).map fun s => stpM (stpAt N s)), I64 0] := rfl
  generalize renD v L ss N = RR at *
  clear hN
  have hCl : (delS (fun id => decide ((L.length : Int) < id)) N).length ≤ N.length := List.length_filter_le _ _
  have hCm : ∀ x ∈ delS (fun id => decide ((L.length : Int) < id)) N, 1 ≤ x ∧ x ≤ L.length := fun x hx => by
    unfold delS at hx
    rw [List.mem_filter] at hx
    have h1 := hNp x hx.1
    have h2 := hx.2
    simp at h2
    omega
  generalize delS (fun id => decide ((L.length : Int) < id)) N = C at *
  have hTm : ∀ p, ∀ s ∈ trmD p N ss, s.lits.length ≤ 100000 ∧ s.hints.length ≤ 1000 := fun p s h => hs s (List.mem_filter.1 h).1
  have hTl := fun p => trmD_le p N ss
  generalize plnD v L ss = pl at *
  generalize hT : trmD true N ss = T at *
  generalize chkD v L ss = E at *
  obtain ⟨c1, c2⟩ := E
  simp only at *
  simp
  refine CallK.introX (CallX.pureM (p := []) (q := []) (zs := [.agg [I64 v, .seq false 1 (L.map crowF)], .seq false 4 (ss.map stpR)]) kN (by simp) rfl (by simp [argsPv]) (by simp) (by simp) ?_)
  by_cases c : c2 = 0
  rotate_left
  · rw [if_pos c] at hRR
    subst hRR
    simp [c, wkP, wkPL, isNilSl]
  subst c
  rw [if_neg (by simp)] at hRR kT
  simp
  refine CallK.intro kP (by simp) ?_
  cases pl
  · rw [if_pos rfl] at hRR
    subst hRR
    simp [wkP, wkPL, isNilSl]
  rw [if_neg (by simp)] at hRR
  subst hRR
  have hTm := hTm true
  have hTl := hTl true
  rw [hT] at kT hTm hTl
  simp
  refine CallK.introX (CallX.pureM (p := []) (q := []) (zs := [.agg [I64 v, .seq false 1 (L.map crowF)], .seq false 4 (ss.map stpR)]) kC (by simp) rfl (by simp [argsPv]) (by simp) (by simp) ?_)
  simp
  obtain ⟨Q, hQ⟩ : ∃ Q : Nat → List (List PV), ∀ i, Q i = (C.take i).map fun id => crowF (rnRow L id) := ⟨_, fun _ => rfl⟩
  have hQ0 : Q 0 = [] := by rw [hQ]; rfl
  have hQe : Q C.length = C.map fun id => crowF (rnRow L id) := by rw [hQ, List.take_length]
  have hQs : ∀ i (h : i < C.length), Q (i + 1) = Q i ++ [crowF (rnRow L C[i])] := fun i h => by
    rw [hQ, hQ, List.take_add_one, List.getElem?_eq_getElem h, List.map_append]; rfl
  have hQl : ∀ i, i ≤ C.length → (Q i).length = i := fun i h => by rw [hQ, List.length_map, List.length_take]; omega
  refine ALoop.intro (S := fun (i : Nat) => ⟨[(1, .pv (.seq false 4 (ss.map stpR))), (2, .pv (.ptr 0 0)), (4, .pv (.ptr 1 0)), (7, .pv (.seq false 1 (irow N))), (9, .pv (.ptr 2 0)), (10, .pv (.seq false 1 (irow C))), (12, .pv (I64 i))], [[.pv (I64 v), .pv (.seq false 1 (L.map crowF))], [.pv (I64 0), .pv (.lit (.slice none 0 0))], [.pv (I64 v), .own true 1 (Q i)]]⟩) (fun i => i ≤ C.length) (fun i => C.length - i) 0 ?_ (Nat.zero_le _) ?_
  · exact (Weak.nilCell (b := 2) (k := 1) (xs := [.pv (I64 v), .pv (.lit (.slice none 0 0))]) 1 true (by simp) (by simp)).trans (Weak.keep (by simp) (by simp [hQ0]))
  intro i hi
  have hql := hQl i hi
  by_cases d : i < C.length
  · have hw : w64 ((i : Int) + 1) = ((i + 1 : Nat) : Int) := by rw [w64_id (by omega) (by omega)]; omega
    have hq : C[i]? = some C[i] := List.getElem?_eq_getElem d
    have hqs := hQs i d
    obtain ⟨h1, h2⟩ := hCm _ (List.getElem_mem d)
    obtain ⟨k, hk⟩ : ∃ k : Nat, C[i] = ((k + 1 : Nat) : Int) := ⟨(C[i] - 1).toNat, by omega⟩
    have hkl : k < L.length := by omega
    have hw1 : w64 (((k + 1 : Nat) : Int) - 1) = (k : Int) := by rw [w64_id (by omega) (by omega)]; omega
    have hw0 : w64 (k : Int) = (k : Int) := w64_id (by omega) (by omega)
    have hqk : L[k]? = some L[k] := List.getElem?_eq_getElem hkl
    have hrow : rnRow L C[i] = L[k] := by
      unfold rnRow
      rw [hk, show (((k + 1 : Nat) : Int) - 1).toNat = k from by omega, List.getD_eq_getElem?_getD, hqk]; rfl
    rw [hrow] at hqs
    simp [d, hq, hk, hw1, hw0, hkl, hqk, crowF]
    exact ⟨by omega, i + 1, by (try dsimp only); omega, by (try dsimp only); omega, Weak.keep (by simp [hw]) (by simp [hqs, crowF])⟩
  have : i = C.length := by omega
  subst this
  simp
  refine CallK.introX (CallX.pureM (p := []) (q := []) (zs := [.agg [I64 v, .seq false 1 (L.map crowF)], .seq false 4 (ss.map stpR)]) kT (by simp) rfl (by simp [argsPv]) (by simp) (by simp) ?_)
  simp
  obtain ⟨R, hR⟩ : ∃ R : Nat → List (List PV), ∀ i, R i = (T.take i).map fun s => stpM (stpAt N s) := ⟨_, fun _ => rfl⟩
  have hR0 : R 0 = [] := by rw [hR]; rfl
  have hRe : R T.length = T.map fun s => stpM (stpAt N s) := by rw [hR, List.take_length]
  have hRs : ∀ i (h : i < T.length), R (i + 1) = R i ++ [stpM (stpAt N T[i])] := fun i h => by
    rw [hR, hR, List.take_add_one, List.getElem?_eq_getElem h, List.map_append]; rfl
  have hRl : ∀ i, i ≤ T.length → (R i).length = i := fun i h => by rw [hR, List.length_map, List.length_take]; omega
  obtain ⟨F0, hF0⟩ : ∃ F0 : List SV, F0 = [.pv (I64 v), .pv (.seq false 1 (L.map crowF))] := ⟨_, rfl⟩
  obtain ⟨F2, hF2⟩ : ∃ F2 : List SV, F2 = [.pv (I64 v), .own true 1 (Q C.length)] := ⟨_, rfl⟩
  have hb0 : ∀ k, belowC k F0 := fun k => by rw [hF0]; exact ⟨trivial, belowR_crowF k _, trivial⟩
  rw [← hF0, ← hF2]
  refine ALoop.intro (S := fun (x : Nat × List (List SV)) => ⟨[(4, .pv (.ptr 1 0)), (7, .pv (.seq false 1 (irow N))), (9, .pv (.ptr 2 0)), (13, .pv (.seq false 4 (T.map stpR))), (15, .own true 4 (R x.1)), (16, .pv (I64 x.1))], x.2⟩) (fun x => x.1 ≤ T.length ∧ ∃ B, x.2 = [F0, [.pv (I64 0), .pv (.lit (.slice none 0 0))], F2] ++ B) (fun x => T.length - x.1) (0, [F0, [.pv (I64 0), .pv (.lit (.slice none 0 0))], F2]) ?_ ⟨Nat.zero_le _, [], rfl⟩ ?_
  · exact (Weak.nilOwn (s := 15) 4 true (by simp)).trans (Weak.keep (by simp [hR0]) (by simp))
  rintro ⟨i, G⟩ ⟨hi, B, hG⟩
  dsimp only at hi hG
  have hrl := hRl i hi
  by_cases d : i < T.length
  · have hw : w64 ((i : Int) + 1) = ((i + 1 : Nat) : Int) := by rw [w64_id (by omega) (by omega)]; omega
    have hq : T[i]? = some T[i] := List.getElem?_eq_getElem d
    have hrs := hRs i d
    have hh := (hTm _ (List.getElem_mem d)).2
    have kAi := kA T[i].id
    simp [d, hq, stpR]
    refine CallQ0.intro kAi (by simp) ?_
    simp [d, hq, stpR]
    obtain ⟨H, hH⟩ : ∃ H : Nat → List (List PV), ∀ k, H k = irow ((T[i].hints.take k).map (atL N)) := ⟨_, fun _ => rfl⟩
    have hH0 : H 0 = [] := by rw [hH]; rfl
    have hHs : ∀ k (h : k < T[i].hints.length), H (k + 1) = H k ++ [[I64 (atL N T[i].hints[k])]] := fun k h => by
      rw [hH, hH, List.take_add_one, List.getElem?_eq_getElem h, List.map_append]
      unfold irow
      rw [List.map_append]; rfl
    have hHl : ∀ k, k ≤ T[i].hints.length → (H k).length = k := fun k h => by rw [hH]; unfold irow; rw [List.length_map, List.length_map, List.length_take]; omega
    refine ALoop.intro (S := fun (k : Nat) => ⟨[(4, .pv (.ptr 1 0)), (7, .pv (.seq false 1 (irow N))), (9, .pv (.ptr 2 0)), (13, .pv (.seq false 4 (T.map stpR))), (15, .own true 4 (R i)), (16, .pv (I64 i)), (17, .pv (.ptr G.length 0)), (18, .pv (I64 k))], G ++ [[.pv (I64 1), .pv (I64 (atL N T[i].id)), .pv (.seq false 1 (irow T[i].lits)), .own true 1 (H k)]]⟩) (fun k => k ≤ T[i].hints.length) (fun k => T[i].hints.length - k) 0 ?_ (Nat.zero_le _) ?_
    · exact (Weak.nilCell (b := G.length) (k := 3) (xs := [.pv (I64 1), .pv (I64 (atL N T[i].id)), .pv (.seq false 1 (irow T[i].lits)), .pv (.lit (.slice none 0 0))]) 1 true (by simp) (by simp)).trans (Weak.keep (by simp [stpR]) (by simp [hH0]))
    intro k hk
    have hhl := hHl k hk
    by_cases e : k < T[i].hints.length
    · have hwk : w64 ((k : Int) + 1) = ((k + 1 : Nat) : Int) := by rw [w64_id (by omega) (by omega)]; omega
      have hqk : T[i].hints[k]? = some T[i].hints[k] := List.getElem?_eq_getElem e
      have hhs := hHs k e
      have kAk := kA T[i].hints[k]
      simp [d, hq, stpR, e, hqk]
      refine CallQ0.intro kAk (by simp) ?_
      simp [d, hq, stpR, e, hqk]
      exact ⟨by omega, k + 1, by (try dsimp only); omega, by (try dsimp only); omega, Weak.keep (by simp [hwk, stpR]) (by simp [hhs])⟩
    · have : k = T[i].hints.length := by omega
      subst this
      have hHe : H T[i].hints.length = irow (T[i].hints.map (atL N)) := by rw [hH, List.take_length]
      simp [d, hq, stpR]
      refine ⟨by omega, (i + 1, G ++ [[.pv (I64 1), .pv (I64 (atL N T[i].id)), .pv (.seq false 1 (irow T[i].lits)), .pv (.seq true 1 (H T[i].hints.length))]]), by (try dsimp only); omega, ⟨by (try dsimp only); omega, B ++ [[.pv (I64 1), .pv (I64 (atL N T[i].id)), .pv (.seq false 1 (irow T[i].lits)), .pv (.seq true 1 (H T[i].hints.length))]], by (try dsimp only); rw [hG]; simp⟩, Weak.keep (by simp [hw, hrs, stpR, stpM, stpAt, hHe]) (by simp)⟩
  · have : i = T.length := by omega
    subst this
    subst hG
    have hb1 : ∀ k, belowR k (List.map (fun id => crowF (rnRow L id)) C) := fun k => by
      have := belowR_crowF k (C.map (rnRow L))
      rw [List.map_map] at this; exact this
    have hb2 : ∀ k, belowR k (List.map (fun s => stpM (stpAt N s)) T) := fun k => by
      have := belowR_stpM k (T.map (stpAt N))
      rw [List.map_map] at this; exact this
    simp [hRe, hF2, hQe, wkP, wkPL, isNilSl, hb1, hb2]
end Go.AX
