/-
  Plain facts: what is learnt, made shorter, is shown as well, and holds where its hints do.
-/
import Derived.Test.YtklaffmpfmpffaaGreatS11AxRnU
import Derived.Test.YtklaffmpfmpffaaGreatS11AxMovR
namespace Go.AX
open Go.Proofs
set_option linter.unusedSimpArgs false

/-! ### What is left stands for what was there -/
theorem hok_trans {A : Ar} {T : Tr} {R S : List Int} (h : ∀ x ∈ R, HOk A T S x) {y : Int} (hy : HOk A T R y) : HOk A T S y := by
  induction hy with
  | stop hm => exact h _ hm
  | why a b c _ ih => exact .why a b c ih
theorem deep_hok {cs : List (List Int)} {ats : List Int} {D : DK} (h : DeskT cs ats D) {L S : List Int} (hS : ∀ x ∈ L, x ∉ S → deepV D.A D.T L x = true) : ∀ (n j : Nat) (hj : j < D.t.rows.length), j < n → (-D.t.rows[j].l ∈ L ∨ deepV D.A D.T L (-D.t.rows[j].l) = true) → HOk D.A D.T S (-D.t.rows[j].l)
  | 0, j, hj, hn, _ => by omega
  | n + 1, j, hj, hn, hx => by
    by_cases c : -D.t.rows[j].l ∈ S
    · exact .stop c
    have hd : deepV D.A D.T L (-D.t.rows[j].l) = true := hx.elim (fun hm => hS _ hm c) id
    rw [deepV_step, Bool.and_eq_true] at hd
    obtain ⟨hb, ha⟩ := hd
    obtain ⟨i, hi, p1, p2, _, p4, p5⟩ := oth_in h.ok hb
    have hc := h.facts.chk _ (List.getElem_mem hj)
    obtain ⟨n0, n1, n2, _⟩ := lit6 hc
    have hw : w64 (- -D.t.rows[j].l) = D.t.rows[j].l := by rw [Int.neg_neg]; exact w64_id (by omega) (by omega)
    have hpl : plaT D.T (-D.t.rows[j].l) = j := (pla_at h hj (by omega)).1
    have hij : i = j := by omega
    subst hij
    refine why_at h hj p5 fun y hy hne => ?_
    obtain ⟨q1, _, q3⟩ := rea_ahead h hj p5
    obtain ⟨q4, q5⟩ := q3 y hy
    obtain ⟨k, hk, hki, e⟩ := q5 hne
    have hl := lvl_at h.ok.rel.1 h.facts hk e
    rw [neg_neg_at hk e]
    by_cases c0 : D.t.rows[k].lev ≤ 0
    · exact low_ok0 h S (k + 1) k hk (by omega) c0
    have hyo : y ∈ othL D.A D.T (-D.t.rows[i].l) := by
      unfold othL
      rw [if_pos hb, List.mem_filter, p4]
      refine ⟨hy, ?_⟩
      unfold lowS
      unfold lvl at hl
      simp only [Bool.not_eq_true', Bool.or_eq_false_iff, decide_eq_false_iff_not]
      exact ⟨by rw [hw]; exact hne, by omega⟩
    have hp := List.all_eq_true.1 ha y hyo
    unfold deepP stanS at hp
    simp only [Bool.or_eq_true, Bool.and_eq_true, decide_eq_true_eq] at hp
    refine deep_hok h hS n k hk (by omega) ?_
    rw [← neg_neg_at hk e]
    rcases hp with ⟨_, hp, _⟩ | ⟨_, hp⟩
    · exact .inl hp
    · exact .inr hp
theorem sho_sub (A : Ar) (T : Tr) (L : List Int) : (shoS A T L).Sublist L := shoS_sub A T L
theorem sho_hok {cs : List (List Int)} {ats : List Int} {D : DK} (h : DeskT cs ats D) {L : List Int} (hL : AllNeg D L) : ∀ x ∈ L, HOk D.A D.T (shoS D.A D.T L) x := fun x hx => by
  obtain ⟨_, j, hj, e⟩ := hL x hx
  rw [neg_neg_at hj e] at hx ⊢
  refine deep_hok h (fun y hy hn => ?_) (j + 1) j hj (by omega) (.inl hx)
  have hq : deepQ D.A D.T L y = true := Classical.byContradiction fun hq => hn (by
    unfold shoS
    rw [← List.take_append_drop 1 L, List.mem_append] at hy
    rcases hy with hy | hy
    · exact List.mem_append_left _ hy
    · refine List.mem_append_right _ ?_
      unfold delS
      rw [List.mem_filter]
      exact ⟨hy, by simpa using hq⟩)
  unfold deepQ deepB at hq
  rw [Bool.and_eq_true] at hq
  exact hq.2
theorem sho_cons (A : Ar) (T : Tr) (u : Int) (r : List Int) : ∃ r', shoS A T (u :: r) = u :: r' ∧ ∀ y ∈ r', y ∈ r := by
  refine ⟨delS (deepQ A T (u :: r)) r, by unfold shoS; rfl, fun y hy => ?_⟩
  unfold delS at hy
  exact (List.mem_filter.1 hy).1
theorem back_mem {T : Tr} {L : List Int} {u : Int} {r : List Int} (e : L = u :: r) (hv : ∀ y ∈ L, valT T y ≠ 0) (hp : ∀ y ∈ L, 0 < lvl T y) (hr : ∀ y ∈ r, lvl T y < lvl T u) :
    backS T L = 0 ∨ ∃ y ∈ r, backS T L = lvl T y := by
  obtain ⟨_, b1, _⟩ := back_is e hv hp hr
  have hlv : levTo T L L.length = L.map (lvl T) := by
    unfold levTo
    rw [List.take_length, List.filter_eq_self.2 (fun y hy => by simpa using hv y hy)]
  obtain ⟨_, h2⟩ := compS_is (L.map (lvl T))
  unfold backS levS at b1 ⊢
  rw [hlv] at b1 ⊢
  split at b1
  · rename_i c
    rw [if_pos c]
    exact .inl rfl
  · rename_i c
    rw [if_neg c]
    right
    generalize hC : compS (sortI (L.map (lvl T))) = C at *
    have hC2 : C.getD (C.length - 2) 0 = C[C.length - 2] := by rw [List.getD_eq_getElem?_getD, List.getElem?_eq_getElem (by omega)]; rfl
    rw [hC2] at b1 ⊢
    obtain ⟨y, hy, e2⟩ := List.mem_map.1 ((h2 _).1 (List.getElem_mem (show C.length - 2 < C.length by omega)))
    refine ⟨y, ?_, e2.symm⟩
    rw [e] at hy
    rcases List.mem_cons.1 hy with rfl | hy
    · omega
    · exact hy
theorem back_sub {T : Tr} {u : Int} {r r' : List Int} (hs : ∀ y ∈ r', y ∈ r) (hv : ∀ y ∈ u :: r, valT T y ≠ 0) (hp : ∀ y ∈ u :: r, 0 < lvl T y) (hr : ∀ y ∈ r, lvl T y < lvl T u) : backS T (u :: r') ≤ backS T (u :: r) := by
  obtain ⟨b0, _, b2⟩ := back_is rfl hv hp hr
  have hs' : ∀ y ∈ u :: r', y ∈ u :: r := fun y hy => by
    rcases List.mem_cons.1 hy with rfl | hy
    · exact List.mem_cons_self
    · exact List.mem_cons_of_mem _ (hs y hy)
  rcases back_mem (L := u :: r') rfl (fun y hy => hv y (hs' y hy)) (fun y hy => hp y (hs' y hy)) (fun y hy => hr y (hs y hy)) with e | ⟨y, hy, e⟩
  · omega
  · rw [e]; exact b2 y (hs y hy)

/-! ### What is shown holds -/
theorem splitS_okL {m : List Bool} {x : Int} (h : litS m x = true) : okL x = true ∧ 0 ≤ litX x := by
  have hk : okL x = true := by
    rw [okL_iff]
    unfold litS at h
    simp only [Bool.and_eq_true, decide_eq_true_eq] at h
    have h1 := h.1
    unfold splitS at h1
    split at h1
    · omega
    · split at h1
      · omega
      · exact absurd rfl h1
  refine ⟨hk, ?_⟩
  have := (okL_iff x).1 hk
  unfold litX absS
  rw [if_pos hk]
  split <;> omega
theorem litS_neg {m : List Bool} {x : Int} (h : litS m x = true) : litS m (-x) = false := by
  obtain ⟨hk, _⟩ := splitS_okL h
  have hr := (okL_iff x).1 hk
  unfold litS splitS at *
  by_cases c : 0 < x
  · rw [if_pos (by omega)] at h
    rw [if_neg (by omega), if_pos (by omega)]
    simp only [Int.neg_neg] at h ⊢
    revert h
    cases hb : (decide (x ≤ (m.length : Int)) && m.getD (x - 1).toNat false) <;> simp
  · rw [if_neg (by omega), if_pos (by omega)] at h
    rw [if_pos (by omega)]
    simp only at h ⊢
    revert h
    cases hb : (decide (-x ≤ (m.length : Int)) && m.getD (-x - 1).toNat false) <;> simp
theorem litS_not {m : List Bool} {x : Int} (hk : okL x = true) (h : litS m x = false) : litS m (-x) = true := by
  have hr := (okL_iff x).1 hk
  unfold litS splitS at *
  by_cases c : 0 < x
  · rw [if_pos (by omega)] at h
    rw [if_neg (by omega), if_pos (by omega)]
    simp only [Int.neg_neg] at h ⊢
    revert h
    have : x ≠ 0 := by omega
    cases hb : (decide (x ≤ (m.length : Int)) && m.getD (x - 1).toNat false) <;> simp [this]
  · rw [if_neg (by omega), if_pos (by omega)] at h
    rw [if_pos (by omega)]
    simp only at h ⊢
    revert h
    have : -x ≠ 0 := by omega
    cases hb : (decide (-x ≤ (m.length : Int)) && m.getD (-x - 1).toNat false) <;> simp [this]
theorem val3_in {l : List Int} {x : Int} (h : val3 l x = -1) : w64 (-x) ∈ l := by
  unfold val3 at h
  split at h
  · omega
  · split at h
    · omega
    · split at h
      · assumption
      · omega
theorem true_m1 {m : List Bool} {l : List Int} (hl : ∀ y ∈ l, litS m y = true) {x : Int} (hx : litS m x = true) : val3 l x ≠ -1 := fun e => by
  have h1 := val3_in e
  obtain ⟨hk, _⟩ := splitS_okL hx
  have hr := (okL_iff x).1 hk
  rw [w64_id (by omega) (by omega)] at h1
  have := hl _ h1
  rw [litS_neg hx] at this
  cases this
theorem unit_holds {m : List Bool} {l c : List Int} (hc : c.length ≤ 1000000) (hl : ∀ y ∈ l, litS m y = true) (hh : holdsS c m = true) (hu : (unitS l c).2 = true) : litS m (unitS l c).1 = true := by
  obtain ⟨y, hy, hyt⟩ := List.any_eq_true.1 hh
  have hg := ct_gen l c 0 0 0 (by omega) (by omega) (by omega)
  have hct : ctS l c = (((0 + cnt3 l c 1 : Nat) : Int), ((0 + cnt3 l c (-1) : Nat) : Int), ((0 + (opn3 l c).length : Nat) : Int)) := hg
  have h0 : cnt3 l c 1 = 0 ∧ (opn3 l c).length = 1 ∧ (unitS l c).1 = c.foldl (opF l) 0 := by
    unfold unitS at hu ⊢
    rw [hct] at hu ⊢
    split at hu
    · cases hu
    · rename_i hn
      rw [if_neg hn]
      simp only [ne_eq, not_or, Decidable.not_not] at hn
      exact ⟨by omega, by omega, rfl⟩
  obtain ⟨a1, a2, a3⟩ := h0
  obtain ⟨u, hu1⟩ : ∃ u, opn3 l c = [u] := List.length_eq_one_iff.1 a2
  rw [op_gen, hu1] at a3
  have hyo : y ∈ opn3 l c := by
    unfold opn3
    rw [List.mem_filter]
    refine ⟨hy, ?_⟩
    rw [decide_eq_true_eq]
    refine ⟨(splitS_okL hyt).2, fun e => ?_, true_m1 hl hyt⟩
    unfold cnt3 at a1
    rw [List.length_eq_zero_iff, List.filter_eq_nil_iff] at a1
    exact a1 y hy (by simpa using e)
  rw [hu1, List.mem_singleton] at hyo
  rw [a3, ← hyo]
  exact hyt
theorem chn_sound {m : List Bool} : ∀ (hs : List (List Int)) (l : List Int) (n : Nat), (∀ c ∈ hs, c.length ≤ 1000000) → (∀ y ∈ l, litS m y = true) → (∀ c ∈ hs, holdsS c m = true) → (chnF l hs n).2.2 = 0 → False
  | [], l, n, _, _, _, h => by simp [chnF] at h
  | c :: hs, l, n, hc, hl, hh, h => by
    rw [chnF] at h
    split at h
    · rename_i h1
      obtain ⟨y, hy, hyt⟩ := List.any_eq_true.1 (hh c List.mem_cons_self)
      exact true_m1 hl hyt (clS_m1.1 h1 y hy (splitS_okL hyt).2)
    · split at h
      · rename_i h2
        have hu := unit_holds (hc c List.mem_cons_self) hl (hh c List.mem_cons_self) h2
        refine chn_sound hs _ _ (fun c hc' => hc c (List.mem_cons_of_mem _ hc')) (fun y hy => ?_) (fun c hc' => hh c (List.mem_cons_of_mem _ hc')) h
        rcases List.mem_append.1 hy with hy | hy
        · exact hl y hy
        · rw [List.mem_singleton] at hy; rw [hy]; exact hu
      · simp at h
theorem show_sound {m : List Bool} {S : List Int} {hs : List (List Int)} (hS : ∀ y ∈ S, litChk y 6 = 0) (hc : ∀ c ∈ hs, c.length ≤ 1000000) (h : (chnF (staL S) hs 0).2.2 = 0) (hh : ∀ c ∈ hs, holdsS c m = true) : holdsS S m = true := by
  refine Classical.byContradiction fun hn => chn_sound hs (staL S) 0 hc (fun y hy => ?_) hh h
  obtain ⟨x, hx, e⟩ := (staL_mem S y).1 hy
  obtain ⟨n0, n1, n2, _, hw⟩ := lit6 (hS x hx)
  rw [e, hw]
  refine litS_not ((okL_iff x).2 (by omega)) ?_
  rw [Bool.not_eq_true] at hn
  have := List.any_eq_false.1 hn x hx
  simpa using this
end Go.AX
