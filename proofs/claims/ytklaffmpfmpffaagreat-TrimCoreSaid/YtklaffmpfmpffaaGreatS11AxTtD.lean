/-
  Plain facts: what a checker takes may be added: if all clauses hold somewhere, they do with the new one.
  Plain facts: what is accepted holds nowhere; the core, renumbered, is accepted.
-/
import Derived.Test.YtklaffmpfmpffaaGreatS11AxTtB
import Derived.Test.YtklaffmpfmpffaaGreatS11AxMovR
namespace Go.AX
open Go.Proofs
set_option linter.unusedSimpArgs false

/-! ### What is shown holds -/
theorem splitS_okLT {m : List Bool} {x : Int} (h : litS m x = true) : okL x = true ∧ 0 ≤ litX x := by
  have hk : okL x = true := by
    rw [okL_iff]
    unfold litS at h
    simp only [Bool.and_eq_true, decide_eq_true_eq] at h
    have h1 := h.1
    unfold splitS at h1
    split at h1
    · omega
    · split at h1
      · omega
      · exact absurd rfl h1
  refine ⟨hk, ?_⟩
  have := (okL_iff x).1 hk
  unfold litX absS
  rw [if_pos hk]
  split <;> omega
theorem litS_negT {m : List Bool} {x : Int} (h : litS m x = true) : litS m (-x) = false := by
  obtain ⟨hk, _⟩ := splitS_okLT h
  have hr := (okL_iff x).1 hk
  unfold litS splitS at *
  by_cases c : 0 < x
  · rw [if_pos (by omega)] at h
    rw [if_neg (by omega), if_pos (by omega)]
    simp only [Int.neg_neg] at h ⊢
    revert h
    cases hb : (decide (x ≤ (m.length : Int)) && m.getD (x - 1).toNat false) <;> simp
  · rw [if_neg (by omega), if_pos (by omega)] at h
    rw [if_pos (by omega)]
    simp only at h ⊢
    revert h
    cases hb : (decide (-x ≤ (m.length : Int)) && m.getD (-x - 1).toNat false) <;> simp
theorem litS_notT {m : List Bool} {x : Int} (hk : okL x = true) (h : litS m x = false) : litS m (-x) = true := by
  have hr := (okL_iff x).1 hk
  unfold litS splitS at *
  by_cases c : 0 < x
  · rw [if_pos (by omega)] at h
    rw [if_neg (by omega), if_pos (by omega)]
    simp only [Int.neg_neg] at h ⊢
    revert h
    have : x ≠ 0 := by omega
    cases hb : (decide (x ≤ (m.length : Int)) && m.getD (x - 1).toNat false) <;> simp [this]
  · rw [if_neg (by omega), if_pos (by omega)] at h
    rw [if_pos (by omega)]
    simp only at h ⊢
    revert h
    have : -x ≠ 0 := by omega
    cases hb : (decide (-x ≤ (m.length : Int)) && m.getD (-x - 1).toNat false) <;> simp [this]
theorem val3_inT {l : List Int} {x : Int} (h : val3 l x = -1) : w64 (-x) ∈ l := by
  unfold val3 at h
  split at h
  · omega
  · split at h
    · omega
    · split at h
      · assumption
      · omega
theorem true_m1T {m : List Bool} {l : List Int} (hl : ∀ y ∈ l, litS m y = true) {x : Int} (hx : litS m x = true) : val3 l x ≠ -1 := fun e => by
  have h1 := val3_inT e
  obtain ⟨hk, _⟩ := splitS_okLT hx
  have hr := (okL_iff x).1 hk
  rw [w64_id (by omega) (by omega)] at h1
  have := hl _ h1
  rw [litS_negT hx] at this
  cases this
theorem unit_holdsT {m : List Bool} {l c : List Int} (hc : c.length ≤ 1000000) (hl : ∀ y ∈ l, litS m y = true) (hh : holdsS c m = true) (hu : (unitS l c).2 = true) : litS m (unitS l c).1 = true := by
  obtain ⟨y, hy, hyt⟩ := List.any_eq_true.1 hh
  have hg := ct_gen l c 0 0 0 (by omega) (by omega) (by omega)
  have hct : ctS l c = (((0 + cnt3 l c 1 : Nat) : Int), ((0 + cnt3 l c (-1) : Nat) : Int), ((0 + (opn3 l c).length : Nat) : Int)) := hg
  have h0 : cnt3 l c 1 = 0 ∧ (opn3 l c).length = 1 ∧ (unitS l c).1 = c.foldl (opF l) 0 := by
    unfold unitS at hu ⊢
    rw [hct] at hu ⊢
    split at hu
    · cases hu
    · rename_i hn
      rw [if_neg hn]
      simp only [ne_eq, not_or, Decidable.not_not] at hn
      exact ⟨by omega, by omega, rfl⟩
  obtain ⟨a1, a2, a3⟩ := h0
  obtain ⟨u, hu1⟩ : ∃ u, opn3 l c = [u] := List.length_eq_one_iff.1 a2
  rw [op_gen, hu1] at a3
  have hyo : y ∈ opn3 l c := by
    unfold opn3
    rw [List.mem_filter]
    refine ⟨hy, ?_⟩
    rw [decide_eq_true_eq]
    refine ⟨(splitS_okLT hyt).2, fun e => ?_, true_m1T hl hyt⟩
    unfold cnt3 at a1
    rw [List.length_eq_zero_iff, List.filter_eq_nil_iff] at a1
    exact a1 y hy (by simpa using e)
  rw [hu1, List.mem_singleton] at hyo
  rw [a3, ← hyo]
  exact hyt
theorem chn_soundT {m : List Bool} : ∀ (hs : List (List Int)) (l : List Int) (n : Nat), (∀ c ∈ hs, c.length ≤ 1000000) → (∀ y ∈ l, litS m y = true) → (∀ c ∈ hs, holdsS c m = true) → (chnF l hs n).2.2 = 0 → False
  | [], l, n, _, _, _, h => by simp [chnF] at h
  | c :: hs, l, n, hc, hl, hh, h => by
    rw [chnF] at h
    split at h
    · rename_i h1
      obtain ⟨y, hy, hyt⟩ := List.any_eq_true.1 (hh c List.mem_cons_self)
      exact true_m1T hl hyt (clS_m1.1 h1 y hy (splitS_okLT hyt).2)
    · split at h
      · rename_i h2
        have hu := unit_holdsT (hc c List.mem_cons_self) hl (hh c List.mem_cons_self) h2
        refine chn_soundT hs _ _ (fun c hc' => hc c (List.mem_cons_of_mem _ hc')) (fun y hy => ?_) (fun c hc' => hh c (List.mem_cons_of_mem _ hc')) h
        rcases List.mem_append.1 hy with hy | hy
        · exact hl y hy
        · rw [List.mem_singleton] at hy; rw [hy]; exact hu
      · simp at h
def flipM (m : List Bool) (p : Int) : List Bool := (m ++ List.replicate 100000 false).set ((splitS p).1 - 1).toNat (splitS p).2
theorem splitS_ok {x : Int} (h : okL x = true) : 1 ≤ (splitS x).1 ∧ (splitS x).1 ≤ 100000 ∧ (x = (splitS x).1 ∧ (splitS x).2 = true ∨ x = -(splitS x).1 ∧ (splitS x).2 = false) := by
  have hr := (okL_iff x).1 h
  unfold splitS
  by_cases c : 0 < x
  · rw [if_pos (by omega)]
    exact ⟨by simp only; omega, by simp only; omega, .inl ⟨rfl, rfl⟩⟩
  · rw [if_neg (by omega), if_pos (by omega)]
    exact ⟨by simp only; omega, by simp only; omega, .inr ⟨by simp only; omega, rfl⟩⟩
theorem litS_eq {m : List Bool} {x : Int} (h : okL x = true) : litS m x = (m.getD ((splitS x).1 - 1).toNat false == (splitS x).2) := by
  obtain ⟨h1, h2, _⟩ := splitS_ok h
  unfold litS
  rw [decide_eq_true (show (splitS x).1 ≠ 0 by omega), Bool.true_and]
  by_cases c : (splitS x).1 ≤ (m.length : Int)
  · rw [decide_eq_true c, Bool.true_and]
  · have : m.getD ((splitS x).1 - 1).toNat false = false := by
      rw [List.getD_eq_getElem?_getD, List.getElem?_eq_none (by omega)]; rfl
    rw [decide_eq_false c, this, Bool.false_and]
theorem flip_get (m : List Bool) {p x : Int} (hp : okL p = true) (hx : okL x = true) : (flipM m p).getD ((splitS x).1 - 1).toNat false = if (splitS x).1 = (splitS p).1 then (splitS p).2 else m.getD ((splitS x).1 - 1).toNat false := by
  obtain ⟨p1, p2, _⟩ := splitS_ok hp
  obtain ⟨x1, x2, _⟩ := splitS_ok hx
  unfold flipM
  rw [List.getD_eq_getElem?_getD, List.getElem?_set, List.length_append, List.length_replicate]
  by_cases c : (splitS x).1 = (splitS p).1
  · rw [if_pos c, if_pos (by rw [c]), if_pos (by omega)]; rfl
  · rw [if_neg c, if_neg (by omega), List.getElem?_append]
    split
    · rw [List.getD_eq_getElem?_getD]
    · rw [List.getElem?_replicate, if_pos (by omega), List.getD_eq_getElem?_getD, List.getElem?_eq_none (by omega)]; rfl
theorem flip_self (m : List Bool) {p : Int} (hp : okL p = true) : litS (flipM m p) p = true := by
  rw [litS_eq hp, flip_get m hp hp, if_pos rfl]; simp
theorem flip_other (m : List Bool) {p x : Int} (hp : okL p = true) (hx : okL x = true) (h1 : x ≠ p) (h2 : x ≠ -p) : litS (flipM m p) x = litS m x := by
  rw [litS_eq hx, litS_eq hx, flip_get m hp hx, if_neg]
  intro e
  obtain ⟨_, _, p3⟩ := splitS_ok hp
  obtain ⟨_, _, x3⟩ := splitS_ok hx
  omega
theorem litS_ok {m : List Bool} {x : Int} (h : litS m x = true) : okL x = true := (splitS_okLT h).1
theorem holdsT_iff {c : List Int} {m : List Bool} : holdsS c m = true ↔ ∃ x ∈ c, litS m x = true := List.any_eq_true
theorem val3_one {l : List Int} {x : Int} (h : val3 l x = 1) : x ∈ l := by
  unfold val3 at h
  split at h
  · omega
  · split at h
    · assumption
    · split at h <;> omega
theorem chn_true {m : List Bool} : ∀ (hs : List (List Int)) (l : List Int) (n : Nat), (∀ c ∈ hs, c.length ≤ 1000000) → (∀ y ∈ l, litS m y = true) → (∀ c ∈ hs, holdsS c m = true) → (chnF l hs n).2.2 = 23 → ∀ y ∈ (chnF l hs n).1, litS m y = true
  | [], l, n, _, hl, _, _ => hl
  | c :: hs, l, n, hc, hl, hh, h => by
    rw [chnF] at h ⊢
    split at h
    · simp at h
    · rename_i h1
      rw [if_neg h1]
      split at h
      · rename_i h2
        rw [if_pos h2]
        have hu := unit_holdsT (hc c List.mem_cons_self) hl (hh c List.mem_cons_self) h2
        refine chn_true hs _ _ (fun c hc' => hc c (List.mem_cons_of_mem _ hc')) (fun y hy => ?_) (fun c hc' => hh c (List.mem_cons_of_mem _ hc')) h
        rcases List.mem_append.1 hy with hy | hy
        · exact hl y hy
        · rw [List.mem_singleton] at hy; rw [hy]; exact hu
      · simp at h
theorem staE_zero {c : List Int} (h : staE c = 0) : ∀ x ∈ c, okL x = true := by
  unfold staE at h
  split at h
  · cases h
  · rename_i hb
    intro x hx
    rw [Bool.not_eq_true] at hb
    have := List.any_eq_false.1 hb x hx
    simp only [decide_eq_true_eq] at this
    cases ho : okL x
    · have h0 : 0 ≤ litX x := by omega
      rw [litX_nn, ho] at h0; cases h0
    · rfl
theorem sta_true {m : List Bool} {c : List Int} (h : staE c = 0) (hn : ¬ holdsS c m = true) : ∀ y ∈ staL c, litS m y = true := fun y hy => by
  obtain ⟨x, hx, e⟩ := (staL_mem c y).1 hy
  have ho := staE_zero h x hx
  have hr := (okL_iff x).1 ho
  rw [e, w64_id (by omega) (by omega)]
  refine litS_notT ho ?_
  cases e : litS m x
  · rfl
  · exact absurd (holdsT_iff.2 ⟨x, hx, e⟩) hn
theorem refute_holds {m : List Bool} {l D : List Int} {p : Int} {hs : List (List Int)} (hp : okL p = true) (hpm : litS m p = false) (hl : ∀ y ∈ l, litS m y = true) (hc : ∀ c ∈ hs, c.length ≤ 1000000) (hh : ∀ c ∈ hs, holdsS c m = true) (h : refE l D p hs = 0) : holdsS D (flipM m p) = true := by
  refine Classical.byContradiction fun hn => ?_
  have hr := (okL_iff p).1 hp
  have hN : litN p = -p := by unfold litN; rw [if_pos hp]
  have hf : ∀ x ∈ D, okL x = true → x ≠ litN p → litS m x = false := fun x hx ho hx2 => by
    rw [hN] at hx2
    by_cases e : x = p
    · rw [e]; exact hpm
    · rw [← flip_other m hp ho e hx2]
      cases e2 : litS (flipM m p) x
      · rfl
      · exact absurd (holdsT_iff.2 ⟨x, hx, e2⟩) hn
  have key : ∀ (E : List Int), (∀ x ∈ E, x ∈ D) → ∀ out, (∀ y ∈ out, litS m y = true) → ∃ out', E.foldl (refF p) (some out) = some out' ∧ ∀ y ∈ out', litS m y = true := by
    intro E
    induction E with
    | nil => exact fun _ out ho => ⟨out, rfl, ho⟩
    | cons x E ih =>
      intro hE out ho
      have hE' : ∀ x ∈ E, x ∈ D := fun y hy => hE y (List.mem_cons_of_mem _ hy)
      rw [List.foldl_cons]
      have hF : refF p (some out) x = if litV x = 0 ∨ x = litN p then some out else if val3 out x = 1 then none else if val3 out x = 0 then some (out ++ [w64 (-x)]) else some out := rfl
      rw [hF]
      by_cases c1 : litV x = 0 ∨ x = litN p
      · rw [if_pos c1]; exact ih hE' out ho
      rw [if_neg c1]
      have hox : okL x = true := by
        cases e : okL x
        · exact absurd (.inl (by rw [litV_zero]; exact e)) c1
        · rfl
      have hxf := hf x (hE x List.mem_cons_self) hox fun e => c1 (.inr e)
      have hxr := (okL_iff x).1 hox
      by_cases c2 : val3 out x = 1
      · have := ho x (val3_one c2)
        rw [hxf] at this; cases this
      rw [if_neg c2]
      by_cases c3 : val3 out x = 0
      · rw [if_pos c3]
        refine ih hE' _ fun y hy => ?_
        rcases List.mem_append.1 hy with hy | hy
        · exact ho y hy
        · rw [List.mem_singleton] at hy
          rw [hy, w64_id (by omega) (by omega)]
          exact litS_notT hox hxf
      · rw [if_neg c3]; exact ih hE' out ho
  obtain ⟨out, h1, h2⟩ := key D (fun x hx => hx) l hl
  have hO : refO l D p D.length = some out := by unfold refO; rw [List.take_length]; exact h1
  unfold refE at h
  rw [hO] at h
  simp only at h
  split at h
  · cases h
  · rename_i h3
    exact chn_soundT hs out 0 hc h2 hh (by simpa using h3)
theorem spl_parts (hs : List Int) : ∀ i, i ≤ hs.length → (∀ x ∈ (splTo hs i).1, 0 ≤ x ∧ x ∈ hs) ∧ ∀ g ∈ (splTo hs i).2, g ≠ [] ∧ ∀ x ∈ g.tail, 0 ≤ x ∧ x ∈ hs
  | 0, _ => ⟨fun x hx => absurd hx List.not_mem_nil, fun x hx => absurd hx List.not_mem_nil⟩
  | i + 1, hi => by
    obtain ⟨h1, h2⟩ := spl_parts hs i (by omega)
    have hm : hs[i] ∈ hs := List.getElem_mem _
    rw [splTo_succ hs (by omega)]
    unfold splF
    split
    · refine ⟨h1, fun g hg => ?_⟩
      rcases List.mem_append.1 hg with hg | hg
      · exact h2 g hg
      · rw [List.mem_singleton] at hg; subst hg; exact ⟨by simp, fun x hx => absurd hx List.not_mem_nil⟩
    · rename_i hn
      split
      · refine ⟨fun x hx => ?_, h2⟩
        rcases List.mem_append.1 hx with hx | hx
        · exact h1 x hx
        · rw [List.mem_singleton] at hx; subst hx; exact ⟨by omega, hm⟩
      · rename_i hne
        refine ⟨h1, fun g hg => ?_⟩
        rcases List.mem_append.1 hg with hg | hg
        · exact h2 g (List.dropLast_subset _ hg)
        · rw [List.mem_singleton] at hg
          have hlast : (splTo hs i).2.getLastD [] ∈ (splTo hs i).2 := by
            rw [List.getLastD_eq_getLast?, List.getLast?_eq_some_getLast hne]
            exact List.getLast_mem hne
          obtain ⟨k1, k2⟩ := h2 _ hlast
          generalize (splTo hs i).2.getLastD [] = u at *
          subst hg
          obtain ⟨a, r, rfl⟩ := List.exists_cons_of_ne_nil k1
          refine ⟨by simp, fun x hx => ?_⟩
          rw [List.cons_append, List.tail_cons] at hx
          rcases List.mem_append.1 hx with hx | hx
          · exact k2 x hx
          · rw [List.mem_singleton] at hx; subst hx; exact ⟨by omega, hm⟩
theorem canS_all (cs : List (List Int)) (p : Int) (h1 : litN p ≠ 0) : ∀ n i, i < n → hasS (cs.getD i []) (litN p) = true → (i : Int) ∈ canS cs p n
  | n + 1, i, hi, h2 => by
    rw [canS]
    by_cases e : i = n
    · subst e
      rw [if_pos ⟨h1, h2⟩]
      exact List.mem_append_right _ (by simp)
    · have := canS_all cs p h1 n i (by omega) h2
      split
      · exact List.mem_append_left _ this
      · exact this
theorem ratGo_zero {f : Int → Bool} : ∀ {l : List Int} {n : Nat}, (ratGo f l n).2 = 0 → ∀ i ∈ l, f i = true
  | i :: l, n, h, j, hj => by
    rw [ratGo] at h
    split at h
    · cases h
    · rename_i hf
      rcases List.mem_cons.1 hj with rfl | hj
      · simpa using hf
      · exact ratGo_zero h j hj
def InC (c : Ck) (rows : List (List Int)) : Prop := ∀ r ∈ rows, ∃ q ∈ c.m, q.2 = r
theorem rows_in {c : Ck} {hints ids : List Int} (hb : ∀ h ∈ hints, -10000000 ≤ h ∧ h ≤ 10000000) (ht : thereS c hints = true) (hi : ∀ x ∈ ids, 0 ≤ x ∧ x ∈ hints) : InC c (rowsS c ids) := fun r hr => by
  obtain ⟨x, hx, rfl⟩ := List.mem_map.1 hr
  obtain ⟨h0, hm⟩ := hi x hx
  have h1 := List.all_eq_true.1 ht x hm
  have hB := hb x hm
  have : absM x = x := by
    unfold absM
    rw [w64_id (by omega) (by omega), if_neg (by omega)]
  rw [this] at h1
  obtain ⟨y, hy⟩ := Option.isSome_iff_exists.1 h1
  exact ⟨_, lk_in hy, by rw [hy]; rfl⟩
theorem each_in {c : Ck} : ∀ (gs : List (List Int)) (each : List (Int × List (List Int))), (∀ g ∈ gs, InC c (rowsS c g.tail)) → (∀ j h, lk each j = some h → InC c h) → ∀ j h, lk (gs.foldl (noteF c) each) j = some h → InC c h
  | [], each, _, he, j, h, hj => he j h hj
  | g :: gs, each, hg, he, j, h, hj => by
    rw [List.foldl_cons] at hj
    refine each_in gs (noteF c each g) (fun g' hg' => hg g' (List.mem_cons_of_mem _ hg')) (fun j' h' hj' => ?_) j h hj
    unfold noteF at hj'
    split at hj'
    · rw [lk_pt] at hj'
      split at hj'
      · cases hj'; exact hg g List.mem_cons_self
      · exact he j' h' hj'
    · exact he j' h' hj'
theorem add_sound {c : Ck} (hc : CkG c) (hl : ∀ q ∈ c.m, q.2.length ≤ 1000000) {lits hints : List Int} (hb : ∀ h ∈ hints, -10000000 ≤ h ∧ h ≤ 10000000) (ht : thereS c hints = true) (hs : shoC c lits hints = 0) {m : List Bool} (hm : ∀ q ∈ c.m, holdsS q.2 m = true) : ∃ m', (∀ q ∈ c.m, holdsS q.2 m' = true) ∧ holdsS lits m' = true := by
  by_cases hn : holdsS lits m = true
  · exact ⟨m, hm, hn⟩
  obtain ⟨p1, p2⟩ := spl_parts hints hints.length (Nat.le_refl _)
  have ha := rows_in hb ht p1
  have hlen : ∀ {R : List (List Int)}, InC c R → (∀ r ∈ R, r.length ≤ 1000000) ∧ ∀ r ∈ R, holdsS r m = true := fun hR => ⟨fun r hr => by obtain ⟨q, hq, rfl⟩ := hR r hr; exact hl q hq, fun r hr => by obtain ⟨q, hq, rfl⟩ := hR r hr; exact hm q hq⟩
  have hs' : shoC c lits hints = if (shwS lits (rowsS c (splTo hints hints.length).1)).2 ≠ 23 ∨ lits = [] then (shwS lits (rowsS c (splTo hints hints.length).1)).2 else if (ratS (rowsS c (idsS c)) lits (rowsS c (splTo hints hints.length).1) (eachS c (splTo hints hints.length).2)).2 ≠ 0 then 24 else 0 := rfl
  rw [hs'] at hs
  generalize hA : rowsS c (splTo hints hints.length).1 = A at *
  obtain ⟨a1, a2⟩ := hlen ha
  split at hs
  · exfalso
    unfold shwS at hs
    split at hs
    · rename_i h0
      exact chn_soundT A (staL lits) 0 a1 (sta_true h0 hn) a2 hs
    · rename_i h0; exact h0 hs
  · rename_i h0
    rw [not_or] at h0
    split at hs
    · cases hs
    rename_i hr
    have hr0 : (ratS (rowsS c (idsS c)) lits A (eachS c (splTo hints hints.length).2)).2 = 0 := by simpa using hr
    unfold ratS at hr0
    split at hr0
    · rename_i h; exact absurd hr0 h
    rename_i hst
    have hst' : staE lits = 0 := by simpa using hst
    split at hr0
    · cases hr0
    split at hr0
    · rename_i h23 hne
      exact absurd hr0 (by
        intro e
        exact (hn ((False.elim (chn_soundT A (staL lits) 0 a1 (sta_true hst' hn) a2 e)))))
    rename_i h23
    have h23' : (chnF (staL lits) A 0).2.2 = 23 := by simpa using h23
    have hlt := chn_true A (staL lits) 0 a1 (sta_true hst' hn) a2 h23'
    generalize (chnF (staL lits) A 0).1 = l at *
    obtain ⟨p, r, rfl⟩ := List.exists_cons_of_ne_nil h0.2
    have hp := staE_zero hst' p List.mem_cons_self
    have hpr := (okL_iff p).1 hp
    have hpm : litS m p = false := by
      cases e : litS m p
      · rfl
      · exact absurd (holdsT_iff.2 ⟨p, List.mem_cons_self, e⟩) hn
    have hN : litN p = -p := by unfold litN; rw [if_pos hp]
    refine ⟨flipM m p, fun q hq => ?_, holdsT_iff.2 ⟨p, List.mem_cons_self, flip_self m hp⟩⟩
    by_cases hin : litN p ∈ q.2
    · obtain ⟨i, hi, e⟩ : ∃ i, i < (rowsS c (idsS c)).length ∧ (rowsS c (idsS c)).getD i [] = q.2 := by
        have hk : q.1 ∈ idsS c := by unfold idsS; rw [mem_sortZ]; exact List.mem_map_of_mem hq
        obtain ⟨i, hi, e⟩ := List.getElem_of_mem hk
        have hi' : i < (rowsS c (idsS c)).length := by unfold rowsS; rw [List.length_map]; exact hi
        refine ⟨i, hi', ?_⟩
        rw [List.getD_eq_getElem?_getD]
        unfold rowsS
        rw [List.getElem?_map, List.getElem?_eq_getElem hi, e]
        show (lk c.m q.1).getD [] = q.2
        rw [hc.rs.lk (show (q.1, q.2) ∈ c.m from hq)]
        rfl
      have hon : okL (-p) = true := (okL_iff _).2 (by omega)
      have hcan := canS_all (rowsS c (idsS c)) p (by rw [hN]; omega) (rowsS c (idsS c)).length i hi (by rw [e]; unfold hasS; rw [hN, hon, Bool.true_and, decide_eq_true_eq, ← hN]; exact hin)
      have hf := ratGo_zero hr0 _ hcan
      unfold refB at hf
      split at hf
      · cases hf
      rename_i h hh
      have hE : InC c h := each_in _ [] (fun g hg => rows_in hb ht (p2 g hg).2) (fun j h hj => by cases hj) _ _ hh
      obtain ⟨e1, e2⟩ := hlen hE
      rw [Int.toNat_natCast, e] at hf
      exact refute_holds hp hpm hlt e1 e2 (of_decide_eq_true hf)
    · obtain ⟨x, hx, hxt⟩ := holdsT_iff.1 (hm q hq)
      refine holdsT_iff.2 ⟨x, hx, ?_⟩
      by_cases e : x = p
      · rw [e]; exact flip_self m hp
      · rw [flip_other m hp (litS_ok hxt) e (fun h => hin (by rw [hN, ← h]; exact hx))]
        exact hxt
end Go.AX

namespace Go.AX
open Go.Proofs
set_option linter.unusedSimpArgs false

theorem mayP_hints {s : Stp} (h : mayP s = true) (hk : s.kind = 1) : ∀ x ∈ s.hints, -10000000 ≤ x ∧ x ≤ 10000000 := by
  unfold mayP at h
  rw [if_pos hk] at h
  simp only [Bool.and_eq_true] at h
  have hw := h.2.2.2
  unfold wthnS at hw
  rw [Bool.and_eq_true, Bool.not_eq_true', List.any_eq_false] at hw
  intro x hx
  have := hw.2 x hx
  unfold outW at this
  simp at this
  omega
theorem chk_unsat : ∀ (ss : List Stp) (c : Ck) (i : Nat), CkG c → (∀ q ∈ c.m, q.2.length ≤ 1000000) → (∀ s ∈ ss, s.lits.length ≤ 1000000) → (∃ m, ∀ q ∈ c.m, holdsS q.2 m = true) → c.done = false → (chkGo c ss i).2 ≠ 0
  | [], c, i, _, _, _, _, hd => by rw [chkGo, if_neg (by rw [hd]; simp)]; show ¬ ((25 : Int) = 0); decide
  | s :: ss, c, i, hc, hl, hs, ⟨m, hm⟩, hd => fun h => by
    obtain ⟨h1, h2⟩ := chkGo_cons h
    obtain ⟨hmay, h3⟩ := stepC_zero h1
    obtain ⟨g1, _⟩ := stepC_good hc h1
    have hs' : ∀ s ∈ ss, s.lits.length ≤ 1000000 := fun t ht => hs t (List.mem_cons_of_mem _ ht)
    rcases h3 with ⟨_, _, e⟩ | ⟨k, a1, _, a3, a4, e⟩
    · rw [e] at h2 g1
      have hsub := foldl_dl_subl s.hints c.m
      exact chk_unsat ss _ _ g1 (fun q hq => hl q (hsub.subset hq)) hs' ⟨m, fun q hq => hm q (hsub.subset hq)⟩ hd h2
    · rw [e] at h2 g1
      obtain ⟨m', b1, b2⟩ := add_sound hc hl (mayP_hints hmay k) a3 a4 hm
      have hid := (mayP_id hmay).2.2
      have hmm := (hc.put (l := s.lits) a1 (by omega)).1
      refine chk_unsat ss _ _ g1 (fun q hq => ?_) hs' ⟨m', fun q hq => ?_⟩ ?_ h2
      · rw [hmm] at hq
        rcases List.mem_append.1 hq with hq | hq
        · exact hl q hq
        · rw [List.mem_singleton] at hq; subst hq; exact hs s List.mem_cons_self
      · rw [hmm] at hq
        rcases List.mem_append.1 hq with hq | hq
        · exact b1 q hq
        · rw [List.mem_singleton] at hq; subst hq; exact b2
      · show (c.done || decide (s.lits.length = 0)) = false
        rw [hd, Bool.false_or, decide_eq_false_iff_not, List.length_eq_zero_iff]
        intro e2
        rw [e2] at b2
        cases b2
theorem chk_first {v : Int} {L : List (List Int)} {ss : List Stp} (hL : L.length ≤ 100000) (hl : ∀ c ∈ L, c.length ≤ 1000000) (hs : ∀ s ∈ ss, s.lits.length ≤ 1000000) (h : (chkS v L ss).2 = 0) (m : List Bool) : ¬ firstS L m < 0 := fun hf => by
  rw [firstS_neg] at hf
  obtain ⟨h1, h2⟩ := chkS_zero h
  rw [h2] at h
  obtain ⟨_, n2⟩ := newTo_m L hL L.length (Nat.le_refl _)
  have hq : ∀ q ∈ (newC L).m, q.2 ∈ L := fun q hq => by
    obtain ⟨i, hi, rfl⟩ := n2 q hq
    exact List.getElem_mem hi
  refine chk_unsat ss (newC L) 0 (CkG.new L hL _ (Nat.le_refl _)).1 (fun q hq' => hl _ (hq q hq')) hs ⟨m, fun q hq' => hf _ (hq q hq')⟩ ?_ h
  cases e : (newC L).done
  · rfl
  · obtain ⟨c, hc, rfl⟩ := (newTo_done L L.length (Nat.le_refl _)).1 e
    rw [List.take_length] at hc
    have := hf _ hc
    cases this
theorem cnfGo_zero {v : Int} : ∀ {L : List (List Int)} {i : Nat}, (cnfGo v L i).2 = 0 ↔ ∀ c ∈ L, chkC c v = 0 ∧ tautS c = false
  | [], i => by simp [cnfGo]
  | c :: L, i => by
    rw [cnfGo]
    by_cases h : chkC c v ≠ 0
    · rw [if_pos h]
      exact ⟨fun e => absurd e h, fun e => absurd (e c List.mem_cons_self).1 h⟩
    rw [if_neg h]
    have h0 : chkC c v = 0 := by simpa using h
    by_cases h2 : tautS c = true
    · rw [if_pos h2]
      refine ⟨fun e => absurd e (by show ¬ ((11 : Int) = 0); decide), fun e => ?_⟩
      have := (e c List.mem_cons_self).2
      rw [h2] at this; cases this
    · rw [if_neg h2, cnfGo_zero]
      have h2' : tautS c = false := by simpa using h2
      simp [h0, h2']
theorem rise_len : ∀ (C : List Int) (lo hi : Int), C.Pairwise (· < ·) → (∀ x ∈ C, lo ≤ x ∧ x ≤ hi) → (C.length : Int) ≤ hi - lo + 1 ∨ C = []
  | [], _, _, _, _ => .inr rfl
  | x :: C, lo, hi, hp, hb => by
    rw [List.pairwise_cons] at hp
    left
    have hx := hb x List.mem_cons_self
    rw [List.length_cons]
    rcases rise_len C (x + 1) hi hp.2 (fun y hy => ⟨by have := hp.1 y hy; omega, (hb y (List.mem_cons_of_mem _ hy)).2⟩) with h | h
    · omega
    · subst h; simp; omega
theorem cnfS_sub {v : Int} {L G : List (List Int)} (hG : ∀ c ∈ G, c ∈ L) (hn : G.length ≤ 1000000) (h : (cnfS v L).2 = 0) : (cnfS v G).2 = 0 := by
  unfold cnfS at h ⊢
  split at h
  · cases h
  · rename_i h1
    rw [if_neg h1]
    split at h
    · cases h
    · rw [if_neg (by omega)]
      exact cnfGo_zero.2 fun c hc => cnfGo_zero.1 h c (hG c hc)
theorem core_stays {v : Int} {L : List (List Int)} {ss : List Stp} (hL : L.length ≤ 1000) (hs : ss.length ≤ 1000) (hn : 1 + hintN ss ≤ 1000000) (h : (chkS v L ss).2 = 0) (hp : plnS v L ss = true) :
    chkS v ((corS v L ss).map (rnRow L)) (renS (corS v L ss) (trmS v L ss) (trmS v L ss).length) = (((renS (corS v L ss) (trmS v L ss) (trmS v L ss).length).length : Int), 0) := by
  have hN := need_ok (by omega) (by omega) hn h
  obtain ⟨c1, c2, c3⟩ := cor_ok hN
  obtain ⟨h1, h2⟩ := chkS_zero h
  rw [h2] at h
  have hmk : neeM v L ss = marksS L ss := by unfold neeM; rw [if_pos hp]
  have hpl : plnGo (newC L) ss = true := by unfold plnS at hp; rw [if_neg (by simp [h1])] at hp; exact hp
  have hnn : 1 + hintN ss ≤ 1000000000 := by omega
  have hg := (CkG.new L (by omega) L.length (Nat.le_refl _)).1
  have ho := plnGo_ord hg hpl
  have hcl := marR_closed (cntB_one (emptyS L ss)) ss hnn ho
  obtain ⟨r1, _⟩ := replay (F := Nee L ss) ss (newC L) (newC L) 0 hg hg ⟨Int.le_refl _, fun q hq _ => hq⟩ hpl hcl (nee_done hnn hpl)
  have hT := trmS_plain (v := v) hnn hp
  rw [hT]
  have hTn : (keep1 (Nee L ss) ss).length ≤ ss.length := List.length_filter_le _ _
  have hmemT : ∀ s ∈ keep1 (Nee L ss) ss, s ∈ ss ∧ s.kind = 1 ∧ Nee L ss s.id := fun s hs' => by
    unfold keep1 at hs'
    rw [List.mem_filter, Bool.and_eq_true, decide_eq_true_eq, decide_eq_true_eq] at hs'
    exact ⟨hs'.1, hs'.2.1, hs'.2.2⟩
  have hinC : ∀ x, Nee L ss x → x ≤ L.length → x ∈ corS v L ss := fun x hx hxl => by
    rw [c2, hN.mem, hmk]
    refine ⟨?_, hxl⟩
    unfold Nee mkq at hx
    cases e : lk (marksS L ss) x with
    | none => rw [e] at hx; cases hx
    | some y => exact List.mem_map_of_mem (f := (·.1)) (lk_in e)
  generalize hC : corS v L ss = C at *
  have hCn : C.length ≤ L.length := by
    rcases rise_len C 1 L.length c1 c3 with h | h
    · omega
    · rw [h]; exact Nat.zero_le _
  have hGl : (C.map (rnRow L)).length = C.length := List.length_map _
  have hrow : ∀ x ∈ C, ∃ i, ∃ hi : i < L.length, x = ((i + 1 : Nat) : Int) ∧ rnRow L x = L[i] := fun x hx => by
    have := c3 x hx
    refine ⟨(x - 1).toNat, by omega, by omega, ?_⟩
    unfold rnRow
    rw [List.getD_eq_getElem?_getD, List.getElem?_eq_getElem (by omega)]
    rfl
  have hcnf : (cnfS v (C.map (rnRow L))).2 = 0 := cnfS_sub (L := L) (fun c hc => by
    obtain ⟨x, hx, rfl⟩ := List.mem_map.1 hc
    obtain ⟨i, hi, _, e⟩ := hrow x hx
    rw [e]; exact List.getElem_mem hi) (by omega) h1
  obtain ⟨e1, e2⟩ := CkG.new (C.map (rnRow L)) (by omega) (C.map (rnRow L)).length (Nat.le_refl _)
  obtain ⟨n1, _⟩ := newTo_m (C.map (rnRow L)) (by omega) (C.map (rnRow L)).length (Nat.le_refl _)
  obtain ⟨_, n2⟩ := newTo_m L (by omega) L.length (Nat.le_refl _)
  have hrel : RelN (Nee L ss) (nowC C C.length) (newC L) (newC (C.map (rnRow L))) := ⟨fun q hq hF => by
    obtain ⟨i, hi, rfl⟩ := n2 q hq
    obtain ⟨j, hj, e⟩ := List.getElem_of_mem (hinC _ hF (by simp only; omega))
    simp only at e
    refine ⟨((j + 1 : Nat) : Int), by rw [← e]; exact nowC_lk c1 _ (Nat.le_refl _) j hj hj, ?_⟩
    have := n1 j (by omega) (by omega)
    rw [List.getElem_map, e] at this
    have hr : rnRow L ((i + 1 : Nat) : Int) = L[i] := by
      unfold rnRow
      rw [List.getD_eq_getElem?_getD, show (((i + 1 : Nat) : Int) - 1).toNat = i by omega, List.getElem?_eq_getElem hi]; rfl
    rw [hr] at this
    exact this⟩
  have hdone : (newC (C.map (rnRow L))).done = true ∨ ∃ s ∈ keep1 (Nee L ss) ss, s.lits = [] := by
    have hE := nee_empty (L := L) hnn
    rcases emptyS_at h with ⟨k, k1, k2, k3⟩ | ⟨_, s, k1, k2, k3, k4⟩
    · left
      refine (newTo_done _ _ (Nat.le_refl _)).2 ⟨[], ?_, rfl⟩
      rw [List.take_length]
      refine List.mem_map.2 ⟨emptyS L ss, hinC _ hE (by rw [k2]; omega), ?_⟩
      unfold rnRow
      rw [k2, List.getD_eq_getElem?_getD, show (((k + 1 : Nat) : Int) - 1).toNat = k by omega, k3]
      rfl
    · right
      refine ⟨s, ?_, k3⟩
      unfold keep1
      rw [List.mem_filter, Bool.and_eq_true, decide_eq_true_eq, decide_eq_true_eq]
      exact ⟨k1, k2, by rw [k4]; exact hE⟩
  have hR := renum (F := Nee L ss) (keep1 (Nee L ss) ss) (newC L) (newC (C.map (rnRow L))) (nowC C C.length) C.length 0 hg e1 hrel (by rw [show (newC (C.map (rnRow L))).last = _ from e2, hGl]) (by omega) r1 (fun s hs' => by
    obtain ⟨a, b, c⟩ := hmemT s hs'
    exact ⟨b, hcl s a b c⟩) hdone
  unfold chkS
  rw [if_neg (by simp [hcnf]), renS_all, hR, Nat.zero_add, renGo_len]
end Go.AX
