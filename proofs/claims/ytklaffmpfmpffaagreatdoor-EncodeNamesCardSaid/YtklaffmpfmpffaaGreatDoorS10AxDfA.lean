/-
  The formula holds just if the truths say a linearization (plain law).
-/
import Derived.Test.YtklaffmpfmpffaaGreatDoorS10AxDeN
import Derived.Test.YtklaffmpfmpffaaGreatDoorS10AxCntO
namespace Go.AX
open Go.Proofs

theorem mem_mostS {vs : List Int} {c : List Int} : c ∈ mostS vs ↔ ∃ i j, ∃ hi : i < vs.length, ∃ hj : j < vs.length, i < j ∧ c = [w64 (-vs[i]), w64 (-vs[j])] := by
  unfold mostS mostTo
  constructor
  · intro h
    obtain ⟨a, ha, hc⟩ := List.mem_flatMap.1 h
    have ha := List.mem_range.1 ha
    obtain ⟨w, hw, rfl⟩ := List.mem_map.1 hc
    obtain ⟨j, hj, rfl⟩ := List.getElem_of_mem hw
    have hj2 : j < vs.length - (a + 1) := by simpa using hj
    refine ⟨a, a + 1 + j, ha, by omega, by omega, ?_⟩
    rw [List.getElem_drop, List.getD_eq_getElem?_getD, List.getElem?_eq_getElem ha]
    rfl
  · rintro ⟨i, j, hi, hj, hij, rfl⟩
    refine List.mem_flatMap.2 ⟨i, List.mem_range.2 hi, List.mem_map.2 ⟨vs[j], ?_, ?_⟩⟩
    · obtain ⟨d, rfl⟩ : ∃ d, j = i + 1 + d := ⟨j - (i + 1), by omega⟩
      have hd : d < (vs.drop (i + 1)).length := by simp; omega
      have := List.getElem_mem hd
      rw [List.getElem_drop] at this
      exact this
    · rw [List.getD_eq_getElem?_getD, List.getElem?_eq_getElem hi]; rfl
theorem most_holds {g : Nat → Int} {F : Nat → Bool} {N : Nat} {T : List Bool} (hg : ∀ i, i < N → litS T (w64 (-g i)) = !F i) : (∀ c ∈ mostS ((List.range N).map g), holdsS c T = true) ↔ ∀ i j, i < j → j < N → ¬ (F i = true ∧ F j = true) := by
  constructor
  · intro h i j hij hj ⟨h1, h2⟩
    have := h [w64 (-g i), w64 (-g j)] (mem_mostS.2 ⟨i, j, by simp; omega, by simp; omega, hij, by simp⟩)
    simp [holdsS, hg i (by omega), hg j hj, h1, h2] at this
  · intro h c hc
    obtain ⟨i, j, hi, hj, hij, rfl⟩ := mem_mostS.1 hc
    have hi' : i < N := by simpa using hi
    have hj' : j < N := by simpa using hj
    have := h i j hij hj'
    simp only [List.getElem_map, List.getElem_range, holdsS, List.any_cons, List.any_nil, Bool.or_false, hg i hi', hg j hj']
    cases h1 : F i <;> cases h2 : F j <;> simp_all
theorem some_holds {g : Nat → Int} {F : Nat → Bool} {N : Nat} {T : List Bool} (hg : ∀ i, i < N → litS T (g i) = F i) : holdsS ((List.range N).map g) T = true ↔ ∃ i, i < N ∧ F i = true := by
  unfold holdsS
  rw [List.any_eq_true]
  constructor
  · rintro ⟨x, hx, h⟩
    obtain ⟨i, hi, rfl⟩ := List.mem_map.1 hx
    have hi := List.mem_range.1 hi
    exact ⟨i, hi, by rw [← hg i hi]; exact h⟩
  · rintro ⟨i, hi, h⟩
    exact ⟨g i, List.mem_map.2 ⟨i, List.mem_range.2 hi, rfl⟩, by rw [hg i hi]; exact h⟩

/-! ### What the literals say -/
theorem vo1 {N : Nat} {m : Int} {a k : Nat} (hc : sizeOk N m = true) (ha : a < N) (hk : k < N) : varOk N m 1 a k = true := varOk_iff.2 ⟨hc, by decide, by decide, by omega, by simp [blockTall]; omega, by omega, by simp [blockWide]; omega⟩
theorem vo3 {N : Nat} {m : Int} {a b : Nat} (hc : sizeOk N m = true) (ha : a ≤ N) (hb : (b : Int) < m) : varOk N m 3 a b = true := varOk_iff.2 ⟨hc, by decide, by decide, by omega, by simp [blockTall]; omega, by omega, by simp [blockWide]; omega⟩
structure TLen (N : Nat) (m : Int) (T : List Bool) : Prop where
  hc : sizeOk N m = true
  len : (T.length : Int) = varsN N m
theorem TLen.n {N : Nat} {m : Int} {T : List Bool} (h : TLen N m T) : T.length = (varsN N m).toNat := by have := h.len; omega
theorem TLen.p1 {N : Nat} {m : Int} {T : List Bool} (h : TLen N m T) {a k : Nat} (ha : a < N) (hk : k < N) : litS T (varS N m 1 a k) = fP N m T a k := lit_pos (vo1 h.hc ha hk) T h.n
theorem TLen.n1 {N : Nat} {m : Int} {T : List Bool} (h : TLen N m T) {a k : Nat} (ha : a < N) (hk : k < N) : litS T (w64 (-varS N m 1 a k)) = !fP N m T a k := lit_neg (vo1 h.hc ha hk) T h.n
theorem TLen.p3 {N : Nat} {m : Int} {T : List Bool} (h : TLen N m T) {a b : Nat} (ha : a ≤ N) (hb : (b : Int) < m) : litS T (varS N m 3 a b) = fS N m T a b := lit_pos (vo3 h.hc ha hb) T h.n
theorem TLen.n3 {N : Nat} {m : Int} {T : List Bool} (h : TLen N m T) {a b : Nat} (ha : a ≤ N) (hb : (b : Int) < m) : litS T (w64 (-varS N m 3 a b)) = !fS N m T a b := lit_neg (vo3 h.hc ha hb) T h.n

/-! ### Places -/
theorem places_holds {N : Nat} {m : Int} {T : List Bool} (h : TLen N m T) : (∀ c ∈ placesC N m, holdsS c T = true) ↔
    (∀ a, a < N → (∃ k, k < N ∧ fP N m T a k = true) ∧ ∀ i j, i < j → j < N → ¬ (fP N m T a i = true ∧ fP N m T a j = true)) ∧ ∀ k, k < N → ∀ i j, i < j → j < N → ¬ (fP N m T i k = true ∧ fP N m T j k = true) := by
  have hC : placesC N m = partA N m N N ++ partB N m N N := by unfold placesC; rw [if_pos h.hc]; rfl
  have hrA : ∀ a, a < N → (holdsS (rowA N m N a) T = true ↔ ∃ k, k < N ∧ fP N m T a k = true) := fun a ha => some_holds fun i hi => h.p1 ha hi
  have hmA : ∀ a, a < N → ((∀ c ∈ mostS (rowA N m N a), holdsS c T = true) ↔ ∀ i j, i < j → j < N → ¬ (fP N m T a i = true ∧ fP N m T a j = true)) := fun a ha => most_holds fun i hi => h.n1 ha hi
  have hmB : ∀ k, k < N → ((∀ c ∈ mostS (rowB N m N k), holdsS c T = true) ↔ ∀ i j, i < j → j < N → ¬ (fP N m T i k = true ∧ fP N m T j k = true)) := fun k hk => most_holds (F := fun i => fP N m T i k) fun i hi => h.n1 hi hk
  rw [hC]
  constructor
  · intro hall
    have hA : ∀ a, a < N → ∀ c ∈ rowA N m N a :: mostS (rowA N m N a), holdsS c T = true := fun a ha c hc => hall c (List.mem_append.2 (.inl (List.mem_flatMap.2 ⟨a, List.mem_range.2 ha, hc⟩)))
    refine ⟨fun a ha => ⟨(hrA a ha).1 (hA a ha _ List.mem_cons_self), (hmA a ha).1 fun c hc => hA a ha c (List.mem_cons_of_mem _ hc)⟩, fun k hk => (hmB k hk).1 fun c hc => hall c (List.mem_append.2 (.inr (List.mem_flatMap.2 ⟨k, List.mem_range.2 hk, hc⟩)))⟩
  · rintro ⟨h1, h2⟩ c hc
    rcases List.mem_append.1 hc with hc | hc
    · obtain ⟨a, ha, hc⟩ := List.mem_flatMap.1 hc
      have ha := List.mem_range.1 ha
      rcases List.mem_cons.1 hc with rfl | hc
      · exact (hrA a ha).2 (h1 a ha).1
      · exact (hmA a ha).2 (h1 a ha).2 c hc
    · obtain ⟨k, hk, hc⟩ := List.mem_flatMap.1 hc
      have hk := List.mem_range.1 hk
      exact (hmB k hk).2 (h2 k hk) c hc
theorem two_ne {f : Nat → Bool} {N : Nat} (h : ∀ i j, i < j → j < N → ¬ (f i = true ∧ f j = true)) {i j : Nat} (hi : i < N) (hj : j < N) (h1 : f i = true) (h2 : f j = true) : i = j := by
  rcases Nat.lt_trichotomy i j with e | e | e
  · exact absurd ⟨h1, h2⟩ (h i j e hj)
  · exact e
  · exact absurd ⟨h2, h1⟩ (h j i e hi)
theorem ord_of {f : Nat → Nat → Bool} {N : Nat} (h1 : ∀ a, a < N → (∃ k, k < N ∧ f a k = true) ∧ ∀ i j, i < j → j < N → ¬ (f a i = true ∧ f a j = true)) (h2 : ∀ k, k < N → ∀ i j, i < j → j < N → ¬ (f i k = true ∧ f j k = true)) : ∀ a, a ≤ N → ∃ out, PJ f N a out
  | 0, _ => ⟨_, PJ.zero f N⟩
  | a + 1, ha => by
    obtain ⟨out, hp⟩ := ord_of h1 h2 a (by omega)
    obtain ⟨⟨k, hk, hf⟩, hu⟩ := h1 a (by omega)
    have hr : ∀ j, j < N → f a j = decide (j = k) := fun j hj => by
      by_cases e : j = k
      · subst e; rw [hf]; simp
      · rw [decide_eq_false e]
        cases hb : f a j
        · rfl
        · exact absurd (two_ne hu hj hk hb hf) e
    refine ⟨_, hp.next hk ?_ hr⟩
    rcases hp.lo k hk with e | ⟨e1, e2⟩
    · exact e
    · exfalso
      obtain ⟨b, hb⟩ := Int.eq_ofNat_of_zero_le e1
      have hbf : f b k = true := by rw [hp.col b (by omega) k hk]; exact decide_eq_true hb
      have := two_ne (f := fun i => f i k) (h2 k hk) (i := b) (j := a) (by omega) (by omega) hbf hf
      omega
theorem ord_to {f : Nat → Nat → Bool} {N : Nat} {l : List Int} (h : IsOrd f N l) : (∀ a, a < N → (∃ k, k < N ∧ f a k = true) ∧ ∀ i j, i < j → j < N → ¬ (f a i = true ∧ f a j = true)) ∧ ∀ k, k < N → ∀ i j, i < j → j < N → ¬ (f i k = true ∧ f j k = true) := by
  refine ⟨fun a ha => ?_, fun k hk i j hij hj ⟨h1, h2⟩ => ord_col2 (a := i) (b := j) (by omega) hj hk (by omega) h1 h2 l h⟩
  obtain ⟨k, hk, _, hf, hu⟩ := h.place ha
  exact ⟨⟨k, hk, hf⟩, fun i j hij hj ⟨h1, h2⟩ => by have e1 := hu i (by omega) h1; have e2 := hu j hj h2; omega⟩

/-! ### States -/
theorem states_holds {N M : Nat} {T : List Bool} {ini : Int} (h : TLen N M T) (hi : 0 ≤ ini ∧ ini < M) : (∀ c ∈ statesC N M ini, holdsS c T = true) ↔
    fS N M T 0 ini.toNat = true ∧ ∀ a, a ≤ N → (∃ b, b < M ∧ fS N M T a b = true) ∧ ∀ i j, i < j → j < M → ¬ (fS N M T a i = true ∧ fS N M T a j = true) := by
  have hC : statesC N M ini = [varS N M 3 0 ini] :: partS N M M (N + 1) := by
    unfold statesC
    rw [h.hc, decide_eq_true hi.1, decide_eq_true hi.2]
    rfl
  have hrS : ∀ a, a ≤ N → (holdsS (rowS N M M a) T = true ↔ ∃ b, b < M ∧ fS N M T a b = true) := fun a ha => some_holds fun i hi => h.p3 ha (by omega)
  have hmS : ∀ a, a ≤ N → ((∀ c ∈ mostS (rowS N M M a), holdsS c T = true) ↔ ∀ i j, i < j → j < M → ¬ (fS N M T a i = true ∧ fS N M T a j = true)) := fun a ha => most_holds fun i hi => h.n3 ha (by omega)
  have h0 : holdsS [varS N M 3 0 ini] T = fS N M T 0 ini.toNat := by
    have := h.p3 (a := 0) (b := ini.toNat) (Nat.zero_le _) (by omega)
    rw [show ((ini.toNat : Nat) : Int) = ini by omega] at this
    simp only [holdsS, List.any_cons, List.any_nil, Bool.or_false]
    exact this
  rw [hC]
  constructor
  · intro hall
    have hA : ∀ a, a ≤ N → ∀ c ∈ rowS N M M a :: mostS (rowS N M M a), holdsS c T = true := fun a ha c hc => hall c (List.mem_cons_of_mem _ (List.mem_flatMap.2 ⟨a, List.mem_range.2 (by omega), hc⟩))
    exact ⟨by rw [← h0]; exact hall _ List.mem_cons_self, fun a ha => ⟨(hrS a ha).1 (hA a ha _ List.mem_cons_self), (hmS a ha).1 fun c hc => hA a ha c (List.mem_cons_of_mem _ hc)⟩⟩
  · rintro ⟨h1, h2⟩ c hc
    rcases List.mem_cons.1 hc with rfl | hc
    · rw [h0]; exact h1
    · obtain ⟨a, ha, hc⟩ := List.mem_flatMap.1 hc
      have ha := List.mem_range.1 ha
      rcases List.mem_cons.1 hc with rfl | hc
      · exact (hrS a (by omega)).2 (h2 a (by omega)).1
      · exact (hmS a (by omega)).2 (h2 a (by omega)).2 c hc
theorem row_of {f : Nat → Nat → Bool} {n M : Nat} (h : ∀ a, a < n → (∃ b, b < M ∧ f a b = true) ∧ ∀ i j, i < j → j < M → ¬ (f a i = true ∧ f a j = true)) : IsRow f n M (rowL f n M) := by
  have key : ∀ a, a < n → ∃ b : Nat, b < M ∧ (rowL f n M).getD a 0 = (b : Int) ∧ ∀ x, x < M → f a x = decide (b = x) := fun a ha => by
    obtain ⟨⟨b, hb, hf⟩, hu⟩ := h a ha
    have hr : ∀ x, x < M → f a x = decide (b = x) := fun x hx => by
      by_cases e : b = x
      · subst e; rw [hf]; simp
      · rw [decide_eq_false e]
        cases hb' : f a x
        · rfl
        · exact absurd (two_ne hu hb hx hf hb') e
    refine ⟨b, hb, ?_, hr⟩
    have : (rowL f n M).getD a 0 = onlyAt (f a) M := by
      unfold rowL
      rw [List.getD_eq_getElem?_getD, List.getElem?_map, List.getElem?_range ha]
      rfl
    rw [this]
    exact onlyAt_is (by omega) fun x hx => by rw [hr x hx, Bool.eq_iff_iff, decide_eq_true_iff, decide_eq_true_iff]; omega
  refine ⟨by simp [rowL], fun a ha x hx => ?_, fun a ha => ?_⟩
  · obtain ⟨b, hb, e, hr⟩ := key a ha
    rw [hr x hx, e, Bool.eq_iff_iff, decide_eq_true_iff, decide_eq_true_iff]
    omega
  · obtain ⟨b, hb, e, _⟩ := key a ha
    omega
theorem row_to {f : Nat → Nat → Bool} {n M : Nat} {l : List Int} (h : IsRow f n M l) : ∀ a, a < n → (∃ b, b < M ∧ f a b = true) ∧ ∀ i j, i < j → j < M → ¬ (f a i = true ∧ f a j = true) := fun a ha => by
  obtain ⟨h1, h2⟩ := h.2.2 a ha
  obtain ⟨b, hb⟩ := Int.eq_ofNat_of_zero_le h1
  refine ⟨⟨b, by omega, by rw [h.2.1 a ha b (by omega)]; exact decide_eq_true hb⟩, fun i j hij hj ⟨g1, g2⟩ => ?_⟩
  rw [h.2.1 a ha i (by omega)] at g1
  rw [h.2.1 a ha j hj] at g2
  have g1 := of_decide_eq_true g1
  have g2 := of_decide_eq_true g2
  omega

/-! ### Times -/
theorem times_holds {N : Nat} {m : Int} {T : List Bool} {ps : List (Int × Int)} (h : TLen N m T) (hp : ∀ p ∈ ps, properS p N = true) : (∀ c ∈ timesC N m ps, holdsS c T = true) ↔
    ∀ p ∈ ps, ∀ a b, b < a → a < N → ¬ (fP N m T p.1.toNat a = true ∧ fP N m T p.2.toNat b = true) := by
  have hC : timesC N m ps = ps.flatMap fun p => if properS p N then pairC N m p N else [] := by
    unfold timesC timesTo
    rw [if_pos h.hc, List.take_length]
    rfl
  have hin : ∀ p ∈ ps, (0 ≤ p.1 ∧ p.1 < N) ∧ (0 ≤ p.2 ∧ p.2 < N) := fun p hpp => by
    have := hp p hpp
    unfold properS at this
    simp only [Bool.and_eq_true, decide_eq_true_eq] at this
    obtain ⟨⟨g1, g2⟩, _⟩ := this
    by_cases c : p.2 < p.1
    · rw [if_pos c] at g1
      rw [if_neg (by omega)] at g2
      omega
    · rw [if_neg c] at g1
      by_cases c2 : p.1 < p.2
      · rw [if_pos c2] at g2; omega
      · rw [if_neg c2] at g2; omega
  have hcl : ∀ p ∈ ps, ∀ a b, b < a → a < N → holdsS [w64 (-varS N m 1 p.1 a), w64 (-varS N m 1 p.2 b)] T = (!fP N m T p.1.toNat a || !fP N m T p.2.toNat b) := fun p hpp a b hb ha => by
    obtain ⟨⟨q1, q2⟩, q3, q4⟩ := hin p hpp
    have e1 := h.n1 (a := p.1.toNat) (k := a) (by omega) ha
    have e2 := h.n1 (a := p.2.toNat) (k := b) (by omega) (by omega)
    rw [show ((p.1.toNat : Nat) : Int) = p.1 by omega] at e1
    rw [show ((p.2.toNat : Nat) : Int) = p.2 by omega] at e2
    simp only [holdsS, List.any_cons, List.any_nil, Bool.or_false, e1, e2]
  rw [hC]
  constructor
  · intro hall p hpp a b hb ha ⟨g1, g2⟩
    have := hall [w64 (-varS N m 1 p.1 a), w64 (-varS N m 1 p.2 b)] (List.mem_flatMap.2 ⟨p, hpp, by
      rw [if_pos (hp p hpp)]
      exact List.mem_flatMap.2 ⟨a, List.mem_range.2 ha, List.mem_map.2 ⟨b, List.mem_range.2 hb, rfl⟩⟩⟩)
    rw [hcl p hpp a b hb ha, g1, g2] at this
    cases this
  · intro hall c hc
    obtain ⟨p, hpp, hc⟩ := List.mem_flatMap.1 hc
    rw [if_pos (hp p hpp)] at hc
    obtain ⟨a, ha, hc⟩ := List.mem_flatMap.1 hc
    obtain ⟨b, hb, rfl⟩ := List.mem_map.1 hc
    have ha := List.mem_range.1 ha
    have hb := List.mem_range.1 hb
    have := hall p hpp a b hb ha
    rw [hcl p hpp a b hb ha]
    cases g1 : fP N m T p.1.toNat a <;> cases g2 : fP N m T p.2.toNat b <;> simp_all
theorem agS_iff {order : List Int} {ps : List (Int × Int)} : (agS order ps).2 = true ↔ ∀ p ∈ ps, agB order p = false := by
  unfold agS
  cases h : ps.findIdx? (agB order) with
  | none =>
    rw [List.findIdx?_eq_none_iff] at h
    exact ⟨fun _ => h, fun _ => rfl⟩
  | some i =>
    rw [List.findIdx?_eq_some_iff_getElem] at h
    obtain ⟨h1, h2, _⟩ := h
    refine ⟨fun hh => (by cases hh), fun hh => ?_⟩
    rw [hh _ (List.getElem_mem h1)] at h2
    cases h2
theorem posS_at {l : List Int} (hn : l.Nodup) {k : Nat} (hk : k < l.length) : posS l l[k] = (k : Int) := by
  unfold posS
  exact idxS_at hk (fun j hj hjk => by
    refine decide_eq_false fun e => ?_
    have := (List.getElem_inj hn).1 e
    omega) (by simp)
theorem ag_iff {f : Nat → Nat → Bool} {N : Nat} {l : List Int} (h : IsOrd f N l) {p : Int × Int} (h1 : 0 ≤ p.1 ∧ p.1 < N) (h2 : 0 ≤ p.2 ∧ p.2 < N) : agB l p = false ↔ ∀ a b, b < a → a < N → ¬ (f p.1.toNat a = true ∧ f p.2.toNat b = true) := by
  obtain ⟨k1, hk1, e1, f1, u1⟩ := h.place (a := p.1.toNat) (by omega)
  obtain ⟨k2, hk2, e2, f2, u2⟩ := h.place (a := p.2.toNat) (by omega)
  have hl := h.1
  have g1 : l[k1]'(by omega) = p.1 := by
    rw [List.getD_eq_getElem?_getD, List.getElem?_eq_getElem (by omega)] at e1
    have e1 : l[k1]'(by omega) = ((p.1.toNat : Nat) : Int) := e1
    omega
  have g2 : l[k2]'(by omega) = p.2 := by
    rw [List.getD_eq_getElem?_getD, List.getElem?_eq_getElem (by omega)] at e2
    have e2 : l[k2]'(by omega) = ((p.2.toNat : Nat) : Int) := e2
    omega
  have q1 := posS_at h.2.2.2 (k := k1) (by omega)
  have q2 := posS_at h.2.2.2 (k := k2) (by omega)
  rw [g1] at q1
  rw [g2] at q2
  unfold agB
  rw [q1, q2, decide_eq_true (by omega), Bool.true_and, decide_eq_false_iff_not]
  constructor
  · intro hh a b hb ha ⟨w1, w2⟩
    have := u1 a ha w1
    have := u2 b (by omega) w2
    omega
  · intro hh hlt
    exact hh k1 k2 (by omega) hk1 ⟨f1, f2⟩
/-! ### All clauses -/
def encC (o : Obj) (ops : List Op5) : List (List Int) := placesC ops.length o.st ++ (timesC ops.length o.st (pairsTo ops ops.length) ++ (statesC ops.length o.st o.ini ++ movesC o ops))
theorem plS_some {N : Nat} {m : Int} {f : Nat → Nat → Bool} {l : List Int} (hc : sizeOk N m = true) (h : IsOrd f N l) : (∀ k, k < N → plAt N l k) ∧ ∃ V, plS N m l = some V := by
  have hp : ∀ k, k < N → plAt N l k := fun k hk => by
    have hkl : k < l.length := by rw [h.1]; exact hk
    obtain ⟨a1, a2⟩ := h.2.2.1 k hk
    refine ⟨a1, a2, fun hm => ?_⟩
    obtain ⟨y, hy, e⟩ := List.mem_take_iff_getElem.1 hm
    have hgk : l.getD k 0 = l[k] := by rw [List.getD_eq_getElem?_getD, List.getElem?_eq_getElem hkl]; rfl
    rw [hgk] at e
    have := (List.getElem_inj h.2.2.2).1 e
    omega
  refine ⟨hp, ?_⟩
  unfold plS
  rw [if_pos ⟨hc, by rw [h.1], fun k hk => hp k (by rw [← h.1]; exact hk)⟩]
  exact ⟨_, rfl⟩
theorem stS_some {N M : Nat} {f : Nat → Nat → Bool} {l : List Int} (hc : sizeOk N M = true) (h : IsRow f (N + 1) M l) : (∀ k, k < N + 1 → stAt M l k) ∧ ∃ V, stS N M l = some V := by
  have hp : ∀ k, k < N + 1 → stAt M l k := fun k hk => h.2.2 k hk
  refine ⟨hp, ?_⟩
  unfold stS
  rw [if_pos ⟨hc, by rw [h.1]; simp, fun k hk => hp k (by rw [← h.1]; exact hk)⟩]
  exact ⟨_, rfl⟩
/-- Truths are told by what they say. -/
theorem truths_all {N M : Nat} {T : List Bool} {order row : List Int} (h : TLen N M T) (ho : IsOrd (fP N M T) N order) (hw : IsRow (fS N M T) (N + 1) M row) : Good N M order row (insS N M N T) ∧ T = allM N M order row (insS N M N T) N := by
  have g : Good N M order row (insS N M N T) := ⟨h.hc, ho.1, (plS_some h.hc ho).1, hw.1, (stS_some h.hc hw).1, by simp [insS]⟩
  refine ⟨g, ?_⟩
  obtain ⟨_, hV, n1, n2, n3, n4⟩ := varC_eq h.hc
  have hTn := h.n
  apply List.ext_getElem
  · rw [g.len, h.n]
  intro j h1 h2
  have hj : j < varC N M := by omega
  have e1 : T[j] = T.getD j false := by rw [List.getD_eq_getElem?_getD, List.getElem?_eq_getElem h1]; rfl
  have e2 : (allM N M order row (insS N M N T) N)[j] = (allM N M order row (insS N M N T) N).getD j false := by rw [List.getD_eq_getElem?_getD, List.getElem?_eq_getElem h2]; rfl
  rw [e1, e2]
  have hVd : varC N M = N * N + N + (N + 1) * M := rfl
  have hs := sizeOk_iff.1 h.hc
  by_cases c1 : j < N * N
  · have hN : 0 < N := by
      apply Nat.pos_of_ne_zero
      rintro rfl
      simp at c1
    have hk : j % N < N := Nat.mod_lt _ hN
    have ha : j / N < N := Nat.div_lt_of_lt_mul c1
    obtain ⟨q, r, hq, hr, hm⟩ : ∃ q r : Nat, q < N ∧ r < N ∧ j = markAt N M 1 q r := ⟨j / N, j % N, ha, hk, by rw [mark1 h.hc ha hk, Nat.mul_comm, Nat.div_add_mod]⟩
    rw [hm, g.t1 ⟨by omega, by omega⟩ hr]
    exact ho.2.1 _ hr _ hq
  · by_cases c2 : j < N * N + N
    · obtain ⟨a, rfl⟩ : ∃ a, j = N * N + a := ⟨j - N * N, by omega⟩
      have ha : a < N := by omega
      rw [← mark2 (m := M) h.hc ha, g.t2 ha]
      simp [insS, ha]
    · obtain ⟨d, rfl⟩ : ∃ d, j = N * N + N + d := ⟨j - (N * N + N), by omega⟩
      have hM : 0 < M := by omega
      have hb : d % M < M := Nat.mod_lt _ hM
      have ha : d / M < N + 1 := Nat.div_lt_of_lt_mul (by have e : M * (N + 1) = (N + 1) * M := Nat.mul_comm _ _; omega)
      obtain ⟨q, r, hq, hr, hm⟩ : ∃ q r : Nat, q < N + 1 ∧ r < M ∧ N * N + N + d = markAt N M 3 q r := ⟨d / M, d % M, ha, hb, by
        rw [mark3 h.hc (by omega) hb]
        have := Nat.div_add_mod d M
        rw [Nat.mul_comm] at this
        omega⟩
      rw [hm, g.t3 (by omega) ⟨by omega, by omega⟩]
      exact hw.2.1 _ hq _ hr
theorem sat_iff {o : Obj} {ops : List Op5} {T : List Bool} (hr : objR o) (hf : failE o ops = 0) : ((T.length : Int) = varsN ops.length o.st ∧ ∀ c ∈ encC o ops, holdsS c T = true) ↔ saysS o ops T = true := by
  obtain ⟨g1, g2, h64, hP, _, hc⟩ := failE_zero hr hf
  obtain ⟨o1, o2, o3, o4⟩ := obj_good hr g1
  have hc2 : sizeOk (sizeP o ops).1 (sizeP o ops).2 = true := by rw [hP]; exact hc
  obtain ⟨_, hok⟩ := chk_zero g2
  have hprop := pairs_proper hok
  have hpin : ∀ p ∈ pairsTo ops ops.length, (0 ≤ p.1 ∧ p.1 < ops.length) ∧ 0 ≤ p.2 ∧ p.2 < ops.length := fun p hp => by
    have := hprop p hp
    unfold properS at this
    simp only [Bool.and_eq_true, decide_eq_true_eq] at this
    obtain ⟨⟨q1, q2⟩, _⟩ := this
    by_cases c : p.2 < p.1
    · rw [if_pos c] at q1
      rw [if_neg (by omega)] at q2
      omega
    · rw [if_neg c] at q1
      by_cases c2 : p.1 < p.2
      · rw [if_pos c2] at q2; omega
      · rw [if_neg c2] at q2; omega
  obtain ⟨M, hM⟩ := Int.eq_ofNat_of_zero_le (show 0 ≤ o.st by omega)
  have hM' : o.st = (M : Int) := hM
  have hmov : ∀ {order row : List Int}, TLen ops.length o.st T → IsOrd (fP ops.length o.st T) ops.length order → IsRow (fS ops.length o.st T) (ops.length + 1) M row → row.head? = some o.ini → ((∀ c ∈ movesC o ops, holdsS c T = true) ↔ playS o ops order (insS ops.length o.st ops.length T) = some row) := fun {order row} ht ho hw hh => by
    rw [hM'] at ht ho hw
    obtain ⟨_, V1, p1⟩ := plS_some ht.hc ho
    obtain ⟨_, V2, p2⟩ := stS_some ht.hc hw
    obtain ⟨_, hall⟩ := truths_all ht ho hw
    have hpl := movesPlay_plain o ops order (insS ops.length o.st ops.length T) row V1 V2 (by rw [hP, hM']; exact p1) (by rw [hP, hM']; exact p2) (by simp [insS]) hh hc2
    rw [hP] at hpl
    dsimp only at hpl
    rw [hM'] at hpl ⊢
    rw [← hall, firstS_neg] at hpl
    exact hpl
  constructor
  · rintro ⟨hlen, hall⟩
    have ht : TLen ops.length o.st T := ⟨hc, hlen⟩
    have a1 := (places_holds ht).1 fun c hcm => hall c (List.mem_append.2 (.inl hcm))
    have a2 := (times_holds ht hprop).1 fun c hcm => hall c (List.mem_append.2 (.inr (List.mem_append.2 (.inl hcm))))
    have a3 := fun (ht' : TLen ops.length M T) => (states_holds (ini := o.ini) ht' ⟨o3, by omega⟩).1 fun c hcm => hall c (by
      rw [← hM'] at hcm
      exact List.mem_append.2 (.inr (List.mem_append.2 (.inr (List.mem_append.2 (.inl hcm))))))
    have a4 : ∀ c ∈ movesC o ops, holdsS c T = true := fun c hcm => hall c (List.mem_append.2 (.inr (List.mem_append.2 (.inr (List.mem_append.2 (.inr hcm))))))
    obtain ⟨order, hpj⟩ := ord_of a1.1 a1.2 ops.length (Nat.le_refl _)
    have ho := hpj.done
    have htM : TLen ops.length M T := by rw [← hM']; exact ht
    obtain ⟨b1, b2⟩ := a3 htM
    have hw := row_of (n := ops.length + 1) fun a ha => b2 a (by omega)
    rw [← hM'] at hw b1
    have h0 : (rowL (fS ops.length o.st T) (ops.length + 1) M).getD 0 0 = o.ini := by
      have := hw.2.1 0 (by omega) o.ini.toNat (by omega)
      rw [b1] at this
      have := of_decide_eq_true this.symm
      omega
    have hh : (rowL (fS ops.length o.st T) (ops.length + 1) M).head? = some o.ini := by
      have hl : 0 < (rowL (fS ops.length o.st T) (ops.length + 1) M).length := by rw [hw.1]; omega
      rw [List.head?_eq_getElem?, List.getElem?_eq_getElem hl]
      rw [List.getD_eq_getElem?_getD, List.getElem?_eq_getElem hl] at h0
      exact congrArg some h0
    have hplay := (hmov ht ho hw hh).1 a4
    have hord : ordS ops.length o.st T = some order := by
      unfold ordS
      rw [if_pos (truOk_iff.2 ⟨hc, hlen⟩)]
      exact ordO_of ho
    have hrow : rowQ ops.length o.st T = some (rowL (fS ops.length o.st T) (ops.length + 1) M) := by
      unfold rowQ
      rw [if_pos (truOk_iff.2 ⟨hc, hlen⟩)]
      have : o.st.toNat = M := by omega
      rw [this]
      exact rowO_of hw
    unfold saysS
    rw [decide_eq_true hf, Bool.true_and, hord, hrow]
    unfold saysQ
    rw [Bool.and_eq_true, decide_eq_true_eq]
    exact ⟨agS_iff.2 fun p hp => (ag_iff ho (hpin p hp).1 (hpin p hp).2).2 (a2 p hp), hplay⟩
  · intro hs
    obtain ⟨_, order, row, ho, hw, hag, hplay⟩ := says_some hs
    obtain ⟨_, hlen, hio⟩ := ordS_ok ho
    obtain ⟨_, _, hir⟩ := rowQ_ok hw
    have ht : TLen ops.length o.st T := ⟨hc, hlen⟩
    have hio' : IsOrd (fP ops.length o.st T) ops.length order := hio
    have hir' : IsRow (fS ops.length o.st T) (ops.length + 1) M row := by
      have : o.st.toNat = M := by omega
      rw [this] at hir
      exact hir
    have hh : row.head? = some o.ini := by
      have h := hplay
      unfold playS at h
      split at h
      · have := (playTo_pre h).1 0 (Nat.zero_le _)
        cases row with
        | nil => simp [playTo] at this
        | cons x r =>
          simp only [playTo, Nat.zero_add, List.take_succ_cons, List.take_zero, Option.some.injEq, List.cons.injEq] at this
          rw [this.1]
          rfl
      · cases h
    have h0 : row.getD 0 0 = o.ini := by
      cases row with
      | nil => cases hh
      | cons x r => simpa using hh
    refine ⟨hlen, fun c hcm => ?_⟩
    rcases List.mem_append.1 hcm with hcm | hcm
    · exact (places_holds ht).2 (ord_to hio') c hcm
    rcases List.mem_append.1 hcm with hcm | hcm
    · exact (times_holds ht hprop).2 (fun p hp => (ag_iff hio' (hpin p hp).1 (hpin p hp).2).1 (agS_iff.1 hag p hp)) c hcm
    rcases List.mem_append.1 hcm with hcm | hcm
    · have htM : TLen ops.length M T := by rw [← hM']; exact ht
      rw [hM'] at hcm hir'
      refine (states_holds (ini := o.ini) htM ⟨o3, by omega⟩).2 ⟨?_, fun a ha => row_to hir' a (by omega)⟩ c hcm
      rw [hir'.2.1 0 (by omega) o.ini.toNat (by omega), h0]
      exact decide_eq_true (by omega)
    · exact (hmov ht hio' hir' hh).2 hplay c hcm
end Go.AX
