/-
  AX, part N: regions that draw their order: that the walk is right in any order.
-/
import Derived.Test.YtipaihpchnlkfaaAxM
namespace Go.AX

theorem look_append_of_mem {s : Nat} {v : SV} : ∀ (l t : List (Nat × SV)), (l.map (·.1)).Nodup → (s, v) ∈ l → look (l ++ t) s = v
  | [], _, _, h => by simp at h
  | (j, u) :: r, t, hn, h => by
    simp only [List.map_cons, List.nodup_cons] at hn
    simp only [List.cons_append, look]
    rcases List.mem_cons.1 h with e | e
    · cases e; simp
    · have : j ≠ s := fun e2 => hn.1 (by subst e2; exact List.mem_map.2 ⟨_, e, rfl⟩)
      rw [if_neg this, look_append_of_mem r t hn.2 e]

theorem look_append_of_not_mem {s : Nat} : ∀ (l t : List (Nat × SV)), s ∉ l.map (·.1) → look (l ++ t) s = look t s
  | [], _, _ => rfl
  | (j, u) :: r, t, h => by
    simp only [List.map_cons, List.mem_cons, not_or] at h
    simp only [List.cons_append, look]
    rw [if_neg (fun e => h.1 e.symm), look_append_of_not_mem r t h.2]

theorem cntF_split : ∀ (l : List Bool) (k : Nat), k ≤ l.length → (∀ j : Nat, j < k → l[j]? = some true) → (∀ j : Nat, k ≤ j → j < l.length → l[j]? = some false) → k + cntF l = l.length
  | [], k, hk, _, _ => by simp at hk; subst hk; rfl
  | b :: r, 0, _, _, h2 => by
    have := h2 0 (Nat.le_refl _) (by simp)
    simp at this; subst this
    have := cntF_split r 0 (Nat.zero_le _) (fun j hj => by omega) (fun j _ hj => by simpa using h2 (j + 1) (by omega) (by simpa using hj))
    simp [cntF]; omega
  | b :: r, k + 1, hk, h1, h2 => by
    have := h1 0 (by omega)
    simp at this; subst this
    have := cntF_split r k (by simpa using hk) (fun j hj => by simpa using h1 (j + 1) (by omega)) (fun j h3 hj => by simpa using h2 (j + 1) (by omega) (by simpa using hj))
    simp [cntF]; omega

/-- Which results are there. -/
structure Inv (E : List (Nat × SV)) (base : List (Nat × SV)) (S : Nat → Bool) (t : List (Nat × SV)) : Prop where
  on : ∀ (i : Nat) (d : Nat) (v : SV), E[i]? = some (d, v) → look t d = if S i = true then v else .pv .bot
  off : ∀ s, s ∉ E.map (·.1) → look t s = look base s

theorem draw_suf {P : Program} {ops : Array Oper} {m : Nat} (hB : DrawOk ops.toList m) {Q : Exit → Act → World → Prop} {K : St → Prop} : ∀ (rest : List Oper) (k fuel : Nat) (listed : Array Bool) (st : St) (g : Gh) (a : Act) (w : World),
    rest = ops.toList.drop k → m ≤ k → k + fuel = ops.size → listed.size = ops.size → (∀ j, j < k → listed[j]? = some true) → (∀ j, k ≤ j → j < ops.size → listed[j]? = some false) →
    AOps P ops.toList K rest st → Sim g st a w → dstsOk g.N ops.toList = true → (∀ st' g' a' w', K st' → g.to g' → Sim g' st' a' w' → Q .normal a' w') → wpAny P .any ops Q fuel listed a w
  | rest, k, 0, listed, st, g, a, w, hr, hm, hf, hsz, h1, h2, hA, hs, hd, hQ => by
    have hnil : rest = [] := by rw [hr]; apply List.drop_eq_nil_of_le; simp; omega
    subst hnil
    refine ⟨?_, hQ st g a w hA hs.refl_to hs⟩
    rw [List.eq_nil_iff_forall_not_mem]
    intro i hi
    obtain ⟨h3, o, ho, _⟩ := mem_ready.1 hi
    have hlt := (Array.getElem?_eq_some_iff.1 ho).1
    have := h1 i (by omega)
    simp [this] at h3
  | [], k, fuel + 1, listed, st, g, a, w, hr, hm, hf, hsz, h1, h2, hA, hs, hd, hQ => by
    have := List.drop_eq_nil_iff.1 hr.symm
    simp at this; omega
  | o :: rest, k, fuel + 1, listed, st, g, a, w, hr, hm, hf, hsz, h1, h2, hA, hs, hd, hQ => by
    have hk : k < ops.size := by omega
    have hdrop := List.drop_eq_getElem_cons (l := ops.toList) (i := k) (by simpa using hk)
    rw [← hr] at hdrop
    simp only [List.cons.injEq] at hdrop
    have hok : ops[k]? = some o := by rw [hdrop.1]; simp [hk]
    have hmem : o ∈ ops.toList := by rw [hdrop.1]; exact List.getElem_mem _
    have hdo : dstOk g.N o.dst := by
      have := List.all_eq_true.1 hd o hmem
      unfold dstOk
      split
      · rename_i d hdd; rw [hdd] at this; simpa using this
      · trivial
    have hready : k ∈ Region.ready .any ops listed := by
      rw [mem_ready]
      refine ⟨by simp [h2 k (Nat.le_refl _) hk], o, hok, fun e he hb => ?_⟩
      have := hB.back k o (by simpa using hok) e he hb
      simp [h1 _ this]
    refine ⟨fun hn => (by rw [hn] at hready; cases hready), fun i hi => ?_⟩
    have hik : i = k := by
      obtain ⟨h3, o', ho', hall⟩ := mem_ready.1 hi
      have hlt := (Array.getElem?_eq_some_iff.1 ho').1
      have hge : k ≤ i := by
        apply Nat.le_of_not_lt
        intro hl; simp [h1 i hl] at h3
      apply Nat.le_antisymm _ hge
      apply Nat.le_of_not_lt
      intro hl
      obtain ⟨e, he, hb, hon⟩ := isAfter_iff.1 (hB.chain (i - 1) o' (by omega) (by rw [Nat.sub_add_cancel (by omega)]; simpa using ho'))
      have := hall e he hb
      rw [hon, Array.getD_eq_getD_getElem?, h2 (i - 1) (by omega) (by omega)] at this
      cases this
    subst hik
    unfold wpOp
    rw [hok]
    simp only [AOps] at hA
    have := AStep_ok (ops := ops) o hA hs hdo (Q := Q) (K' := wpAny P .any ops Q fuel (listed.setIfInBounds i true))
      (fun st' g' a' w' hk' t' s' => draw_suf hB rest (i + 1) fuel _ st' g' a' w' hdrop.2 (by omega) (by omega) (by simp [hsz])
        (fun j hj => by
          rw [Array.getElem?_setIfInBounds]
          split
          · rename_i e; rw [if_pos (by rw [hsz]; omega)]
          · exact h1 j (by omega))
        (fun j hj hj2 => by
          rw [Array.getElem?_setIfInBounds, if_neg (by omega)]
          exact h2 j (by omega) hj2)
        hk' s' (by rw [t'.N]; exact hd) (fun st2 g2 a2 w2 k2 t2 s2 => hQ st2 g2 a2 w2 k2 (t'.trans t2) s2))
    simp only
    split
    · rename_i hw; rw [if_pos hw] at this; exact .inl this
    · rename_i hw; rw [if_neg hw] at this; exact this

theorem nodup_reverse {α : Type} {l : List α} (h : l.Nodup) : l.reverse.Nodup := by
  unfold List.Nodup at *
  rw [List.pairwise_reverse]
  exact h.imp (fun hab e => hab e.symm)

theorem nodup_index {α : Type} {l : List α} (h : l.Nodup) {i j : Nat} {x : α} (hi : l[i]? = some x) (hj : l[j]? = some x) : i = j := by
  obtain ⟨h1, h2⟩ := List.getElem?_eq_some_iff.1 hi
  obtain ⟨h3, h4⟩ := List.getElem?_eq_some_iff.1 hj
  unfold List.Nodup at h
  rw [List.pairwise_iff_getElem] at h
  rcases Nat.lt_trichotomy i j with hlt | heq | hgt
  · exact absurd (h2.trans h4.symm) (h i j h1 h3 hlt)
  · exact heq
  · exact absurd (h4.trans h2.symm) (h j i h3 h1 hgt)

theorem draw_pre {P : Program} {ops : Array Oper} {m : Nat} (hB : DrawOk ops.toList m) {Q : Exit → Act → World → Prop} {K : St → Prop} {base : St} {E : List (Nat × SV)} {q : Pos → Bool}
    (hEl : E.length = m) (hEn : (E.map (·.1)).Nodup) (hq : ∀ s, q (.slot s) = true ↔ s ∈ E.map (·.1)) (hbase : ∀ s, s ∈ E.map (·.1) → look base.t s = .pv .bot)
    (hE : ∀ i o, i < m → ops[i]? = some o → ∃ d r, o.dst = some d ∧ E[i]? = some (d, kq q r) ∧ HG P ops.toList ⟨restr (looks ops.toList o) (E.take i).reverse base.t, base.h⟩ o r)
    (hA : alK P (AOps P ops.toList K (ops.toList.drop m)) (ops.toList.take m) ⟨E.reverse ++ base.t, base.h⟩) {g0 : Gh} (hQ : ∀ st' g' a' w', K st' → g0.to g' → Sim g' st' a' w' → Q .normal a' w') :
    ∀ (fuel : Nat) (listed : Array Bool) (t : List (Nat × SV)) (cf : Nat → Option (Nat × Array Value × TypeId)) (g : Gh) (a : Act) (w : World), Out g0 g a cf → (∀ (i : Nat) (o : Oper) d t, listed[i]? = some true → ops[i]? = some o → alOf o = some (d, t) → ∃ c z, cf d = some (c, z, t) ∧ zeroOf P t z) → (∀ d, cf d ≠ none → ∃ (i : Nat) (o : Oper), ∃ t, listed[i]? = some true ∧ ops[i]? = some o ∧ alOf o = some (d, t)) → listed.size = ops.size → cntF listed.toList = fuel → (∀ i : Nat, listed[i]? = some true → i < m) →
      (∀ (i : Nat) (o : Oper), listed[i]? = some true → ops[i]? = some o → ∀ e ∈ o.after, Region.binds .any e = true → listed[e.on]? = some true) → Inv E base.t (fun i => listed.getD i false) t → Sim g ⟨t, base.h⟩ a w →
      dstsOk g.N ops.toList = true → wpAny P .any ops Q fuel listed a w := by
  have hml : m ≤ ops.size := by simpa using hB.le
  have hall : ∀ {listed : Array Bool} {t : List (Nat × SV)}, (∀ i, i < m → listed[i]? = some true) → Inv E base.t (fun i => listed.getD i false) t → ∀ s, look (E.reverse ++ base.t) s = look t s := by
    intro listed t hl hI s
    have hn : ((E.reverse).map (·.1)).Nodup := by rw [List.map_reverse]; exact nodup_reverse hEn
    by_cases hm : s ∈ E.map (·.1)
    · obtain ⟨p, hp, he⟩ := List.mem_map.1 hm
      obtain ⟨d, v⟩ := p
      simp only at he
      subst he
      rw [look_append_of_mem _ _ hn (List.mem_reverse.2 hp)]
      obtain ⟨i, hi⟩ := List.mem_iff_getElem?.1 hp
      have := hI.on i d v hi
      rw [this]
      have hlt : i < m := by rw [← hEl]; exact (List.getElem?_eq_some_iff.1 hi).1
      simp [hl i hlt]
    · rw [look_append_of_not_mem _ _ (by rw [List.map_reverse, List.mem_reverse]; exact hm)]
      exact (hI.off s hm).symm
  have halm : ∀ {o : Oper} {d : Nat} {t : TypeId}, alOf o = some (d, t) → o.dst = some d := fun h => alOf_dst h
  have hnd : (((ops.toList.take m).filterMap alOf).map (·.1)).Nodup := by
    unfold List.Nodup
    rw [List.pairwise_map, List.pairwise_filterMap, List.pairwise_iff_getElem]
    intro i j hi hj hij p hp p' hp'
    have hi' : i < m := by simp at hi; omega
    have hj' : j < m := by simp at hj; omega
    obtain ⟨d, h1, h2⟩ := hB.dst j _ hj' (by rw [← List.getElem?_take_of_lt hj']; exact List.getElem?_eq_getElem hj)
    obtain ⟨d', h3, h4, _⟩ := h2 i _ hij (by rw [← List.getElem?_take_of_lt hi']; exact List.getElem?_eq_getElem hi)
    rw [halm hp'] at h1; cases h1
    rw [halm hp] at h3; cases h3
    exact h4
  have hfin : ∀ {listed : Array Bool} {t : List (Nat × SV)} {cf : Nat → Option (Nat × Array Value × TypeId)} {g : Gh} {a : Act} {w : World}, Out g0 g a cf → (∀ (i : Nat) (o : Oper) d t, listed[i]? = some true → ops[i]? = some o → alOf o = some (d, t) → ∃ c z, cf d = some (c, z, t) ∧ zeroOf P t z) → (∀ d, cf d ≠ none → ∃ (i : Nat) (o : Oper), ∃ t, listed[i]? = some true ∧ ops[i]? = some o ∧ alOf o = some (d, t)) →
      (∀ i, i < m → listed[i]? = some true) → (∀ i : Nat, listed[i]? = some true → i < m) → Inv E base.t (fun i => listed.getD i false) t → Sim g ⟨t, base.h⟩ a w → dstsOk g.N ops.toList = true → ∃ g' st', AOps P ops.toList K (ops.toList.drop m) st' ∧ g0.to g' ∧ Sim g' st' a w := by
    intro listed t cf g a w hout hon hcov hl hlm hI hs hd
    refine alK_ok (ops.toList.take m) ⟨E.reverse ++ base.t, base.h⟩ g cf hout (hs.same rfl (hall hl hI)) (fun o ho d t hal => ?_) (fun d hd' => ?_) hnd hA
    · obtain ⟨i, hi⟩ := List.mem_iff_getElem?.1 ho
      have him : i < m := by have := (List.getElem?_eq_some_iff.1 hi).1; simp at this; omega
      rw [List.getElem?_take_of_lt him] at hi
      refine ⟨?_, hon i o d t (hl i him) (by simpa using hi) hal⟩
      have := List.all_eq_true.1 hd o (List.mem_of_getElem? hi)
      rw [halm hal] at this; simpa using this
    · obtain ⟨i, o, t, h1, h2, h3⟩ := hcov d hd'
      refine ⟨o, ?_, t, h3⟩
      have := hlm i h1
      exact List.mem_of_getElem? (i := i) (by rw [List.getElem?_take_of_lt this]; simpa using h2)
  intro fuel
  induction fuel with
  | zero =>
    intro listed t cf g a w hout hon hcov hsz hcnt hlm hdc hI hs hd
    have hl : ∀ i, i < ops.size → listed[i]? = some true := fun i hi => by
      have := cntF_zero _ hcnt i (by simpa [hsz] using hi)
      simpa using this
    have hmn : m = ops.size := by
      apply Nat.le_antisymm hml
      apply Nat.le_of_not_lt
      intro hlt
      have := hlm m (hl m hlt)
      omega
    obtain ⟨g', st', hk, ht, hs2⟩ := hfin hout hon hcov (fun i hi => hl i (by omega)) hlm hI hs hd
    rw [hmn, show ops.toList.drop ops.size = [] from by apply List.drop_eq_nil_of_le; simp] at hk
    refine ⟨?_, hQ _ g' a w hk ht hs2⟩
    rw [List.eq_nil_iff_forall_not_mem]
    intro i hi
    obtain ⟨h3, o, ho, _⟩ := mem_ready.1 hi
    have hlt := (Array.getElem?_eq_some_iff.1 ho).1
    simp [hl i hlt] at h3
  | succ fuel ih =>
    intro listed t cf g a w hout hon hcov hsz hcnt hlm hdc hI hs hd
    refine ⟨fun hn => ?_, fun i hi => ?_⟩
    · exfalso
      obtain ⟨i, hi1, hi2⟩ := cntF_pos listed.toList (by omega)
      have hil : i < ops.size := by rw [← hsz]; simpa using (List.getElem?_eq_some_iff.1 hi1).1
      have : i ∈ Region.ready .any ops listed := by
        rw [mem_ready]
        refine ⟨by rw [Array.getElem?_toList] at hi1; simp [hi1], ops[i], by simp [hil], fun e he hb => ?_⟩
        have h5 := hB.back i ops[i] (by simp [hil]) e he hb
        have h6 := hi2 _ h5
        rw [Array.getElem?_toList] at h6
        simp [h6]
      rw [hn] at this; cases this
    · obtain ⟨h3, o, ho, hdeps⟩ := mem_ready.1 hi
      have hil := (Array.getElem?_eq_some_iff.1 ho).1
      have hif : listed[i]? = some false := by
        have : i < listed.size := by rw [hsz]; exact hil
        simp only [Array.getD_eq_getD_getElem?, Array.getElem?_eq_getElem this, Option.getD_some] at h3
        rw [Array.getElem?_eq_getElem this, h3]
      have hdeps' : ∀ e ∈ o.after, Region.binds .any e = true → listed[e.on]? = some true := fun e he hb => by
        have := hdeps e he hb
        rw [Array.getD_eq_getD_getElem?] at this
        cases h5 : listed[e.on]? with
        | none => rw [h5] at this; cases this
        | some b => rw [h5] at this; simp at this; rw [this]
      have hcnt' : cntF (listed.setIfInBounds i true).toList = fuel := by
        have := cntF_set listed.toList i (by simpa using hif)
        rw [Array.toList_setIfInBounds]; omega
      have hset : ∀ j, (listed.setIfInBounds i true)[j]? = if i = j then some true else listed[j]? := fun j => by
        rw [Array.getElem?_setIfInBounds]
        split
        · rename_i e; rw [if_pos (by rw [hsz]; exact hil)]
        · rfl
      by_cases him : i < m
      · obtain ⟨d, r, hdst, hEi, hQG⟩ := hE i o him ho
        have hdm : d ∈ E.map (·.1) := List.mem_map.2 ⟨_, List.mem_of_getElem? hEi, rfl⟩
        obtain ⟨d', hd', hprev⟩ := hB.dst i o him (by simpa using ho)
        rw [hdst] at hd'; cases hd'
        have hR : ∀ s, look (restr (looks ops.toList o) (E.take i).reverse base.t) s = look t s ∨ look (restr (looks ops.toList o) (E.take i).reverse base.t) s = .pv .bot := by
          intro s
          rw [look_restr]
          by_cases hm : s ∈ E.map (·.1)
          · split
            · rename_i hL
              have hn : (((E.take i).reverse).map (·.1)).Nodup := by
                rw [List.map_reverse]
                exact nodup_reverse (hEn.sublist ((List.take_sublist i E).map _))
              by_cases hm2 : s ∈ (E.take i).reverse.map (·.1)
              · obtain ⟨p, hp, he⟩ := List.mem_map.1 hm2
                obtain ⟨s', v⟩ := p
                simp only at he
                subst he
                rw [look_append_of_mem _ _ hn hp]
                rw [List.mem_reverse] at hp
                obtain ⟨j, hj⟩ := List.mem_iff_getElem?.1 hp
                rw [List.getElem?_take] at hj
                split at hj
                · rename_i hji
                  obtain ⟨oj, hoj⟩ : ∃ oj, ops[j]? = some oj := ⟨ops[j]'(by omega), by simp [show j < ops.size by omega]⟩
                  obtain ⟨dj, hdj, _, hlk⟩ := hprev j oj hji (by simpa using hoj)
                  obtain ⟨dj', rj, e1, e2, _⟩ := hE j oj (by omega) hoj
                  rw [hdj] at e1; cases e1
                  rw [hj] at e2; cases e2
                  have hlk' := hlk (by simpa using hL)
                  obtain ⟨e, he, hb, hon⟩ := isAfter_iff.1 hlk'
                  have hlj := hdeps' e he hb
                  rw [hon] at hlj
                  left
                  rw [hI.on j _ _ hj]
                  simp [hlj]
                · cases hj
              · right
                rw [look_append_of_not_mem _ _ hm2]; exact hbase s hm
            · right; exact hbase s hm
          · left
            rw [hI.off s hm]
            split
            · apply look_append_of_not_mem
              intro hc
              apply hm
              rw [List.map_reverse, List.mem_reverse] at hc
              obtain ⟨p, hp, he⟩ := List.mem_map.1 hc
              exact List.mem_map.2 ⟨p, List.mem_of_mem_take hp, he⟩
            · rfl
        have hsR := hs.weak (st' := ⟨restr (looks ops.toList o) (E.take i).reverse base.t, base.h⟩) rfl hR
        have hdo : d < g.N := by
          have := List.all_eq_true.1 hd o (by rw [← Array.mem_def]; exact Array.mem_of_getElem? ho)
          rw [hdst] at this; simpa using this
        have hnext : ∀ (g' : Gh) (a' : Act) (w' : World) (cf' : Nat → Option (Nat × Array Value × TypeId)), Sim g' ⟨(d, kq q r) :: t, base.h⟩ a' w' → Out g0 g' a' cf' → g'.N = g.N →
            (∀ (i2 : Nat) (o : Oper) d t, (listed.setIfInBounds i true)[i2]? = some true → ops[i2]? = some o → alOf o = some (d, t) → ∃ c z, cf' d = some (c, z, t) ∧ zeroOf P t z) →
            (∀ d, cf' d ≠ none → ∃ (i2 : Nat) (o : Oper), ∃ t, (listed.setIfInBounds i true)[i2]? = some true ∧ ops[i2]? = some o ∧ alOf o = some (d, t)) → wpAny P .any ops Q fuel (listed.setIfInBounds i true) a' w' := by
          intro g' a' w' cf' hput hout' hN' hon' hcov'
          refine ih (listed.setIfInBounds i true) ((d, kq q r) :: t) cf' g' a' w' hout' hon' hcov' (by simp [hsz]) hcnt' (fun j hj => ?_) (fun j oj hj hoj e he hb => ?_) ?_ hput (by rw [hN']; exact hd)
          · rw [hset] at hj
            split at hj
            · rename_i e; omega
            · exact hlm j hj
          · rw [hset] at hj ⊢
            split at hj
            · rename_i e1
              subst e1
              rw [ho] at hoj; cases hoj
              split
              · rfl
              · exact hdeps' e he hb
            · split
              · rfl
              · exact hdc j oj hj hoj e he hb
          · refine ⟨fun j dj vj hj => ?_, fun s hs' => ?_⟩
            · simp only [look]
              by_cases hji : i = j
              · subst hji
                rw [hEi] at hj; cases hj
                simp [hset]
              · have hne : d ≠ dj := by
                  intro e1
                  subst e1
                  exact hji (nodup_index hEn (x := d) (by rw [List.getElem?_map, hEi]; rfl) (by rw [List.getElem?_map, hj]; rfl))
                rw [if_neg hne, hI.on j dj vj hj]
                simp only [Array.getD_eq_getD_getElem?, hset, if_neg hji]
            · simp only [look]
              rw [if_neg (fun e => hs' (by rw [← e]; exact hdm))]
              exact hI.off s hs'
        have hdfresh : cf d = none := by
          cases hcd : cf d with
          | none => rfl
          | some x =>
            obtain ⟨j, oj, tj, h1, h2, h3⟩ := hcov d (by rw [hcd]; exact fun hh => by cases hh)
            have hjm := hlm j h1
            obtain ⟨dj, rj, e1, e2, _⟩ := hE j oj hjm h2
            rw [halm h3] at e1; cases e1
            have : i = j := nodup_index hEn (x := d) (by rw [List.getElem?_map, hEi]; rfl) (by rw [List.getElem?_map, e2]; rfl)
            subst this
            rw [hif] at h1; cases h1
        have hputs : ∀ (v : Value) (d' : Nat), d' ≠ d → (a.put (some d) v).tmps.getD d' undef = a.tmps.getD d' undef := fun v d' hne => by
          simp only [Act.put, Array.getD_eq_getD_getElem?, Array.getElem?_setIfInBounds]
          rw [if_neg (fun e => hne e.symm)]
        unfold wpOp
        rw [ho]
        unfold HG at hQG
        split at hQG
        · rename_i p hal
          obtain ⟨d2, T⟩ := p
          obtain ⟨hgd, hr⟩ := hQG
          subst hr
          have hd2 := halm hal
          rw [hdst] at hd2; cases hd2
          have hmem : o ∈ ops.toList.take m := List.mem_of_getElem? (i := i) (by rw [List.getElem?_take_of_lt him]; simpa using ho)
          obtain ⟨zs, hz⟩ := alK_zero _ _ hA o hmem d T hal
          obtain ⟨_, z, hzo, hrun⟩ := alloc_run hal hz
          obtain ⟨_, _, hs2⟩ := hs.allocF z T
          simp only
          rw [if_pos (by simp [Region.wanted, hgd])]
          refine .inl ?_
          unfold Oper.wp
          rw [hrun a w]
          show wpAny P .any ops Q fuel (listed.setIfInBounds i true) (a.put o.dst _) _
          rw [hdst]
          have hsp : d < a.tmps.size := by rw [hs.size]; exact hdo
          have hvp : (a.put (some d) (.pointer (some ⟨w.heap.size, 0, none⟩))).tmps.getD d undef = .pointer (some ⟨w.heap.size, 0, none⟩) := by
            simp [Act.put, Array.getD_eq_getD_getElem?, Array.getElem?_setIfInBounds, hsp]
          refine hnext _ _ _ _ (Sim.put hs2 hdo (sv := .pv .bot) ⟨rfl, trivial⟩ trivial rfl) (hout.alloc hs z T hdfresh hvp (hputs _)) rfl (fun i2 o2 d2 t2 h1 h2 h3 => ?_) (fun d2 h1 => ?_)
          · rw [hset] at h1
            split at h1
            · rename_i e; subst e
              rw [ho] at h2; cases h2
              rw [hal] at h3; cases h3
              exact ⟨w.heap.size, z, if_pos rfl, hzo⟩
            · obtain ⟨c, z', h5, h6⟩ := hon i2 o2 d2 t2 h1 h2 h3
              have : d2 ≠ d := fun e => by rw [e, hdfresh] at h5; cases h5
              exact ⟨c, z', (if_neg this).trans h5, h6⟩
          · by_cases e : d2 = d
            · subst e; exact ⟨i, o, T, by rw [hset, if_pos rfl], ho, hal⟩
            · simp only [if_neg e] at h1
              obtain ⟨j, oj, tj, h5, h6, h7⟩ := hcov d2 h1
              exact ⟨j, oj, tj, by rw [hset]; split; rfl; exact h5, h6, h7⟩
        rename_i hal
        have key := QG_ok (ops := ops) o hQG hsR (Q := Q) (K' := wpAny P .any ops Q fuel (listed.setIfInBounds i true)) (fun v J w2 _ s2 f2 a2 => by
          have hs2 := (s2 g _ rfl hs).1
          have t2 := (s2 g _ rfl hs).2
          have hput : Sim { g with I := J } ⟨(d, kq q r) :: t, base.h⟩ (a.put (some d) v) w2 := by
            refine Sim.put hs2 (by rw [t2.N]; exact hdo) ?_ ?_ (kq_cases q r).1
            · rcases (kq_cases q r).2 with h5 | ⟨h5, h6⟩
              · rw [h5]; exact ⟨rfl, trivial⟩
              · rw [h5]; exact f2
            · rcases (kq_cases q r).2 with h5 | ⟨h5, h6⟩
              · rw [h5]; trivial
              · rw [h5]
                refine AlOk.congrA (q := q) (fun p hp hown => ?_) h6 a2
                refine ⟨?_, rfl⟩
                cases p with
                | cell b k => rfl
                | slot s =>
                  have hns : s ∉ E.map (·.1) := fun hc => by rw [(hq s).2 hc] at hp; cases hp
                  simp only [posGet]
                  rw [hI.off s hns, look_restr]
                  split
                  · symm
                    apply look_append_of_not_mem
                    intro hc
                    apply hns
                    rw [List.map_reverse, List.mem_reverse] at hc
                    obtain ⟨p, hp, he⟩ := List.mem_map.1 hc
                    exact List.mem_map.2 ⟨p, List.mem_of_mem_take hp, he⟩
                  · rfl
          rw [hdst]
          refine hnext _ _ w2 cf hput (hout.step t2 fun d' hd' => hputs v d' (fun e => hd' (by rw [e]; exact hdfresh))) rfl (fun i2 o2 d2 t3 h1 h2 h3 => ?_) (fun d2 h1 => ?_)
          · rw [hset] at h1
            split at h1
            · rename_i e; subst e
              rw [ho] at h2; cases h2
              rw [hal] at h3; cases h3
            · exact hon i2 o2 d2 t3 h1 h2 h3
          · obtain ⟨j, oj, tj, h5, h6, h7⟩ := hcov d2 h1
            exact ⟨j, oj, tj, by rw [hset]; split; rfl; exact h5, h6, h7⟩)
        simp only
        split
        · rename_i hw; rw [if_pos hw] at key; exact .inl key
        · rename_i hw; rw [if_neg hw] at key; exact key
      · have him' : i = m := by
          apply Nat.le_antisymm _ (Nat.le_of_not_lt him)
          apply Nat.le_of_not_lt
          intro hl
          obtain ⟨e, he, hb, hon⟩ := isAfter_iff.1 (hB.chain (i - 1) o (by omega) (by rw [Nat.sub_add_cancel (by omega)]; simpa using ho))
          have := hlm _ (hdeps' e he hb)
          omega
        subst him'
        have hpre : ∀ k j : Nat, i ≤ j + k → j < i → listed[j]? = some true := by
          intro k
          induction k with
          | zero => intro j h1 h2; omega
          | succ k ihk =>
            intro j h1 h2
            obtain ⟨j', o', hj1, hj2, hj3, hj4⟩ := hB.up (by simpa using hil) j h2
            obtain ⟨e, he, hb, hon⟩ := isAfter_iff.1 hj4
            rcases Nat.lt_or_ge j' i with hlt | hge
            · have := hdc j' o' (ihk j' (by omega) hlt) (by simpa using hj3) e he hb
              rw [hon] at this; exact this
            · have : j' = i := by omega
              subst this
              have hj3' : ops[j']? = some o' := by simpa using hj3
              rw [ho] at hj3'; cases hj3'
              have := hdeps' e he hb
              rw [hon] at this; exact this
        obtain ⟨g', st', hk, ht, hs2⟩ := hfin hout hon hcov (fun j hj => hpre i j (by omega) hj) hlm hI hs hd
        have hpost : ∀ j : Nat, i ≤ j → j < ops.size → listed[j]? = some false := fun j hj hj2 => by
            have hjl : j < listed.size := by omega
            cases hb : listed[j] with
            | false => rw [Array.getElem?_eq_getElem hjl, hb]
            | true => have := hlm j (by rw [Array.getElem?_eq_getElem hjl, hb]); omega
        have hfu : i + (fuel + 1) = ops.size := by
          have := cntF_split listed.toList i (by simp [hsz]; omega) (fun j hj => by simpa using hpre i j (by omega) hj) (fun j h1 h2 => by simpa using hpost j h1 (by simpa [hsz] using h2))
          rw [hcnt] at this; simpa [hsz] using this
        have := draw_suf hB (Q := Q) (K := K) (ops.toList.drop i) i (fuel + 1) listed _ g' a w rfl (Nat.le_refl _) hfu hsz (fun j hj => hpre i j (by omega) hj) hpost hk hs2 (by rw [ht.N, ← hout.to.N]; exact hd) (fun st2 g2 a2 w2 k2 t2 s2 => hQ st2 g2 a2 w2 k2 (ht.trans t2) s2)
        exact this.2 i hi

theorem mem_dstsOf {l : List Oper} {s : Nat} : s ∈ dstsOf l ↔ ∃ (i : Nat) (o : Oper), l[i]? = some o ∧ o.dst = some s := by
  simp only [dstsOf, List.mem_filterMap]
  constructor
  · rintro ⟨o, h1, h2⟩
    obtain ⟨i, hi⟩ := List.mem_iff_getElem?.1 h1
    exact ⟨i, o, hi, h2⟩
  · rintro ⟨i, o, h1, h2⟩
    exact ⟨o, List.mem_of_getElem? h1, h2⟩

theorem Sim.cast_I {g : Gh} {J : Nat → Option Obj} {st : St} {a : Act} {w : World} (h : Sim { g with I := J } st a w) (hJ : ∀ c, g.I c = J c) : Sim g st a w := by
  have : J = g.I := funext fun c => (hJ c).symm
  subst this
  exact h

theorem ADraw_wp {P : Program} {ops : Array Oper} {id : Nat} {st : St} {K : St → Prop} (hmo : P.follows .mixedOrders = true) (hB : drawB ops.toList (preLen ops.toList) = true) (h : ADraw P ops.toList K st) {g : Gh} {a : Act} {w : World} (hs : Sim g st a w)
    (hd : dstsOk g.N ops.toList = true) {Q : Exit → Act → World → Prop} (hQ : ∀ st' g' a' w', K st' → g.to g' → Sim g' st' a' w' → Q .normal a' w') : (Code.region id ops true).wp P Q a w := by
  refine wp_region_any hmo ?_
  have hB' := drawB_ok hB
  unfold ADraw at h
  obtain ⟨E, hEl, hK, hE⟩ := AQ_all _ _ h
  have hm : (ops.toList.take (preLen ops.toList)).length = preLen ops.toList := by rw [List.length_take]; exact Nat.min_eq_left hB'.le
  rw [hm] at hEl
  have hpre : ∀ (i : Nat) (o : Oper), i < preLen ops.toList → ops[i]? = some o → (ops.toList.take (preLen ops.toList))[i]? = some o := fun i o hi ho => by
    rw [List.getElem?_take, if_pos hi]; simpa using ho
  have hds : ∀ s, s ∈ E.map (·.1) ↔ s ∈ dstsOf (ops.toList.take (preLen ops.toList)) := by
    intro s
    rw [mem_dstsOf]
    constructor
    · intro hs'
      obtain ⟨p, hp, he⟩ := List.mem_map.1 hs'
      obtain ⟨i, hi⟩ := List.mem_iff_getElem?.1 hp
      have hlt : i < preLen ops.toList := by rw [← hEl]; exact (List.getElem?_eq_some_iff.1 hi).1
      have hlt2 : i < (ops.toList.take (preLen ops.toList)).length := by rw [hm]; exact hlt
      obtain ⟨d, r, e1, e2, _⟩ := hE i _ (List.getElem?_eq_getElem hlt2)
      rw [hi] at e2; cases e2
      exact ⟨i, _, List.getElem?_eq_getElem hlt2, by rw [e1]; simp at he; rw [he]⟩
    · rintro ⟨i, o, h1, h2⟩
      obtain ⟨d, r, e1, e2, _⟩ := hE i o h1
      rw [h2] at e1; cases e1
      exact List.mem_map.2 ⟨_, List.mem_of_getElem? e2, rfl⟩
  have hnd : (E.map (·.1)).Nodup := by
    unfold List.Nodup
    rw [List.pairwise_iff_getElem]
    intro i j hi hj hij e
    have hi' : i < preLen ops.toList := by rw [← hEl]; simpa using hi
    have hj' : j < preLen ops.toList := by rw [← hEl]; simpa using hj
    have hnl : j < ops.size := Nat.lt_of_lt_of_le hj' (by simpa using hB'.le)
    have hoi : ops[i]? = some (ops[i]'(by omega)) := by simp [show i < ops.size by omega]
    have hoj : ops[j]? = some ops[j] := by simp [hnl]
    obtain ⟨d, h1, h2⟩ := hB'.dst j ops[j] hj' (by rw [Array.getElem?_toList]; exact hoj)
    obtain ⟨d', h3, h4, _⟩ := h2 i _ hij (by rw [Array.getElem?_toList]; exact hoi)
    obtain ⟨dj, rj, e1, e2, _⟩ := hE j _ (hpre j _ hj' hoj)
    obtain ⟨di, ri, e3, e4, _⟩ := hE i _ (hpre i _ hi' hoi)
    rw [h1] at e1; cases e1
    rw [h3] at e3; cases e3
    apply h4
    have g1 : (E.map (·.1))[i]? = some d' := by rw [List.getElem?_map, e4]; rfl
    have g2 : (E.map (·.1))[j]? = some d := by rw [List.getElem?_map, e2]; rfl
    rw [List.getElem?_eq_getElem hi] at g1
    rw [List.getElem?_eq_getElem hj] at g2
    cases g1; cases g2; exact e
  let base : St := ⟨bots (dstsOf (ops.toList.take (preLen ops.toList))) (killL (qDst (dstsOf (ops.toList.take (preLen ops.toList)))) st.t), st.h⟩
  have hlb : ∀ s, look base.t s = look st.t s ∨ look base.t s = .pv .bot := by
    intro s
    show look (bots _ _) s = _ ∨ look (bots _ _) s = _
    rw [look_bots]
    split
    · exact .inr rfl
    · rw [look_kill]
      rcases killS_cases (qDst (dstsOf (ops.toList.take (preLen ops.toList)))) (look st.t s) with e | ⟨e, _⟩
      · exact .inr e
      · exact .inl e
  have hs0 : Sim g base a { w with drawn := w.drawn + 1 } := by
    have h1 : Sim g st a { w with drawn := w.drawn + 1 } := (hs.grown (w' := { w with drawn := w.drawn + 1 }) rfl (Nat.le_refl _) (fun _ _ => rfl) g.I hs.I).1.cast_I (fun c => by
      show g.I c = if w.heap.size ≤ c then g.I c else g.I c
      split <;> rfl)
    exact h1.weak rfl hlb
  refine draw_pre (Q := Q) (K := K) (m := preLen ops.toList) (base := base) (E := E) (q := qDst (dstsOf (ops.toList.take (preLen ops.toList)))) hB' hEl hnd ?_ ?_ ?_ (by simpa [ADrawK] using hK) hQ ops.size (Array.replicate ops.size false) base.t (fun _ => none) g a _ (Out.start hs0) ?_ (fun _ h => absurd rfl h) (by simp) (by simpa using cntF_replicate _)
    ?_ ?_ ?_ hs0 hd
  · intro s
    rw [hds]
    simp [qDst]
  · intro s hs'
    show look (bots _ _) s = _
    rw [look_bots, if_pos ((hds s).1 hs')]
  · intro i o hi ho
    obtain ⟨d, r, e1, e2, e3⟩ := hE i o (hpre i o hi ho)
    exact ⟨d, r, e1, e2, by simpa using e3⟩
  · intro i o d t hi
    rw [Array.getElem?_replicate] at hi
    split at hi <;> cases hi
  · intro i hi
    rw [Array.getElem?_replicate] at hi
    split at hi <;> cases hi
  · intro i o hi
    rw [Array.getElem?_replicate] at hi
    split at hi <;> cases hi
  · refine ⟨fun i d v hi => ?_, fun s _ => rfl⟩
    show look (bots _ _) d = _
    rw [look_bots, if_pos ((hds d).1 (List.mem_map.2 ⟨_, List.mem_of_getElem? hi, rfl⟩))]
    split
    · rename_i hc
      rw [Array.getD_eq_getD_getElem?, Array.getElem?_replicate] at hc
      split at hc <;> cases hc
    · rfl

end Go.AX
