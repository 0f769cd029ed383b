/-
  The plain law of heaps: what stays so, whatever is done.
  Contracts: what is done with a heap.
-/
import Derived.Test.YtipaihpchnlkfaaS2AxHpD
import Derived.Test.YtipaihpchnlkfaaS2AxMovS
namespace Go.AX

def bumpS (q : HS) (v by' : Int) : HS × Int :=
  if isV q v = false then (q, 10) else if by' < 0 ∨ 1000000000000 < by' then (q, 2) else
    let sc1 := q.sc.set v.toNat (q.sc.getD v.toNat 0 + by')
    let q1 : HS := if 0 ≤ q.pl.getD v.toNat 0 then ⟨sc1, (upL sc1 (q.row.getD (q.pl.getD v.toNat 0).toNat 0) (q.pl.getD v.toNat 0).toNat q.row q.pl).1, (upL sc1 (q.row.getD (q.pl.getD v.toNat 0).toNat 0) (q.pl.getD v.toNat 0).toNat q.row q.pl).2⟩ else ⟨sc1, q.row, q.pl⟩
    (if 1000000000000 < q1.sc.getD v.toNat 0 then halveS q1 else q1, 0)
def putS (q : HS) (v : Int) : HS × Int :=
  if isV q v = false then (q, 10) else if 0 ≤ q.pl.getD v.toNat 0 then (q, 21) else
    (⟨q.sc, (upL q.sc v q.row.length (q.row ++ [v]) q.pl).1, (upL q.sc v q.row.length (q.row ++ [v]) q.pl).2⟩, 0)
def takeS' (q : HS) : HS × Int :=
  if peekV q = 0 then (q, 0) else
    let w := q.row.getD (q.row.length - 1) 0
    let row2 := (q.row.set 0 w).take (q.row.length - 1)
    let pl2 := (q.pl.set w.toNat 0).set (peekV q).toNat (-1)
    (if 0 < q.row.length - 1 then ⟨q.sc, (downL q.sc (row2.getD 0 0) row2.length 0 row2 pl2).1, (downL q.sc (row2.getD 0 0) row2.length 0 row2 pl2).2⟩ else ⟨q.sc, row2, pl2⟩, peekV q)
def newS (n : Nat) : HS := ⟨List.replicate (n + 1) 0, (List.range n).map fun i => ((i + 1 : Nat) : Int), 0 :: (List.range n).map fun i => ((i : Nat) : Int)⟩

structure HpG (n : Nat) (M : Int) (q : HS) : Prop where
  sl : q.sc.length = n + 1
  pll : q.pl.length = n + 1
  nd : q.row.Nodup
  inr : InR q.row (n + 1)
  plc : PL q.row q.pl
  out : ∀ u : Nat, 1 ≤ u → u ≤ n → ¬ (u : Int) ∈ q.row → q.pl.getD u 0 = -1
  ho : HO q.sc q.row 0
  rng : ∀ x ∈ q.sc, 0 ≤ x ∧ x ≤ M
namespace HpG
variable {n : Nat} {M : Int} {q : HS}
theorem few (g : HpG n M q) : q.row.length ≤ n := by
  have := len_of_sub q.row ((List.range n).map fun i => ((i + 1 : Nat) : Int)) g.nd (fun x hx => by
    have := g.inr x hx
    rw [List.mem_map]
    exact ⟨(x - 1).toNat, List.mem_range.2 (by omega), by omega⟩)
  simpa using this
theorem isV_iff (g : HpG n M q) {v : Int} : isV q v = true ↔ 1 ≤ v ∧ v ≤ n := by
  simp only [isV, Bool.and_eq_true, decide_eq_true_eq, g.sl]; omega
theorem place (g : HpG n M q) {v : Int} (h : v ∈ q.row) : ∃ i, i < q.row.length ∧ q.row.getD i 0 = v ∧ q.pl.getD v.toNat 0 = (i : Int) := by
  obtain ⟨i, hi, e⟩ := mem_getD h
  exact ⟨i, hi, e, by have := g.plc i hi; rwa [e] at this⟩
theorem has_iff (g : HpG n M q) {v : Int} (hv : 1 ≤ v ∧ v ≤ n) : 0 ≤ q.pl.getD v.toNat 0 ↔ v ∈ q.row := by
  constructor
  · intro h
    apply Classical.byContradiction
    intro hn
    have := g.out v.toNat (by omega) (by omega) (by rwa [show ((v.toNat : Nat) : Int) = v by omega])
    omega
  · intro h
    obtain ⟨i, _, _, e⟩ := g.place h
    rw [e]; omega
theorem score (g : HpG n M q) (v : Nat) : 0 ≤ q.sc.getD v 0 ∧ (0 ≤ M → q.sc.getD v 0 ≤ M) := by
  by_cases h : v < q.sc.length
  · have := g.rng _ (getD_mem h); exact ⟨this.1, fun _ => this.2⟩
  · have : q.sc.getD v 0 = 0 := by simp [List.getD_eq_getElem?_getD, h]
    rw [this]; exact ⟨by omega, fun h => h⟩
/-- The best one stands first. -/
theorem first (g : HpG n M q) : ∀ j, j < q.row.length → bet q.sc (q.row.getD j 0) (q.row.getD 0 0) = false := by
  intro j
  induction j using Nat.strongRecOn with
  | _ j ih =>
    intro hj
    rcases Nat.eq_zero_or_pos j with h0 | h0
    · subst h0; exact nbet_refl _ _
    · exact nbet_trans (g.ho j h0 hj (Nat.zero_le _)) (ih ((j - 1) / 2) (by omega) (by omega))
theorem best (g : HpG n M q) {x : Int} (hx : x ∈ q.row) (hne : x ≠ peekV q) : bet q.sc (peekV q) x = true := by
  obtain ⟨j, hj, rfl⟩ := mem_getD hx
  exact bet_of_nbet (g.first j hj) hne
theorem peek_zero (g : HpG n M q) : peekV q = 0 ↔ q.row = [] := by
  constructor
  · intro h
    cases hr : q.row with
    | nil => rfl
    | cons x xs =>
      have := g.inr x (by rw [hr]; simp)
      simp only [peekV, hr, List.getD_cons_zero] at h
      omega
  · intro h; simp [peekV, h]
theorem peek_mem (g : HpG n M q) (h : peekV q ≠ 0) : peekV q ∈ q.row := by
  cases hr : q.row with
  | nil => exact absurd (g.peek_zero.2 hr) h
  | cons x xs => simp [peekV, hr]
end HpG

theorem orderL_ok {sc : List Int} : ∀ (k : Nat) (row pl : List Int), k ≤ row.length → row.Nodup → InR row pl.length → PL row pl → HO sc row k → DnOk sc row pl 0 (orderL sc k row pl)
  | 0, row, pl, _, _, _, hp, ho => ⟨List.Perm.refl _, ho, hp, fun _ _ => rfl, rfl⟩
  | k + 1, row, pl, hk, hnd, hin, hp, ho => by
    have d := downL_ok (sc := sc) (v := row.getD k 0) (k := k) row.length k row pl (by omega) (by omega) (Nat.le_refl _) rfl hnd hin (fun j hj _ => hp j hj)
      (fun j hj0 hj hkj hne => ho j hj0 hj (by omega)) (fun j _ _ _ h1 h2 => by omega)
    have hl := d.perm.length_eq
    have r := orderL_ok k _ _ (by rw [hl]; omega) (d.perm.nodup_iff.2 hnd) (by rw [d.len]; exact fun x hx => hin x (d.perm.mem_iff.1 hx)) d.plc d.ho
    exact ⟨r.perm.trans d.perm, r.ho, r.plc, fun u hu => by rw [orderL, r.out u (fun h => hu (d.perm.mem_iff.1 h)), d.out u hu], r.len.trans d.len⟩

theorem half_eq {x : Int} (h : 0 ≤ x) (h2 : x ≤ 4000000000000) : half x = x / 2 := by
  unfold half
  have : Int.tdiv x 2 = x / 2 := Int.tdiv_eq_ediv_of_nonneg h
  rw [this, w64_id (by omega) (by omega)]

theorem halve_good {n : Nat} {M : Int} {q : HS} (g : HpG n (2 * M) q) (h0 : 0 ≤ M) (hM : M ≤ 1000000000000) : HpG n M (halveS q) ∧ (halveS q).row.Perm q.row ∧ (halveS q).sc = q.sc.map (· / 2) := by
  have hsc : q.sc.map half = q.sc.map (· / 2) := List.map_congr_left fun x hx => by have := g.rng x hx; exact half_eq this.1 (by omega)
  have hr := orderL_ok (sc := q.sc.map half) (q.row.length / 2) q.row q.pl (by omega) g.nd (by rw [g.pll]; exact g.inr) g.plc (fun j h1 h2 h3 => by omega)
  refine ⟨⟨by simp [halveS, g.sl], by simp only [halveS]; rw [hr.len, g.pll], hr.perm.nodup_iff.2 g.nd, fun x hx => g.inr x (hr.perm.mem_iff.1 hx), hr.plc, fun u h1 h2 hu => ?_, hr.ho, fun x hx => ?_⟩, hr.perm, hsc⟩
  · have hu' : ¬ (u : Int) ∈ q.row := fun h => hu (hr.perm.mem_iff.2 h)
    rw [show (halveS q).pl.getD u 0 = _ from hr.out u hu']; exact g.out u h1 h2 hu'
  · simp only [halveS, hsc, List.mem_map] at hx
    obtain ⟨y, hy, rfl⟩ := hx
    have := g.rng y hy
    omega
theorem HpG.mono {n : Nat} {M M' : Int} {q : HS} (g : HpG n M q) (h : M ≤ M') : HpG n M' q := ⟨g.sl, g.pll, g.nd, g.inr, g.plc, g.out, g.ho, fun x hx => by have := g.rng x hx; omega⟩

theorem set_self {l : List Int} {i : Nat} : l.set i (l.getD i 0) = l := by
  apply List.ext_getElem
  · simp
  · intro j a1 a2
    rw [List.getElem_set]
    split
    · rename_i e; subst e; simp [List.getD_eq_getElem?_getD, a2]
    · rfl

def bump1 (q : HS) (v by' : Int) : HS :=
  if 0 ≤ q.pl.getD v.toNat 0 then ⟨q.sc.set v.toNat (q.sc.getD v.toNat 0 + by'), (upL (q.sc.set v.toNat (q.sc.getD v.toNat 0 + by')) (q.row.getD (q.pl.getD v.toNat 0).toNat 0) (q.pl.getD v.toNat 0).toNat q.row q.pl).1, (upL (q.sc.set v.toNat (q.sc.getD v.toNat 0 + by')) (q.row.getD (q.pl.getD v.toNat 0).toNat 0) (q.pl.getD v.toNat 0).toNat q.row q.pl).2⟩ else ⟨q.sc.set v.toNat (q.sc.getD v.toNat 0 + by'), q.row, q.pl⟩
theorem bump1_good {n : Nat} {q : HS} (g : HpG n 1000000000000 q) {v by' : Int} (hv : 1 ≤ v ∧ v ≤ n) (c2 : ¬ (by' < 0 ∨ 1000000000000 < by')) :
    HpG n (2 * 1000000000000) (bump1 q v by') ∧ (bump1 q v by').row.Perm q.row ∧ (bump1 q v by').sc = q.sc.set v.toNat (q.sc.getD v.toNat 0 + by') ∧ (bump1 q v by').sc.getD v.toNat 0 = q.sc.getD v.toNat 0 + by' := by
  have hvl : v.toNat < q.sc.length := by rw [g.sl]; omega
  have hsv := g.score v.toNat
  have hsc1 : ∀ u : Nat, (q.sc.set v.toNat (q.sc.getD v.toNat 0 + by')).getD u 0 = if u = v.toNat then q.sc.getD v.toNat 0 + by' else q.sc.getD u 0 := fun u => by
    rw [getD_set]
    by_cases e : u = v.toNat
    · rw [if_pos ⟨e.symm, hvl⟩, if_pos e]
    · rw [if_neg (fun h => e h.1.symm), if_neg e]
  have hrng : ∀ x ∈ q.sc.set v.toNat (q.sc.getD v.toNat 0 + by'), 0 ≤ x ∧ x ≤ 2 * 1000000000000 := fun x hx => by
    rcases List.mem_or_eq_of_mem_set hx with hx | hx
    · have := g.rng x hx; omega
    · omega
  generalize hs1 : q.sc.set v.toNat (q.sc.getD v.toNat 0 + by') = sc1 at *
  have hsl : sc1.length = n + 1 := by rw [← hs1, List.length_set, g.sl]
  have key : ∀ q1 : HS, q1 = (if 0 ≤ q.pl.getD v.toNat 0 then ⟨sc1, (upL sc1 (q.row.getD (q.pl.getD v.toNat 0).toNat 0) (q.pl.getD v.toNat 0).toNat q.row q.pl).1, (upL sc1 (q.row.getD (q.pl.getD v.toNat 0).toNat 0) (q.pl.getD v.toNat 0).toNat q.row q.pl).2⟩ else ⟨sc1, q.row, q.pl⟩) →
      HpG n (2 * 1000000000000) q1 ∧ q1.row.Perm q.row ∧ q1.sc = sc1 := by
    intro q1 hq1
    by_cases c3 : 0 ≤ q.pl.getD v.toNat 0
    · rw [if_pos c3] at hq1
      obtain ⟨i, hi, hiv, hip⟩ := g.place ((g.has_iff hv).1 c3)
      rw [hip, Int.toNat_natCast, hiv] at hq1
      have hset : q.row.set i v = q.row := by rw [← hiv]; exact set_self
      have hnv : ∀ j, j < q.row.length → j ≠ i → q.row.getD j 0 ≠ v := fun j hj hne e => hne (nodup_getD g.nd hj hi (by rw [e, hiv]))
      have hval : ∀ j, j < q.row.length → j ≠ i → sc1.getD (q.row.getD j 0).toNat 0 = q.sc.getD (q.row.getD j 0).toNat 0 := fun j hj hne => by
        have h1 := g.inr _ (getD_mem hj)
        have h2 := hnv j hj hne
        rw [hsc1, if_neg (by omega)]
      have hup := upL_ok (sc := sc1) (v := v) i q.row q.pl hi (by rw [hset]; exact g.nd) (by rw [hset, g.pll]; exact g.inr) (by rw [hset]; exact fun j hj _ => g.plc j hj)
        (fun j hj0 hj hne => by
          rw [hset]
          have h1 := g.ho j hj0 hj (Nat.zero_le _)
          have h2 := hval j hj hne
          by_cases e : (j - 1) / 2 = i
          · rw [e, hiv] at h1 ⊢
            rw [nbet_iff] at h1 ⊢
            rw [h2, hsc1, if_pos rfl]
            omega
          · have h3 := hval ((j - 1) / 2) (by omega) e
            rw [nbet_iff] at h1 ⊢
            rw [h2, h3]; exact h1)
        (fun j hj0 hj hji hi0 => by
          rw [hset]
          have h1 := g.ho j hj0 hj (Nat.zero_le _)
          have h4 := g.ho i hi0 hi (Nat.zero_le _)
          rw [hji] at h1
          have h5 := nbet_trans h1 h4
          rw [nbet_iff] at h5 ⊢
          rw [hval j hj (by omega), hval ((i - 1) / 2) (by omega) (by omega)]; exact h5)
      obtain ⟨u1, u2, u3, u4, u5⟩ := hup
      rw [hset] at u1 u4
      subst hq1
      exact ⟨⟨hsl, by dsimp only; rw [u5, g.pll], u1.nodup_iff.2 g.nd, fun x hx => g.inr x (u1.mem_iff.1 hx), u3, fun u h1 h2 hu => by
        have hu' : ¬ (u : Int) ∈ q.row := fun h => hu (u1.mem_iff.2 h)
        dsimp only
        rw [u4 u hu']; exact g.out u h1 h2 hu', u2, hrng⟩, u1, rfl⟩
    · rw [if_neg c3] at hq1
      subst hq1
      have hvn : ¬ v ∈ q.row := fun h => c3 ((g.has_iff hv).2 h)
      refine ⟨⟨hsl, g.pll, g.nd, g.inr, g.plc, g.out, fun j hj0 hj hk => ?_, hrng⟩, List.Perm.refl _, rfl⟩
      have h1 := g.ho j hj0 hj (Nat.zero_le _)
      have hval : ∀ j, j < q.row.length → sc1.getD (q.row.getD j 0).toNat 0 = q.sc.getD (q.row.getD j 0).toNat 0 := fun j hj => by
        have h1 := g.inr _ (getD_mem hj)
        have h2 : q.row.getD j 0 ≠ v := fun e => hvn (by rw [← e]; exact getD_mem hj)
        rw [hsc1, if_neg (by omega)]
      rw [nbet_iff] at h1 ⊢
      dsimp only at hj ⊢
      rw [hval j hj, hval ((j - 1) / 2) (by omega)]; exact h1
  obtain ⟨g1, p1, s1⟩ := key (bump1 q v by') (by rw [← hs1]; rfl)
  exact ⟨g1, p1, s1, by rw [s1, hsc1, if_pos rfl]⟩

theorem bump_good {n : Nat} {q : HS} (g : HpG n 1000000000000 q) (v by' : Int) : HpG n 1000000000000 (bumpS q v by').1 ∧ (bumpS q v by').1.row.Perm q.row ∧
    ((bumpS q v by').2 = 0 → (bumpS q v by').1.sc = (let s := q.sc.set v.toNat (q.sc.getD v.toNat 0 + by'); if 1000000000000 < q.sc.getD v.toNat 0 + by' then s.map (· / 2) else s)) ∧ ((bumpS q v by').2 ≠ 0 → (bumpS q v by').1 = q) := by
  unfold bumpS
  by_cases c1 : isV q v = false
  · rw [if_pos c1]; exact ⟨g, List.Perm.refl _, fun h => absurd h (by simp), fun _ => rfl⟩
  rw [if_neg c1]
  by_cases c2 : by' < 0 ∨ 1000000000000 < by'
  · rw [if_pos c2]; exact ⟨g, List.Perm.refl _, fun h => absurd h (by simp), fun _ => rfl⟩
  rw [if_neg c2]
  have hv := g.isV_iff.1 (by simpa using c1)
  obtain ⟨g1, p1, s1, hgv⟩ := bump1_good g hv c2
  change HpG n 1000000000000 ((if 1000000000000 < (bump1 q v by').sc.getD v.toNat 0 then halveS (bump1 q v by') else bump1 q v by', (0 : Int))).1 ∧ ((if 1000000000000 < (bump1 q v by').sc.getD v.toNat 0 then halveS (bump1 q v by') else bump1 q v by', (0 : Int))).1.row.Perm q.row ∧ (_ → ((if 1000000000000 < (bump1 q v by').sc.getD v.toNat 0 then halveS (bump1 q v by') else bump1 q v by', (0 : Int))).1.sc = _) ∧ (¬ (0 : Int) = 0 → _)
  generalize bump1 q v by' = q1 at *
  rw [hgv]
  dsimp only
  by_cases c4 : 1000000000000 < q.sc.getD v.toNat 0 + by'
  · rw [if_pos c4, if_pos c4]
    obtain ⟨g2, p2, s2⟩ := halve_good g1 (by omega) (by omega)
    exact ⟨g2, p2.trans p1, fun _ => by rw [s2, s1], fun h => absurd rfl h⟩
  · rw [if_neg c4, if_neg c4]
    refine ⟨⟨g1.sl, g1.pll, g1.nd, g1.inr, g1.plc, g1.out, g1.ho, fun x hx => ?_⟩, p1, fun _ => s1, fun h => absurd rfl h⟩
    rw [s1] at hx
    have hsv := g.score v.toNat
    rcases List.mem_or_eq_of_mem_set hx with hx | hx
    · exact g.rng x hx
    · omega

theorem put_good {n : Nat} {M : Int} {q : HS} (g : HpG n M q) (v : Int) : HpG n M (putS q v).1 ∧ (putS q v).1.sc = q.sc ∧ ((putS q v).2 = 0 → (putS q v).1.row.Perm (q.row ++ [v])) ∧ ((putS q v).2 ≠ 0 → (putS q v).1 = q) := by
  unfold putS
  by_cases c1 : isV q v = false
  · rw [if_pos c1]; exact ⟨g, rfl, fun h => absurd h (by simp), fun _ => rfl⟩
  rw [if_neg c1]
  by_cases c2 : 0 ≤ q.pl.getD v.toNat 0
  · rw [if_pos c2]; exact ⟨g, rfl, fun h => absurd h (by simp), fun _ => rfl⟩
  rw [if_neg c2]
  have hv := g.isV_iff.1 (by simpa using c1)
  have hvn : ¬ v ∈ q.row := fun h => c2 ((g.has_iff hv).2 h)
  have hset : (q.row ++ [v]).set q.row.length v = q.row ++ [v] := by simp
  have hnd : (q.row ++ [v]).Nodup := by
    rw [List.nodup_append]; exact ⟨g.nd, by simp, fun a ha b hb => by simp at hb; subst hb; exact fun e => hvn (e ▸ ha)⟩
  have hge : ∀ j, j < q.row.length → (q.row ++ [v]).getD j 0 = q.row.getD j 0 := fun j hj => by
    rw [List.getD_eq_getElem?_getD, List.getElem?_append_left hj, ← List.getD_eq_getElem?_getD]
  have hin : InR (q.row ++ [v]) (n + 1) := fun x hx => by
    rcases List.mem_append.1 hx with hx | hx
    · exact g.inr x hx
    · simp at hx; omega
  have hup := upL_ok (sc := q.sc) (v := v) q.row.length (q.row ++ [v]) q.pl (by simp) (by rw [hset]; exact hnd) (by rw [hset, g.pll]; exact hin)
    (by
      rw [hset]
      intro j hj hne
      simp only [List.length_append, List.length_cons, List.length_nil] at hj
      by_cases e : j = q.row.length
      · subst e; exact absurd (by simp [List.getD_eq_getElem?_getD]) hne
      · rw [hge j (by omega)]; exact g.plc j (by omega))
    (fun j hj0 hj hne => by
      rw [hset]
      simp only [List.length_append, List.length_cons, List.length_nil] at hj
      rw [hge j (by omega), hge _ (by omega)]; exact g.ho j hj0 (by omega) (Nat.zero_le _))
    (fun j hj0 hj hji hi0 => by simp only [List.length_append, List.length_cons, List.length_nil] at hj; omega)
  obtain ⟨u1, u2, u3, u4, u5⟩ := hup
  rw [hset] at u1 u4
  refine ⟨⟨g.sl, by dsimp only; rw [u5, g.pll], u1.nodup_iff.2 hnd, fun x hx => hin x (u1.mem_iff.1 hx), u3, fun u h1 h2 hu => ?_, u2, g.rng⟩, rfl, fun _ => u1, fun h => absurd rfl h⟩
  have hu' : ¬ (u : Int) ∈ q.row ++ [v] := fun h => hu (u1.mem_iff.2 h)
  dsimp only
  rw [u4 u hu']; exact g.out u h1 h2 (fun h => hu' (List.mem_append_left _ h))

theorem take_good {n : Nat} {M : Int} {q : HS} (g : HpG n M q) : HpG n M (takeS' q).1 ∧ (takeS' q).1.sc = q.sc ∧ (takeS' q).2 = peekV q ∧ (peekV q ≠ 0 → q.row.Perm (peekV q :: (takeS' q).1.row)) ∧ (peekV q = 0 → (takeS' q).1 = q) := by
  unfold takeS'
  by_cases c1 : peekV q = 0
  · rw [if_pos c1]; exact ⟨g, rfl, c1.symm, fun h => absurd c1 h, fun _ => rfl⟩
  rw [if_neg c1]
  have hne : q.row ≠ [] := fun h => c1 (g.peek_zero.2 h)
  have hl : 0 < q.row.length := List.length_pos_iff.2 hne
  obtain ⟨L, hL⟩ : ∃ L, q.row.length = L + 1 := ⟨q.row.length - 1, by omega⟩
  have hpk := g.peek_mem c1
  have hp0 : q.row.getD 0 0 = peekV q := rfl
  simp only [hL, Nat.add_sub_cancel]
  generalize hw : q.row.getD L 0 = w
  have hwm : w ∈ q.row := by rw [← hw]; exact getD_mem (by omega)
  have hwi := g.inr w hwm
  have hpi := g.inr _ hpk
  -- what is left
  have hperm : q.row.Perm (peekV q :: (q.row.set 0 w).take L) := by
    have h1 : q.row = (q.row.take L) ++ [w] := by
      rw [← hw]
      apply List.ext_getElem
      · simp; omega
      · intro j a1 a2
        rw [List.getElem_append]
        split
        · simp
        · rename_i hj
          simp only [List.length_take] at hj
          have : j = L := by omega
          subst this
          simp [List.getD_eq_getElem?_getD, a1]
    rcases Nat.eq_zero_or_pos L with h0 | h0
    · subst h0
      cases hr : q.row with
      | nil => exact absurd hr hne
      | cons x xs =>
        have hx : xs = [] := by rw [hr] at hL; simpa using hL
        subst hx
        simp [peekV, hr]
    · cases hr : q.row with
      | nil => exact absurd hr hne
      | cons x xs =>
        obtain ⟨K, rfl⟩ : ∃ K, L = K + 1 := ⟨L - 1, by omega⟩
        rw [hr] at h1
        simp only [List.take_succ_cons, List.cons_append, List.cons.injEq, true_and] at h1
        have hx : peekV q = x := by simp [peekV, hr]
        simp only [List.set_cons_zero, List.take_succ_cons, hx]
        refine List.Perm.cons _ ?_
        conv => lhs; rw [h1]
        exact List.perm_append_comm
  have hlen2 : ((q.row.set 0 w).take L).length = L := by simp [hL]
  have hnd2 := (hperm.nodup_iff.1 g.nd)
  rw [List.nodup_cons] at hnd2
  have hmem2 : ∀ x, x ∈ (q.row.set 0 w).take L ↔ x ∈ q.row ∧ x ≠ peekV q := fun x => by
    constructor
    · intro hx
      exact ⟨hperm.mem_iff.2 (List.mem_cons_of_mem _ hx), fun e => hnd2.1 (e ▸ hx)⟩
    · rintro ⟨h1, h2⟩
      rcases List.mem_cons.1 (hperm.mem_iff.1 h1) with h3 | h3
      · exact absurd h3 h2
      · exact h3
  have hin2 : InR ((q.row.set 0 w).take L) (n + 1) := fun x hx => g.inr x ((hmem2 x).1 hx).1
  have hget2 : ∀ j, 0 < j → j < L → ((q.row.set 0 w).take L).getD j 0 = q.row.getD j 0 := fun j h0 hj => by
    rw [List.getD_eq_getElem?_getD, List.getElem?_take_of_lt hj, List.getElem?_set_ne (by omega), ← List.getD_eq_getElem?_getD]
  have hout2 : ∀ u : Nat, 1 ≤ u → u ≤ n → ¬ (u : Int) ∈ (q.row.set 0 w).take L → ((q.pl.set w.toNat 0).set (peekV q).toNat (-1)).getD u 0 = -1 := fun u h1 h2 hu => by
    rw [getD_set, List.length_set, g.pll]
    by_cases e : (u : Int) = peekV q
    · rw [if_pos ⟨by omega, by omega⟩]
    · rw [if_neg (by omega)]
      have hur : ¬ (u : Int) ∈ q.row := fun h => hu ((hmem2 u).2 ⟨h, e⟩)
      rw [getD_set, if_neg (fun h => hur (by rw [show (u : Int) = w by omega]; exact hwm))]
      exact g.out u h1 h2 hur
  generalize hr2 : (q.row.set 0 w).take L = row2 at *
  generalize hp2 : (q.pl.set w.toNat 0).set (peekV q).toNat (-1) = pl2 at *
  have hpl2l : pl2.length = n + 1 := by rw [← hp2]; simp [g.pll]
  by_cases c2 : 0 < L
  · rw [if_pos c2]
    have hd := downL_ok (sc := q.sc) (v := row2.getD 0 0) (k := 0) row2.length 0 row2 pl2 (by omega) (by omega) (Nat.le_refl _) rfl hnd2.2 (by rw [hpl2l]; exact hin2)
      (fun j hj hne' => by
        have hj0 : 0 < j := by
          rcases Nat.eq_zero_or_pos j with h0 | h0
          · subst h0; exact absurd rfl hne'
          · exact h0
        rw [hget2 j hj0 (by omega)]
        have h1 := g.inr _ (getD_mem (show j < q.row.length by omega))
        have hne1 : q.row.getD j 0 ≠ peekV q := fun e => by have := nodup_getD g.nd (show j < q.row.length by omega) hl (by rw [e, hp0]); omega
        have hne2 : q.row.getD j 0 ≠ w := fun e => by have := nodup_getD g.nd (show j < q.row.length by omega) (show L < q.row.length by omega) (by rw [e, hw]); omega
        rw [← hp2, getD_set, if_neg (by omega), getD_set, if_neg (by omega)]
        exact g.plc j (by omega))
      (fun j hj0 hj _ hne' => by
        rw [hget2 j hj0 (by omega), hget2 _ (by omega) (by omega)]
        exact g.ho j hj0 (by omega) (Nat.zero_le _))
      (fun j _ _ _ h1 _ => by omega)
    obtain ⟨u1, u2, u3, u4, u5⟩ := hd
    refine ⟨⟨g.sl, by dsimp only; rw [u5, hpl2l], u1.nodup_iff.2 hnd2.2, fun x hx => hin2 x (u1.mem_iff.1 hx), u3, fun u h1 h2 hu => ?_, u2, g.rng⟩, rfl, (by first | rfl | trivial), fun _ => hperm.trans (u1.symm.cons _), fun h => absurd h c1⟩
    have hu' : ¬ (u : Int) ∈ row2 := fun h => hu (u1.mem_iff.2 h)
    dsimp only
    rw [u4 u hu']; exact hout2 u h1 h2 hu'
  · rw [if_neg c2]
    have hL0 : L = 0 := by omega
    have hnil : row2 = [] := List.eq_nil_of_length_eq_zero (by omega)
    refine ⟨⟨g.sl, hpl2l, hnd2.2, hin2, fun j hj => ?_, hout2, fun j h0 hj => ?_, g.rng⟩, rfl, (by first | rfl | trivial), fun _ => hperm, fun h => absurd h c1⟩
    · dsimp only at hj; omega
    · dsimp only at hj; omega

theorem new_good (n : Nat) : HpG n 1000000000000 (newS n) := by
  have hg : ∀ j, j < n → ((List.range n).map fun i => ((i + 1 : Nat) : Int)).getD j 0 = ((j + 1 : Nat) : Int) := fun j hj => by simp [List.getD_eq_getElem?_getD, hj]
  refine ⟨by simp [newS], by simp [newS], ?_, fun x hx => ?_, fun j hj => ?_, fun u h1 h2 hu => ?_, fun j hj0 hj _ => ?_, fun x hx => ?_⟩
  · simp only [newS]
    unfold List.Nodup
    rw [List.pairwise_iff_getElem]
    intro i j hi hj hij e
    simp at e; omega
  · simp only [newS, List.mem_map, List.mem_range] at hx
    obtain ⟨i, hi, rfl⟩ := hx
    omega
  · simp only [newS, List.length_map, List.length_range] at hj ⊢
    rw [hg j hj, Int.toNat_natCast, List.getD_eq_getElem?_getD, List.getElem?_cons_succ]
    simp [hj]
  · exfalso
    apply hu
    simp only [newS, List.mem_map, List.mem_range]
    exact ⟨u - 1, by omega, by omega⟩
  · simp only [newS, List.length_map, List.length_range] at hj ⊢
    rw [hg j hj, hg _ (by omega), nbet_iff]
    right
    refine ⟨?_, by omega⟩
    simp only [List.getD_eq_getElem?_getD, List.getElem?_replicate]
    rw [if_pos (by omega), if_pos (by omega)]
  · simp only [newS] at hx
    have := List.eq_of_mem_replicate hx
    omega

end Go.AX

namespace Go.AX
open Go.Proofs
set_option linter.unusedSimpArgs false

theorem heapB_fold (s r p : List Int) : [SV.own true 1 (irow s), SV.own true 1 (irow r), SV.own true 1 (irow p)] = heapB ⟨s, r, p⟩ := rfl
theorem getD_int {l : List Int} {i : Nat} (h : i < l.length) : l[i] = l.getD i 0 := by simp [h]

theorem bumpS_no {q : HS} {v by' : Int} (h : isV q v = false) : bumpS q v by' = (q, 10) := by unfold bumpS; rw [if_pos h]
theorem bumpS_arg {q : HS} {v by' : Int} (h : isV q v = true) (h2 : by' < 0 ∨ 1000000000000 < by') : bumpS q v by' = (q, 2) := by unfold bumpS; rw [if_neg (by rw [h]; simp), if_pos h2]
theorem bumpS_yes {q : HS} {v by' : Int} (h : isV q v = true) (h2 : ¬ (by' < 0 ∨ 1000000000000 < by')) : bumpS q v by' = (if 1000000000000 < (bump1 q v by').sc.getD v.toNat 0 then halveS (bump1 q v by') else bump1 q v by', 0) := by
  unfold bumpS; rw [if_neg (by rw [h]; simp), if_neg h2]; rfl

set_option maxRecDepth 16000 in
theorem hbump_ok (h : List (List SV)) (b : Nat) (q : HS) (hb : h[b]? = some (heapB q)) {n : Nat} (g : HpG n 1000000000000 q) (hn : n ≤ 100000) (v by' : Int) :
    AMut Try.prog 92 [.ptr b 0, I64 v, I64 by'] h (fun r h' => r = .pv (I64 (bumpS q v by').2) ∧ h' = h.set b (heapB (bumpS q v by').1)) := by
  refine amut1 hmo Try.func92 (by kernel_rfl) rfl rfl (by kernel_rfl) (Nat.le_of_ble_eq_true rfl) ?_
  obtain ⟨hlt, hb'⟩ := List.getElem?_eq_some_iff.1 hb
  have hq : 0 < q.sc.length := by rw [g.sl]; omega
  have hw0 := hwhy_ok q hq v
  generalize hBS : bumpS q v by' = BS
  simp
  rw [frz_heap0 hb]
  refine CallB.introP hw0 (by simp) (by simp) ?_
  unfold whyV
  cases hv : isV q v with
  | false =>
    have e := hBS.symm.trans (bumpS_no hv)
    subst e; simp [set_same hb]
  | true =>
    have hvi := g.isV_iff.1 hv
    have hv2 : v.toNat < q.sc.length := by rw [g.sl]; omega
    have hv3 : v.toNat < q.pl.length := by rw [g.pll]; omega
    have hv4 : 0 ≤ v := by omega
    have hv5 : v < (q.sc.length : Int) := by rw [g.sl]; omega
    have hv6 : v < (q.pl.length : Int) := by rw [g.pll]; omega
    have hsv := g.score v.toNat
    obtain ⟨s0, hs0⟩ : ∃ x, x = q.sc.getD v.toNat 0 := ⟨_, rfl⟩
    obtain ⟨p0, hp0⟩ : ∃ x, x = q.pl.getD v.toNat 0 := ⟨_, rfl⟩
    have hg0 : q.sc[v.toNat] = s0 := by rw [hs0]; exact getD_int hv2
    have hgp : q.pl[v.toNat] = p0 := by rw [hp0]; exact getD_int hv3
    simp [hlt, hb', heapB, hv2, hv4, hv5, hg0, irow_set]
    refine ⟨fun c => ?_, fun c1 c2 => ?_⟩
    · have e := hBS.symm.trans (bumpS_arg hv c)
      subst e; simp [heapB_fold, set_same hb]
    have c3 : ¬ (by' < 0 ∨ 1000000000000 < by') := fun h => h.elim (fun h => Int.not_lt.2 c1 h) (fun h => Int.not_lt.2 c2 h)
    have e := hBS.symm.trans (bumpS_yes hv c3)
    clear hBS
    subst e
    obtain ⟨F, hF⟩ : ∃ F, (if 1000000000000 < (bump1 q v by').sc.getD v.toNat 0 then halveS (bump1 q v by') else bump1 q v by') = F := ⟨_, rfl⟩
    rw [hF]
    have hww : w64 (s0 + by') = s0 + by' := w64_id (by omega) (by omega)
    have hB : bump1 q v by' = if 0 ≤ p0 then ⟨q.sc.set v.toNat (s0 + by'), (upL (q.sc.set v.toNat (s0 + by')) (q.row.getD p0.toNat 0) p0.toNat q.row q.pl).1, (upL (q.sc.set v.toNat (s0 + by')) (q.row.getD p0.toNat 0) p0.toNat q.row q.pl).2⟩ else ⟨q.sc.set v.toNat (s0 + by'), q.row, q.pl⟩ := by
      rw [hs0, hp0]; rfl
    have hhas := hhas_ok ⟨q.sc.set v.toNat (s0 + by'), q.row, q.pl⟩ (by simpa using hq) (by dsimp only; rw [List.length_set, g.pll, g.sl]) v
    have hv' : isV ⟨q.sc.set v.toNat (s0 + by'), q.row, q.pl⟩ v = true := by unfold isV at hv ⊢; simpa using hv
    rw [hv'] at hhas
    rw [hww]
    dsimp only at hhas
    rw [← hp0] at hhas
    rw [heapB_fold, frz_heap hlt]
    refine CallB.introP hhas (by simp) (by simp) ?_
    have hn0 : q.row.length ≤ n := g.few
    obtain ⟨g1, p1, s1, hgv⟩ := bump1_good g hvi c3
    rw [← hs0] at hgv s1
    rw [hgv] at hF
    by_cases c5 : 0 ≤ p0
    · obtain ⟨i, hi, hiv, hip⟩ := g.place ((g.has_iff hvi).1 (by rw [← hp0]; exact c5))
      rw [← hp0] at hip
      have hin : InR q.row q.pl.length := by rw [g.pll]; exact g.inr
      have hup := hup_ok (h.set b (heapB ⟨q.sc.set v.toNat (s0 + by'), q.row, q.pl⟩)) b ⟨q.sc.set v.toNat (s0 + by'), q.row, q.pl⟩ (get_set hlt _) i hi hin (by dsimp only; rw [List.length_set, g.pll, g.sl]) (by dsimp only; omega)
      rw [if_pos c5, hip, Int.toNat_natCast, hiv] at hB
      dsimp only at hup
      rw [hiv] at hup
      rw [← hip] at hup
      simp only [heapB] at hup
      simp [hlt, heapB, c5, hv3, hv4, hv6, hgp]
      refine CallB.intro hup (by simp) ?_
      rintro _ _ ⟨rfl, rfl⟩
      simp
      have hBB : heapB (bump1 q v by') = [.own true 1 (irow (q.sc.set v.toNat (s0 + by'))), .own true 1 (irow (upL (q.sc.set v.toNat (s0 + by')) v i q.row q.pl).1), .own true 1 (irow (upL (q.sc.set v.toNat (s0 + by')) v i q.row q.pl).2)] := by rw [hB]; rfl
      rw [← hBB]
      generalize bump1 q v by' = B at *
      refine ALoop.intro (S := fun (x : Nat) => ⟨[(0, .pv (.ptr b 0)), (1, .pv (I64 v))], h.set b (heapB (if x = 0 then B else halveS B))⟩) (fun x => x = 0 ∨ x = 1 ∧ 1000000000000 < s0 + by') (fun x => 1 - x) 0 ?_ (.inl rfl) ?_
      · exact Weak.keep (by simp) (by simp)
      · have hBl : v.toNat < B.sc.length := by rw [g1.sl]; omega
        have hBl2 : v < (B.sc.length : Int) := by rw [g1.sl]; omega
        have hBs : B.sc[v.toNat] = s0 + by' := by rw [← hgv]; exact getD_int hBl
        rintro x (rfl | ⟨rfl, hx⟩)
        · have hhv := hhalve_ok (h.set b (heapB B)) b B (get_set hlt _) (by rw [g1.sl]; omega) (by rw [g1.pll]; exact g1.inr) (by rw [g1.pll, g1.sl]) (by have := g1.few; omega) (by rw [g1.sl]; omega)
          simp only [heapB] at hhv
          simp [hlt, heapB, hBl, hBl2, hv4, hBs]
          refine ⟨fun c => ?_, fun c => ?_⟩
          · refine CallB.intro hhv (by simp) ?_
            rintro _ _ ⟨rfl, rfl⟩
            simp
            exact ⟨1, by dsimp only; omega, .inr ⟨rfl, c⟩, Weak.keep (by simp) (by simp [heapB])⟩
          · rw [if_neg (Int.not_lt.2 c)] at hF
            rw [hF]
        · obtain ⟨g2, p2, s2⟩ := halve_good g1 (by omega) (by omega)
          have hCl : v.toNat < (halveS B).sc.length := by rw [g2.sl]; omega
          have hCl2 : v < ((halveS B).sc.length : Int) := by rw [g2.sl]; omega
          obtain ⟨z, hz⟩ : ∃ z, (halveS B).sc[v.toNat] = z := ⟨_, rfl⟩
          have hzr := g2.rng z (by rw [← hz]; exact List.getElem_mem hCl)
          have hz2 : ¬ 1000000000000 < z := by omega
          simp [hlt, heapB, hCl, hCl2, hv4, hz, hz2]
          rw [if_pos hx] at hF
          rw [hF]
    · rw [if_neg c5] at hB
      simp [c5]
      rw [← hB]
      generalize bump1 q v by' = B at *
      refine ALoop.intro (S := fun (x : Nat) => ⟨[(0, .pv (.ptr b 0)), (1, .pv (I64 v))], h.set b (heapB (if x = 0 then B else halveS B))⟩) (fun x => x = 0 ∨ x = 1 ∧ 1000000000000 < s0 + by') (fun x => 1 - x) 0 ?_ (.inl rfl) ?_
      · exact Weak.keep (by simp) (by simp)
      · have hBl : v.toNat < B.sc.length := by rw [g1.sl]; omega
        have hBl2 : v < (B.sc.length : Int) := by rw [g1.sl]; omega
        have hBs : B.sc[v.toNat] = s0 + by' := by rw [← hgv]; exact getD_int hBl
        rintro x (rfl | ⟨rfl, hx⟩)
        · have hhv := hhalve_ok (h.set b (heapB B)) b B (get_set hlt _) (by rw [g1.sl]; omega) (by rw [g1.pll]; exact g1.inr) (by rw [g1.pll, g1.sl]) (by have := g1.few; omega) (by rw [g1.sl]; omega)
          simp only [heapB] at hhv
          simp [hlt, heapB, hBl, hBl2, hv4, hBs]
          refine ⟨fun c => ?_, fun c => ?_⟩
          · refine CallB.intro hhv (by simp) ?_
            rintro _ _ ⟨rfl, rfl⟩
            simp
            exact ⟨1, by dsimp only; omega, .inr ⟨rfl, c⟩, Weak.keep (by simp) (by simp [heapB])⟩
          · rw [if_neg (Int.not_lt.2 c)] at hF
            rw [hF]
        · obtain ⟨g2, p2, s2⟩ := halve_good g1 (by omega) (by omega)
          have hCl : v.toNat < (halveS B).sc.length := by rw [g2.sl]; omega
          have hCl2 : v < ((halveS B).sc.length : Int) := by rw [g2.sl]; omega
          obtain ⟨z, hz⟩ : ∃ z, (halveS B).sc[v.toNat] = z := ⟨_, rfl⟩
          have hzr := g2.rng z (by rw [← hz]; exact List.getElem_mem hCl)
          have hz2 : ¬ 1000000000000 < z := by omega
          simp [hlt, heapB, hCl, hCl2, hv4, hz, hz2]
          rw [if_pos hx] at hF
          rw [hF]

end Go.AX
