/-
  Plain laws: with one operation, or one state, less there are no more clauses.
-/
import Derived.Test.YthlemmecamlkaaaAxCntJ
namespace Go.AX
open Go.Proofs

theorem chk_zero {ops : List Op5} (h : (chk ops).2 = 0) : ops.length ≤ 5000 ∧ okTo ops ops.length := by
  by_cases h1 : ops.length > 5000
  · rw [chk_big h1] at h; cases h
  refine ⟨by omega, ?_⟩
  unfold chk at h
  rw [if_neg h1] at h
  split at h
  · rename_i i hi
    rw [List.find?_range_eq_some] at hi
    exact absurd h (by simpa using hi.1)
  · rename_i hn
    rw [List.find?_range_eq_none] at hn
    intro j hj
    have := hn j hj
    simpa using this

theorem getD_take (ops : List Op5) {k j : Nat} (h : j < k) : (ops.take k).getD j default = ops.getD j default := by
  simp [List.getD_eq_getElem?_getD, List.getElem?_take, h]
theorem errAt_take (ops : List Op5) {k j : Nat} (h : j < k) : errAt (ops.take k) j = errAt ops j := by
  unfold errAt
  rw [getD_take ops h, List.take_take, Nat.min_eq_left (by omega)]
theorem chk_take {ops : List Op5} (h : (chk ops).2 = 0) (k : Nat) : (chk (ops.take k)).2 = 0 := by
  obtain ⟨h1, h2⟩ := chk_zero h
  rw [chk_ok (by simp; omega) (fun j hj => by
    simp at hj
    rw [errAt_take ops (by omega)]; exact h2 j (by omega))]

theorem ahead_lt {ops : List Op5} (ho : okTo ops ops.length) {i j : Nat} (hi : i < ops.length) (hj : j < ops.length) (h : aheadS ops[i] ops[j] = true) : i < j := by
  obtain ⟨h1, h2⟩ := ahead_iff.1 h
  have a1 := alone_facts (okTo_fine ho (Nat.le_refl _) hi).al
  rcases Nat.lt_trichotomy i j with hlt | heq | hgt
  · exact hlt
  · subst heq; omega
  · have := starts_up (Nat.le_refl _) ho hi hgt; omega

theorem row_le {ops : List Op5} (ho : okTo ops ops.length) {i : Nat} (hi : i < ops.length) : ∀ j, j ≤ ops.length → (pairsRow ops i j).length ≤ j - 1 - i
  | 0, _ => by simp [pairsRow]
  | j + 1, hj => by
    have ih := row_le ho hi j (by omega)
    rw [pairsRow_succ ops i hi (show j < ops.length by omega)]
    split
    · rename_i h
      have := ahead_lt ho hi (show j < ops.length by omega) h
      simp; omega
    · omega

theorem pairs_le {ops : List Op5} (ho : okTo ops ops.length) : ∀ k, k ≤ ops.length → 2 * (pairsTo ops k).length ≤ k * (2 * ops.length - 1 - k)
  | 0, _ => by simp [pairsTo]
  | k + 1, hk => by
    have ih := pairs_le ho k (by omega)
    have hr := row_le ho (show k < ops.length by omega) ops.length (Nat.le_refl _)
    rw [pairsTo_succ, List.length_append]
    obtain ⟨d, hd⟩ : ∃ d, ops.length = k + 1 + d := ⟨ops.length - (k + 1), by omega⟩
    rw [hd] at ih hr ⊢
    have e1 : 2 * (k + 1 + d) - 1 - k = k + 1 + 2 * d := by omega
    have e2 : 2 * (k + 1 + d) - 1 - (k + 1) = k + 2 * d := by omega
    have e3 : k + 1 + d - 1 - k = d := by omega
    rw [e1] at ih; rw [e2]; rw [e3] at hr
    have : (k + 1) * (k + 2 * d) = k * (k + 1 + 2 * d) + 2 * d := by grind
    omega

theorem row_take (ops : List Op5) {k i j : Nat} (hi : i < k) (hj : j ≤ k) : pairsRow (ops.take k) i j = pairsRow ops i j := by
  unfold pairsRow
  congr 1
  apply List.filter_congr
  intro b hb
  have : b < j := by simpa using hb
  rw [getD_take ops hi, getD_take ops (by omega)]

theorem row_mono (ops : List Op5) (i : Nat) {j k : Nat} (h : j ≤ k) : (pairsRow ops i j).length ≤ (pairsRow ops i k).length := by
  unfold pairsRow
  rw [List.length_map, List.length_map]
  exact ((List.range_sublist.2 h).filter _).length_le

theorem pairs_take (ops : List Op5) {k : Nat} (hk : k ≤ ops.length) : (pairsTo (ops.take k) (ops.take k).length).length ≤ (pairsTo ops ops.length).length := by
  have hl : (ops.take k).length = k := by simp; omega
  rw [hl]
  have key : ∀ i, i ≤ k → (pairsTo (ops.take k) i).length ≤ (pairsTo ops i).length := by
    intro i
    induction i with
    | zero => intro _; simp [pairsTo]
    | succ i ih =>
      intro hi
      rw [pairsTo_succ, pairsTo_succ, List.length_append, List.length_append, hl, row_take ops (by omega) (Nat.le_refl _)]
      have := ih (by omega)
      have := row_mono ops i hk
      omega
  have mono : ∀ i j, i ≤ j → (pairsTo ops i).length ≤ (pairsTo ops j).length := by
    intro i j h
    induction j with
    | zero => have : i = 0 := by omega
              subst this; exact Nat.le_refl _
    | succ j ih =>
      by_cases e : i = j + 1
      · subst e; exact Nat.le_refl _
      · rw [pairsTo_succ, List.length_append]; have := ih (by omega); omega
  exact Nat.le_trans (key k (Nat.le_refl _)) (mono k _ hk)

theorem pend_take (ops : List Op5) {k : Nat} (hk : k < ops.length) (hl : k + 1 = ops.length) : ((pendTo (ops.take k) (ops.take k).length).length = (pendTo ops ops.length).length ∧ (pendTo ops ops.length).length ≤ k) ∨ (pendTo (ops.take k) (ops.take k).length).length + 1 = (pendTo ops ops.length).length := by
  have hlen : (ops.take k).length = k := by simp; omega
  have h1 : pendTo (ops.take k) k = pendTo ops k := by
    unfold pendTo
    congr 1
    apply List.filter_congr
    intro b hb
    rw [getD_take ops (by simpa using hb)]
  rw [hlen, h1, ← hl, pendTo_succ ops hk]
  have := pendTo_length ops k
  split
  · right; simp
  · left; exact ⟨rfl, this⟩

/-! ### How many clauses -/
def sumN (n m p e : Int) : Int := (n + n * n * (n - 1)) + p * chooseS n + (1 + (n + 1) * (1 + chooseS m)) + (e * (1 + n * m) + (n - e) * (2 * n * m))

theorem choose_facts {a : Int} (h0 : 0 ≤ a) (h1 : a ≤ 64) : 0 ≤ chooseS a ∧ chooseS a ≤ 2016 ∧ (1 ≤ a → chooseS (a - 1) ≤ chooseS a) := by
  obtain ⟨k, rfl⟩ := Int.eq_ofNat_of_zero_le h0
  have key : ∀ j : Fin 65, 0 ≤ chooseS (j.val : Int) ∧ chooseS (j.val : Int) ≤ 2016 ∧ ((1 : Int) ≤ (j.val : Int) → chooseS ((j.val : Int) - 1) ≤ chooseS (j.val : Int)) := by decide +kernel
  exact key ⟨k, by omega⟩
theorem place_facts {a : Int} (h0 : 0 ≤ a) (h1 : a ≤ 64) : 0 ≤ a + a * a * (a - 1) ∧ a + a * a * (a - 1) ≤ 258112 ∧ (1 ≤ a → (a - 1) + (a - 1) * (a - 1) * (a - 1 - 1) ≤ a + a * a * (a - 1)) := by
  obtain ⟨k, rfl⟩ := Int.eq_ofNat_of_zero_le h0
  have key : ∀ j : Fin 65, 0 ≤ (j.val : Int) + (j.val : Int) * (j.val : Int) * ((j.val : Int) - 1) ∧ (j.val : Int) + (j.val : Int) * (j.val : Int) * ((j.val : Int) - 1) ≤ 258112 ∧ ((1 : Int) ≤ (j.val : Int) → ((j.val : Int) - 1) + ((j.val : Int) - 1) * ((j.val : Int) - 1) * ((j.val : Int) - 1 - 1) ≤ (j.val : Int) + (j.val : Int) * (j.val : Int) * ((j.val : Int) - 1)) := by decide +kernel
  exact key ⟨k, by omega⟩

theorem mulle {a b c d : Int} (h1 : a ≤ c) (h2 : b ≤ d) (h3 : 0 ≤ b) (h4 : 0 ≤ c) : a * b ≤ c * d := Int.mul_le_mul h1 h2 h3 h4

theorem sum_bound {n m p e : Int} (hn : 0 ≤ n ∧ n ≤ 64) (hm : 1 ≤ m ∧ m ≤ 32) (hp : 0 ≤ p ∧ p ≤ 2016) (he : 0 ≤ e ∧ e ≤ n) : 1 ≤ sumN n m p e ∧ sumN n m p e ≤ 100000000 := by
  have c1 := choose_facts hn.1 hn.2
  have c2 := choose_facts (show 0 ≤ m by omega) (show m ≤ 64 by omega)
  have p1 := place_facts hn.1 hn.2
  have t0 : 0 ≤ p * chooseS n := Int.mul_nonneg hp.1 c1.1
  have t1 : p * chooseS n ≤ 2016 * 2016 := mulle hp.2 c1.2.1 c1.1 (by omega)
  have s0 : 0 ≤ (n + 1) * (1 + chooseS m) := Int.mul_nonneg (by omega) (by omega)
  have s1 : (n + 1) * (1 + chooseS m) ≤ 65 * 2017 := mulle (by omega) (by omega) (by omega) (by omega)
  have nm0 : 0 ≤ n * m := Int.mul_nonneg hn.1 (by omega)
  have nm1 : n * m ≤ 64 * 32 := mulle hn.2 hm.2 (by omega) (by omega)
  have nm2 : 2 * n * m = 2 * (n * m) := Int.mul_assoc 2 n m
  have m0 : 0 ≤ e * (1 + n * m) := Int.mul_nonneg he.1 (by omega)
  have m1 : e * (1 + n * m) ≤ 64 * 2049 := mulle (by omega) (by omega) (by omega) (by omega)
  have m2 : 0 ≤ (n - e) * (2 * n * m) := Int.mul_nonneg (by omega) (by omega)
  have m3 : (n - e) * (2 * n * m) ≤ 64 * 4096 := mulle (by omega) (by omega) (by omega) (by omega)
  unfold sumN
  omega

theorem sum_less {n m p e p' e' : Int} (hn : 1 ≤ n ∧ n ≤ 64) (hm : 1 ≤ m ∧ m ≤ 32) (hp : 0 ≤ p' ∧ p' ≤ p) (he : 0 ≤ e' ∧ e' ≤ e ∧ n - 1 - e' ≤ n - e ∧ e' ≤ n - 1) : sumN (n - 1) m p' e' ≤ sumN n m p e := by
  have c1 := choose_facts (show 0 ≤ n by omega) hn.2
  have c0 := choose_facts (show 0 ≤ n - 1 by omega) (show n - 1 ≤ 64 by omega)
  have c2 := choose_facts (show 0 ≤ m by omega) (show m ≤ 64 by omega)
  have p1 := place_facts (show 0 ≤ n by omega) hn.2
  have t1 : p' * chooseS (n - 1) ≤ p * chooseS n := mulle hp.2 (c1.2.2 hn.1) c0.1 (by omega)
  have s1 : (n - 1 + 1) * (1 + chooseS m) ≤ (n + 1) * (1 + chooseS m) := mulle (by omega) (Int.le_refl _) (by omega) (by omega)
  have nm0 : 0 ≤ (n - 1) * m := Int.mul_nonneg (by omega) (by omega)
  have nm1 : (n - 1) * m ≤ n * m := mulle (by omega) (Int.le_refl _) (by omega) (by omega)
  have nm2 : 2 * n * m = 2 * (n * m) := Int.mul_assoc 2 n m
  have nm3 : 2 * (n - 1) * m = 2 * ((n - 1) * m) := Int.mul_assoc 2 (n - 1) m
  have m1 : e' * (1 + (n - 1) * m) ≤ e * (1 + n * m) := mulle he.2.1 (by omega) (by omega) (by omega)
  have m2 : (n - 1 - e') * (2 * (n - 1) * m) ≤ (n - e) * (2 * n * m) := mulle he.2.2.1 (by omega) (by omega) (by omega)
  have := p1.2.2 hn.1
  unfold sumN
  omega

theorem sum_less_state {n m p e : Int} (hn : 0 ≤ n ∧ n ≤ 64) (hm : 2 ≤ m ∧ m ≤ 32) (he : 0 ≤ e ∧ e ≤ n) : sumN n (m - 1) p e ≤ sumN n m p e := by
  have c2 := choose_facts (show 0 ≤ m by omega) (show m ≤ 64 by omega)
  have c0 := choose_facts (show 0 ≤ m - 1 by omega) (show m - 1 ≤ 64 by omega)
  have hc := c2.2.2 (by omega)
  have s1 : (n + 1) * (1 + chooseS (m - 1)) ≤ (n + 1) * (1 + chooseS m) := mulle (Int.le_refl _) (by omega) (by omega) (by omega)
  have nm0 : 0 ≤ n * (m - 1) := Int.mul_nonneg (by omega) (by omega)
  have nm1 : n * (m - 1) ≤ n * m := mulle (Int.le_refl _) (by omega) (by omega) (by omega)
  have nm2 : 2 * n * m = 2 * (n * m) := Int.mul_assoc 2 n m
  have nm3 : 2 * n * (m - 1) = 2 * (n * (m - 1)) := Int.mul_assoc 2 n (m - 1)
  have m1 : e * (1 + n * (m - 1)) ≤ e * (1 + n * m) := mulle (Int.le_refl _) (by omega) (by omega) (by omega)
  have m2 : (n - e) * (2 * n * (m - 1)) ≤ (n - e) * (2 * n * m) := mulle (Int.le_refl _) (by omega) (by omega) (by omega)
  unfold sumN
  omega

theorem w64_add4 (a b c d : Int) : w64 (w64 a + w64 b + w64 c + w64 d) = w64 (a + b + c + d) := by simp only [w64_eq]; omega

/-- The whole number, where it is one. -/
theorem allN_eq {n m : Int} {ops : List Op5} (h : allOk n m ops = true) : allN n m ops = sumN n m (pairsTo ops ops.length).length (n - (pendTo ops ops.length).length) ∧ (pairsTo ops ops.length).length ≤ 2016 := by
  obtain ⟨h1, h2, h3⟩ := allOk_iff.1 h
  have hs := sizeOk_iff.1 h2
  obtain ⟨_, ho⟩ := chk_zero h1
  have hp := pairs_le ho ops.length (Nat.le_refl _)
  have hpd := pendTo_length ops ops.length
  have hp2 : (pairsTo ops ops.length).length ≤ 2016 := by
    have : ops.length * (2 * ops.length - 1 - ops.length) ≤ 64 * 63 := Nat.mul_le_mul (by omega) (by omega)
    omega
  refine ⟨?_, hp2⟩
  have hw : w64 (n - ((pendTo ops ops.length).length : Nat)) = n - ((pendTo ops ops.length).length : Nat) := w64_id (by omega) (by omega)
  have ht : timesOk n m ((pairsTo ops ops.length).length : Nat) = true := timesOk_iff.2 ⟨h2, by omega, by omega⟩
  have hmv : movesOk n m (n - ((pendTo ops ops.length).length : Nat)) = true := movesOk_iff.2 ⟨h2, by omega, by omega⟩
  rw [allN, if_pos h, placesN, if_pos h2, timesN, if_pos ht, statesN, if_pos h2, hw, movesN, if_pos hmv]
  rw [w64_add4]
  have hb := sum_bound (n := n) (m := m) (p := ((pairsTo ops ops.length).length : Nat)) (e := n - ((pendTo ops ops.length).length : Nat)) ⟨by omega, by omega⟩ ⟨by omega, by omega⟩ ⟨by omega, by omega⟩ ⟨by omega, by omega⟩
  rw [show n + n * n * (n - 1) + ((pairsTo ops ops.length).length : Nat) * chooseS n + (1 + (n + 1) * (1 + chooseS m)) + ((n - ((pendTo ops ops.length).length : Nat)) * (1 + n * m) + (n - (n - ((pendTo ops ops.length).length : Nat))) * (2 * n * m)) = sumN n m ((pairsTo ops ops.length).length : Nat) (n - ((pendTo ops ops.length).length : Nat)) from rfl]
  exact w64_id (by omega) (by omega)

theorem fits_iff {n m : Int} {ops : List Op5} : fitsN n m ops = 0 ↔ allN n m ops ≠ 0 ∧ allN n m ops ≤ 500000 ∧ varsN n m ≤ 900 := by
  unfold fitsN
  split
  · rename_i h; simp [h]
  · rename_i h
    split
    · rename_i h2; constructor
      · intro h3; cases h3
      · rintro ⟨_, h4, h5⟩; omega
    · rename_i h2; exact ⟨fun _ => ⟨h, by omega, by omega⟩, fun _ => rfl⟩

theorem all_ok_of {n m : Int} {ops : List Op5} (h : allN n m ops ≠ 0) : allOk n m ops = true := by
  cases hh : allOk n m ops with
  | true => rfl
  | false => exact absurd (by rw [allN, hh]; rfl) h

theorem vars_eq {n m : Int} (hn : 0 ≤ n ∧ n ≤ 64) (hm : 1 ≤ m ∧ m ≤ 32) : varsN n m = n * n + n + (n + 1) * m := by
  have h1 : 0 ≤ n * n := Int.mul_nonneg hn.1 hn.1
  have h2 : n * n ≤ 64 * 64 := mulle hn.2 hn.2 hn.1 (by omega)
  have h3 : 0 ≤ (n + 1) * m := Int.mul_nonneg (by omega) (by omega)
  have h4 : (n + 1) * m ≤ 65 * 32 := mulle (by omega) hm.2 (by omega) (by omega)
  exact w64_id (by omega) (by omega)

theorem fits_less {n m : Int} {ops : List Op5} (h : fitsN n m ops = 0) (hn : 0 < n) : fitsN (n - 1) m (ops.take (ops.length - 1)) = 0 := by
  obtain ⟨h1, h2, h3⟩ := fits_iff.1 h
  have hok := all_ok_of h1
  obtain ⟨k1, k2, k3⟩ := allOk_iff.1 hok
  have hs := sizeOk_iff.1 k2
  have hl : (ops.take (ops.length - 1)).length = ops.length - 1 := by simp
  have hok' : allOk (n - 1) m (ops.take (ops.length - 1)) = true := allOk_iff.2 ⟨chk_take k1 _, sizeOk_iff.2 ⟨by omega, by omega, by omega, by omega⟩, by rw [hl]; omega⟩
  obtain ⟨e1, b1⟩ := allN_eq hok
  obtain ⟨e2, b2⟩ := allN_eq hok'
  have hpl := pendTo_length (ops.take (ops.length - 1)) (ops.take (ops.length - 1)).length
  rw [hl] at hpl
  have hpt := pairs_take ops (show ops.length - 1 ≤ ops.length by omega)
  have hpe := pend_take ops (show ops.length - 1 < ops.length by omega) (by omega)
  have hpo := pendTo_length ops ops.length
  have hless := sum_less (n := n) (m := m) (p := ((pairsTo ops ops.length).length : Nat)) (e := n - ((pendTo ops ops.length).length : Nat)) (p' := ((pairsTo (ops.take (ops.length - 1)) (ops.take (ops.length - 1)).length).length : Nat)) (e' := n - 1 - ((pendTo (ops.take (ops.length - 1)) (ops.take (ops.length - 1)).length).length : Nat))
    ⟨by omega, by omega⟩ ⟨by omega, by omega⟩ ⟨by omega, by omega⟩ ⟨by omega, by omega, by omega, by omega⟩
  have hb := sum_bound (n := n - 1) (m := m) (p := ((pairsTo (ops.take (ops.length - 1)) (ops.take (ops.length - 1)).length).length : Nat)) (e := n - 1 - ((pendTo (ops.take (ops.length - 1)) (ops.take (ops.length - 1)).length).length : Nat)) ⟨by omega, by omega⟩ ⟨by omega, by omega⟩ ⟨by omega, by omega⟩ ⟨by omega, by omega⟩
  refine fits_iff.2 ⟨by rw [e2]; omega, by rw [e2]; omega, ?_⟩
  rw [vars_eq ⟨by omega, by omega⟩ ⟨by omega, by omega⟩] at h3 ⊢
  have v1 : (n - 1) * (n - 1) ≤ n * n := mulle (by omega) (by omega) (by omega) (by omega)
  have v2 : (n - 1 + 1) * m ≤ (n + 1) * m := mulle (by omega) (Int.le_refl _) (by omega) (by omega)
  omega

theorem fits_less_state {n m : Int} {ops : List Op5} (h : fitsN n m ops = 0) (hm : 1 < m) : fitsN n (m - 1) ops = 0 := by
  obtain ⟨h1, h2, h3⟩ := fits_iff.1 h
  have hok := all_ok_of h1
  obtain ⟨k1, k2, k3⟩ := allOk_iff.1 hok
  have hs := sizeOk_iff.1 k2
  have hok' : allOk n (m - 1) ops = true := allOk_iff.2 ⟨k1, sizeOk_iff.2 ⟨by omega, by omega, by omega, by omega⟩, k3⟩
  obtain ⟨e1, b1⟩ := allN_eq hok
  obtain ⟨e2, b2⟩ := allN_eq hok'
  have hpo := pendTo_length ops ops.length
  have hless := sum_less_state (n := n) (m := m) (p := ((pairsTo ops ops.length).length : Nat)) (e := n - ((pendTo ops ops.length).length : Nat)) ⟨by omega, by omega⟩ ⟨by omega, by omega⟩ ⟨by omega, by omega⟩
  have hb := sum_bound (n := n) (m := m - 1) (p := ((pairsTo ops ops.length).length : Nat)) (e := n - ((pendTo ops ops.length).length : Nat)) ⟨by omega, by omega⟩ ⟨by omega, by omega⟩ ⟨by omega, by omega⟩ ⟨by omega, by omega⟩
  refine fits_iff.2 ⟨by rw [e2]; omega, by rw [e2]; omega, ?_⟩
  rw [vars_eq ⟨by omega, by omega⟩ ⟨by omega, by omega⟩] at h3 ⊢
  have v2 : (n + 1) * (m - 1) ≤ (n + 1) * m := mulle (Int.le_refl _) (by omega) (by omega) (by omega)
  omega

end Go.AX
