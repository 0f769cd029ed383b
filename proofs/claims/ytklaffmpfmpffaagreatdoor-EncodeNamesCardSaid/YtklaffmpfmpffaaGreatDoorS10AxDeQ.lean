/-
  The walk of MovesPlay.
  The plain law of MovesPlay.
  The plain law of MovesPlay: what all truths say.
  The order, and the row, that truths say (plain law).
  Runs, and linearizations, of picks (what they are).
-/
import Derived.Test.YtklaffmpfmpffaaGreatDoorS10AxMovS
import Derived.Test.YtklaffmpfmpffaaGreatDoorS10AxMovR
import Derived.Test.YtklaffmpfmpffaaGreatDoorS10AxMovL
import Derived.Test.YtklaffmpfmpffaaGreatDoorS10AxMovO
namespace Go.AX
open Go.Proofs
set_option linter.unusedSimpArgs false

def inTo (n m : Int) (base : List Bool) (inn : List Bool) (k : Nat) : List Bool := (List.range k).foldl (fun acc i => acc.set (markAt n m 2 (i : Nat) 0) (inn.getD i false)) base
theorem inTo_succ (n m : Int) (base inn : List Bool) (k : Nat) : inTo n m base inn (k + 1) = (inTo n m base inn k).set (markAt n m 2 k 0) (inn.getD k false) := by
  unfold inTo; rw [List.range_succ, List.foldl_append]; rfl
@[simp] theorem inTo_length (n m : Int) (base inn : List Bool) : ∀ k, (inTo n m base inn k).length = base.length
  | 0 => rfl
  | k + 1 => by rw [inTo_succ, List.length_set, inTo_length n m base inn k]
/-- All truths of an order, a row of states, and of who is in. -/
def allM (n m : Int) (order row : List Int) (inn : List Bool) (k : Nat) : List Bool := inTo n m (marks (varsN n m).toNat (plIdx n m order order.length ++ stIdx n m row row.length)) inn k

theorem playTo_len_ok {o : Obj} {ops : List Op5} {order : List Int} {inn : List Bool} {out : List Int} (h : playS o ops order inn = some out) : out.length = ops.length + 1 := by
  unfold playS at h
  split at h
  · exact playTo_length h
  · cases h

end Go.AX

namespace Go.AX
open Go.Proofs

/-! ### Names' numbers are unlike -/
theorem mul_lt_next {a b a' b' w : Int} (h : a < a') (hb : b < w) (hb' : 0 ≤ b') (hw : 0 ≤ w) : a * w + b < a' * w + b' := by
  have := Int.mul_le_mul_of_nonneg_right (show a + 1 ≤ a' by omega) hw
  rw [Int.add_mul, Int.one_mul] at this
  omega
theorem mul_inj {a b a' b' w : Int} (hb : 0 ≤ b ∧ b < w) (hb' : 0 ≤ b' ∧ b' < w) (h : a * w + b = a' * w + b') : a = a' ∧ b = b' := by
  rcases Int.lt_trichotomy a a' with h1 | h1 | h1
  · have := mul_lt_next h1 hb.2 hb'.1 (by omega); omega
  · subst h1; omega
  · have := mul_lt_next h1 hb'.2 hb.1 (by omega); omega
theorem block_top {n m k a b : Int} (h : varOk n m k a b = true) : a * blockWide n m k + b < blockTall n k * blockWide n m k := by
  obtain ⟨h1, h2, h3, h4, h5, h6, h7⟩ := varOk_iff.1 h
  have := mul_lt_next (b' := 0) h5 h7 (by omega) (by omega)
  omega
theorem mark_inj {n m k a b k' a' b' : Int} (h : varOk n m k a b = true) (h' : varOk n m k' a' b' = true) (e : markAt n m k a b = markAt n m k' a' b') : k = k' ∧ a = a' ∧ b = b' := by
  have m1 := mark_in h
  have m2 := mark_in h'
  have v1 : varS n m k a b = blockFrom n k + a * blockWide n m k + b + 1 := by rw [varS, if_pos h]
  have v2 : varS n m k' a' b' = blockFrom n k' + a' * blockWide n m k' + b' + 1 := by rw [varS, if_pos h']
  have t1 := block_top h
  have t2 := block_top h'
  have s1 := block_small h
  have s2 := block_small h'
  obtain ⟨q1, h2, h3, h4, h5, h6, h7⟩ := varOk_iff.1 h
  obtain ⟨_, g2, g3, g4, g5, g6, g7⟩ := varOk_iff.1 h'
  have heq : blockFrom n k + a * blockWide n m k + b = blockFrom n k' + a' * blockWide n m k' + b' := by omega
  have hk : k = 1 ∨ k = 2 ∨ k = 3 := by omega
  have hk' : k' = 1 ∨ k' = 2 ∨ k' = 3 := by omega
  have hs := sizeOk_iff.1 q1
  have hn0 : 0 ≤ n * n := Int.mul_nonneg hs.1 hs.1
  by_cases e2 : k = k'
  · subst e2
    have := mul_inj (w := blockWide n m k) ⟨h6, h7⟩ ⟨g6, g7⟩ (show a * blockWide n m k + b = a' * blockWide n m k + b' by omega)
    exact ⟨rfl, this.1, this.2⟩
  · exfalso
    rcases hk with rfl | rfl | rfl <;> rcases hk' with rfl | rfl | rfl <;> first | exact e2 rfl | (simp [blockFrom, blockWide, blockTall] at *; omega)


/-! ### Truths of literals -/
theorem lit_pos {n m k a b : Int} (h : varOk n m k a b = true) (T : List Bool) (hT : T.length = (varsN n m).toNat) : litS T (varS n m k a b) = T.getD (markAt n m k a b) false := by
  have m1 := mark_in h
  obtain ⟨e1, e2, e3, e4, e5⟩ := varsN_eq (varOk_iff.1 h).1
  have hs := sizeOk_iff.1 (varOk_iff.1 h).1
  generalize markAt n m k a b = x at m1 ⊢
  have : splitS (varS n m k a b) = ((x : Int) + 1, true) := by rw [splitS, if_pos (by omega), m1.1]
  rw [litS, this]
  have h1 : (x : Int) + 1 ≤ (T.length : Int) := by omega
  have h2 : ((x : Int) + 1 - 1).toNat = x := by omega
  have h3 : (x : Int) + 1 ≠ 0 := by omega
  dsimp only
  rw [h2, decide_eq_true h1, decide_eq_true h3]
  simp
theorem lit_neg {n m k a b : Int} (h : varOk n m k a b = true) (T : List Bool) (hT : T.length = (varsN n m).toNat) : litS T (w64 (-varS n m k a b)) = !T.getD (markAt n m k a b) false := by
  have m1 := mark_in h
  obtain ⟨e1, e2, e3, e4, e5⟩ := varsN_eq (varOk_iff.1 h).1
  have hs := sizeOk_iff.1 (varOk_iff.1 h).1
  generalize markAt n m k a b = x at m1 ⊢
  rw [m1.1, w64_id (by omega) (by omega)]
  have : splitS (-((x : Int) + 1)) = ((x : Int) + 1, false) := by rw [splitS, if_neg (by omega), if_pos (by omega)]; simp
  rw [litS, this]
  have h1 : (x : Int) + 1 ≤ (T.length : Int) := by omega
  have h2 : ((x : Int) + 1 - 1).toNat = x := by omega
  have h3 : (x : Int) + 1 ≠ 0 := by omega
  dsimp only
  rw [h2, decide_eq_true h1, decide_eq_true h3]
  simp


theorem inTo_other {n m : Int} {base inn : List Bool} {x : Nat} : ∀ {k : Nat}, (∀ i : Nat, i < k → markAt n m 2 i 0 ≠ x) → (inTo n m base inn k).getD x false = base.getD x false
  | 0, _ => rfl
  | k + 1, h => by
    rw [inTo_succ, List.getD_eq_getElem?_getD, List.getElem?_set_ne (h k (by omega)), ← List.getD_eq_getElem?_getD]
    exact inTo_other fun i hi => h i (by omega)
theorem inTo_at {n m : Int} {base inn : List Bool} {i : Nat} {K : Nat} (hinj : ∀ j : Nat, j < K → markAt n m 2 j 0 = markAt n m 2 i 0 → j = i) (hb : markAt n m 2 i 0 < base.length) : ∀ {k : Nat}, k ≤ K → i < k → (inTo n m base inn k).getD (markAt n m 2 i 0) false = inn.getD i false
  | 0, _, h => by omega
  | k + 1, hk, h => by
    rw [inTo_succ]
    by_cases e : k = i
    · subst e
      rw [List.getD_eq_getElem?_getD, List.getElem?_set_self (by simpa using hb)]; simp
    · rw [List.getD_eq_getElem?_getD, List.getElem?_set_ne (fun q => e (hinj k (by omega) q)), ← List.getD_eq_getElem?_getD]
      exact inTo_at hinj hb (by omega) (by omega)

end Go.AX

namespace Go.AX
open Go.Proofs

theorem marks_getD (V : Nat) (idx : List Nat) {x : Nat} (h : x < V) : (marks V idx).getD x false = decide (x ∈ idx) := by
  rw [List.getD_eq_getElem?_getD, List.getElem?_eq_getElem (by simpa using h)]
  simp [marks]
theorem mem_plIdx {n m : Int} {order : List Int} {k x : Nat} : x ∈ plIdx n m order k ↔ ∃ j : Nat, j < k ∧ x = markAt n m 1 (order.getD j 0) j := by
  unfold plIdx; simp only [List.mem_map, List.mem_range]
  exact ⟨fun ⟨j, h, e⟩ => ⟨j, h, e.symm⟩, fun ⟨j, h, e⟩ => ⟨j, h, e.symm⟩⟩
theorem mem_stIdx {n m : Int} {row : List Int} {k x : Nat} : x ∈ stIdx n m row k ↔ ∃ j : Nat, j < k ∧ x = markAt n m 3 j (row.getD j 0) := by
  unfold stIdx; simp only [List.mem_map, List.mem_range]
  exact ⟨fun ⟨j, h, e⟩ => ⟨j, h, e.symm⟩, fun ⟨j, h, e⟩ => ⟨j, h, e.symm⟩⟩


/-- An order, a row of states, and who is in, of N operations and M states, that may be. -/
structure Good (N : Nat) (m : Int) (order row : List Int) (inn : List Bool) : Prop where
  hc : sizeOk N m = true
  ol : order.length = N
  op : ∀ k, k < N → plAt N order k
  rl : row.length = N + 1
  rp : ∀ k, k < N + 1 → stAt m row k
  il : inn.length = N
namespace Good
variable {N : Nat} {m : Int} {order row : List Int} {inn : List Bool}
theorem ok1 (g : Good N m order row inn) {a : Int} {b : Nat} (ha : 0 ≤ a ∧ a < N) (hb : b < N) : varOk N m 1 a b = true := varOk_iff.2 ⟨g.hc, by decide, by decide, ha.1, by simp [blockTall]; omega, by omega, by simp [blockWide]; omega⟩
theorem ok2 (g : Good N m order row inn) {a : Nat} (ha : a < N) : varOk N m 2 a 0 = true := varOk_iff.2 ⟨g.hc, by decide, by decide, by omega, by simp [blockTall]; omega, by decide, by simp [blockWide]⟩
theorem ok3 (g : Good N m order row inn) {a : Nat} {b : Int} (ha : a ≤ N) (hb : 0 ≤ b ∧ b < m) : varOk N m 3 a b = true := varOk_iff.2 ⟨g.hc, by decide, by decide, by omega, by simp [blockTall]; omega, hb.1, by simp [blockWide]; exact hb.2⟩
theorem lt (g : Good N m order row inn) {k a b : Int} (h : varOk N m k a b = true) : markAt N m k a b < (varsN N m).toNat := by have := (mark_in h).2; omega
theorem len (g : Good N m order row inn) : (allM N m order row inn N).length = (varsN N m).toNat := by simp [allM]
theorem t1 (g : Good N m order row inn) {a : Int} {b : Nat} (ha : 0 ≤ a ∧ a < N) (hb : b < N) : (allM N m order row inn N).getD (markAt N m 1 a b) false = decide (order.getD b 0 = a) := by
  have h1 := g.ok1 ha hb
  unfold allM
  rw [inTo_other fun i hi e => absurd (mark_inj (g.ok2 hi) h1 e).1 (by decide), marks_getD _ _ (g.lt h1)]
  congr 1
  apply propext
  rw [List.mem_append, mem_plIdx, mem_stIdx, g.ol, g.rl]
  constructor
  · rintro (⟨j, hj, e⟩ | ⟨j, hj, e⟩)
    · have hp := g.op j hj
      have := mark_inj h1 (g.ok1 ⟨hp.1, hp.2.1⟩ hj) e
      have hjb : j = b := by omega
      subst hjb; exact this.2.1.symm
    · exact absurd (mark_inj h1 (g.ok3 (by omega) (g.rp j hj)) e).1 (by decide)
  · intro e
    exact .inl ⟨b, hb, by rw [e]⟩
theorem t2 (g : Good N m order row inn) {a : Nat} (ha : a < N) : (allM N m order row inn N).getD (markAt N m 2 a 0) false = inn.getD a false := by
  unfold allM
  refine inTo_at (K := N) (fun j hj e => ?_) (by simpa using g.lt (g.ok2 ha)) (Nat.le_refl _) ha
  have := (mark_inj (g.ok2 hj) (g.ok2 ha) e).2.1
  omega
theorem t3 (g : Good N m order row inn) {a : Nat} {b : Int} (ha : a ≤ N) (hb : 0 ≤ b ∧ b < m) : (allM N m order row inn N).getD (markAt N m 3 a b) false = decide (row.getD a 0 = b) := by
  have h1 := g.ok3 ha hb
  unfold allM
  rw [inTo_other fun i hi e => absurd (mark_inj (g.ok2 hi) h1 e).1 (by decide), marks_getD _ _ (g.lt h1)]
  congr 1
  apply propext
  rw [List.mem_append, mem_plIdx, mem_stIdx, g.ol, g.rl]
  constructor
  · rintro (⟨j, hj, e⟩ | ⟨j, hj, e⟩)
    · have hp := g.op j hj
      exact absurd (mark_inj h1 (g.ok1 ⟨hp.1, hp.2.1⟩ hj) e).1 (by decide)
    · have := mark_inj h1 (g.ok3 (by omega) (g.rp j hj)) e
      have hja : j = a := by omega
      subst hja; exact this.2.2.symm
  · intro e
    exact .inr ⟨a, by omega, by rw [e]⟩
/-- The order holds each operation. -/
theorem all (g : Good N m order row inn) : ∀ i : Nat, i < N → (i : Int) ∈ order := by
  intro i hi
  apply Classical.byContradiction
  intro hn
  have hnd : order.Nodup := by
    rw [List.Nodup, List.pairwise_iff_getElem]
    intro a b ha hb hab e
    have hb' : b < N := by have := g.ol; omega
    have hp := (g.op b hb').2.2
    apply hp
    have hgb : order.getD b 0 = order[b] := by simp [hb]
    rw [hgb, ← e, List.mem_take_iff_getElem]
    exact ⟨a, by omega, rfl⟩
  have := len_of_sub ((i : Int) :: order) ((List.range N).map Int.ofNat) (List.nodup_cons.2 ⟨hn, hnd⟩) (by
    intro x hx
    rw [List.mem_map]
    rcases List.mem_cons.1 hx with rfl | hx
    · exact ⟨i, List.mem_range.2 hi, rfl⟩
    · obtain ⟨j, hj, rfl⟩ := List.mem_iff_getElem.1 hx
      have hp := g.op j (by rw [← g.ol]; exact hj)
      have hg : order.getD j 0 = order[j] := by simp [hj]
      unfold plAt at hp
      rw [hg] at hp
      exact ⟨order[j].toNat, List.mem_range.2 (by omega), by simp; omega⟩)
  have h2 := g.ol
  simp only [List.length_cons, List.length_map, List.length_range] at this
  omega
end Good

end Go.AX

namespace Go.AX
open Go.Proofs

theorem eq_of_getD {a b : List Int} (hl : a.length = b.length) (h : ∀ k, k < a.length → a.getD k 0 = b.getD k 0) : a = b :=
  List.ext_getElem hl fun k h1 h2 => by have := h k h1; simpa [List.getD_eq_getElem?_getD, List.getElem?_eq_getElem h1, List.getElem?_eq_getElem h2] using this
/-- The only number of a row of truths. -/
def onlyAt (f : Nat → Bool) (n : Nat) : Int := match (List.range n).find? f with | some a => (a : Int) | none => 0
theorem onlyAt_is {f : Nat → Bool} {n : Nat} {x : Int} (h0 : 0 ≤ x ∧ x < n) (h : ∀ a, a < n → f a = decide (x = (a : Int))) : onlyAt f n = x := by
  obtain ⟨y, rfl⟩ := Int.eq_ofNat_of_zero_le h0.1
  have hy : y < n := by omega
  have e : (List.range n).find? f = some y := by
    rw [List.find?_eq_some_iff_getElem]
    refine ⟨by rw [h y hy]; simp, y, by simpa using hy, by simp, fun j hj => ?_⟩
    have hjn : j < n := by omega
    simp only [List.getElem_range]
    rw [h j hjn]
    have : ¬ (y : Int) = (j : Int) := by omega
    simp [this]
  unfold onlyAt
  rw [e]

def IsOrd (f : Nat → Nat → Bool) (n : Nat) (l : List Int) : Prop :=
  l.length = n ∧ (∀ k, k < n → ∀ a, a < n → f a k = decide (l.getD k 0 = (a : Int))) ∧ (∀ k, k < n → 0 ≤ l.getD k 0 ∧ l.getD k 0 < n) ∧ l.Nodup
instance (f : Nat → Nat → Bool) (n : Nat) (l : List Int) : Decidable (IsOrd f n l) := by unfold IsOrd; infer_instance
def ordL (f : Nat → Nat → Bool) (n : Nat) : List Int := (List.range n).map fun k => onlyAt (fun a => f a k) n
def ordO (f : Nat → Nat → Bool) (n : Nat) : Option (List Int) := if IsOrd f n (ordL f n) then some (ordL f n) else none
theorem ordL_is {f : Nat → Nat → Bool} {n : Nat} {l : List Int} (h : IsOrd f n l) : ordL f n = l := by
  obtain ⟨h1, h2, h3, _⟩ := h
  refine eq_of_getD (by simp [ordL, h1]) fun k hk => ?_
  have hkn : k < n := by simpa [ordL] using hk
  have : (ordL f n).getD k 0 = onlyAt (fun a => f a k) n := by
    unfold ordL
    rw [List.getD_eq_getElem?_getD, List.getElem?_map, List.getElem?_range hkn]
    rfl
  rw [this]
  exact onlyAt_is (h3 k hkn) (h2 k hkn)
theorem ordO_of {f : Nat → Nat → Bool} {n : Nat} {l : List Int} (h : IsOrd f n l) : ordO f n = some l := by
  unfold ordO
  rw [ordL_is h, if_pos h]
theorem ordO_no {f : Nat → Nat → Bool} {n : Nat} (h : ∀ l, ¬ IsOrd f n l) : ordO f n = none := by
  unfold ordO
  rw [if_neg (h _)]
theorem ordO_is {f : Nat → Nat → Bool} {n : Nat} {l : List Int} (h : ordO f n = some l) : IsOrd f n l := by
  unfold ordO at h
  split at h
  · rename_i c; cases h; exact c
  · cases h
/-- Numbers below n, as many, no two alike: all of them. -/
theorem nodup_all {l : List Int} {n : Nat} (hl : l.length = n) (hin : ∀ x ∈ l, 0 ≤ x ∧ x < n) (hn : l.Nodup) : ∀ a : Nat, a < n → (a : Int) ∈ l := by
  intro a ha
  apply Classical.byContradiction
  intro hc
  have := len_of_sub ((a : Int) :: l) ((List.range n).map Int.ofNat) (List.nodup_cons.2 ⟨hc, hn⟩) (by
    intro y hy
    rcases List.mem_cons.1 hy with rfl | hy
    · exact List.mem_map.2 ⟨a, List.mem_range.2 ha, rfl⟩
    · obtain ⟨h1, h2⟩ := hin y hy
      exact List.mem_map.2 ⟨y.toNat, List.mem_range.2 (by omega), by simp; omega⟩)
  simp at this
  omega
theorem nodup_getD {l : List Int} (h : l.Nodup) {j k : Nat} (hj : j < l.length) (hk : k < l.length) (e : l.getD j 0 = l.getD k 0) : j = k := by
  rw [List.getD_eq_getElem?_getD, List.getD_eq_getElem?_getD, List.getElem?_eq_getElem hj, List.getElem?_eq_getElem hk] at e
  exact (List.getElem_inj h).1 (by simpa using e)
theorem nodup_of_getD {l : List Int} (h : ∀ j k, j < l.length → k < l.length → l.getD j 0 = l.getD k 0 → j = k) : l.Nodup := by
  rw [List.nodup_iff_pairwise_ne, List.pairwise_iff_getElem]
  intro j k hj hk hjk e
  have := h j k hj hk (by rw [List.getD_eq_getElem?_getD, List.getD_eq_getElem?_getD, List.getElem?_eq_getElem hj, List.getElem?_eq_getElem hk, e])
  omega
theorem IsOrd.in' {f : Nat → Nat → Bool} {n : Nat} {l : List Int} (h : IsOrd f n l) : ∀ x ∈ l, 0 ≤ x ∧ x < n := by
  intro x hx
  obtain ⟨k, hk, rfl⟩ := List.getElem_of_mem hx
  have := h.2.2.1 k (by rw [← h.1]; exact hk)
  simpa [List.getD_eq_getElem?_getD, List.getElem?_eq_getElem hk] using this
theorem IsOrd.all {f : Nat → Nat → Bool} {n : Nat} {l : List Int} (h : IsOrd f n l) : ∀ a : Nat, a < n → (a : Int) ∈ l := nodup_all h.1 h.in' h.2.2.2
theorem IsOrd.place {f : Nat → Nat → Bool} {n : Nat} {l : List Int} (h : IsOrd f n l) {a : Nat} (ha : a < n) : ∃ k, k < n ∧ l.getD k 0 = (a : Int) ∧ f a k = true ∧ ∀ j, j < n → f a j = true → j = k := by
  obtain ⟨k, hk, e⟩ := List.getElem_of_mem (h.all a ha)
  have hkn : k < n := by rw [← h.1]; exact hk
  have eg : l.getD k 0 = (a : Int) := by rw [List.getD_eq_getElem?_getD, List.getElem?_eq_getElem hk]; exact e
  refine ⟨k, hkn, eg, by rw [h.2.1 k hkn a ha]; exact decide_eq_true eg, fun j hj hf => ?_⟩
  rw [h.2.1 j hj a ha] at hf
  exact nodup_getD h.2.2.2 (by rw [h.1]; exact hj) hk ((of_decide_eq_true hf).trans eg.symm)

def IsRow (f : Nat → Nat → Bool) (n m : Nat) (l : List Int) : Prop :=
  l.length = n ∧ (∀ k, k < n → ∀ b, b < m → f k b = decide (l.getD k 0 = (b : Int))) ∧ (∀ k, k < n → 0 ≤ l.getD k 0 ∧ l.getD k 0 < m)
instance (f : Nat → Nat → Bool) (n m : Nat) (l : List Int) : Decidable (IsRow f n m l) := by unfold IsRow; infer_instance
def rowL (f : Nat → Nat → Bool) (n m : Nat) : List Int := (List.range n).map fun k => onlyAt (f k) m
def rowO (f : Nat → Nat → Bool) (n m : Nat) : Option (List Int) := if IsRow f n m (rowL f n m) then some (rowL f n m) else none
theorem rowL_is {f : Nat → Nat → Bool} {n m : Nat} {l : List Int} (h : IsRow f n m l) : rowL f n m = l := by
  obtain ⟨h1, h2, h3⟩ := h
  refine eq_of_getD (by simp [rowL, h1]) fun k hk => ?_
  have hkn : k < n := by simpa [rowL] using hk
  have : (rowL f n m).getD k 0 = onlyAt (f k) m := by
    unfold rowL
    rw [List.getD_eq_getElem?_getD, List.getElem?_map, List.getElem?_range hkn]
    rfl
  rw [this]
  exact onlyAt_is (h3 k hkn) (h2 k hkn)
theorem rowO_of {f : Nat → Nat → Bool} {n m : Nat} {l : List Int} (h : IsRow f n m l) : rowO f n m = some l := by
  unfold rowO
  rw [rowL_is h, if_pos h]
theorem rowO_no {f : Nat → Nat → Bool} {n m : Nat} (h : ∀ l, ¬ IsRow f n m l) : rowO f n m = none := by
  unfold rowO
  rw [if_neg (h _)]
theorem rowO_is {f : Nat → Nat → Bool} {n m : Nat} {l : List Int} (h : rowO f n m = some l) : IsRow f n m l := by
  unfold rowO at h
  split at h
  · rename_i c; cases h; exact c
  · cases h

def fP (n m : Int) (T : List Bool) (a k : Nat) : Bool := T.getD (markAt n m 1 a k) false
def fS (n m : Int) (T : List Bool) (k b : Nat) : Bool := T.getD (markAt n m 3 k b) false
def truOk (n m : Int) (T : List Bool) : Bool := sizeOk n m && decide ((T.length : Int) = varsN n m)
theorem truOk_iff {n m : Int} {T : List Bool} : truOk n m T = true ↔ sizeOk n m = true ∧ (T.length : Int) = varsN n m := by simp [truOk]
def ordS (n m : Int) (T : List Bool) : Option (List Int) := if truOk n m T then ordO (fP n m T) n.toNat else none
def rowQ (n m : Int) (T : List Bool) : Option (List Int) := if truOk n m T then rowO (fS n m T) (n.toNat + 1) m.toNat else none
end Go.AX

namespace Go.AX
open Go.Proofs

def stepS (o : Obj) (s k r : Int) : Int × Int :=
  if s < 0 ∨ s ≥ o.st then (0, 30) else match moveS o s k with | some q => if q.2 = r then (q.1, 0) else (0, 40) | none => (0, 40)
def pickS (o : Obj) (ops : List Op5) (u : List Int) (s : Int) (p : Int × Int) : Int × Int :=
  if p.1 < 0 ∨ p.1 ≥ ops.length then (0, 2) else if p.1 ∈ u then (0, 21) else
    if (stepS o s (ops.getD p.1.toNat default).k p.2).2 ≠ 0 then (0, (stepS o s (ops.getD p.1.toNat default).k p.2).2)
    else if (ops.getD p.1.toNat default).e ≠ -1 ∧ (ops.getD p.1.toNat default).r ≠ p.2 then (0, 40) else ((stepS o s (ops.getD p.1.toNat default).k p.2).1, 0)
def runGo (o : Obj) (ops : List Op5) : List Int → Nat → Int → List (Int × Int) → Int × Int × Int
  | _, i, s, [] => (s, (i : Int), 0)
  | u, i, s, p :: r => if (pickS o ops u s p).2 = 0 then runGo o ops (u ++ [p.1]) (i + 1) (pickS o ops u s p).1 r else (0, (i : Int), (pickS o ops u s p).2)
def fromS (o : Obj) (ops : List Op5) (s : Int) (ps : List (Int × Int)) : Int × Int × Int :=
  if (objChk o).2 ≠ 0 then (0, -1, 2) else if s < 0 ∨ s ≥ o.st then (0, -1, 30) else runGo o ops [] 0 s ps
def tops (ps : List (Int × Int)) : List Int := ps.map (·.1)
def badT (ops : List Op5) (u : List Int) (p : Int × Int) : Bool :=
  decide (0 ≤ p.1 ∧ p.1 < ops.length) && (List.range ops.length).any fun (k : Nat) => aheadS (ops.getD k default) (ops.getD p.1.toNat default) && !decide ((k : Int) ∈ u)
def ordGo (ops : List Op5) : List Int → Nat → List (Int × Int) → Int
  | _, _, [] => -1
  | u, i, p :: r => if badT ops u p then (i : Int) else ordGo ops (u ++ [p.1]) (i + 1) r
def ordW (ops : List Op5) (ps : List (Int × Int)) : Int := ordGo ops [] 0 ps
def missTo (ops : List Op5) (ps : List (Int × Int)) (pend : Bool) (n : Nat) : List Int :=
  ((List.range n).filter fun i => (decide ((ops.getD i default).e = -1) == pend) && !decide ((i : Int) ∈ tops ps)).map Int.ofNat
def chkW (o : Obj) (ops : List Op5) (ps : List (Int × Int)) : Int × Int :=
  if (objChk o).2 ≠ 0 ∨ (chk ops).2 ≠ 0 then (-1, 2)
  else if (fromS o ops o.ini ps).2.2 ≠ 0 then (fromS o ops o.ini ps).2
  else if 0 ≤ ordW ops ps then (ordW ops ps, 42)
  else if 0 < (missTo ops ps false ops.length).length then ((missTo ops ps false ops.length).getD 0 0, 41) else ((ps.length : Int), 0)
theorem tops_take (ps : List (Int × Int)) {i : Nat} (h : i < ps.length) : tops (ps.take (i + 1)) = tops (ps.take i) ++ [ps[i].1] := by
  unfold tops
  rw [← List.take_append_getElem h, List.map_append]; rfl
theorem runGo_at (o : Obj) (ops : List Op5) (u : List Int) (s : Int) (ps : List (Int × Int)) {i : Nat} (h : i < ps.length) : runGo o ops u i s (ps.drop i) = if (pickS o ops u s ps[i]).2 = 0 then runGo o ops (u ++ [ps[i].1]) (i + 1) (pickS o ops u s ps[i]).1 (ps.drop (i + 1)) else (0, (i : Int), (pickS o ops u s ps[i]).2) := by
  rw [List.drop_eq_getElem_cons h]; rfl
theorem ordGo_at (ops : List Op5) (u : List Int) (ps : List (Int × Int)) {i : Nat} (h : i < ps.length) : ordGo ops u i (ps.drop i) = if badT ops u ps[i] then (i : Int) else ordGo ops (u ++ [ps[i].1]) (i + 1) (ps.drop (i + 1)) := by
  rw [List.drop_eq_getElem_cons h]; rfl
theorem missTo_succ (ops : List Op5) (ps : List (Int × Int)) (pend : Bool) {n : Nat} (h : n < ops.length) : missTo ops ps pend (n + 1) = if ((decide (ops[n].e = -1) == pend) && !decide ((n : Int) ∈ tops ps)) = true then missTo ops ps pend n ++ [(n : Int)] else missTo ops ps pend n := by
  unfold missTo
  rw [List.range_succ, List.filter_append, List.map_append]
  simp only [List.filter_cons, List.filter_nil, List.getD_eq_getElem?_getD, List.getElem?_eq_getElem h, Option.getD_some]
  split <;> simp_all
theorem missTo_length (ops : List Op5) (ps : List (Int × Int)) (pend : Bool) (n : Nat) : (missTo ops ps pend n).length ≤ n := by
  unfold missTo
  rw [List.length_map]
  exact Nat.le_trans (List.length_filter_le _ _) (by simp)

/-! ### The order of picks, with all others behind -/
def putO (n : Nat) (out : List Int) (i : Int) : List Int := if (0 ≤ i ∧ i < n) ∧ i ∉ out then out ++ [i] else out
def orderTo (n : Nat) (out l : List Int) : List Int := l.foldl (putO n) out
def orderS (n : Nat) (ps : List (Int × Int)) : List Int := orderTo n (orderTo n [] (tops ps)) ((List.range n).map Int.ofNat)
theorem putO_in {n : Nat} {out : List Int} {i : Int} (h : ∀ x ∈ out, 0 ≤ x ∧ x < n) : ∀ x ∈ putO n out i, 0 ≤ x ∧ x < n := by
  unfold putO
  split
  · rename_i c
    intro x hx
    rcases List.mem_append.1 hx with hx | hx
    · exact h x hx
    · cases List.mem_singleton.1 hx; exact c.1
  · exact h
theorem putO_nd {n : Nat} {out : List Int} {i : Int} (h : out.Nodup) : (putO n out i).Nodup := by
  unfold putO
  split
  · rename_i c
    rw [List.nodup_append]
    exact ⟨h, List.nodup_cons.2 ⟨by simp, List.nodup_nil⟩, fun a ha b hb => by cases List.mem_singleton.1 hb; rintro rfl; exact c.2 ha⟩
  · exact h
theorem mem_putO {n : Nat} {out : List Int} {i x : Int} : x ∈ putO n out i ↔ x ∈ out ∨ (x = i ∧ 0 ≤ i ∧ i < n) := by
  unfold putO
  split
  · rename_i c
    rw [List.mem_append, List.mem_singleton]
    exact ⟨fun h => h.imp id fun e => ⟨e, c.1⟩, fun h => h.imp id fun e => e.1⟩
  · rename_i c
    refine ⟨.inl, fun h => h.elim id fun ⟨e, h1⟩ => ?_⟩
    subst e
    exact Classical.byContradiction fun hc => c ⟨h1, hc⟩
theorem orderTo_in {n : Nat} : ∀ (l : List Int) {out : List Int}, (∀ x ∈ out, 0 ≤ x ∧ x < n) → ∀ x ∈ orderTo n out l, 0 ≤ x ∧ x < n
  | [], _, h => h
  | _ :: l, _, h => orderTo_in l (putO_in h)
theorem orderTo_nd {n : Nat} : ∀ (l : List Int) {out : List Int}, out.Nodup → (orderTo n out l).Nodup
  | [], _, h => h
  | _ :: l, _, h => orderTo_nd l (putO_nd h)
theorem mem_orderTo {n : Nat} {x : Int} : ∀ (l : List Int) {out : List Int}, x ∈ orderTo n out l ↔ x ∈ out ∨ (x ∈ l ∧ 0 ≤ x ∧ x < n)
  | [], out => by simp [orderTo]
  | y :: l, out => by
    show x ∈ orderTo n (putO n out y) l ↔ _
    rw [mem_orderTo l, mem_putO, List.mem_cons]
    constructor
    · rintro ((h | ⟨rfl, h⟩) | ⟨h, h'⟩)
      · exact .inl h
      · exact .inr ⟨.inl rfl, h⟩
      · exact .inr ⟨.inr h, h'⟩
    · rintro (h | ⟨rfl | h, h'⟩)
      · exact .inl (.inl h)
      · exact .inl (.inr ⟨rfl, h'⟩)
      · exact .inr ⟨h, h'⟩
theorem orderS_facts (n : Nat) (ps : List (Int × Int)) : (∀ x ∈ orderS n ps, 0 ≤ x ∧ x < n) ∧ (orderS n ps).Nodup ∧ (∀ a : Nat, a < n → (a : Int) ∈ orderS n ps) := by
  refine ⟨orderTo_in _ (orderTo_in _ (by simp)), orderTo_nd _ (orderTo_nd _ List.nodup_nil), fun a ha => ?_⟩
  exact (mem_orderTo _).2 (.inr ⟨List.mem_map.2 ⟨a, List.mem_range.2 ha, rfl⟩, by omega, by omega⟩)
theorem orderS_length (n : Nat) (ps : List (Int × Int)) : (orderS n ps).length = n := by
  obtain ⟨h1, h2, h3⟩ := orderS_facts n ps
  apply Nat.le_antisymm
  · have := len_of_sub (orderS n ps) ((List.range n).map Int.ofNat) h2 (fun y hy => by
      obtain ⟨q1, q2⟩ := h1 y hy
      exact List.mem_map.2 ⟨y.toNat, List.mem_range.2 (by omega), by simp; omega⟩)
    simpa using this
  · have := len_of_sub ((List.range n).map Int.ofNat) (orderS n ps) (by
      show List.Pairwise _ _
      rw [List.pairwise_map]
      exact (List.nodup_range (n := n)).imp fun h e => h (Int.ofNat.inj e)) (fun y hy => by
      obtain ⟨a, ha, rfl⟩ := List.mem_map.1 hy
      exact h3 a (List.mem_range.1 ha))
    simpa using this
theorem orderTo_len {n : Nat} : ∀ (l : List Int) {out : List Int}, (orderTo n out l).length ≤ out.length + l.length
  | [], _ => by simp [orderTo]
  | y :: l, out => by
    have h1 := orderTo_len (n := n) l (out := putO n out y)
    have h2 : (putO n out y).length ≤ out.length + 1 := by unfold putO; split <;> simp
    show (orderTo n (putO n out y) l).length ≤ _
    simp only [List.length_cons]
    omega
def amongS (n : Nat) (ps : List (Int × Int)) : List Bool := (List.range n).map fun (i : Nat) => decide ((i : Int) ∈ tops ps)
end Go.AX
