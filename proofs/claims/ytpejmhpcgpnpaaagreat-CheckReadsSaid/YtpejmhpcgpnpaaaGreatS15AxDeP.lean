/-
  The walk of MovesPlay.
  The plain law of MovesPlay.
  The plain law of MovesPlay: what all truths say.
  The order, and the row, that truths say (plain law).
-/
import Derived.Test.YtpejmhpcgpnpaaaGreatS15AxEvE
import Derived.Test.YtpejmhpcgpnpaaaGreatS15AxMovK
namespace Go.AX
open Go.Proofs
set_option linter.unusedSimpArgs false
def inTo (n m : Int) (base : List Bool) (inn : List Bool) (k : Nat) : List Bool := (List.range k).foldl (fun acc i => acc.set (markAt n m 2 (i : Nat) 0) (inn.getD i false)) base
theorem inTo_succ (n m : Int) (base inn : List Bool) (k : Nat) : inTo n m base inn (k + 1) = (inTo n m base inn k).set (markAt n m 2 k 0) (inn.getD k false) := by
 unfold inTo; rw [List.range_succ, List.foldl_append]; rfl
@[simp] theorem inTo_length (n m : Int) (base inn : List Bool) : ∀ k, (inTo n m base inn k).length = base.length
 | 0 => rfl
 | k + 1 => by rw [inTo_succ, List.length_set, inTo_length n m base inn k]
def allM (n m : Int) (order row : List Int) (inn : List Bool) (k : Nat) : List Bool := inTo n m (marks (varsN n m).toNat (plIdx n m order order.length ++ stIdx n m row row.length)) inn k
/-! ### Names' numbers are unlike -/
theorem mul_lt_next {a b a' b' w : Int} (h : a < a') (hb : b < w) (hb' : 0 ≤ b') (hw : 0 ≤ w) : a * w + b < a' * w + b' := by
 have := Int.mul_le_mul_of_nonneg_right (show a + 1 ≤ a' by omega) hw; rw [Int.add_mul, Int.one_mul] at this; omega
theorem mul_inj {a b a' b' w : Int} (hb : 0 ≤ b ∧ b < w) (hb' : 0 ≤ b' ∧ b' < w) (h : a * w + b = a' * w + b') : a = a' ∧ b = b' := by
 rcases Int.lt_trichotomy a a' with h1 | h1 | h1
 ·have := mul_lt_next h1 hb.2 hb'.1 (by omega); omega
 ·subst h1; omega
 ·have := mul_lt_next h1 hb'.2 hb.1 (by omega); omega
theorem block_top {n m k a b : Int} (h : varOk n m k a b = true) : a * blockWide n m k + b < blockTall n k * blockWide n m k := by
 obtain ⟨h1, h2, h3, h4, h5, h6, h7⟩ := varOk_iff.1 h; have := mul_lt_next (b' := 0) h5 h7 (by omega) (by omega); omega
theorem mark_inj {n m k a b k' a' b' : Int} (h : varOk n m k a b = true) (h' : varOk n m k' a' b' = true) (e : markAt n m k a b = markAt n m k' a' b') : k = k' ∧ a = a' ∧ b = b' := by
 have m1 := mark_in h; have m2 := mark_in h'; have v1 : varS n m k a b = blockFrom n k + a * blockWide n m k + b + 1 := by rw [varS, if_pos h]
 have v2 : varS n m k' a' b' = blockFrom n k' + a' * blockWide n m k' + b' + 1 := by rw [varS, if_pos h']
 have t1 := block_top h; have t2 := block_top h'; have s1 := block_small h; have s2 := block_small h'; obtain ⟨q1, h2, h3, h4, h5, h6, h7⟩ := varOk_iff.1 h; obtain ⟨_, g2, g3, g4, g5, g6, g7⟩ := varOk_iff.1 h'; have heq : blockFrom n k + a * blockWide n m k + b = blockFrom n k' + a' * blockWide n m k' + b' := by omega
 have hk : k = 1 ∨ k = 2 ∨ k = 3 := by omega
 have hk' : k' = 1 ∨ k' = 2 ∨ k' = 3 := by omega
 have hs := sizeOk_iff.1 q1; have hn0 : 0 ≤ n * n := Int.mul_nonneg hs.1 hs.1; by_cases e2 : k = k'
 ·subst e2; have := mul_inj (w := blockWide n m k) ⟨h6, h7⟩ ⟨g6, g7⟩ (show a * blockWide n m k + b = a' * blockWide n m k + b' by omega); exact ⟨rfl, this.1, this.2⟩
 ·exfalso; rcases hk with rfl | rfl | rfl <;> rcases hk' with rfl | rfl | rfl <;> first | exact e2 rfl | (simp [blockFrom, blockWide, blockTall] at *; omega)
/-! ### Truths of literals -/
theorem inTo_other {n m : Int} {base inn : List Bool} {x : Nat} : ∀ {k : Nat}, (∀ i : Nat, i < k → markAt n m 2 i 0 ≠ x) → (inTo n m base inn k).getD x false = base.getD x false
 | 0, _ => rfl
 | k + 1, h => by
  rw [inTo_succ, List.getD_eq_getElem?_getD, List.getElem?_set_ne (h k (by omega)), ← List.getD_eq_getElem?_getD]; exact inTo_other fun i hi => h i (by omega)
theorem inTo_at {n m : Int} {base inn : List Bool} {i : Nat} {K : Nat} (hinj : ∀ j : Nat, j < K → markAt n m 2 j 0 = markAt n m 2 i 0 → j = i) (hb : markAt n m 2 i 0 < base.length) : ∀ {k : Nat}, k ≤ K → i < k → (inTo n m base inn k).getD (markAt n m 2 i 0) false = inn.getD i false
 | 0, _, h => by omega
 | k + 1, hk, h => by
  rw [inTo_succ]; by_cases e : k = i
  ·subst e; rw [List.getD_eq_getElem?_getD, List.getElem?_set_self (by simpa using hb)]; simp
  ·rw [List.getD_eq_getElem?_getD, List.getElem?_set_ne (fun q => e (hinj k (by omega) q)), ← List.getD_eq_getElem?_getD]; exact inTo_at hinj hb (by omega) (by omega)
theorem marks_getD (V : Nat) (idx : List Nat) {x : Nat} (h : x < V) : (marks V idx).getD x false = decide (x ∈ idx) := by
 rw [List.getD_eq_getElem?_getD, List.getElem?_eq_getElem (by simpa using h)]; simp [marks]
theorem mem_plIdx {n m : Int} {order : List Int} {k x : Nat} : x ∈ plIdx n m order k ↔ ∃ j : Nat, j < k ∧ x = markAt n m 1 (order.getD j 0) j := by
 unfold plIdx; simp only [List.mem_map, List.mem_range]; exact ⟨fun ⟨j, h, e⟩ => ⟨j, h, e.symm⟩, fun ⟨j, h, e⟩ => ⟨j, h, e.symm⟩⟩
theorem mem_stIdx {n m : Int} {row : List Int} {k x : Nat} : x ∈ stIdx n m row k ↔ ∃ j : Nat, j < k ∧ x = markAt n m 3 j (row.getD j 0) := by
 unfold stIdx; simp only [List.mem_map, List.mem_range]; exact ⟨fun ⟨j, h, e⟩ => ⟨j, h, e.symm⟩, fun ⟨j, h, e⟩ => ⟨j, h, e.symm⟩⟩
structure Good (N : Nat) (m : Int) (order row : List Int) (inn : List Bool) : Prop where
  hc : sizeOk N m = true
  ol : order.length = N
  op : ∀ k, k < N → plAt N order k
  rl : row.length = N + 1
  rp : ∀ k, k < N + 1 → stAt m row k
  il : inn.length = N
namespace Good
variable {N : Nat} {m : Int} {order row : List Int} {inn : List Bool}
theorem ok1 (g : Good N m order row inn) {a : Int} {b : Nat} (ha : 0 ≤ a ∧ a < N) (hb : b < N) : varOk N m 1 a b = true := varOk_iff.2 ⟨g.hc, by decide, by decide, ha.1, by simp [blockTall]; omega, by omega, by simp [blockWide]; omega⟩
theorem ok2 (g : Good N m order row inn) {a : Nat} (ha : a < N) : varOk N m 2 a 0 = true := varOk_iff.2 ⟨g.hc, by decide, by decide, by omega, by simp [blockTall]; omega, by decide, by simp [blockWide]⟩
theorem ok3 (g : Good N m order row inn) {a : Nat} {b : Int} (ha : a ≤ N) (hb : 0 ≤ b ∧ b < m) : varOk N m 3 a b = true := varOk_iff.2 ⟨g.hc, by decide, by decide, by omega, by simp [blockTall]; omega, hb.1, by simp [blockWide]; exact hb.2⟩
theorem lt (g : Good N m order row inn) {k a b : Int} (h : varOk N m k a b = true) : markAt N m k a b < (varsN N m).toNat := by have := (mark_in h).2; omega
theorem len (g : Good N m order row inn) : (allM N m order row inn N).length = (varsN N m).toNat := by simp [allM]
theorem t1 (g : Good N m order row inn) {a : Int} {b : Nat} (ha : 0 ≤ a ∧ a < N) (hb : b < N) : (allM N m order row inn N).getD (markAt N m 1 a b) false = decide (order.getD b 0 = a) := by
 have h1 := g.ok1 ha hb; unfold allM; rw [inTo_other fun i hi e => absurd (mark_inj (g.ok2 hi) h1 e).1 (by decide), marks_getD _ _ (g.lt h1)]; congr 1; apply propext; rw [List.mem_append, mem_plIdx, mem_stIdx, g.ol, g.rl]; constructor
 ·rintro (⟨j, hj, e⟩ | ⟨j, hj, e⟩)
  ·have hp := g.op j hj; have := mark_inj h1 (g.ok1 ⟨hp.1, hp.2.1⟩ hj) e; have hjb : j = b := by omega
   subst hjb; exact this.2.1.symm
  ·exact absurd (mark_inj h1 (g.ok3 (by omega) (g.rp j hj)) e).1 (by decide)
 ·intro e; exact .inl ⟨b, hb, by rw [e]⟩
theorem t2 (g : Good N m order row inn) {a : Nat} (ha : a < N) : (allM N m order row inn N).getD (markAt N m 2 a 0) false = inn.getD a false := by
 unfold allM; refine inTo_at (K := N) (fun j hj e => ?_) (by simpa using g.lt (g.ok2 ha)) (Nat.le_refl _) ha; have := (mark_inj (g.ok2 hj) (g.ok2 ha) e).2.1; omega
end Good
end Go.AX

namespace Go.AX
open Go.Proofs
def onlyAt (f : Nat → Bool) (n : Nat) : Int := match (List.range n).find? f with | some a => (a : Int) | none => 0
def IsOrd (f : Nat → Nat → Bool) (n : Nat) (l : List Int) : Prop :=
 l.length = n ∧ (∀ k, k < n → ∀ a, a < n → f a k = decide (l.getD k 0 = (a : Int))) ∧ (∀ k, k < n → 0 ≤ l.getD k 0 ∧ l.getD k 0 < n) ∧ l.Nodup
instance (f : Nat → Nat → Bool) (n : Nat) (l : List Int) : Decidable (IsOrd f n l) := by unfold IsOrd; infer_instance
def ordL (f : Nat → Nat → Bool) (n : Nat) : List Int := (List.range n).map fun k => onlyAt (fun a => f a k) n
def ordO (f : Nat → Nat → Bool) (n : Nat) : Option (List Int) := if IsOrd f n (ordL f n) then some (ordL f n) else none
def IsRow (f : Nat → Nat → Bool) (n m : Nat) (l : List Int) : Prop :=
 l.length = n ∧ (∀ k, k < n → ∀ b, b < m → f k b = decide (l.getD k 0 = (b : Int))) ∧ (∀ k, k < n → 0 ≤ l.getD k 0 ∧ l.getD k 0 < m)
instance (f : Nat → Nat → Bool) (n m : Nat) (l : List Int) : Decidable (IsRow f n m l) := by unfold IsRow; infer_instance
end Go.AX
