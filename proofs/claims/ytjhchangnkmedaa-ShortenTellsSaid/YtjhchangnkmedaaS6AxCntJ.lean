/-
  Contracts: whether operations may be (oper.Check, by maps).
  Contract: oper.Check.
  Contracts: count.All, count.Fits.
  Contracts: what is awake (count).
-/
import Derived.Test.YtjhchangnkmedaaS6AxCntC
import Derived.Test.YtjhchangnkmedaaS6AxMovB
namespace Go.AX
open Go.Proofs

/-! ### Maps of one kind -/
def mapE {α : Type} (f : α → PV) (l : List (Int × α)) : List (Int × PV) := l.map fun p => (p.1, f p.2)
def lk {α : Type} : List (Int × α) → Int → Option α
  | [], _ => none
  | (k, x) :: r, n => if k = n then some x else lk r n
def pt {α : Type} : List (Int × α) → Int → α → List (Int × α)
  | [], n, y => [(n, y)]
  | (k, x) :: r, n, y => if k = n then (k, y) :: r else (k, x) :: pt r n y
theorem amLook_mapE {α : Type} (f : α → PV) : ∀ (l : List (Int × α)) (k : Int), amLook (mapE f l) k = (lk l k).map f
  | [], _ => rfl
  | (j, x) :: r, k => by
    have := amLook_mapE f r k
    simp only [mapE, List.map_cons, amLook, lk] at this ⊢
    split
    · rfl
    · exact this
theorem amPut_mapE {α : Type} (f : α → PV) : ∀ (l : List (Int × α)) (k : Int) (y : α), amPut (mapE f l) k (f y) = mapE f (pt l k y)
  | [], _, _ => rfl
  | (j, x) :: r, k, y => by
    have := amPut_mapE f r k y
    simp only [mapE, List.map_cons, amPut, pt] at this ⊢
    split
    · rfl
    · rw [this]; rfl
theorem lk_pt {α : Type} : ∀ (l : List (Int × α)) (k : Int) (y : α) (n : Int), lk (pt l k y) n = if k = n then some y else lk l n
  | [], k, y, n => rfl
  | (j, x) :: r, k, y, n => by
    simp only [pt]
    split
    · rename_i h; subst h
      simp only [lk]
      split <;> rfl
    · rename_i h
      simp only [lk, lk_pt r k y n]
      split
      · rename_i h2; subst h2; rw [if_neg (fun e => h e.symm)]
      · rfl
def fI (n : Int) : PV := I64 n
def fO (o : Op5) : PV := .agg (orow o)
@[simp] theorem look_fI (l : List (Int × Int)) (k : Int) : (amLook (mapE fI l) k).getD (I64 0) = I64 ((lk l k).getD 0) := by
  rw [amLook_mapE]; cases lk l k <;> rfl
@[simp] theorem look_fO (l : List (Int × Op5)) (k : Int) : (amLook (mapE fO l) k).getD (.agg [I64 0, I64 0, I64 0, I64 0, I64 0]) = .agg [I64 ((lk l k).getD default).p, I64 ((lk l k).getD default).k, I64 ((lk l k).getD default).s, I64 ((lk l k).getD default).e, I64 ((lk l k).getD default).r] := by
  rw [amLook_mapE]; cases lk l k <;> rfl
@[simp] theorem some_fO (l : List (Int × Op5)) (k : Int) : (amLook (mapE fO l) k).isSome = (lk l k).isSome := by
  rw [amLook_mapE]; cases lk l k <;> rfl
@[simp] theorem put_fI (l : List (Int × Int)) (k n : Int) : amPut (mapE fI l) k (I64 n) = mapE fI (pt l k n) := amPut_mapE fI l k n
@[simp] theorem put_fO (l : List (Int × Op5)) (k a b c d e : Int) : amPut (mapE fO l) k (.agg [I64 a, I64 b, I64 c, I64 d, I64 e]) = mapE fO (pt l k ⟨a, b, c, d, e⟩) := amPut_mapE fO l k ⟨a, b, c, d, e⟩
@[simp] theorem belowE_fI (n : Nat) (l : List (Int × Int)) : belowE n (mapE fI l) := by
  rw [belowE_iff]; intro r hr
  obtain ⟨p, _, rfl⟩ := List.mem_map.1 hr
  trivial
@[simp] theorem belowE_fO (n : Nat) (l : List (Int × Op5)) : belowE n (mapE fO l) := by
  rw [belowE_iff]; intro r hr
  obtain ⟨p, _, rfl⟩ := List.mem_map.1 hr
  exact ⟨trivial, trivial, trivial, trivial, trivial, trivial⟩
@[simp] theorem mapE_nil {α : Type} (f : α → PV) : mapE f [] = [] := rfl

/-! ### What the maps hold -/
def useStep (u : List (Int × Int)) (o : Op5) : List (Int × Int) :=
  if o.e ≥ 0 then pt (pt u o.s (w64 ((lk u o.s).getD 0 + 1))) o.e (w64 ((lk (pt u o.s (w64 ((lk u o.s).getD 0 + 1))) o.e).getD 0 + 1)) else pt u o.s (w64 ((lk u o.s).getD 0 + 1))
def usedTo (ops : List Op5) : Nat → List (Int × Int)
  | 0 => []
  | i + 1 => useStep (usedTo ops i) (ops.getD i default)
def latTo (ops : List Op5) : Nat → List (Int × Op5)
  | 0 => []
  | i + 1 => pt (latTo ops i) (ops.getD i default).p (ops.getD i default)
theorem getD_lt {ops : List Op5} {i : Nat} (h : i < ops.length) : ops.getD i default = ops[i] := by simp [h]
theorem usedTo_succ {ops : List Op5} {i : Nat} (h : i < ops.length) : usedTo ops (i + 1) = useStep (usedTo ops i) ops[i] := by simp [usedTo, h]
theorem latTo_succ {ops : List Op5} {i : Nat} (h : i < ops.length) : latTo ops (i + 1) = pt (latTo ops i) ops[i].p ops[i] := by simp [latTo, h]

/-- What no error tells of an operation. -/
structure Fine (ops : List Op5) (i : Nat) (o : Op5) : Prop where
  al : aloneS o = 0
  bad : ∀ j (h : j < ops.length), j < i → badS ops[j] o = false
  opn : ∀ j (h : j < ops.length), j < i → openS ops[j] o = false
theorem errAt_fine {ops : List Op5} {i : Nat} (hi : i < ops.length) (h : errAt ops i = 0) : Fine ops i ops[i] := by
  rw [errAt_eq hi, stepE] at h
  split at h
  · rename_i h1; exact absurd h h1
  · rename_i h1
    split at h
    · cases h
    · rename_i h2
      split at h
      · cases h
      · rename_i h3
        simp only [List.any_eq_true, not_exists, not_and, Bool.not_eq_true] at h2 h3
        exact ⟨Decidable.of_not_not h1, fun j hj hji => h2 _ (List.mem_take_iff_getElem.2 ⟨j, by omega, rfl⟩), fun j hj hji => h3 _ (List.mem_take_iff_getElem.2 ⟨j, by omega, rfl⟩)⟩
theorem okTo_fine {ops : List Op5} {i j : Nat} (h : okTo ops i) (hi : i ≤ ops.length) (hj : j < i) : Fine ops j (ops[j]'(by omega)) := errAt_fine (by omega) (h j hj)
theorem alone_facts {o : Op5} (h : aloneS o = 0) : 0 ≤ o.s ∧ (o.e = -1 ∨ o.s < o.e) := by
  unfold aloneS at h
  split at h
  · cases h
  · rename_i h1
    split at h
    · cases h
    · split at h
      · rename_i h3
        unfold endedS at h3
        split at h3
        · exact ⟨by omega, .inl ‹_›⟩
        · simp at h3; exact ⟨by omega, .inr (by omega)⟩
      · cases h
theorem bad_facts {a o : Op5} : badS a o = false ↔ a.s < o.s ∧ a.e ≠ o.s ∧ a.s ≠ o.e ∧ (a.e = o.e → a.e = -1) := by
  simp only [badS, meetsS, Bool.or_eq_false_iff, decide_eq_false_iff_not, Bool.and_eq_false_iff, Bool.not_eq_false', decide_eq_true_iff]
  constructor
  · rintro ⟨h1, ⟨⟨h2, h3⟩, h4⟩, h5⟩; exact ⟨by omega, h3, h4, fun e => h5.resolve_left (fun hn => hn e)⟩
  · rintro ⟨h1, h2, h3, h4⟩
    refine ⟨by omega, ⟨⟨by omega, h2⟩, h3⟩, ?_⟩
    by_cases e : a.e = o.e
    · exact .inr (h4 e)
    · exact .inl e

/-- Is a number one of an event of the first i? -/
def inUse (ops : List Op5) (i : Nat) (x : Int) : Prop := ∃ j, ∃ h : j < ops.length, j < i ∧ (ops[j].s = x ∨ (0 ≤ ops[j].e ∧ ops[j].e = x))
theorem used_val {ops : List Op5} : ∀ {i : Nat}, i ≤ ops.length → okTo ops i → ∀ x, ((lk (usedTo ops i) x).getD 0 = 1 ∧ inUse ops i x) ∨ ((lk (usedTo ops i) x).getD 0 = 0 ∧ ¬ inUse ops i x)
  | 0, _, _, x => .inr ⟨rfl, fun ⟨j, _, h, _⟩ => by omega⟩
  | i + 1, hi, ho, x => by
    have hok : okTo ops i := fun j hj => ho j (by omega)
    have hf := okTo_fine ho hi (show i < i + 1 by omega)
    have ih := used_val (show i ≤ ops.length by omega) hok
    have hif : i < ops.length := by omega
    obtain ⟨hs0, he0⟩ := alone_facts hf.al
    have nS : ¬ inUse ops i ops[i].s := fun ⟨j, hj, hji, h⟩ => by
      have := bad_facts.1 (hf.bad j hj hji); omega
    have nE : 0 ≤ ops[i].e → ¬ inUse ops i ops[i].e := fun h0 ⟨j, hj, hji, h⟩ => by
      have := bad_facts.1 (hf.bad j hj hji)
      rcases h with h | ⟨h, h'⟩
      · exact this.2.2.1 h
      · have := this.2.2.2 h'; omega
    have v1 : (lk (usedTo ops i) ops[i].s).getD 0 = 0 := by
      rcases ih ops[i].s with ⟨_, h⟩ | ⟨h, _⟩
      · exact absurd h nS
      · exact h
    have v2 : 0 ≤ ops[i].e → (lk (usedTo ops i) ops[i].e).getD 0 = 0 := fun h0 => by
      rcases ih ops[i].e with ⟨_, h⟩ | ⟨h, _⟩
      · exact absurd h (nE h0)
      · exact h
    have hw : w64 (0 + 1) = 1 := by decide
    have hin : inUse ops (i + 1) x ↔ inUse ops i x ∨ ops[i].s = x ∨ (0 ≤ ops[i].e ∧ ops[i].e = x) := by
      constructor
      · rintro ⟨j, hj, hji, h⟩
        by_cases e : j = i
        · subst e; exact .inr h
        · exact .inl ⟨j, hj, by omega, h⟩
      · rintro (⟨j, hj, hji, h⟩ | h)
        · exact ⟨j, hj, by omega, h⟩
        · exact ⟨i, hif, by omega, h⟩
    rw [hin, usedTo_succ hif, useStep, v1, hw]
    split
    · rename_i h0
      have hne : ¬ ops[i].s = ops[i].e := by omega
      rw [lk_pt (usedTo ops i) ops[i].s 1 ops[i].e, if_neg hne, v2 h0, hw, lk_pt]
      by_cases e1 : ops[i].e = x
      · left; rw [if_pos e1]; exact ⟨rfl, .inr (.inr ⟨h0, e1⟩)⟩
      · rw [if_neg e1, lk_pt]
        by_cases e2 : ops[i].s = x
        · left; rw [if_pos e2]; exact ⟨rfl, .inr (.inl e2)⟩
        · rw [if_neg e2]
          rcases ih x with ⟨h1, h2⟩ | ⟨h1, h2⟩
          · exact .inl ⟨h1, .inl h2⟩
          · exact .inr ⟨h1, by rintro (h | h | ⟨_, h⟩); exact h2 h; exact e2 h; exact e1 h⟩
    · rename_i h0
      rw [lk_pt]
      by_cases e2 : ops[i].s = x
      · left; rw [if_pos e2]; exact ⟨rfl, .inr (.inl e2)⟩
      · rw [if_neg e2]
        rcases ih x with ⟨h1, h2⟩ | ⟨h1, h2⟩
        · exact .inl ⟨h1, .inl h2⟩
        · exact .inr ⟨h1, by rintro (h | h | ⟨h, _⟩); exact h2 h; exact e2 h; exact h0 h⟩

theorem used_pos {ops : List Op5} {i : Nat} (hi : i ≤ ops.length) (ho : okTo ops i) (x : Int) : 0 < (lk (usedTo ops i) x).getD 0 ↔ inUse ops i x := by
  rcases used_val hi ho x with ⟨h1, h2⟩ | ⟨h1, h2⟩
  · rw [h1]; exact ⟨fun _ => h2, fun _ => by decide⟩
  · rw [h1]; exact ⟨fun h => by omega, fun h => absurd h h2⟩

theorem starts_up {ops : List Op5} {i : Nat} (hi : i ≤ ops.length) (ho : okTo ops i) {j k : Nat} (hk : k < i) (hj : j < k) : (ops[j]'(by omega)).s < (ops[k]'(by omega)).s :=
  (bad_facts.1 ((okTo_fine ho hi hk).bad j (by omega) hj)).1

/-- What the program asks of order. -/
theorem order_iff {ops : List Op5} {i : Nat} (hi : i < ops.length) (ho : okTo ops i) (ha : aloneS ops[i] = 0) :
    (ops.take i).any (fun a => badS a ops[i]) = true ↔ (∃ h : 0 < i, ops[i].s ≤ (ops[i - 1]'(by omega)).s) ∨ inUse ops i ops[i].s ∨ (0 ≤ ops[i].e ∧ inUse ops i ops[i].e) := by
  obtain ⟨hs0, he0⟩ := alone_facts ha
  rw [List.any_eq_true]
  constructor
  · rintro ⟨a, hm, hb⟩
    obtain ⟨j, hj, rfl⟩ := List.mem_take_iff_getElem.1 hm
    have hji : j < i := by omega
    have ha2 := alone_facts (okTo_fine ho (by omega) hji).al
    by_cases h1 : ops[i].s ≤ ops[j].s
    · left
      refine ⟨by omega, ?_⟩
      by_cases e : j = i - 1
      · subst e; exact h1
      · have := starts_up (by omega) ho (show i - 1 < i by omega) (show j < i - 1 by omega); omega
    · right
      by_cases h2 : ops[j].e = ops[i].s
      · exact .inl ⟨j, by omega, hji, .inr ⟨by omega, h2⟩⟩
      · by_cases h3 : ops[j].s = ops[i].e
        · exact .inr ⟨by omega, j, by omega, hji, .inl h3⟩
        · by_cases h4 : ops[j].e = ops[i].e → ops[j].e = -1
          · have := bad_facts.2 ⟨by omega, h2, h3, h4⟩; rw [this] at hb; cases hb
          · obtain ⟨h5, h6⟩ := Classical.not_imp.1 h4
            exact .inr ⟨by omega, j, by omega, hji, .inr ⟨by omega, h5⟩⟩
  · rintro (⟨h0, h⟩ | ⟨j, hj, hji, h⟩ | ⟨h0, j, hj, hji, h⟩)
    · exact ⟨_, List.mem_take_iff_getElem.2 ⟨i - 1, by omega, rfl⟩, by cases hb : badS _ _ with | true => rfl | false => have := bad_facts.1 hb; omega⟩
    · exact ⟨_, List.mem_take_iff_getElem.2 ⟨j, by omega, rfl⟩, by cases hb : badS _ _ with | true => rfl | false => have := bad_facts.1 hb; omega⟩
    · exact ⟨_, List.mem_take_iff_getElem.2 ⟨j, by omega, rfl⟩, by
        cases hb : badS _ _ with
        | true => rfl
        | false =>
          have := bad_facts.1 hb
          rcases h with h | ⟨h, h'⟩
          · exact absurd h this.2.2.1
          · have := this.2.2.2 h'; omega⟩

/-- The last one of a process. -/
theorem lat_val {ops : List Op5} (p : Int) : ∀ {i : Nat}, i ≤ ops.length → (lk (latTo ops i) p = none ∧ ∀ j (h : j < ops.length), j < i → ops[j].p ≠ p) ∨ ∃ j, ∃ h : j < ops.length, j < i ∧ lk (latTo ops i) p = some ops[j] ∧ ops[j].p = p ∧ ∀ k (h : k < ops.length), j < k → k < i → ops[k].p ≠ p
  | 0, _ => .inl ⟨rfl, fun j _ h => by omega⟩
  | i + 1, hi => by
    have hif : i < ops.length := by omega
    rw [latTo_succ hif, lk_pt]
    by_cases e : ops[i].p = p
    · right; exact ⟨i, hif, by omega, if_pos e, e, fun k _ h1 h2 => by omega⟩
    · rw [if_neg e]
      rcases lat_val p (show i ≤ ops.length by omega) with ⟨h1, h2⟩ | ⟨j, hj, h1, h2, h3, h4⟩
      · left; exact ⟨h1, fun j hj hji => by by_cases e2 : j = i; (subst e2; exact e); exact h2 j hj (by omega)⟩
      · right; exact ⟨j, hj, by omega, h2, h3, fun k hk hjk hki => by by_cases e2 : k = i; (subst e2; exact e); exact h4 k hk hjk (by omega)⟩

theorem ahead_iff {a b : Op5} : aheadS a b = true ↔ 0 ≤ a.e ∧ a.e < b.s := by simp [aheadS]
theorem open_iff {ops : List Op5} {i : Nat} (hi : i < ops.length) (ho : okTo ops i) :
    (ops.take i).any (fun a => openS a ops[i]) = true ↔ (lk (latTo ops i) ops[i].p).isSome = true ∧ aheadS ((lk (latTo ops i) ops[i].p).getD default) ops[i] = false := by
  rw [List.any_eq_true]
  rcases lat_val ops[i].p (show i ≤ ops.length by omega) with ⟨h1, h2⟩ | ⟨j, hj, hji, h1, h2, h3⟩
  · rw [h1]
    constructor
    · rintro ⟨a, hm, hb⟩
      obtain ⟨k, hk, rfl⟩ := List.mem_take_iff_getElem.1 hm
      simp only [openS, Bool.and_eq_true, decide_eq_true_iff] at hb
      exact absurd hb.1 (h2 k (by omega) (by omega))
    · rintro ⟨h, _⟩; cases h
  · rw [h1]
    simp only [Option.isSome_some, Option.getD_some, true_and]
    constructor
    · rintro ⟨a, hm, hb⟩
      obtain ⟨k, hk, rfl⟩ := List.mem_take_iff_getElem.1 hm
      simp only [openS, Bool.and_eq_true, decide_eq_true_iff, Bool.not_eq_true'] at hb
      have hkj : k ≤ j := Nat.le_of_not_lt fun hl => h3 k (by omega) hl (by omega) hb.1
      by_cases e : k = j
      · subst e; exact hb.2
      · cases hah : aheadS ops[j] ops[i] with
        | false => rfl
        | true =>
          have hop := (okTo_fine ho (by omega) hji).opn k (by omega) (by omega)
          simp only [openS, Bool.and_eq_false_iff, decide_eq_false_iff_not, Bool.not_eq_false'] at hop
          have hop2 := ahead_iff.1 (hop.resolve_left (fun hn => hn (by rw [hb.1, h2])))
          have hj2 := ahead_iff.1 hah
          have := alone_facts (okTo_fine ho (by omega) hji).al
          have : aheadS ops[k] ops[i] = true := ahead_iff.2 ⟨by omega, by omega⟩
          rw [this] at hb; cases hb.2
    · intro h
      exact ⟨_, List.mem_take_iff_getElem.2 ⟨j, by omega, rfl⟩, by simp only [openS, h2, h, decide_true, Bool.not_false, Bool.and_self]⟩

end Go.AX

namespace Go.AX
open Go.Proofs

end Go.AX

namespace Go.AX
open Go.Proofs

end Go.AX

namespace Go.AX
open Go.Proofs

def lAw : List Op5 := [⟨1, 0, 0, 1, 0⟩, ⟨1, 0, 2, 3, 0⟩, ⟨2, 0, 4, -1, -1⟩]
def lAw2 : List Op5 := [⟨1, 0, 0, 1, 0⟩, ⟨1, 0, 2, 3, 0⟩]
theorem eqv {P : Program} {f : FuncId} {xs : List PV} {n m : Int} (h : APure P f xs (fun r => r = .pv (I64 n))) (e : n = m) : APure P f xs (fun r => r = .pv (I64 m)) := by subst e; exact h

end Go.AX
