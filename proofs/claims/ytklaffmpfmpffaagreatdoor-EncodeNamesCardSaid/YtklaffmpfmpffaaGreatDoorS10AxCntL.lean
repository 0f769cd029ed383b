/-
  Contracts: whether operations may be (oper.Check, by maps).
  Contract: oper.Check.
  Contracts: count.All, count.Fits.
  Contracts: what is awake (count).
  Plain laws: with one operation, or one state, less there are no more clauses.
-/
import Derived.Test.YtklaffmpfmpffaaGreatDoorS10AxCntC
import Derived.Test.YtklaffmpfmpffaaGreatDoorS10AxMovB
namespace Go.AX
open Go.Proofs

/-! ### Maps of one kind -/
def mapE {α : Type} (f : α → PV) (l : List (Int × α)) : List (Int × PV) := l.map fun p => (p.1, f p.2)
def lk {α : Type} : List (Int × α) → Int → Option α
  | [], _ => none
  | (k, x) :: r, n => if k = n then some x else lk r n
def pt {α : Type} : List (Int × α) → Int → α → List (Int × α)
  | [], n, y => [(n, y)]
  | (k, x) :: r, n, y => if k = n then (k, y) :: r else (k, x) :: pt r n y
theorem amLook_mapE {α : Type} (f : α → PV) : ∀ (l : List (Int × α)) (k : Int), amLook (mapE f l) k = (lk l k).map f
  | [], _ => rfl
  | (j, x) :: r, k => by
    have := amLook_mapE f r k
    simp only [mapE, List.map_cons, amLook, lk] at this ⊢
    split
    · rfl
    · exact this
theorem amPut_mapE {α : Type} (f : α → PV) : ∀ (l : List (Int × α)) (k : Int) (y : α), amPut (mapE f l) k (f y) = mapE f (pt l k y)
  | [], _, _ => rfl
  | (j, x) :: r, k, y => by
    have := amPut_mapE f r k y
    simp only [mapE, List.map_cons, amPut, pt] at this ⊢
    split
    · rfl
    · rw [this]; rfl
theorem lk_pt {α : Type} : ∀ (l : List (Int × α)) (k : Int) (y : α) (n : Int), lk (pt l k y) n = if k = n then some y else lk l n
  | [], k, y, n => rfl
  | (j, x) :: r, k, y, n => by
    simp only [pt]
    split
    · rename_i h; subst h
      simp only [lk]
      split <;> rfl
    · rename_i h
      simp only [lk, lk_pt r k y n]
      split
      · rename_i h2; subst h2; rw [if_neg (fun e => h e.symm)]
      · rfl
def fI (n : Int) : PV := I64 n
def fO (o : Op5) : PV := .agg (orow o)
@[simp] theorem look_fI (l : List (Int × Int)) (k : Int) : (amLook (mapE fI l) k).getD (I64 0) = I64 ((lk l k).getD 0) := by
  rw [amLook_mapE]; cases lk l k <;> rfl
@[simp] theorem look_fO (l : List (Int × Op5)) (k : Int) : (amLook (mapE fO l) k).getD (.agg [I64 0, I64 0, I64 0, I64 0, I64 0]) = .agg [I64 ((lk l k).getD default).p, I64 ((lk l k).getD default).k, I64 ((lk l k).getD default).s, I64 ((lk l k).getD default).e, I64 ((lk l k).getD default).r] := by
  rw [amLook_mapE]; cases lk l k <;> rfl
@[simp] theorem some_fO (l : List (Int × Op5)) (k : Int) : (amLook (mapE fO l) k).isSome = (lk l k).isSome := by
  rw [amLook_mapE]; cases lk l k <;> rfl
@[simp] theorem put_fI (l : List (Int × Int)) (k n : Int) : amPut (mapE fI l) k (I64 n) = mapE fI (pt l k n) := amPut_mapE fI l k n
@[simp] theorem put_fO (l : List (Int × Op5)) (k a b c d e : Int) : amPut (mapE fO l) k (.agg [I64 a, I64 b, I64 c, I64 d, I64 e]) = mapE fO (pt l k ⟨a, b, c, d, e⟩) := amPut_mapE fO l k ⟨a, b, c, d, e⟩
@[simp] theorem belowE_fI (n : Nat) (l : List (Int × Int)) : belowE n (mapE fI l) := by
  rw [belowE_iff]; intro r hr
  obtain ⟨p, _, rfl⟩ := List.mem_map.1 hr
  trivial
@[simp] theorem belowE_fO (n : Nat) (l : List (Int × Op5)) : belowE n (mapE fO l) := by
  rw [belowE_iff]; intro r hr
  obtain ⟨p, _, rfl⟩ := List.mem_map.1 hr
  exact ⟨trivial, trivial, trivial, trivial, trivial, trivial⟩
@[simp] theorem mapE_nil {α : Type} (f : α → PV) : mapE f [] = [] := rfl

/-! ### What the maps hold -/
def useStep (u : List (Int × Int)) (o : Op5) : List (Int × Int) :=
  if o.e ≥ 0 then pt (pt u o.s (w64 ((lk u o.s).getD 0 + 1))) o.e (w64 ((lk (pt u o.s (w64 ((lk u o.s).getD 0 + 1))) o.e).getD 0 + 1)) else pt u o.s (w64 ((lk u o.s).getD 0 + 1))
def usedTo (ops : List Op5) : Nat → List (Int × Int)
  | 0 => []
  | i + 1 => useStep (usedTo ops i) (ops.getD i default)
def latTo (ops : List Op5) : Nat → List (Int × Op5)
  | 0 => []
  | i + 1 => pt (latTo ops i) (ops.getD i default).p (ops.getD i default)
theorem getD_lt {ops : List Op5} {i : Nat} (h : i < ops.length) : ops.getD i default = ops[i] := by simp [h]
theorem usedTo_succ {ops : List Op5} {i : Nat} (h : i < ops.length) : usedTo ops (i + 1) = useStep (usedTo ops i) ops[i] := by simp [usedTo, h]
theorem latTo_succ {ops : List Op5} {i : Nat} (h : i < ops.length) : latTo ops (i + 1) = pt (latTo ops i) ops[i].p ops[i] := by simp [latTo, h]

/-- What no error tells of an operation. -/
structure Fine (ops : List Op5) (i : Nat) (o : Op5) : Prop where
  al : aloneS o = 0
  bad : ∀ j (h : j < ops.length), j < i → badS ops[j] o = false
  opn : ∀ j (h : j < ops.length), j < i → openS ops[j] o = false
theorem errAt_fine {ops : List Op5} {i : Nat} (hi : i < ops.length) (h : errAt ops i = 0) : Fine ops i ops[i] := by
  rw [errAt_eq hi, stepE] at h
  split at h
  · rename_i h1; exact absurd h h1
  · rename_i h1
    split at h
    · cases h
    · rename_i h2
      split at h
      · cases h
      · rename_i h3
        simp only [List.any_eq_true, not_exists, not_and, Bool.not_eq_true] at h2 h3
        exact ⟨Decidable.of_not_not h1, fun j hj hji => h2 _ (List.mem_take_iff_getElem.2 ⟨j, by omega, rfl⟩), fun j hj hji => h3 _ (List.mem_take_iff_getElem.2 ⟨j, by omega, rfl⟩)⟩
theorem okTo_fine {ops : List Op5} {i j : Nat} (h : okTo ops i) (hi : i ≤ ops.length) (hj : j < i) : Fine ops j (ops[j]'(by omega)) := errAt_fine (by omega) (h j hj)
theorem alone_facts {o : Op5} (h : aloneS o = 0) : 0 ≤ o.s ∧ (o.e = -1 ∨ o.s < o.e) := by
  unfold aloneS at h
  split at h
  · cases h
  · rename_i h1
    split at h
    · cases h
    · split at h
      · rename_i h3
        unfold endedS at h3
        split at h3
        · exact ⟨by omega, .inl ‹_›⟩
        · simp at h3; exact ⟨by omega, .inr (by omega)⟩
      · cases h
theorem bad_facts {a o : Op5} : badS a o = false ↔ a.s < o.s ∧ a.e ≠ o.s ∧ a.s ≠ o.e ∧ (a.e = o.e → a.e = -1) := by
  simp only [badS, meetsS, Bool.or_eq_false_iff, decide_eq_false_iff_not, Bool.and_eq_false_iff, Bool.not_eq_false', decide_eq_true_iff]
  constructor
  · rintro ⟨h1, ⟨⟨h2, h3⟩, h4⟩, h5⟩; exact ⟨by omega, h3, h4, fun e => h5.resolve_left (fun hn => hn e)⟩
  · rintro ⟨h1, h2, h3, h4⟩
    refine ⟨by omega, ⟨⟨by omega, h2⟩, h3⟩, ?_⟩
    by_cases e : a.e = o.e
    · exact .inr (h4 e)
    · exact .inl e

/-- Is a number one of an event of the first i? -/
def inUse (ops : List Op5) (i : Nat) (x : Int) : Prop := ∃ j, ∃ h : j < ops.length, j < i ∧ (ops[j].s = x ∨ (0 ≤ ops[j].e ∧ ops[j].e = x))
theorem used_val {ops : List Op5} : ∀ {i : Nat}, i ≤ ops.length → okTo ops i → ∀ x, ((lk (usedTo ops i) x).getD 0 = 1 ∧ inUse ops i x) ∨ ((lk (usedTo ops i) x).getD 0 = 0 ∧ ¬ inUse ops i x)
  | 0, _, _, x => .inr ⟨rfl, fun ⟨j, _, h, _⟩ => by omega⟩
  | i + 1, hi, ho, x => by
    have hok : okTo ops i := fun j hj => ho j (by omega)
    have hf := okTo_fine ho hi (show i < i + 1 by omega)
    have ih := used_val (show i ≤ ops.length by omega) hok
    have hif : i < ops.length := by omega
    obtain ⟨hs0, he0⟩ := alone_facts hf.al
    have nS : ¬ inUse ops i ops[i].s := fun ⟨j, hj, hji, h⟩ => by
      have := bad_facts.1 (hf.bad j hj hji); omega
    have nE : 0 ≤ ops[i].e → ¬ inUse ops i ops[i].e := fun h0 ⟨j, hj, hji, h⟩ => by
      have := bad_facts.1 (hf.bad j hj hji)
      rcases h with h | ⟨h, h'⟩
      · exact this.2.2.1 h
      · have := this.2.2.2 h'; omega
    have v1 : (lk (usedTo ops i) ops[i].s).getD 0 = 0 := by
      rcases ih ops[i].s with ⟨_, h⟩ | ⟨h, _⟩
      · exact absurd h nS
      · exact h
    have v2 : 0 ≤ ops[i].e → (lk (usedTo ops i) ops[i].e).getD 0 = 0 := fun h0 => by
      rcases ih ops[i].e with ⟨_, h⟩ | ⟨h, _⟩
      · exact absurd h (nE h0)
      · exact h
    have hw : w64 (0 + 1) = 1 := by decide
    have hin : inUse ops (i + 1) x ↔ inUse ops i x ∨ ops[i].s = x ∨ (0 ≤ ops[i].e ∧ ops[i].e = x) := by
      constructor
      · rintro ⟨j, hj, hji, h⟩
        by_cases e : j = i
        · subst e; exact .inr h
        · exact .inl ⟨j, hj, by omega, h⟩
      · rintro (⟨j, hj, hji, h⟩ | h)
        · exact ⟨j, hj, by omega, h⟩
        · exact ⟨i, hif, by omega, h⟩
    rw [hin, usedTo_succ hif, useStep, v1, hw]
    split
    · rename_i h0
      have hne : ¬ ops[i].s = ops[i].e := by omega
      rw [lk_pt (usedTo ops i) ops[i].s 1 ops[i].e, if_neg hne, v2 h0, hw, lk_pt]
      by_cases e1 : ops[i].e = x
      · left; rw [if_pos e1]; exact ⟨rfl, .inr (.inr ⟨h0, e1⟩)⟩
      · rw [if_neg e1, lk_pt]
        by_cases e2 : ops[i].s = x
        · left; rw [if_pos e2]; exact ⟨rfl, .inr (.inl e2)⟩
        · rw [if_neg e2]
          rcases ih x with ⟨h1, h2⟩ | ⟨h1, h2⟩
          · exact .inl ⟨h1, .inl h2⟩
          · exact .inr ⟨h1, by rintro (h | h | ⟨_, h⟩); exact h2 h; exact e2 h; exact e1 h⟩
    · rename_i h0
      rw [lk_pt]
      by_cases e2 : ops[i].s = x
      · left; rw [if_pos e2]; exact ⟨rfl, .inr (.inl e2)⟩
      · rw [if_neg e2]
        rcases ih x with ⟨h1, h2⟩ | ⟨h1, h2⟩
        · exact .inl ⟨h1, .inl h2⟩
        · exact .inr ⟨h1, by rintro (h | h | ⟨h, _⟩); exact h2 h; exact e2 h; exact h0 h⟩

theorem used_pos {ops : List Op5} {i : Nat} (hi : i ≤ ops.length) (ho : okTo ops i) (x : Int) : 0 < (lk (usedTo ops i) x).getD 0 ↔ inUse ops i x := by
  rcases used_val hi ho x with ⟨h1, h2⟩ | ⟨h1, h2⟩
  · rw [h1]; exact ⟨fun _ => h2, fun _ => by decide⟩
  · rw [h1]; exact ⟨fun h => by omega, fun h => absurd h h2⟩

theorem starts_up {ops : List Op5} {i : Nat} (hi : i ≤ ops.length) (ho : okTo ops i) {j k : Nat} (hk : k < i) (hj : j < k) : (ops[j]'(by omega)).s < (ops[k]'(by omega)).s :=
  (bad_facts.1 ((okTo_fine ho hi hk).bad j (by omega) hj)).1

/-- What the program asks of order. -/
theorem order_iff {ops : List Op5} {i : Nat} (hi : i < ops.length) (ho : okTo ops i) (ha : aloneS ops[i] = 0) :
    (ops.take i).any (fun a => badS a ops[i]) = true ↔ (∃ h : 0 < i, ops[i].s ≤ (ops[i - 1]'(by omega)).s) ∨ inUse ops i ops[i].s ∨ (0 ≤ ops[i].e ∧ inUse ops i ops[i].e) := by
  obtain ⟨hs0, he0⟩ := alone_facts ha
  rw [List.any_eq_true]
  constructor
  · rintro ⟨a, hm, hb⟩
    obtain ⟨j, hj, rfl⟩ := List.mem_take_iff_getElem.1 hm
    have hji : j < i := by omega
    have ha2 := alone_facts (okTo_fine ho (by omega) hji).al
    by_cases h1 : ops[i].s ≤ ops[j].s
    · left
      refine ⟨by omega, ?_⟩
      by_cases e : j = i - 1
      · subst e; exact h1
      · have := starts_up (by omega) ho (show i - 1 < i by omega) (show j < i - 1 by omega); omega
    · right
      by_cases h2 : ops[j].e = ops[i].s
      · exact .inl ⟨j, by omega, hji, .inr ⟨by omega, h2⟩⟩
      · by_cases h3 : ops[j].s = ops[i].e
        · exact .inr ⟨by omega, j, by omega, hji, .inl h3⟩
        · by_cases h4 : ops[j].e = ops[i].e → ops[j].e = -1
          · have := bad_facts.2 ⟨by omega, h2, h3, h4⟩; rw [this] at hb; cases hb
          · obtain ⟨h5, h6⟩ := Classical.not_imp.1 h4
            exact .inr ⟨by omega, j, by omega, hji, .inr ⟨by omega, h5⟩⟩
  · rintro (⟨h0, h⟩ | ⟨j, hj, hji, h⟩ | ⟨h0, j, hj, hji, h⟩)
    · exact ⟨_, List.mem_take_iff_getElem.2 ⟨i - 1, by omega, rfl⟩, by cases hb : badS _ _ with | true => rfl | false => have := bad_facts.1 hb; omega⟩
    · exact ⟨_, List.mem_take_iff_getElem.2 ⟨j, by omega, rfl⟩, by cases hb : badS _ _ with | true => rfl | false => have := bad_facts.1 hb; omega⟩
    · exact ⟨_, List.mem_take_iff_getElem.2 ⟨j, by omega, rfl⟩, by
        cases hb : badS _ _ with
        | true => rfl
        | false =>
          have := bad_facts.1 hb
          rcases h with h | ⟨h, h'⟩
          · exact absurd h this.2.2.1
          · have := this.2.2.2 h'; omega⟩

/-- The last one of a process. -/
theorem lat_val {ops : List Op5} (p : Int) : ∀ {i : Nat}, i ≤ ops.length → (lk (latTo ops i) p = none ∧ ∀ j (h : j < ops.length), j < i → ops[j].p ≠ p) ∨ ∃ j, ∃ h : j < ops.length, j < i ∧ lk (latTo ops i) p = some ops[j] ∧ ops[j].p = p ∧ ∀ k (h : k < ops.length), j < k → k < i → ops[k].p ≠ p
  | 0, _ => .inl ⟨rfl, fun j _ h => by omega⟩
  | i + 1, hi => by
    have hif : i < ops.length := by omega
    rw [latTo_succ hif, lk_pt]
    by_cases e : ops[i].p = p
    · right; exact ⟨i, hif, by omega, if_pos e, e, fun k _ h1 h2 => by omega⟩
    · rw [if_neg e]
      rcases lat_val p (show i ≤ ops.length by omega) with ⟨h1, h2⟩ | ⟨j, hj, h1, h2, h3, h4⟩
      · left; exact ⟨h1, fun j hj hji => by by_cases e2 : j = i; (subst e2; exact e); exact h2 j hj (by omega)⟩
      · right; exact ⟨j, hj, by omega, h2, h3, fun k hk hjk hki => by by_cases e2 : k = i; (subst e2; exact e); exact h4 k hk hjk (by omega)⟩

theorem ahead_iff {a b : Op5} : aheadS a b = true ↔ 0 ≤ a.e ∧ a.e < b.s := by simp [aheadS]
theorem open_iff {ops : List Op5} {i : Nat} (hi : i < ops.length) (ho : okTo ops i) :
    (ops.take i).any (fun a => openS a ops[i]) = true ↔ (lk (latTo ops i) ops[i].p).isSome = true ∧ aheadS ((lk (latTo ops i) ops[i].p).getD default) ops[i] = false := by
  rw [List.any_eq_true]
  rcases lat_val ops[i].p (show i ≤ ops.length by omega) with ⟨h1, h2⟩ | ⟨j, hj, hji, h1, h2, h3⟩
  · rw [h1]
    constructor
    · rintro ⟨a, hm, hb⟩
      obtain ⟨k, hk, rfl⟩ := List.mem_take_iff_getElem.1 hm
      simp only [openS, Bool.and_eq_true, decide_eq_true_iff] at hb
      exact absurd hb.1 (h2 k (by omega) (by omega))
    · rintro ⟨h, _⟩; cases h
  · rw [h1]
    simp only [Option.isSome_some, Option.getD_some, true_and]
    constructor
    · rintro ⟨a, hm, hb⟩
      obtain ⟨k, hk, rfl⟩ := List.mem_take_iff_getElem.1 hm
      simp only [openS, Bool.and_eq_true, decide_eq_true_iff, Bool.not_eq_true'] at hb
      have hkj : k ≤ j := Nat.le_of_not_lt fun hl => h3 k (by omega) hl (by omega) hb.1
      by_cases e : k = j
      · subst e; exact hb.2
      · cases hah : aheadS ops[j] ops[i] with
        | false => rfl
        | true =>
          have hop := (okTo_fine ho (by omega) hji).opn k (by omega) (by omega)
          simp only [openS, Bool.and_eq_false_iff, decide_eq_false_iff_not, Bool.not_eq_false'] at hop
          have hop2 := ahead_iff.1 (hop.resolve_left (fun hn => hn (by rw [hb.1, h2])))
          have hj2 := ahead_iff.1 hah
          have := alone_facts (okTo_fine ho (by omega) hji).al
          have : aheadS ops[k] ops[i] = true := ahead_iff.2 ⟨by omega, by omega⟩
          rw [this] at hb; cases hb.2
    · intro h
      exact ⟨_, List.mem_take_iff_getElem.2 ⟨j, by omega, rfl⟩, by simp only [openS, h2, h, decide_true, Bool.not_false, Bool.and_self]⟩

end Go.AX

namespace Go.AX
open Go.Proofs

set_option maxRecDepth 8000 in
set_option maxHeartbeats 2000000 in
theorem chk_okC (ops : List Op5) (hl : ops.length ≤ 140737488355328) : APure Tryz.prog 37 [ovec ops] (fun r => r = .pv (.tup [I64 (chk ops).1, I64 (chk ops).2])) := by
  refine apureN [2, 3] hmo Tryz.func37 (by kernel_rfl) rfl (fun _ _ => results_tmp2 rfl _ _ _) (by kernel_rfl) (Nat.le_of_ble_eq_true rfl) ?_
  simp [ovec]
  refine ⟨fun h => by rw [chk_big (by omega)]; exact ⟨rfl, rfl⟩, fun h => ?_⟩
  refine ALoop.intro (S := fun (i : Nat) => ⟨[(0, .pv (ovec ops)), (4, .omap true (mapE fI (usedTo ops i))), (5, .omap true (mapE fO (latTo ops i))), (16, .pv (ovec ops)), (17, .pv (I64 ops.length)), (18, .pv (I64 i))], []⟩) (fun i => i ≤ ops.length ∧ okTo ops i) (fun i => ops.length - i) 0 ?_ ?_ ?_
  · exact Weak.to (by simp [ovec, usedTo, latTo]) rfl (by simp) (by simp [ovec]) (by simp)
  · exact ⟨by omega, fun j hj => by omega⟩
  · intro i ⟨hi, hok⟩
    by_cases hlt : i < ops.length
    · have hw : w64 ((i : Int) + 1) = ((i + 1 : Nat) : Int) := by rw [w64_id (by omega) (by omega)]; omega
      have hfin : ∀ st, wkL st.t [(0, .pv (ovec ops)), (4, .omap true (mapE fI (useStep (usedTo ops i) ops[i]))), (5, .omap true (mapE fO (pt (latTo ops i) ops[i].p ops[i]))), (16, .pv (ovec ops)), (17, .pv (I64 ops.length)), (18, .pv (I64 ((i + 1 : Nat) : Int)))] → errAt ops i = 0 → ∃ y, ops.length - y < ops.length - i ∧ (y ≤ ops.length ∧ okTo ops y) ∧ Weak 0 st ⟨[(0, .pv (ovec ops)), (4, .omap true (mapE fI (usedTo ops y))), (5, .omap true (mapE fO (latTo ops y))), (16, .pv (ovec ops)), (17, .pv (I64 ops.length)), (18, .pv (I64 y))], []⟩ := by
        intro st h1 h2
        refine ⟨i + 1, by omega, ⟨by omega, okTo_succ hok h2⟩, ?_⟩
        rw [usedTo_succ hlt, latTo_succ hlt]
        exact Weak.to h1 rfl (by simp) (by simp [ovec]) (by simp)
      have hord := order_iff hlt hok
      have hopn := open_iff hlt hok
      rcases Nat.eq_zero_or_pos i with h0 | h0
      · subst h0
        simp [ovec, hlt, orow]
        refine CallK.intro (alone_ok ops[0]) (by simp) ?_
        simp
        refine ⟨fun hc => ?_, fun hc => ?_⟩
        · rw [chk_alone (by omega) hlt hok rfl hc]; exact ⟨rfl, rfl⟩
        have ho := hord hc
        rw [← used_pos hi hok, ← used_pos hi hok] at ho
        refine ⟨fun a1 => ⟨a1, fun a2 => ⟨a1, a2⟩⟩, fun hb => ?_, fun a1 a2 => ?_⟩
        · rw [chk_order (by omega) hlt hok hc (ho.2 (.inr hb))]; exact ⟨rfl, rfl⟩
        have hnb : (ops.take 0).any (fun a => badS a ops[0]) = false := rfl
        refine CallG.intro (r := .pv (BL (aheadS ((lk (latTo ops 0) ops[0].p).getD default) ops[0]))) (fun _ => ahead_ok _ _) (by simp) ?_
        simp
        refine ⟨fun b1 b2 => ?_, fun b1 => ?_⟩
        · rw [chk_open (by omega) hlt hok hc hnb (hopn.2 ⟨b1, b2⟩)]; exact ⟨rfl, rfl⟩
        have hno : (ops.take 0).any (fun a => openS a ops[0]) = false := rfl
        have he := errAt_zero hlt hc hnb hno
        have hw1 : w64 1 = 1 := by decide
        exact ⟨fun b2 => hfin _ (by simp [ovec, useStep, b2, hw1]) he, fun b2 => hfin _ (by simp [ovec, useStep, Int.not_le.2 b2, hw1]) he⟩
      · have hq : w64 ((i : Int) - 1) = ((i - 1 : Nat) : Int) := by rw [w64_id (by omega) (by omega)]; omega
        have hq2 : i - 1 < ops.length := by omega
        simp [ovec, hlt, orow]
        refine CallK.intro (alone_ok ops[i]) (by simp) ?_
        simp [h0, hq, hq2, orow]
        refine ⟨fun hc => ?_, fun hc => ?_⟩
        · rw [chk_alone (by omega) hlt hok rfl hc]; exact ⟨rfl, rfl⟩
        have ho := hord hc
        rw [← used_pos hi hok, ← used_pos hi hok] at ho
        refine ⟨fun a1 a2 => ⟨⟨a1, a2⟩, fun a3 => ⟨⟨a1, a2⟩, a3⟩⟩, fun hb => ?_, fun a1 a2 a3 => ?_⟩
        · rw [chk_order (by omega) hlt hok hc (ho.2 (hb.elim (fun h => h.elim (fun h => .inl ⟨h0, h⟩) (fun h => .inr (.inl h))) (fun h => .inr (.inr h))))]; exact ⟨rfl, rfl⟩
        have hnb : (ops.take i).any (fun a => badS a ops[i]) = false := by
          rw [Bool.eq_false_iff, ne_eq, ho]
          rintro (⟨_, h⟩ | h | ⟨h, h'⟩)
          · omega
          · omega
          · have := a3 h; omega
        refine CallG.intro (r := .pv (BL (aheadS ((lk (latTo ops i) ops[i].p).getD default) ops[i]))) (fun _ => ahead_ok _ _) (by simp) ?_
        simp
        refine ⟨fun b1 b2 => ?_, fun b1 => ?_⟩
        · rw [chk_open (by omega) hlt hok hc hnb (hopn.2 ⟨b1, b2⟩)]; exact ⟨rfl, rfl⟩
        have hno : (ops.take i).any (fun a => openS a ops[i]) = false := by
          rw [Bool.eq_false_iff, ne_eq, hopn]
          rintro ⟨h1, h2⟩
          rw [b1 h1] at h2; cases h2
        have he := errAt_zero hlt hc hnb hno
        exact ⟨fun b2 => hfin _ (by simp [ovec, useStep, b2, hw]) he, fun b2 => hfin _ (by simp [ovec, useStep, Int.not_le.2 b2, hw]) he⟩
    · simp [ovec, hlt]
      have : i = ops.length := by omega
      subst this
      rw [chk_ok (by omega) hok]; simp

end Go.AX

namespace Go.AX
open Go.Proofs

theorem all_ok (n m : Int) (ops : List Op5) (hl : ops.length ≤ 140737488355328) : APure Tryz.prog 71 [.agg [I64 n, I64 m], ovec ops] (fun r => r = .pv (I64 (allN n m ops))) := by
  refine apure1 hmo Tryz.func71 (by kernel_rfl) rfl rfl (by kernel_rfl) (Nat.le_of_ble_eq_true rfl) ?_
  simp [ovec]
  refine CallK.intro (chk_okC ops hl) (by simp) ?_
  simp
  refine CallG.intro (r := .pv (BL (sizeOk n m))) (fun _ => may_ok n m) (by simp) ?_
  simp
  refine ⟨fun h => ?_, fun h1 h2 h3 => ?_⟩
  · rw [allN, if_neg (fun hh => by have := allOk_iff.1 hh; simp [this.1, this.2.1, this.2.2] at h)]
  have hs := sizeOk_iff.1 h2
  have hp := pendTo_length ops ops.length
  refine CallQ0.intro (places_ok n m) (by simp) ?_
  simp
  refine CallQ0.intro (pairs_ok ops (by omega)) (by simp) ?_
  simp
  refine CallQ0.intro (times_ok n m _) (by simp) ?_
  simp
  refine CallQ0.intro (states_ok n m) (by simp) ?_
  simp
  refine CallQ0.intro (pending_ok ops (by omega)) (by simp) ?_
  simp
  refine CallQ0.intro (moves_ok n m _) (by simp) ?_
  simp
  refine ALoop.intro (S := fun (y : Int × Int) => ⟨[(51, .pv (I64 y.1)), (50, .pv (.agg [I64 (placesN n m), I64 (timesN n m ((pairsTo ops ops.length).length : Nat)), I64 (statesN n m), I64 (movesN n m (w64 (n - ((pendTo ops ops.length).length : Nat))))])), (9, .pv (.fn (.func 90) [] [.ptr 2 0])), (8, .pv (.ptr 2 0))], [[.pv (I64 n), .pv (I64 m)], [.pv (I64 (placesN n m)), .pv (I64 (timesN n m ((pairsTo ops ops.length).length : Nat))), .pv (I64 (statesN n m)), .pv (I64 (movesN n m (w64 (n - ((pendTo ops ops.length).length : Nat)))))], [.pv (I64 y.2)]]⟩)
    (fun y => (y.1 = 0 ∧ y.2 = 0) ∨ (y.1 = 1 ∧ y.2 = w64 (0 + placesN n m)) ∨ (y.1 = 2 ∧ y.2 = w64 (0 + placesN n m + timesN n m ((pairsTo ops ops.length).length : Nat))) ∨ (y.1 = 3 ∧ y.2 = w64 (0 + placesN n m + timesN n m ((pairsTo ops ops.length).length : Nat) + statesN n m)) ∨
      (y.1 = 4 ∧ y.2 = w64 (0 + placesN n m + timesN n m ((pairsTo ops ops.length).length : Nat) + statesN n m + movesN n m (w64 (n - ((pendTo ops ops.length).length : Nat)))))) (fun y => (4 - y.1).toNat) (0, 0) ?_ ?_ ?_
  · exact Weak.to (by simp) (by simp) (by simp) (by simp) (by simp)
  · exact .inl ⟨rfl, rfl⟩
  · rintro ⟨i, s⟩ hy
    have hw1 : w64 1 = 1 := by decide
    have hw2 : w64 2 = 2 := by decide
    have hw3 : w64 3 = 3 := by decide
    have hw4 : w64 4 = 4 := by decide
    rcases hy with ⟨h, h'⟩ | ⟨h, h'⟩ | ⟨h, h'⟩ | ⟨h, h'⟩ | ⟨h, h'⟩
    · dsimp only at h h'; subst h; subst h'
      simp
      refine CallB.intro (add_ok [_, _] _ _) (by simp) ?_
      rintro _ _ ⟨rfl, rfl⟩
      simp
      exact ⟨(1, w64 (placesN n m)), by simp, by simp, Weak.to (by simp [hw1]) (by simp) (by simp) (by simp) (by simp)⟩
    · dsimp only at h h'; subst h; subst h'
      simp
      refine CallB.intro (add_ok [_, _] _ _) (by simp) ?_
      rintro _ _ ⟨rfl, rfl⟩
      simp
      exact ⟨(2, w64 (placesN n m + timesN n m ((pairsTo ops ops.length).length : Nat))), by simp, by simp, Weak.to (by simp [hw2]) (by simp) (by simp) (by simp) (by simp)⟩
    · dsimp only at h h'; subst h; subst h'
      simp
      refine CallB.intro (add_ok [_, _] _ _) (by simp) ?_
      rintro _ _ ⟨rfl, rfl⟩
      simp
      exact ⟨(3, w64 (placesN n m + timesN n m ((pairsTo ops ops.length).length : Nat) + statesN n m)), by simp, by simp, Weak.to (by simp [hw3]) (by simp) (by simp) (by simp) (by simp)⟩
    · dsimp only at h h'; subst h; subst h'
      simp
      refine CallB.intro (add_ok [_, _] _ _) (by simp) ?_
      rintro _ _ ⟨rfl, rfl⟩
      simp
      exact ⟨(4, w64 (placesN n m + timesN n m ((pairsTo ops ops.length).length : Nat) + statesN n m + movesN n m (w64 (n - ((pendTo ops ops.length).length : Nat))))), by simp, by simp, Weak.to (by simp [hw4]) (by simp) (by simp) (by simp) (by simp)⟩
    · dsimp only at h h'; subst h; subst h'
      simp
      rw [allN, if_pos (allOk_iff.2 ⟨h1, h2, h3⟩)]

theorem fits_ok (n m : Int) (ops : List Op5) (hl : ops.length ≤ 140737488355328) : APure Tryz.prog 39 [.agg [I64 n, I64 m], ovec ops] (fun r => r = .pv (I64 (fitsN n m ops))) := by
  refine apure1 hmo Tryz.func39 (by kernel_rfl) rfl rfl (by kernel_rfl) (Nat.le_of_ble_eq_true rfl) ?_
  simp [ovec]
  refine CallK.intro (all_ok n m ops hl) (by simp) ?_
  simp
  refine ⟨fun h => by simp [fitsN, h], fun h => ?_⟩
  have hs : sizeOk n m = true := by
    cases hh : sizeOk n m with
    | true => rfl
    | false => exact absurd (by rw [allN, if_neg (fun hk => by have := (allOk_iff.1 hk).2.1; rw [hh] at this; cases this)]) h
  refine CallG.intro (r := .pv (I64 (varsN n m))) (fun _ => by have := vars_ok n m; rw [if_pos hs] at this; exact this) (by simp) ?_
  simp
  exact ⟨fun h2 => by rw [fitsN, if_neg h, if_pos (by omega)], fun h2 h3 => by rw [fitsN, if_neg h, if_neg (by omega)]⟩

end Go.AX

namespace Go.AX
open Go.Proofs

def lAw : List Op5 := [⟨1, 0, 0, 1, 0⟩, ⟨1, 0, 2, 3, 0⟩, ⟨2, 0, 4, -1, -1⟩]
def lAw2 : List Op5 := [⟨1, 0, 0, 1, 0⟩, ⟨1, 0, 2, 3, 0⟩]
theorem eqv {P : Program} {f : FuncId} {xs : List PV} {n m : Int} (h : APure P f xs (fun r => r = .pv (I64 n))) (e : n = m) : APure P f xs (fun r => r = .pv (I64 m)) := by subst e; exact h

end Go.AX

namespace Go.AX
open Go.Proofs

theorem chk_zero {ops : List Op5} (h : (chk ops).2 = 0) : ops.length ≤ 5000 ∧ okTo ops ops.length := by
  by_cases h1 : ops.length > 5000
  · rw [chk_big h1] at h; cases h
  refine ⟨by omega, ?_⟩
  unfold chk at h
  rw [if_neg h1] at h
  split at h
  · rename_i i hi
    rw [List.find?_range_eq_some] at hi
    exact absurd h (by simpa using hi.1)
  · rename_i hn
    rw [List.find?_range_eq_none] at hn
    intro j hj
    have := hn j hj
    simpa using this

theorem getD_take (ops : List Op5) {k j : Nat} (h : j < k) : (ops.take k).getD j default = ops.getD j default := by
  simp [List.getD_eq_getElem?_getD, List.getElem?_take, h]
theorem errAt_take (ops : List Op5) {k j : Nat} (h : j < k) : errAt (ops.take k) j = errAt ops j := by
  unfold errAt
  rw [getD_take ops h, List.take_take, Nat.min_eq_left (by omega)]
theorem chk_take {ops : List Op5} (h : (chk ops).2 = 0) (k : Nat) : (chk (ops.take k)).2 = 0 := by
  obtain ⟨h1, h2⟩ := chk_zero h
  rw [chk_ok (by simp; omega) (fun j hj => by
    simp at hj
    rw [errAt_take ops (by omega)]; exact h2 j (by omega))]

theorem ahead_lt {ops : List Op5} (ho : okTo ops ops.length) {i j : Nat} (hi : i < ops.length) (hj : j < ops.length) (h : aheadS ops[i] ops[j] = true) : i < j := by
  obtain ⟨h1, h2⟩ := ahead_iff.1 h
  have a1 := alone_facts (okTo_fine ho (Nat.le_refl _) hi).al
  rcases Nat.lt_trichotomy i j with hlt | heq | hgt
  · exact hlt
  · subst heq; omega
  · have := starts_up (Nat.le_refl _) ho hi hgt; omega

theorem row_le {ops : List Op5} (ho : okTo ops ops.length) {i : Nat} (hi : i < ops.length) : ∀ j, j ≤ ops.length → (pairsRow ops i j).length ≤ j - 1 - i
  | 0, _ => by simp [pairsRow]
  | j + 1, hj => by
    have ih := row_le ho hi j (by omega)
    rw [pairsRow_succ ops i hi (show j < ops.length by omega)]
    split
    · rename_i h
      have := ahead_lt ho hi (show j < ops.length by omega) h
      simp; omega
    · omega

theorem pairs_le {ops : List Op5} (ho : okTo ops ops.length) : ∀ k, k ≤ ops.length → 2 * (pairsTo ops k).length ≤ k * (2 * ops.length - 1 - k)
  | 0, _ => by simp [pairsTo]
  | k + 1, hk => by
    have ih := pairs_le ho k (by omega)
    have hr := row_le ho (show k < ops.length by omega) ops.length (Nat.le_refl _)
    rw [pairsTo_succ, List.length_append]
    obtain ⟨d, hd⟩ : ∃ d, ops.length = k + 1 + d := ⟨ops.length - (k + 1), by omega⟩
    rw [hd] at ih hr ⊢
    have e1 : 2 * (k + 1 + d) - 1 - k = k + 1 + 2 * d := by omega
    have e2 : 2 * (k + 1 + d) - 1 - (k + 1) = k + 2 * d := by omega
    have e3 : k + 1 + d - 1 - k = d := by omega
    rw [e1] at ih; rw [e2]; rw [e3] at hr
    have : (k + 1) * (k + 2 * d) = k * (k + 1 + 2 * d) + 2 * d := by grind
    omega

theorem row_take (ops : List Op5) {k i j : Nat} (hi : i < k) (hj : j ≤ k) : pairsRow (ops.take k) i j = pairsRow ops i j := by
  unfold pairsRow
  congr 1
  apply List.filter_congr
  intro b hb
  have : b < j := by simpa using hb
  rw [getD_take ops hi, getD_take ops (by omega)]

theorem row_mono (ops : List Op5) (i : Nat) {j k : Nat} (h : j ≤ k) : (pairsRow ops i j).length ≤ (pairsRow ops i k).length := by
  unfold pairsRow
  rw [List.length_map, List.length_map]
  exact ((List.range_sublist.2 h).filter _).length_le

theorem pairs_take (ops : List Op5) {k : Nat} (hk : k ≤ ops.length) : (pairsTo (ops.take k) (ops.take k).length).length ≤ (pairsTo ops ops.length).length := by
  have hl : (ops.take k).length = k := by simp; omega
  rw [hl]
  have key : ∀ i, i ≤ k → (pairsTo (ops.take k) i).length ≤ (pairsTo ops i).length := by
    intro i
    induction i with
    | zero => intro _; simp [pairsTo]
    | succ i ih =>
      intro hi
      rw [pairsTo_succ, pairsTo_succ, List.length_append, List.length_append, hl, row_take ops (by omega) (Nat.le_refl _)]
      have := ih (by omega)
      have := row_mono ops i hk
      omega
  have mono : ∀ i j, i ≤ j → (pairsTo ops i).length ≤ (pairsTo ops j).length := by
    intro i j h
    induction j with
    | zero => have : i = 0 := by omega
              subst this; exact Nat.le_refl _
    | succ j ih =>
      by_cases e : i = j + 1
      · subst e; exact Nat.le_refl _
      · rw [pairsTo_succ, List.length_append]; have := ih (by omega); omega
  exact Nat.le_trans (key k (Nat.le_refl _)) (mono k _ hk)

theorem pend_take (ops : List Op5) {k : Nat} (hk : k < ops.length) (hl : k + 1 = ops.length) : ((pendTo (ops.take k) (ops.take k).length).length = (pendTo ops ops.length).length ∧ (pendTo ops ops.length).length ≤ k) ∨ (pendTo (ops.take k) (ops.take k).length).length + 1 = (pendTo ops ops.length).length := by
  have hlen : (ops.take k).length = k := by simp; omega
  have h1 : pendTo (ops.take k) k = pendTo ops k := by
    unfold pendTo
    congr 1
    apply List.filter_congr
    intro b hb
    rw [getD_take ops (by simpa using hb)]
  rw [hlen, h1, ← hl, pendTo_succ ops hk]
  have := pendTo_length ops k
  split
  · right; simp
  · left; exact ⟨rfl, this⟩

/-! ### How many clauses -/
def sumN (n m p e : Int) : Int := (n + n * n * (n - 1)) + p * chooseS n + (1 + (n + 1) * (1 + chooseS m)) + (e * (1 + n * m) + (n - e) * (2 * n * m))

theorem choose_facts {a : Int} (h0 : 0 ≤ a) (h1 : a ≤ 64) : 0 ≤ chooseS a ∧ chooseS a ≤ 2016 ∧ (1 ≤ a → chooseS (a - 1) ≤ chooseS a) := by
  obtain ⟨k, rfl⟩ := Int.eq_ofNat_of_zero_le h0
  have key : ∀ j : Fin 65, 0 ≤ chooseS (j.val : Int) ∧ chooseS (j.val : Int) ≤ 2016 ∧ ((1 : Int) ≤ (j.val : Int) → chooseS ((j.val : Int) - 1) ≤ chooseS (j.val : Int)) := by decide +kernel
  exact key ⟨k, by omega⟩
theorem place_facts {a : Int} (h0 : 0 ≤ a) (h1 : a ≤ 64) : 0 ≤ a + a * a * (a - 1) ∧ a + a * a * (a - 1) ≤ 258112 ∧ (1 ≤ a → (a - 1) + (a - 1) * (a - 1) * (a - 1 - 1) ≤ a + a * a * (a - 1)) := by
  obtain ⟨k, rfl⟩ := Int.eq_ofNat_of_zero_le h0
  have key : ∀ j : Fin 65, 0 ≤ (j.val : Int) + (j.val : Int) * (j.val : Int) * ((j.val : Int) - 1) ∧ (j.val : Int) + (j.val : Int) * (j.val : Int) * ((j.val : Int) - 1) ≤ 258112 ∧ ((1 : Int) ≤ (j.val : Int) → ((j.val : Int) - 1) + ((j.val : Int) - 1) * ((j.val : Int) - 1) * ((j.val : Int) - 1 - 1) ≤ (j.val : Int) + (j.val : Int) * (j.val : Int) * ((j.val : Int) - 1)) := by decide +kernel
  exact key ⟨k, by omega⟩

theorem mulle {a b c d : Int} (h1 : a ≤ c) (h2 : b ≤ d) (h3 : 0 ≤ b) (h4 : 0 ≤ c) : a * b ≤ c * d := Int.mul_le_mul h1 h2 h3 h4

theorem sum_bound {n m p e : Int} (hn : 0 ≤ n ∧ n ≤ 64) (hm : 1 ≤ m ∧ m ≤ 32) (hp : 0 ≤ p ∧ p ≤ 2016) (he : 0 ≤ e ∧ e ≤ n) : 1 ≤ sumN n m p e ∧ sumN n m p e ≤ 100000000 := by
  have c1 := choose_facts hn.1 hn.2
  have c2 := choose_facts (show 0 ≤ m by omega) (show m ≤ 64 by omega)
  have p1 := place_facts hn.1 hn.2
  have t0 : 0 ≤ p * chooseS n := Int.mul_nonneg hp.1 c1.1
  have t1 : p * chooseS n ≤ 2016 * 2016 := mulle hp.2 c1.2.1 c1.1 (by omega)
  have s0 : 0 ≤ (n + 1) * (1 + chooseS m) := Int.mul_nonneg (by omega) (by omega)
  have s1 : (n + 1) * (1 + chooseS m) ≤ 65 * 2017 := mulle (by omega) (by omega) (by omega) (by omega)
  have nm0 : 0 ≤ n * m := Int.mul_nonneg hn.1 (by omega)
  have nm1 : n * m ≤ 64 * 32 := mulle hn.2 hm.2 (by omega) (by omega)
  have nm2 : 2 * n * m = 2 * (n * m) := Int.mul_assoc 2 n m
  have m0 : 0 ≤ e * (1 + n * m) := Int.mul_nonneg he.1 (by omega)
  have m1 : e * (1 + n * m) ≤ 64 * 2049 := mulle (by omega) (by omega) (by omega) (by omega)
  have m2 : 0 ≤ (n - e) * (2 * n * m) := Int.mul_nonneg (by omega) (by omega)
  have m3 : (n - e) * (2 * n * m) ≤ 64 * 4096 := mulle (by omega) (by omega) (by omega) (by omega)
  unfold sumN
  omega

theorem sum_less {n m p e p' e' : Int} (hn : 1 ≤ n ∧ n ≤ 64) (hm : 1 ≤ m ∧ m ≤ 32) (hp : 0 ≤ p' ∧ p' ≤ p) (he : 0 ≤ e' ∧ e' ≤ e ∧ n - 1 - e' ≤ n - e ∧ e' ≤ n - 1) : sumN (n - 1) m p' e' ≤ sumN n m p e := by
  have c1 := choose_facts (show 0 ≤ n by omega) hn.2
  have c0 := choose_facts (show 0 ≤ n - 1 by omega) (show n - 1 ≤ 64 by omega)
  have c2 := choose_facts (show 0 ≤ m by omega) (show m ≤ 64 by omega)
  have p1 := place_facts (show 0 ≤ n by omega) hn.2
  have t1 : p' * chooseS (n - 1) ≤ p * chooseS n := mulle hp.2 (c1.2.2 hn.1) c0.1 (by omega)
  have s1 : (n - 1 + 1) * (1 + chooseS m) ≤ (n + 1) * (1 + chooseS m) := mulle (by omega) (Int.le_refl _) (by omega) (by omega)
  have nm0 : 0 ≤ (n - 1) * m := Int.mul_nonneg (by omega) (by omega)
  have nm1 : (n - 1) * m ≤ n * m := mulle (by omega) (Int.le_refl _) (by omega) (by omega)
  have nm2 : 2 * n * m = 2 * (n * m) := Int.mul_assoc 2 n m
  have nm3 : 2 * (n - 1) * m = 2 * ((n - 1) * m) := Int.mul_assoc 2 (n - 1) m
  have m1 : e' * (1 + (n - 1) * m) ≤ e * (1 + n * m) := mulle he.2.1 (by omega) (by omega) (by omega)
  have m2 : (n - 1 - e') * (2 * (n - 1) * m) ≤ (n - e) * (2 * n * m) := mulle he.2.2.1 (by omega) (by omega) (by omega)
  have := p1.2.2 hn.1
  unfold sumN
  omega

theorem sum_less_state {n m p e : Int} (hn : 0 ≤ n ∧ n ≤ 64) (hm : 2 ≤ m ∧ m ≤ 32) (he : 0 ≤ e ∧ e ≤ n) : sumN n (m - 1) p e ≤ sumN n m p e := by
  have c2 := choose_facts (show 0 ≤ m by omega) (show m ≤ 64 by omega)
  have c0 := choose_facts (show 0 ≤ m - 1 by omega) (show m - 1 ≤ 64 by omega)
  have hc := c2.2.2 (by omega)
  have s1 : (n + 1) * (1 + chooseS (m - 1)) ≤ (n + 1) * (1 + chooseS m) := mulle (Int.le_refl _) (by omega) (by omega) (by omega)
  have nm0 : 0 ≤ n * (m - 1) := Int.mul_nonneg (by omega) (by omega)
  have nm1 : n * (m - 1) ≤ n * m := mulle (Int.le_refl _) (by omega) (by omega) (by omega)
  have nm2 : 2 * n * m = 2 * (n * m) := Int.mul_assoc 2 n m
  have nm3 : 2 * n * (m - 1) = 2 * (n * (m - 1)) := Int.mul_assoc 2 n (m - 1)
  have m1 : e * (1 + n * (m - 1)) ≤ e * (1 + n * m) := mulle (Int.le_refl _) (by omega) (by omega) (by omega)
  have m2 : (n - e) * (2 * n * (m - 1)) ≤ (n - e) * (2 * n * m) := mulle (Int.le_refl _) (by omega) (by omega) (by omega)
  unfold sumN
  omega

theorem w64_add4 (a b c d : Int) : w64 (w64 a + w64 b + w64 c + w64 d) = w64 (a + b + c + d) := by simp only [w64_eq]; omega

/-- The whole number, where it is one. -/
theorem allN_eq {n m : Int} {ops : List Op5} (h : allOk n m ops = true) : allN n m ops = sumN n m (pairsTo ops ops.length).length (n - (pendTo ops ops.length).length) ∧ (pairsTo ops ops.length).length ≤ 2016 := by
  obtain ⟨h1, h2, h3⟩ := allOk_iff.1 h
  have hs := sizeOk_iff.1 h2
  obtain ⟨_, ho⟩ := chk_zero h1
  have hp := pairs_le ho ops.length (Nat.le_refl _)
  have hpd := pendTo_length ops ops.length
  have hp2 : (pairsTo ops ops.length).length ≤ 2016 := by
    have : ops.length * (2 * ops.length - 1 - ops.length) ≤ 64 * 63 := Nat.mul_le_mul (by omega) (by omega)
    omega
  refine ⟨?_, hp2⟩
  have hw : w64 (n - ((pendTo ops ops.length).length : Nat)) = n - ((pendTo ops ops.length).length : Nat) := w64_id (by omega) (by omega)
  have ht : timesOk n m ((pairsTo ops ops.length).length : Nat) = true := timesOk_iff.2 ⟨h2, by omega, by omega⟩
  have hmv : movesOk n m (n - ((pendTo ops ops.length).length : Nat)) = true := movesOk_iff.2 ⟨h2, by omega, by omega⟩
  rw [allN, if_pos h, placesN, if_pos h2, timesN, if_pos ht, statesN, if_pos h2, hw, movesN, if_pos hmv]
  rw [w64_add4]
  have hb := sum_bound (n := n) (m := m) (p := ((pairsTo ops ops.length).length : Nat)) (e := n - ((pendTo ops ops.length).length : Nat)) ⟨by omega, by omega⟩ ⟨by omega, by omega⟩ ⟨by omega, by omega⟩ ⟨by omega, by omega⟩
  rw [show n + n * n * (n - 1) + ((pairsTo ops ops.length).length : Nat) * chooseS n + (1 + (n + 1) * (1 + chooseS m)) + ((n - ((pendTo ops ops.length).length : Nat)) * (1 + n * m) + (n - (n - ((pendTo ops ops.length).length : Nat))) * (2 * n * m)) = sumN n m ((pairsTo ops ops.length).length : Nat) (n - ((pendTo ops ops.length).length : Nat)) from rfl]
  exact w64_id (by omega) (by omega)

theorem fits_iff {n m : Int} {ops : List Op5} : fitsN n m ops = 0 ↔ allN n m ops ≠ 0 ∧ allN n m ops ≤ 500000 ∧ varsN n m ≤ 900 := by
  unfold fitsN
  split
  · rename_i h; simp [h]
  · rename_i h
    split
    · rename_i h2; constructor
      · intro h3; cases h3
      · rintro ⟨_, h4, h5⟩; omega
    · rename_i h2; exact ⟨fun _ => ⟨h, by omega, by omega⟩, fun _ => rfl⟩

theorem all_ok_of {n m : Int} {ops : List Op5} (h : allN n m ops ≠ 0) : allOk n m ops = true := by
  cases hh : allOk n m ops with
  | true => rfl
  | false => exact absurd (by rw [allN, hh]; rfl) h

theorem vars_eq {n m : Int} (hn : 0 ≤ n ∧ n ≤ 64) (hm : 1 ≤ m ∧ m ≤ 32) : varsN n m = n * n + n + (n + 1) * m := by
  have h1 : 0 ≤ n * n := Int.mul_nonneg hn.1 hn.1
  have h2 : n * n ≤ 64 * 64 := mulle hn.2 hn.2 hn.1 (by omega)
  have h3 : 0 ≤ (n + 1) * m := Int.mul_nonneg (by omega) (by omega)
  have h4 : (n + 1) * m ≤ 65 * 32 := mulle (by omega) hm.2 (by omega) (by omega)
  exact w64_id (by omega) (by omega)

theorem fits_less {n m : Int} {ops : List Op5} (h : fitsN n m ops = 0) (hn : 0 < n) : fitsN (n - 1) m (ops.take (ops.length - 1)) = 0 := by
  obtain ⟨h1, h2, h3⟩ := fits_iff.1 h
  have hok := all_ok_of h1
  obtain ⟨k1, k2, k3⟩ := allOk_iff.1 hok
  have hs := sizeOk_iff.1 k2
  have hl : (ops.take (ops.length - 1)).length = ops.length - 1 := by simp
  have hok' : allOk (n - 1) m (ops.take (ops.length - 1)) = true := allOk_iff.2 ⟨chk_take k1 _, sizeOk_iff.2 ⟨by omega, by omega, by omega, by omega⟩, by rw [hl]; omega⟩
  obtain ⟨e1, b1⟩ := allN_eq hok
  obtain ⟨e2, b2⟩ := allN_eq hok'
  have hpl := pendTo_length (ops.take (ops.length - 1)) (ops.take (ops.length - 1)).length
  rw [hl] at hpl
  have hpt := pairs_take ops (show ops.length - 1 ≤ ops.length by omega)
  have hpe := pend_take ops (show ops.length - 1 < ops.length by omega) (by omega)
  have hpo := pendTo_length ops ops.length
  have hless := sum_less (n := n) (m := m) (p := ((pairsTo ops ops.length).length : Nat)) (e := n - ((pendTo ops ops.length).length : Nat)) (p' := ((pairsTo (ops.take (ops.length - 1)) (ops.take (ops.length - 1)).length).length : Nat)) (e' := n - 1 - ((pendTo (ops.take (ops.length - 1)) (ops.take (ops.length - 1)).length).length : Nat))
    ⟨by omega, by omega⟩ ⟨by omega, by omega⟩ ⟨by omega, by omega⟩ ⟨by omega, by omega, by omega, by omega⟩
  have hb := sum_bound (n := n - 1) (m := m) (p := ((pairsTo (ops.take (ops.length - 1)) (ops.take (ops.length - 1)).length).length : Nat)) (e := n - 1 - ((pendTo (ops.take (ops.length - 1)) (ops.take (ops.length - 1)).length).length : Nat)) ⟨by omega, by omega⟩ ⟨by omega, by omega⟩ ⟨by omega, by omega⟩ ⟨by omega, by omega⟩
  refine fits_iff.2 ⟨by rw [e2]; omega, by rw [e2]; omega, ?_⟩
  rw [vars_eq ⟨by omega, by omega⟩ ⟨by omega, by omega⟩] at h3 ⊢
  have v1 : (n - 1) * (n - 1) ≤ n * n := mulle (by omega) (by omega) (by omega) (by omega)
  have v2 : (n - 1 + 1) * m ≤ (n + 1) * m := mulle (by omega) (Int.le_refl _) (by omega) (by omega)
  omega

theorem fits_less_state {n m : Int} {ops : List Op5} (h : fitsN n m ops = 0) (hm : 1 < m) : fitsN n (m - 1) ops = 0 := by
  obtain ⟨h1, h2, h3⟩ := fits_iff.1 h
  have hok := all_ok_of h1
  obtain ⟨k1, k2, k3⟩ := allOk_iff.1 hok
  have hs := sizeOk_iff.1 k2
  have hok' : allOk n (m - 1) ops = true := allOk_iff.2 ⟨k1, sizeOk_iff.2 ⟨by omega, by omega, by omega, by omega⟩, k3⟩
  obtain ⟨e1, b1⟩ := allN_eq hok
  obtain ⟨e2, b2⟩ := allN_eq hok'
  have hpo := pendTo_length ops ops.length
  have hless := sum_less_state (n := n) (m := m) (p := ((pairsTo ops ops.length).length : Nat)) (e := n - ((pendTo ops ops.length).length : Nat)) ⟨by omega, by omega⟩ ⟨by omega, by omega⟩ ⟨by omega, by omega⟩
  have hb := sum_bound (n := n) (m := m - 1) (p := ((pairsTo ops ops.length).length : Nat)) (e := n - ((pendTo ops ops.length).length : Nat)) ⟨by omega, by omega⟩ ⟨by omega, by omega⟩ ⟨by omega, by omega⟩ ⟨by omega, by omega⟩
  refine fits_iff.2 ⟨by rw [e2]; omega, by rw [e2]; omega, ?_⟩
  rw [vars_eq ⟨by omega, by omega⟩ ⟨by omega, by omega⟩] at h3 ⊢
  have v2 : (n + 1) * (m - 1) ≤ (n + 1) * m := mulle (Int.le_refl _) (by omega) (by omega) (by omega)
  omega

end Go.AX
