/-
  Contracts: events.
  Contracts: the operations of events.
  Contracts: the same pairs, the same operations; what is free.
  Contracts: histories (kinds, what is a process', the same).
  Contracts: histories (whether events are one; what is open; what is done).
  Contracts: histories (a process' events; what is done).
-/
import Derived.Test.YtpalffhlfegeeaaGreatDoorS9AxCntL
import Derived.Test.YtpalffhlfegeeaaGreatDoorS9AxMovS
namespace Go.AX
open Go.Proofs
set_option linter.unusedSimpArgs false

structure Ev where
  w : Int
  p : Int
  n : Int
instance : Inhabited Ev := ⟨⟨0, 0, 0⟩⟩
def evR (x : Ev) : List PV := [I64 x.w, I64 x.p, I64 x.n]
def evV (l : List Ev) : PV := .seq false 3 (l.map evR)
@[simp] theorem belowR_ev (k : Nat) (l : List Ev) : belowR k (l.map evR) := by
  induction l with
  | nil => trivial
  | cons x xs ih => exact ⟨⟨trivial, trivial, trivial, trivial⟩, ih⟩
def evAlone (x : Ev) : Int := if x.w ≠ 1 ∧ x.w ≠ 2 then 8 else if x.p < 1 ∨ 1000 < x.p then 2 else if x.w = 1 ∧ (x.n < 0 ∨ 64 ≤ x.n) then 31 else if x.w = 2 ∧ (x.n < 0 ∨ 1000000 < x.n) then 7 else 0

def opTo (l : List Ev) : Nat → List (Int × Int)
  | 0 => []
  | i + 1 => pt (opTo l i) (l.getD i default).p (l.getD i default).w
def evErr (l : List Ev) (i : Nat) : Int :=
  if evAlone (l.getD i default) ≠ 0 then evAlone (l.getD i default) else if ((lk (opTo l i) (l.getD i default).p).getD 0 = 1 ↔ (l.getD i default).w = 1) then 33 else 0
def evGo (l : List Ev) : Nat → Nat → Int × Int
  | 0, i => (i, 0)
  | k + 1, i => if evErr l i ≠ 0 then (i, evErr l i) else evGo l k (i + 1)
def evChk (l : List Ev) : Int × Int := if 10000 < l.length then (0, 3) else evGo l l.length 0

end Go.AX

namespace Go.AX
open Go.Proofs
set_option linter.unusedSimpArgs false

@[simp] theorem frzR_ev (r : Nat → Nat → PV) (l : List Ev) : frzR r (l.map evR) = l.map evR := by
  rw [frzR_map, List.map_map]; congr 1
def ofOpen (l : List Ev) : Nat → List Op5 × List (Int × Int)
  | 0 => ([], [])
  | i + 1 =>
    let x := l.getD i default
    let out := (ofOpen l i).1
    let op := (ofOpen l i).2
    if x.w = 1 then (out ++ [⟨x.p, x.n, (i : Int), -1, -1⟩], pt op x.p (out.length : Int))
    else (out.set ((lk op x.p).getD 0).toNat ⟨(out.getD ((lk op x.p).getD 0).toNat default).p, (out.getD ((lk op x.p).getD 0).toNat default).k, (out.getD ((lk op x.p).getD 0).toNat default).s, (i : Int), x.n⟩, op)
theorem evGo_okI {l : List Ev} : ∀ (k i : Nat), (evGo l k i).2 = 0 → ∀ j, i ≤ j → j < i + k → evErr l j = 0
  | 0, i, _, j, h1, h2 => by omega
  | k + 1, i, h, j, h1, h2 => by
    rw [evGo] at h
    by_cases c : evErr l i = 0
    · rw [if_neg (by simpa using c)] at h
      by_cases e : j = i
      · subst e; exact c
      · exact evGo_okI k (i + 1) h j (by omega) (by omega)
    · rw [if_pos c] at h; exact absurd h c
theorem of_inv {l : List Ev} : ∀ i, (∀ j, j < i → evErr l j = 0) → ∀ p, lk (opTo l i) p = some 1 → ∃ j : Nat, j < (ofOpen l i).1.length ∧ lk (ofOpen l i).2 p = some (j : Int)
  | 0, _, p, h => by simp [opTo, lk] at h
  | i + 1, he, p, h => by
    have ih := of_inv i (fun j hj => he j (by omega)) p
    rw [opTo, lk_pt] at h
    rw [ofOpen]
    by_cases c : (l.getD i default).w = 1
    · rw [if_pos c]
      dsimp only
      rw [lk_pt, List.length_append]
      by_cases e : (l.getD i default).p = p
      · rw [if_pos e]; exact ⟨_, by simp, rfl⟩
      · rw [if_neg e] at h ⊢
        obtain ⟨j, h1, h2⟩ := ih h
        exact ⟨j, by omega, h2⟩
    · rw [if_neg c]
      dsimp only
      rw [List.length_set]
      by_cases e : (l.getD i default).p = p
      · rw [if_pos e] at h
        injection h with h
        exact absurd h c
      · rw [if_neg e] at h
        exact ih h
theorem of_len {l : List Ev} : ∀ i, (ofOpen l i).1.length ≤ i
  | 0 => Nat.le_refl _
  | i + 1 => by
    have := of_len (l := l) i
    rw [ofOpen]
    split
    · simp; omega
    · simp; omega
def ofV (l : List Ev) : PV := if (evChk l).2 = 0 then .seq true 5 ((ofOpen l l.length).1.map orow) else .lit (.slice none 0 0)
def ofS (l : List Ev) : List Op5 × Int := if (evChk l).2 = 0 then ((ofOpen l l.length).1, 0) else ([], (evChk l).2)

end Go.AX

namespace Go.AX
open Go.Proofs
set_option linter.unusedSimpArgs false

theorem irow_snocO (l : List Int) (x : Int) : irow (l ++ [x]) = irow l ++ [[I64 x]] := by simp [irow]
theorem frz_done (done : List Bool) (t : List (List SV)) (n : Nat) : frzP ([SV.pv (.seq false 1 (brow done))] :: t) (n + 1) 0 0 = .iptr 1 [[.seq false 1 (brow done)]] 0 0 := by
  simp [frzP, frzC]
def isD (done : List Bool) (i : Nat) : Bool := decide (i < done.length) && done.getD i false
def freeS (ops : List Op5) (done : List Bool) (i k : Nat) : Bool := !isD done i && (List.range k).all fun j => isD done j || !aheadS (ops.getD j default) (ops.getD i default)
theorem freeS_succ {ops : List Op5} {done : List Bool} {i k : Nat} (hi : i < ops.length) (hk : k < ops.length) : freeS ops done i (k + 1) = (freeS ops done i k && (isD done k || !aheadS ops[k] ops[i])) := by
  simp [freeS, List.range_succ, List.all_append, hi, hk, Bool.and_assoc]
def freeTo (ops : List Op5) (done : List Bool) (i : Nat) : List Int := ((List.range i).filter fun i => freeS ops done i ops.length).map fun i : Nat => (i : Int)
theorem freeTo_succ (ops : List Op5) (done : List Bool) (i : Nat) : freeTo ops done (i + 1) = if freeS ops done i ops.length = true then freeTo ops done i ++ [(i : Int)] else freeTo ops done i := by
  unfold freeTo
  rw [List.range_succ, List.filter_append, List.map_append]
  simp only [List.filter_cons, List.filter_nil]
  split <;> simp_all
theorem freeTo_len (ops : List Op5) (done : List Bool) (i : Nat) : (freeTo ops done i).length ≤ i := by
  unfold freeTo
  rw [List.length_map]
  exact Nat.le_trans (List.length_filter_le _ _) (by simp)

end Go.AX

namespace Go.AX
open Go.Proofs
set_option linter.unusedSimpArgs false

theorem ev_ext : ∀ x y : Ev, x.w = y.w → x.p = y.p → x.n = y.n → x = y := fun x y h1 h2 h3 => by
  cases x; cases y; simp at h1 h2 h3; subst h1 h2 h3; rfl
instance : DecidableEq Ev := fun a b => if h : a.w = b.w ∧ a.p = b.p ∧ a.n = b.n then .isTrue (ev_ext a b h.1 h.2.1 h.2.2) else .isFalse fun e => h (by subst e; exact ⟨rfl, rfl, rfl⟩)

/-- The place of a process' last event among the first i. -/
def lastTo (l : List Ev) (p : Int) : Nat → Int
  | 0 => -1
  | i + 1 => if (l.getD i default).p = p then (i : Int) else lastTo l p i
theorem lastTo_lt (l : List Ev) (p : Int) : ∀ i : Nat, -1 ≤ lastTo l p i ∧ lastTo l p i < (i : Int)
  | 0 => by simp [lastTo]
  | i + 1 => by
    have := lastTo_lt l p i
    rw [lastTo]
    split <;> omega
def opnS (l : List Ev) (p : Int) (i : Nat) : Bool := decide (0 ≤ lastTo l p i) && decide ((l.getD (lastTo l p i).toNat default).w = 1)
end Go.AX

namespace Go.AX
open Go.Proofs
set_option linter.unusedSimpArgs false

@[simp] theorem frzR_ev_take (r : Nat → Nat → PV) (l : List Ev) (i : Nat) : frzR r ((l.map evR).take i) = (l.map evR).take i := by
  rw [← List.map_take, frzR_ev]
theorem lastTo_take (l : List Ev) (p : Int) (n : Nat) : ∀ i, i ≤ n → lastTo (l.take n) p i = lastTo l p i
  | 0, _ => rfl
  | i + 1, h => by
    rw [lastTo, lastTo, lastTo_take l p n i (by omega)]
    have : (l.take n).getD i default = l.getD i default := by
      simp only [List.getD_eq_getElem?_getD, List.getElem?_take]
      rw [if_pos (by omega)]
    rw [this]
theorem opnS_take (l : List Ev) (p : Int) (n : Nat) : opnS (l.take n) p n = opnS l p n := by
  unfold opnS
  rw [lastTo_take l p n n (Nat.le_refl _)]
  have := lastTo_lt l p n
  by_cases c : 0 ≤ lastTo l p n
  · have : (l.take n).getD (lastTo l p n).toNat default = l.getD (lastTo l p n).toNat default := by
      simp only [List.getD_eq_getElem?_getD, List.getElem?_take]
      rw [if_pos (by omega)]
    rw [this]
  · simp [c]
/-- What is told of a process so far is its last event's kind. -/
theorem lk_opTo (l : List Ev) (p : Int) : ∀ i, lk (opTo l i) p = if 0 ≤ lastTo l p i then some (l.getD (lastTo l p i).toNat default).w else none
  | 0 => by simp [opTo, lk, lastTo]
  | i + 1 => by
    rw [opTo, lk_pt, lastTo]
    by_cases c : (l.getD i default).p = p
    · simp only [if_pos c]
      rw [if_pos (by omega)]
      simp
    · rw [if_neg c, if_neg c, lk_opTo l p i]
theorem opn_iff (l : List Ev) (p : Int) (i : Nat) : ((lk (opTo l i) p).getD 0 = 1) ↔ opnS l p i = true := by
  rw [lk_opTo]
  unfold opnS
  by_cases c : 0 ≤ lastTo l p i
  · simp [c]
  · simp [c]

def kindsTo (l : List Ev) : Nat → Int
  | 0 => 0
  | i + 1 => if (l.getD i default).w = 1 then max (kindsTo l i) (min (l.getD i default).n 63 + 1) else kindsTo l i
theorem kindsTo_le (l : List Ev) : ∀ i, 0 ≤ kindsTo l i ∧ kindsTo l i ≤ 64
  | 0 => by simp [kindsTo]
  | i + 1 => by
    have := kindsTo_le l i
    rw [kindsTo]
    split <;> omega
end Go.AX

namespace Go.AX
open Go.Proofs
set_option linter.unusedSimpArgs false

def laTo (l : List Ev) : Nat → List (Int × Int)
  | 0 => []
  | i + 1 => pt (laTo l i) (l.getD i default).p (i : Int)
theorem lk_laTo (l : List Ev) (p : Int) : ∀ i, lk (laTo l i) p = if 0 ≤ lastTo l p i then some (lastTo l p i) else none
  | 0 => by simp [laTo, lk, lastTo]
  | i + 1 => by
    rw [laTo, lk_pt, lastTo]
    by_cases c : (l.getD i default).p = p
    · simp only [if_pos c]
      rw [if_pos (by omega)]
    · rw [if_neg c, if_neg c, lk_laTo l p i]
theorem lastTo_ge (l : List Ev) (p : Int) : ∀ (n i : Nat), i < n → (l.getD i default).p = p → (i : Int) ≤ lastTo l p n
  | 0, i, h, _ => by omega
  | n + 1, i, h, hp => by
    rw [lastTo]
    by_cases e : i = n
    · subst e; rw [if_pos hp]; exact Int.le_refl _
    · have := lastTo_ge l p n i (by omega) hp
      split <;> omega
@[simp] theorem frzE_fI (r : Nat → Nat → PV) (l : List (Int × Int)) : frzE r (mapE fI l) = mapE fI l := by
  rw [frzE_map]; unfold mapE; rw [List.map_map]; congr 1
@[simp] theorem nwE_fI (l : List (Int × Int)) : nwE (mapE fI l) := by
  rw [nwE_iff]; intro r hr
  obtain ⟨x, _, rfl⟩ := List.mem_map.1 hr
  trivial
@[simp] theorem nwR_ev (l : List Ev) : nwR (l.map evR) := by
  rw [nwR_iff]; intro r hr
  obtain ⟨x, _, rfl⟩ := List.mem_map.1 hr
  exact ⟨trivial, trivial, trivial, trivial⟩
@[simp] theorem oldR_ev (l : List Ev) : oldR (l.map evR) := by
  induction l with
  | nil => trivial
  | cons x xs ih => exact ⟨⟨trivial, trivial, trivial, trivial⟩, ih⟩
def filTo (l : List Ev) (f : Nat → Bool) (i : Nat) : List Ev := ((List.range i).filter f).map fun i => l.getD i default
theorem filTo_succ (l : List Ev) (f : Nat → Bool) (i : Nat) : filTo l f (i + 1) = if f i = true then filTo l f i ++ [l.getD i default] else filTo l f i := by
  unfold filTo
  rw [List.range_succ, List.filter_append, List.map_append]
  simp only [List.filter_cons, List.filter_nil]
  split <;> simp_all
theorem filTo_len (l : List Ev) (f : Nat → Bool) (i : Nat) : (filTo l f i).length ≤ i := by
  unfold filTo
  rw [List.length_map]
  exact Nat.le_trans (List.length_filter_le _ _) (by simp)
def ofB (l : List Ev) (p : Int) (i : Nat) : Bool := decide ((l.getD i default).p = p)
def doneB (l : List Ev) (i : Nat) : Bool := !decide ((l.getD i default).w = 1) || !decide (lastTo l (l.getD i default).p l.length = (i : Int))
theorem frz_ev1 (l : List Ev) (t : List (List SV)) (n : Nat) : frzP ([SV.pv (.seq false 3 (l.map evR))] :: t) (n + 1) 0 0 = .iptr 1 [[.seq false 3 (l.map evR)]] 0 0 := by
  simp [frzP, frzC]
end Go.AX
