/-
  What is read of a text, line by line (plain).
-/
import Derived.Test.YtpejmhpcgpnpaaaGreatS15AxEvJ
import Derived.Test.YtpejmhpcgpnpaaaGreatS15AxMovK
import Derived.Test.YtpejmhpcgpnpaaaGreatAxRdX
namespace Go.AX
open Go.Proofs
set_option linter.unusedSimpArgs false
abbrev NumsR := List Int × Nat × Nat
def numsA (fin : Nat) : List (Int × Int) → Tok → List Tok → List Int → NumsR
 | [], _, [], acc => (acc, fin, okN)
 | [], _, t :: _, _ => ([], t.at_, eRest)
 | _ :: _, p, [], _ => ([], p.at_ + p.tx.size, eShort)
 | b :: bs, _, t :: r, acc => if (numF t.tx b.1 b.2).2 = okN then numsA fin bs t r (acc ++ [(numF t.tx b.1 b.2).1]) else ([], t.at_, (numF t.tx b.1 b.2).2)
theorem numsA_cons (fin : Nat) (b : Int × Int) (bs : List (Int × Int)) (p t : Tok) (r : List Tok) (acc : List Int) : numsA fin (b :: bs) p (t :: r) acc = if (numF t.tx b.1 b.2).2 = okN then numsA fin bs t r (acc ++ [(numF t.tx b.1 b.2).1]) else ([], t.at_, (numF t.tx b.1 b.2).2) := rfl
theorem numsA_short (fin : Nat) (b : Int × Int) (bs : List (Int × Int)) (p : Tok) (acc : List Int) : numsA fin (b :: bs) p [] acc = ([], p.at_ + p.tx.size, eShort) := rfl
theorem numsA_done (fin : Nat) (p : Tok) (acc : List Int) : numsA fin [] p [] acc = (acc, fin, okN) := rfl
theorem numsA_rest (fin : Nat) (p t : Tok) (r : List Tok) (acc : List Int) : numsA fin [] p (t :: r) acc = ([], t.at_, eRest) := rfl
def lineA (fin : Nat) (w : ByteArray) (bs : List (Int × Int)) : List Tok → NumsR
 | [] => ([], fin, eShort)
 | t :: r => if t.tx = w then numsA fin bs t r [] else ([], t.at_, eWord)
theorem numsA_len {fin : Nat} : ∀ {bs : List (Int × Int)} {p : Tok} {ts : List Tok} {acc : List Int}, (numsA fin bs p ts acc).2.2 = 0 → (numsA fin bs p ts acc).1.length = acc.length + bs.length ∧ (numsA fin bs p ts acc).2.1 = fin
 | [], _, [], acc, _ => ⟨rfl, rfl⟩
 | [], _, t :: _, _, h => by cases h
 | _ :: _, p, [], _, h => by cases h
 | b :: bs, _, t :: r, acc, h => by
  rw [numsA] at h ⊢; split at h
  ·rename_i c; rw [if_pos c]; have := numsA_len h; rw [this.1, List.length_append]; exact ⟨by simp; omega, this.2⟩
  ·rename_i c; exact absurd h c
theorem lineA_len {fin : Nat} {w : ByteArray} {bs : List (Int × Int)} {l : List Tok} (h : (lineA fin w bs l).2.2 = 0) : (lineA fin w bs l).1.length = bs.length ∧ (lineA fin w bs l).2.1 = fin ∧ ∃ t r, l = t :: r ∧ t.tx = w := by
 match l with
 | [] => cases h
 | t :: r =>
  rw [lineA] at h ⊢; split at h
  ·rename_i c; rw [if_pos c]; have := numsA_len h; exact ⟨by simpa using this.1, this.2, t, r, rfl, c⟩
  ·cases h
theorem numF_in {t : ByteArray} {lo hi : Int} (h : (numF t lo hi).2 = 0) : lo ≤ (numF t lo hi).1 ∧ (numF t lo hi).1 ≤ hi ∧ okNum t ∧ (numF t lo hi).1 = numV t ∧ -9223372036854775808 ≤ numV t ∧ numV t ≤ 9223372036854775807 := by
 by_cases c : okNum t
 ·rw [numF_ok c] at h ⊢; split at h
  ·cases h
  ·rename_i c2; rw [if_neg c2]; simp only [not_or, Int.not_lt] at c2; exact ⟨c2.2.2.1, c2.2.2.2, c, rfl, c2.1, c2.2.1⟩
 ·rw [numF_bad c] at h; cases h
theorem numsA_in {fin : Nat} : ∀ {bs : List (Int × Int)} {p : Tok} {ts : List Tok} {acc : List Int}, (numsA fin bs p ts acc).2.2 = 0 → ∃ ys : List Int, (numsA fin bs p ts acc).1 = acc ++ ys ∧ ys.length = bs.length ∧ ∀ k (h1 : k < ys.length) (h2 : k < bs.length), bs[k].1 ≤ ys[k] ∧ ys[k] ≤ bs[k].2
 | [], _, [], acc, _ => ⟨[], by simp [numsA], rfl, fun k h => by cases h⟩
 | [], _, t :: _, _, h => by cases h
 | _ :: _, p, [], _, h => by cases h
 | b :: bs, _, t :: r, acc, h => by
  rw [numsA] at h ⊢; split at h
  ·rename_i c; rw [if_pos c]; obtain ⟨ys, h1, h2, h3⟩ := numsA_in h; have hb := numF_in c; refine ⟨(numF t.tx b.1 b.2).1 :: ys, by rw [h1]; simp, by simp [h2], ?_⟩; intro k k1 k2; cases k with
   | zero => exact ⟨hb.1, hb.2.1⟩
   | succ k => exact h3 k (by simpa using k1) (by simpa using k2)
  ·rename_i c; exact absurd h c
theorem lineA_in {fin : Nat} {w : ByteArray} {bs : List (Int × Int)} {l : List Tok} (h : (lineA fin w bs l).2.2 = 0) : ∀ k (h1 : k < (lineA fin w bs l).1.length) (h2 : k < bs.length), bs[k].1 ≤ (lineA fin w bs l).1[k] ∧ (lineA fin w bs l).1[k] ≤ bs[k].2 := by
 match l with
 | [] => cases h
 | t :: r =>
  by_cases c : t.tx = w
  ·have e : lineA fin w bs (t :: r) = numsA fin bs t r [] := by rw [lineA, if_pos c]
   rw [e] at h; obtain ⟨ys, h1, h2, h3⟩ := numsA_in h; rw [List.nil_append] at h1; simp only [e, h1]; exact h3
  ·rw [lineA, if_neg c] at h; cases h
theorem open_mem (l : List Ev) (p : Int) : p ∈ refOpTo l l.length ↔ opnS l p l.length = true := by
 rw [(refOpTo_perm l l.length).mem_iff, List.mem_map]; unfold opnS; rw [Bool.and_eq_true, decide_eq_true_eq, decide_eq_true_eq]; constructor
 ·rintro ⟨i, hi, rfl⟩; obtain ⟨h1, h2⟩ := List.mem_filter.1 hi; unfold isOp at h2; rw [Bool.and_eq_true, decide_eq_true_eq, decide_eq_true_eq] at h2; rw [h2.2]; exact ⟨by omega, by simpa using h2.1⟩
 ·rintro ⟨h1, h2⟩; obtain ⟨k, hk⟩ : ∃ k : Nat, lastTo l p l.length = k := ⟨_, (Int.toNat_of_nonneg h1).symm⟩; have h3 := lastTo_p l p _ _ hk; rw [hk, Int.toNat_natCast] at h2; refine ⟨k, List.mem_filter.2 ⟨List.mem_range.2 h3.1, ?_⟩, h3.2⟩; unfold isOp; rw [h3.2, hk, h2]; simp
/-! ### Lines with words -/
def said (R : List (List Tok)) : List (List Tok) := R.filter fun l => !l.isEmpty
def nextA : List (List Tok) → List Tok × List (List Tok)
 | [] => ([], [])
 | [] :: R => nextA R
 | (t :: l) :: R => (t :: l, R)
theorem next_said : ∀ R : List (List Tok), said R = if (nextA R).1 = [] then [] else (nextA R).1 :: said (nextA R).2
 | [] => by simp [said, nextA]
 | [] :: R => by
  have : said ([] :: R) = said R := by simp [said]
  rw [this, next_said R]; rfl
 | (t :: l) :: R => by simp [said, nextA]
theorem next_nil : ∀ R : List (List Tok), (nextA R).1 = [] → (nextA R).2 = []
 | [], _ => rfl
 | [] :: R, h => next_nil R h
 | (t :: l) :: R, h => by cases h
theorem said_ne {R : List (List Tok)} : ∀ l ∈ said R, l ≠ [] := by
 intro l hl; have := (List.mem_filter.1 hl).2; intro e; subst e; simp at this
theorem next_len : ∀ R : List (List Tok), (nextA R).2.length ≤ R.length ∧ ((nextA R).1 ≠ [] → (nextA R).2.length < R.length)
 | [] => ⟨Nat.le_refl _, fun h => absurd rfl h⟩
 | [] :: R => ⟨Nat.le_succ_of_le (next_len R).1, fun h => Nat.lt_succ_of_lt ((next_len R).2 h)⟩
 | (t :: l) :: R => ⟨Nat.le_succ _, fun _ => Nat.lt_succ_self _⟩
/-! ### Objects -/
def wObj : ByteArray := ⟨#[111, 98, 106, 101, 99, 116]⟩
def wRow : ByteArray := ⟨#[114, 111, 119]⟩
def wCall : ByteArray := ⟨#[99, 97, 108, 108]⟩
def wRet : ByteArray := ⟨#[114, 101, 116]⟩
def bz4 : List (Int × Int) := [(0, 1000000), (0, 1000000), (0, 1000000), (0, 1000000)]
def rowOf (x : List Int) : ORow := ⟨x.getD 0 0, x.getD 1 0, x.getD 2 0, x.getD 3 0⟩
def hd (L : List (List Tok)) : List Tok := L.head?.getD []
def rowsA (fin : Nat) : Nat → List (List Tok) → List ORow → List ORow × Nat × Nat
 | 0, _, acc => (acc, fin, okN)
 | n + 1, L, acc => if (lineA fin wRow bz4 (hd L)).2.2 = 0 then rowsA fin n L.tail (acc ++ [rowOf (lineA fin wRow bz4 (hd L)).1]) else ([], (lineA fin wRow bz4 (hd L)).2)
def atOf (l : List Tok) : Nat := match l with | [] => 0 | t :: _ => t.at_
structure TakeR where
  o : Obj
  n : Nat
  at_ : Nat
  e : Int
def o0 : Obj := ⟨0, 0, 0, []⟩
def takeA (fin : Nat) (L : List (List Tok)) : TakeR :=
 let h := lineA fin wObj bz4 (hd L)
 if h.2.2 ≠ 0 then ⟨o0, 0, h.2.1, h.2.2⟩ else
 let r := rowsA fin (h.1.getD 3 0).toNat L.tail []
 if r.2.2 ≠ 0 then ⟨o0, 0, r.2.1, r.2.2⟩ else
 let o : Obj := ⟨h.1.getD 0 0, h.1.getD 1 0, h.1.getD 2 0, r.1⟩
 if (objChk o).2 ≠ 0 then ⟨o0, 0, atOf (L.getD ((objChk o).1 + 1).toNat []), (objChk o).2⟩ else ⟨o, (h.1.getD 3 0).toNat + 1, fin, 0⟩
/-! ### Events -/
def ev1 (kd : Int) (fin : Nat) (out : List Ev) (l : List Tok) : Ev × Nat × Int :=
 let t := l.head?.getD ⟨0, 0, ByteArray.empty⟩
 if t.tx ≠ wCall ∧ t.tx ≠ wRet then (⟨2, 0, 0⟩, t.at_, 8) else
 let w : Int := if t.tx = wCall then 1 else 2
 let x := lineA fin t.tx [(1, 1000), (0, if t.tx = wCall then kd - 1 else 1000000)] l
 if x.2.2 ≠ 0 then (⟨w, 0, 0⟩, x.2.1, x.2.2) else
 let v : Ev := ⟨w, x.1.getD 0 0, x.1.getD 1 0⟩
 if (opnS out v.p out.length = true ↔ w = 1) then (v, t.at_, 33) else (v, fin, 0)
def evOf (kd : Int) (fin : Nat) (out : List Ev) (l : List Tok) : Ev × Nat × Int :=
 if (ev1 kd fin out l).2.2 ≠ 0 then ev1 kd fin out l
 else if 10000 ≤ out.length then ((ev1 kd fin out l).1, atOf l, 3) else ev1 kd fin out l
def evsA (kd : Int) (fin : Nat) : List (List Tok) → List Ev → List Ev × Nat × Int
 | [], out => (out, fin, 0)
 | l :: L, out => if (evOf kd fin out l).2.2 = 0 then evsA kd fin L (out ++ [(evOf kd fin out l).1]) else ([], (evOf kd fin out l).2)
structure CaseR where
  o : Obj
  l : List Ev
  at_ : Nat
  e : Int
def caseA (s : ByteArray) : CaseR :=
 if 1000000 < s.size then ⟨o0, [], 0, 3⟩ else
 let L := said (lns s 0 0)
 let k := takeA s.size L
 if k.e ≠ 0 then ⟨o0, [], k.at_, k.e⟩ else
 let x := evsA k.o.kd s.size (L.drop k.n) []
 if x.2.2 ≠ 0 then ⟨o0, [], x.2.1, x.2.2⟩ else ⟨k.o, x.1, s.size, 0⟩
theorem evGo_all {l : List Ev} : ∀ (k i : Nat), (∀ j, i ≤ j → j < i + k → evErr l j = 0) → evGo l k i = (((i + k : Nat) : Int), 0)
 | 0, i, _ => rfl
 | k + 1, i, h => by
  rw [evGo, if_neg (by rw [h i (Nat.le_refl _) (by omega)]; simp), evGo_all k (i + 1) fun j h1 h2 => h j (by omega) (by omega)]; congr 1; omega
theorem getD_snoc {l : List Ev} {x : Ev} {i : Nat} (h : i < l.length) : (l ++ [x]).getD i default = l.getD i default := by
 rw [List.getD_eq_getElem?_getD, List.getD_eq_getElem?_getD, List.getElem?_append_left h]
theorem opTo_snoc (l : List Ev) (x : Ev) : ∀ i, i ≤ l.length → opTo (l ++ [x]) i = opTo l i
 | 0, _ => rfl
 | i + 1, h => by rw [opTo, opTo, opTo_snoc l x i (by omega), getD_snoc (by omega)]
theorem evErr_snoc (l : List Ev) (x : Ev) {i : Nat} (h : i < l.length) : evErr (l ++ [x]) i = evErr l i := by
 unfold evErr; rw [opTo_snoc l x i (by omega), getD_snoc h]
theorem getD_last (l : List Ev) (x : Ev) : (l ++ [x]).getD l.length default = x := by simp [List.getD_eq_getElem?_getD]
theorem evErr_last (l : List Ev) (x : Ev) : evErr (l ++ [x]) l.length = if evAlone x ≠ 0 then evAlone x else if (opnS l x.p l.length = true ↔ x.w = 1) then 33 else 0 := by
 unfold evErr; rw [opTo_snoc l x _ (Nat.le_refl _), getD_last]; split
 ·rfl
 ·by_cases c : opnS l x.p l.length = true ↔ x.w = 1
  ·rw [if_pos c, if_pos (by rw [opn_iff]; exact c)]
  ·rw [if_neg c, if_neg (by rw [opn_iff]; exact c)]
def evsOk (l : List Ev) : Prop := l.length ≤ 10000 ∧ ∀ j, j < l.length → evErr l j = 0
theorem evOf_ok {kd : Int} {fin : Nat} {out : List Ev} {l : List Tok} (hk : kd ≤ 64) (ho : evsOk out) (h : (evOf kd fin out l).2.2 = 0) : evsOk (out ++ [(evOf kd fin out l).1]) := by
 have hb : (ev1 kd fin out l).2.2 = 0 ∧ ¬ 10000 ≤ out.length := by
  unfold evOf at h; by_cases c : (ev1 kd fin out l).2.2 = 0
  ·rw [if_neg (by simpa using c)] at h; refine ⟨c, fun c2 => ?_⟩; rw [if_pos c2] at h; cases h
  ·rw [if_pos c] at h; exact absurd h c
 obtain ⟨h, c4⟩ := hb; have e : evOf kd fin out l = ev1 kd fin out l := by
  unfold evOf; rw [if_neg (by simpa using h), if_neg c4]
 rw [e]; clear e; unfold ev1 at h ⊢; dsimp only at h ⊢; generalize l.head?.getD ⟨0, 0, ByteArray.empty⟩ = t at h ⊢; by_cases c1 : t.tx ≠ wCall ∧ t.tx ≠ wRet
 ·rw [if_pos c1] at h; cases h
 rw [if_neg c1] at h ⊢; by_cases c2 : (lineA fin t.tx [(1, 1000), (0, if t.tx = wCall then kd - 1 else 1000000)] l).2.2 ≠ 0
 ·rw [if_pos c2] at h; simp only at h; omega
 rw [if_neg c2] at h ⊢; have c2 := Decidable.byContradiction c2; have hlen := (lineA_len c2).1; have hin := lineA_in c2
 revert h hlen hin
 generalize (lineA fin t.tx [(1, 1000), (0, if t.tx = wCall then kd - 1 else 1000000)] l).1 = x; intro h hlen hin; have hlen : x.length = 2 := hlen; have h0 : 0 < x.length := by omega
 have h1 : 1 < x.length := by omega
 have i0 := hin 0 h0 (show 0 < 2 by omega); have i1 := hin 1 h1 (show 1 < 2 by omega); have g0 : x.getD 0 0 = x[0] := by rw [List.getD_eq_getElem?_getD, List.getElem?_eq_getElem h0]; rfl
 have g1 : x.getD 1 0 = x[1] := by rw [List.getD_eq_getElem?_getD, List.getElem?_eq_getElem h1]; rfl
 rw [← g0] at i0; rw [← g1] at i1; simp only [List.getElem_cons_zero, List.getElem_cons_succ] at i0 i1; generalize x.getD 0 0 = p at *; generalize x.getD 1 0 = n at *; generalize hw : (if t.tx = wCall then (1 : Int) else 2) = w at *; by_cases c3 : opnS out p out.length = true ↔ w = 1
 ·rw [if_pos c3] at h; cases h
 rw [if_neg c3] at h ⊢; have hw2 : (w = 1 ∧ n < 64) ∨ (w = 2 ∧ n ≤ 1000000) := by
  by_cases e : t.tx = wCall
  ·rw [if_pos e] at hw i1; left; omega
  ·rw [if_neg e] at hw i1; right; omega
 have ha : evAlone ⟨w, p, n⟩ = 0 := by
  unfold evAlone; dsimp only; rw [if_neg (by omega), if_neg (by omega), if_neg (by omega), if_neg (by omega)]
 obtain ⟨h1, h2⟩ := ho; refine ⟨by simp; omega, fun j hj => ?_⟩; by_cases e : j = out.length
 ·subst e; rw [evErr_last, if_neg (by rw [ha]; simp), if_neg c3]
 ·simp at hj; rw [evErr_snoc _ _ (by omega)]; exact h2 j (by omega)
theorem evsA_ok {kd : Int} {fin : Nat} (hk : kd ≤ 64) : ∀ {L : List (List Tok)} {out : List Ev}, evsOk out → (evsA kd fin L out).2.2 = 0 → evsOk (evsA kd fin L out).1 ∧ (evsA kd fin L out).2.1 = fin
 | [], out, ho, _ => ⟨ho, rfl⟩
 | l :: L, out, ho, h => by
  rw [evsA] at h ⊢; by_cases c : (evOf kd fin out l).2.2 = 0
  ·rw [if_pos c] at h ⊢; exact evsA_ok hk (evOf_ok hk ho c) h
  ·rw [if_neg c] at h; exact absurd h c
theorem evsOk_chk {l : List Ev} (h : evsOk l) : evChk l = ((l.length : Int), 0) := by
 unfold evChk; rw [if_neg (by have := h.1; omega), evGo_all _ _ fun j _ h2 => h.2 j (by omega)]; simp
end Go.AX
