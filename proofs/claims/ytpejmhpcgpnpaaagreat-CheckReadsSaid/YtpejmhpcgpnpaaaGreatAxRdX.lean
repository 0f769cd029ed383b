/-
  Words of a line, and lines of a text.
  Numerals as bytes of a text, and what they are worth.
  Numbers are written as they are read.
  Words and lines of a text, told on its bytes; what is written comes back.
-/
import Derived.Test.YtpejmhpcgpnpaaaGreatAxExA
namespace Go.AX
def byt (s : ByteArray) (i : Nat) : UInt8 := s[i]?.getD 0
def gapB (b : UInt8) : Bool := b == 32 || b == 9 || b == 13
def nxt (p : UInt8 → Bool) (s : ByteArray) (e i : Nat) : Nat := if i < e then (if p (byt s i) = true then i else nxt p s e (i + 1)) else i
termination_by e - i
theorem nxt_eq (p : UInt8 → Bool) (s : ByteArray) (e i : Nat) : nxt p s e i = if i < e then (if p (byt s i) = true then i else nxt p s e (i + 1)) else i := by rw [nxt]
theorem nxt_ge (p : UInt8 → Bool) (s : ByteArray) (e : Nat) : ∀ i, i ≤ nxt p s e i := by
 intro i
 induction h : e - i using Nat.strongRecOn generalizing i with
 | _ m ih =>
  unfold nxt; split
  ·split
   ·exact Nat.le_refl _
   ·exact Nat.le_trans (Nat.le_succ i) (ih _ (by omega) (i + 1) rfl)
  ·exact Nat.le_refl _
theorem nxt_le (p : UInt8 → Bool) (s : ByteArray) (e : Nat) : ∀ i, i ≤ e → nxt p s e i ≤ e := by
 intro i
 induction h : e - i using Nat.strongRecOn generalizing i with
 | _ m ih =>
  intro hi; unfold nxt; split
  ·split
   ·omega
   ·exact ih _ (by omega) (i + 1) rfl (by omega)
  ·omega
def toks (s : ByteArray) (e i : Nat) : List (Nat × Nat) :=
 if _h : nxt (fun b => !gapB b) s e i < e then (nxt (fun b => !gapB b) s e i, nxt gapB s e (nxt (fun b => !gapB b) s e i + 1)) :: toks s e (nxt gapB s e (nxt (fun b => !gapB b) s e i + 1)) else []
termination_by e - i
decreasing_by
  have h1 := nxt_ge (fun b => !gapB b) s e i
  have h2 := nxt_ge gapB s e (nxt (fun b => !gapB b) s e i + 1)
  omega
theorem toks_eq (s : ByteArray) (e i : Nat) : toks s e i = if nxt (fun b => !gapB b) s e i < e then (nxt (fun b => !gapB b) s e i, nxt gapB s e (nxt (fun b => !gapB b) s e i + 1)) :: toks s e (nxt gapB s e (nxt (fun b => !gapB b) s e i + 1)) else [] := by rw [toks]; rfl
theorem toks_len (s : ByteArray) (e : Nat) : ∀ i, (toks s e i).length ≤ e - i := by
 intro i
 induction h : e - i using Nat.strongRecOn generalizing i with
 | _ m ih =>
  rw [toks_eq]; have h1 := nxt_ge (fun b => !gapB b) s e i; have h2 := nxt_ge gapB s e (nxt (fun b => !gapB b) s e i + 1); split
  ·rename_i hlt; have := ih _ (by omega) (nxt gapB s e (nxt (fun b => !gapB b) s e i + 1)) rfl; rw [List.length_cons]; omega
  ·simp
theorem toks_gap {s : ByteArray} {e i : Nat} (hi : i < e) (hg : gapB (byt s i) = true) : toks s e i = toks s e (i + 1) := by
 have h : nxt (fun b => !gapB b) s e i = nxt (fun b => !gapB b) s e (i + 1) := by rw [nxt_eq, if_pos hi, if_neg (by simp [hg])]
 rw [toks_eq s e i, toks_eq s e (i + 1), h]
theorem toks_word {s : ByteArray} {e i : Nat} (hi : i < e) (hg : ¬ gapB (byt s i) = true) : toks s e i = (i, nxt gapB s e (i + 1)) :: toks s e (nxt gapB s e (i + 1)) := by
 have h : nxt (fun b => !gapB b) s e i = i := by rw [nxt_eq, if_pos hi, if_pos (by simpa using hg)]
 rw [toks_eq s e i, h, if_pos hi]
theorem toks_end (s : ByteArray) (e : Nat) : toks s e e = [] := by
 have h : nxt (fun b => !gapB b) s e e = e := by rw [nxt_eq, if_neg (by omega)]
 rw [toks_eq, h, if_neg (by omega)]
theorem byt_extract {s : ByteArray} {a e j : Nat} (he : e ≤ s.size) (h : a + j < e) : byt (s.extract a e) j = byt s (a + j) := by
 unfold byt; have h1 : j < (s.extract a e).size := by rw [ByteArray.size_extract]; omega
 have h2 : a + j < s.size := by omega
 rw [show (s.extract a e)[j]? = some ((s.extract a e)[j]) from by simp, show s[a + j]? = some (s[a + j]) from by simp [h2]]; simp [ByteArray.getElem_extract]
theorem nxt_extract (p : UInt8 → Bool) {s : ByteArray} {a e : Nat} (he : e ≤ s.size) (ha : a ≤ e) : ∀ j, a + nxt p (s.extract a e) (e - a) j = nxt p s e (a + j) := by
 intro j
 induction h : (e - a) - j using Nat.strongRecOn generalizing j with
 | _ m ih =>
  rw [nxt_eq p (s.extract a e), nxt_eq p s]; by_cases hj : j < e - a
  ·rw [if_pos hj, if_pos (show a + j < e by omega), byt_extract he (by omega)]; split
   ·rfl
   ·exact ih _ (by omega) (j + 1) rfl
  ·rw [if_neg hj, if_neg (show ¬ a + j < e by omega)]
theorem toks_extract {s : ByteArray} {a e : Nat} (he : e ≤ s.size) (ha : a ≤ e) : ∀ j, (toks (s.extract a e) (e - a) j).map (fun p => (a + p.1, a + p.2)) = toks s e (a + j) := by
 intro j
 induction h : (e - a) - j using Nat.strongRecOn generalizing j with
 | _ m ih =>
  rw [toks_eq (s.extract a e), toks_eq s]; have h1 := nxt_extract (fun b => !gapB b) he ha j; have h2 := nxt_extract gapB he ha (nxt (fun b => !gapB b) (s.extract a e) (e - a) j + 1); have h3 := nxt_ge (fun b => !gapB b) (s.extract a e) (e - a) j; have h4 := nxt_ge gapB (s.extract a e) (e - a) (nxt (fun b => !gapB b) (s.extract a e) (e - a) j + 1); rw [← h1]; rw [show a + nxt (fun b => !gapB b) (s.extract a e) (e - a) j + 1 = a + (nxt (fun b => !gapB b) (s.extract a e) (e - a) j + 1) by omega, ← h2]; by_cases hj : nxt (fun b => !gapB b) (s.extract a e) (e - a) j < e - a
  ·rw [if_pos hj, if_pos (by omega), List.map_cons, ih _ (by omega) _ rfl]
  ·rw [if_neg hj, if_neg (by omega)]; rfl
theorem extract_extract {s : ByteArray} {a e i k : Nat} (hk : a + k ≤ e) : (s.extract a e).extract i k = s.extract (a + i) (a + k) := by
 rw [ByteArray.extract_extract]; congr 1; omega
def remB (s : ByteArray) (a e : Nat) : Bool := (e == a + 1 && byt s a == 99) || (decide (a + 2 ≤ e) && byt s a == 99 && byt s (a + 1) == 32)
def lend (s : ByteArray) (a : Nat) : Nat := nxt (· == 10) s s.size a
def wrds (s : ByteArray) (a e : Nat) : List (Nat × Nat) := if remB s a e = true then [] else toks s e a
theorem wrds_len (s : ByteArray) (a e : Nat) : (wrds s a e).length ≤ e - a := by
 unfold wrds; split
 ·simp
 ·exact toks_len s e a
theorem toks_le {s : ByteArray} {e : Nat} : ∀ (i : Nat), ∀ p ∈ toks s e i, p.2 ≤ e := by
 intro i
 induction h : e - i using Nat.strongRecOn generalizing i with
 | _ m ih =>
  intro p hp; rw [toks_eq] at hp; have h1 := nxt_ge (fun b => !gapB b) s e i; have h2 := nxt_ge gapB s e (nxt (fun b => !gapB b) s e i + 1); split at hp
  ·rename_i hlt; rcases List.mem_cons.1 hp with rfl | hp
   ·exact nxt_le gapB s e _ (by omega)
   ·exact ih _ (by omega) _ rfl p hp
  ·cases hp
theorem wrds_le {s : ByteArray} {a e : Nat} : ∀ p ∈ wrds s a e, p.2 ≤ e := by
 unfold wrds; split
 ·intro p hp; cases hp
 ·exact toks_le a
structure Tok where
  ln : Nat
  at_ : Nat
  tx : ByteArray
def Tok.row (t : Tok) : List PV := [.lit (.int .i64 t.ln), .lit (.int .i64 t.at_), .lit (.string t.tx)]
def tokL (s : ByteArray) (k a e : Nat) : List Tok := (wrds s a e).map fun p => ⟨k, p.1, s.extract p.1 p.2⟩
def lns (s : ByteArray) (a k : Nat) : List (List Tok) := if a < s.size then tokL s (k + 1) a (lend s a) :: lns s (lend s a + 1) (k + 1) else []
termination_by s.size - a
decreasing_by
  have h1 := nxt_ge (· == 10) s s.size a
  unfold lend
  omega
theorem lns_eq (s : ByteArray) (a k : Nat) : lns s a k = if a < s.size then tokL s (k + 1) a (lend s a) :: lns s (lend s a + 1) (k + 1) else [] := by rw [lns]
/-! ### Numbers -/
def okN : Nat := 0
def eShort : Nat := 4
def eForm : Nat := 5
def eRest : Nat := 6
def eNum : Nat := 7
def eWord : Nat := 8
def signD : List UInt8 → Bool × List UInt8
 | 45 :: r => (true, r)
 | l => (false, l)
def numF (t : ByteArray) (lo hi : Int) : Int × Nat :=
 let m := (signD t.data.toList).1
 let d := (signD t.data.toList).2
 if d = [] ∨ (d.head? = some 48 ∧ (1 < d.length ∨ m = true)) ∨ ¬ d.all isDg = true then (0, eForm)
 else
  let x : Int := if m = true then -(valD d : Int) else valD d
  if x < -9223372036854775808 ∨ 9223372036854775807 < x ∨ x < lo ∨ hi < x then (0, eNum) else (x, okN)
end Go.AX

namespace Go.AX
abbrev ST (s : ByteArray) : PV := .lit (.string s)
abbrev U8 (b : UInt8) : PV := .lit (.int .u8 b.toNat)
def preS (s p : ByteArray) : Bool := decide (p.size ≤ s.size) && decide (s.extract 0 p.size = p)
def cpS (s : ByteArray) : Bool := preS s ⟨#[45]⟩
def cpT (s : ByteArray) : ByteArray := if cpS s = true then s.extract 1 s.size else s
def badH (d : ByteArray) (m : Bool) : Prop := d = ByteArray.empty ∨ (byt d 0 = 48 ∧ (1 < d.size ∨ m = true))
instance (d : ByteArray) (m : Bool) : Decidable (badH d m) := by unfold badH; infer_instance
def allDg (d : ByteArray) : Prop := ∀ j, j < d.size → isDg (byt d j) = true
instance (d : ByteArray) : Decidable (allDg d) := by unfold allDg; infer_instance
def okNum (s : ByteArray) : Prop := ¬ badH (cpT s) (cpS s) ∧ allDg (cpT s)
instance (s : ByteArray) : Decidable (okNum s) := by unfold okNum; infer_instance
def valT (d : ByteArray) : Nat → Nat
 | 0 => 0
 | i + 1 => 10 * valT d i + ((byt d i).toNat - 48)
theorem byt_list (l : List UInt8) (i : Nat) : byt ⟨⟨l⟩⟩ i = l[i]?.getD 0 := by
 unfold byt; congr 1; by_cases h : i < l.length
 ·have h' : i < (ByteArray.mk ⟨l⟩).size := h; rw [getElem?_pos (ByteArray.mk ⟨l⟩) i h', List.getElem?_eq_getElem h]; rfl
 ·have h' : ¬ i < (ByteArray.mk ⟨l⟩).size := h; rw [getElem?_neg (ByteArray.mk ⟨l⟩) i h', List.getElem?_eq_none (by omega)]
theorem bsz (l : List UInt8) : (ByteArray.mk ⟨l⟩).size = l.length := rfl
theorem bxt (l : List UInt8) (a b : Nat) : (ByteArray.mk ⟨l⟩).extract a b = ⟨⟨(l.take b).drop a⟩⟩ := by
 apply ByteArray.ext; simp [ByteArray.data_extract]; rw [List.drop_take]
theorem valT_take (l : List UInt8) : ∀ i, i ≤ l.length → valT ⟨⟨l⟩⟩ i = valD (l.take i) := by
 intro i
 induction i with
 | zero => intro _; simp [valT, valD]
 | succ i ih =>
  intro hi; have hl : i < l.length := by omega
  have e : l.take (i + 1) = l.take i ++ [l[i]] := by rw [List.take_add_one, List.getElem?_eq_getElem hl]; rfl
  rw [valT, ih (by omega), e, valD_snoc, byt_list, List.getElem?_eq_getElem hl]; rfl
theorem cpS_cons (l : List UInt8) : cpS ⟨⟨l⟩⟩ = (signD l).1 ∧ cpT ⟨⟨l⟩⟩ = ⟨⟨(signD l).2⟩⟩ := by
 have h : cpS ⟨⟨l⟩⟩ = (signD l).1 := by
  unfold cpS preS; rw [bxt, bsz]
  match l with
  | [] => simp [signD, ByteArray.size]
  | b :: r =>
   by_cases hb : b = 45
   ·subst hb; simp [signD, ByteArray.size]
   ·have : (ByteArray.mk (List.toArray [b]) = ByteArray.mk #[45]) ↔ b = 45 := by simp
    have e : (signD (b :: r)).1 = false := by
     unfold signD; split
     ·rename_i h; simp at h; exact absurd h.1 hb
     ·rfl
    rw [e]; simp [ByteArray.size, hb]
 refine ⟨h, ?_⟩; unfold cpT; rw [h, bxt, bsz]
 match l with
 | [] => simp [signD]
 | b :: r =>
  by_cases hb : b = 45
  ·subst hb; simp [signD]
  ·have e : signD (b :: r) = (false, b :: r) := by
    unfold signD; split
    ·rename_i h; simp at h; exact absurd h.1 hb
    ·rfl
   rw [e]; simp
def numV (s : ByteArray) : Int := if cpS s = true then -(valT (cpT s) (cpT s).size : Int) else valT (cpT s) (cpT s).size
theorem num_iff (l : List UInt8) : okNum ⟨⟨l⟩⟩ ↔ ¬ ((signD l).2 = [] ∨ ((signD l).2.head? = some 48 ∧ (1 < (signD l).2.length ∨ (signD l).1 = true)) ∨ ¬ (signD l).2.all isDg = true) := by
 unfold okNum; rw [(cpS_cons l).1, (cpS_cons l).2]; generalize (signD l).1 = m; generalize (signD l).2 = d; have h1 : badH ⟨⟨d⟩⟩ m ↔ (d = [] ∨ (d.head? = some 48 ∧ (1 < d.length ∨ m = true))) := by
  unfold badH; rw [byt_list, bsz]
  match d with
  | [] => exact iff_of_true (.inl rfl) (.inl rfl)
  | b :: r =>
   have : ¬ (ByteArray.mk ⟨b :: r⟩ = ByteArray.empty) := fun e => by
    have := congrArg ByteArray.size e; rw [bsz] at this; simp at this
   simp [this]
 have h2 : allDg ⟨⟨d⟩⟩ ↔ d.all isDg = true := by
  unfold allDg; rw [List.all_eq_true]; constructor
  ·intro h x hx; obtain ⟨i, hi, rfl⟩ := List.mem_iff_getElem.1 hx; have := h i hi; rw [byt_list, List.getElem?_eq_getElem hi] at this; exact this
  ·intro h j hj; rw [byt_list, List.getElem?_eq_getElem hj]; exact h _ (List.getElem_mem hj)
 rw [h1, h2]; constructor
 ·rintro ⟨a, b⟩ (c | c | c)
  ·exact a (.inl c)
  ·exact a (.inr c)
  ·exact c b
 ·intro h; exact ⟨fun c => h (c.imp id .inl), Decidable.byContradiction fun c => h (.inr (.inr c))⟩
theorem numF_bad {s : ByteArray} (h : ¬ okNum s) (lo hi : Int) : numF s lo hi = (0, eForm) := by
 obtain ⟨⟨l⟩⟩ := s; unfold numF; exact if_pos (Decidable.byContradiction fun c => h ((num_iff l).2 c))
theorem numF_ok {s : ByteArray} (h : okNum s) (lo hi : Int) : numF s lo hi = if numV s < -9223372036854775808 ∨ 9223372036854775807 < numV s ∨ numV s < lo ∨ hi < numV s then (0, eNum) else (numV s, okN) := by
 obtain ⟨⟨l⟩⟩ := s; unfold numF numV; have e := (num_iff l).1 h; dsimp only; rw [if_neg e, (cpS_cons l).1, (cpS_cons l).2, bsz, valT_take _ _ (Nat.le_refl _), List.take_length]
end Go.AX

namespace Go.AX
def dgZ (n : Int) : ByteArray := if n < 0 then ⟨⟨45 :: dgs n.natAbs⟩⟩ else ⟨⟨dgs n.natAbs⟩⟩
theorem dg45 {b : UInt8} (h : isDg b = true) : b ≠ 45 := by
 intro e; subst e; simp [isDg] at h
theorem signD_dg {l : List UInt8} (h : ∀ b ∈ l, isDg b = true) : signD l = (false, l) := by
 match l with
 | [] => rfl
 | b :: r =>
  unfold signD; split
  ·rename_i e; injection e with e1 e2; exact absurd e1 (dg45 (h b (List.mem_cons_self ..)))
  ·rfl
theorem numV_list (l : List UInt8) : numV ⟨⟨l⟩⟩ = if (signD l).1 = true then -(valD (signD l).2 : Int) else valD (signD l).2 := by
 unfold numV; rw [(cpS_cons l).1, (cpS_cons l).2, bsz, valT_take _ _ (Nat.le_refl _), List.take_length]
theorem numV_dgZ (n : Int) : numV (dgZ n) = n := by
 unfold dgZ; split
 ·rename_i h; rw [numV_list]; simp only [signD, if_true, valD_dgs]; omega
 ·rename_i h; rw [numV_list, signD_dg (dgs_dg _)]; simp only [valD_dgs]; simp; omega
theorem okNum_can {l : List UInt8} (h : okNum ⟨⟨l⟩⟩) : canD (signD l).2 ∧ ((signD l).1 = true → (signD l).2.head? ≠ some 48) := by
 have h := (num_iff l).1 h; refine ⟨⟨fun e => h (.inl e), fun b hb => ?_, fun e => ?_⟩, fun e1 e2 => h (.inr (.inl ⟨e2, .inr e1⟩))⟩
 ·have : (signD l).2.all isDg = true := Decidable.byContradiction fun c => h (.inr (.inr c)); exact List.all_eq_true.1 this b hb
 ·have h1 : ¬ 1 < (signD l).2.length := fun c => h (.inr (.inl ⟨e, .inl c⟩)); have h2 : (signD l).2 ≠ [] := fun c => by rw [c] at e; cases e
  have := List.length_pos_iff.2 h2; omega
theorem signD_back (l : List UInt8) : (if (signD l).1 = true then 45 :: (signD l).2 else (signD l).2) = l := by
 match l with
 | [] => rfl
 | b :: r =>
  by_cases hb : b = 45
  ·subst hb; simp [signD]
  ·have e : signD (b :: r) = (false, b :: r) := by
    unfold signD; split
    ·rename_i h; simp at h; exact absurd h.1 hb
    ·rfl
   rw [e]; simp
theorem dgZ_numV {s : ByteArray} (h : okNum s) : dgZ (numV s) = s := by
 obtain ⟨⟨l⟩⟩ := s; obtain ⟨h1, h2⟩ := okNum_can h; rw [numV_list]; have hb := signD_back l; by_cases c : (signD l).1 = true
 ·rw [if_pos c] at hb ⊢; have hpos := valD_pos h1.2.1 h1.1 (h2 c); unfold dgZ; rw [if_pos (by omega), show (-(valD (signD l).2 : Int)).natAbs = valD (signD l).2 by omega, dgs_valD h1, hb]
 ·rw [if_neg c] at hb ⊢; unfold dgZ; rw [if_neg (by omega), show ((valD (signD l).2 : Int)).natAbs = valD (signD l).2 by omega, dgs_valD h1, hb]
theorem okNum_far {s : ByteArray} (h : okNum s) (hz : 19 < (cpT s).size) : numV s < -9223372036854775808 ∨ 9223372036854775807 < numV s := by
 obtain ⟨⟨l⟩⟩ := s; obtain ⟨h1, h2⟩ := okNum_can h; rw [numV_list]; rw [(cpS_cons l).2, bsz] at hz; have := valD_ge h1 (by omega); have h3 : 10 ^ 19 ≤ 10 ^ ((signD l).2.length - 1) := Nat.pow_le_pow_right (by omega) (by omega); have : 10 ^ 19 ≤ valD (signD l).2 := by omega
 split <;> omega
theorem dgZ_wrap {s : ByteArray} (h : okNum s) (n : Int) : dgZ n = s ↔ n = numV s := by
 constructor
 ·intro e; rw [← e, numV_dgZ]
 ·intro e; rw [e, dgZ_numV h]
end Go.AX

namespace Go.AX
def bts (s : ByteArray) : List UInt8 := s.data.toList
@[simp] theorem bts_mk (l : List UInt8) : bts ⟨⟨l⟩⟩ = l := rfl
theorem remB_shift {s : ByteArray} {a e : Nat} (he : e ≤ s.size) (ha : a ≤ e) : remB (s.extract a e) 0 (s.extract a e).size = remB s a e := by
 have hz : (s.extract a e).size = e - a := by rw [ByteArray.size_extract]; omega
 unfold remB; rw [hz]; have h1 : (e - a == 0 + 1) = (e == a + 1) := by rw [Bool.eq_iff_iff, beq_iff_eq, beq_iff_eq]; omega
 have h2 : decide (0 + 2 ≤ e - a) = decide (a + 2 ≤ e) := by rw [decide_eq_decide]; omega
 rw [h1, h2]; by_cases c1 : e = a + 1
 ·have : byt (s.extract a e) 0 = byt s a := by rw [byt_extract he (by omega)]; rfl
  have c2 : ¬ a + 2 ≤ e := by omega
  simp [c1, this, c2] <;> (subst c1; simp_all)
 ·by_cases c2 : a + 2 ≤ e
  ·have e1 : byt (s.extract a e) 0 = byt s a := by rw [byt_extract he (by omega)]; rfl
   have e2 : byt (s.extract a e) (0 + 1) = byt s (a + 1) := by rw [byt_extract he (by omega)]
   rw [e1, e2]
  ·have c3 : (e == a + 1) = false := by simpa using c1
   simp [c3, c2]
theorem wrds_shift {s : ByteArray} {a e : Nat} (he : e ≤ s.size) (ha : a ≤ e) : (wrds (s.extract a e) 0 (s.extract a e).size).map (fun p => (a + p.1, a + p.2)) = wrds s a e := by
 have hz : (s.extract a e).size = e - a := by rw [ByteArray.size_extract]; omega
 unfold wrds; rw [remB_shift he ha]; split
 ·rfl
 ·rw [hz]; exact toks_extract he ha 0
/-! ### Lines -/
/-! ### What is written -/
end Go.AX
