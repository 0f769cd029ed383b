/-
  Contracts: a line's numbers.
  Contracts: the document's lines.
  Contracts: the document's numerals.
  Contracts: an object's lines.
  Contracts: the document's numbers of a line, and its lines with words.
  Contracts: an event's line.
  Contracts: a case's text.
-/
import Derived.Test.YtpejmhpcgpnpaaaGreatS15AxHuP
import Derived.Test.YtpejmhpcgpnpaaaGreatS15AxHtG
import Derived.Test.YtpejmhpcgpnpaaaGreatS15AxEnU
import Derived.Test.YtpejmhpcgpnpaaaGreatAxBe
import Derived.Test.YtpejmhpcgpnpaaaGreatAxPu
namespace Go.AX
open Go.Proofs
set_option linter.unusedSimpArgs false
@[simp] theorem frzR_tok (r : Nat → Nat → PV) : ∀ l : List Tok, frzR r (l.map Tok.row) = l.map Tok.row
 | [] => rfl
 | t :: l => by rw [List.map_cons, frzR, frzR_tok r l]; rfl
def lnF (l : List Tok) : List PV := [.seq false 3 (l.map Tok.row)]
@[simp] theorem frzR_lnR (r : Nat → Nat → PV) : ∀ R : List (List Tok), frzR r (R.map lnR) = R.map lnF
 | [] => rfl
 | l :: R => by
  rw [List.map_cons, frzR, frzR_lnR r R]; simp [lnR, lnF]
@[simp] theorem frzR_lnF (r : Nat → Nat → PV) : ∀ R : List (List Tok), frzR r (R.map lnF) = R.map lnF
 | [] => rfl
 | l :: R => by
  rw [List.map_cons, frzR, frzR_lnF r R]; simp [lnF]
@[simp] theorem belowR_tokS (m : Nat) (l : List Tok) : belowR m (l.map Tok.row) := belowR_tok m l
@[simp] theorem belowR_lnRS (m : Nat) (R : List (List Tok)) : belowR m (R.map lnR) := belowR_lnR m R
@[simp] theorem belowR_lnFS (m : Nat) : ∀ R : List (List Tok), belowR m (R.map lnF)
 | [] => trivial
 | x :: l => ⟨⟨belowR_tok m x, trivial⟩, belowR_lnFS m l⟩
theorem boundsC_ok (x : Int) (n : Nat) (hn : n ≤ 1000) : APure Tryz.prog 245 [I64 x, .iptr 1 [[I64 n]] 0 0] (fun r => r = .own true 1 (irow (List.replicate n x))) := by
 refine apure1 hmo Tryz.func245 ?_; simp; refine CallK.intro (repeat_ok x n hn) ?_; simp
theorem bounds_ok (n : Nat) (hn : n ≤ 1000) : APure Tryz.prog 156 [I64 n] (fun r => r = .pv (.tup [.seq true 1 (irow (List.replicate n 0)), .seq true 1 (irow (List.replicate n 1000000))])) := by
 refine apureX [] [.tmp 2, .tmp 3] hmo Tryz.func156 ?_; simp; simp [frzP, frzC]; refine CallB.introP (boundsC_ok 0 n hn) ?_; simp; simp [frzP, frzC]; refine CallB.introP (boundsC_ok 1000000 n hn) ?_; simp
theorem next_ok (g : List (List SV)) (R : List (List Tok)) (hR : R.length ≤ 1000000) : AMut Tryz.prog 157 [.seq false 1 (R.map lnF)] g (fun r g' => g' = g ∧ r = .pv (.tup [.seq false 3 ((nextA R).1.map Tok.row), .seq false 1 ((nextA R).2.map lnF)])) := by
 refine amutXW [] [.tmp 2, .tmp 3] hmo Tryz.func157 ?_; simp; refine ALoop.intro (S := fun (i : Nat) => ⟨[(0, .pv (.seq false 1 (R.map lnF))), (6, .pv (.seq false 1 (R.map lnF))), (7, .pv (I64 R.length)), (8, .pv (I64 i))], g⟩) (fun i => i ≤ R.length ∧ nextA (R.drop i) = nextA R) (fun i => R.length - i) 0 ?_ ⟨Nat.zero_le _, by simp⟩ ?_
 ·exact Weak.keep (by simp) (by simp)
 rintro i ⟨hi, hn⟩; by_cases h : i < R.length
 ·have hw := wnx i; rw [List.drop_eq_getElem_cons h] at hn; obtain ⟨l, hl⟩ : ∃ l, R[i] = l := ⟨_, rfl⟩; rw [hl] at hn; have hb := belowR_lnFS g.length R; have hd : List.drop (i + 1) (List.take R.length (List.map lnF R)) = (R.drop (i + 1)).map lnF := by rw [List.take_of_length_le (by simp), List.map_drop]
  simp [h, hl, lnF, hw]; refine ⟨fun hl0 => ?_, fun hl0 => ?_⟩
  ·cases l with
   | nil => cases hl0
   | cons t l =>
    rw [nextA] at hn; rw [hd, ← hn]; exact ⟨⟨by omega, by omega⟩, belowR_lnFS _ _, rfl, rfl⟩
  ·subst hl0; exact ⟨i + 1, by dsimp only; omega, ⟨by omega, hn⟩, Weak.keep (by simp [hw]) (by simp [hb, belowR_tok])⟩
 ·have hie : i = R.length := by omega
  subst hie; simp [nextA] at hn; simp [← hn]
def numsPV (x : NumsR) : PV := .tup [if x.2.2 = 0 then .seq true 1 (irow x.1) else .lit (.slice none 0 0), I64 x.2.1, I64 x.2.2]
set_option maxRecDepth 16000 in
theorem numbers_ok (l : List Tok) (w : ByteArray) (bs : List (Int × Int)) (fin : Nat) (hl : l.length ≤ 1000000) (hbs : bs.length ≤ 1000) (ht : ∀ t ∈ l, t.tx.size ≤ 1000000 ∧ t.at_ ≤ 1000000) : APure Tryz.prog 158 [.seq false 3 (l.map Tok.row), ST w, .seq false 1 (irow (bs.map (·.1))), .seq false 1 (irow (bs.map (·.2))), I64 fin] (fun r => r = .pv (numsPV (lineA fin w bs l))) := by
 refine apureX [] [.tmp 10, .tmp 11, .tmp 12] hmo Tryz.func158 ?_; by_cases h0 : l = []
 ·subst h0; simp [lineA, eShort, numsPV]
 have hpos : 0 < l.length := List.length_pos_iff.2 h0; have hA : lineA fin w bs l = if l[0].tx = w then numsA fin bs l[0] (l.drop 1) [] else ([], l[0].at_, eWord) := by
  cases l with
  | nil => exact absurd rfl h0
  | cons t r => rfl
 rw [hA]; clear hA; obtain ⟨t, hT⟩ : ∃ t, l[0] = t := ⟨_, rfl⟩; rw [hT]; have hne : ¬ (l.length : Int) = 0 := by omega
 by_cases hw : t.tx = w; rotate_left
 ·simp [h0, hpos, hT, Tok.row, hw, eWord, numsPV]
 rw [if_pos hw]; have hw1 : w64 ((l.length : Int) - 1) = ((l.length - 1 : Nat) : Int) := by rw [w64_id (by omega) (by omega)]; omega
 have hlt : l.length - 1 < l.length := by omega
 obtain ⟨L, hL⟩ : ∃ L, l[l.length - 1] = L := ⟨_, rfl⟩; simp [h0, hpos, hT, Tok.row, hw, hw1, hlt, hL]; obtain ⟨R, hR⟩ : ∃ R, numsA fin bs t l.tail [] = R := ⟨_, rfl⟩; rw [hR]; refine ALoop.intro (S := fun (x : Nat × List Int) => ⟨[(0, .pv (.seq false 3 (l.map Tok.row))), (2, .pv (.seq false 1 (irow (bs.map (·.1))))), (3, .pv (.seq false 1 (irow (bs.map (·.2))))), (4, .pv (I64 fin)), (13, .pv (.ptr 0 0)), (14, .own true 1 (irow x.2)), (43, .pv (I64 bs.length)), (44, .pv (I64 x.1))], [[.pv (I64 L.ln), .pv (I64 L.at_), .pv (ST L.tx)]]⟩) (fun x => x.1 ≤ bs.length ∧ x.2.length = x.1 ∧ ∃ p, l[x.1]? = some p ∧ numsA fin (bs.drop x.1) p (l.drop (x.1 + 1)) x.2 = R) (fun x => bs.length - x.1) (0, []) ?_ ⟨Nat.zero_le _, rfl, t, by simp [hpos, hT], by simpa using hR⟩ ?_
 ·exact (Weak.nilOwn (s := 14) 1 true (by simp)).trans (Weak.to (by simp [irow]) (by simp [Tok.row]) (by simp) (by simp [belowR_tok]) (by simp))
 rintro ⟨i, acc⟩ ⟨hi, ha, p, hp, hn⟩; dsimp only at hi ha hp hn; obtain ⟨hil, hip⟩ := List.getElem?_eq_some_iff.1 hp; have hw2 := wnx i; by_cases h : i < bs.length
 ·rw [List.drop_eq_getElem_cons h] at hn; obtain ⟨b, hb⟩ : ∃ b, bs[i] = b := ⟨_, rfl⟩; rw [hb] at hn; by_cases h2 : i + 1 < l.length
  ·have h2' : ¬ (l.length : Int) ≤ (i : Int) + 1 := by omega
   rw [List.drop_eq_getElem_cons h2] at hn; obtain ⟨q, hq⟩ : ∃ q, l[i + 1] = q := ⟨_, rfl⟩; rw [hq, numsA_cons] at hn; simp [h, h2, hw2, h2', hq, hb, irow, Tok.row]; refine ⟨by omega, CallQ0.intro (number_ok q.tx (ht q (by rw [← hq]; exact List.getElem_mem _)).1 b.1 b.2) ?_ (by simp [numPV])⟩; simp [numPV]; by_cases hf : (numF q.tx b.1 b.2).2 = okN
   ·rw [if_pos hf] at hn; have hf0 : (numF q.tx b.1 b.2).2 = 0 := hf; simp [hf0]; refine ⟨by omega, (i + 1, acc ++ [(numF q.tx b.1 b.2).1]), by dsimp only; omega, ⟨by dsimp only; omega, by simp; omega, q, by simp [h2, hq], hn⟩, ?_⟩; have hbb : ∀ (f : Int × Int → Int), belowR 1 (bs.map ((fun i => [I64 i]) ∘ f)) := fun f => by
     rw [belowR_iff]; intro r hr x hx; obtain ⟨y, _, rfl⟩ := List.mem_map.1 hr; simp at hx; subst hx; trivial
    exact Weak.to (by simp [hw2, irow]) (by simp) (by simp) (by simp [belowR_tok, hbb]) (by simp)
   ·rw [if_neg hf] at hn; have hf0 : ¬ (numF q.tx b.1 b.2).2 = 0 := hf; simp [hf0, ← hn, numsPV]
  ·have h2' : (l.length : Int) ≤ (i : Int) + 1 := by omega
   rw [@List.drop_eq_nil_of_le _ l (i + 1) (by omega)] at hn; have hLp : L = p := by rw [← hL, ← hip]; congr 1; omega
   have hlp := ht p (by rw [← hip]; exact List.getElem_mem _); have hw3 : w64 ((p.at_ : Int) + p.tx.size) = ((p.at_ + p.tx.size : Nat) : Int) := by rw [w64_id (by omega) (by omega)]; omega
   rw [numsA_short] at hn; simp [h, hw2, h2', hLp, hw3, ← hn, numsPV, eShort, Tok.row]
 ·have hie : i = bs.length := by omega
  subst hie; rw [List.drop_eq_nil_of_le (Nat.le_refl _)] at hn; by_cases h2 : bs.length + 1 < l.length
  ·have h2' : (acc.length : Int) + 1 < l.length := by omega
   rw [List.drop_eq_getElem_cons h2] at hn; obtain ⟨q, hq⟩ : ∃ q, l[bs.length + 1] = q := ⟨_, rfl⟩; rw [hq, numsA_rest] at hn; have hq' : l[acc.length + 1]? = some q := by rw [ha, List.getElem?_eq_getElem h2, hq]
   have hw3 : w64 ((acc.length : Int) + 1) = ((acc.length + 1 : Nat) : Int) := wnx _; simp [h2', hw3, ← hn, hq', numsPV, eRest, Tok.row, irow]; omega
  ·rw [@List.drop_eq_nil_of_le _ l (bs.length + 1) (by omega)] at hn; have h2' : ¬ (acc.length : Int) + 1 < l.length := by omega
   rw [numsA_done] at hn; have hw3 : w64 ((acc.length : Int) + 1) = ((acc.length + 1 : Nat) : Int) := wnx _; simp [h2', hw3, ← hn, numsPV, okN, Tok.row, irow]
theorem u8_eq (b c : UInt8) : ((b.toNat : Int) = (c.toNat : Int)) ↔ b = c := by
 constructor
 ·intro h; apply UInt8.toNat_inj.1; omega
 ·intro h; rw [h]
theorem refGap_ok (b : UInt8) : APure Tryz.prog 119 [U8 b] (fun r => r = .pv (BL (gapB b))) := by
 refine apure1 hmo Tryz.func119 ?_; have h1 : ((b.toNat : Int) = 32) ↔ b = 32 := u8_eq b 32; have h2 : ((b.toNat : Int) = 9) ↔ b = 9 := u8_eq b 9; have h3 : ((b.toNat : Int) = 13) ↔ b = 13 := u8_eq b 13; have hg : gapB b = (decide (b = 32) || (decide (b = 9) || decide (b = 13))) := by
  unfold gapB; rw [Bool.or_assoc, Bool.beq_eq_decide_eq, Bool.beq_eq_decide_eq, Bool.beq_eq_decide_eq]
 by_cases c1 : b = 32
 ·subst c1; simp; decide
 ·by_cases c2 : b = 9
  ·subst c2; simp; decide
  ·simp [h1, h2, h3, c1, c2, hg]
theorem rem_ext {s : ByteArray} {a E : Nat} (hE : E ≤ s.size) (ha : a ≤ E) : remB s a E = true ↔ s.extract a E = ⟨#[99]⟩ ∨ (a + 2 ≤ E ∧ s.extract a (a + 2) = ⟨#[99, 32]⟩) := by
 rw [← remB_shift hE ha, remB_iff]; have hz : (s.extract a E).size = E - a := by rw [ByteArray.size_extract]; omega
 have hp : preS (s.extract a E) ⟨#[99, 32]⟩ = true ↔ (a + 2 ≤ E ∧ s.extract a (a + 2) = ⟨#[99, 32]⟩) := by
  unfold preS; rw [Bool.and_eq_true, decide_eq_true_eq, decide_eq_true_eq, hz, show (ByteArray.mk #[99, 32]).size = 2 from rfl]; constructor
  ·rintro ⟨h1, h2⟩; rw [extract_extract (by omega)] at h2; exact ⟨by omega, h2⟩
  ·rintro ⟨h1, h2⟩; rw [extract_extract (by omega)]; exact ⟨by omega, h2⟩
 rw [hp]
theorem toks_over (s : ByteArray) (E : Nat) : toks s E (E + 1) = [] := by
 rw [toks_eq, if_neg]; rw [nxt_eq, if_neg (by omega)]; omega
set_option maxRecDepth 16000 in
theorem refLines_ok (s : ByteArray) (hs : s.size ≤ 1000000) : APure Tryz.prog 52 [ST s] (fun r => r = .pv (.seq true 1 ((lns s 0 0).map lnR))) := by
 refine apureX [] [.tmp 2] hmo Tryz.func52 ?_; simp; refine ALoop.intro (S := fun (y : Nat × List (List Tok)) => ⟨[(0, .pv (ST s)), (3, .own true 1 (y.2.map lnR)), (4, .pv (I64 y.1))], []⟩) (fun y => y.1 ≤ s.size + 1 ∧ y.2.length ≤ y.1 ∧ y.2 ++ lns s y.1 y.2.length = lns s 0 0) (fun y => s.size + 1 - y.1) (0, []) ?_ ⟨Nat.zero_le _, Nat.zero_le _, rfl⟩ ?_
 ·exact (Weak.nilOwn (s := 3) 1 true (by simp)).trans (Weak.to (by simp) rfl (by simp) (by simp) (by simp))
 rintro ⟨a, ls⟩ ⟨h1, h2, h3⟩; dsimp only at h1 h2 h3; by_cases h : a < s.size; rotate_left
 ·have h' : ¬ (a : Int) < s.size := by omega
  rw [lns_eq, if_neg h, List.append_nil] at h3; simp [h', h3]
 have h' : (a : Int) < s.size := by omega
 rw [lns_eq, if_pos h] at h3; have hE1 := lend_le (s := s) (a := a) (by omega); have hE2 := lend_ge s a; simp [h']; refine ALoop.intro (S := fun (e : Nat) => ⟨[(0, .pv (ST s)), (3, .own true 1 (ls.map lnR)), (4, .pv (I64 a)), (5, .pv (I64 e))], []⟩) (fun e => a ≤ e ∧ e ≤ s.size ∧ nxt (· == 10) s s.size e = lend s a) (fun e => s.size - e) a ?_ ⟨Nat.le_refl _, by omega, rfl⟩ ?_
 ·exact Weak.keep (by simp) (by simp)
 rintro e ⟨he1, he2, he3⟩; have hw := wnx e; have hb : ((((s[e]?.getD 0).toNat : Nat) : Int) = 10) ↔ byt s e = 10 := u8_eq _ 10; simp [hb]; refine ⟨fun c1 c2 => ⟨e + 1, by dsimp only; omega, ⟨by omega, by omega, ?_⟩, Weak.keep (by simp [hw]) (by simp)⟩, fun hx => ?_⟩
 ·rw [← he3, nxt_eq _ s s.size e, if_pos c1, if_neg (by simpa using c2)]
 have hEe : lend s a = e := by
  rw [← he3, nxt_eq]; by_cases c : e < s.size
  ·rw [if_pos c, if_pos (by rw [hx c]; rfl)]
  ·rw [if_neg c]
 rw [hEe] at h3; clear hw hb hx he3 hEe hE1 hE2; have hw1 : w64 ((e : Int) - a) = ((e - a : Nat) : Int) := by rw [w64_id (by omega) (by omega)]; omega
 have hw2 : w64 ((a : Int) + 2) = (a : Int) + 2 := w64_id (by omega) (by omega); rw [hw1, hw2]; refine ⟨⟨he1, he2⟩, fun c1 c2 => ⟨⟨c1, c2⟩, by omega, by omega⟩, fun c1 => ⟨c1, fun c2 => ⟨c1, c2⟩⟩, ?_⟩; have hrem := rem_ext he2 he1; refine ALoop.intro (S := fun (y : Nat × List Tok) => ⟨[(0, .pv (ST s)), (3, .own true 1 (ls.map lnR)), (4, .pv (I64 a)), (5, .pv (I64 e)), (6, .own true 3 (y.2.map Tok.row)), (7, .pv (BL (remB s a e))), (8, .pv (I64 y.1))], []⟩) (fun y => a ≤ y.1 ∧ y.1 ≤ e + 1 ∧ y.2.length ≤ y.1 ∧ (remB s a e = true → y.2 = []) ∧ (remB s a e = false → y.2 ++ (toks s e y.1).map (fun p => (⟨ls.length + 1, p.1, s.extract p.1 p.2⟩ : Tok)) = (toks s e a).map (fun p => (⟨ls.length + 1, p.1, s.extract p.1 p.2⟩ : Tok)))) (fun y => e + 1 - y.1) (a, []) ?_ ⟨Nat.le_refl _, by dsimp only; omega, Nat.zero_le _, fun _ => rfl, fun _ => rfl⟩ ?_
 ·refine (Weak.nilOwn (s := 6) 3 true (by simp)).trans (Weak.to ?_ rfl (by simp) (by simp) (by simp)); have e1 : ((a : Int) + 2).toNat = a + 2 := by omega
  have e2 : (2 : Int) ≤ ((e - a : Nat) : Int) ↔ a + 2 ≤ e := by omega
  have e3 : remB s a e = (decide (s.extract a e = ⟨#[99]⟩) || (decide ((2 : Int) ≤ ((e - a : Nat) : Int)) && decide (s.extract a ((a : Int) + 2).toNat = ⟨#[99, 32]⟩))) := by
   rw [Bool.eq_iff_iff, hrem, Bool.or_eq_true, Bool.and_eq_true, decide_eq_true_eq, decide_eq_true_eq, decide_eq_true_eq, e1, e2]
  simp [e3]
 rintro ⟨i, ts⟩ ⟨hi1, hi2, hil, ht1, ht2⟩; dsimp only at hi1 hi2 hil ht1 ht2; have hg := refGap_ok (byt s i); unfold byt at hg; by_cases c1 : i < e ∧ remB s a e = false
 ·have c1' : (i : Int) < e := by omega
  have hlt : i < s.size := by omega
  have hw3 := wnx i; simp [c1.1, c1.2]; refine ⟨hlt, CallK.intro hg ?_⟩; by_cases g : gapB (byt s i) = true
  ·have g' : gapB (s[i]?.getD 0) = true := g; simp [g']; refine ⟨(i + 1, ts), by dsimp only; omega, ⟨by dsimp only; omega, by dsimp only; omega, by dsimp only; omega, ?_⟩, Weak.keep (by simp [hw3, c1.2]) (by simp)⟩; dsimp only; rw [← toks_gap c1.1 g]; exact ht2 c1.2
  have g' : gapB (s[i]?.getD 0) = false := by
   have : gapB (byt s i) = false := by simpa using g
   exact this
  have ht2 := ht2 c1.2; rw [toks_word c1.1 g] at ht2; simp [g']; refine ALoop.intro (S := fun (k : Nat) => ⟨[(0, .pv (ST s)), (3, .own true 1 (ls.map lnR)), (4, .pv (I64 a)), (5, .pv (I64 e)), (6, .own true 3 (ts.map Tok.row)), (7, .pv (BL (remB s a e))), (8, .pv (I64 i)), (9, .pv (I64 k))], []⟩) (fun k => i ≤ k ∧ k ≤ e ∧ (k = i ∨ nxt gapB s e k = nxt gapB s e (i + 1))) (fun k => e - k) i ?_ ⟨Nat.le_refl _, by omega, .inl rfl⟩ ?_
  ·exact Weak.keep (by simp [c1.2]) (by simp)
  rintro k ⟨hk1, hk2, hk3⟩; have hgk := refGap_ok (byt s k); unfold byt at hgk; have hw4 := wnx k; simp; refine ⟨fun c => by omega, CallG.intro (fun _ => hgk) ?_⟩; simp; have hbk : gapB (s[k]?.getD 0) = gapB (byt s k) := rfl; rw [hbk]; refine ⟨fun d1 d2 => ⟨k + 1, by dsimp only; omega, ⟨by omega, by omega, .inr ?_⟩, Weak.keep (by simp [hw4, c1.2]) (by simp)⟩, fun hx => ?_⟩
  ·rcases hk3 with rfl | hk3
   ·rfl
   ·rw [← hk3, nxt_eq gapB s e k, if_pos d1, if_neg (by rw [d2]; simp)]
  have hkN : nxt gapB s e (i + 1) = k := by
   rcases hk3 with rfl | hk3
   ·exact absurd (hx c1.1) g
   ·rw [← hk3, nxt_eq]; by_cases d : k < e
    ·rw [if_pos d, if_pos (hx d)]
    ·rw [if_neg d]
  rw [hkN] at ht2; have hw5 : w64 ((ls.length : Int) + 1) = ((ls.length + 1 : Nat) : Int) := wnx _; have htk : toks s e k = toks s e (k + 1) := by
   by_cases d : k < e
   ·exact toks_gap d (hx d)
   ·have : k = e := by omega
    subst this; rw [toks_end, toks_over]
  rw [htk] at ht2; refine ⟨⟨by omega, by omega⟩, by omega, (k + 1, ts ++ [⟨ls.length + 1, i, s.extract i k⟩]), by dsimp only; omega, ⟨by dsimp only; omega, by dsimp only; omega, by simp; omega, by simpa using ht2⟩, ?_⟩; exact Weak.to (by simp [hw4, hw5, Tok.row, c1.2]) (by simp) (by simp) (by simp [Tok.row]) (by simp)
 ·have hfin : tokL s (ls.length + 1) a e = ts := by
   unfold tokL wrds; by_cases d : remB s a e = true
   ·rw [if_pos d, ht1 d]; rfl
   ·have d' : remB s a e = false := by simpa using d
    have hie : e ≤ i := Nat.le_of_not_lt fun d2 => c1 ⟨d2, d'⟩; have hto : toks s e i = [] := by
     by_cases d2 : i = e
     ·subst d2; exact toks_end s i
     ·have : i = e + 1 := by omega
      subst this; exact toks_over s e
    rw [if_neg d, ← ht2 d', hto]; simp
  rw [hfin] at h3; have hw6 := wnx e; have c1' : ¬ ((i : Int) < e ∧ remB s a e = false) := fun c => c1 ⟨by omega, c.2⟩; simp; refine ⟨fun d1 d2 => absurd ⟨d1, d2⟩ c1, fun _ => ?_⟩; refine ⟨by omega, (e + 1, ls ++ [ts]), by dsimp only; omega, ⟨by dsimp only; omega, by simp; omega, by simpa using h3⟩, ?_⟩; exact Weak.to (by simp [hw6, lnR]) (by simp) (by simp) (by simp [lnR]) (by simp [lnR])
end Go.AX

namespace Go.AX
open Go.Proofs Go.Shelf
set_option linter.unusedSimpArgs false
def decI (x : Int) : List UInt8 := if x = 0 then [] else dgs x.natAbs
theorem ntd (x : Int) : (x.tdiv 10).natAbs = x.natAbs / 10 := Int.natAbs_tdiv x 10
theorem ntm (x : Int) : (x.tmod 10).natAbs = x.natAbs % 10 := Int.natAbs_tmod x 10
theorem decI_next {x : Int} (h : x ≠ 0) : decI x = decI (x.tdiv 10) ++ [UInt8.ofNat (48 + (x.tmod 10).natAbs)] := by
 have h1 := ntd x; unfold decI; rw [if_neg h, h1, ntm, dgs]; by_cases c : x.natAbs < 10
 ·have e : x.tdiv 10 = 0 := by omega
  rw [dif_pos c, if_pos e, Nat.mod_eq_of_lt c]; rfl
 ·have e : ¬ x.tdiv 10 = 0 := by omega
  rw [dif_neg c, if_neg e]
theorem son1 (k : Nat) : strOfNums [(k : Int)] = ⟨⟨[UInt8.ofNat k]⟩⟩ := rfl
theorem dgs_len {n : Nat} (h : n ≤ 9223372036854775808) : (dgs n).length ≤ 19 := by
 by_cases c : 1 < (dgs n).length
 ·have h1 := valD_ge (dgs_can n) c; rw [valD_dgs] at h1; refine Decidable.byContradiction fun h2 => ?_; have h3 : 10 ^ 19 ≤ 10 ^ ((dgs n).length - 1) := Nat.pow_le_pow_right (by omega) (by omega); have : (10 : Nat) ^ 19 = 10000000000000000000 := rfl; omega
 ·omega
theorem decI_len {x : Int} (h1 : -9223372036854775808 ≤ x) (h2 : x ≤ 9223372036854775807) : (decI x).length ≤ 19 := by
 unfold decI; split
 ·simp
 ·exact dgs_len (by omega)
theorem dgZ_dec {n : Int} (h : n ≠ 0) : dgZ n = if n < 0 then ⟨⟨45 :: decI n⟩⟩ else ⟨⟨decI n⟩⟩ := by
 unfold dgZ decI; rw [if_neg h]
set_option maxRecDepth 16000 in
theorem refDigitsZ_ok (n : Int) (h1 : -9223372036854775808 ≤ n) (h2 : n ≤ 9223372036854775807) : APure Tryz.prog 310 [I64 n] (fun r => r = .pv (ST (dgZ n))) := by
 refine apure1 hmo Tryz.func310 ?_; by_cases h0 : n = 0
 ·subst h0; have : dgZ 0 = ⟨#[48]⟩ := by unfold dgZ; rw [if_neg (by decide), show (0 : Int).natAbs = 0 from rfl, dgs]; rfl
  simp [this]
 have hl := decI_len h1 h2; simp [h0]; refine ALoop.intro (S := fun (x : Int × ByteArray) => ⟨[(0, .pv (I64 n)), (3, .pv (ST x.2)), (4, .pv (I64 x.1))], []⟩) (fun x => -9223372036854775808 ≤ x.1 ∧ x.1 ≤ 9223372036854775807 ∧ decI x.1 ++ bts x.2 = decI n) (fun x => x.1.natAbs) (n, ⟨#[]⟩) ?_ ⟨h1, h2, by simp [bts]⟩ ?_
 ·exact Weak.keep (by simp) (by simp)
 rintro ⟨x, s⟩ ⟨hx1, hx2, hd⟩; dsimp only at hx1 hx2 hd; have hsz : s.size ≤ 19 := by
  have := congrArg List.length hd; rw [List.length_append] at this; have e : (bts s).length = s.size := rfl; omega
 by_cases hk0 : x = 0
 ·subst hk0; have hs : s = ⟨⟨decI n⟩⟩ := by
   rw [← hd]; rfl
  have hz := dgZ_dec h0; by_cases hn : n < 0
  ·rw [if_pos hn] at hz; simp [hn, hs, hz]; refine ⟨by rw [bsz, bsz]; simp only [List.length_cons, List.length_nil]; omega, ?_⟩; apply ByteArray.ext; simp
  ·rw [if_neg hn] at hz; simp [hn, hs, hz]
 have h3 := ntd x; have h4 := ntm x; have hq : w64 (x.tdiv 10) = x.tdiv 10 := w64_id (by omega) (by omega); have hnx := decI_next hk0; rw [h4] at hnx; have key : decI (x.tdiv 10) ++ bts (⟨⟨[UInt8.ofNat (48 + x.natAbs % 10)]⟩⟩ ++ s) = decI n := by
  rw [← hd, hnx, List.append_assoc]; congr 1
 have hsz1 : (⟨⟨[UInt8.ofNat (48 + x.natAbs % 10)]⟩⟩ : ByteArray).size = 1 := rfl; simp [hk0, hq]; refine ⟨fun c => ?_, fun c => ?_⟩
 ·have hw : IntKind.u8.wrap (w64 (48 + -x.tmod 10)) = ((48 + x.natAbs % 10 : Nat) : Int) := by rw [w64_id (by omega) (by omega), IntKind.wrap_u8]; omega
  rw [hw, son1, hsz1]; refine ⟨by omega, (x.tdiv 10, ⟨⟨[UInt8.ofNat (48 + x.natAbs % 10)]⟩⟩ ++ s), by dsimp only; omega, ⟨by dsimp only; omega, by dsimp only; omega, key⟩, Weak.keep (by simp) (by simp)⟩
 ·have hw : IntKind.u8.wrap (w64 (48 + x.tmod 10)) = ((48 + x.natAbs % 10 : Nat) : Int) := by rw [w64_id (by omega) (by omega), IntKind.wrap_u8]; omega
  rw [hw, son1, hsz1]; refine ⟨by omega, (x.tdiv 10, ⟨⟨[UInt8.ofNat (48 + x.natAbs % 10)]⟩⟩ ++ s), by dsimp only; omega, ⟨by dsimp only; omega, by dsimp only; omega, key⟩, Weak.keep (by simp) (by simp)⟩
theorem cp_all (s : ByteArray) : (cpS s = true ↔ 0 < s.size ∧ byt s 0 = 45) ∧ (cpS s = true → (cpT s).size + 1 = s.size ∧ ∀ j, byt (cpT s) j = byt s (j + 1)) ∧ (cpS s = false → cpT s = s) := by
 obtain ⟨⟨l⟩⟩ := s; rw [(cpS_cons l).1, (cpS_cons l).2, bsz, byt_list]
 match l with
 | [] => exact ⟨⟨fun h => (by cases h), fun h => (by have := h.1; simp at this)⟩, fun h => (by cases h), fun _ => rfl⟩
 | b :: r =>
  by_cases hb : b = 45
  ·subst hb; refine ⟨⟨fun _ => ⟨by simp, rfl⟩, fun _ => rfl⟩, fun _ => ⟨by rw [bsz]; rfl, fun j => (by rw [byt_list, byt_list]; rfl)⟩, fun h => (by cases h)⟩
  ·have e : signD (b :: r) = (false, b :: r) := by
    unfold signD; split
    ·rename_i h; simp at h; exact absurd h.1 hb
    ·rfl
   rw [e]; exact ⟨⟨fun h => (by cases h), fun h => absurd h.2 hb⟩, fun h => (by cases h), fun _ => rfl⟩
set_option maxRecDepth 16000 in
theorem refNumber_ok (s : ByteArray) (hs : s.size ≤ 1000000) (lo hi' : Int) : APure Tryz.prog 220 [ST s, I64 lo, I64 hi'] (fun r => r = .pv (numPV s lo hi')) := by
 refine apureX [] [.tmp 6, .tmp 7] hmo Tryz.func220 ?_; obtain ⟨c1, c2, c3⟩ := cp_all s; have hb0 : ((((s[0]?.getD 0).toNat : Nat) : Int) = 45) ↔ byt s 0 = 45 := u8_eq _ 45; have hpv : numPV s lo hi' = .tup [I64 (numF s lo hi').1, I64 (numF s lo hi').2] := rfl; rw [hpv]; simp [hb0]; refine ⟨fun d1 d2 => ?_, fun d => ?_⟩
 ·have hc : cpS s = true := c1.2 ⟨d1, d2⟩; obtain ⟨hz, hy⟩ := c2 hc; have h48 : ((((s[1]?.getD 0).toNat : Nat) : Int) = 48) ↔ byt s 1 = 48 := u8_eq _ 48; have hbd : badH (cpT s) (cpS s) ↔ ((1 : Int) = s.size ∨ (byt s 1 = 48 ∧ (1 : Int) < s.size)) := by
   have e0 := hy 0; have e1 : cpT s = ByteArray.empty ↔ (cpT s).size = 0 := ByteArray.size_eq_zero_iff.symm; unfold badH; rw [e0, hc, e1]; simp only [Nat.zero_add, Bool.false_eq_true, or_true, or_false, and_true]; constructor
   ·rintro (h | h)
    ·exact .inl (by omega)
    ·by_cases q : (1 : Int) = s.size
     ·exact .inl q
     ·exact .inr (by first | exact ⟨h.1, by omega⟩ | exact ⟨h, by omega⟩)
   ·rintro (h | h)
    ·exact .inl (by omega)
    ·exact .inr (by first | exact ⟨h.1, by omega⟩ | exact h.1)
  simp [h48]; refine ⟨fun h => ⟨h, by omega⟩, fun h => ⟨h, fun h2 => ⟨h, h2⟩⟩, fun h => ?_, fun q1 q2 => ?_⟩
  ·rw [numF_bad (fun k => k.1 (hbd.2 h))]; exact ⟨rfl, rfl⟩
  have hnb : ¬ badH (cpT s) (cpS s) := fun h => by
   rcases hbd.1 h with h | h
   ·exact q1 h
   ·have := q2 h.1; omega
  obtain ⟨F, hF⟩ : ∃ F : Nat, F = 1 := ⟨_, rfl⟩; have hFz : (cpT s).size + F = s.size := by rw [hF]; exact hz
  have hFy : ∀ j, byt (cpT s) j = byt s (j + F) := by rw [hF]; exact hy
  have hnv : numV s = -(valT (cpT s) (cpT s).size : Int) := by unfold numV; rw [hc]; simp
  have hF1 : ((F : Int) = 1) ↔ (1 : Int) = 1 := by rw [hF]; rfl
  clear hz hy hbd h48 hb0 c1 c2 c3; refine ALoop.intro (S := fun (i : Nat) => ⟨[(0, .pv (ST s)), (1, .pv (I64 lo)), (2, .pv (I64 hi')), (8, .pv (I64 F)), (9, .pv (I64 i))], []⟩) (fun i => F ≤ i ∧ i ≤ s.size ∧ ∀ j, F ≤ j → j < i → isDg (byt s j) = true) (fun i => s.size - i) F ?_ ⟨Nat.le_refl _, by omega, fun j h1 h2 => by omega⟩ ?_
  ·exact Weak.keep (by simp [hF]) (by simp)
  rintro i ⟨hi1, hi2, hall⟩; have hwi := wnx i; by_cases hlt : i < s.size
  ·have hlt' : (i : Int) < s.size := by omega
   by_cases g : isDg (byt s i) = true
   ·have g' := isDg_iff.1 g; unfold byt at g'; have g1 : ¬ (((s[i]?.getD 0).toNat : Nat) : Int) < 48 := by omega
    have g2 : ¬ (57 : Int) < (((s[i]?.getD 0).toNat : Nat) : Int) := by omega
    simp [hlt', g1, g2]; refine ⟨i + 1, by dsimp only; omega, ⟨by omega, by omega, fun j h1 h2 => ?_⟩, Weak.keep (by simp [hwi]) (by simp)⟩; by_cases e : j = i
    ·subst e; exact g
    ·exact hall j h1 (by omega)
   ·have g' : ¬ (48 ≤ (byt s i).toNat ∧ (byt s i).toNat ≤ 57) := fun e => g (isDg_iff.2 e); unfold byt at g'; have hA : ¬ okNum s := fun h => g (by
     have := h.2 (i - F) (by omega); rw [hFy, show i - F + F = i by omega] at this; exact this)
    rw [numF_bad hA]; simp [hlt', eForm]; exact fun h1 h2 => absurd ⟨by omega, by omega⟩ g'
  have hie : i = s.size := by omega
  subst hie; have hok : okNum s := ⟨hnb, fun j hj => by rw [hFy]; exact hall _ (by omega) (by omega)⟩; have hN := numF_ok hok lo hi'; have hw19 : w64 ((s.size : Int) - F) = ((cpT s).size : Int) := by rw [w64_id (by omega) (by omega)]; omega
  have hfar := okNum_far hok; have hwr := dgZ_wrap hok; simp [hw19]; refine ⟨fun h => ?_, fun h => ?_⟩
  ·rw [hN, if_pos (by have := hfar (by omega); omega)]; exact ⟨rfl, rfl⟩
  refine ALoop.intro (S := fun (i : Nat) => ⟨[(0, .pv (ST s)), (1, .pv (I64 lo)), (2, .pv (I64 hi')), (8, .pv (I64 F)), (10, .pv (I64 (w64 (-(valT (cpT s) i : Int))))), (11, .pv (I64 ((i + F : Nat) : Int)))], []⟩) (fun i => i ≤ (cpT s).size) (fun i => (cpT s).size - i) 0 ?_ (Nat.zero_le _) ?_
  ·exact Weak.keep (by simp [valT, w64_id]) (by simp)
  intro i hi; have hwi := wnx (i + F); by_cases hlt : i < (cpT s).size
  ·have hlt' : ((i + F : Nat) : Int) < s.size := by omega
   have g := isDg_iff.1 (hok.2 i hlt); have hvn : valT (cpT s) (i + 1) = 10 * valT (cpT s) i + ((byt (cpT s) i).toNat - 48) := rfl; rw [hFy] at g hvn; unfold byt at g hvn; have hT1 : i + 1 + F = i + F + 1 := by omega
   have hval : -(valT (cpT s) (i + 1) : Int) = 10 * (-(valT (cpT s) i : Int)) + -(((s[i + F]?.getD 0).toNat : Int) - 48) := by omega
   generalize hT : i + F = T at *; simp [hlt', hF1]; have hTI : (i : Int) + 1 + F = (T : Int) + 1 := by omega
   refine ⟨i + 1, by dsimp only; omega, by dsimp only; omega, Weak.keep (by simp [hwi, hval, hTI]) (by simp)⟩
  have hie : i = (cpT s).size := by omega
  subst hie; rw [← hnv, hFz]; simp; refine CallK.intro (refDigitsZ_ok (w64 (numV s)) (w64_lo _) (w64_hi _)) ?_; simp [hwr]; by_cases hr : numV s < -9223372036854775808 ∨ 9223372036854775807 < numV s
  ·have hne : ¬ w64 (numV s) = numV s := fun e => by
    have h1 := w64_lo (numV s); have h2 := w64_hi (numV s); omega
   rw [hN, if_pos (by omega)]; exact ⟨fun _ => ⟨rfl, rfl⟩, fun e => absurd e hne⟩
  ·have he : w64 (numV s) = numV s := w64_id (by omega) (by omega); rw [he, hN]; by_cases hr2 : numV s < lo ∨ hi' < numV s
   ·rw [if_pos (by omega)]; exact ⟨fun _ => ⟨rfl, rfl⟩, fun _ h1 h2 => by omega⟩
   ·rw [if_neg (by omega)]; exact ⟨fun h => by omega, fun _ _ _ => ⟨rfl, rfl⟩⟩
 have hc : cpS s = false := Bool.eq_false_iff.2 fun h => d (c1.1 h).1 (c1.1 h).2; have hz : (cpT s).size + 0 = s.size := by rw [c3 hc]; rfl
 have hy : ∀ j, byt (cpT s) j = byt s (j + 0) := fun j => by rw [c3 hc]; rfl
 have h48 : ((((s[0]?.getD 0).toNat : Nat) : Int) = 48) ↔ byt s 0 = 48 := u8_eq _ 48; have hbd : badH (cpT s) (cpS s) ↔ ((0 : Int) = s.size ∨ (byt s 0 = 48 ∧ (1 : Int) < s.size)) := by
  have e0 := hy 0; have e1 : cpT s = ByteArray.empty ↔ (cpT s).size = 0 := ByteArray.size_eq_zero_iff.symm; unfold badH; rw [e0, hc, e1]; simp only [Nat.zero_add, Bool.false_eq_true, or_true, or_false, and_true]; constructor
  ·rintro (h | h)
   ·exact .inl (by omega)
   ·by_cases q : (0 : Int) = s.size
    ·exact .inl q
    ·exact .inr (by first | exact ⟨h.1, by omega⟩ | exact ⟨h, by omega⟩)
  ·rintro (h | h)
   ·exact .inl (by omega)
   ·exact .inr (by first | exact ⟨h.1, by omega⟩ | exact h.1)
 simp [h48]; refine ⟨fun h => ⟨h, by omega⟩, fun h => ⟨h, fun h2 => ⟨h, h2⟩⟩, fun h => ?_, fun q1 q2 => ?_⟩
 ·rw [numF_bad (fun k => k.1 (hbd.2 h))]; exact ⟨rfl, rfl⟩
 have hnb : ¬ badH (cpT s) (cpS s) := fun h => by
  rcases hbd.1 h with h | h
  ·exact q1 h
  ·have := q2 h.1; omega
 obtain ⟨F, hF⟩ : ∃ F : Nat, F = 0 := ⟨_, rfl⟩; have hFz : (cpT s).size + F = s.size := by rw [hF]; exact hz
 have hFy : ∀ j, byt (cpT s) j = byt s (j + F) := by rw [hF]; exact hy
 have hnv : numV s = (valT (cpT s) (cpT s).size : Int) := by unfold numV; rw [hc]; simp
 have hF1 : ((F : Int) = 1) ↔ (0 : Int) = 1 := by rw [hF]; rfl
 clear hz hy hbd h48 hb0 c1 c2 c3; refine ALoop.intro (S := fun (i : Nat) => ⟨[(0, .pv (ST s)), (1, .pv (I64 lo)), (2, .pv (I64 hi')), (8, .pv (I64 F)), (9, .pv (I64 i))], []⟩) (fun i => F ≤ i ∧ i ≤ s.size ∧ ∀ j, F ≤ j → j < i → isDg (byt s j) = true) (fun i => s.size - i) F ?_ ⟨Nat.le_refl _, by omega, fun j h1 h2 => by omega⟩ ?_
 ·exact Weak.keep (by simp [hF]) (by simp)
 rintro i ⟨hi1, hi2, hall⟩; have hwi := wnx i; by_cases hlt : i < s.size
 ·have hlt' : (i : Int) < s.size := by omega
  by_cases g : isDg (byt s i) = true
  ·have g' := isDg_iff.1 g; unfold byt at g'; have g1 : ¬ (((s[i]?.getD 0).toNat : Nat) : Int) < 48 := by omega
   have g2 : ¬ (57 : Int) < (((s[i]?.getD 0).toNat : Nat) : Int) := by omega
   simp [hlt', g1, g2]; refine ⟨i + 1, by dsimp only; omega, ⟨by omega, by omega, fun j h1 h2 => ?_⟩, Weak.keep (by simp [hwi]) (by simp)⟩; by_cases e : j = i
   ·subst e; exact g
   ·exact hall j h1 (by omega)
  ·have g' : ¬ (48 ≤ (byt s i).toNat ∧ (byt s i).toNat ≤ 57) := fun e => g (isDg_iff.2 e); unfold byt at g'; have hA : ¬ okNum s := fun h => g (by
    have := h.2 (i - F) (by omega); rw [hFy, show i - F + F = i by omega] at this; exact this)
   rw [numF_bad hA]; simp [hlt', eForm]; exact fun h1 h2 => absurd ⟨by omega, by omega⟩ g'
 have hie : i = s.size := by omega
 subst hie; have hok : okNum s := ⟨hnb, fun j hj => by rw [hFy]; exact hall _ (by omega) (by omega)⟩; have hN := numF_ok hok lo hi'; have hw19 : w64 ((s.size : Int) - F) = ((cpT s).size : Int) := by rw [w64_id (by omega) (by omega)]; omega
 have hfar := okNum_far hok; have hwr := dgZ_wrap hok; simp [hw19]; refine ⟨fun h => ?_, fun h => ?_⟩
 ·rw [hN, if_pos (by have := hfar (by omega); omega)]; exact ⟨rfl, rfl⟩
 refine ALoop.intro (S := fun (i : Nat) => ⟨[(0, .pv (ST s)), (1, .pv (I64 lo)), (2, .pv (I64 hi')), (8, .pv (I64 F)), (10, .pv (I64 (w64 ((valT (cpT s) i : Int))))), (11, .pv (I64 ((i + F : Nat) : Int)))], []⟩) (fun i => i ≤ (cpT s).size) (fun i => (cpT s).size - i) 0 ?_ (Nat.zero_le _) ?_
 ·exact Weak.keep (by simp [valT, w64_id]) (by simp)
 intro i hi; have hwi := wnx (i + F); by_cases hlt : i < (cpT s).size
 ·have hlt' : ((i + F : Nat) : Int) < s.size := by omega
  have g := isDg_iff.1 (hok.2 i hlt); have hvn : valT (cpT s) (i + 1) = 10 * valT (cpT s) i + ((byt (cpT s) i).toNat - 48) := rfl; rw [hFy] at g hvn; unfold byt at g hvn; have hT1 : i + 1 + F = i + F + 1 := by omega
  have hval : (valT (cpT s) (i + 1) : Int) = 10 * ((valT (cpT s) i : Int)) + (((s[i + F]?.getD 0).toNat : Int) - 48) := by omega
  generalize hT : i + F = T at *; simp [hlt', hF1]; have hTI : (i : Int) + 1 + F = (T : Int) + 1 := by omega
  refine ⟨i + 1, by dsimp only; omega, by dsimp only; omega, Weak.keep (by simp [hwi, hval, hTI]) (by simp)⟩
 have hie : i = (cpT s).size := by omega
 subst hie; rw [← hnv, hFz]; simp; refine CallK.intro (refDigitsZ_ok (w64 (numV s)) (w64_lo _) (w64_hi _)) ?_; simp [hwr]; by_cases hr : numV s < -9223372036854775808 ∨ 9223372036854775807 < numV s
 ·have hne : ¬ w64 (numV s) = numV s := fun e => by
   have h1 := w64_lo (numV s); have h2 := w64_hi (numV s); omega
  rw [hN, if_pos (by omega)]; exact ⟨fun _ => ⟨rfl, rfl⟩, fun e => absurd e hne⟩
 ·have he : w64 (numV s) = numV s := w64_id (by omega) (by omega); rw [he, hN]; by_cases hr2 : numV s < lo ∨ hi' < numV s
  ·rw [if_pos (by omega)]; exact ⟨fun _ => ⟨rfl, rfl⟩, fun _ h1 h2 => by omega⟩
  ·rw [if_neg (by omega)]; exact ⟨fun h => by omega, fun _ _ _ => ⟨rfl, rfl⟩⟩
end Go.AX

namespace Go.AX
open Go.Proofs
set_option linter.unusedSimpArgs false
def skp : Nat → List (List Tok) → List (List Tok)
 | 0, R => R
 | n + 1, R => skp n (nextA R).2
theorem skp_succ : ∀ (n : Nat) (R : List (List Tok)), skp (n + 1) R = (nextA (skp n R)).2
 | 0, _ => rfl
 | n + 1, R => skp_succ n (nextA R).2
theorem said_tail (R : List (List Tok)) : said (nextA R).2 = (said R).tail := by
 have h := next_said R; by_cases c : (nextA R).1 = []
 ·rw [if_pos c] at h; rw [h, next_nil R c]; rfl
 ·rw [if_neg c] at h; rw [h]; rfl
theorem said_skp : ∀ (n : Nat) (R : List (List Tok)), said (skp n R) = (said R).drop n
 | 0, R => rfl
 | n + 1, R => by rw [skp, said_skp n, said_tail, List.drop_tail]
theorem hd_said (R : List (List Tok)) : hd (said R) = (nextA R).1 := by
 have h := next_said R; by_cases c : (nextA R).1 = []
 ·rw [if_pos c] at h; rw [h, c]; rfl
 ·rw [if_neg c] at h; rw [h]; rfl
theorem next_mem : ∀ (R : List (List Tok)) (l : List Tok), ((nextA R).1 = l → l ≠ [] → l ∈ R) ∧ (l ∈ (nextA R).2 → l ∈ R)
 | [], l => ⟨fun h1 h2 => absurd h1.symm h2, fun h => h⟩
 | [] :: R, l => ⟨fun h1 h2 => List.mem_cons_of_mem _ ((next_mem R l).1 h1 h2), fun h => List.mem_cons_of_mem _ ((next_mem R l).2 h)⟩
 | (t :: k) :: R, l => ⟨fun h1 _ => by rw [← h1]; exact List.mem_cons_self .., fun h => List.mem_cons_of_mem _ h⟩
def linesOk (R : List (List Tok)) : Prop := R.length ≤ 1000000 ∧ ∀ l ∈ R, l.length ≤ 1000000 ∧ ∀ t ∈ l, t.tx.size ≤ 1000000 ∧ t.at_ ≤ 1000000
theorem linesOk.next {R : List (List Tok)} (h : linesOk R) : linesOk (nextA R).2 ∧ (nextA R).1.length ≤ 1000000 ∧ ∀ t ∈ (nextA R).1, t.tx.size ≤ 1000000 ∧ t.at_ ≤ 1000000 := by
 refine ⟨⟨Nat.le_trans (next_len R).1 h.1, fun l hl => h.2 l ((next_mem R l).2 hl)⟩, ?_⟩; by_cases c : (nextA R).1 = []
 ·rw [c]; exact ⟨Nat.zero_le _, fun t ht => by cases ht⟩
 ·exact h.2 _ ((next_mem R _).1 rfl c)
theorem objChk_range (o : Obj) (h : (objChk o).2 ≠ 0) : ∃ k : Nat, (objChk o).1 = (k : Int) - 1 ∧ k ≤ o.rows.length := by
 unfold objChk at h ⊢; split at h
 ·rename_i c; rw [if_pos c]; unfold firstErr at h ⊢; split at h
  ·rename_i i hi; rw [List.find?_range_eq_some] at hi; have hi2 := hi.2.1; rw [List.mem_range] at hi2; exact ⟨i + 1, by simp only; omega, by omega⟩
  ·exact absurd rfl h
 ·rename_i c; rw [if_neg c]; exact ⟨0, rfl, Nat.zero_le _⟩
def takSch : Sch :=
 let s0 : Sch := .fork [(13, .take 14 (.take 15 (.take 16 .done)))]
 let s1 : Sch := .fork [(11, .take 15 (.take 16 .done))]
 let s2 : Sch := .fork [(11, s0), (13, .take 14 s1)]
 let s3 : Sch := .fork [(7, .take 10 s2)]
 let s4 : Sch := .fork [(5, s3)]
 let s5 : Sch := .fork [(4, s4)]
 let s6 : Sch := .fork [(0, s0)]
 let s7 : Sch := .fork [(0, s2), (11, s6)]
 let s8 : Sch := .fork [(0, s3), (7, .take 10 s7)]
 let s9 : Sch := .fork [(0, s4), (5, s8)]
 let s10 : Sch := .fork [(0, s5), (4, s9)]
 .take 1 (.take 2 (.take 3 (.take 6 (.take 8 (.take 9 (.take 12 s10))))))
def robjT (o : Obj) : PV := .agg [I64 o.st, I64 o.kd, I64 o.ini, .seq true 4 (o.rows.map rrow)]
def takeY (k : TakeR) (R : List (List Tok)) : PV := .tup [robjT k.o, .seq false 1 (R.map lnF), I64 k.at_, I64 k.e]
set_option maxRecDepth 16000 in
theorem takeO_ok (R : List (List Tok)) (fin : Nat) (hR : linesOk R) (hf : fin ≤ 1000000) : AMut Tryz.prog 82 [.seq false 1 (R.map lnF), I64 fin] [] (fun r h' => h' = [] ∧ r = .pv (takeY (takeA fin (said R)) (if (takeA fin (said R)).e = 0 then skp (takeA fin (said R)).n R else []))) := by
 have hN : ∀ (l : List Tok) (w : ByteArray), l.length ≤ 1000000 → (∀ t ∈ l, t.tx.size ≤ 1000000 ∧ t.at_ ≤ 1000000) → APure Tryz.prog 158 [.seq false 3 (l.map Tok.row), ST w, .seq false 1 (irow [0, 0, 0, 0]), .seq false 1 (irow [1000000, 1000000, 1000000, 1000000]), I64 fin] (fun r => r = .pv (numsPV (lineA fin w bz4 l))) := fun l w h1 h2 => numbers_ok l w bz4 fin h1 (by decide) h2; obtain ⟨T, hT⟩ : ∃ T, takeA fin (said R) = T := ⟨_, rfl⟩; rw [hT]; unfold takeA at hT; dsimp only at hT; rw [hd_said] at hT; obtain ⟨hn1, hn2, hn3⟩ := hR.next
 refine amutXW [20] [.cell 4 _, .tmp 5, .tmp 6, .tmp 7] hmo Tryz.func82 ?_; simp; refine CallK.intro (bounds_ok 4 (by omega)) ?_; simp; refine CallK.introM (next_ok _ R hR.1) ?_; rintro _ _ ⟨rfl, rfl⟩; simp; refine CallK.intro (hN _ wObj hn2 hn3) ?_ (by simp [numsPV]; split <;> simp); by_cases c1 : (lineA fin wObj bz4 (nextA R).1).2.2 = 0; rotate_left
 ·rw [if_pos c1] at hT; have c1' : ¬ ((lineA fin wObj bz4 (nextA R).1).2.2 : Int) = 0 := by omega
  simp [numsPV, c1, ← hT, takeY, robjT, o0]
 rw [if_neg (by rw [c1]; simp)] at hT; have hlen : (lineA fin wObj bz4 (nextA R).1).1.length = 4 := (lineA_len c1).1; have hin := lineA_in c1; obtain ⟨_, _, t0, tr, htr, _⟩ := lineA_len c1
 revert hT hlen hin
 generalize hLL : lineA fin wObj bz4 (nextA R).1 = LL at c1 ⊢; obtain ⟨xs, fa⟩ := LL; intro hT hlen hin; dsimp only at hT hlen hin c1
 match xs, hlen with
 | [a, b, c, d], _ =>
 have hd3 := hin 3 (show 3 < 4 by omega) (show 3 < 4 by omega); have hd3 : 0 ≤ d ∧ d ≤ 1000000 := hd3; obtain ⟨n, rfl⟩ : ∃ n : Nat, d = n := ⟨d.toNat, by omega⟩; simp only [List.getD_cons_zero, List.getD_cons_succ, Int.toNat_natCast] at hT; clear hin hLL; have hsR := next_said R; rw [if_neg (by rw [htr]; simp)] at hsR; obtain ⟨RR, hRR⟩ : ∃ RR, rowsA fin n (said R).tail [] = RR := ⟨_, rfl⟩; rw [hRR] at hT; simp [numsPV, c1, irow]; refine ALoop.intro (S := fun (x : Nat × List (List Tok) × List ORow × List Int) => ⟨[(1, .pv (I64 fin)), (4, .pv (.ptr 0 0)), (5, .pv (.seq false 1 (x.2.1.map lnF))), (8, .pv (.seq true 1 (irow [0, 0, 0, 0]))), (9, .pv (.seq true 1 (irow [1000000, 1000000, 1000000, 1000000]))), (10, .pv (.seq false 3 ((nextA R).1.map Tok.row))), (12, .pv (.ptr 1 0)), (13, .own true 1 (irow x.2.2.2)), (57, .pv (I64 n)), (58, .pv (I64 x.1))],
  [[.pv (I64 0), .pv (I64 0), .pv (I64 0), .pv (.lit (.slice none 0 0))], [.pv (I64 a), .pv (I64 b), .pv (I64 c), .own true 4 (x.2.2.1.map rrow)]]⟩)
  (fun x => x.1 ≤ n ∧ linesOk x.2.1 ∧ skp (x.1 + 1) R = x.2.1 ∧ rowsA fin (n - x.1) (said x.2.1) x.2.2.1 = RR ∧ x.2.2.1.length = x.1 ∧ x.2.2.2 = ((said R).tail.take x.1).map (fun l => (atOf l : Int)) ∧ x.1 ≤ (said R).tail.length) (fun x => n - x.1) (0, (nextA R).2, [], []) ?_ ⟨Nat.zero_le _, hn1, rfl, by rw [said_tail]; exact hRR, rfl, by simp, Nat.zero_le _⟩ ?_
 ·refine (Weak.nilCell (b := 1) (k := 3) (xs := [.pv (I64 a), .pv (I64 b), .pv (I64 c), .pv (.lit (.slice none 0 0))]) 4 true (by simp) (by simp)).trans ?_; exact Weak.to (by simp [irow]) (by simp) (by simp) (by simp [irow]) (by simp)
 rintro ⟨i, Q, rows, pl⟩ ⟨hi, hQ, hsk, hrow, hrl, hpl, hit⟩; dsimp only at hi hQ hsk hrow hrl hpl hit; by_cases h : i < n
 ·have hw := wnx i; simp [h]; refine CallK.introM (next_ok _ Q hQ.1) ?_; rintro _ _ ⟨rfl, rfl⟩; obtain ⟨hQ1, hQ2, hQ3⟩ := hQ.next
  rw [show n - i = (n - (i + 1)) + 1 by omega, rowsA, hd_said] at hrow; simp; refine CallK.intro (hN _ wRow hQ2 hQ3) ?_ (by simp [numsPV]; split <;> simp); by_cases c2 : (lineA fin wRow bz4 (nextA Q).1).2.2 = 0; rotate_left
  ·rw [if_neg c2] at hrow; have e1 : RR.2 = (lineA fin wRow bz4 (nextA Q).1).2 := by rw [← hrow]
   rw [e1, if_pos c2] at hT; simp [numsPV, c2, ← hT, takeY, robjT, o0]
  rw [if_pos c2] at hrow; obtain ⟨hl2, _, t1, tr1, htr1, _⟩ := lineA_len c2
  revert hl2 hrow
  generalize lineA fin wRow bz4 (nextA Q).1 = L2 at c2 ⊢; obtain ⟨ys, fb⟩ := L2; intro hrow hl2; dsimp only at hl2 hrow c2
  match ys, hl2 with
  | [y0, y1, y2, y3], _ =>
  have hsQ := next_said Q; rw [if_neg (by rw [htr1]; simp)] at hsQ; have hsd := said_skp (i + 1) R; rw [hsk, hsQ] at hsd; have hlt : i < (said R).tail.length := by
   have := congrArg List.length hsd; rw [List.length_cons, List.length_drop] at this; rw [List.length_tail]; omega
  have hget : (said R).tail[i] = (nextA Q).1 := by
   have h1 := List.drop_eq_getElem_cons (l := (said R).tail) (i := i) hlt; rw [List.drop_tail, ← hsd] at h1; exact (List.cons.inj h1).1.symm
  have hpl2 : pl ++ [(t1.at_ : Int)] = ((said R).tail.take (i + 1)).map (fun l => (atOf l : Int)) := by
   rw [List.take_succ_eq_append_getElem hlt, List.map_append, ← hpl, hget, htr1]; rfl
  have hpll : pl.length = i := by rw [hpl, List.length_map, List.length_take]; omega
  simp [numsPV, c2, irow, htr1, Tok.row]; refine ⟨by omega, by omega, (i + 1, (nextA Q).2, rows ++ [rowOf [y0, y1, y2, y3]], pl ++ [(t1.at_ : Int)]), by dsimp only; omega, ⟨by dsimp only; omega, hQ1, by rw [skp_succ, hsk], by dsimp only; rw [said_tail]; exact hrow, by simp; omega, by simpa using hpl2, by dsimp only; rw [List.length_tail] at hlt; omega⟩, ?_⟩; exact Weak.to (by simp [hw, rowOf]) (by simp [rowOf, rrow]) (by simp) (by simp) (by simp [rowOf, rrow])
 ·have hie : i = n := by omega
  subst hie; have hrr : RR = (rows, fin, okN) := by rw [← hrow, Nat.sub_self, rowsA]
  rw [hrr, if_neg (by simp [okN])] at hT; have hck := objChk_ok ⟨a, b, c, rows⟩ (by dsimp only; have := hR.1; have h9 : (said R).length ≤ R.length := List.length_filter_le _ _; rw [List.length_tail] at hit; omega); simp [robj] at hck; simp; refine CallK.intro hck ?_; by_cases c3 : (objChk ⟨a, b, c, rows⟩).2 = 0
  ·rw [if_neg (by simp [c3])] at hT; simp [c3, ← hT, takeY, robjT, hsk]
  ·rw [if_pos (by simpa using c3)] at hT; obtain ⟨k, hk, hkl⟩ := objChk_range _ c3; have hpll : pl.length = i := by rw [hpl, List.length_map, List.length_take]; omega
   have hsz := hR.1; have h9 : (said R).length ≤ R.length := List.length_filter_le _ _; dsimp only at hkl; rw [List.length_tail] at hit; have hw2 : w64 (k : Int) = (k : Int) := w64_id (by omega) (by omega); rw [hk, show ((k : Int) - 1 + 1).toNat = k by omega] at hT; rw [hk]; simp [c3]; refine AAnyD.one takSch (by kernel_rfl) ?_; have hz : (([PV.lit (.int .i64 t0.at_)] :: irow pl)[k]?.getD [])[0]?.getD .bot = I64 ((atOf ((said R).getD k []) : Nat) : Int) := by
    rw [hsR, htr]; cases k with
    | zero => rfl
    | succ k =>
     have hk2 : k < i := by omega
     have hpk : pl[k]? = some ((atOf ((said (nextA R).2).getD k []) : Nat) : Int) := by
      have hsz2 : k < (said (nextA R).2).length := by rw [said_tail, List.length_tail]; omega
      rw [hpl, ← said_tail, List.getElem?_map, List.getElem?_take, if_pos hk2, List.getElem?_eq_getElem hsz2, List.getD_eq_getElem?_getD, List.getElem?_eq_getElem hsz2]; rfl
     rw [List.getElem?_cons_succ, List.getD_cons_succ]; unfold irow; rw [List.getElem?_map, hpk]; rfl
   simp [takSch, hw2, htr, Tok.row, hpll]; rw [hz, ← hT]; refine ⟨by omega, by omega, by omega, trivial, ?_⟩; simp [takeY, robjT, o0, c3]
set_option maxRecDepth 16000 in
theorem refNumbers_ok (l : List Tok) (w : ByteArray) (bs : List (Int × Int)) (fin : Nat) (hl : l.length ≤ 1000000) (hbs : bs.length ≤ 1000) (ht : ∀ t ∈ l, t.tx.size ≤ 1000000 ∧ t.at_ ≤ 1000000) : APure Tryz.prog 121 [.seq false 3 (l.map Tok.row), ST w, .seq false 1 (irow (bs.map (·.1))), .seq false 1 (irow (bs.map (·.2))), I64 fin] (fun r => r = .pv (numsPV (lineA fin w bs l))) := by
 refine apureX [] [.tmp 10, .tmp 11, .tmp 12] hmo Tryz.func121 ?_; by_cases h0 : l = []
 ·subst h0; simp [lineA, eShort, numsPV]
 have hpos : 0 < l.length := List.length_pos_iff.2 h0; have hA : lineA fin w bs l = if l[0].tx = w then numsA fin bs l[0] (l.drop 1) [] else ([], l[0].at_, eWord) := by
  cases l with
  | nil => exact absurd rfl h0
  | cons t r => rfl
 rw [hA]; clear hA; obtain ⟨t, hT⟩ : ∃ t, l[0] = t := ⟨_, rfl⟩; rw [hT]; by_cases hw : t.tx = w; rotate_left
 ·simp [h0, hpos, hT, Tok.row, hw, eWord, numsPV]
 rw [if_pos hw]; simp [h0, hpos, hT, Tok.row, hw]; obtain ⟨R, hR⟩ : ∃ R, numsA fin bs t l.tail [] = R := ⟨_, rfl⟩; rw [hR]; refine ALoop.intro (S := fun (x : Nat × List Int) => ⟨[(0, .pv (.seq false 3 (l.map Tok.row))), (2, .pv (.seq false 1 (irow (bs.map (·.1))))), (3, .pv (.seq false 1 (irow (bs.map (·.2))))), (4, .pv (I64 fin)), (13, .own true 1 (irow x.2)), (14, .pv (I64 x.1))], []⟩) (fun x => x.1 ≤ bs.length ∧ x.2.length = x.1 ∧ ∃ p, l[x.1]? = some p ∧ numsA fin (bs.drop x.1) p (l.drop (x.1 + 1)) x.2 = R) (fun x => bs.length - x.1) (0, []) ?_ ⟨Nat.zero_le _, rfl, t, by simp [hpos, hT], by simpa using hR⟩ ?_
 ·exact (Weak.nilOwn (s := 13) 1 true (by simp)).trans (Weak.to (by simp [irow]) (by simp [Tok.row]) (by simp) (by simp) (by simp))
 rintro ⟨i, acc⟩ ⟨hi, ha, p, hp, hn⟩; dsimp only at hi ha hp hn; obtain ⟨hil, hip⟩ := List.getElem?_eq_some_iff.1 hp; have hw2 := wnx i; by_cases h : i < bs.length
 ·rw [List.drop_eq_getElem_cons h] at hn; obtain ⟨b, hb⟩ : ∃ b, bs[i] = b := ⟨_, rfl⟩; rw [hb] at hn; by_cases h2 : i + 1 < l.length
  ·have h2' : ¬ (i : Int) + 1 = (l.length : Int) := by omega
   rw [List.drop_eq_getElem_cons h2] at hn; obtain ⟨q, hq⟩ : ∃ q, l[i + 1] = q := ⟨_, rfl⟩; rw [hq, numsA_cons] at hn; simp [h, h2, hw2, h2', hq, hb, irow, Tok.row]; refine ⟨by omega, CallQ0.intro (refNumber_ok q.tx (ht q (by rw [← hq]; exact List.getElem_mem _)).1 b.1 b.2) ?_ (by simp [numPV])⟩; simp [numPV]; by_cases hf : (numF q.tx b.1 b.2).2 = okN
   ·rw [if_pos hf] at hn; have hf0 : (numF q.tx b.1 b.2).2 = 0 := hf; simp [hf0]; refine ⟨by omega, (i + 1, acc ++ [(numF q.tx b.1 b.2).1]), by dsimp only; omega, ⟨by dsimp only; omega, by simp; omega, q, by simp [h2, hq], hn⟩, ?_⟩; have hbb : ∀ (f : Int × Int → Int), belowR 0 (bs.map ((fun i => [I64 i]) ∘ f)) := fun f => by
     rw [belowR_iff]; intro r hr x hx; obtain ⟨y, _, rfl⟩ := List.mem_map.1 hr; simp at hx; subst hx; trivial
    exact Weak.to (by simp [hw2, irow]) (by simp) (by simp) (by simp [hbb]) (by simp)
   ·rw [if_neg hf] at hn; have hf0 : ¬ (numF q.tx b.1 b.2).2 = 0 := hf; simp [hf0, ← hn, numsPV, h2, hq, hw2, Tok.row]
    try omega
  ·have h2' : w64 ((i : Int) + 1) = (l.length : Int) := by rw [hw2]; omega
   rw [@List.drop_eq_nil_of_le _ l (i + 1) (by omega)] at hn; have hlp := ht p (by rw [← hip]; exact List.getElem_mem _); have hw3 : w64 ((p.at_ : Int) + p.tx.size) = ((p.at_ + p.tx.size : Nat) : Int) := by rw [w64_id (by omega) (by omega)]; omega
   rw [numsA_short] at hn; simp [h, h2', hil, hip, hw3, ← hn, numsPV, eShort, Tok.row]
 ·have hie : i = bs.length := by omega
  subst hie; rw [List.drop_eq_nil_of_le (Nat.le_refl _)] at hn; by_cases h2 : bs.length + 1 < l.length
  ·have h2' : ¬ (l.length : Int) = (acc.length : Int) + 1 := by omega
   rw [List.drop_eq_getElem_cons h2] at hn; obtain ⟨q, hq⟩ : ∃ q, l[bs.length + 1] = q := ⟨_, rfl⟩; rw [hq, numsA_rest] at hn; have hq' : l[acc.length + 1]? = some q := by rw [ha, List.getElem?_eq_getElem h2, hq]
   have hw3 : w64 ((acc.length : Int) + 1) = ((acc.length + 1 : Nat) : Int) := wnx _; simp [h2', hw3, ← hn, hq', numsPV, eRest, Tok.row, irow]; omega
  ·rw [@List.drop_eq_nil_of_le _ l (bs.length + 1) (by omega)] at hn; have h2' : (l.length : Int) = (acc.length : Int) + 1 := by omega
   rw [numsA_done] at hn; have hw3 : w64 ((acc.length : Int) + 1) = ((acc.length + 1 : Nat) : Int) := wnx _; simp [h2', hw3, ← hn, numsPV, okN, Tok.row, irow]
set_option maxRecDepth 16000 in
theorem said_ok (g : List (List SV)) (R : List (List Tok)) (hR : R.length ≤ 1000000) : AMut Tryz.prog 51 [.seq false 1 (R.map lnF)] g (fun r g' => g' = g ∧ r = .pv (.seq true 1 ((said R).map lnF))) := by
 refine amutXW [] [.tmp 2] hmo Tryz.func51 ?_; simp; refine ALoop.intro (S := fun (i : Nat) => ⟨[(0, .pv (.seq false 1 (R.map lnF))), (3, .own true 1 ((said (R.take i)).map lnF)), (4, .pv (I64 i))], g⟩) (fun i => i ≤ R.length) (fun i => R.length - i) 0 ?_ (Nat.zero_le _) ?_
 ·exact (Weak.nilOwn (s := 3) 1 true (by simp)).trans (Weak.keep (by simp [said]) (by simp))
 intro i hi; by_cases h : i < R.length
 ·have hw := wnx i; obtain ⟨l, hl⟩ : ∃ l, R[i] = l := ⟨_, rfl⟩; have hsl : (said (R.take i)).length ≤ i := by
   have h1 : (said (R.take i)).length ≤ (R.take i).length := List.length_filter_le _ _; rw [List.length_take] at h1; omega
  have hs : said (R.take (i + 1)) = said (R.take i) ++ (if l = [] then [] else [l]) := by
   rw [List.take_succ_eq_append_getElem h, hl]; unfold said; rw [List.filter_append]; congr 1; cases l <;> rfl
  by_cases hn : l = []
  ·subst hn; simp [h, hl, lnF]; exact ⟨i + 1, by dsimp only; omega, by dsimp only; omega, Weak.keep (by simp [hw, hs]) (by simp)⟩
  ·rw [if_neg hn] at hs; have hn0 : 0 < l.length := List.length_pos_iff.2 hn; simp [h, hl, lnF, hn, hn0]; exact ⟨by omega, i + 1, by dsimp only; omega, by dsimp only; omega, Weak.keep (by simp [hw, hs, lnF]) (by simp)⟩
 ·have hie : i = R.length := by omega
  subst hie; simp
def rdB (o : Obj) (fin : Nat) (M : List (Int × Int)) : List (List SV) := [[.pv (I64 o.st), .pv (I64 o.kd), .pv (I64 o.ini), .pv (.seq false 4 (o.rows.map rrow))], [.pv (I64 fin)], [.omap true (mapE fI M)]]
def rdF (n : Nat) : PV := .fn (.func 161) [] [.ptr n 0, .ptr (n + 1) 0, .ptr (n + 2) 0]
set_option maxRecDepth 16000 in
theorem reader_ok (h : List (List SV)) (o : Obj) (fin : Nat) : AMut Tryz.prog 84 [robj o, I64 fin] h (fun r h' => h' = h ++ rdB o fin [] ∧ r = .pv (rdF h.length)) := by
 refine amutX [] [.tmp 4] hmo Tryz.func84 ?_; simp [robj, rdB, rdF]
 try rfl
def rdSch4 : Sch :=
 let s0 : Sch := .fork [(5, .take 6 (.take 7 .done))]
 let s1 : Sch := .fork [(4, .take 6 (.take 7 .done))]
 let s2 : Sch := .fork [(4, s0), (5, s1)]
 let s3 : Sch := .fork [(0, s0)]
 let s4 : Sch := .fork [(0, s2), (4, s3)]
 .take 1 (.take 2 (.take 3 s4))
def rdSch12 : Sch :=
 let s0 : Sch := .fork [(9, .done)]
 let s1 : Sch := .fork [(7, .take 8 s0)]
 let s2 : Sch := .fork [(5, .take 8 s0)]
 let s3 : Sch := .fork [(5, s1), (7, s2)]
 let s4 : Sch := .fork [(2, .take 6 s1)]
 let s5 : Sch := .fork [(2, .take 6 s3), (5, s4)]
 .take 0 (.take 1 (.take 3 (.take 4 s5)))
def rdSch14 : Sch :=
 let s0 : Sch := .fork [(5, .take 6 (.take 7 .done))]
 let s1 : Sch := .fork [(4, .take 6 (.take 7 .done))]
 let s2 : Sch := .fork [(4, s0), (5, s1)]
 let s3 : Sch := .fork [(0, s0)]
 let s4 : Sch := .fork [(0, s2), (4, s3)]
 .take 1 (.take 2 (.take 3 s4))
def rdSch16 : Sch :=
 let s0 : Sch := .fork [(2, .take 3 (.take 4 .done))]
 let s1 : Sch := .fork [(1, .take 3 (.take 4 .done))]
 let s2 : Sch := .fork [(1, s0), (2, s1)]
 let s3 : Sch := .fork [(0, s0)]
 let s4 : Sch := .fork [(0, s2), (1, s3)]
 s4
def evT (x : Ev × Nat × Int) : PV := .tup [.agg (evR x.1), I64 x.2.1, I64 x.2.2]
def ev1M (M : List (Int × Int)) (x : Ev × Nat × Int) : List (Int × Int) := if x.2.2 = 0 then pt M x.1.p x.1.w else M
theorem belowH_rd {A B C : List SV} {o : Obj} {fin : Nat} {M M' : List (Int × Int)} (h : belowH 6 (A :: B :: C :: rdB o fin M)) : belowH 6 (A :: B :: C :: rdB o fin M') := by
 simp [rdB] at h ⊢; exact h
set_option maxRecDepth 16000 in
theorem reader1_ok (A B C : List SV) (o : Obj) (fin : Nat) (out : List Ev) (l : List Tok) (hk1 : 1 ≤ o.kd) (hk2 : o.kd ≤ 64) (hl : l.length ≤ 1000000) (hl0 : l ≠ []) (ht : ∀ t ∈ l, t.tx.size ≤ 1000000 ∧ t.at_ ≤ 1000000) :
 AMut Tryz.prog 161 [.seq false 3 (l.map Tok.row), .ptr 3 0, .ptr 4 0, .ptr 5 0] (A :: B :: C :: rdB o fin (opTo out out.length)) (fun r h' => h' = A :: B :: C :: rdB o fin (ev1M (opTo out out.length) (ev1 o.kd fin out l)) ∧ r = .pv (evT (ev1 o.kd fin out l))) := by
 refine amutXD [4, 12, 14, 16] [.cell 5 _, .tmp 6, .tmp 7] (A :: B :: C :: rdB o fin (ev1M (opTo out out.length) (ev1 o.kd fin out l))) (by simp [rdB]) (fun hh => belowH_rd hh) hmo Tryz.func161 ?_; have hpos : 0 < l.length := List.length_pos_iff.2 hl0; obtain ⟨t, hT⟩ : ∃ t, l[0] = t := ⟨_, rfl⟩; have hhd : l.head?.getD ⟨0, 0, ByteArray.empty⟩ = t := by
  cases l with
  | nil => exact absurd rfl hl0
  | cons a r => exact hT
 obtain ⟨X, hX⟩ : ∃ X, ev1 o.kd fin out l = X := ⟨_, rfl⟩; rw [hX]; unfold ev1 at hX; dsimp only at hX; rw [hhd] at hX; have hw1 : w64 (o.kd - 1) = o.kd - 1 := w64_id (by omega) (by omega); have hN := fun top : Int => numbers_ok l t.tx [(1, 1000), (0, top)] fin hl (by simp) ht; simp only [List.map, irow] at hN; simp [rdB, hpos, hT, Tok.row, hl0]; have hop := fun p => opn_iff out p out.length; generalize hMM : opTo out out.length = M at *; by_cases c1 : t.tx = wCall
 case neg =>
  have c1' : ¬ t.tx = ⟨#[99, 97, 108, 108]⟩ := c1; by_cases c0 : t.tx = wRet
  case neg =>
   have c0' : ¬ t.tx = ⟨#[114, 101, 116]⟩ := c0; rw [if_pos ⟨c1, c0⟩] at hX; simp [c1', c0']; refine AAnyD.one rdSch4 (by kernel_rfl) ?_; simp [rdSch4, hpos, hT, Tok.row, ← hX, evT, evR, ev1M]
  have c0' : t.tx = ⟨#[114, 101, 116]⟩ := c0; rw [if_neg (fun h => h.2 c0), if_neg c1, if_neg c1] at hX; rw [c0'] at hN hX; simp [c0']; refine CallQ0.intro (hN _) ?_ (by simp [numsPV]; split <;> simp); rw [← c0'] at hX; rw [← c0']; clear c0 c0' c1'; by_cases c2 : (lineA fin t.tx [(1, 1000), (0, 1000000)] l).2.2 = 0; rotate_left
  ·rw [if_pos c2] at hX; simp [numsPV, c2, ← hX, evT, evR, ev1M]
  rw [if_neg (by simpa using c2)] at hX; have hlen : (lineA fin t.tx [(1, 1000), (0, 1000000)] l).1.length = 2 := (lineA_len c2).1
  revert hX hlen
  generalize lineA fin t.tx [(1, 1000), (0, 1000000)] l = L2 at c2 ⊢; obtain ⟨ys, fb⟩ := L2; intro hX hlen; dsimp only at hX hlen c2
  match ys, hlen with
  | [p, n], _ =>
  simp only [List.getD_cons_zero, List.getD_cons_succ] at hX; simp [numsPV, c2, irow]; refine AAnyD.meet rdSch12 ⟨[(0, .pv (.seq false 3 (l.map Tok.row))), (1, .pv (.ptr 3 0)), (2, .pv (.ptr 4 0)), (3, .pv (.ptr 5 0)), (5, .pv (.ptr 6 0)), (8, .pv (.ptr 7 0))], A :: B :: C :: (rdB o fin M ++ [[.pv (I64 0), .pv (I64 0), .pv (I64 0)], [.pv (I64 2), .pv (I64 p), .pv (I64 n)]])⟩ (by kernel_rfl) ?_ ?_
  ·simp [rdSch12, rdB]
   repeat' first
    | trivial
    | omega
    | refine And.intro ?_ ?_
    | exact Weak.keep (by simp) (by simp)
  simp [rdB]; by_cases c3 : (lk M p).getD 0 = 1
  ·rw [if_neg (fun h => absurd (h.1 ((hop p).1 c3)) (by decide))] at hX; simp [c3]; refine AAnyD.one rdSch16 (by kernel_rfl) ?_; simp [rdSch16, ← hX, evT, evR, ev1M]
  ·rw [if_pos ⟨fun h => absurd ((hop p).2 h) c3, fun h => absurd h (by decide)⟩] at hX; simp [c3]; refine AAnyD.one rdSch14 (by kernel_rfl) ?_; simp [rdSch14, hpos, hT, Tok.row, ← hX, evT, evR, ev1M]
 have c1' : t.tx = ⟨#[99, 97, 108, 108]⟩ := c1; rw [if_neg (fun h => h.1 c1), if_pos c1, if_pos c1] at hX; rw [c1'] at hN hX; simp [c1', hw1]; refine CallQ0.intro (hN _) ?_ (by simp [numsPV]; split <;> simp); rw [← c1'] at hX; rw [← c1']; by_cases c2 : (lineA fin t.tx [(1, 1000), (0, (o.kd - 1))] l).2.2 = 0; rotate_left
 ·rw [if_pos c2] at hX; simp [numsPV, c2, ← hX, evT, evR, ev1M]
 rw [if_neg (by simpa using c2)] at hX; have hlen : (lineA fin t.tx [(1, 1000), (0, (o.kd - 1))] l).1.length = 2 := (lineA_len c2).1
 revert hX hlen
 generalize lineA fin t.tx [(1, 1000), (0, (o.kd - 1))] l = L2 at c2 ⊢; obtain ⟨ys, fb⟩ := L2; intro hX hlen; dsimp only at hX hlen c2
 match ys, hlen with
 | [p, n], _ =>
 simp only [List.getD_cons_zero, List.getD_cons_succ] at hX; simp [numsPV, c2, irow]; refine AAnyD.meet rdSch12 ⟨[(0, .pv (.seq false 3 (l.map Tok.row))), (1, .pv (.ptr 3 0)), (2, .pv (.ptr 4 0)), (3, .pv (.ptr 5 0)), (5, .pv (.ptr 6 0)), (8, .pv (.ptr 7 0))], A :: B :: C :: (rdB o fin M ++ [[.pv (I64 0), .pv (I64 0), .pv (I64 0)], [.pv (I64 1), .pv (I64 p), .pv (I64 n)]])⟩ (by kernel_rfl) ?_ ?_
 ·simp [rdSch12, rdB]
  repeat' first
   | trivial
   | omega
   | refine And.intro ?_ ?_
   | exact Weak.keep (by simp) (by simp)
 simp [rdB]; by_cases c3 : (lk M p).getD 0 = 1
 ·rw [if_pos ⟨fun _ => trivial, fun _ => (hop p).1 c3⟩] at hX; simp [c3]; refine AAnyD.one rdSch14 (by kernel_rfl) ?_; simp [rdSch14, hpos, hT, Tok.row, ← hX, evT, evR, ev1M]
 ·rw [if_neg (fun h => c3 ((hop p).2 (h.2 trivial)))] at hX; simp [c3]; refine AAnyD.one rdSch16 (by kernel_rfl) ?_; simp [rdSch16, ← hX, evT, evR, ev1M]
theorem toks_in {s : ByteArray} {e : Nat} : ∀ (i : Nat), ∀ p ∈ toks s e i, p.1 < p.2 ∧ p.2 ≤ e := by
 intro i
 induction h : e - i using Nat.strongRecOn generalizing i with
 | _ m ih =>
  intro p hp; rw [toks_eq] at hp; have h1 := nxt_ge (fun b => !gapB b) s e i; have h2 := nxt_ge gapB s e (nxt (fun b => !gapB b) s e i + 1); split at hp
  ·rename_i hlt; rcases List.mem_cons.1 hp with rfl | hp
   ·exact ⟨by dsimp only; omega, nxt_le gapB s e _ (by omega)⟩
   ·exact ih _ (by omega) _ rfl p hp
  ·cases hp
theorem tokL_in {s : ByteArray} {k a e : Nat} (he : e ≤ s.size) (t : Tok) (ht : t ∈ tokL s k a e) : t.at_ + t.tx.size ≤ s.size ∧ 0 < t.tx.size := by
 unfold tokL at ht; obtain ⟨p, hp, rfl⟩ := List.mem_map.1 ht; have h : p.1 < p.2 ∧ p.2 ≤ e := by
  unfold wrds at hp; split at hp
  ·cases hp
  ·exact toks_in _ p hp
 dsimp only; rw [ByteArray.size_extract]; omega
theorem lns_in {s : ByteArray} : ∀ (a k : Nat), (lns s a k).length ≤ s.size - a ∧ ∀ l ∈ lns s a k, l.length ≤ s.size ∧ ∀ t ∈ l, t.at_ + t.tx.size ≤ s.size ∧ 0 < t.tx.size := by
 intro a k
 induction h : s.size - a using Nat.strongRecOn generalizing a k with
 | _ m ih =>
  rw [lns_eq]; split
  ·rename_i c; have h1 := lend_ge s a; have h2 := lend_le (s := s) (a := a) (by omega); obtain ⟨q1, q2⟩ := ih _ (by omega) (lend s a + 1) (k + 1) rfl; refine ⟨by rw [List.length_cons]; omega, fun l hl => ?_⟩; rcases List.mem_cons.1 hl with rfl | hl
   ·refine ⟨?_, fun t ht => tokL_in h2 t ht⟩; unfold tokL; rw [List.length_map]; have := wrds_len s a (lend s a); omega
   ·exact q2 l hl
  ·exact ⟨Nat.zero_le _, fun l hl => by cases hl⟩
theorem lns_lines {s : ByteArray} (hs : s.size ≤ 1000000) : linesOk (lns s 0 0) := by
 obtain ⟨h1, h2⟩ := lns_in (s := s) 0 0; exact ⟨by omega, fun l hl => ⟨by have := (h2 l hl).1; omega, fun t ht => by have := (h2 l hl).2 t ht; omega⟩⟩
theorem linesOk.skp {R : List (List Tok)} : ∀ (n : Nat), linesOk R → linesOk (Go.AX.skp n R)
 | 0, h => h
 | n + 1, h => by rw [skp_succ]; exact (linesOk.skp n h).next.1
theorem takeA_ok {fin : Nat} {L : List (List Tok)} (h : (takeA fin L).e = 0) : (objChk (takeA fin L).o).2 = 0 ∧ (takeA fin L).at_ = fin ∧ 0 ≤ (takeA fin L).o.st ∧ (takeA fin L).o.st ≤ 1000000 ∧ 0 ≤ (takeA fin L).o.kd ∧ (takeA fin L).o.kd ≤ 1000000 := by
 unfold takeA at h ⊢; dsimp only at h ⊢; by_cases c1 : (lineA fin wObj bz4 (hd L)).2.2 = 0; rotate_left
 ·rw [if_pos c1] at h; simp only at h; omega
 rw [if_neg (by simpa using c1)] at h ⊢; have hlen : (lineA fin wObj bz4 (hd L)).1.length = 4 := (lineA_len c1).1; have hin := lineA_in c1
 revert h hlen hin
 generalize lineA fin wObj bz4 (hd L) = LL; obtain ⟨xs, fa⟩ := LL; intro h hlen hin; dsimp only at h hlen hin ⊢
 match xs, hlen with
 | [a, b, c, d], _ =>
 have ha : 0 ≤ a ∧ a ≤ 1000000 := hin 0 (show 0 < 4 by omega) (show 0 < 4 by omega); have hb : 0 ≤ b ∧ b ≤ 1000000 := hin 1 (show 1 < 4 by omega) (show 1 < 4 by omega); by_cases c2 : (rowsA fin ([a, b, c, d].getD 3 0).toNat L.tail []).2.2 = 0; rotate_left
 ·rw [if_pos c2] at h; simp only at h; omega
 rw [if_neg (by simpa using c2)] at h ⊢; split at h
 ·rename_i c3; exact absurd h c3
 ·rename_i c3; rw [if_neg c3]; exact ⟨Decidable.byContradiction c3, rfl, ha.1, ha.2, hb.1, hb.2⟩
theorem objChk_kd {o : Obj} (h : (objChk o).2 = 0) (h1 : 0 ≤ o.kd) (h2 : o.kd ≤ 1000000) : 1 ≤ o.kd ∧ o.kd ≤ 64 := by
 unfold objChk at h; split at h
 ·rename_i c; unfold objOk at c; simp only [Bool.and_eq_true, withinS_iff] at c; have := c.2.1; rw [w64_id (by omega) (by omega)] at this; omega
 ·cases h
theorem wkRR_ln : ∀ R : List (List Tok), wkRR (R.map lnR) (R.map lnF)
 | [] => trivial
 | l :: R => ⟨by simp [lnR, lnF, wkPL, wkP], wkRR_ln R⟩
@[simp] theorem nwR_lnR : ∀ R : List (List Tok), nwR (R.map lnR)
 | [] => trivial
 | l :: R => by
  refine ⟨⟨⟨.inr rfl, ?_⟩, trivial⟩, nwR_lnR R⟩
  induction l with
  | nil => trivial
  | cons t l ih => exact ⟨⟨trivial, trivial, trivial, trivial⟩, ih⟩
def evVT (l : List Ev) : PV := .seq true 3 (l.map evR)
def parSch16 : Sch :=
 let s0 : Sch := .fork [(5, .take 6 (.take 7 .done))]
 let s1 : Sch := .fork [(4, .take 6 (.take 7 .done))]
 let s2 : Sch := .fork [(4, s0), (5, s1)]
 let s3 : Sch := .fork [(0, s0)]
 let s4 : Sch := .fork [(0, s2), (4, s3)]
 .take 1 (.take 2 (.take 3 s4))
def caseP (o : Obj) (l : List Ev) : PV := .agg [I64 o.st, I64 o.kd, I64 o.ini, .seq true 4 (o.rows.map rrow), evVT l]
def caseY (k : CaseR) : PV := .tup [caseP k.o k.l, I64 k.at_, I64 k.e]
set_option maxRecDepth 16000 in
theorem parseC_ok (s : ByteArray) (hs : s.size ≤ 1000000) : APure Tryz.prog 43 [ST s] (fun r => r = .pv (caseY (caseA s))) := by
 refine (AMut.pure (R := fun r => r = .pv (caseY (caseA s))) ?_); refine AMut.mono (R := fun r h' => h' = [] ∧ r = .pv (caseY (caseA s))) ?_ fun r h' h => ⟨_, h.2, rfl⟩; refine amutXW [16] [.cell 2 _, .tmp 3, .tmp 4] hmo Tryz.func43 ?_; have hls := lns_lines hs; have hz : ¬ 1000000 < (s.size : Int) := by omega
 obtain ⟨K, hK⟩ : ∃ K, caseA s = K := ⟨_, rfl⟩; rw [hK]; unfold caseA at hK; rw [if_neg (by omega)] at hK; dsimp only at hK; have hT := takeO_ok (lns s 0 0) s.size hls hs; have hTo := takeA_ok (fin := s.size) (L := said (lns s 0 0)); obtain ⟨T, hTT⟩ : ∃ T, takeA s.size (said (lns s 0 0)) = T := ⟨_, rfl⟩; rw [hTT] at hT hK hTo; simp [hz]; refine CallK.intro (lines_ok s hs) ?_; simp; refine CallK.introX (CallX.pureM (p := []) (q := []) (zs := [.seq true 1 ((lns s 0 0).map lnR), I64 s.size]) (y := takeY T (if T.e = 0 then skp T.n (lns s 0 0) else [])) ((hT.argsA (xs := [.seq true 1 ((lns s 0 0).map lnR), I64 s.size]) ⟨⟨fun h => (by cases h), rfl, wkRR_ln _⟩, rfl, trivial⟩).mono fun r h' h => h.2) (by simp) rfl (by simp [argsPv]) (by simp) (by simp [takeY, robjT]) ?_); by_cases c1 : T.e = 0; rotate_left
 ·rw [if_pos c1] at hK; simp [c1, takeY, robjT, ← hK, caseY, caseP, o0, evVT]
 obtain ⟨q1, q2, q3, q4, q5, q6⟩ := hTo c1; obtain ⟨k1, k2⟩ := objChk_kd q1 q5 q6; rw [if_neg (by simpa using c1)] at hK; simp [c1, takeY, robjT]; refine CallK.introM (reader_ok _ T.o s.size) ?_; rintro _ _ ⟨rfl, rfl⟩; have hQ := hls.skp T.n; rw [← said_skp] at hK; generalize skp T.n (lns s 0 0) = Q at hQ hK ⊢; obtain ⟨E, hE⟩ : ∃ E, evsA T.o.kd s.size (said Q) [] = E := ⟨_, rfl⟩; rw [hE] at hK; simp [rdB, rdF]; refine ALoop.intro (S := fun (x : Nat × List Ev) => ⟨[(0, .pv (ST s)), (2, .pv (.ptr 0 0)), (7, .pv (.ptr 2 0)), (8, .pv (rdF 3)), (39, .pv (.seq false 1 (Q.map lnF))), (40, .pv (I64 Q.length)), (41, .pv (I64 x.1))],
  [.pv (I64 0), .pv (I64 0), .pv (I64 0), .pv (.lit (.slice none 0 0)), .pv (.lit (.slice none 0 0))] :: [.pv (I64 T.o.st), .pv (I64 T.o.kd), .pv (I64 T.o.ini), .pv (.seq true 4 (T.o.rows.map rrow))] :: [.pv (I64 T.o.st), .pv (I64 T.o.kd), .pv (I64 T.o.ini), .pv (.seq true 4 (T.o.rows.map rrow)), .own true 3 (x.2.map evR)] :: rdB T.o s.size (opTo x.2 x.2.length)⟩)
  (fun x => x.1 ≤ Q.length ∧ evsA T.o.kd s.size (said (Q.drop x.1)) x.2 = E ∧ x.2.length ≤ x.1) (fun x => Q.length - x.1) (0, []) ?_ ⟨Nat.zero_le _, by simpa using hE, Nat.le_refl _⟩ ?_
 ·refine (Weak.nilCell (b := 2) (k := 4) (xs := [.pv (I64 T.o.st), .pv (I64 T.o.kd), .pv (I64 T.o.ini), .pv (.seq true 4 (T.o.rows.map rrow)), .pv (.lit (.slice none 0 0))]) 3 true (by simp) (by simp)).trans ?_; exact Weak.to (by simp [rdF]) (by simp [rdB, opTo]) (by simp) (by simp [rdB, rdF]) (by simp [rdB])
 rintro ⟨i, out⟩ ⟨hi, hev, hol⟩; dsimp only at hi hev hol; by_cases h : i < Q.length
 ·have hw := wnx i (by have := hQ.1; omega); obtain ⟨l, hl⟩ : ∃ l, Q[i] = l := ⟨_, rfl⟩; have hlm : l ∈ Q := by rw [← hl]; exact List.getElem_mem _
  obtain ⟨hl1, hl2⟩ := hQ.2 l hlm; rw [List.drop_eq_getElem_cons h, hl] at hev; by_cases hn : l = []
  ·subst hn; have hev : evsA T.o.kd s.size (said (Q.drop (i + 1))) out = E := hev; simp [h, hl, lnF]; refine ⟨(i + 1, out), by dsimp only; omega, ⟨by dsimp only; omega, hev, by dsimp only; omega⟩, ?_⟩; exact Weak.keep (by simp [hw]) (by simp)
  ·have hev : evsA T.o.kd s.size (l :: said (Q.drop (i + 1))) out = E := by
    rw [← hev]; congr 1; cases l with
    | nil => exact absurd rfl hn
    | cons t l => rfl
   have hrd := reader1_ok [.pv (I64 0), .pv (I64 0), .pv (I64 0), .pv (.lit (.slice none 0 0)), .pv (.lit (.slice none 0 0))] [.pv (I64 T.o.st), .pv (I64 T.o.kd), .pv (I64 T.o.ini), .pv (.seq true 4 (T.o.rows.map rrow))] [.pv (I64 T.o.st), .pv (I64 T.o.kd), .pv (I64 T.o.ini), .pv (.seq true 4 (T.o.rows.map rrow)), .own true 3 (out.map evR)] T.o s.size out l k1 k2 hl1 hn hl2; simp [h, hl, lnF, hn, rdF]; refine CallB.intro hrd ?_; rintro _ _ ⟨rfl, rfl⟩; rw [evsA] at hev; by_cases c2 : (ev1 T.o.kd s.size out l).2.2 = 0; rotate_left
   ·have e1 : evOf T.o.kd s.size out l = ev1 T.o.kd s.size out l := by unfold evOf; rw [if_pos c2]
    rw [e1, if_neg c2] at hev; rw [← hev, if_pos c2] at hK; simp [rdB, evT, c2, evR, ← hK, caseY, caseP, o0, evVT]
   by_cases c3 : 10000 ≤ out.length
   ·have e1 : evOf T.o.kd s.size out l = ((ev1 T.o.kd s.size out l).1, atOf l, 3) := by unfold evOf; rw [if_neg (by simpa using c2), if_pos c3]
    rw [e1, if_neg (by simp)] at hev; rw [← hev, if_pos (by simp)] at hK; have c3' : (10000 : Int) ≤ out.length := by omega
    simp [rdB, evT, c2, evR, c3']; refine AAnyD.one parSch16 (by kernel_rfl) ?_; obtain ⟨t, r, hlt⟩ : ∃ t r, l = t :: r := by
     cases l with
     | nil => exact absurd rfl hn
     | cons t r => exact ⟨t, r, rfl⟩
    simp [parSch16, hlt, Tok.row, ← hK, caseY, caseP, o0, evVT, atOf]
   have e1 : evOf T.o.kd s.size out l = ev1 T.o.kd s.size out l := by unfold evOf; rw [if_neg (by simpa using c2), if_neg c3]
   rw [e1, if_pos c2] at hev; have c3' : ¬ (10000 : Int) ≤ out.length := by omega
   have ho : opTo (out ++ [(ev1 T.o.kd s.size out l).1]) (out.length + 1) = pt (opTo out out.length) (ev1 T.o.kd s.size out l).1.p (ev1 T.o.kd s.size out l).1.w := by
    rw [opTo, opTo_snoc _ _ _ (Nat.le_refl _), getD_last]
   simp [rdB, evT, c2, evR, c3', ev1M]; refine ⟨by omega, (i + 1, out ++ [(ev1 T.o.kd s.size out l).1]), by dsimp only; omega, ⟨by dsimp only; omega, hev, by simp; omega⟩, ?_⟩; exact Weak.to (by simp [hw, rdF]) (by simp [rdB, ho, evR]) (by simp) (by simp) (by simp [rdB, evR])
 ·have hie : i = Q.length := by omega
  subst hie; have hev : (out, s.size, (0 : Int)) = E := by
   rw [← hev, List.drop_length]; rfl
  rw [← hev, if_neg (by simp)] at hK; simp [rdB, ← hK, caseY, caseP, evVT]
end Go.AX
