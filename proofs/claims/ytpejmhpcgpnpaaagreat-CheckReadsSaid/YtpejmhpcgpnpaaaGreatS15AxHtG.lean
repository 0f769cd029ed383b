/-
  Contracts: all lines of a text.
  Contracts: numerals.
  Contracts: what is a numeral.
  Contracts: numbers.
-/
import Derived.Test.YtpejmhpcgpnpaaaGreatS15AxHtC
import Derived.Test.YtpejmhpcgpnpaaaGreatAxBe
namespace Go.AX
open Go.Proofs
set_option linter.unusedSimpArgs false
theorem nwR_tkP (t : ByteArray) (k a : Nat) : ∀ ts : List (Nat × Nat), nwR (ts.map (tkP t k a))
 | [] => trivial
 | _ :: ts => ⟨⟨trivial, trivial, trivial, trivial⟩, nwR_tkP t k a ts⟩
def lnR (l : List Tok) : List PV := [.seq true 3 (l.map Tok.row)]
theorem belowR_tok (m : Nat) : ∀ l : List Tok, belowR m (l.map Tok.row)
 | [] => trivial
 | _ :: l => ⟨⟨trivial, trivial, trivial, trivial⟩, belowR_tok m l⟩
theorem belowR_lnR (m : Nat) : ∀ l : List (List Tok), belowR m (l.map lnR)
 | [] => trivial
 | x :: l => ⟨⟨belowR_tok m x, trivial⟩, belowR_lnR m l⟩
theorem tkP_row {s : ByteArray} {k a : Nat} (he : lend s a ≤ s.size) (ha : a ≤ lend s a) : (wrds (s.extract a (lend s a)) 0 (s.extract a (lend s a)).size).map (tkP (s.extract a (lend s a)) k a) = (tokL s k a (lend s a)).map Tok.row := by
 unfold tokL; rw [← wrds_shift he ha, List.map_map, List.map_map]; refine List.map_congr_left fun p hp => ?_; have hz : (s.extract a (lend s a)).size = lend s a - a := by rw [ByteArray.size_extract]; omega
 have := wrds_le p hp; rw [hz] at this; simp only [tkP, Tok.row, Function.comp]; rw [extract_extract (by omega)]; rfl
theorem tokensO_ok (t : ByteArray) (k a : Nat) (ht : t.size ≤ 1000000) (hk : k ≤ 2000000) (ha : a ≤ 1000000) : APure Tryz.prog 160 [ST t, I64 k, I64 a] (fun r => r = .own true 3 ((wrds t 0 t.size).map (tkP t k a))) :=
 (tokens_ok t k a ht hk ha).own0 fun r h => h.imp id fun ⟨e1, e2⟩ => ⟨e2, true, 3, by rw [e1]; rfl⟩
theorem lend_le {s : ByteArray} {a : Nat} (ha : a ≤ s.size) : lend s a ≤ s.size := nxt_le _ s s.size a ha
theorem lend_ge (s : ByteArray) (a : Nat) : a ≤ lend s a := nxt_ge _ s s.size a
set_option maxRecDepth 16000 in
theorem lines_ok (s : ByteArray) (hs : s.size ≤ 1000000) : APure Tryz.prog 83 [ST s] (fun r => r = .pv (.seq true 1 ((lns s 0 0).map lnR))) := by
 refine apureX [] [.tmp 2] hmo Tryz.func83 ?_; simp; refine ALoop.intro (S := fun (y : Nat × List (List Tok)) => ⟨[(0, .pv (ST s)), (3, .own true 1 (y.2.map lnR)), (4, .pv (I64 y.1))], []⟩) (fun y => y.1 ≤ s.size + 1 ∧ y.2.length ≤ y.1 ∧ y.2 ++ lns s y.1 y.2.length = lns s 0 0) (fun y => s.size + 1 - y.1) (0, []) ?_ ⟨Nat.zero_le _, Nat.zero_le _, rfl⟩ ?_
 ·exact (Weak.nilOwn (s := 3) 1 true (by simp)).trans (Weak.to (by simp) rfl (by simp) (by simp) (by simp))
 ·rintro ⟨a, ls⟩ ⟨h1, h2, h3⟩; dsimp only at h1 h2 h3; by_cases h : a < s.size
  ·have h' : (a : Int) < s.size := by omega
   have hw1 : w64 ((ls.length : Int) + 1) = ((ls.length + 1 : Nat) : Int) := by rw [w64_id (by omega) (by omega)]; omega
   have hz : (s.extract a s.size).size = s.size - a := by rw [ByteArray.size_extract]; omega
   have hle := lend_le (s := s) (a := a) (by omega); have hge := lend_ge s a; have hcut := lend_cut (s := s) (a := a) (by omega); have hA : cutA (s.extract a s.size) = s.extract a (lend s a) := by
    unfold cutA; rw [extract_extract (by omega), hcut]; rfl
   simp [h']; refine ⟨by omega, CallK.intro (cut_ok (s.extract a s.size) (by omega)) ?_ (by simp [cutR])⟩; have hsz : (s.extract a (lend s a)).size = lend s a - a := by rw [ByteArray.size_extract]; omega
   simp [cutR, hA, hw1]; refine CallK.intro (tokensO_ok (s.extract a (lend s a)) (ls.length + 1) a (by omega) (by omega) (by omega)) ?_ (by simp [nwR_tkP]); rw [tkP_row hle hge]; have hw2 : w64 (((s.extract a (lend s a)).size : Int) + 1) = ((lend s a - a + 1 : Nat) : Int) := by rw [hsz, w64_id (by omega) (by omega)]; omega
   have hw3 : w64 ((a : Int) + ((lend s a - a + 1 : Nat) : Int)) = ((lend s a + 1 : Nat) : Int) := by rw [w64_id (by omega) (by omega)]; omega
   have hw4 : w64 ((a : Int) + (((lend s a - a : Nat) : Int) + 1)) = ((lend s a + 1 : Nat) : Int) := by rw [w64_id (by omega) (by omega)]; omega
   rw [lns_eq, if_pos h] at h3; simp [hsz, hw4]; refine ⟨by omega, (lend s a + 1, ls ++ [tokL s (ls.length + 1) a (lend s a)]), by dsimp only; omega, ⟨by dsimp only; omega, by simp; omega, by simpa using h3⟩, Weak.to (by simp [lnR]) rfl (by simp) (by simp [belowR_lnR, belowR_tok, lnR]) (by simp)⟩
  ·have h' : ¬ (a : Int) < s.size := by omega
   rw [lns_eq, if_neg h, List.append_nil] at h3; simp [h', h3]
theorem cutPreL_ok (s : ByteArray) (hs : s.size ≤ 9223372036854775807) : APure Tryz.prog 445 [ST s, ST ⟨#[45]⟩] (fun r => r = .pv (.tup [ST (cpT s), BL (cpS s)])) := by
 have e1 : (ByteArray.mk #[45]).size = 1 := rfl; refine apureX [] [.tmp 4, .tmp 5] hmo Tryz.func445 ?_; simp; refine CallK.intro (slPre_ok s ⟨#[45]⟩ hs) ?_; have hz : preS s ⟨#[45]⟩ = true → 1 ≤ s.size := fun h => by
  unfold preS at h; rw [Bool.and_eq_true, decide_eq_true_eq] at h; exact h.1
 by_cases h : preS s ⟨#[45]⟩ = true
 ·have := hz h; simp [cpT, cpS, h, e1]; omega
 ·simp [cpT, cpS, h]
theorem cutPre_ok (s : ByteArray) (hs : s.size ≤ 9223372036854775807) : APure Tryz.prog 401 [ST s, ST ⟨#[45]⟩] (fun r => r = .pv (.tup [ST (cpT s), BL (cpS s)])) := by
 refine apureX [] [.tmp 4, .tmp 5] hmo Tryz.func401 ?_; simp; refine CallK.intro (cutPreL_ok s hs) ?_ (by simp); simp
def numlR (s : ByteArray) : PV := if badH (cpT s) (cpS s) then .tup [ST ByteArray.empty, BL false, BL false] else if allDg (cpT s) then .tup [ST (cpT s), BL (cpS s), BL true] else .tup [ST ByteArray.empty, BL false, BL false]
set_option maxRecDepth 16000 in
theorem numeral_ok (s : ByteArray) (hs : s.size ≤ 1000000) : APure Tryz.prog 340 [ST s] (fun r => r = .pv (numlR s)) := by
 refine apureX [] [.tmp 2, .tmp 3, .tmp 4] hmo Tryz.func340 ?_; simp; refine CallK.intro (cutPre_ok s (by omega)) ?_ (by simp); have hd : (cpT s).size ≤ s.size := by
  unfold cpT; split
  ·rw [ByteArray.size_extract]; omega
  ·exact Nat.le_refl _
 have hR : numlR s = if badH (cpT s) (cpS s) then .tup [ST ByteArray.empty, BL false, BL false] else if allDg (cpT s) then .tup [ST (cpT s), BL (cpS s), BL true] else .tup [ST ByteArray.empty, BL false, BL false] := rfl; rw [hR]; clear hR; generalize cpT s = d at *; generalize cpS s = m at *; by_cases h0 : d = ⟨#[]⟩
 ·subst h0; rw [if_pos (show badH ⟨#[]⟩ m from .inl rfl)]; simp; rfl
 ·have hpos : 0 < d.size := by
   apply Nat.pos_of_ne_zero; intro e; apply h0; obtain ⟨⟨l⟩⟩ := d; have : l.length = 0 := e; rw [List.eq_nil_of_length_eq_zero this]
  have h48 : ∀ b : UInt8, ((b.toNat : Int) = 48 ↔ b = 48) := fun b => by
   have e48 : (48 : UInt8).toNat = 48 := rfl; constructor
   ·intro h; apply UInt8.toNat_inj.1; omega
   ·intro h; rw [h]; rfl
  simp [h0]; refine ⟨hpos, fun h => ⟨h, fun h2 => ⟨h, h2⟩⟩, fun h h2 => ?_, fun h => ?_⟩
  ·rw [if_pos (show badH d m from .inr ⟨(h48 _).1 h, h2.imp (fun e => by omega) id⟩)]; rfl
  ·have hb : ¬ badH d m := by
    rintro (e | ⟨e1, e2⟩)
    ·exact h0 e
    ·have := h ((h48 _).2 e1); rcases e2 with e2 | e2
     ·omega
     ·rw [this.2] at e2; cases e2
   rw [if_neg hb]; clear h hb h0; refine ALoop.intro (S := fun (i : Nat) => ⟨[(5, .pv (ST d)), (6, .pv (BL m)), (7, .pv (I64 i))], []⟩) (fun i => i ≤ d.size ∧ ∀ j, j < i → isDg (byt d j) = true) (fun i => d.size - i) 0 ?_ ⟨Nat.zero_le _, fun j h => by cases h⟩ ?_
   ·exact Weak.to (by simp) rfl (by simp) (by simp) (by simp)
   ·rintro i ⟨hi, hall⟩; by_cases hlt : i < d.size
    ·have hlt' : (i : Int) < d.size := by omega
     have hw : w64 ((i : Int) + 1) = ((i + 1 : Nat) : Int) := by rw [w64_id (by omega) (by omega)]; omega
     by_cases g : isDg (byt d i) = true
     ·have g' := isDg_iff.1 g; unfold byt at g'; have g1 : ¬ (((d[i]?.getD 0).toNat : Nat) : Int) < 48 := by omega
      have g2 : ¬ (57 : Int) < (((d[i]?.getD 0).toNat : Nat) : Int) := by omega
      simp [hlt', g1, g2, hw]; refine ⟨i + 1, by dsimp only; omega, ⟨by omega, fun j hj => ?_⟩, Weak.to (by simp) rfl (by simp) (by simp) (by simp)⟩; by_cases e : j = i
      ·subst e; exact g
      ·exact hall j (by omega)
     ·have g' : ¬ (48 ≤ (byt d i).toNat ∧ (byt d i).toNat ≤ 57) := fun e => g (isDg_iff.2 e); unfold byt at g'; have hA : ¬ allDg d := fun h => g (h i hlt); rw [if_neg hA]; simp [hlt', hw]; exact ⟨fun _ => rfl, fun h1 h2 => absurd ⟨by omega, by omega⟩ g'⟩
    ·have hlt' : ¬ (i : Int) < d.size := by omega
     have hA : allDg d := fun j hj => hall j (by omega); simp [hlt', hA]
def numPV (s : ByteArray) (lo hi : Int) : PV := .tup [I64 (numF s lo hi).1, I64 (numF s lo hi).2]
set_option maxRecDepth 16000 in
theorem number_ok (s : ByteArray) (hs : s.size ≤ 1000000) (lo hi' : Int) : APure Tryz.prog 246 [ST s, I64 lo, I64 hi'] (fun r => r = .pv (numPV s lo hi')) := by
 refine apureX [] [.tmp 6, .tmp 7] hmo Tryz.func246 ?_; simp; refine CallK.intro (numeral_ok s hs) ?_ (by unfold numlR; split; simp; split <;> simp); by_cases hb : badH (cpT s) (cpS s)
 ·have : numPV s lo hi' = .tup [I64 0, I64 5] := by unfold numPV; rw [numF_bad (fun h => h.1 hb)]; rfl
  simp [numlR, hb, this]
 by_cases ha : allDg (cpT s); rotate_left
 ·have : numPV s lo hi' = .tup [I64 0, I64 5] := by unfold numPV; rw [numF_bad (fun h => ha h.2)]; rfl
  simp [numlR, hb, ha, this]
 simp [numlR, hb, ha]; have hN := numF_ok ⟨hb, ha⟩ lo hi'; unfold numV at hN; unfold numPV; have hd : (cpT s).size ≤ s.size := by
  unfold cpT; split
  ·rw [ByteArray.size_extract]; omega
  ·exact Nat.le_refl _
 generalize cpT s = d at *; generalize cpS s = m at *; have hmono : ∀ k i, valT d i * 10 ^ k ≤ valT d (i + k) := by
  intro k
  induction k with
  | zero => intro i; simp
  | succ k ih =>
   intro i; have := ih i; rw [show i + (k + 1) = i + k + 1 by omega, valT, Nat.pow_succ, ← Nat.mul_assoc]; omega
 have hge : ∀ i, i < d.size → 10 * valT d i ≤ valT d d.size := by
  intro i hi; have h1 := hmono (d.size - i) i; rw [show i + (d.size - i) = d.size by omega] at h1; have h2 : 10 ^ 1 ≤ 10 ^ (d.size - i) := Nat.pow_le_pow_right (by omega) (by omega); have h3 := Nat.mul_le_mul_left (valT d i) h2; omega
 have hfar : ∀ i, i < d.size → 1844674407370955160 < valT d i → (numF s lo hi').1 = 0 ∧ ((numF s lo hi').2 : Int) = 7 := by
  intro i hi hv; have := hge i hi; rw [hN, if_pos (by split <;> omega)]; exact ⟨rfl, rfl⟩
 refine ALoop.intro (S := fun (i : Nat) => ⟨[(0, .pv (ST s)), (1, .pv (I64 lo)), (2, .pv (I64 hi')), (8, .pv (ST d)), (9, .pv (BL m)), (11, .pv (.lit (.int .u64 (valT d i)))), (12, .pv (I64 i))], []⟩) (fun i => i ≤ d.size ∧ valT d i < 18446744073709551616) (fun i => d.size - i) 0 ?_ ⟨Nat.zero_le _, by simp [valT]⟩ ?_
 ·exact Weak.to (by simp [valT]) rfl (by simp) (by simp) (by simp)
 ·rintro i ⟨hi, hv⟩; by_cases hlt : i < d.size
  ·have hlt' : (i : Int) < d.size := by omega
   have hw := wnx i; by_cases hf : 1844674407370955160 < valT d i
   ·have hf' : (1844674407370955160 : Int) < (valT d i : Int) := by omega
    have := hfar i hlt hf; simp [hlt', hf', this]
   ·have hf' : ¬ (1844674407370955160 : Int) < (valT d i : Int) := by omega
    have g := isDg_iff.1 (ha i hlt); have hvn : valT d (i + 1) = 10 * valT d i + ((byt d i).toNat - 48) := rfl; unfold byt at g hvn; have hu : IntKind.u64.wrap (IntKind.u64.wrap (10 * (valT d i : Int)) + IntKind.u64.wrap (IntKind.u8.wrap (((d[i]?.getD 0).toNat : Int) - 48))) = ((valT d (i + 1) : Nat) : Int) := by
     rw [IntKind.wrap_u64, IntKind.wrap_u64, IntKind.wrap_u64, IntKind.wrap_u8, hvn]; omega
    simp [hlt', hf', hw]; refine ⟨i + 1, by dsimp only; omega, ⟨by omega, by omega⟩, Weak.to (by simp [hu]) rfl (by simp) (by simp) (by simp)⟩
  ·have hlt' : ¬ (i : Int) < d.size := by omega
   have hi : i = d.size := by omega
   subst hi; simp [hlt']; have h1 : (∀ x : Int, (x < -9223372036854775808 ∨ 9223372036854775807 < x ∨ x < lo ∨ hi' < x) → (if m = true then -((valT d d.size : Nat) : Int) else ((valT d d.size : Nat) : Int)) = x → (numF s lo hi').1 = 0 ∧ ((numF s lo hi').2 : Int) = 7) := by
    rintro x hx rfl; rw [hN, if_pos hx]; exact ⟨rfl, rfl⟩
   have h2 : (∀ x : Int, ¬ (x < -9223372036854775808 ∨ 9223372036854775807 < x ∨ x < lo ∨ hi' < x) → (if m = true then -((valT d d.size : Nat) : Int) else ((valT d d.size : Nat) : Int)) = x → (numF s lo hi').1 = x ∧ ((numF s lo hi').2 : Int) = 0) := by
    rintro x hx rfl; rw [hN, if_neg hx]; exact ⟨rfl, rfl⟩
   clear hN; generalize numF s lo hi' = F at *; generalize valT d d.size = V at *; cases m
   ·simp only [Bool.false_eq_true, if_false] at h1 h2; refine ⟨fun h => ⟨h, fun e => (by cases e)⟩, fun h _ => ?_, fun h => ⟨fun e => (by cases e), fun _ => ?_⟩⟩
    ·obtain ⟨e1, e2⟩ := h1 _ (by omega) rfl; exact ⟨e1.symm, e2.symm⟩
    ·have hs : ¬ (9223372036854775807 : Int) < V := fun c => by have := h c; cases this.1
     rw [w64_id (by omega) (by omega)]; exact ⟨fun c => (h1 _ (by omega) rfl).imp Eq.symm Eq.symm, fun c1 c2 => (h2 _ (by omega) rfl).imp Eq.symm Eq.symm⟩
   ·simp only [if_true] at h1 h2; refine ⟨fun h => ⟨h, fun _ => ⟨h, rfl⟩⟩, fun h c => ?_, fun h => ⟨fun _ => ?_, fun e => (by cases e)⟩⟩
    ·rcases c with c | c
     ·cases c
     ·exact (h1 _ (by omega) rfl).imp Eq.symm Eq.symm
    ·have hs : (V : Int) ≤ 9223372036854775808 := by
      by_cases c : (9223372036854775807 : Int) < V
      ·have := (h c).2; omega
      ·omega
     rw [w64_id (n := -(V : Int)) (by omega) (by omega)]; exact ⟨fun c => (h1 _ (by omega) rfl).imp Eq.symm Eq.symm, fun c1 c2 => (h2 _ (by omega) rfl).imp Eq.symm Eq.symm⟩
end Go.AX
