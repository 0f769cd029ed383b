/-
  Contracts: the library's words of texts.
  Contracts: words of a line.
  Contracts: a text is cut at its first line's end.
-/
import Derived.Test.YtpejmhpcgpnpaaaGreatS15AxCntL
import Derived.Test.YtpejmhpcgpnpaaaGreatAxGo
import Derived.Test.YtpejmhpcgpnpaaaGreatAxRdX
import Derived.Lib.Walk
import Derived.Lib.Bytealg
namespace Go.AX
open Go.Proofs
set_option linter.unusedSimpArgs false
@[simp] theorem slz_str : slSize Tryz.prog 9 = none := by kernel_rfl
@[simp] theorem ari_str : arInfo Tryz.prog 9 = none := by kernel_rfl
set_option maxHeartbeats 1000000 in
set_option maxRecDepth 100000 in
theorem slIx_ok (s : ByteArray) (c : UInt8) : APure Tryz.prog 343 [ST s, U8 c] (fun r => r = .pv (I64 (Lib.indexByte s.data.toList c))) :=
 ⟨by kernel_rfl, fun w vs hv => by
  obtain ⟨v1, r1, rfl, h1, v2, r2, rfl, h2, h3⟩ := hv; have h1 : v1 = .string s := h1; have h2 : v2 = .int .u8 c.toNat := h2; have h3 : r2 = [] := h3; subst h1 h2 h3; have key : Calls Tryz.prog 343 #[.string s, .int .u8 c.toNat] w fun e w' => e = .returned (.int .i64 (Lib.indexByte s.data.toList c)) ∧ w' = w := by
   go_enter Tryz.func343, Tryz.ntmps343
   go_wp2
   rw [run_callFunc_extern Tryz.func405 (by kernel_rfl) (by kernel_rfl) (by kernel_rfl) (e := Extern.BytealgIndexByte.indexByte) (by kernel_rfl), Lib.run_indexByteString]; simp only [Result.andThen]; rw [Oper.upon_value]
   go_wp2
   go_ret
   exact ⟨by simp, rfl⟩
  refine key.mono ?_; rintro e w' ⟨rfl, rfl⟩; exact ⟨_, _, snap w', none, rfl, rfl, ⟨rfl, rfl, fun _ _ => rfl, Nat.le_refl _, fun _ _ h => h⟩, ⟨rfl, rfl⟩, rfl, fun c h => by cases h⟩⟩
theorem ixByte_ok (s : ByteArray) (c : UInt8) : APure Tryz.prog 249 [ST s, U8 c] (fun r => r = .pv (I64 (Lib.indexByte s.data.toList c))) := by
 refine apure1 hmo Tryz.func249 ?_; simp; refine CallK.intro (slIx_ok s c) ?_; simp
theorem slPre_ok (s p : ByteArray) (hs : s.size ≤ 9223372036854775807) : APure Tryz.prog 342 [ST s, ST p] (fun r => r = .pv (BL (preS s p))) := by
 refine apure1 hmo Tryz.func342 ?_; by_cases h : p.size ≤ s.size
 ·simp [preS, h]
 ·simp [preS, h]
theorem hasPre_ok (s p : ByteArray) (hs : s.size ≤ 9223372036854775807) : APure Tryz.prog 248 [ST s, ST p] (fun r => r = .pv (BL (preS s p))) := by
 refine apure1 hmo Tryz.func248 ?_; simp; refine CallK.intro (slPre_ok s p hs) ?_; simp
theorem gap_ix (b : UInt8) : (0 ≤ Lib.indexByte [32, 9, 13] b) ↔ gapB b = true := by
 have e : Lib.indexByte [32, 9, 13] b = if (32 : UInt8) == b then 0 else if (9 : UInt8) == b then 1 else if (13 : UInt8) == b then 2 else -1 := by
  simp only [Lib.indexByte]; split <;> (try rfl); split <;> (try rfl); split <;> rfl
 rw [e]; unfold gapB; have h1 : ∀ c : UInt8, (c == b) = (b == c) := fun c => Bool.eq_iff_iff.2 (by rw [beq_iff_eq, beq_iff_eq]; exact eq_comm); rw [h1 32, h1 9, h1 13]; cases b == 32 <;> cases b == 9 <;> cases b == 13 <;> simp
theorem gapIx_ok (b : UInt8) : APure Tryz.prog 249 [ST ⟨#[32, 9, 13]⟩, U8 b] (fun r => r = .pv (I64 (Lib.indexByte [32, 9, 13] b))) := ixByte_ok ⟨#[32, 9, 13]⟩ b
def tkP (t : ByteArray) (k a : Nat) (p : Nat × Nat) : List PV := [I64 k, I64 ((a : Int) + p.1), ST (t.extract p.1 p.2)]
theorem remB_iff (t : ByteArray) : remB t 0 t.size = true ↔ t = ⟨#[99]⟩ ∨ preS t ⟨#[99, 32]⟩ = true := by
 obtain ⟨⟨l⟩⟩ := t; have hb : ∀ i, byt ⟨⟨l⟩⟩ i = l[i]?.getD 0 := fun i => by
  unfold byt; congr 1; by_cases h : i < l.length
  ·have h' : i < (ByteArray.mk ⟨l⟩).size := h; rw [getElem?_pos (ByteArray.mk ⟨l⟩) i h', List.getElem?_eq_getElem h]; rfl
  ·have h' : ¬ i < (ByteArray.mk ⟨l⟩).size := h; rw [getElem?_neg (ByteArray.mk ⟨l⟩) i h', List.getElem?_eq_none (by omega)]
 have hs : (ByteArray.mk ⟨l⟩).size = l.length := rfl; have hx : ∀ m : List UInt8, (ByteArray.mk ⟨l⟩ = ByteArray.mk ⟨m⟩) ↔ l = m := fun m => by simp
 have he : (ByteArray.mk ⟨l⟩).extract 0 2 = ByteArray.mk ⟨l.take 2⟩ := by
  apply ByteArray.ext; simp [ByteArray.data_extract]
 have hp : preS ⟨⟨l⟩⟩ ⟨#[99, 32]⟩ = true ↔ l.take 2 = [99, 32] := by
  unfold preS; rw [show (ByteArray.mk #[99, 32]).size = 2 from rfl, he, Bool.and_eq_true, decide_eq_true_eq, decide_eq_true_eq, hs]; constructor
  ·rintro ⟨_, h⟩; have := congrArg (fun b : ByteArray => b.data.toList) h; simpa using this
  ·intro h; have := congrArg List.length h; simp at this; exact ⟨by omega, by rw [h]⟩
 rw [hp, hx [99]]; unfold remB; rw [hb 0, hb (0 + 1), hs]
 match l with
 | [] => simp
 | [x] => simp
 | x :: y :: r => simp
theorem belowR_tkP (m : Nat) (t : ByteArray) (k a : Nat) : ∀ ts : List (Nat × Nat), belowR m (ts.map (tkP t k a))
 | [] => trivial
 | _ :: ts => ⟨⟨trivial, trivial, trivial, trivial⟩, belowR_tkP m t k a ts⟩
def tkS (k a i f : Nat) (t : ByteArray) (ts : List (Nat × Nat)) : St := ⟨[(0, .pv (ST t)), (1, .pv (I64 k)), (2, .pv (I64 a)), (7, .own true 3 (ts.map (tkP t k a))), (8, .pv (I64 i)), (9, .pv (I64 f))], []⟩
def tkJ (k a : Nat) (t : ByteArray) (l m : Nat) (st : St) : Prop :=
 (l = 0 ∧ ∃ i f ts, i ≤ t.size ∧ m = t.size - i ∧ ts ++ toks t t.size i = wrds t 0 t.size ∧ st = tkS k a i f t ts) ∨
 (l = 1 ∧ ∃ i f ts, f ≤ i ∧ i < t.size ∧ m = t.size - i ∧ ts ++ (f, nxt gapB t t.size (i + 1)) :: toks t t.size (nxt gapB t t.size (i + 1)) = wrds t 0 t.size ∧ st = tkS k a i f t ts)
set_option maxRecDepth 16000 in
theorem tokens_ok (t : ByteArray) (k a : Nat) (ht : t.size ≤ 1000000) (hk : k ≤ 2000000) (ha : a ≤ 1000000) : APure Tryz.prog 160 [ST t, I64 k, I64 a] (fun r => r = .own true 3 ((wrds t 0 t.size).map (tkP t k a)) ∨ (wrds t 0 t.size = [] ∧ r = .pv (.lit (.slice none 0 0)))) := by
 refine apureS [] Tryz.func160 ?_; refine CSem.seq (CSem.of hmo ?_); simp; refine CSem.name fun X hX => ?_; have L1 : ∀ R, findLabel X 1 = some (.seq .skip R) → ∀ n i f ts, f ≤ i → i < t.size → t.size - i ≤ n → ts ++ (f, nxt gapB t t.size (i + 1)) :: toks t t.size (nxt gapB t t.size (i + 1)) = wrds t 0 t.size →
  CSem Tryz.prog 0 [] R (gotoQ 0 X (tkJ k a t) n (endQ (ret1 6 fun r => r = .own true 3 ((wrds t 0 t.size).map (tkP t k a)) ∨ (wrds t 0 t.size = [] ∧ r = .pv (.lit (.slice none 0 0)))))) (tkS k a i f t ts) := by
  intro R hR n i f ts hfi hi hn hrows; have l0 : ∃ r, findLabel X 0 = some r := by rw [hX]; exact ⟨_, rfl⟩
  have l1 : ∃ r, findLabel X 1 = some r := ⟨_, hR⟩; rw [hX] at hR; simp [findLabel] at hR; subst hR; clear hX; refine CSem.of hmo ?_; have hw : w64 ((i : Int) + 1) = ((i + 1 : Nat) : Int) := by rw [w64_id (by omega) (by omega)]; omega
  have hwa : w64 ((a : Int) + f) = (a : Int) + f := w64_id (by omega) (by omega); have hlen : ts.length < t.size := by
   have := wrds_len t 0 t.size; rw [← hrows, List.length_append, List.length_cons] at this; omega
  have fin : ∀ st, Weak 0 st (tkS k a (i + 1) f t (ts ++ [(f, i + 1)])) → nxt gapB t t.size (i + 1) = i + 1 → gotoQ 0 X (tkJ k a t) n (endQ (ret1 6 fun r => r = .own true 3 ((wrds t 0 t.size).map (tkP t k a)) ∨ (wrds t 0 t.size = [] ∧ r = .pv (.lit (.slice none 0 0))))) (.goto 0) st := fun st hst hx =>
   ⟨l0, t.size - (i + 1), _, by omega, hst, .inl ⟨rfl, i + 1, f, _, by omega, rfl, by rw [← hrows, hx]; simp, rfl⟩⟩
  by_cases h : i + 1 < t.size
  ·have h' : (i : Int) + 1 < t.size := by omega
   simp [tkS, hw, h']; refine ⟨by omega, CallG.intro (fun _ => gapIx_ok (byt t (i + 1))) ?_⟩; by_cases g : gapB (byt t (i + 1)) = true
   ·have g1 := (gap_ix _).2 g; have g2 : ¬ Lib.indexByte [32, 9, 13] (byt t (i + 1)) < 0 := by omega
    have hx : nxt gapB t t.size (i + 1) = i + 1 := by rw [nxt_eq, if_pos h, if_pos g]
    simp [g1, g2]; refine ⟨by omega, by omega, fin _ (Weak.to ?_ rfl (by simp) (by simp [belowR_tkP, tkP]) (by simp)) hx⟩; simp [tkP, hwa]
   ·have g1 : ¬ 0 ≤ Lib.indexByte [32, 9, 13] (byt t (i + 1)) := fun e => g ((gap_ix _).1 e); have g2 : Lib.indexByte [32, 9, 13] (byt t (i + 1)) < 0 := by omega
    have hx : nxt gapB t t.size (i + 1) = nxt gapB t t.size (i + 1 + 1) := by rw [nxt_eq, if_pos h, if_neg g]
    simp [g1, g2]; refine ⟨l1, t.size - (i + 1), tkS k a (i + 1) f t ts, by omega, ?_, .inr ⟨rfl, i + 1, f, ts, by omega, h, rfl, by rw [← hx]; exact hrows, rfl⟩⟩; exact Weak.to (by simp) rfl (by simp) (by simp [belowR_tkP]) (by simp)
  ·have h' : ¬ (i : Int) + 1 < t.size := by omega
   have hx : nxt gapB t t.size (i + 1) = i + 1 := by rw [nxt_eq, if_neg h]
   simp [tkS, hw, h']; refine CallG.intro (r := .pv (I64 0)) (fun h => absurd h (by simp)) ?_; simp; refine ⟨by omega, by omega, fin _ (Weak.to ?_ rfl (by simp) (by simp [belowR_tkP, tkP]) (by simp)) hx⟩; simp [tkP, hwa]
 have L0 : ∀ R, findLabel X 0 = some (.seq .skip R) → ∀ n i f ts, i ≤ t.size → t.size - i ≤ n → ts ++ toks t t.size i = wrds t 0 t.size →
  CSem Tryz.prog 0 [] R (gotoQ 0 X (tkJ k a t) n (endQ (ret1 6 fun r => r = .own true 3 ((wrds t 0 t.size).map (tkP t k a)) ∨ (wrds t 0 t.size = [] ∧ r = .pv (.lit (.slice none 0 0)))))) (tkS k a i f t ts) := by
  intro R hR n i f ts hi hn hrows; have l0 : ∃ r, findLabel X 0 = some r := ⟨_, hR⟩; obtain ⟨R1, hR1⟩ : ∃ R1, findLabel X 1 = some (.seq .skip R1) := by rw [hX]; exact ⟨_, rfl⟩
  have l1 := L1 R1 hR1 n i i ts (Nat.le_refl _); rw [hX] at hR hR1; simp [findLabel] at hR hR1; subst hR hR1; clear hX L1; have hw : w64 ((i : Int) + 1) = ((i + 1 : Nat) : Int) := by rw [w64_id (by omega) (by omega)]; omega
  refine CSem.seq (CSem.of hmo ?_); by_cases he : i = t.size
  ·subst he; rw [toks_end, List.append_nil] at hrows; simp [tkS, hrows, gotoQ]
  ·have he' : ¬ (i : Int) = t.size := by omega
   simp [tkS, he']; refine CSem.weak (st1 := tkS k a i f t ts) (Weak.to (by simp) rfl (by simp) (by simp [belowR_tkP]) (by simp)) ?_; refine CSem.seq (CSem.of hmo ?_); have hlt : i < t.size := by omega
   have hlt' : (i : Int) < t.size := by omega
   simp [tkS, hlt']; refine CallK.intro (gapIx_ok (byt t i)) ?_; by_cases g : gapB (byt t i) = true
   ·have g1 := (gap_ix _).2 g; simp [g1, hw]; exact ⟨l0, t.size - (i + 1), tkS k a (i + 1) f t ts, by omega, Weak.to (by simp) rfl (by simp) (by simp [belowR_tkP]) (by simp), .inl ⟨rfl, i + 1, f, ts, by omega, rfl, by rw [← toks_gap hlt g]; exact hrows, rfl⟩⟩
   ·have g1 : ¬ 0 ≤ Lib.indexByte [32, 9, 13] (byt t i) := fun e => g ((gap_ix _).1 e); simp [g1]; refine CSem.weak (st1 := tkS k a i f t ts) (Weak.to (by simp) rfl (by simp) (by simp [belowR_tkP]) (by simp)) ?_; refine CSem.seq (CSem.of hmo ?_); simp [tkS]; refine CSem.lab hmo (CSem.weak (st1 := tkS k a i i t ts) (Weak.to (by simp) rfl (by simp) (by simp [belowR_tkP]) (by simp)) ?_); exact l1 hlt (by omega) (by rw [← toks_word hlt g]; exact hrows)
 refine CSem.scope (tkJ k a t) (t.size + 1) ?_ ?_
 ·obtain ⟨R0, hR0⟩ : ∃ R0, findLabel X 0 = some (.seq .skip R0) := by rw [hX]; exact ⟨_, rfl⟩
  have h0 := L0 R0 hR0 (t.size + 1) 0 0 [] (Nat.zero_le _) (by omega); have hrem := remB_iff t; clear L0 L1; rw [hX] at hR0; simp [findLabel] at hR0; subst hR0; generalize hQ : gotoQ 0 X (tkJ k a t) (t.size + 1) _ = Q at h0 ⊢; have hret : ∀ st, ret1 6 (fun r => r = .own true 3 ((wrds t 0 t.size).map (tkP t k a)) ∨ (wrds t 0 t.size = [] ∧ r = .pv (.lit (.slice none 0 0)))) st → Q .ret st := fun st h => by rw [← hQ]; exact h
  rw [hX]; clear hX hQ; refine CSem.seq (CSem.of hmo ?_); simp; refine CSem.seq (CSem.of hmo ?_); simp; refine CSem.seq (CSem.of hmo ?_); by_cases hc : t = ⟨#[99]⟩
  ·have hw : wrds t 0 t.size = [] := by unfold wrds; rw [if_pos (hrem.2 (.inl hc))]
   subst hc; simp; refine CallG.intro (r := .pv (BL false)) (fun h => absurd h (by simp)) ?_; simp; exact hret _ (by simp [hw])
  ·simp [hc]; refine CallG.intro (fun _ => hasPre_ok t ⟨#[99, 32]⟩ (by omega)) ?_; by_cases hp : preS t ⟨#[99, 32]⟩ = true
   ·have hw : wrds t 0 t.size = [] := by unfold wrds; rw [if_pos (hrem.2 (.inr hp))]
    simp [hp]; exact hret _ (by simp [hw])
   ·have hw : wrds t 0 t.size = toks t t.size 0 := by unfold wrds; rw [if_neg (fun e => by rcases hrem.1 e with e | e <;> contradiction)]
    simp [hp]; refine CSem.lab hmo (CSem.weak (st1 := tkS k a 0 0 t []) ((Weak.nilOwn (s := 7) 3 true (by simp)).trans (Weak.to (by simp [tkS]) rfl (by simp) (by simp) (by simp))) ?_); exact h0 (by rw [hw]; rfl)
 ·intro l r m st hf hJ; rcases hJ with ⟨rfl, i, f, ts, hi, rfl, hrows, rfl⟩ | ⟨rfl, i, f, ts, hfi, hi, rfl, hrows, rfl⟩
  ·obtain ⟨R, hR⟩ : ∃ R, findLabel X 0 = some (.seq .skip R) := by rw [hX]; exact ⟨_, rfl⟩
   have : r = .seq .skip R := by rw [hR] at hf; exact (Option.some.inj hf).symm
   subst this; exact CSem.skp hmo (L0 R hR _ i f ts hi (Nat.le_refl _) hrows)
  ·obtain ⟨R, hR⟩ : ∃ R, findLabel X 1 = some (.seq .skip R) := by rw [hX]; exact ⟨_, rfl⟩
   have : r = .seq .skip R := by rw [hR] at hf; exact (Option.some.inj hf).symm
   subst this; exact CSem.skp hmo (L1 R hR _ i f ts hfi hi (Nat.le_refl _) hrows)
theorem ix_nxt (c : UInt8) : ∀ (l : List UInt8), Lib.indexByte l c = -1 ∧ (∀ j, j < l.length → l[j]?.getD 0 ≠ c) ∨ ∃ k : Nat, Lib.indexByte l c = k ∧ k < l.length ∧ l[k]?.getD 0 = c ∧ ∀ j, j < k → l[j]?.getD 0 ≠ c
 | [] => .inl ⟨rfl, fun j h => by cases h⟩
 | b :: l => by
  simp only [Lib.indexByte]; by_cases e : b = c
  ·subst e; exact .inr ⟨0, by simp, by simp, by simp, fun j h => by cases h⟩
  ·have e' : (b == c) = false := by simpa using e
   rw [e']; rcases ix_nxt c l with ⟨h1, h2⟩ | ⟨k, h1, h2, h3, h4⟩
   ·left; refine ⟨by simp [h1], fun j hj => ?_⟩; cases j with
    | zero => simpa using e
    | succ j => simpa using h2 j (by simpa using hj)
   ·right; refine ⟨k + 1, ?_, by simpa using h2, by simpa using h3, fun j hj => ?_⟩
    ·rw [h1]; have : ((k : Int) == -1) = false := by rw [beq_eq_false_iff_ne]; omega
     simp [this]
    ·cases j with
     | zero => simpa using e
     | succ j => simpa using h4 j (by omega)
theorem nxt_none {p : UInt8 → Bool} {s : ByteArray} {e : Nat} : ∀ i, i ≤ e → (∀ j, i ≤ j → j < e → p (byt s j) = false) → nxt p s e i = e := by
 intro i
 induction h : e - i using Nat.strongRecOn generalizing i with
 | _ m ih =>
  intro hi hp; rw [nxt_eq]; by_cases hlt : i < e
  ·rw [if_pos hlt, if_neg (by rw [hp i (Nat.le_refl _) hlt]; simp)]; exact ih _ (by omega) (i + 1) rfl (by omega) fun j h1 h2 => hp j (by omega) h2
  ·rw [if_neg hlt]; omega
theorem nxt_at {p : UInt8 → Bool} {s : ByteArray} {e k : Nat} (hk : k < e) (hpk : p (byt s k) = true) : ∀ i, i ≤ k → (∀ j, i ≤ j → j < k → p (byt s j) = false) → nxt p s e i = k := by
 intro i
 induction h : k - i using Nat.strongRecOn generalizing i with
 | _ m ih =>
  intro hi hp; rw [nxt_eq, if_pos (by omega)]; by_cases he : i = k
  ·subst he; rw [if_pos hpk]
  ·rw [if_neg (by rw [hp i (Nat.le_refl _) (by omega)]; simp)]; exact ih _ (by omega) (i + 1) rfl (by omega) fun j h1 h2 => hp j (by omega) h2
def lin (t : ByteArray) : Nat := nxt (· == 10) t t.size 0
theorem lin_ix (t : ByteArray) : (Lib.indexByte t.data.toList 10 = -1 ∧ lin t = t.size) ∨ (Lib.indexByte t.data.toList 10 = lin t ∧ lin t < t.size) := by
 obtain ⟨⟨l⟩⟩ := t; have hs : (ByteArray.mk ⟨l⟩).size = l.length := rfl; unfold lin; rcases ix_nxt 10 l with ⟨h1, h2⟩ | ⟨k, h1, h2, h3, h4⟩
 ·exact .inl ⟨h1, nxt_none 0 (Nat.zero_le _) fun j _ hj => by rw [byt_list]; simpa using h2 j hj⟩
 ·have e : nxt (· == 10) (ByteArray.mk ⟨l⟩) (ByteArray.mk ⟨l⟩).size 0 = k := nxt_at (by rw [hs]; exact h2) (by rw [byt_list]; simpa using h3) 0 (Nat.zero_le _) fun j _ hj => by rw [byt_list]; simpa using h4 j hj
  rw [e]; exact .inr ⟨h1, by rw [hs]; exact h2⟩
set_option maxRecDepth 16000 in
theorem slIndex_ok (s : ByteArray) : APure Tryz.prog 341 [ST s, ST ⟨#[10]⟩] (fun r => r = .pv (I64 (Lib.indexByte s.data.toList 10))) := by
 have hI := slIx_ok s 10; refine apure1 hmo Tryz.func341 ?_; have e1 : (ByteArray.mk #[10]).size = 1 := rfl; have e2 : ¬ (ByteArray.mk #[10]) = ByteArray.empty := by decide
 have e3 : ((ByteArray.mk #[10])[0]?.getD 0) = 10 := rfl; by_cases h : (⟨#[10]⟩ : ByteArray) = s
 ·subst h; simp [e1, e2]; rfl
 ·simp [h, e1, e2, e3]; refine CallK.intro hI ?_; simp
def cutA (t : ByteArray) : ByteArray := t.extract 0 (lin t)
def cutR (t : ByteArray) : PV := .tup [ST (cutA t), ST (if lin t < t.size then t.extract (lin t + 1) t.size else ByteArray.empty), BL (decide (lin t < t.size))]
set_option maxRecDepth 16000 in
theorem slCut_ok (s : ByteArray) (hs : s.size ≤ 1000000) : APure Tryz.prog 247 [ST s, ST ⟨#[10]⟩] (fun r => r = .pv (cutR s)) := by
 have hI := slIndex_ok s; have e1 : (ByteArray.mk #[10]).size = 1 := rfl; refine apureX [] [.tmp 4, .tmp 5, .tmp 6] hmo Tryz.func247 ?_; simp; refine CallK.intro hI ?_; rcases lin_ix s with ⟨h1, h2⟩ | ⟨h1, h2⟩
 ·rw [h1]; simp [cutR, cutA, h2]; rfl
 ·rw [h1]; have hw : w64 ((lin s : Int) + 1) = (lin s : Int) + 1 := w64_id (by omega) (by omega); simp [e1, hw, cutR, cutA, h2]; exact ⟨by omega, by omega, by omega⟩
theorem cut_ok (s : ByteArray) (hs : s.size ≤ 1000000) : APure Tryz.prog 159 [ST s, ST ⟨#[10]⟩] (fun r => r = .pv (cutR s)) := by
 refine apureX [] [.tmp 4, .tmp 5, .tmp 6] hmo Tryz.func159 ?_; simp; refine CallK.intro (slCut_ok s hs) ?_ (by simp [cutR]); simp [cutR]
/-! ### Lines -/
theorem lend_cut {s : ByteArray} {a : Nat} (ha : a ≤ s.size) : a + lin (s.extract a s.size) = lend s a := by
 have h := nxt_extract (· == 10) (Nat.le_refl s.size) ha 0; have hz : (s.extract a s.size).size = s.size - a := by rw [ByteArray.size_extract]; omega
 unfold lin lend; rw [hz]; simpa using h
end Go.AX
