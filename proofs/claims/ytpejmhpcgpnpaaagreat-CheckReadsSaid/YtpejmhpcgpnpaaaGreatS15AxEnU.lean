/-
  Contracts: the product of two numbers; repeating.
  Contracts: the row of states that truths say.
  Contracts: what may be encoded; whether truths say a linearization.
  Contracts: the truths of an order, and of a row, by the document.
  The formula holds just if the truths say a linearization (plain law).
  Contracts: the formula of a history.
  Contracts: the document's clauses of places, times and states.
  Contracts: the document's clauses of times and states, and its formula.
  Contracts: the document's formula.
-/
import Derived.Test.YtpejmhpcgpnpaaaGreatS15AxDeP
import Derived.Test.YtpejmhpcgpnpaaaGreatS15AxMovK
import Derived.Test.YtpejmhpcgpnpaaaGreatS15AxCntL
import Derived.Test.YtpejmhpcgpnpaaaGreatAxBe
import Derived.Test.YtpejmhpcgpnpaaaGreatS15AxShelf
import Derived.Test.YtpejmhpcgpnpaaaGreatS15AxEvE
import Derived.Test.YtpejmhpcgpnpaaaGreatS15AxCntO
import Derived.Test.YtpejmhpcgpnpaaaGreatS15AxClB
namespace Go.AX
open Go.Proofs
set_option linter.unusedSimpArgs false
theorem mul_ok (x y : Nat) (hx : x < 18446744073709551616) (hy : y < 18446744073709551616) : APure Tryz.prog 309 [.lit (.int .u64 x), .lit (.int .u64 y)] (fun r => r = .pv (.tup [.lit (.int .u64 ((x * y / 18446744073709551616 : Nat) : Int)), .lit (.int .u64 ((x * y % 18446744073709551616 : Nat) : Int))])) :=
 ⟨by kernel_rfl, fun w vs hv => by
  obtain ⟨v1, r1, rfl, h1, v2, r2, rfl, h2, rfl⟩ := hv; cases h1; cases h2; refine (Any.bits_Mul Tryz.mulA x y hx hy w).mono ?_; rintro e w' ⟨rfl, rfl⟩; exact ⟨_, _, snap w', none, rfl, rfl, ⟨rfl, rfl, fun _ _ => rfl, Nat.le_refl _, fun _ _ h => h⟩, ⟨rfl, _, rfl, _, _, rfl, rfl, _, _, rfl, rfl, rfl⟩, rfl, fun c h => by cases h⟩⟩
def repSch : Sch := .take 0 (.take 1 (.take 2 (.take 3 (.take 4 (.take 5 (.take 6 (.fork [(7, .take 8 (.take 9 .done))])))))))
def repI (n : Nat) (v : Int) (k : Nat) : List Int := List.replicate k v ++ List.replicate (n - k) 0
theorem repI_len {n k : Nat} (v : Int) (h : k ≤ n) : (repI n v k).length = n := by simp [repI]; omega
theorem repI_take (n k : Nat) (v : Int) : (repI n v k).take k = List.replicate k v := by simp [repI]
theorem repI_next {n k : Nat} (v : Int) (h : k ≤ n) : List.replicate k v ++ ((List.replicate k v).take (min k (n - k)) ++ (repI n v k).drop (k + min k (n - k))) = repI n v (k + min k (n - k)) := by
 have e1 : (List.replicate k v).take (min k (n - k)) = List.replicate (min k (n - k)) v := by rw [List.take_replicate]; congr 1; omega
 have e2 : (repI n v k).drop (k + min k (n - k)) = List.replicate (n - (k + min k (n - k))) 0 := by
  unfold repI; rw [List.drop_append, List.drop_of_length_le (by simp), List.nil_append, List.drop_replicate, List.length_replicate]; congr 1; omega
 rw [e1, e2, ← List.append_assoc, List.replicate_append_replicate]; rfl
theorem litsR_irow : ∀ l : List Int, litsR (irow l)
 | [] => trivial
 | _ :: l => ⟨⟨trivial, trivial⟩, litsR_irow l⟩
set_option maxRecDepth 8000 in
theorem repeat_ok (v : Int) (n : Nat) (hn : n ≤ 1000) : APure Tryz.prog 216 [.seq false 1 [[I64 v]], I64 n] (fun r => r = .own true 1 (irow (List.replicate n v))) := by
 refine apure1B [9] hmo Tryz.func216 ?_; have hm := mul_ok 1 n (by omega) (by omega); have e1 : 1 * n / 18446744073709551616 = 0 := by omega
 have e2 : 1 * n % 18446744073709551616 = n := by omega
 rw [e1, e2] at hm; have w1 : IntKind.u64.wrap 1 = 1 := by decide
 have w2 : IntKind.u64.wrap (n : Int) = n := by rw [IntKind.wrap_u64]; omega
 have w3 : w64 (n : Int) = n := w64_id (by omega) (by omega); have h0 : ¬ (n : Int) < 0 := by omega
 simp [w1, w2, h0]; refine CallK.intro hm ?_; have h4 : ¬ 9223372036854775807 < (n : Int) := by omega
 simp [w1, w2, w3, h4]; refine ⟨by omega, ?_⟩; have ht : List.take (min 1 n) [[I64 v]] = irow (List.replicate (min 1 n) v) := by
  cases n with
  | zero => rfl
  | succ m => rw [show min 1 (m + 1) = 1 by omega]; rfl
 refine ALoop.intro (S := fun (k : Nat) => ⟨[(7, .own true 1 (irow (repI n v k))), (8, .pv (I64 k))], []⟩) (fun k => k ≤ n ∧ (0 < n → 0 < k)) (fun k => n - k) (min 1 n) ?_ ⟨by omega, by omega⟩ ?_
 ·exact Weak.to (by simp [ht]; simp [irow, repI]) (by simp) (by simp) (by simp) (by simp)
 rintro k ⟨hk, hk0⟩; have hlen := repI_len v hk; by_cases h : k < n; rotate_left
 ·have hie : k = n := by omega
  subst hie; simp [hlen]; simp [repI]
 have hk1 := hk0 (by omega); have hnx := repI_next v hk; have htk := repI_take n k v; have hw : w64 ((k : Int) + (min k (n - k) : Nat)) = ((k + min k (n - k) : Nat) : Int) := by rw [w64_id (by omega) (by omega)]; omega
 simp [h, hlen]; refine AAnyD.one repSch (by kernel_rfl) ?_; simp [repSch, h, hlen, irow_take, htk]; refine ⟨by omega, litsR_irow _, k + min k (n - k), by (try dsimp only); omega, ⟨by (try dsimp only); omega, fun _ => by (try dsimp only); omega⟩, Weak.to ?_ (by simp) (by simp) (by simp) (by simp)⟩; simp [hw]; rw [← hnx]; simp [irow]
def InB (f : Nat → Bool) (k : Nat) (s : Int) (c : Nat) : Prop :=
 (c = 0 ∧ ∀ b, b < k → f b = false) ∨ (c = 1 ∧ ∃ b0 : Nat, b0 < k ∧ s = (b0 : Int) ∧ ∀ b, b < k → f b = decide (b0 = b)) ∨ (2 ≤ c ∧ c ≤ k ∧ ∃ b1 b2, b1 < k ∧ b2 < k ∧ b1 ≠ b2 ∧ f b1 = true ∧ f b2 = true)
theorem InB.le {f : Nat → Bool} {k : Nat} {s : Int} {c : Nat} (h : InB f k s c) : c ≤ k := by
 rcases h with ⟨h1, _⟩ | ⟨h1, _, h2, _⟩ | ⟨_, h2, _⟩ <;> omega
def failE (o : Obj) (ops : List Op5) : Int := if (objChk o).2 ≠ 0 ∨ (chk ops).2 ≠ 0 then 2 else if ops.length > 64 then 3 else fitsN (sizeP o ops).1 (sizeP o ops).2 ops
def sizeE (o : Obj) (ops : List Op5) : Int × Int := if (objChk o).2 ≠ 0 ∨ (chk ops).2 ≠ 0 then (0, 0) else if ops.length > 64 then (0, 0) else sizeP o ops
theorem sizeP_good {o : Obj} {ops : List Op5} (h1 : (objChk o).2 = 0) (h2 : (chk ops).2 = 0) : sizeP o ops = ((ops.length : Int), o.st) := by unfold sizeP; rw [if_pos ⟨h1, h2⟩]
theorem obj_good {o : Obj} (hr : objR o) (h : (objChk o).2 = 0) : 1 ≤ o.st ∧ o.st ≤ 32 ∧ 0 ≤ o.ini ∧ o.ini < o.st := by
 unfold objChk at h; split at h
 ·rename_i c; have := (objOk_raw hr).1 c; omega
 ·cases h
theorem failE_zero {o : Obj} {ops : List Op5} (hr : objR o) (h : failE o ops = 0) : (objChk o).2 = 0 ∧ (chk ops).2 = 0 ∧ ops.length ≤ 64 ∧ sizeP o ops = ((ops.length : Int), o.st) ∧ sizeE o ops = ((ops.length : Int), o.st) ∧ sizeOk ops.length o.st = true := by
 unfold failE at h; split at h
 ·cases h
 ·rename_i c1; split at h
  ·cases h
  ·rename_i c2; have h1 : (objChk o).2 = 0 := Decidable.of_not_not fun hh => c1 (.inl hh); have h2 : (chk ops).2 = 0 := Decidable.of_not_not fun hh => c1 (.inr hh); have hP := sizeP_good h1 h2; obtain ⟨q1, q2, _⟩ := obj_good hr h1; refine ⟨h1, h2, by omega, hP, by unfold sizeE; rw [if_neg c1, if_neg c2, hP], sizeOk_iff.2 ⟨by omega, by omega, q1, q2⟩⟩
set_option maxRecDepth 8000 in
theorem refErr_ok (o : Obj) (ops : List Op5) (hr : objR o) (hl : o.rows.length ≤ 140737488355328) (hl2 : ops.length ≤ 140737488355328) : APure Tryz.prog 56 [robj o, ovec ops] (fun r => r = .pv (I64 (failE o ops))) := by
 refine apure1 hmo Tryz.func56 ?_; have h1 := refObjChk_ok o hr hl; have h2 := refChk_ok ops hl2; have h4 := refFits_ok ops.length o.st ops hl2; have hP := fun h1 h2 => sizeP_good (o := o) (ops := ops) h1 h2; unfold failE; generalize objChk o = q at *; generalize chk ops = q2 at *; generalize sizeP o ops = P at *; obtain ⟨a1, a2⟩ := q; obtain ⟨b1, b2⟩ := q2; simp only [robj, ovec] at h1 h2 h4; simp [robj, ovec]; refine CallK.intro h1 ?_; simp; refine CallK.intro h2 ?_; by_cases c1 : a2 = 0; rotate_left
 ·simp [c1]
 by_cases c2 : b2 = 0; rotate_left
 ·simp [c1, c2]
 by_cases c3' : 64 < ops.length
 ·have c3 : (64 : Int) < (ops.length : Int) := by omega
  simp [c1, c2, c3, c3']
 have c3 : ¬ (64 : Int) < (ops.length : Int) := by omega
 rw [hP c1 c2]; simp [c1, c2, c3, c3']; refine CallK.intro h4 ?_; simp
set_option maxRecDepth 8000 in
theorem sizeE_ok (o : Obj) (ops : List Op5) (hl : o.rows.length ≤ 140737488355328) (hl2 : ops.length ≤ 140737488355328) : APure Tryz.prog 86 [robj o, ovec ops] (fun r => r = .pv (.tup [.agg [I64 (sizeE o ops).1, I64 (sizeE o ops).2], I64 (failE o ops)])) := by
 refine apureX [] [.cell 4 _, .tmp 5] hmo Tryz.func86 ?_; have h1 := objChk_ok o hl; have h2 := chk_okC ops hl2; have h3 := size_ok o ops hl hl2; have h4 := fits_ok (sizeP o ops).1 (sizeP o ops).2 ops hl2; unfold failE sizeE; generalize objChk o = q at *; generalize chk ops = q2 at *; generalize sizeP o ops = P at *; obtain ⟨a1, a2⟩ := q; obtain ⟨b1, b2⟩ := q2; obtain ⟨P1, P2⟩ := P; generalize fitsN P1 P2 ops = F at *; simp only [robj, ovec] at h1 h2 h3 h4; simp [robj, ovec]; refine CallK.intro h1 ?_; simp; refine CallK.intro h2 ?_; by_cases c1 : a2 = 0; rotate_left
 ·simp [c1]
 by_cases c2 : b2 = 0; rotate_left
 ·simp [c1, c2]
 by_cases c3' : 64 < ops.length
 ·have c3 : (64 : Int) < (ops.length : Int) := by omega
  simp [c1, c2, c3, c3']
 have c3 : ¬ (64 : Int) < (ops.length : Int) := by omega
 simp [c1, c2, c3, c3']; refine CallK.intro h3 ?_; simp; refine CallQ0.intro h4 ?_; simp
def varC (N M : Nat) : Nat := N * N + N + (N + 1) * M
theorem varC_eq {N M : Nat} (hc : sizeOk N M = true) : varsN N M = (varC N M : Nat) ∧ (varsN N M).toNat = varC N M ∧ N ≤ 64 ∧ M ≤ 32 ∧ N * N ≤ 4096 ∧ (N + 1) * M ≤ 2080 := by
 obtain ⟨v1, _⟩ := varsN_eq hc; have hs := sizeOk_iff.1 hc; have e : varsN N M = (varC N M : Nat) := by rw [v1]; unfold varC; simp
 have q1 : N ≤ 64 := by omega
 have q2 : M ≤ 32 := by omega
 exact ⟨e, by omega, q1, q2, Nat.mul_le_mul q1 q1, Nat.mul_le_mul (show N + 1 ≤ 65 by omega) q2⟩
theorem mem_mostS {vs : List Int} {c : List Int} : c ∈ mostS vs ↔ ∃ i j, ∃ hi : i < vs.length, ∃ hj : j < vs.length, i < j ∧ c = [w64 (-vs[i]), w64 (-vs[j])] := by
 unfold mostS mostTo; constructor
 ·intro h; obtain ⟨a, ha, hc⟩ := List.mem_flatMap.1 h; have ha := List.mem_range.1 ha; obtain ⟨w, hw, rfl⟩ := List.mem_map.1 hc; obtain ⟨j, hj, rfl⟩ := List.getElem_of_mem hw; have hj2 : j < vs.length - (a + 1) := by simpa using hj
  refine ⟨a, a + 1 + j, ha, by omega, by omega, ?_⟩; rw [List.getElem_drop, List.getD_eq_getElem?_getD, List.getElem?_eq_getElem ha]; rfl
 ·rintro ⟨i, j, hi, hj, hij, rfl⟩; refine List.mem_flatMap.2 ⟨i, List.mem_range.2 hi, List.mem_map.2 ⟨vs[j], ?_, ?_⟩⟩
  ·obtain ⟨d, rfl⟩ : ∃ d, j = i + 1 + d := ⟨j - (i + 1), by omega⟩; have hd : d < (vs.drop (i + 1)).length := by simp; omega
   have := List.getElem_mem hd; rw [List.getElem_drop] at this; exact this
  ·rw [List.getD_eq_getElem?_getD, List.getElem?_eq_getElem hi]; rfl
/-! ### What the literals say -/
structure TLen (N : Nat) (m : Int) (T : List Bool) : Prop where
  hc : sizeOk N m = true
  len : (T.length : Int) = varsN N m
theorem TLen.n {N : Nat} {m : Int} {T : List Bool} (h : TLen N m T) : T.length = (varsN N m).toNat := by have := h.len; omega
/-! ### Places -/
/-! ### States -/
/-! ### Times -/
/-! ### All clauses -/
def encC (o : Obj) (ops : List Op5) : List (List Int) := placesC ops.length o.st ++ (timesC ops.length o.st (pairsTo ops ops.length) ++ (statesC ops.length o.st o.ini ++ movesC o ops))
/-! ### How long the clauses are -/
theorem enc_rows {o : Obj} {ops : List Op5} (hc : sizeOk ops.length o.st = true) : ∀ c ∈ encC o ops, c.length ≤ 100 := by
 have hs := sizeOk_iff.1 hc; have hN : ops.length ≤ 64 := by omega
 have hM : o.st.toNat ≤ 32 := by omega
 have hmost : ∀ (vs : List Int) (c : List Int), c ∈ mostS vs → c.length ≤ 100 := fun vs c h => by
  obtain ⟨i, j, _, _, _, rfl⟩ := mem_mostS.1 h; simp
 intro c hm; unfold encC at hm; rcases List.mem_append.1 hm with hm | hm
 ·unfold placesC at hm; rw [if_pos hc] at hm; rcases List.mem_append.1 hm with hm | hm
  ·obtain ⟨a, ha, hm⟩ := List.mem_flatMap.1 hm; rcases List.mem_cons.1 hm with rfl | hm
   ·simp; omega
   ·exact hmost _ _ hm
  ·obtain ⟨a, ha, hm⟩ := List.mem_flatMap.1 hm; exact hmost _ _ hm
 rcases List.mem_append.1 hm with hm | hm
 ·unfold timesC timesTo at hm; rw [if_pos hc] at hm; obtain ⟨p, _, hm⟩ := List.mem_flatMap.1 hm; split at hm
  ·obtain ⟨a, ha, hm⟩ := List.mem_flatMap.1 hm; obtain ⟨b, hb, rfl⟩ := List.mem_map.1 hm; simp
  ·cases hm
 rcases List.mem_append.1 hm with hm | hm
 ·unfold statesC at hm; split at hm
  ·rcases List.mem_cons.1 hm with rfl | hm
   ·simp
   ·obtain ⟨a, ha, hm⟩ := List.mem_flatMap.1 hm; rcases List.mem_cons.1 hm with rfl | hm
    ·simp; omega
    ·exact hmost _ _ hm
  ·cases hm
 ·unfold movesC at hm; split at hm
  ·obtain ⟨i, _, hm⟩ := List.mem_flatMap.1 hm; rcases List.mem_append.1 hm with hm | hm
   ·unfold movH at hm; split at hm
    ·cases hm
    ·rcases List.mem_cons.1 hm with rfl | hm
     ·simp
     ·cases hm
   ·obtain ⟨k, _, hm⟩ := List.mem_flatMap.1 hm; obtain ⟨b, _, hm⟩ := List.mem_flatMap.1 hm; have ho : ∀ (x : Option Int) f, (optL x f).length ≤ 1 := fun x f => by cases x <;> simp [optL]
    unfold movB at hm; rcases List.mem_cons.1 hm with rfl | hm
    ·have := ho (mayS o (ops.getD i default) b) (fun y => varS (sizeP o ops).1 (sizeP o ops).2 3 ((k : Int) + 1) y); rw [List.length_append, List.length_cons, List.length_cons, List.length_cons, List.length_nil]; omega
    ·split at hm
     ·rcases List.mem_cons.1 hm with rfl | hm
      ·simp
      ·cases hm
     ·cases hm
  ·cases hm
theorem pairs_few {ops : List Op5} (h : (chk ops).2 = 0) (hn : ops.length ≤ 64) : (pairsTo ops ops.length).length ≤ 2016 := by
 have := pairs_le (chk_zero h).2 ops.length (Nat.le_refl _); have h2 : ops.length * (2 * ops.length - 1 - ops.length) ≤ 64 * 63 := Nat.mul_le_mul hn (by omega); omega
theorem enc_len {o : Obj} {ops : List Op5} (hr : objR o) (hf : failE o ops = 0) : (encC o ops).length ≤ 100000000 ∧ (placesC ops.length o.st).length ≤ 100000000 ∧ (timesC ops.length o.st (pairsTo ops ops.length)).length ≤ 100000000 ∧ (statesC ops.length o.st o.ini).length ≤ 100000000 ∧ (movesC o ops).length ≤ 100000000 := by
 obtain ⟨h1, h2, h3, hP, _, hc⟩ := failE_zero hr hf; have hs := sizeOk_iff.1 hc; have hM : o.st.toNat ≤ 32 := by omega
 have hNN : ops.length * ops.length ≤ 64 * 64 := Nat.mul_le_mul h3 h3; have a1 : (placesC ops.length o.st).length ≤ 64 * (1 + 64 * 64) + 64 * (64 * 64) := by
  unfold placesC; rw [if_pos hc, List.length_append]; have q1 := partA_length ops.length o.st ops.length ops.length; have q2 := partB_length ops.length o.st ops.length ops.length; have q3 : ops.length * (1 + ops.length * ops.length) ≤ 64 * (1 + 64 * 64) := Nat.mul_le_mul h3 (by omega); have q4 : ops.length * (ops.length * ops.length) ≤ 64 * (64 * 64) := Nat.mul_le_mul h3 hNN; have e : ((ops.length : Int)).toNat = ops.length := by omega
  rw [e]; omega
 have a2 : (timesC ops.length o.st (pairsTo ops ops.length)).length ≤ 2016 * (64 * 64) := by
  unfold timesC; rw [if_pos hc]; have e : ((ops.length : Int)).toNat = ops.length := by omega
  rw [e]; have q1 := timesTo_length ops.length o.st ops.length (pairsTo ops ops.length) (pairsTo ops ops.length).length (Nat.le_refl _); have q2 : (pairsTo ops ops.length).length * (ops.length * ops.length) ≤ 2016 * (64 * 64) := Nat.mul_le_mul (pairs_few h2 h3) hNN; omega
 have a3 : (statesC ops.length o.st o.ini).length ≤ 1 + 65 * (1 + 32 * 32) := by
  unfold statesC; split
  ·have q1 := partS_length ops.length o.st o.st.toNat ((ops.length : Int).toNat + 1); have q3 : o.st.toNat * o.st.toNat ≤ 32 * 32 := Nat.mul_le_mul hM hM; have q2 : ((ops.length : Int).toNat + 1) * (1 + o.st.toNat * o.st.toNat) ≤ 65 * (1 + 32 * 32) := Nat.mul_le_mul (by omega) (by omega); rw [List.length_cons]; omega
  ·simp
 have a4 : (movesC o ops).length ≤ 64 * (1 + 64 * (32 * 2)) := by
  unfold movesC; split
  ·rw [hP]; dsimp only; have e : ((ops.length : Int)).toNat = ops.length := by omega
   rw [e]; have q1 := movTo_length o ops.length o.st ops.length o.st.toNat ops ops.length (Nat.le_refl _); have q2 : ops.length * (o.st.toNat * 2) ≤ 64 * (32 * 2) := Nat.mul_le_mul h3 (by omega); have q3 : ops.length * (1 + ops.length * (o.st.toNat * 2)) ≤ 64 * (1 + 64 * (32 * 2)) := Nat.mul_le_mul h3 (by omega); omega
  ·simp
 refine ⟨?_, by omega, by omega, by omega, by omega⟩; unfold encC; rw [List.length_append, List.length_append, List.length_append]; omega
/-! ### The walks -/
def partR (L : List (List Int)) : List PV := [.seq false 1 (L.map crowF)]
@[simp] theorem belowL_partR (k : Nat) (L : List (List Int)) : belowL k (partR L) := by simp [partR]
@[simp] theorem belowR_partR (k : Nat) (l : List (List (List Int))) : belowR k (l.map partR) := by
 induction l with
 | nil => simp
 | cons x l ih => simp [ih]
def catTo (P : List (List (List Int))) (i : Nat) : List (List Int) := (P.take i).flatten
theorem catTo_zero (P : List (List (List Int))) : catTo P 0 = [] := by simp [catTo]
theorem catTo_all (P : List (List (List Int))) : catTo P P.length = P.flatten := by simp [catTo]
theorem catTo_succ {P : List (List (List Int))} {i : Nat} (h : i < P.length) : catTo P (i + 1) = catTo P i ++ P[i] := by
 unfold catTo; rw [← List.take_append_getElem h, List.flatten_append]; simp
theorem catTo_le (P : List (List (List Int))) (k : Nat) : (catTo P k).length ≤ P.flatten.length := by
 unfold catTo; have := congrArg List.length (congrArg List.flatten (List.take_append_drop k P)); rw [List.flatten_append, List.length_append] at this; omega
set_option maxRecDepth 16000 in
theorem concat_ok (P : List (List (List Int))) (hl : P.length ≤ 1000000) (ht : P.flatten.length ≤ 100000000) (hr : ∀ L ∈ P, ∀ x ∈ L, x.length ≤ 1000000) : APure Tryz.prog 87 [.seq false 1 (P.map partR)] (fun r => r = .own true 1 (P.flatten.map crow)) := by
 rw [← catTo_all]; refine apure1 hmo Tryz.func87 ?_; simp; refine ALoop.intro (S := fun (i : Nat) => ⟨[(3, .own true 1 ((catTo P i).map crow)), (8, .pv (.seq false 1 (P.map partR))), (9, .pv (I64 P.length)), (10, .pv (I64 i))], []⟩) (fun i => i ≤ P.length) (fun i => P.length - i) 0 ?_ (Nat.zero_le _) ?_
 ·exact (Weak.nilOwn (s := 3) 1 true (by simp)).trans (Weak.to (by simp [catTo_zero]) (by simp) (by simp) (by simp) (by simp))
 intro i hi; by_cases hlt : i < P.length; rotate_left
 ·have hie : i = P.length := by omega
  subst hie; simp
 have hw := wnx i; have hft := catTo_succ hlt; have hlen := catTo_le P (i + 1); rw [hft, List.length_append] at hlen; simp [hlt, partR]; refine ALoop.intro (S := fun (j : Nat) => ⟨[(3, .own true 1 ((catTo P i ++ P[i].take j).map crow)), (8, .pv (.seq false 1 (P.map partR))), (9, .pv (I64 P.length)), (10, .pv (I64 i)), (14, .pv (.seq false 1 (P[i].map crowF))), (15, .pv (I64 P[i].length)), (16, .pv (I64 j))], []⟩) (fun j => j ≤ P[i].length) (fun j => P[i].length - j) 0 ?_ (Nat.zero_le _) ?_
 ·exact Weak.to (by simp [partR]) (by simp) (by simp) (by simp) (by simp)
 intro j hj; by_cases hjl : j < P[i].length
 ·have hw2 := wnx j; have hcl := clone_ok P[i][j] (hr _ (List.getElem_mem hlt) _ (List.getElem_mem hjl)); have hmin : min j P[i].length = j := by omega
  have hct : List.take (j + 1) (List.map crow P[i]) = List.take j (List.map crow P[i]) ++ [[.seq true 1 (irow P[i][j])]] := by
   rw [← List.take_append_getElem (by simpa using hjl), List.getElem_map]; rfl
  have hctb : belowR 0 (List.take (j + 1) (List.map crow P[i])) := by rw [← List.map_take]; exact belowR_crow _ _
  simp [hjl, crowF]; refine CallK.intro hcl ?_; simp [hmin]; refine ⟨by omega, j + 1, by (try dsimp only); omega, by (try dsimp only); omega, Weak.to ?_ (by simp) (by simp) (by simp [hctb]) (by simp)⟩; simp [hw2, hct, crowF]
 ·have hje : j = P[i].length := by omega
  subst hje; simp; exact ⟨i + 1, by (try dsimp only); omega, by (try dsimp only); omega, Weak.to (by simp [hw, hft]) (by simp) (by simp) (by simp) (by simp)⟩
def encPV (o : Obj) (ops : List Op5) : PV := .tup [if failE o ops = 0 then .agg [I64 (varsN ops.length o.st), .seq true 1 ((encC o ops).map crow)] else .agg [I64 0, .lit (.slice none 0 0)], I64 (failE o ops)]
set_option maxRecDepth 16000 in
theorem encode_ok (o : Obj) (ops : List Op5) (hr : objR o) (hl : o.rows.length ≤ 140737488355328) (hl2 : ops.length ≤ 1000000) : APure Tryz.prog 45 [robj o, ovec ops] (fun r => r = .pv (encPV o ops)) := by
 refine apureX [] [.cell 4 _, .tmp 5] hmo Tryz.func45 ?_; have h1 := sizeE_ok o ops hl (by omega); have h2 := pairs_ok ops (by omega); have h3 := movesC_ok o ops hl (by omega); simp only [robj, ovec] at h1 h2 h3; unfold encPV; simp [robj, ovec]; refine CallK.intro h1 ?_; by_cases hf : failE o ops = 0; rotate_left
 ·simp [hf]
 obtain ⟨g1, g2, g3, hP, hE, hc⟩ := failE_zero hr hf; obtain ⟨q1, q2, q3, q4⟩ := obj_good hr g1; obtain ⟨b0, b1, b2, b3, b4⟩ := enc_len hr hf; have hrows := enc_rows hc; have k1 := placesC_ok ops.length o.st; rw [if_pos hc] at k1; have k2 := timesC_ok ops.length o.st (pairsTo ops ops.length) (by have := pairs_few g2 g3; omega); rw [if_pos hc] at k2; have k3 := statesC_ok ops.length o.st o.ini; rw [if_pos (by rw [hc, decide_eq_true q3, decide_eq_true q4]; rfl)] at k3; rw [hP] at h3; rw [if_pos hc] at h3; have k5 := vars_ok ops.length o.st; rw [if_pos hc] at k5; have k6 := concat_ok [placesC ops.length o.st, timesC ops.length o.st (pairsTo ops ops.length), statesC ops.length o.st o.ini, movesC o ops] (by simp) (by simp; unfold encC at b0; simp at b0; omega) (by
  intro L hL x hx; have : x ∈ encC o ops := by
   unfold encC; simp only [List.mem_cons, List.mem_nil_iff, or_false] at hL; simp only [List.mem_append]; rcases hL with rfl | rfl | rfl | rfl
   ·exact .inl hx
   ·exact .inr (.inl hx)
   ·exact .inr (.inr (.inl hx))
   ·exact .inr (.inr (.inr hx))
  have := hrows x this; omega)
 rw [show [placesC ops.length o.st, timesC ops.length o.st (pairsTo ops ops.length), statesC ops.length o.st o.ini, movesC o ops].flatten = encC o ops by simp [encC]] at k6; simp only [List.map_cons, List.map_nil, partR] at k6; rw [hE]; simp [hf]; refine CallQ0.intro k1 ?_; simp; refine CallQ0.intro h2 ?_; simp; refine CallQ0.intro k2 ?_; simp; refine CallQ0.intro k3 ?_; simp; refine CallQ0.intro h3 ?_; simp; refine CallQ0.intro k6 ?_; simp; refine CallK.intro k5 ?_; simp
set_option maxRecDepth 16000 in
theorem refMost_ok (vs : List Int) (hl : vs.length ≤ 100000) : APure Tryz.prog 128 [.seq false 1 (irow vs)] (fun r => r = .own true 1 ((mostS vs).map crow)) := by
 refine apure1 hmo Tryz.func128 ?_; simp; refine ALoop.intro (S := fun (i : Nat) => ⟨[(0, .pv (.seq false 1 (irow vs))), (3, .own true 1 ((mostTo vs i).map crow)), (4, .pv (I64 i))], []⟩) (fun i => i ≤ vs.length) (fun i => vs.length - i) 0 ?_ (Nat.zero_le _) ?_
 ·exact (Weak.nilOwn (s := 3) 1 true (by simp)).trans (Weak.to (by simp [mostTo]) (by simp) (by simp) (by simp) (by simp))
 intro i hi; by_cases h : i < vs.length; rotate_left
 ·have : i = vs.length := by omega
  subst this; simp [mostS]
 have hw := wnx i; have hn := mostTo_length vs i; have hn2 : i * vs.length ≤ 100000 * 100000 := Nat.mul_le_mul (by omega) hl; simp [h, hw]; refine ALoop.intro (S := fun (j : Nat) => ⟨[(0, .pv (.seq false 1 (irow vs))), (3, .own true 1 ((mostTo vs i ++ mostRow vs[i] ((vs.drop (i + 1)).take j)).map crow)), (4, .pv (I64 i)), (5, .pv (I64 (i + 1 + j : Nat)))], []⟩) (fun j => i + 1 + j ≤ vs.length) (fun j => vs.length - (i + 1) - j) 0 ?_ (by omega) ?_
 ·exact Weak.to (by simp [mostRow]) (by simp) (by simp) (by simp) (by simp)
 intro j hj; have hc1 : ((i + 1 + j : Nat) : Int) = (i : Int) + 1 + (j : Int) := by omega
 by_cases h2 : i + 1 + j < vs.length
 ·have hw2 : w64 ((i : Int) + 1 + (j : Int) + 1) = ((i + 1 + (j + 1) : Nat) : Int) := by rw [w64_id (by omega) (by omega)]; omega
  have hg : vs[i + 1 + j]? = some vs[i + 1 + j] := by simp [h2]
  have htk : (vs.drop (i + 1)).take (j + 1) = (vs.drop (i + 1)).take j ++ [vs[i + 1 + j]] := by
   rw [List.take_add_one]; simp [hg]
  have h2i : (i : Int) + 1 + (j : Int) < (vs.length : Int) := by omega
  have hl2 : (mostRow vs[i] ((vs.drop (i + 1)).take j)).length ≤ 100000 := by simp [mostRow]; omega
  have htn : ((i : Int) + 1 + (j : Int)).toNat = i + 1 + j := by omega
  have h0 : 0 ≤ (i : Int) + 1 + (j : Int) := by omega
  simp [h, h2, h2i, hg, htn, h0]; refine ⟨by omega, j + 1, by (try dsimp only); omega, by (try dsimp only); omega, Weak.to ?_ (by simp) (by simp) (by simp) (by simp)⟩; simp [hw2, htk, mostRow, crow, irow]
 ·have hje : j = vs.length - (i + 1) := by omega
  have hle : ¬ (i : Int) + 1 + (j : Int) < (vs.length : Int) := by omega
  have htk : (vs.drop (i + 1)).take j = vs.drop (i + 1) := List.take_of_length_le (by simp; omega); simp [hle]; exact ⟨i + 1, by (try dsimp only); omega, by (try dsimp only); omega, Weak.to (by simp [hw, htk, mostTo_succ vs h]) (by simp) (by simp) (by simp) (by simp)⟩
theorem rowA_take (n m : Int) (N a k : Nat) (h : k < N) : (rowA n m N a).take (k + 1) = (rowA n m N a).take k ++ [varS n m 1 a k] := by
 rw [← List.take_append_getElem (by simpa using h)]; simp [rowA]
theorem rowB_take (n m : Int) (N a k : Nat) (h : k < N) : (rowB n m N a).take (k + 1) = (rowB n m N a).take k ++ [varS n m 1 k a] := by
 rw [← List.take_append_getElem (by simpa using h)]; simp [rowB]
theorem rowS_take (n m : Int) (N a k : Nat) (h : k < N) : (rowS n m N a).take (k + 1) = (rowS n m N a).take k ++ [varS n m 3 a k] := by
 rw [← List.take_append_getElem (by simpa using h)]; simp [rowS]
set_option maxRecDepth 16000 in
theorem refPlC_ok (N : Nat) (m : Int) (c : sizeOk N m = true) : APure Tryz.prog 57 [I64 N, I64 m] (fun r => r = .own true 1 ((placesC N m).map crow)) := by
 refine apure1 hmo Tryz.func57 ?_; have hs := sizeOk_iff.1 c; have hNN : N ≤ 64 := by omega
 have hq : N * N ≤ 64 * 64 := Nat.mul_le_mul hNN hNN; have hpC : placesC N m = partA N m N N ++ partB N m N N := by unfold placesC; rw [if_pos c]; simp
 rw [hpC]; simp; refine CallK.intro (refCheck_ok _ _) ?_; simp [c]; refine ALoop.intro (S := fun (i : Nat) => ⟨[(0, .pv (I64 N)), (1, .pv (I64 m)), (5, .own true 1 ((partA N m N i).map crow)), (6, .pv (I64 i))], []⟩) (fun i => i ≤ N) (fun i => N - i) 0 ?_ (Nat.zero_le _) ?_
 ·exact (Weak.nilOwn (s := 5) 1 true (by simp)).trans (Weak.to (by simp [partA]) (by simp) (by simp) (by simp) (by simp))
 intro i hi; by_cases h : i < N
 ·have hw := wnx i; have hla := partA_length N m N i; have hla2 : i * (1 + N * N) ≤ 64 * (1 + 64 * 64) := Nat.mul_le_mul (by omega) (by omega); have hma := mostS_length (rowA N m N i); simp only [rowA_length] at hma; have hpa := partA_succ N m N i; have hmost := refMost_ok (rowA N m N i) (by simp; omega); simp [h]; refine ALoop.intro (S := fun (j : Nat) => ⟨[(0, .pv (I64 N)), (1, .pv (I64 m)), (5, .own true 1 ((partA N m N i).map crow)), (6, .pv (I64 i)), (7, .own true 1 (irow ((rowA N m N i).take j))), (8, .pv (I64 j))], []⟩) (fun j => j ≤ N) (fun j => N - j) 0 ?_ (Nat.zero_le _) ?_
  ·exact (Weak.nilOwn (s := 7) 1 true (by simp)).trans (Weak.to (by simp [irow]) (by simp) (by simp) (by simp) (by simp))
  intro j hj; by_cases h2 : j < N
  ·have hw2 := wnx j; have hat := refAt_ok N m i j; rw [var1 c ⟨by omega, by omega⟩ ⟨by omega, by omega⟩] at hat; have htk := rowA_take N m N i j h2; have hmin : min j N = j := by omega
   simp [h2]; refine CallK.intro hat ?_; simp [hmin]; refine ⟨by omega, j + 1, by (try dsimp only); omega, by (try dsimp only); omega, Weak.to ?_ (by simp) (by simp) (by simp) (by simp)⟩; simp [hw2, htk]; simp [irow]
  ·have hje : j = N := by omega
   subst hje; have hfull : (rowA j m j i).take j = rowA j m j i := List.take_of_length_le (by simp); simp [hfull]; refine ⟨by omega, ?_⟩; refine CallK.intro hmost ?_; simp; refine ⟨by omega, i + 1, by (try dsimp only); omega, by (try dsimp only); omega, Weak.to ?_ (by simp) (by simp) (by simp) (by simp)⟩; simp [hw, hpa, crow]
 have hie : i = N := by omega
 subst hie; have hla2 : i * (1 + i * i) ≤ 64 * (1 + 64 * 64) := Nat.mul_le_mul (by omega) (by omega); have hla := partA_length i m i i; simp; refine ALoop.intro (S := fun (k : Nat) => ⟨[(0, .pv (I64 i)), (1, .pv (I64 m)), (5, .own true 1 ((partA i m i i ++ partB i m i k).map crow)), (9, .pv (I64 k))], []⟩) (fun k => k ≤ i) (fun k => i - k) 0 ?_ (Nat.zero_le _) ?_
 ·exact Weak.to (by simp [partB]) (by simp) (by simp) (by simp) (by simp)
 intro k hk; by_cases h : k < i; rotate_left
 ·have hke : k = i := by omega
  subst hke; simp
 have hw := wnx k; have hlb := partB_length i m i k; have hlb2 : k * (i * i) ≤ 64 * (64 * 64) := Nat.mul_le_mul (by omega) (by omega); have hmb := mostS_length (rowB i m i k); simp only [rowB_length] at hmb; have hmost := refMost_ok (rowB i m i k) (by simp; omega); have hpb := partB_succ i m i k; simp [h]; refine ALoop.intro (S := fun (j : Nat) => ⟨[(0, .pv (I64 i)), (1, .pv (I64 m)), (5, .own true 1 ((partA i m i i ++ partB i m i k).map crow)), (9, .pv (I64 k)), (10, .own true 1 (irow ((rowB i m i k).take j))), (11, .pv (I64 j))], []⟩) (fun j => j ≤ i) (fun j => i - j) 0 ?_ (Nat.zero_le _) ?_
 ·exact (Weak.nilOwn (s := 10) 1 true (by simp)).trans (Weak.to (by simp [irow]) (by simp) (by simp) (by simp) (by simp))
 intro j hj; by_cases h2 : j < i
 ·have hw2 := wnx j; have hat := refAt_ok i m j k; rw [var1 c ⟨by omega, by omega⟩ ⟨by omega, by omega⟩] at hat; have htk := rowB_take i m i k j h2; have hmin : min j i = j := by omega
  simp [h2]; refine CallK.intro hat ?_; simp [hmin]; refine ⟨by omega, j + 1, by (try dsimp only); omega, by (try dsimp only); omega, Weak.to ?_ (by simp) (by simp) (by simp) (by simp)⟩; simp [hw2, htk]; simp [irow]
 ·have hje : j = i := by omega
  subst hje; have hfull : (rowB j m j k).take j = rowB j m j k := List.take_of_length_le (by simp); simp [hfull]; refine CallK.intro hmost ?_; simp; refine ⟨by omega, k + 1, by (try dsimp only); omega, by (try dsimp only); omega, Weak.to ?_ (by simp) (by simp) (by simp) (by simp)⟩; simp [hw, hpb]
set_option maxRecDepth 16000 in
theorem refStC_ok (N M : Nat) (ini : Int) (c : sizeOk N M = true) (hi : 0 ≤ ini ∧ ini < M) : APure Tryz.prog 60 [I64 N, I64 M, I64 ini] (fun r => r = .own true 1 ((statesC N M ini).map crow)) := by
 refine apure1 hmo Tryz.func60 ?_; have hs := sizeOk_iff.1 c; have hNN : N ≤ 64 := by omega
 have hMM : M ≤ 32 := by omega
 have hq : M * M ≤ 32 * 32 := Nat.mul_le_mul hMM hMM; have h1 : ¬ ini < 0 := by omega
 have h2 : ¬ (M : Int) ≤ ini := by omega
 have hpC : statesC N M ini = [varS N M 3 0 ini] :: partS N M M (N + 1) := by
  unfold statesC; rw [c, decide_eq_true hi.1, decide_eq_true hi.2]; rfl
 have hst0 := refState_ok N M 0 ini; rw [var3 c ⟨by omega, by omega⟩ hi] at hst0; rw [hpC]; simp; refine CallK.intro (refCheck_ok _ _) ?_; simp [c, h1, h2]; refine CallK.intro hst0 ?_; simp; refine ALoop.intro (S := fun (i : Nat) => ⟨[(0, .pv (I64 N)), (1, .pv (I64 M)), (7, .own true 1 (([varS N M 3 0 ini] :: partS N M M i).map crow)), (8, .pv (I64 i))], []⟩) (fun i => i ≤ N + 1) (fun i => N + 1 - i) 0 ?_ (Nat.zero_le _) ?_
 ·exact Weak.to (by simp [partS, crow, irow]) (by simp) (by simp) (by simp) (by simp)
 intro i hi'; by_cases h : i ≤ N; rotate_left
 ·have hie : i = N + 1 := by omega
  subst hie; have h0 : ¬ (N : Int) + 1 ≤ (N : Int) := by omega
  simp [h0]
 have hw := wnx i; have hla := partS_length N M M i; have hla2 : i * (1 + M * M) ≤ 65 * (1 + 32 * 32) := Nat.mul_le_mul (by omega) (by omega); have hma := mostS_length (rowS N M M i); simp only [rowS_length] at hma; have hps := partS_succ N M M i; have hmost := refMost_ok (rowS N M M i) (by simp; omega); simp [h]; refine ALoop.intro (S := fun (j : Nat) => ⟨[(0, .pv (I64 N)), (1, .pv (I64 M)), (7, .own true 1 (([varS N M 3 0 ini] :: partS N M M i).map crow)), (8, .pv (I64 i)), (9, .own true 1 (irow ((rowS N M M i).take j))), (10, .pv (I64 j))], []⟩) (fun j => j ≤ M) (fun j => M - j) 0 ?_ (Nat.zero_le _) ?_
 ·exact (Weak.nilOwn (s := 9) 1 true (by simp)).trans (Weak.to (by simp [irow]) (by simp) (by simp) (by simp) (by simp))
 intro j hj; by_cases h2 : j < M
 ·have hw2 := wnx j; have hat := refState_ok N M i j; rw [var3 c ⟨by omega, by omega⟩ ⟨by omega, by omega⟩] at hat; have htk := rowS_take N M M i j h2; have hmin : min j M = j := by omega
  simp [h2]; refine CallK.intro hat ?_; simp [hmin]; refine ⟨by omega, j + 1, by (try dsimp only); omega, by (try dsimp only); omega, Weak.to ?_ (by simp) (by simp) (by simp) (by simp)⟩; simp [hw2, htk]; simp [irow]
 ·have hje : j = M := by omega
  subst hje; have hfull : (rowS N j j i).take j = rowS N j j i := List.take_of_length_le (by simp); simp [hfull]; refine ⟨by omega, ?_⟩; refine CallK.intro hmost ?_; simp; refine ⟨by omega, i + 1, by (try dsimp only); omega, by (try dsimp only); omega, Weak.to ?_ (by simp) (by simp) (by simp) (by simp)⟩; simp [hw, hps, crow]
theorem proper_in {p : Int × Int} {N : Nat} (h : properS p N = true) : (0 ≤ p.1 ∧ p.1 < N) ∧ (0 ≤ p.2 ∧ p.2 < N) ∧ p.1 ≠ p.2 := by
 unfold properS at h; simp only [Bool.and_eq_true, decide_eq_true_eq, Bool.not_eq_true', decide_eq_false_iff_not] at h; obtain ⟨⟨g1, g2⟩, g3⟩ := h; by_cases c : p.2 < p.1
 ·rw [if_pos c] at g1; rw [if_neg (by omega)] at g2; omega
 ·rw [if_neg c] at g1; by_cases c2 : p.1 < p.2
  ·rw [if_pos c2] at g2; omega
  ·rw [if_neg c2] at g2; omega
set_option maxRecDepth 16000 in
theorem refTiC_ok (N : Nat) (m : Int) (ps : List (Int × Int)) (c : sizeOk N m = true) (hl : ps.length ≤ 100000) (hp : ∀ p ∈ ps, properS p N = true) : APure Tryz.prog 58 [I64 N, I64 m, .seq false 2 (ps.map prow)] (fun r => r = .own true 1 ((timesC N m ps).map crow)) := by
 refine apure1 hmo Tryz.func58 ?_; have hs := sizeOk_iff.1 c; have hNN : N ≤ 64 := by omega
 have hq : N * N ≤ 64 * 64 := Nat.mul_le_mul hNN hNN; have hpC : timesC N m ps = timesTo N m N ps ps.length := by unfold timesC; rw [if_pos c]; simp
 have hck := refCheck_ok N m; rw [if_pos c] at hck; rw [hpC]; simp; refine ALoop.intro (S := fun (i : Nat) => ⟨[(0, .pv (I64 N)), (1, .pv (I64 m)), (2, .pv (.seq false 2 (ps.map prow))), (7, .own true 1 ((timesTo N m N ps i).map crow)), (8, .pv (I64 i))], []⟩) (fun i => i ≤ ps.length) (fun i => ps.length - i) 0 ?_ (Nat.zero_le _) ?_
 ·exact (Weak.nilOwn (s := 7) 1 true (by simp)).trans (Weak.to (by simp [timesTo]) (by simp) (by simp) (by simp) (by simp))
 intro i hi; by_cases h : i < ps.length; rotate_left
 ·have hie : i = ps.length := by omega
  subst hie; simp; refine CallG.intro (r := .pv (I64 0)) (fun h : False => h.elim) ?_; simp
 have hw := wnx i; have hla := timesTo_length N m N ps i (by omega); have hla2 : i * (N * N) ≤ 100000 * (64 * 64) := Nat.mul_le_mul (by omega) hq; obtain ⟨⟨q1, q2⟩, ⟨q3, q4⟩, q5⟩ := proper_in (hp _ (List.getElem_mem h)); have hts := timesTo_succ N m N ps h; rw [if_pos (hp _ (List.getElem_mem h))] at hts; obtain ⟨⟨x, y⟩, hxy⟩ : ∃ z, ps[i] = z := ⟨_, rfl⟩; rw [hxy] at q1 q2 q3 q4 q5 hts; dsimp only at q1 q2 q3 q4 q5; have n1 : ¬ x < 0 := by omega
 have n2 : ¬ y < 0 := by omega
 have n3 : ¬ (N : Int) ≤ x := by omega
 have n4 : ¬ (N : Int) ≤ y := by omega
 simp [h]; refine CallG.intro (fun _ => hck) ?_; simp [h, hxy, prow, n1, n2, n3, n4, q5]; refine ALoop.intro (S := fun (a : Nat) => ⟨[(0, .pv (I64 N)), (1, .pv (I64 m)), (2, .pv (.seq false 2 (ps.map prow))), (7, .own true 1 ((timesTo N m N ps i ++ pairC N m (x, y) a).map crow)), (8, .pv (I64 i)), (9, .pv (I64 x)), (10, .pv (I64 y)), (11, .pv (I64 a))], []⟩) (fun a => a ≤ N) (fun a => N - a) 0 ?_ (Nat.zero_le _) ?_
 ·exact Weak.to (by simp [pairC, prow]) (by simp) (by simp) (by simp) (by simp)
 intro a ha; by_cases h2 : a < N; rotate_left
 ·have hie : a = N := by omega
  subst hie; simp; exact ⟨i + 1, by (try dsimp only); omega, by (try dsimp only); omega, Weak.to (by simp [hw, hts]) (by simp) (by simp) (by simp) (by simp)⟩
 have hw2 := wnx a; have hpl := pairC_length N m (x, y) a; have hpl2 : a * a ≤ 64 * 64 := Nat.mul_le_mul (by omega) (by omega); have hps := pairC_succ N m (x, y) a; simp [h2]; refine ALoop.intro (S := fun (b : Nat) => ⟨[(0, .pv (I64 N)), (1, .pv (I64 m)), (2, .pv (.seq false 2 (ps.map prow))), (7, .own true 1 ((timesTo N m N ps i ++ (pairC N m (x, y) a ++ pairR N m (x, y) a b)).map crow)), (8, .pv (I64 i)), (9, .pv (I64 x)), (10, .pv (I64 y)), (11, .pv (I64 a)), (12, .pv (I64 b))], []⟩) (fun b => b ≤ a) (fun b => a - b) 0 ?_ (Nat.zero_le _) ?_
 ·exact Weak.to (by simp [pairR]) (by simp) (by simp) (by simp) (by simp)
 intro b hb; by_cases h3 : b < a; rotate_left
 ·have hie : b = a := by omega
  subst hie; simp; exact ⟨b + 1, by (try dsimp only); omega, by (try dsimp only); omega, Weak.to (by simp [hw2, hps]) (by simp) (by simp) (by simp) (by simp)⟩
 have hw3 := wnx b; have a1 := refAt_ok N m x a; rw [var1 c ⟨q1, q2⟩ ⟨by omega, by omega⟩] at a1; have a2 := refAt_ok N m y b; rw [var1 c ⟨q3, q4⟩ ⟨by omega, by omega⟩] at a2; have hpr := pairR_succ N m (x, y) a b; have hprl : (pairR N m (x, y) a b).length = b := by simp [pairR]
 simp [h3]; refine CallK.intro a1 ?_; simp; refine CallK.intro a2 ?_; simp; refine ⟨by omega, b + 1, by (try dsimp only); omega, by (try dsimp only); omega, Weak.to ?_ (by simp) (by simp) (by simp) (by simp)⟩; simp [hw3, hpr, crow, irow]
set_option maxRecDepth 16000 in
theorem refEnc_ok (o : Obj) (ops : List Op5) (hr : objR o) (hl : o.rows.length ≤ 140737488355328) (hl2 : ops.length ≤ 1000000) : APure Tryz.prog 29 [robj o, ovec ops] (fun r => r = .pv (encPV o ops)) := by
 refine apureX [] [.cell 4 _, .tmp 5] hmo Tryz.func29 ?_; have h1 := refErr_ok o ops hr hl (by omega); have h2 := refPairs_ok ops (by omega); have h3 := refMovesC_ok o ops hr hl (by omega); simp only [robj, ovec] at h1 h2 h3; unfold encPV; simp [robj, ovec]; refine CallK.intro h1 ?_; by_cases hf : failE o ops = 0; rotate_left
 ·simp [hf]
 obtain ⟨g1, g2, g3, hP, hE, hc⟩ := failE_zero hr hf; obtain ⟨q1, q2, q3, q4⟩ := obj_good hr g1; obtain ⟨b0, b1, b2, b3, b4⟩ := enc_len hr hf; obtain ⟨M, hM⟩ : ∃ M : Nat, o.st = (M : Int) := ⟨o.st.toNat, by omega⟩; have hC : encC o ops = placesC ops.length o.st ++ (timesC ops.length o.st (pairsTo ops ops.length) ++ (statesC ops.length o.st o.ini ++ movesC o ops)) := rfl; rw [hP] at h3; rw [if_pos hc] at h3; have k1 := refPlC_ok ops.length o.st hc; have k2 := refTiC_ok ops.length o.st (pairsTo ops ops.length) hc (by have := pairs_few g2 g3; omega) (pairs_proper (chk_zero g2).2); rw [hM] at hc; have k3 := refStC_ok ops.length M o.ini hc (by omega); have hs := sizeOk_iff.1 hc; obtain ⟨e1, _, n1, n2, n3, n4⟩ := varC_eq hc; have hV : varsN ops.length M = (ops.length : Int) * (ops.length : Int) + (ops.length : Int) + ((ops.length : Int) + 1) * (M : Int) := (varsN_eq hc).1; simp only [hM] at k1 k2 k3 h3 hC b1 b2 b3 b4 ⊢; have w1 : w64 ((ops.length : Int) * (ops.length : Int)) = (ops.length : Int) * (ops.length : Int) := w64_id (by omega) (by omega); have w2 : w64 ((ops.length : Int) + 1) = (ops.length : Int) + 1 := w64_id (by omega) (by omega); have hcM : (((ops.length + 1) * M : Nat) : Int) = ((ops.length : Int) + 1) * (M : Int) := by simp
 have hcN : ((ops.length * ops.length : Nat) : Int) = (ops.length : Int) * (ops.length : Int) := by simp
 have w3 : w64 (((ops.length : Int) + 1) * (M : Int)) = ((ops.length : Int) + 1) * (M : Int) := by rw [← hcM]; exact w64_id (by omega) (by omega)
 have w4 : w64 ((ops.length : Int) * (ops.length : Int) + (ops.length : Int)) = (ops.length : Int) * (ops.length : Int) + (ops.length : Int) := by rw [← hcN]; exact w64_id (by omega) (by omega)
 have w5 : w64 ((ops.length : Int) * (ops.length : Int) + (ops.length : Int) + ((ops.length : Int) + 1) * (M : Int)) = (ops.length : Int) * (ops.length : Int) + (ops.length : Int) + ((ops.length : Int) + 1) * (M : Int) := by rw [← hcN, ← hcM]; exact w64_id (by omega) (by omega)
 simp [hf, w1, w2, w3, w4, w5]; refine CallQ0.intro k1 ?_; simp; refine ⟨by omega, ?_⟩; refine CallQ0.intro h2 ?_; simp; refine CallQ0.intro k2 ?_; simp; refine ⟨by omega, ?_⟩; refine CallQ0.intro k3 ?_; simp; refine ⟨by omega, ?_⟩; refine CallQ0.intro h3 ?_; simp; refine ⟨by omega, ?_⟩; rw [hC, hV]; simp
end Go.AX
