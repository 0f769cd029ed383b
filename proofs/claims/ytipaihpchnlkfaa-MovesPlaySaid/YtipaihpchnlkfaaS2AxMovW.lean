/-
  The walk of MovesPlay.
  The plain law of MovesPlay.
  The plain law of MovesPlay: what all truths say.
  The plain law of MovesPlay: plays are rows, steps are clauses.
-/
import Derived.Test.YtipaihpchnlkfaaS2AxMovS
import Derived.Test.YtipaihpchnlkfaaS2AxMovR
import Derived.Test.YtipaihpchnlkfaaS2AxMovL
import Derived.Test.YtipaihpchnlkfaaS2AxMovO
namespace Go.AX
open Go.Proofs
set_option linter.unusedSimpArgs false

def inTo (n m : Int) (base : List Bool) (inn : List Bool) (k : Nat) : List Bool := (List.range k).foldl (fun acc i => acc.set (markAt n m 2 (i : Nat) 0) (inn.getD i false)) base
theorem inTo_succ (n m : Int) (base inn : List Bool) (k : Nat) : inTo n m base inn (k + 1) = (inTo n m base inn k).set (markAt n m 2 k 0) (inn.getD k false) := by
  unfold inTo; rw [List.range_succ, List.foldl_append]; rfl
@[simp] theorem inTo_length (n m : Int) (base inn : List Bool) : ∀ k, (inTo n m base inn k).length = base.length
  | 0 => rfl
  | k + 1 => by rw [inTo_succ, List.length_set, inTo_length n m base inn k]
/-- All truths of an order, a row of states, and of who is in. -/
def allM (n m : Int) (order row : List Int) (inn : List Bool) (k : Nat) : List Bool := inTo n m (marks (varsN n m).toNat (plIdx n m order order.length ++ stIdx n m row row.length)) inn k

theorem playTo_len_ok {o : Obj} {ops : List Op5} {order : List Int} {inn : List Bool} {out : List Int} (h : playS o ops order inn = some out) : out.length = ops.length + 1 := by
  unfold playS at h
  split at h
  · exact playTo_length h
  · cases h

set_option maxRecDepth 16000 in
theorem movesPlay_walk (o : Obj) (ops : List Op5) (order : List Int) (inn : List Bool) (row : List Int)
    (hlaw : ∀ V1 V2, plS (sizeP o ops).1 (sizeP o ops).2 order = some V1 → stS (sizeP o ops).1 (sizeP o ops).2 row = some V2 → inn.length = ops.length → row.head? = some o.ini → sizeOk (sizeP o ops).1 (sizeP o ops).2 = true →
      (firstS (movesC o ops) (allM (sizeP o ops).1 (sizeP o ops).2 order row inn ops.length) < 0 ↔ playS o ops order inn = some row)) :
    APure Try.prog 6 [robj o, ovec ops, caseV order inn row] (fun r => r = .pv (BL true)) := by
  refine apure1 hmo Try.func6 (by kernel_rfl) rfl rfl (by kernel_rfl) (Nat.le_of_ble_eq_true rfl) ?_
  have hfew := few_ok o
  have hsz := size_ok o ops
  have hmv := movesC_ok o ops
  have hpy := playM_ok o ops order inn
  simp only [robj, ovec] at hfew hsz hmv hpy
  simp [robj, ovec, caseV]
  refine CallK.intro hfew (by simp) ?_
  simp
  refine ⟨fun c => ?_, fun c1 c2 c3 c4 c5 => ?_⟩
  · refine CallK.intro awakeM_ok (by simp) ?_
    simp
  have hl : o.rows.length ≤ 140737488355328 := by omega
  have hl2 : ops.length ≤ 140737488355328 := by omega
  replace hsz := hsz hl hl2
  replace hmv := hmv hl hl2
  replace hpy := hpy hl hl2
  refine CallK.intro hsz (by simp) ?_
  simp
  have hpt := plTruths_ok (sizeP o ops).1 (sizeP o ops).2 order (by omega)
  have hst := stTruths_ok (sizeP o ops).1 (sizeP o ops).2 row (by omega)
  by_cases hrow : 0 < row.length
  rotate_left
  · have hr0 : row = [] := List.eq_nil_of_length_eq_zero (by omega)
    subst hr0
    have h2 : stS (sizeP o ops).1 (sizeP o ops).2 [] = none := by
      unfold stS
      rw [if_neg]
      rintro ⟨q1, q2, _⟩
      have := sizeOk_iff.1 q1
      simp at q2
      omega
    rw [h2] at hst
    simp only [truthsPV] at hst
    cases h1 : plS (sizeP o ops).1 (sizeP o ops).2 order
    all_goals
      rw [h1] at hpt
      simp only [truthsPV] at hpt
      refine CallK.intro hpt (by simp) ?_
      simp
      refine CallK.intro hst (by simp) ?_
      simp
      refine CallK.intro awakeM_ok (by simp) ?_
      simp
  cases h1 : plS (sizeP o ops).1 (sizeP o ops).2 order with
  | none =>
    rw [h1] at hpt
    simp only [truthsPV] at hpt
    cases h2 : stS (sizeP o ops).1 (sizeP o ops).2 row
    all_goals
      rw [h2] at hst
      simp only [truthsPV] at hst
      refine CallK.intro hpt (by simp) ?_
      simp
      refine CallK.intro hst (by simp) ?_
      simp [hrow]
      refine CallK.intro awakeM_ok (by simp) ?_
      simp
  | some V1 =>
    rw [h1] at hpt
    simp only [truthsPV] at hpt
    cases h2 : stS (sizeP o ops).1 (sizeP o ops).2 row with
    | none =>
      rw [h2] at hst
      simp only [truthsPV] at hst
      refine CallK.intro hpt (by simp) ?_
      simp
      refine CallK.intro hst (by simp) ?_
      simp [hrow]
      refine CallK.intro awakeM_ok (by simp) ?_
      simp
    | some V2 =>
      rw [h2] at hst
      simp only [truthsPV] at hst
      refine CallK.intro hpt (by simp) ?_
      simp
      refine CallK.intro hst (by simp) ?_
      have hne : ¬ row = [] := fun e => by rw [e] at hrow; simp at hrow
      simp [hrow, hne]
      refine ⟨fun q => ?_, fun q => ?_⟩
      · refine CallK.intro awakeM_ok (by simp) ?_
        simp
      have hh : row.head? = some o.ini := by rw [List.head?_eq_getElem?, List.getElem?_eq_getElem hrow, q]
      have h1' := h1
      have h2' := h2
      unfold plS at h1
      split at h1
      rotate_left
      · cases h1
      rename_i hp1
      obtain ⟨hc, hp2, hp3⟩ := hp1
      unfold stS at h2
      split at h2
      rotate_left
      · cases h2
      rename_i hs1
      obtain ⟨_, hs2, hs3⟩ := hs1
      injection h1 with h1
      injection h2 with h2
      subst h1; subst h2
      obtain ⟨k1, k2, hP, h64, hm1, hm2⟩ := sizeP_all hc
      have hC := movesC_few hc
      have hlaw' := hlaw
      rw [if_pos hc] at hmv
      generalize hN : (sizeP o ops).1 = n at *
      generalize hM : (sizeP o ops).2 = m at *
      obtain ⟨e1, e2, e3, e4, e5⟩ := varsN_eq hc
      generalize hV : (varsN n m).toNat = V at *
      have hVn : varsN n m = (V : Int) := by omega
      generalize hT1 : plIdx n m order order.length = P at *
      generalize hT2 : stIdx n m row row.length = Q at *
      refine ALoop.intro (S := fun (i : Nat) => ⟨[(12, .own true 1 (brow ((marks V (P ++ Q)).take i))), (8, .pv (.seq true 1 (brow (marks V P)))), (10, .pv (.seq true 1 (brow (marks V Q)))), (1, .pv (.seq false 5 (ops.map orow))), (3, .pv (.ptr 0 0)), (5, .pv (.ptr 1 0)), (7, .pv (.ptr 2 0)), (13, .pv (I64 i))], [[.pv (I64 o.st), .pv (I64 o.kd), .pv (I64 o.ini), .pv (.seq false 4 (o.rows.map rrow))], [.pv (.seq false 1 (irow order)), .pv (.seq false 1 (brow inn)), .pv (.seq false 1 (irow row))], [.pv (I64 n), .pv (I64 m)]]⟩) (fun i => i ≤ V) (fun i => V - i) 0 ?_ ?_ ?_
      · exact (Weak.nilOwn (s := 12) 1 true (by simp)).trans (Weak.to (by simp [brow]) (by simp) (by simp) (by simp) (by simp))
      · omega
      · intro i hi
        by_cases h : i < V
        · have hw : w64 ((i : Int) + 1) = ((i + 1 : Nat) : Int) := by rw [w64_id (by omega) (by omega)]; omega
          have htk : brow (List.take (i + 1) (marks V (P ++ Q))) = brow (List.take i (marks V (P ++ Q))) ++ [[BL ((marks V P)[i]'(by simpa using h) || (marks V Q)[i]'(by simpa using h))]] := by
            rw [List.take_succ_eq_append_getElem (by simpa using h), brow, brow, List.map_append]
            simp [marks]
          simp [h]
          refine ⟨by omega, i + 1, by dsimp only; omega, by dsimp only; omega, Weak.to ?_ (by simp) (by simp) (by simp) (by simp)⟩
          simp [hw, htk]
        · have : i = V := by omega
          subst this
          have hnl : n = (ops.length : Int) := by rw [← hN, hP]
          have htk : (marks i (P ++ Q)).take i = marks i (P ++ Q) := by rw [List.take_of_length_le]; simp
          rw [htk]
          simp
          refine ALoop.intro (S := fun (j : Nat) => ⟨[(12, .own true 1 (brow (inTo n m (marks i (P ++ Q)) inn j))), (1, .pv (.seq false 5 (ops.map orow))), (3, .pv (.ptr 0 0)), (5, .pv (.ptr 1 0)), (7, .pv (.ptr 2 0)), (14, .pv (I64 j))], [[.pv (I64 o.st), .pv (I64 o.kd), .pv (I64 o.ini), .pv (.seq false 4 (o.rows.map rrow))], [.pv (.seq false 1 (irow order)), .pv (.seq false 1 (brow inn)), .pv (.seq false 1 (irow row))], [.pv (I64 n), .pv (I64 m)]]⟩) (fun j => j ≤ ops.length) (fun j => ops.length - j) 0 ?_ ?_ ?_
          · exact Weak.to (by simp [inTo]) (by simp) (by simp) (by simp) (by simp)
          · omega
          · intro j hj
            by_cases h : j < ops.length
            · have hw : w64 ((j : Int) + 1) = ((j + 1 : Nat) : Int) := by rw [w64_id (by omega) (by omega)]; omega
              have hji : j < inn.length := by omega
              have hvo : varOk n m 2 j 0 = true := varOk_iff.2 ⟨hc, by decide, by decide, by omega, by simp [blockTall]; omega, by decide, by simp [blockWide]⟩
              have hm := mark_in hvo
              have hsu := inTo_succ n m (marks i (P ++ Q)) inn j
              have hva := var_ok n m 2 j 0
              rw [hm.1] at hva
              generalize markAt n m 2 j 0 = x at hm hva hsu
              have hwx : w64 (x : Int) = (x : Int) := w64_id (by omega) (by omega)
              have hxV : x < i := by omega
              have hxle : (x : Int) + 1 ≤ (i : Int) := by omega
              simp [h]
              refine CallK.intro hva (by simp) ?_
              simp [hwx, hxV, hxle, hji]
              refine ⟨by omega, fun _ => ⟨j + 1, by dsimp only; omega, by dsimp only; omega, Weak.to ?_ (by simp) (by simp) (by simp) (by simp)⟩⟩
              have hg : inn.getD j false = inn[j] := by simp [hji]
              rw [hg] at hsu
              simp [hw, hsu, brow_set]
            · have : j = ops.length := by omega
              subst this
              simp
              have hfi := refFirst_ok 0 (movesC o ops) (inTo n m (marks i (P ++ Q)) inn ops.length) (by omega) movesC_small
              have hL := hlaw' _ _ h1' h2' (by omega) hh hc
              unfold allM at hL
              rw [hT1, hT2, hV] at hL
              cases hp : playS o ops order inn with
              | none =>
                rw [hp] at hpy hL
                simp only [playPV] at hpy
                refine CallK.intro hpy (by simp) ?_
                simp
                refine CallK.intro hmv (by simp) ?_
                simp
                refine CallK.intro hfi (by simp) ?_
                simp
                refine CallG.intro (r := .pv (BL true)) (fun hf => hf.elim) (by simp) ?_
                simp
                refine CallG.intro (r := .pv (BL true)) (fun _ => awakeM_ok) (by simp) ?_
                simp
                simp at hL
                exact hL
              | some out =>
                rw [hp] at hpy hL
                simp only [playPV] at hpy
                refine CallK.intro hpy (by simp) ?_
                simp
                refine CallK.intro hmv (by simp) ?_
                simp
                refine CallK.intro hfi (by simp) ?_
                simp
                have hol := sameInts_ok out row (by have := playTo_len_ok hp; omega)
                refine CallG.intro (r := .pv (BL (decide (out = row)))) (fun _ => hol) (by simp) ?_
                simp
                refine CallG.intro (r := .pv (BL true)) (fun _ => awakeM_ok) (by simp) ?_
                simp
                simpa using hL

end Go.AX

namespace Go.AX
open Go.Proofs

/-! ### Names' numbers are unlike -/
theorem mul_lt_next {a b a' b' w : Int} (h : a < a') (hb : b < w) (hb' : 0 ≤ b') (hw : 0 ≤ w) : a * w + b < a' * w + b' := by
  have := Int.mul_le_mul_of_nonneg_right (show a + 1 ≤ a' by omega) hw
  rw [Int.add_mul, Int.one_mul] at this
  omega
theorem mul_inj {a b a' b' w : Int} (hb : 0 ≤ b ∧ b < w) (hb' : 0 ≤ b' ∧ b' < w) (h : a * w + b = a' * w + b') : a = a' ∧ b = b' := by
  rcases Int.lt_trichotomy a a' with h1 | h1 | h1
  · have := mul_lt_next h1 hb.2 hb'.1 (by omega); omega
  · subst h1; omega
  · have := mul_lt_next h1 hb'.2 hb.1 (by omega); omega
theorem block_top {n m k a b : Int} (h : varOk n m k a b = true) : a * blockWide n m k + b < blockTall n k * blockWide n m k := by
  obtain ⟨h1, h2, h3, h4, h5, h6, h7⟩ := varOk_iff.1 h
  have := mul_lt_next (b' := 0) h5 h7 (by omega) (by omega)
  omega
theorem mark_inj {n m k a b k' a' b' : Int} (h : varOk n m k a b = true) (h' : varOk n m k' a' b' = true) (e : markAt n m k a b = markAt n m k' a' b') : k = k' ∧ a = a' ∧ b = b' := by
  have m1 := mark_in h
  have m2 := mark_in h'
  have v1 : varS n m k a b = blockFrom n k + a * blockWide n m k + b + 1 := by rw [varS, if_pos h]
  have v2 : varS n m k' a' b' = blockFrom n k' + a' * blockWide n m k' + b' + 1 := by rw [varS, if_pos h']
  have t1 := block_top h
  have t2 := block_top h'
  have s1 := block_small h
  have s2 := block_small h'
  obtain ⟨q1, h2, h3, h4, h5, h6, h7⟩ := varOk_iff.1 h
  obtain ⟨_, g2, g3, g4, g5, g6, g7⟩ := varOk_iff.1 h'
  have heq : blockFrom n k + a * blockWide n m k + b = blockFrom n k' + a' * blockWide n m k' + b' := by omega
  have hk : k = 1 ∨ k = 2 ∨ k = 3 := by omega
  have hk' : k' = 1 ∨ k' = 2 ∨ k' = 3 := by omega
  have hs := sizeOk_iff.1 q1
  have hn0 : 0 ≤ n * n := Int.mul_nonneg hs.1 hs.1
  by_cases e2 : k = k'
  · subst e2
    have := mul_inj (w := blockWide n m k) ⟨h6, h7⟩ ⟨g6, g7⟩ (show a * blockWide n m k + b = a' * blockWide n m k + b' by omega)
    exact ⟨rfl, this.1, this.2⟩
  · exfalso
    rcases hk with rfl | rfl | rfl <;> rcases hk' with rfl | rfl | rfl <;> first | exact e2 rfl | (simp [blockFrom, blockWide, blockTall] at *; omega)


/-! ### Truths of literals -/
theorem lit_pos {n m k a b : Int} (h : varOk n m k a b = true) (T : List Bool) (hT : T.length = (varsN n m).toNat) : litS T (varS n m k a b) = T.getD (markAt n m k a b) false := by
  have m1 := mark_in h
  obtain ⟨e1, e2, e3, e4, e5⟩ := varsN_eq (varOk_iff.1 h).1
  have hs := sizeOk_iff.1 (varOk_iff.1 h).1
  generalize markAt n m k a b = x at m1 ⊢
  have : splitS (varS n m k a b) = ((x : Int) + 1, true) := by rw [splitS, if_pos (by omega), m1.1]
  rw [litS, this]
  have h1 : (x : Int) + 1 ≤ (T.length : Int) := by omega
  have h2 : ((x : Int) + 1 - 1).toNat = x := by omega
  have h3 : (x : Int) + 1 ≠ 0 := by omega
  dsimp only
  rw [h2, decide_eq_true h1, decide_eq_true h3]
  simp
theorem lit_neg {n m k a b : Int} (h : varOk n m k a b = true) (T : List Bool) (hT : T.length = (varsN n m).toNat) : litS T (w64 (-varS n m k a b)) = !T.getD (markAt n m k a b) false := by
  have m1 := mark_in h
  obtain ⟨e1, e2, e3, e4, e5⟩ := varsN_eq (varOk_iff.1 h).1
  have hs := sizeOk_iff.1 (varOk_iff.1 h).1
  generalize markAt n m k a b = x at m1 ⊢
  rw [m1.1, w64_id (by omega) (by omega)]
  have : splitS (-((x : Int) + 1)) = ((x : Int) + 1, false) := by rw [splitS, if_neg (by omega), if_pos (by omega)]; simp
  rw [litS, this]
  have h1 : (x : Int) + 1 ≤ (T.length : Int) := by omega
  have h2 : ((x : Int) + 1 - 1).toNat = x := by omega
  have h3 : (x : Int) + 1 ≠ 0 := by omega
  dsimp only
  rw [h2, decide_eq_true h1, decide_eq_true h3]
  simp


theorem inTo_other {n m : Int} {base inn : List Bool} {x : Nat} : ∀ {k : Nat}, (∀ i : Nat, i < k → markAt n m 2 i 0 ≠ x) → (inTo n m base inn k).getD x false = base.getD x false
  | 0, _ => rfl
  | k + 1, h => by
    rw [inTo_succ, List.getD_eq_getElem?_getD, List.getElem?_set_ne (h k (by omega)), ← List.getD_eq_getElem?_getD]
    exact inTo_other fun i hi => h i (by omega)
theorem inTo_at {n m : Int} {base inn : List Bool} {i : Nat} {K : Nat} (hinj : ∀ j : Nat, j < K → markAt n m 2 j 0 = markAt n m 2 i 0 → j = i) (hb : markAt n m 2 i 0 < base.length) : ∀ {k : Nat}, k ≤ K → i < k → (inTo n m base inn k).getD (markAt n m 2 i 0) false = inn.getD i false
  | 0, _, h => by omega
  | k + 1, hk, h => by
    rw [inTo_succ]
    by_cases e : k = i
    · subst e
      rw [List.getD_eq_getElem?_getD, List.getElem?_set_self (by simpa using hb)]; simp
    · rw [List.getD_eq_getElem?_getD, List.getElem?_set_ne (fun q => e (hinj k (by omega) q)), ← List.getD_eq_getElem?_getD]
      exact inTo_at hinj hb (by omega) (by omega)

end Go.AX

namespace Go.AX
open Go.Proofs

theorem marks_getD (V : Nat) (idx : List Nat) {x : Nat} (h : x < V) : (marks V idx).getD x false = decide (x ∈ idx) := by
  rw [List.getD_eq_getElem?_getD, List.getElem?_eq_getElem (by simpa using h)]
  simp [marks]
theorem mem_plIdx {n m : Int} {order : List Int} {k x : Nat} : x ∈ plIdx n m order k ↔ ∃ j : Nat, j < k ∧ x = markAt n m 1 (order.getD j 0) j := by
  unfold plIdx; simp only [List.mem_map, List.mem_range]
  exact ⟨fun ⟨j, h, e⟩ => ⟨j, h, e.symm⟩, fun ⟨j, h, e⟩ => ⟨j, h, e.symm⟩⟩
theorem mem_stIdx {n m : Int} {row : List Int} {k x : Nat} : x ∈ stIdx n m row k ↔ ∃ j : Nat, j < k ∧ x = markAt n m 3 j (row.getD j 0) := by
  unfold stIdx; simp only [List.mem_map, List.mem_range]
  exact ⟨fun ⟨j, h, e⟩ => ⟨j, h, e.symm⟩, fun ⟨j, h, e⟩ => ⟨j, h, e.symm⟩⟩


/-- An order, a row of states, and who is in, of N operations and M states, that may be. -/
structure Good (N : Nat) (m : Int) (order row : List Int) (inn : List Bool) : Prop where
  hc : sizeOk N m = true
  ol : order.length = N
  op : ∀ k, k < N → plAt N order k
  rl : row.length = N + 1
  rp : ∀ k, k < N + 1 → stAt m row k
  il : inn.length = N
namespace Good
variable {N : Nat} {m : Int} {order row : List Int} {inn : List Bool}
theorem ok1 (g : Good N m order row inn) {a : Int} {b : Nat} (ha : 0 ≤ a ∧ a < N) (hb : b < N) : varOk N m 1 a b = true := varOk_iff.2 ⟨g.hc, by decide, by decide, ha.1, by simp [blockTall]; omega, by omega, by simp [blockWide]; omega⟩
theorem ok2 (g : Good N m order row inn) {a : Nat} (ha : a < N) : varOk N m 2 a 0 = true := varOk_iff.2 ⟨g.hc, by decide, by decide, by omega, by simp [blockTall]; omega, by decide, by simp [blockWide]⟩
theorem ok3 (g : Good N m order row inn) {a : Nat} {b : Int} (ha : a ≤ N) (hb : 0 ≤ b ∧ b < m) : varOk N m 3 a b = true := varOk_iff.2 ⟨g.hc, by decide, by decide, by omega, by simp [blockTall]; omega, hb.1, by simp [blockWide]; exact hb.2⟩
theorem lt (g : Good N m order row inn) {k a b : Int} (h : varOk N m k a b = true) : markAt N m k a b < (varsN N m).toNat := by have := (mark_in h).2; omega
theorem len (g : Good N m order row inn) : (allM N m order row inn N).length = (varsN N m).toNat := by simp [allM]
theorem t1 (g : Good N m order row inn) {a : Int} {b : Nat} (ha : 0 ≤ a ∧ a < N) (hb : b < N) : (allM N m order row inn N).getD (markAt N m 1 a b) false = decide (order.getD b 0 = a) := by
  have h1 := g.ok1 ha hb
  unfold allM
  rw [inTo_other fun i hi e => absurd (mark_inj (g.ok2 hi) h1 e).1 (by decide), marks_getD _ _ (g.lt h1)]
  congr 1
  apply propext
  rw [List.mem_append, mem_plIdx, mem_stIdx, g.ol, g.rl]
  constructor
  · rintro (⟨j, hj, e⟩ | ⟨j, hj, e⟩)
    · have hp := g.op j hj
      have := mark_inj h1 (g.ok1 ⟨hp.1, hp.2.1⟩ hj) e
      have hjb : j = b := by omega
      subst hjb; exact this.2.1.symm
    · exact absurd (mark_inj h1 (g.ok3 (by omega) (g.rp j hj)) e).1 (by decide)
  · intro e
    exact .inl ⟨b, hb, by rw [e]⟩
theorem t2 (g : Good N m order row inn) {a : Nat} (ha : a < N) : (allM N m order row inn N).getD (markAt N m 2 a 0) false = inn.getD a false := by
  unfold allM
  refine inTo_at (K := N) (fun j hj e => ?_) (by simpa using g.lt (g.ok2 ha)) (Nat.le_refl _) ha
  have := (mark_inj (g.ok2 hj) (g.ok2 ha) e).2.1
  omega
theorem t3 (g : Good N m order row inn) {a : Nat} {b : Int} (ha : a ≤ N) (hb : 0 ≤ b ∧ b < m) : (allM N m order row inn N).getD (markAt N m 3 a b) false = decide (row.getD a 0 = b) := by
  have h1 := g.ok3 ha hb
  unfold allM
  rw [inTo_other fun i hi e => absurd (mark_inj (g.ok2 hi) h1 e).1 (by decide), marks_getD _ _ (g.lt h1)]
  congr 1
  apply propext
  rw [List.mem_append, mem_plIdx, mem_stIdx, g.ol, g.rl]
  constructor
  · rintro (⟨j, hj, e⟩ | ⟨j, hj, e⟩)
    · have hp := g.op j hj
      exact absurd (mark_inj h1 (g.ok1 ⟨hp.1, hp.2.1⟩ hj) e).1 (by decide)
    · have := mark_inj h1 (g.ok3 (by omega) (g.rp j hj)) e
      have hja : j = a := by omega
      subst hja; exact this.2.2.symm
  · intro e
    exact .inr ⟨a, by omega, by rw [e]⟩
/-- The order holds each operation. -/
theorem all (g : Good N m order row inn) : ∀ i : Nat, i < N → (i : Int) ∈ order := by
  intro i hi
  apply Classical.byContradiction
  intro hn
  have hnd : order.Nodup := by
    rw [List.Nodup, List.pairwise_iff_getElem]
    intro a b ha hb hab e
    have hb' : b < N := by have := g.ol; omega
    have hp := (g.op b hb').2.2
    apply hp
    have hgb : order.getD b 0 = order[b] := by simp [hb]
    rw [hgb, ← e, List.mem_take_iff_getElem]
    exact ⟨a, by omega, rfl⟩
  have := len_of_sub ((i : Int) :: order) ((List.range N).map Int.ofNat) (List.nodup_cons.2 ⟨hn, hnd⟩) (by
    intro x hx
    rw [List.mem_map]
    rcases List.mem_cons.1 hx with rfl | hx
    · exact ⟨i, List.mem_range.2 hi, rfl⟩
    · obtain ⟨j, hj, rfl⟩ := List.mem_iff_getElem.1 hx
      have hp := g.op j (by rw [← g.ol]; exact hj)
      have hg : order.getD j 0 = order[j] := by simp [hj]
      unfold plAt at hp
      rw [hg] at hp
      exact ⟨order[j].toNat, List.mem_range.2 (by omega), by simp; omega⟩)
  have h2 := g.ol
  simp only [List.length_cons, List.length_map, List.length_range] at this
  omega
end Good

end Go.AX

namespace Go.AX
open Go.Proofs

def stepR (o : Obj) (ops : List Op5) (order : List Int) (inn : List Bool) (row : List Int) (k : Nat) : Prop :=
  (inn.getD (order.getD k 0).toNat false = true → mayS o (ops.getD (order.getD k 0).toNat default) (row.getD k 0) = some (row.getD (k + 1) 0)) ∧
  (inn.getD (order.getD k 0).toNat false = false → row.getD (k + 1) 0 = row.getD k 0)
theorem take_lastD {row : List Int} {k : Nat} (h : k < row.length) : (row.take (k + 1)).getLastD 0 = row.getD k 0 := by
  rw [List.getLastD_eq_getLast?, List.getLast?_eq_getElem?, List.length_take, Nat.min_eq_left (by omega)]
  simp [List.getElem?_take]
theorem take_grow {row : List Int} {k : Nat} (h : k + 1 < row.length) : row.take (k + 1) ++ [row.getD (k + 1) 0] = row.take (k + 2) := by
  rw [List.take_succ_eq_append_getElem h]; simp [h]
theorem playTo_take {o : Obj} {ops : List Op5} {order : List Int} {inn : List Bool} {row : List Int} {N : Nat} (hl : row.length = N + 1) (hh : row.head? = some o.ini) (hs : ∀ k, k < N → stepR o ops order inn row k) : ∀ k, k ≤ N → playTo o ops order inn k = some (row.take (k + 1))
  | 0, _ => by
    cases row with
    | nil => cases hh
    | cons x xs => simp at hh; simp [playTo, hh]
  | k + 1, hk => by
    have ih := playTo_take hl hh hs k (by omega)
    obtain ⟨h1, h2⟩ := hs k (by omega)
    simp only [playTo, ih, Option.bind_some, playStep]
    rw [take_lastD (by omega)]
    cases hi : inn.getD (order.getD k 0).toNat false with
    | true => rw [if_pos rfl, h1 hi]; simp only [Option.map_some]; rw [take_grow (by omega)]
    | false => rw [if_neg (by simp), ← h2 hi, take_grow (by omega)]
theorem playTo_pre {o : Obj} {ops : List Op5} {order : List Int} {inn : List Bool} : ∀ {N : Nat} {row : List Int}, playTo o ops order inn N = some row → (∀ k, k ≤ N → playTo o ops order inn k = some (row.take (k + 1))) ∧ ∀ k, k < N → stepR o ops order inn row k
  | 0, row, h => by
    have hl := playTo_length h
    refine ⟨fun k hk => ?_, fun k hk => by omega⟩
    have : k = 0 := by omega
    subst this
    rw [List.take_of_length_le (by omega)]; exact h
  | N + 1, row, h => by
    have hl := playTo_length h
    have h0 := h
    simp only [playTo, Option.bind_eq_some_iff] at h
    obtain ⟨out, hout, h⟩ := h
    have hlo := playTo_length hout
    have ih := playTo_pre hout
    obtain ⟨y, hy, hst⟩ : ∃ y, row = out ++ [y] ∧ ((inn.getD (order.getD N 0).toNat false = true → mayS o (ops.getD (order.getD N 0).toNat default) (out.getLastD 0) = some y) ∧ (inn.getD (order.getD N 0).toNat false = false → y = out.getLastD 0)) := by
      unfold playStep at h
      split at h
      · rename_i c
        simp only [Option.map_eq_some_iff] at h
        obtain ⟨y, hy, rfl⟩ := h
        exact ⟨y, rfl, fun _ => hy, fun c2 => by rw [c] at c2; cases c2⟩
      · rename_i c
        injection h with h
        exact ⟨out.getLastD 0, h.symm, fun c2 => absurd c2 c, fun _ => rfl⟩
    subst hy
    have hg : ∀ k, k < N + 1 → (out ++ [y]).getD k 0 = out.getD k 0 := fun k hk => by
      rw [List.getD_eq_getElem?_getD, List.getElem?_append_left (by omega), ← List.getD_eq_getElem?_getD]
    have hlast : out.getLastD 0 = out.getD N 0 := by
      have := take_lastD (row := out) (k := N) (by omega)
      rwa [List.take_of_length_le (by omega)] at this
    have hgy : (out ++ [y]).getD (N + 1) 0 = y := by
      rw [List.getD_eq_getElem?_getD, List.getElem?_append_right (by omega)]; simp [hlo]
    refine ⟨fun k hk => ?_, fun k hk => ?_⟩
    · by_cases e : k = N + 1
      · subst e; rw [List.take_of_length_le (by simp; omega)]; exact h0
      · rw [ih.1 k (by omega), List.take_append_of_le_length (by omega)]
    · by_cases e : k = N
      · subst e
        unfold stepR
        rw [hg k (by omega), hgy, ← hlast]; exact hst
      · have := ih.2 k (by omega)
        unfold stepR at this ⊢
        rw [hg k (by omega), hg (k + 1) (by omega)]; exact this

theorem litS_zero (T : List Bool) : litS T 0 = false := by
  have : splitS 0 = (0, false) := by decide
  rw [litS, this]; simp

theorem mem_movTo {o : Obj} {n m : Int} {N M : Nat} {ops : List Op5} {i : Nat} {c : List Int} : c ∈ movTo o n m N M ops i ↔ ∃ j, j < i ∧ (c ∈ movH n m (ops.getD j default) j ∨ ∃ k, k < N ∧ ∃ b, b < M ∧ c ∈ movB o n m (ops.getD j default) j k b) := by
  simp only [movTo, movI, movK, List.mem_flatMap, List.mem_append, List.mem_range]

theorem getD_range (l : List Int) (k : Nat) (h : k < l.length) : l.getD k 0 ∈ l := by
  simp [List.getD_eq_getElem?_getD, h]

theorem movesPlay_plain (o : Obj) (ops : List Op5) (order : List Int) (inn : List Bool) (row : List Int)
    (V1 V2 : List Bool) (h1 : plS (sizeP o ops).1 (sizeP o ops).2 order = some V1) (h2 : stS (sizeP o ops).1 (sizeP o ops).2 row = some V2) (hin : inn.length = ops.length) (hh : row.head? = some o.ini) (hc : sizeOk (sizeP o ops).1 (sizeP o ops).2 = true) :
    firstS (movesC o ops) (allM (sizeP o ops).1 (sizeP o ops).2 order row inn ops.length) < 0 ↔ playS o ops order inn = some row := by
  obtain ⟨k1, k2, hP, h64, hm1, hm2⟩ := sizeP_all hc
  have e1 : (sizeP o ops).1 = ops.length := by rw [hP]
  have e2 : (sizeP o ops).2 = o.st := by rw [hP]
  have hC : movesC o ops = movTo o ops.length o.st ops.length o.st.toNat ops ops.length := by
    rw [movesC, if_pos hc, hP]; simp
  rw [hC]
  rw [hP] at h1 h2 hc ⊢
  dsimp only at h1 h2 hc ⊢
  unfold plS at h1
  split at h1
  rotate_left
  · cases h1
  rename_i hp1
  obtain ⟨_, hp2, hp3⟩ := hp1
  unfold stS at h2
  split at h2
  rotate_left
  · cases h2
  rename_i hs1
  obtain ⟨_, hs2, hs3⟩ := hs1
  have g : Good ops.length o.st order row inn := ⟨hc, by omega, fun k hk => hp3 k (by omega), by omega, fun k hk => hs3 k (by omega), hin⟩
  have ol := g.ol
  have rl := g.rl
  generalize hT : allM ops.length o.st order row inn ops.length = T
  have hlen : T.length = (varsN ops.length o.st).toNat := hT ▸ g.len
  have hplay : playS o ops order inn = some row ↔ ((∀ i, i < ops.length → (ops.getD i default).e ≠ -1 → inn.getD i false = true) ∧ ∀ k, k < ops.length → stepR o ops order inn row k) := by
    unfold playS
    rw [e1, e2]
    constructor
    · intro h
      split at h
      · rename_i q
        exact ⟨fun i hi => ((playOk_iff.1 q.2).2.2 i hi).2, (playTo_pre h).2⟩
      · cases h
    · rintro ⟨q1, q2⟩
      rw [if_pos ⟨hc, playOk_iff.2 ⟨ol, hin, fun i hi => ⟨g.all i hi, q1 i hi⟩⟩⟩, playTo_take rl hh q2 _ (Nat.le_refl _), List.take_of_length_le (by omega)]
  rw [hplay, firstS_neg]
  -- what the literals say
  have p1 : ∀ (a b : Nat), a < ops.length → b < ops.length → litS T (w64 (-varS ops.length o.st 1 a b)) = !decide (order.getD b 0 = (a : Int)) := by
    intro a b ha hb
    rw [lit_neg (g.ok1 ⟨by omega, by omega⟩ hb) T hlen, ← hT, g.t1 ⟨by omega, by omega⟩ hb]
  have p2 : ∀ a : Nat, a < ops.length → litS T (varS ops.length o.st 2 a 0) = inn.getD a false := by
    intro a ha
    rw [lit_pos (g.ok2 ha) T hlen, ← hT, g.t2 ha]
  have p2n : ∀ a : Nat, a < ops.length → litS T (w64 (-varS ops.length o.st 2 a 0)) = !inn.getD a false := by
    intro a ha
    rw [lit_neg (g.ok2 ha) T hlen, ← hT, g.t2 ha]
  have p3 : ∀ (a : Nat) (b : Int), a ≤ ops.length → 0 ≤ b ∧ b < o.st → litS T (varS ops.length o.st 3 a b) = decide (row.getD a 0 = b) := by
    intro a b ha hb
    rw [lit_pos (g.ok3 ha hb) T hlen, ← hT, g.t3 ha hb]
  have p3n : ∀ (a : Nat) (b : Int), a ≤ ops.length → 0 ≤ b ∧ b < o.st → litS T (w64 (-varS ops.length o.st 3 a b)) = !decide (row.getD a 0 = b) := by
    intro a b ha hb
    rw [lit_neg (g.ok3 ha hb) T hlen, ← hT, g.t3 ha hb]
  have p3o : ∀ (a : Nat) (b : Int), ¬ (0 ≤ b ∧ b < o.st) → litS T (varS ops.length o.st 3 a b) = false := by
    intro a b hb
    have : varS ops.length o.st 3 a b = 0 := by
      rw [varS, if_neg]
      intro q
      obtain ⟨_, _, _, _, _, q6, q7⟩ := varOk_iff.1 q
      simp [blockWide] at q7
      exact hb ⟨q6, q7⟩
    rw [this, litS_zero]
  have cast1 : ∀ k : Nat, ((k : Int) + 1) = ((k + 1 : Nat) : Int) := fun k => by omega
  constructor
  · intro hall
    have hH : ∀ i, i < ops.length → (ops.getD i default).e ≠ -1 → inn.getD i false = true := by
      intro i hi he
      have := hall [varS ops.length o.st 2 i 0] (mem_movTo.2 ⟨i, hi, .inl (by rw [movH, if_neg he]; simp)⟩)
      simp only [holdsS, List.any_cons, List.any_nil, Bool.or_false] at this
      rw [p2 i hi] at this; exact this
    refine ⟨hH, fun k hk => ?_⟩
    have hop := g.op k hk
    obtain ⟨ho1, ho2, _⟩ := hop
    have hrp := g.rp k (by omega)
    obtain ⟨hr1, hr2⟩ := hrp
    have hrp2 := g.rp (k + 1) (by omega)
    have hbs : (row.getD k 0).toNat < o.st.toNat := by omega
    have hbc : (((row.getD k 0).toNat : Nat) : Int) = row.getD k 0 := by omega
    have hic : (((order.getD k 0).toNat : Nat) : Int) = order.getD k 0 := by omega
    have hil : (order.getD k 0).toNat < ops.length := by omega
    have hA := hall _ (mem_movTo.2 ⟨_, hil, .inr ⟨k, hk, _, hbs, List.mem_cons_self⟩⟩)
    have hB := fun he => hall [w64 (-varS ops.length o.st 1 (order.getD k 0).toNat k), varS ops.length o.st 2 (order.getD k 0).toNat 0, w64 (-varS ops.length o.st 3 k (row.getD k 0).toNat), varS ops.length o.st 3 ((k : Int) + 1) (row.getD k 0).toNat] (mem_movTo.2 ⟨_, hil, .inr ⟨k, hk, _, hbs, by unfold movB; rw [if_pos he]; simp⟩⟩)
    have q1 := p1 _ k hil hk
    rw [hic, decide_eq_true rfl] at q1
    have q2 := p2 _ hil
    have q2n := p2n _ hil
    rw [hic] at q2 q2n
    have q3n := p3n k (row.getD k 0).toNat (by omega) (by omega)
    rw [hbc, decide_eq_true rfl] at q3n
    have q3 := p3 (k + 1) (row.getD k 0).toNat (by omega) (by omega)
    rw [hbc] at q3
    simp only [holdsS, List.any_append, List.any_cons, List.any_nil, Bool.or_false, q2, q2n, hbc, hic, q1, q3n, Bool.not_true, Bool.false_or] at hA hB
    rw [cast1, q3] at hB
    constructor
    · intro hi
      rw [hi] at hA
      cases hm : mayS o (ops.getD (order.getD k 0).toNat default) (row.getD k 0) with
      | none => rw [hm] at hA; simp [optL] at hA
      | some y =>
        rw [hm] at hA
        simp only [optL, List.any_cons, List.any_nil, Bool.or_false, Bool.not_true, Bool.false_or] at hA
        rw [cast1] at hA
        by_cases hy : 0 ≤ y ∧ y < o.st
        · rw [p3 _ _ (by omega) hy, decide_eq_true_eq] at hA; rw [hA]
        · rw [p3o _ _ hy] at hA; cases hA
    · intro hi
      have he : (ops.getD (order.getD k 0).toNat default).e = -1 := by
        apply Classical.byContradiction
        intro he
        rw [hH _ hil he] at hi; cases hi
      have := hB he
      rw [hi] at this
      simpa using this
  · rintro ⟨hH, hS⟩ c hcm
    obtain ⟨i, hi, hcm⟩ := mem_movTo.1 hcm
    rcases hcm with hcm | ⟨k, hk, b, hb, hcm⟩
    · unfold movH at hcm
      split at hcm
      · cases hcm
      · rename_i he
        simp only [List.mem_singleton] at hcm
        subst hcm
        simp only [holdsS, List.any_cons, List.any_nil, Bool.or_false]
        rw [p2 i hi]; exact hH i hi he
    · have hop := g.op k hk
      obtain ⟨ho1, ho2, _⟩ := hop
      have hrp2 := g.rp (k + 1) (by omega)
      obtain ⟨ha, hna⟩ := hS k hk
      have hbo : 0 ≤ (b : Int) ∧ (b : Int) < o.st := by omega
      by_cases e1 : order.getD k 0 = (i : Int)
      rotate_left
      · have q1 := p1 i k hi hk
        rw [decide_eq_false e1] at q1
        unfold movB at hcm
        rcases List.mem_cons.1 hcm with rfl | hcm
        · simp [holdsS, q1]
        · split at hcm
          · simp only [List.mem_singleton] at hcm
            subst hcm
            simp [holdsS, q1]
          · cases hcm
      by_cases e2 : row.getD k 0 = (b : Int)
      rotate_left
      · have q3 := p3n k b (by omega) hbo
        rw [decide_eq_false e2] at q3
        unfold movB at hcm
        rcases List.mem_cons.1 hcm with rfl | hcm
        · simp [holdsS, q3]
        · split at hcm
          · simp only [List.mem_singleton] at hcm
            subst hcm
            simp [holdsS, q3]
          · cases hcm
      have e3 : (order.getD k 0).toNat = i := by omega
      rw [e3, e2] at ha hna
      unfold movB at hcm
      rcases List.mem_cons.1 hcm with rfl | hcm
      · cases hv : inn.getD i false with
        | true =>
          rw [ha hv]
          have := p3 (k + 1) (row.getD (k + 1) 0) (by omega) hrp2
          simp only [holdsS, List.any_append, optL, List.any_cons]
          rw [cast1, this]; simp
        | false =>
          simp only [holdsS, List.any_append, List.any_cons, p2n i hi, hv]; simp
      · split at hcm
        · simp only [List.mem_singleton] at hcm
          subst hcm
          cases hv : inn.getD i false with
          | true =>
            simp only [holdsS, List.any_cons, p2 i hi, hv]; simp
          | false =>
            have := p3 (k + 1) b (by omega) hbo
            rw [hna hv, decide_eq_true rfl] at this
            simp only [holdsS, List.any_cons]
            rw [cast1, this]; simp
        · cases hcm

theorem movesPlay_ok (o : Obj) (ops : List Op5) (order : List Int) (inn : List Bool) (row : List Int) : APure Try.prog 6 [robj o, ovec ops, caseV order inn row] (fun r => r = .pv (BL true)) :=
  movesPlay_walk o ops order inn row fun V1 V2 h1 h2 hin hh hc => movesPlay_plain o ops order inn row V1 V2 h1 h2 hin hh hc

end Go.AX
