/-
  Contracts: what is forgotten, by the program.
  Contracts: what is forgotten, by the document.
-/
import Derived.Test.YtjhchangnkmedaaS6AxGlB
import Derived.Test.YtjhchangnkmedaaS6AxGlP
import Derived.Test.YtjhchangnkmedaaS6AxShelf
import Derived.Test.YtjhchangnkmedaaAxSM
namespace Go.AX
open Go.Proofs Go.Shelf
set_option linter.unusedSimpArgs false

def en3 (x : G3) : List Value := grE (g3 x)
def r3 (x : G3) : List PV := grR (g3 x)
theorem rowsB_r3 (l : List G3) : rowsB en3 l = l.map r3 := rfl
theorem cmp3_ok (x y : G3) : APure Try.prog 64 [.agg ((en3 x).map PV.lit), .agg ((en3 y).map PV.lit)] (fun r => r = .pv (.lit (.int .i64 (cmp3 x y)))) := cmpG_ok (g3 x) (g3 y)
set_option maxRecDepth 100000 in
theorem sortG_ok (l : List G3) (hl : l.length ≤ 1000000) : AIn Try.prog 63 4 (l.map r3) [.lit (.func (.func 64) #[] #[])] (fun k rows => k = none ∧ rows = (sort3 l).map r3) := by
  have h := sortFuncK_in Try.sortGr 4 (by decide) (fun w => rfl) (fun w => rfl) en3 (fun _ => rfl) (fun x v hv => grE_one _ v hv) cmp3 64 l hl cmp3_swo cmp3_tot (enters_of Try.func64 (by kernel_rfl) rfl) (by kernel_rfl) cmp3_ok
  exact AIn.asFnO h
theorem sortIg_ok (l : List Int) (hl : l.length ≤ 1000000) : AIn Try.prog 65 1 (irow l) [] (fun k rows => k = none ∧ rows = irow (sortI l)) :=
  sortInts_in Try.sortA l hl (by kernel_rfl)
set_option maxRecDepth 16000 in
theorem forget_ok (l : List Gr) (hl : l.length ≤ 1000) (keep : Int) : APure Try.prog 25 [.seq false 4 (l.map grR), I64 keep] (fun r => r = .own true 1 (irow (forgS l keep))) := by
  refine APure.own0 (R := fun r => r = .own true 1 (irow (forgS l keep)) ∨ (forgS l keep = [] ∧ r = .pv (.lit (.slice none 0 0)))) ?_ (fun r h => h.imp id fun ⟨e1, e2⟩ => ⟨e2, true, 1, by rw [e1]; rfl⟩)
  refine apure1 hmo Try.func25 (by kernel_rfl) rfl rfl (by kernel_rfl) (Nat.le_of_ble_eq_true rfl) ?_
  have hC := cloneG_ok l (by omega)
  have hD := AIn.asFnO (deleteG_ok l (by omega) 60 stayS stay_ok)
  have hm := mayG_rows l
  have hml := mayG_len l
  have hS := sortG_ok (mayG l) (by omega)
  have hd : dlS stayS l = (mayG l).map g3 := hm.symm
  by_cases c : (l.length : Int) ≤ keep
  · simp [forgS, c]
  simp [c]
  refine CallK.intro hC (by simp) ?_
  simp
  refine CallK.introX (CallX.introS (o := .slot 15) (lo := 0) (hi := l.length) hD (by simp) rfl rfl (by simp) (by simp) rfl (by simp; rw [List.take_of_length_le (by simp)]; rfl) (belowR_grR 0 l) (by simp) (by simp) ?_)
  rintro k rows' ⟨rfl, rfl⟩ _ _
  have hd1 : List.drop l.length (l.map grR) = [] := List.drop_eq_nil_of_le (by simp)
  have hdl : (dlS stayS l).length = (mayG l).length := by rw [hd, List.length_map]
  have hrw : ∀ X, rowsB grE (dlS stayS l ++ X) = (mayG l).map r3 ++ rowsB grE X := fun X => by
    rw [hd]; unfold rowsB; rw [List.map_append, List.map_map]; rfl
  rw [hrw, hdl]
  have hZ : ∀ k, belowR k (rowsB grE (List.replicate (l.length - (mayG l).length) gr0)) := fun k => belowR_grR k _
  have hso : ∀ k (u : List G3), belowR k (u.map r3) := fun k u => by
    have := belowR_grR k (u.map g3)
    rw [List.map_map] at this
    exact this
  generalize rowsB grE (List.replicate (l.length - (mayG l).length) gr0) = Z at *
  have hF : forgS l keep = sortI (((sort3 (mayG l)).take (l.length / 2)).map (·.at')) := if_neg c
  generalize hG : mayG l = may at *
  have htk : List.take may.length (may.map r3 ++ Z) = may.map r3 := List.take_left' (by simp)
  have hdk : List.drop may.length (may.map r3 ++ Z) = Z := List.drop_left' (by simp)
  have hsl : (sort3 may).length = may.length := (sort3_perm may).length_eq
  generalize sort3 may = so at *
  simp [hd1]
  refine CallK.introX (CallX.introS (o := .slot 15) (lo := 0) (hi := may.length) hS (by simp) rfl rfl (by simp) (by simp) rfl (by simp [htk]) ?_ (by simp) (by simp) ?_)
  · exact belowR_grR 0 (may.map g3) |> fun h => by rw [List.map_map] at h; exact h
  rintro k rows' ⟨rfl, rfl⟩ _ _
  obtain ⟨q, hq⟩ : ∃ q : Nat, l.length / 2 = q := ⟨_, rfl⟩
  rw [hq] at hF
  have hw : w64 ((l.length : Int) / 2) = (q : Int) := by rw [w64_id (by omega) (by omega)]; omega
  have hmin : min may.length (so.length + Z.length) = may.length := by omega
  have hif : (if q < may.length then (q : Int) else may.length) = ((min may.length q : Nat) : Int) := by split <;> omega
  have htq : so.take q = so.take (min may.length q) := by
    by_cases e : q ≤ may.length
    · rw [Nat.min_eq_right e]
    · rw [Nat.min_eq_left (by omega), List.take_of_length_le (by omega), List.take_of_length_le (by omega)]
  rw [htq] at hF
  have hml2 : min may.length q ≤ so.length := by omega
  generalize min may.length q = m at *
  simp [hdk, hw, hmin, hif]
  refine ⟨by omega, ?_⟩
  refine ALoop.intro (S := fun (i : Nat) => ⟨[(7, .own true 1 (irow ((so.take i).map (·.at')))), (15, .own true 4 (so.map r3 ++ Z)), (27, .loc (.slot 15) 0 m), (28, .pv (I64 m)), (29, .pv (I64 i))], []⟩) (fun i => i ≤ m) (fun i => m - i) 0 ?_ (Nat.zero_le _) ?_
  · exact (Weak.nilOwn (s := 7) 1 true (by simp)).trans (Weak.to (by simp [irow, hif]; omega) rfl (by simp) (by simp [hso, hZ]) (by simp))
  intro i hi
  by_cases ci : i < m
  · have hw2 : w64 ((i : Int) + 1) = ((i + 1 : Nat) : Int) := by rw [w64_id (by omega) (by omega)]; omega
    have hil : i < so.length := by omega
    have hgi : (so.map r3 ++ Z)[i]? = some (r3 so[i]) := by rw [List.getElem?_append_left (by simpa using hil), List.getElem?_map, List.getElem?_eq_getElem hil]; rfl
    have hsn : irow (List.take i (so.map (·.at'))) ++ [[I64 so[i].at']] = irow (List.take (i + 1) (so.map (·.at'))) := by
      rw [irow_append, List.take_add_one, List.getElem?_map, List.getElem?_eq_getElem hil]; rfl
    simp [ci, hgi, r3, grR, g3]
    refine ⟨by omega, by omega, by omega, i + 1, by dsimp only; omega, by dsimp only; omega, Weak.to ?_ rfl (by simp) ?_ (by simp)⟩
    · simp [hw2, hsn]
    · simp [hso, hZ]
  · have : i = m := by omega
    subst this
    have hmt : List.take i (so.map (·.at')) = (so.take i).map (·.at') := by rw [List.map_take]
    rw [← hmt] at hF
    have hVl : (List.take i (so.map (·.at'))).length = i := by rw [List.length_take, List.length_map]; omega
    rw [← hmt]
    generalize List.take i (so.map (·.at')) = V at *
    have hI := sortIg_ok V (by omega)
    have hd2 : List.drop V.length (irow V) = [] := List.drop_eq_nil_of_le (by simp)
    simp
    refine CallK.introX (CallX.introS (o := .slot 7) (lo := 0) (hi := V.length) hI (by simp) rfl rfl (by simp) (by simp) rfl (by simp; rw [List.take_of_length_le (by simp)]) (belowR_irow 0 V) (by simp) (by simp) ?_)
    rintro k rows' ⟨rfl, rfl⟩ _ _
    simp [hd2, hF]
end Go.AX

namespace Go.AX
open Go.Proofs
set_option linter.unusedSimpArgs false

theorem mayG_take (l : List Gr) {i : Nat} (h : i < l.length) : mayG (l.take (i + 1)) = if stayS l[i] = true then mayG (l.take i) else mayG (l.take i) ++ [of3 l[i]] := by
  unfold mayG
  rw [List.take_add_one, List.getElem?_eq_getElem h, Option.toList_some, List.filter_append]
  simp only [List.filter_cons, List.filter_nil]
  cases stayS l[i] <;> simp
theorem r3_of (x : Gr) (h : x.lo = false) : grR x = r3 (of3 x) := by
  unfold r3 of3 g3 grR; rw [h]
@[simp] theorem belowR_r3 (k : Nat) (u : List G3) : belowR k (u.map r3) := by
  have := belowR_grR k (u.map g3)
  rw [List.map_map] at this
  exact this
theorem nTo_le (may : List G3) (i : Nat) : ∀ k, nTo may i k ≤ k
  | 0 => Nat.le_refl _
  | k + 1 => by
    have := nTo_le may i k
    rw [nTo]; split <;> omega
def forSch : Sch :=
  let E : Sch := .fork [(11, .fork [(15, .fork [(16, .done)])])]
  let S12 : Sch := .fork [(4, E)]
  let S21 : Sch := .fork [(10, E)]
  let S20 : Sch := .fork [(9, S21)]
  let S02 : Sch := .fork [(0, S12)]
  let S11 : Sch := .fork [(4, S21), (10, S12)]
  let S10 : Sch := .fork [(4, S20), (9, S11)]
  let S01 : Sch := .fork [(0, S11), (10, S02)]
  .take 1 (.take 2 (.take 3 (.take 5 (.take 6 (.take 7 (.take 8 (.take 12 (.take 13 (.take 14 (.fork [(0, S10), (9, S01)]))))))))))
set_option maxRecDepth 16000 in
theorem refForget_ok (l : List Gr) (hl : l.length ≤ 1000) (keep : Int) : APure Try.prog 29 [.seq false 4 (l.map grR), I64 keep] (fun r => r = .own true 1 (irow (refForg l keep))) := by
  refine APure.own0 (R := fun r => r = .own true 1 (irow (refForg l keep)) ∨ (refForg l keep = [] ∧ r = .pv (.lit (.slice none 0 0)))) ?_ (fun r h => h.imp id fun ⟨e1, e2⟩ => ⟨e2, true, 1, by rw [e1]; rfl⟩)
  refine apure1B [23] hmo Try.func29 (by kernel_rfl) rfl rfl (by kernel_rfl) (Nat.le_of_ble_eq_true rfl) ?_
  by_cases c : (l.length : Int) ≤ keep
  · simp [refForg, c]
  have hF : refForg l keep = outTo (mayG l) (l.length / 2) (mayG l).length := if_neg c
  simp [c]
  refine ALoop.intro (S := fun (i : Nat) => ⟨[(0, .pv (.seq false 4 (l.map grR))), (5, .pv (.lit (.slice none 0 0))), (6, .own true 4 ((mayG (l.take i)).map r3)), (7, .pv (I64 i))], []⟩) (fun i => i ≤ l.length) (fun i => l.length - i) 0 ?_ (Nat.zero_le _) ?_
  · exact (Weak.nilOwn (s := 6) 4 true (by simp)).trans (Weak.to (by simp [mayG]) rfl (by simp) (by simp) (by simp))
  intro i hi
  by_cases ci : i < l.length
  · have hw2 : w64 ((i : Int) + 1) = ((i + 1 : Nat) : Int) := by rw [w64_id (by omega) (by omega)]; omega
    have hm := mayG_take l ci
    have hml := mayG_len (l.take i)
    rw [List.length_take] at hml
    generalize mayG (l.take i) = u at *
    cases hlo : l[i].lo
    · by_cases hg : 2 < l[i].gl
      · have hs : stayS l[i] = false := by unfold stayS; rw [hlo]; simp; omega
        rw [hs] at hm
        simp only [Bool.false_eq_true, if_false] at hm
        have hr := r3_of l[i] hlo
        simp [ci, grR, hlo, hg]
        simp only [grR, hlo] at hr
        refine ⟨by omega, i + 1, by dsimp only; omega, by dsimp only; omega, Weak.to (by simp [hw2, hm, ← hr, grR]) rfl (by simp) (by simp) (by simp)⟩
      · have hs : stayS l[i] = true := by unfold stayS; rw [hlo]; simp; omega
        rw [hs] at hm
        simp only [if_true] at hm
        simp [ci, grR, hlo, hg]
        exact ⟨i + 1, by dsimp only; omega, by dsimp only; omega, Weak.to (by simp [hw2, hm, grR]) rfl (by simp) (by simp) (by simp)⟩
    · have hs : stayS l[i] = true := by unfold stayS; rw [hlo]; rfl
      rw [hs] at hm
      simp only [if_true] at hm
      simp [ci, grR, hlo]
      exact ⟨i + 1, by dsimp only; omega, by dsimp only; omega, Weak.to (by simp [hw2, hm, grR]) rfl (by simp) (by simp) (by simp)⟩
  have hie : i = l.length := by omega
  subst hie
  have hml := mayG_len l
  rw [List.take_length]
  generalize mayG l = may at *
  obtain ⟨q, hq⟩ : ∃ q : Nat, l.length / 2 = q := ⟨_, rfl⟩
  rw [hq] at hF
  have hwq : w64 ((l.length : Int) / 2) = (q : Int) := by rw [w64_id (by omega) (by omega)]; omega
  simp
  refine ALoop.intro (S := fun (i : Nat) => ⟨[(0, .pv (.seq false 4 (l.map grR))), (5, .own true 1 (irow (outTo may q i))), (6, .own true 4 (may.map r3)), (8, .pv (I64 i))], []⟩) (fun i => i ≤ may.length) (fun i => may.length - i) 0 ?_ (Nat.zero_le _) ?_
  · exact (Weak.nilOwn (s := 5) 1 true (by simp)).trans (Weak.to (by simp [outTo, irow]) rfl (by simp) (by simp) (by simp))
  intro i hi
  by_cases ci : i < may.length
  rotate_left
  · have : i = may.length := by omega
    subst this
    rw [← hF]
    simp
  have hw2 : w64 ((i : Int) + 1) = ((i + 1 : Nat) : Int) := by rw [w64_id (by omega) (by omega)]; omega
  simp [ci]
  refine ALoop.intro (S := fun (k : Nat) => ⟨[(0, .pv (.seq false 4 (l.map grR))), (5, .own true 1 (irow (outTo may q i))), (6, .own true 4 (may.map r3)), (8, .pv (I64 i)), (9, .pv (I64 (nTo may i k))), (10, .pv (I64 k))], []⟩) (fun k => k ≤ may.length) (fun k => may.length - k) 0 ?_ (Nat.zero_le _) ?_
  · exact Weak.to (by simp [nTo]) rfl (by simp) (by simp) (by simp)
  intro k hk
  by_cases ck : k < may.length
  · have hw3 : w64 ((k : Int) + 1) = ((k + 1 : Nat) : Int) := by rw [w64_id (by omega) (by omega)]; omega
    have hw4 : w64 ((nTo may i k : Nat) + 1 : Int) = ((nTo may i k + 1 : Nat) : Int) := by
      have : nTo may i k ≤ k := nTo_le may i k
      rw [w64_id (by omega) (by omega)]; omega
    have q1 := refWorse_ok (g3 may[k]) (g3 may[i])
    have q2 := refWorse_ok (g3 may[i]) (g3 may[k])
    rw [worS_lt] at q1 q2
    simp only [grR, g3] at q1 q2
    have hgk : may.getD k default = may[k] := by rw [List.getD_eq_getElem?_getD, List.getElem?_eq_getElem ck]; rfl
    have hgi : may.getD i default = may[i] := by rw [List.getD_eq_getElem?_getD, List.getElem?_eq_getElem ci]; rfl
    have hN : nTo may i (k + 1) = nTo may i k + if badG may i k = true then 1 else 0 := rfl
    unfold badG at hN
    rw [hgk, hgi] at hN
    simp [ck, ci, r3, g3, grR]
    refine CallQ0.intro q1 (by simp) ?_
    by_cases d1 : lt3 may[k] may[i]
    · simp [d1] at hN
      simp [d1, ck, ci, r3, g3, grR]
      refine CallQ.intro (r := .pv (BL (decide (lt3 may[i] may[k])))) (fun _ => q2) (by simp) ?_
      simp
      exact ⟨k + 1, by dsimp only; omega, by dsimp only; omega, Weak.to (by simp [hw3, hN, hw4, r3, g3, grR]) rfl (by simp) (by simp) (by simp)⟩
    · by_cases d2 : k < i
      · by_cases d3 : lt3 may[i] may[k]
        · simp [d1, d2, d3] at hN
          simp [d1, d2, ck, ci, r3, g3, grR]
          refine CallQ.intro (r := .pv (BL (decide (lt3 may[i] may[k])))) (fun _ => q2) (by simp) ?_
          simp [d3]
          exact ⟨k + 1, by dsimp only; omega, by dsimp only; omega, Weak.to (by simp [hw3, hN, hw4, r3, g3, grR]) rfl (by simp) (by simp) (by simp)⟩
        · simp [d1, d2, d3] at hN
          simp [d1, d2, ck, ci, r3, g3, grR]
          refine CallQ.intro (r := .pv (BL (decide (lt3 may[i] may[k])))) (fun _ => q2) (by simp) ?_
          simp [d3]
          exact ⟨k + 1, by dsimp only; omega, by dsimp only; omega, Weak.to (by simp [hw3, hN, hw4, r3, g3, grR]) rfl (by simp) (by simp) (by simp)⟩
      · simp [d1, d2] at hN
        simp [d1, d2, ck, ci, r3, g3, grR]
        refine CallQ.intro (r := .pv (BL (decide (lt3 may[i] may[k])))) (fun _ => q2) (by simp) ?_
        simp
        exact ⟨k + 1, by dsimp only; omega, by dsimp only; omega, Weak.to (by simp [hw3, hN, hw4, r3, g3, grR]) rfl (by simp) (by simp) (by simp)⟩
  have hke : k = may.length := by omega
  subst hke
  have hO : outTo may q (i + 1) = if nTo may i may.length < q then insI (may.getD i default).at' (outTo may q i) else outTo may q i := rfl
  have hgi : may.getD i default = may[i] := by rw [List.getD_eq_getElem?_getD, List.getElem?_eq_getElem ci]; rfl
  rw [hgi] at hO
  have hol : (outTo may q i).length ≤ i := by
    have := (outTo_is may q i).2.length_eq
    rw [this, List.length_map, List.length_map]
    exact Nat.le_trans (List.length_filter_le _ _) (by simp)
  generalize outTo may q i = out at *
  by_cases cq : nTo may i may.length < q
  rotate_left
  · rw [if_neg cq] at hO
    simp [hwq, cq]
    exact ⟨i + 1, by dsimp only; omega, by dsimp only; omega, Weak.to (by simp [hw2, hO]) rfl (by simp) (by simp) (by simp)⟩
  rw [if_pos cq] at hO
  simp [hwq, cq]
  refine ALoop.intro (S := fun (k : Nat) => ⟨[(0, .pv (.seq false 4 (l.map grR))), (5, .own true 1 (irow out)), (6, .own true 4 (may.map r3)), (8, .pv (I64 i)), (11, .pv (I64 k))], []⟩) (fun k => k ≤ out.length ∧ ∀ j (hj : j < out.length), j < k → out[j] ≤ may[i].at') (fun k => out.length - k) 0 ?_ ⟨Nat.zero_le _, fun j _ h => by omega⟩ ?_
  · exact Weak.to (by simp) rfl (by simp) (by simp) (by simp)
  rintro k ⟨hk, hle⟩
  have hstop : (∀ h : k < out.length, ¬ out[k] ≤ may[i].at') → insI may[i].at' out = out.take k ++ may[i].at' :: out.drop k := insI_at hk hle
  by_cases ck : k < out.length
  · have hw3 : w64 ((k : Int) + 1) = ((k + 1 : Nat) : Int) := by rw [w64_id (by omega) (by omega)]; omega
    by_cases cle : out[k] ≤ may[i].at'
    · simp [ck, ci, r3, g3, grR, cle]
      refine ⟨k + 1, by dsimp only; omega, ⟨by omega, fun j hj hjk => ?_⟩, Weak.to (by simp [hw3, r3, g3, grR]) rfl (by simp) (by simp) (by simp)⟩
      by_cases e : j = k
      · subst e; exact cle
      · exact hle j hj (by omega)
    · have hO2 := hO.trans (hstop fun _ => cle)
      have hins : List.take k (irow out) ++ [PV.lit (Value.int IntKind.i64 may[i].at')] :: List.drop k (List.take out.length (irow out)) = irow (outTo may q (i + 1)) := by
        rw [hO2, show List.take out.length (irow out) = irow out from List.take_of_length_le (by simp)]; simp [irow, List.map_take, List.map_drop]
      simp [ck, ci, r3, g3, grR, cle]
      refine AAnyD.one forSch (by kernel_rfl) ?_
      simp [forSch, ck, ci, r3, g3, grR]
      and_intros
      all_goals first
        | omega
        | exact ⟨i + 1, by dsimp only; omega, by dsimp only; omega, Weak.to (by simp [hw2, hins, r3, g3, grR]) rfl (by simp) (by simp) (by simp)⟩
  · have hO2 := hO.trans (hstop fun h => absurd h ck)
    have hins : List.take k (irow out) ++ [PV.lit (Value.int IntKind.i64 may[i].at')] :: List.drop k (List.take out.length (irow out)) = irow (outTo may q (i + 1)) := by
      rw [hO2, show List.take out.length (irow out) = irow out from List.take_of_length_le (by simp)]; simp [irow, List.map_take, List.map_drop]
    simp [ck, ci, r3, g3, grR]
    refine AAnyD.one forSch (by kernel_rfl) ?_
    simp [forSch, ck, ci, r3, g3, grR]
    and_intros
    all_goals first
      | omega
      | exact ⟨i + 1, by dsimp only; omega, by dsimp only; omega, Weak.to (by simp [hw2, hins, r3, g3, grR]) rfl (by simp) (by simp) (by simp)⟩
end Go.AX
