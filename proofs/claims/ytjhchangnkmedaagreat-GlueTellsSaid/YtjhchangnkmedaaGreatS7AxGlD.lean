/-
  Contracts: what is forgotten, by the program.
  Contracts: what is forgotten, by the document.
-/
import Derived.Test.YtjhchangnkmedaaGreatS7AxGlB
import Derived.Test.YtjhchangnkmedaaGreatS7AxGlP
import Derived.Test.YtjhchangnkmedaaGreatS7AxShelf
import Derived.Test.YtjhchangnkmedaaGreatAxSM
namespace Go.AX
open Go.Proofs Go.Shelf
set_option linter.unusedSimpArgs false

def en3 (x : G3) : List Value := grE (g3 x)
def r3 (x : G3) : List PV := grR (g3 x)
theorem rowsB_r3 (l : List G3) : rowsB en3 l = l.map r3 := rfl
theorem cmp3_ok (x y : G3) : APure Tryz.prog 43 [.agg ((en3 x).map PV.lit), .agg ((en3 y).map PV.lit)] (fun r => r = .pv (.lit (.int .i64 (cmp3 x y)))) := cmpG_ok (g3 x) (g3 y)
set_option maxRecDepth 100000 in
theorem sortG_ok (l : List G3) (hl : l.length ≤ 1000000) : AIn Tryz.prog 42 4 (l.map r3) [.lit (.func (.func 43) #[] #[])] (fun k rows => k = none ∧ rows = (sort3 l).map r3) := by
  have h := sortFuncK_in Tryz.sortGr 4 (by decide) (fun w => rfl) (fun w => rfl) en3 (fun _ => rfl) (fun x v hv => grE_one _ v hv) cmp3 43 l hl cmp3_swo cmp3_tot (enters_of Tryz.func43 (by kernel_rfl) rfl) (by kernel_rfl) cmp3_ok
  exact AIn.asFnO h
theorem sortIg_ok (l : List Int) (hl : l.length ≤ 1000000) : AIn Tryz.prog 44 1 (irow l) [] (fun k rows => k = none ∧ rows = irow (sortI l)) :=
  sortInts_in Tryz.sortA l hl (by kernel_rfl)
set_option maxRecDepth 16000 in
theorem forget_ok (l : List Gr) (hl : l.length ≤ 1000) (keep : Int) : APure Tryz.prog 15 [.seq false 4 (l.map grR), I64 keep] (fun r => r = .own true 1 (irow (forgS l keep))) := by
  refine APure.own0 (R := fun r => r = .own true 1 (irow (forgS l keep)) ∨ (forgS l keep = [] ∧ r = .pv (.lit (.slice none 0 0)))) ?_ (fun r h => h.imp id fun ⟨e1, e2⟩ => ⟨e2, true, 1, by rw [e1]; rfl⟩)
  refine apure1 hmo Tryz.func15 (by kernel_rfl) rfl rfl (by kernel_rfl) (Nat.le_of_ble_eq_true rfl) ?_
  have hC := cloneG_ok l (by omega)
  have hD := AIn.asFnO (deleteG_ok l (by omega) 39 stayS stay_ok)
  have hm := mayG_rows l
  have hml := mayG_len l
  have hS := sortG_ok (mayG l) (by omega)
  have hd : dlS stayS l = (mayG l).map g3 := hm.symm
  by_cases c : (l.length : Int) ≤ keep
  · simp [forgS, c]
  simp [c]
  refine CallK.intro hC (by simp) ?_
  simp
  refine CallK.introX (CallX.introS (o := .slot 15) (lo := 0) (hi := l.length) hD (by simp) rfl rfl (by simp) (by simp) rfl (by simp; rw [List.take_of_length_le (by simp)]; rfl) (belowR_grR 0 l) (by simp) (by simp) ?_)
  rintro k rows' ⟨rfl, rfl⟩ _ _
  have hd1 : List.drop l.length (l.map grR) = [] := List.drop_eq_nil_of_le (by simp)
  have hdl : (dlS stayS l).length = (mayG l).length := by rw [hd, List.length_map]
  have hrw : ∀ X, rowsB grE (dlS stayS l ++ X) = (mayG l).map r3 ++ rowsB grE X := fun X => by
    rw [hd]; unfold rowsB; rw [List.map_append, List.map_map]; rfl
  rw [hrw, hdl]
  have hZ : ∀ k, belowR k (rowsB grE (List.replicate (l.length - (mayG l).length) gr0)) := fun k => belowR_grR k _
  have hso : ∀ k (u : List G3), belowR k (u.map r3) := fun k u => by
    have := belowR_grR k (u.map g3)
    rw [List.map_map] at this
    exact this
  generalize rowsB grE (List.replicate (l.length - (mayG l).length) gr0) = Z at *
  have hF : forgS l keep = sortI (((sort3 (mayG l)).take (l.length / 2)).map (·.at')) := if_neg c
  generalize hG : mayG l = may at *
  have htk : List.take may.length (may.map r3 ++ Z) = may.map r3 := List.take_left' (by simp)
  have hdk : List.drop may.length (may.map r3 ++ Z) = Z := List.drop_left' (by simp)
  have hsl : (sort3 may).length = may.length := (sort3_perm may).length_eq
  generalize sort3 may = so at *
  simp [hd1]
  refine CallK.introX (CallX.introS (o := .slot 15) (lo := 0) (hi := may.length) hS (by simp) rfl rfl (by simp) (by simp) rfl (by simp [htk]) ?_ (by simp) (by simp) ?_)
  · exact belowR_grR 0 (may.map g3) |> fun h => by rw [List.map_map] at h; exact h
  rintro k rows' ⟨rfl, rfl⟩ _ _
  obtain ⟨q, hq⟩ : ∃ q : Nat, l.length / 2 = q := ⟨_, rfl⟩
  rw [hq] at hF
  have hw : w64 ((l.length : Int) / 2) = (q : Int) := by rw [w64_id (by omega) (by omega)]; omega
  have hmin : min may.length (so.length + Z.length) = may.length := by omega
  have hif : (if q < may.length then (q : Int) else may.length) = ((min may.length q : Nat) : Int) := by split <;> omega
  have htq : so.take q = so.take (min may.length q) := by
    by_cases e : q ≤ may.length
    · rw [Nat.min_eq_right e]
    · rw [Nat.min_eq_left (by omega), List.take_of_length_le (by omega), List.take_of_length_le (by omega)]
  rw [htq] at hF
  have hml2 : min may.length q ≤ so.length := by omega
  generalize min may.length q = m at *
  simp [hdk, hw, hmin, hif]
  refine ⟨by omega, ?_⟩
  refine ALoop.intro (S := fun (i : Nat) => ⟨[(7, .own true 1 (irow ((so.take i).map (·.at')))), (15, .own true 4 (so.map r3 ++ Z)), (27, .loc (.slot 15) 0 m), (28, .pv (I64 m)), (29, .pv (I64 i))], []⟩) (fun i => i ≤ m) (fun i => m - i) 0 ?_ (Nat.zero_le _) ?_
  · exact (Weak.nilOwn (s := 7) 1 true (by simp)).trans (Weak.to (by simp [irow, hif]; omega) rfl (by simp) (by simp [hso, hZ]) (by simp))
  intro i hi
  by_cases ci : i < m
  · have hw2 : w64 ((i : Int) + 1) = ((i + 1 : Nat) : Int) := by rw [w64_id (by omega) (by omega)]; omega
    have hil : i < so.length := by omega
    have hgi : (so.map r3 ++ Z)[i]? = some (r3 so[i]) := by rw [List.getElem?_append_left (by simpa using hil), List.getElem?_map, List.getElem?_eq_getElem hil]; rfl
    have hsn : irow (List.take i (so.map (·.at'))) ++ [[I64 so[i].at']] = irow (List.take (i + 1) (so.map (·.at'))) := by
      rw [irow_append, List.take_add_one, List.getElem?_map, List.getElem?_eq_getElem hil]; rfl
    simp [ci, hgi, r3, grR, g3]
    refine ⟨by omega, by omega, by omega, i + 1, by dsimp only; omega, by dsimp only; omega, Weak.to ?_ rfl (by simp) ?_ (by simp)⟩
    · simp [hw2, hsn]
    · simp [hso, hZ]
  · have : i = m := by omega
    subst this
    have hmt : List.take i (so.map (·.at')) = (so.take i).map (·.at') := by rw [List.map_take]
    rw [← hmt] at hF
    have hVl : (List.take i (so.map (·.at'))).length = i := by rw [List.length_take, List.length_map]; omega
    rw [← hmt]
    generalize List.take i (so.map (·.at')) = V at *
    have hI := sortIg_ok V (by omega)
    have hd2 : List.drop V.length (irow V) = [] := List.drop_eq_nil_of_le (by simp)
    simp
    refine CallK.introX (CallX.introS (o := .slot 7) (lo := 0) (hi := V.length) hI (by simp) rfl rfl (by simp) (by simp) rfl (by simp; rw [List.take_of_length_le (by simp)]) (belowR_irow 0 V) (by simp) (by simp) ?_)
    rintro k rows' ⟨rfl, rfl⟩ _ _
    simp [hd2, hF]
end Go.AX

namespace Go.AX
open Go.Proofs
set_option linter.unusedSimpArgs false

theorem mayG_take (l : List Gr) {i : Nat} (h : i < l.length) : mayG (l.take (i + 1)) = if stayS l[i] = true then mayG (l.take i) else mayG (l.take i) ++ [of3 l[i]] := by
  unfold mayG
  rw [List.take_add_one, List.getElem?_eq_getElem h, Option.toList_some, List.filter_append]
  simp only [List.filter_cons, List.filter_nil]
  cases stayS l[i] <;> simp
theorem r3_of (x : Gr) (h : x.lo = false) : grR x = r3 (of3 x) := by
  unfold r3 of3 g3 grR; rw [h]
@[simp] theorem belowR_r3 (k : Nat) (u : List G3) : belowR k (u.map r3) := by
  have := belowR_grR k (u.map g3)
  rw [List.map_map] at this
  exact this
theorem nTo_le (may : List G3) (i : Nat) : ∀ k, nTo may i k ≤ k
  | 0 => Nat.le_refl _
  | k + 1 => by
    have := nTo_le may i k
    rw [nTo]; split <;> omega
def forSch : Sch :=
  let E : Sch := .fork [(11, .fork [(15, .fork [(16, .done)])])]
  let S12 : Sch := .fork [(4, E)]
  let S21 : Sch := .fork [(10, E)]
  let S20 : Sch := .fork [(9, S21)]
  let S02 : Sch := .fork [(0, S12)]
  let S11 : Sch := .fork [(4, S21), (10, S12)]
  let S10 : Sch := .fork [(4, S20), (9, S11)]
  let S01 : Sch := .fork [(0, S11), (10, S02)]
  .take 1 (.take 2 (.take 3 (.take 5 (.take 6 (.take 7 (.take 8 (.take 12 (.take 13 (.take 14 (.fork [(0, S10), (9, S01)]))))))))))
end Go.AX
