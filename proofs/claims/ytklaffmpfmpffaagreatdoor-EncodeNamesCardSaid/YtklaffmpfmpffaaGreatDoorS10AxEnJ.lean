/-
  Contracts: the formula of a history.
  Contracts: the document's clauses of places, times and states.
-/
import Derived.Test.YtklaffmpfmpffaaGreatDoorS10AxDfA
import Derived.Test.YtklaffmpfmpffaaGreatDoorS10AxDfD
import Derived.Test.YtklaffmpfmpffaaGreatDoorS10AxDeL
import Derived.Test.YtklaffmpfmpffaaGreatDoorS10AxMovO
namespace Go.AX
open Go.Proofs
set_option linter.unusedSimpArgs false

/-! ### How long the clauses are -/
theorem enc_rows {o : Obj} {ops : List Op5} (hc : sizeOk ops.length o.st = true) : ∀ c ∈ encC o ops, c.length ≤ 100 := by
  have hs := sizeOk_iff.1 hc
  have hN : ops.length ≤ 64 := by omega
  have hM : o.st.toNat ≤ 32 := by omega
  have hmost : ∀ (vs : List Int) (c : List Int), c ∈ mostS vs → c.length ≤ 100 := fun vs c h => by
    obtain ⟨i, j, _, _, _, rfl⟩ := mem_mostS.1 h
    simp
  intro c hm
  unfold encC at hm
  rcases List.mem_append.1 hm with hm | hm
  · unfold placesC at hm
    rw [if_pos hc] at hm
    rcases List.mem_append.1 hm with hm | hm
    · obtain ⟨a, ha, hm⟩ := List.mem_flatMap.1 hm
      rcases List.mem_cons.1 hm with rfl | hm
      · simp; omega
      · exact hmost _ _ hm
    · obtain ⟨a, ha, hm⟩ := List.mem_flatMap.1 hm
      exact hmost _ _ hm
  rcases List.mem_append.1 hm with hm | hm
  · unfold timesC timesTo at hm
    rw [if_pos hc] at hm
    obtain ⟨p, _, hm⟩ := List.mem_flatMap.1 hm
    split at hm
    · obtain ⟨a, ha, hm⟩ := List.mem_flatMap.1 hm
      obtain ⟨b, hb, rfl⟩ := List.mem_map.1 hm
      simp
    · cases hm
  rcases List.mem_append.1 hm with hm | hm
  · unfold statesC at hm
    split at hm
    · rcases List.mem_cons.1 hm with rfl | hm
      · simp
      · obtain ⟨a, ha, hm⟩ := List.mem_flatMap.1 hm
        rcases List.mem_cons.1 hm with rfl | hm
        · simp; omega
        · exact hmost _ _ hm
    · cases hm
  · unfold movesC at hm
    split at hm
    · obtain ⟨i, _, hm⟩ := List.mem_flatMap.1 hm
      rcases List.mem_append.1 hm with hm | hm
      · unfold movH at hm
        split at hm
        · cases hm
        · rcases List.mem_cons.1 hm with rfl | hm
          · simp
          · cases hm
      · obtain ⟨k, _, hm⟩ := List.mem_flatMap.1 hm
        obtain ⟨b, _, hm⟩ := List.mem_flatMap.1 hm
        have ho : ∀ (x : Option Int) f, (optL x f).length ≤ 1 := fun x f => by cases x <;> simp [optL]
        unfold movB at hm
        rcases List.mem_cons.1 hm with rfl | hm
        · have := ho (mayS o (ops.getD i default) b) (fun y => varS (sizeP o ops).1 (sizeP o ops).2 3 ((k : Int) + 1) y)
          rw [List.length_append, List.length_cons, List.length_cons, List.length_cons, List.length_nil]
          omega
        · split at hm
          · rcases List.mem_cons.1 hm with rfl | hm
            · simp
            · cases hm
          · cases hm
    · cases hm
theorem pairs_few {ops : List Op5} (h : (chk ops).2 = 0) (hn : ops.length ≤ 64) : (pairsTo ops ops.length).length ≤ 2016 := by
  have := pairs_le (chk_zero h).2 ops.length (Nat.le_refl _)
  have h2 : ops.length * (2 * ops.length - 1 - ops.length) ≤ 64 * 63 := Nat.mul_le_mul hn (by omega)
  omega
theorem enc_len {o : Obj} {ops : List Op5} (hr : objR o) (hf : failE o ops = 0) : (encC o ops).length ≤ 100000000 ∧ (placesC ops.length o.st).length ≤ 100000000 ∧ (timesC ops.length o.st (pairsTo ops ops.length)).length ≤ 100000000 ∧ (statesC ops.length o.st o.ini).length ≤ 100000000 ∧ (movesC o ops).length ≤ 100000000 := by
  obtain ⟨h1, h2, h3, hP, _, hc⟩ := failE_zero hr hf
  have hs := sizeOk_iff.1 hc
  have hM : o.st.toNat ≤ 32 := by omega
  have hNN : ops.length * ops.length ≤ 64 * 64 := Nat.mul_le_mul h3 h3
  have a1 : (placesC ops.length o.st).length ≤ 64 * (1 + 64 * 64) + 64 * (64 * 64) := by
    unfold placesC
    rw [if_pos hc, List.length_append]
    have q1 := partA_length ops.length o.st ops.length ops.length
    have q2 := partB_length ops.length o.st ops.length ops.length
    have q3 : ops.length * (1 + ops.length * ops.length) ≤ 64 * (1 + 64 * 64) := Nat.mul_le_mul h3 (by omega)
    have q4 : ops.length * (ops.length * ops.length) ≤ 64 * (64 * 64) := Nat.mul_le_mul h3 hNN
    have e : ((ops.length : Int)).toNat = ops.length := by omega
    rw [e]
    omega
  have a2 : (timesC ops.length o.st (pairsTo ops ops.length)).length ≤ 2016 * (64 * 64) := by
    unfold timesC
    rw [if_pos hc]
    have e : ((ops.length : Int)).toNat = ops.length := by omega
    rw [e]
    have q1 := timesTo_length ops.length o.st ops.length (pairsTo ops ops.length) (pairsTo ops ops.length).length (Nat.le_refl _)
    have q2 : (pairsTo ops ops.length).length * (ops.length * ops.length) ≤ 2016 * (64 * 64) := Nat.mul_le_mul (pairs_few h2 h3) hNN
    omega
  have a3 : (statesC ops.length o.st o.ini).length ≤ 1 + 65 * (1 + 32 * 32) := by
    unfold statesC
    split
    · have q1 := partS_length ops.length o.st o.st.toNat ((ops.length : Int).toNat + 1)
      have q3 : o.st.toNat * o.st.toNat ≤ 32 * 32 := Nat.mul_le_mul hM hM
      have q2 : ((ops.length : Int).toNat + 1) * (1 + o.st.toNat * o.st.toNat) ≤ 65 * (1 + 32 * 32) := Nat.mul_le_mul (by omega) (by omega)
      rw [List.length_cons]
      omega
    · simp
  have a4 : (movesC o ops).length ≤ 64 * (1 + 64 * (32 * 2)) := by
    unfold movesC
    split
    · rw [hP]
      dsimp only
      have e : ((ops.length : Int)).toNat = ops.length := by omega
      rw [e]
      have q1 := movTo_length o ops.length o.st ops.length o.st.toNat ops ops.length (Nat.le_refl _)
      have q2 : ops.length * (o.st.toNat * 2) ≤ 64 * (32 * 2) := Nat.mul_le_mul h3 (by omega)
      have q3 : ops.length * (1 + ops.length * (o.st.toNat * 2)) ≤ 64 * (1 + 64 * (32 * 2)) := Nat.mul_le_mul h3 (by omega)
      omega
    · simp
  refine ⟨?_, by omega, by omega, by omega, by omega⟩
  unfold encC
  rw [List.length_append, List.length_append, List.length_append]
  omega

/-! ### The walks -/
def partR (L : List (List Int)) : List PV := [.seq false 1 (L.map crowF)]
@[simp] theorem belowL_partR (k : Nat) (L : List (List Int)) : belowL k (partR L) := by simp [partR]
@[simp] theorem belowR_partR (k : Nat) (l : List (List (List Int))) : belowR k (l.map partR) := by
  induction l with
  | nil => simp
  | cons x l ih => simp [ih]
def catTo (P : List (List (List Int))) (i : Nat) : List (List Int) := (P.take i).flatten
theorem catTo_zero (P : List (List (List Int))) : catTo P 0 = [] := by simp [catTo]
theorem catTo_all (P : List (List (List Int))) : catTo P P.length = P.flatten := by simp [catTo]
theorem catTo_succ {P : List (List (List Int))} {i : Nat} (h : i < P.length) : catTo P (i + 1) = catTo P i ++ P[i] := by
  unfold catTo
  rw [← List.take_append_getElem h, List.flatten_append]
  simp
theorem catTo_le (P : List (List (List Int))) (k : Nat) : (catTo P k).length ≤ P.flatten.length := by
  unfold catTo
  have := congrArg List.length (congrArg List.flatten (List.take_append_drop k P))
  rw [List.flatten_append, List.length_append] at this
  omega
set_option maxRecDepth 16000 in
theorem concat_ok (P : List (List (List Int))) (hl : P.length ≤ 1000000) (ht : P.flatten.length ≤ 100000000) (hr : ∀ L ∈ P, ∀ x ∈ L, x.length ≤ 1000000) : APure Tryz.prog 10 [.seq false 1 (P.map partR)] (fun r => r = .own true 1 (P.flatten.map crow)) := by
  rw [← catTo_all]
  refine apure1 hmo Tryz.func10 (by kernel_rfl) rfl rfl (by kernel_rfl) (Nat.le_of_ble_eq_true rfl) ?_
  simp
  refine ALoop.intro (S := fun (i : Nat) => ⟨[(3, .own true 1 ((catTo P i).map crow)), (8, .pv (.seq false 1 (P.map partR))), (9, .pv (I64 P.length)), (10, .pv (I64 i))], []⟩) (fun i => i ≤ P.length) (fun i => P.length - i) 0 ?_ (Nat.zero_le _) ?_
  · exact (Weak.nilOwn (s := 3) 1 true (by simp)).trans (Weak.to (by simp [catTo_zero]) (by simp) (by simp) (by simp) (by simp))
  intro i hi
  by_cases hlt : i < P.length
  rotate_left
  · have hie : i = P.length := by omega
    subst hie
    simp
  have hw : w64 ((i : Int) + 1) = ((i + 1 : Nat) : Int) := by rw [w64_id (by omega) (by omega)]; omega
  have hft := catTo_succ hlt
  have hlen := catTo_le P (i + 1)
  rw [hft, List.length_append] at hlen
  simp [hlt, partR]
  refine ALoop.intro (S := fun (j : Nat) => ⟨[(3, .own true 1 ((catTo P i ++ P[i].take j).map crow)), (8, .pv (.seq false 1 (P.map partR))), (9, .pv (I64 P.length)), (10, .pv (I64 i)), (14, .pv (.seq false 1 (P[i].map crowF))), (15, .pv (I64 P[i].length)), (16, .pv (I64 j))], []⟩) (fun j => j ≤ P[i].length) (fun j => P[i].length - j) 0 ?_ (Nat.zero_le _) ?_
  · exact Weak.to (by simp [partR]) (by simp) (by simp) (by simp) (by simp)
  intro j hj
  by_cases hjl : j < P[i].length
  · have hw2 : w64 ((j : Int) + 1) = ((j + 1 : Nat) : Int) := by rw [w64_id (by omega) (by omega)]; omega
    have hcl := clone_ok P[i][j] (hr _ (List.getElem_mem hlt) _ (List.getElem_mem hjl))
    have hmin : min j P[i].length = j := by omega
    have hct : List.take (j + 1) (List.map crow P[i]) = List.take j (List.map crow P[i]) ++ [[.seq true 1 (irow P[i][j])]] := by
      rw [← List.take_append_getElem (by simpa using hjl), List.getElem_map]
      rfl
    have hctb : belowR 0 (List.take (j + 1) (List.map crow P[i])) := by rw [← List.map_take]; exact belowR_crow _ _
    simp [hjl, crowF]
    refine CallK.intro hcl (by simp) ?_
    simp [hmin]
    refine ⟨by omega, j + 1, by (try dsimp only); omega, by (try dsimp only); omega, Weak.to ?_ (by simp) (by simp) (by simp [hctb]) (by simp)⟩
    simp [hw2, hct, crowF]
  · have hje : j = P[i].length := by omega
    subst hje
    simp
    exact ⟨i + 1, by (try dsimp only); omega, by (try dsimp only); omega, Weak.to (by simp [hw, hft]) (by simp) (by simp) (by simp) (by simp)⟩
def encPV (o : Obj) (ops : List Op5) : PV := .tup [if failE o ops = 0 then .agg [I64 (varsN ops.length o.st), .seq true 1 ((encC o ops).map crow)] else .agg [I64 0, .lit (.slice none 0 0)], I64 (failE o ops)]
set_option maxRecDepth 16000 in
theorem encode_ok (o : Obj) (ops : List Op5) (hr : objR o) (hl : o.rows.length ≤ 140737488355328) (hl2 : ops.length ≤ 1000000) : APure Tryz.prog 11 [robj o, ovec ops] (fun r => r = .pv (encPV o ops)) := by
  refine apureX [] [.cell 4 _, .tmp 5] hmo Tryz.func11 (by kernel_rfl) rfl rfl (by kernel_rfl) (Nat.le_of_ble_eq_true rfl) ?_
  have h1 := sizeE_ok o ops hl (by omega)
  have h2 := pairs_ok ops (by omega)
  have h3 := movesC_ok o ops hl (by omega)
  simp only [robj, ovec] at h1 h2 h3
  unfold encPV
  simp [robj, ovec]
  refine CallK.intro h1 (by simp) ?_
  by_cases hf : failE o ops = 0
  rotate_left
  · simp [hf]
  obtain ⟨g1, g2, g3, hP, hE, hc⟩ := failE_zero hr hf
  obtain ⟨q1, q2, q3, q4⟩ := obj_good hr g1
  obtain ⟨b0, b1, b2, b3, b4⟩ := enc_len hr hf
  have hrows := enc_rows hc
  have k1 := placesC_ok ops.length o.st
  rw [if_pos hc] at k1
  have k2 := timesC_ok ops.length o.st (pairsTo ops ops.length) (by have := pairs_few g2 g3; omega)
  rw [if_pos hc] at k2
  have k3 := statesC_ok ops.length o.st o.ini
  rw [if_pos (by rw [hc, decide_eq_true q3, decide_eq_true q4]; rfl)] at k3
  rw [hP] at h3
  rw [if_pos hc] at h3
  have k5 := vars_ok ops.length o.st
  rw [if_pos hc] at k5
  have k6 := concat_ok [placesC ops.length o.st, timesC ops.length o.st (pairsTo ops ops.length), statesC ops.length o.st o.ini, movesC o ops] (by simp) (by simp; unfold encC at b0; simp at b0; omega) (by
    intro L hL x hx
    have : x ∈ encC o ops := by
      unfold encC
      simp only [List.mem_cons, List.mem_nil_iff, or_false] at hL
      simp only [List.mem_append]
      rcases hL with rfl | rfl | rfl | rfl
      · exact .inl hx
      · exact .inr (.inl hx)
      · exact .inr (.inr (.inl hx))
      · exact .inr (.inr (.inr hx))
    have := hrows x this
    omega)
  rw [show [placesC ops.length o.st, timesC ops.length o.st (pairsTo ops ops.length), statesC ops.length o.st o.ini, movesC o ops].flatten = encC o ops by simp [encC]] at k6
  simp only [List.map_cons, List.map_nil, partR] at k6
  rw [hE]
  simp [hf]
  refine CallQ0.intro k1 (by simp) ?_
  simp
  refine CallQ0.intro h2 (by simp) ?_
  simp
  refine CallQ0.intro k2 (by simp) ?_
  simp
  refine CallQ0.intro k3 (by simp) ?_
  simp
  refine CallQ0.intro h3 (by simp) ?_
  simp
  refine CallQ0.intro k6 (by simp) ?_
  simp
  refine CallK.intro k5 (by simp) ?_
  simp
end Go.AX

namespace Go.AX
open Go.Proofs
set_option linter.unusedSimpArgs false

theorem rowA_take (n m : Int) (N a k : Nat) (h : k < N) : (rowA n m N a).take (k + 1) = (rowA n m N a).take k ++ [varS n m 1 a k] := by
  rw [← List.take_append_getElem (by simpa using h)]
  simp [rowA]
theorem rowB_take (n m : Int) (N a k : Nat) (h : k < N) : (rowB n m N a).take (k + 1) = (rowB n m N a).take k ++ [varS n m 1 k a] := by
  rw [← List.take_append_getElem (by simpa using h)]
  simp [rowB]
theorem rowS_take (n m : Int) (N a k : Nat) (h : k < N) : (rowS n m N a).take (k + 1) = (rowS n m N a).take k ++ [varS n m 3 a k] := by
  rw [← List.take_append_getElem (by simpa using h)]
  simp [rowS]
end Go.AX
