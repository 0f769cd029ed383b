/-
  Contracts: the formula of a history.
  Contracts: the document's clauses of places, times and states.
  Contracts: the document's clauses of times and states, and its formula.
-/
import Derived.Test.YtpalffhlfegeeaaGreatDoorS9AxDfA
import Derived.Test.YtpalffhlfegeeaaGreatDoorS9AxDfD
import Derived.Test.YtpalffhlfegeeaaGreatDoorS9AxDeL
import Derived.Test.YtpalffhlfegeeaaGreatDoorS9AxMovO
namespace Go.AX
open Go.Proofs
set_option linter.unusedSimpArgs false

/-! ### How long the clauses are -/
theorem enc_rows {o : Obj} {ops : List Op5} (hc : sizeOk ops.length o.st = true) : ∀ c ∈ encC o ops, c.length ≤ 100 := by
  have hs := sizeOk_iff.1 hc
  have hN : ops.length ≤ 64 := by omega
  have hM : o.st.toNat ≤ 32 := by omega
  have hmost : ∀ (vs : List Int) (c : List Int), c ∈ mostS vs → c.length ≤ 100 := fun vs c h => by
    obtain ⟨i, j, _, _, _, rfl⟩ := mem_mostS.1 h
    simp
  intro c hm
  unfold encC at hm
  rcases List.mem_append.1 hm with hm | hm
  · unfold placesC at hm
    rw [if_pos hc] at hm
    rcases List.mem_append.1 hm with hm | hm
    · obtain ⟨a, ha, hm⟩ := List.mem_flatMap.1 hm
      rcases List.mem_cons.1 hm with rfl | hm
      · simp; omega
      · exact hmost _ _ hm
    · obtain ⟨a, ha, hm⟩ := List.mem_flatMap.1 hm
      exact hmost _ _ hm
  rcases List.mem_append.1 hm with hm | hm
  · unfold timesC timesTo at hm
    rw [if_pos hc] at hm
    obtain ⟨p, _, hm⟩ := List.mem_flatMap.1 hm
    split at hm
    · obtain ⟨a, ha, hm⟩ := List.mem_flatMap.1 hm
      obtain ⟨b, hb, rfl⟩ := List.mem_map.1 hm
      simp
    · cases hm
  rcases List.mem_append.1 hm with hm | hm
  · unfold statesC at hm
    split at hm
    · rcases List.mem_cons.1 hm with rfl | hm
      · simp
      · obtain ⟨a, ha, hm⟩ := List.mem_flatMap.1 hm
        rcases List.mem_cons.1 hm with rfl | hm
        · simp; omega
        · exact hmost _ _ hm
    · cases hm
  · unfold movesC at hm
    split at hm
    · obtain ⟨i, _, hm⟩ := List.mem_flatMap.1 hm
      rcases List.mem_append.1 hm with hm | hm
      · unfold movH at hm
        split at hm
        · cases hm
        · rcases List.mem_cons.1 hm with rfl | hm
          · simp
          · cases hm
      · obtain ⟨k, _, hm⟩ := List.mem_flatMap.1 hm
        obtain ⟨b, _, hm⟩ := List.mem_flatMap.1 hm
        have ho : ∀ (x : Option Int) f, (optL x f).length ≤ 1 := fun x f => by cases x <;> simp [optL]
        unfold movB at hm
        rcases List.mem_cons.1 hm with rfl | hm
        · have := ho (mayS o (ops.getD i default) b) (fun y => varS (sizeP o ops).1 (sizeP o ops).2 3 ((k : Int) + 1) y)
          rw [List.length_append, List.length_cons, List.length_cons, List.length_cons, List.length_nil]
          omega
        · split at hm
          · rcases List.mem_cons.1 hm with rfl | hm
            · simp
            · cases hm
          · cases hm
    · cases hm
theorem pairs_few {ops : List Op5} (h : (chk ops).2 = 0) (hn : ops.length ≤ 64) : (pairsTo ops ops.length).length ≤ 2016 := by
  have := pairs_le (chk_zero h).2 ops.length (Nat.le_refl _)
  have h2 : ops.length * (2 * ops.length - 1 - ops.length) ≤ 64 * 63 := Nat.mul_le_mul hn (by omega)
  omega
theorem enc_len {o : Obj} {ops : List Op5} (hr : objR o) (hf : failE o ops = 0) : (encC o ops).length ≤ 100000000 ∧ (placesC ops.length o.st).length ≤ 100000000 ∧ (timesC ops.length o.st (pairsTo ops ops.length)).length ≤ 100000000 ∧ (statesC ops.length o.st o.ini).length ≤ 100000000 ∧ (movesC o ops).length ≤ 100000000 := by
  obtain ⟨h1, h2, h3, hP, _, hc⟩ := failE_zero hr hf
  have hs := sizeOk_iff.1 hc
  have hM : o.st.toNat ≤ 32 := by omega
  have hNN : ops.length * ops.length ≤ 64 * 64 := Nat.mul_le_mul h3 h3
  have a1 : (placesC ops.length o.st).length ≤ 64 * (1 + 64 * 64) + 64 * (64 * 64) := by
    unfold placesC
    rw [if_pos hc, List.length_append]
    have q1 := partA_length ops.length o.st ops.length ops.length
    have q2 := partB_length ops.length o.st ops.length ops.length
    have q3 : ops.length * (1 + ops.length * ops.length) ≤ 64 * (1 + 64 * 64) := Nat.mul_le_mul h3 (by omega)
    have q4 : ops.length * (ops.length * ops.length) ≤ 64 * (64 * 64) := Nat.mul_le_mul h3 hNN
    have e : ((ops.length : Int)).toNat = ops.length := by omega
    rw [e]
    omega
  have a2 : (timesC ops.length o.st (pairsTo ops ops.length)).length ≤ 2016 * (64 * 64) := by
    unfold timesC
    rw [if_pos hc]
    have e : ((ops.length : Int)).toNat = ops.length := by omega
    rw [e]
    have q1 := timesTo_length ops.length o.st ops.length (pairsTo ops ops.length) (pairsTo ops ops.length).length (Nat.le_refl _)
    have q2 : (pairsTo ops ops.length).length * (ops.length * ops.length) ≤ 2016 * (64 * 64) := Nat.mul_le_mul (pairs_few h2 h3) hNN
    omega
  have a3 : (statesC ops.length o.st o.ini).length ≤ 1 + 65 * (1 + 32 * 32) := by
    unfold statesC
    split
    · have q1 := partS_length ops.length o.st o.st.toNat ((ops.length : Int).toNat + 1)
      have q3 : o.st.toNat * o.st.toNat ≤ 32 * 32 := Nat.mul_le_mul hM hM
      have q2 : ((ops.length : Int).toNat + 1) * (1 + o.st.toNat * o.st.toNat) ≤ 65 * (1 + 32 * 32) := Nat.mul_le_mul (by omega) (by omega)
      rw [List.length_cons]
      omega
    · simp
  have a4 : (movesC o ops).length ≤ 64 * (1 + 64 * (32 * 2)) := by
    unfold movesC
    split
    · rw [hP]
      dsimp only
      have e : ((ops.length : Int)).toNat = ops.length := by omega
      rw [e]
      have q1 := movTo_length o ops.length o.st ops.length o.st.toNat ops ops.length (Nat.le_refl _)
      have q2 : ops.length * (o.st.toNat * 2) ≤ 64 * (32 * 2) := Nat.mul_le_mul h3 (by omega)
      have q3 : ops.length * (1 + ops.length * (o.st.toNat * 2)) ≤ 64 * (1 + 64 * (32 * 2)) := Nat.mul_le_mul h3 (by omega)
      omega
    · simp
  refine ⟨?_, by omega, by omega, by omega, by omega⟩
  unfold encC
  rw [List.length_append, List.length_append, List.length_append]
  omega

/-! ### The walks -/
def partR (L : List (List Int)) : List PV := [.seq false 1 (L.map crowF)]
@[simp] theorem belowL_partR (k : Nat) (L : List (List Int)) : belowL k (partR L) := by simp [partR]
@[simp] theorem belowR_partR (k : Nat) (l : List (List (List Int))) : belowR k (l.map partR) := by
  induction l with
  | nil => simp
  | cons x l ih => simp [ih]
def catTo (P : List (List (List Int))) (i : Nat) : List (List Int) := (P.take i).flatten
theorem catTo_zero (P : List (List (List Int))) : catTo P 0 = [] := by simp [catTo]
theorem catTo_all (P : List (List (List Int))) : catTo P P.length = P.flatten := by simp [catTo]
theorem catTo_succ {P : List (List (List Int))} {i : Nat} (h : i < P.length) : catTo P (i + 1) = catTo P i ++ P[i] := by
  unfold catTo
  rw [← List.take_append_getElem h, List.flatten_append]
  simp
theorem catTo_le (P : List (List (List Int))) (k : Nat) : (catTo P k).length ≤ P.flatten.length := by
  unfold catTo
  have := congrArg List.length (congrArg List.flatten (List.take_append_drop k P))
  rw [List.flatten_append, List.length_append] at this
  omega
set_option maxRecDepth 16000 in
theorem concat_ok (P : List (List (List Int))) (hl : P.length ≤ 1000000) (ht : P.flatten.length ≤ 100000000) (hr : ∀ L ∈ P, ∀ x ∈ L, x.length ≤ 1000000) : APure Tryz.prog 18 [.seq false 1 (P.map partR)] (fun r => r = .own true 1 (P.flatten.map crow)) := by
  rw [← catTo_all]
  refine apure1 hmo Tryz.func18 (by kernel_rfl) rfl rfl (by kernel_rfl) (Nat.le_of_ble_eq_true rfl) ?_
  simp
  refine ALoop.intro (S := fun (i : Nat) => ⟨[(3, .own true 1 ((catTo P i).map crow)), (8, .pv (.seq false 1 (P.map partR))), (9, .pv (I64 P.length)), (10, .pv (I64 i))], []⟩) (fun i => i ≤ P.length) (fun i => P.length - i) 0 ?_ (Nat.zero_le _) ?_
  · exact (Weak.nilOwn (s := 3) 1 true (by simp)).trans (Weak.to (by simp [catTo_zero]) (by simp) (by simp) (by simp) (by simp))
  intro i hi
  by_cases hlt : i < P.length
  rotate_left
  · have hie : i = P.length := by omega
    subst hie
    simp
  have hw : w64 ((i : Int) + 1) = ((i + 1 : Nat) : Int) := by rw [w64_id (by omega) (by omega)]; omega
  have hft := catTo_succ hlt
  have hlen := catTo_le P (i + 1)
  rw [hft, List.length_append] at hlen
  simp [hlt, partR]
  refine ALoop.intro (S := fun (j : Nat) => ⟨[(3, .own true 1 ((catTo P i ++ P[i].take j).map crow)), (8, .pv (.seq false 1 (P.map partR))), (9, .pv (I64 P.length)), (10, .pv (I64 i)), (14, .pv (.seq false 1 (P[i].map crowF))), (15, .pv (I64 P[i].length)), (16, .pv (I64 j))], []⟩) (fun j => j ≤ P[i].length) (fun j => P[i].length - j) 0 ?_ (Nat.zero_le _) ?_
  · exact Weak.to (by simp [partR]) (by simp) (by simp) (by simp) (by simp)
  intro j hj
  by_cases hjl : j < P[i].length
  · have hw2 : w64 ((j : Int) + 1) = ((j + 1 : Nat) : Int) := by rw [w64_id (by omega) (by omega)]; omega
    have hcl := clone_ok P[i][j] (hr _ (List.getElem_mem hlt) _ (List.getElem_mem hjl))
    have hmin : min j P[i].length = j := by omega
    have hct : List.take (j + 1) (List.map crow P[i]) = List.take j (List.map crow P[i]) ++ [[.seq true 1 (irow P[i][j])]] := by
      rw [← List.take_append_getElem (by simpa using hjl), List.getElem_map]
      rfl
    have hctb : belowR 0 (List.take (j + 1) (List.map crow P[i])) := by rw [← List.map_take]; exact belowR_crow _ _
    simp [hjl, crowF]
    refine CallK.intro hcl (by simp) ?_
    simp [hmin]
    refine ⟨by omega, j + 1, by (try dsimp only); omega, by (try dsimp only); omega, Weak.to ?_ (by simp) (by simp) (by simp [hctb]) (by simp)⟩
    simp [hw2, hct, crowF]
  · have hje : j = P[i].length := by omega
    subst hje
    simp
    exact ⟨i + 1, by (try dsimp only); omega, by (try dsimp only); omega, Weak.to (by simp [hw, hft]) (by simp) (by simp) (by simp) (by simp)⟩
def encPV (o : Obj) (ops : List Op5) : PV := .tup [if failE o ops = 0 then .agg [I64 (varsN ops.length o.st), .seq true 1 ((encC o ops).map crow)] else .agg [I64 0, .lit (.slice none 0 0)], I64 (failE o ops)]
set_option maxRecDepth 16000 in
theorem encode_ok (o : Obj) (ops : List Op5) (hr : objR o) (hl : o.rows.length ≤ 140737488355328) (hl2 : ops.length ≤ 1000000) : APure Tryz.prog 9 [robj o, ovec ops] (fun r => r = .pv (encPV o ops)) := by
  refine apureX [] [.cell 4 _, .tmp 5] hmo Tryz.func9 (by kernel_rfl) rfl rfl (by kernel_rfl) (Nat.le_of_ble_eq_true rfl) ?_
  have h1 := sizeE_ok o ops hl (by omega)
  have h2 := pairs_ok ops (by omega)
  have h3 := movesC_ok o ops hl (by omega)
  simp only [robj, ovec] at h1 h2 h3
  unfold encPV
  simp [robj, ovec]
  refine CallK.intro h1 (by simp) ?_
  by_cases hf : failE o ops = 0
  rotate_left
  · simp [hf]
  obtain ⟨g1, g2, g3, hP, hE, hc⟩ := failE_zero hr hf
  obtain ⟨q1, q2, q3, q4⟩ := obj_good hr g1
  obtain ⟨b0, b1, b2, b3, b4⟩ := enc_len hr hf
  have hrows := enc_rows hc
  have k1 := placesC_ok ops.length o.st
  rw [if_pos hc] at k1
  have k2 := timesC_ok ops.length o.st (pairsTo ops ops.length) (by have := pairs_few g2 g3; omega)
  rw [if_pos hc] at k2
  have k3 := statesC_ok ops.length o.st o.ini
  rw [if_pos (by rw [hc, decide_eq_true q3, decide_eq_true q4]; rfl)] at k3
  rw [hP] at h3
  rw [if_pos hc] at h3
  have k5 := vars_ok ops.length o.st
  rw [if_pos hc] at k5
  have k6 := concat_ok [placesC ops.length o.st, timesC ops.length o.st (pairsTo ops ops.length), statesC ops.length o.st o.ini, movesC o ops] (by simp) (by simp; unfold encC at b0; simp at b0; omega) (by
    intro L hL x hx
    have : x ∈ encC o ops := by
      unfold encC
      simp only [List.mem_cons, List.mem_nil_iff, or_false] at hL
      simp only [List.mem_append]
      rcases hL with rfl | rfl | rfl | rfl
      · exact .inl hx
      · exact .inr (.inl hx)
      · exact .inr (.inr (.inl hx))
      · exact .inr (.inr (.inr hx))
    have := hrows x this
    omega)
  rw [show [placesC ops.length o.st, timesC ops.length o.st (pairsTo ops ops.length), statesC ops.length o.st o.ini, movesC o ops].flatten = encC o ops by simp [encC]] at k6
  simp only [List.map_cons, List.map_nil, partR] at k6
  rw [hE]
  simp [hf]
  refine CallQ0.intro k1 (by simp) ?_
  simp
  refine CallQ0.intro h2 (by simp) ?_
  simp
  refine CallQ0.intro k2 (by simp) ?_
  simp
  refine CallQ0.intro k3 (by simp) ?_
  simp
  refine CallQ0.intro h3 (by simp) ?_
  simp
  refine CallQ0.intro k6 (by simp) ?_
  simp
  refine CallK.intro k5 (by simp) ?_
  simp
end Go.AX

namespace Go.AX
open Go.Proofs
set_option linter.unusedSimpArgs false

set_option maxRecDepth 16000 in
theorem refMost_ok (vs : List Int) (hl : vs.length ≤ 100000) : APure Tryz.prog 87 [.seq false 1 (irow vs)] (fun r => r = .own true 1 ((mostS vs).map crow)) := by
  refine apure1 hmo Tryz.func87 (by kernel_rfl) rfl rfl (by kernel_rfl) (Nat.le_of_ble_eq_true rfl) ?_
  simp
  refine ALoop.intro (S := fun (i : Nat) => ⟨[(0, .pv (.seq false 1 (irow vs))), (3, .own true 1 ((mostTo vs i).map crow)), (4, .pv (I64 i))], []⟩) (fun i => i ≤ vs.length) (fun i => vs.length - i) 0 ?_ (Nat.zero_le _) ?_
  · exact (Weak.nilOwn (s := 3) 1 true (by simp)).trans (Weak.to (by simp [mostTo]) (by simp) (by simp) (by simp) (by simp))
  intro i hi
  by_cases h : i < vs.length
  rotate_left
  · have : i = vs.length := by omega
    subst this
    simp [mostS]
  have hw : w64 ((i : Int) + 1) = ((i + 1 : Nat) : Int) := by rw [w64_id (by omega) (by omega)]; omega
  have hn := mostTo_length vs i
  have hn2 : i * vs.length ≤ 100000 * 100000 := Nat.mul_le_mul (by omega) hl
  simp [h, hw]
  refine ALoop.intro (S := fun (j : Nat) => ⟨[(0, .pv (.seq false 1 (irow vs))), (3, .own true 1 ((mostTo vs i ++ mostRow vs[i] ((vs.drop (i + 1)).take j)).map crow)), (4, .pv (I64 i)), (5, .pv (I64 (i + 1 + j : Nat)))], []⟩) (fun j => i + 1 + j ≤ vs.length) (fun j => vs.length - (i + 1) - j) 0 ?_ (by omega) ?_
  · exact Weak.to (by simp [mostRow]) (by simp) (by simp) (by simp) (by simp)
  intro j hj
  have hc1 : ((i + 1 + j : Nat) : Int) = (i : Int) + 1 + (j : Int) := by omega
  by_cases h2 : i + 1 + j < vs.length
  · have hw2 : w64 ((i : Int) + 1 + (j : Int) + 1) = ((i + 1 + (j + 1) : Nat) : Int) := by rw [w64_id (by omega) (by omega)]; omega
    have hg : vs[i + 1 + j]? = some vs[i + 1 + j] := by simp [h2]
    have htk : (vs.drop (i + 1)).take (j + 1) = (vs.drop (i + 1)).take j ++ [vs[i + 1 + j]] := by
      rw [List.take_add_one]; simp [hg]
    have h2i : (i : Int) + 1 + (j : Int) < (vs.length : Int) := by omega
    have hl2 : (mostRow vs[i] ((vs.drop (i + 1)).take j)).length ≤ 100000 := by simp [mostRow]; omega
    have htn : ((i : Int) + 1 + (j : Int)).toNat = i + 1 + j := by omega
    have h0 : 0 ≤ (i : Int) + 1 + (j : Int) := by omega
    simp [h, h2, h2i, hg, htn, h0]
    refine ⟨by omega, j + 1, by (try dsimp only); omega, by (try dsimp only); omega, Weak.to ?_ (by simp) (by simp) (by simp) (by simp)⟩
    simp [hw2, htk, mostRow, crow, irow]
  · have hje : j = vs.length - (i + 1) := by omega
    have hle : ¬ (i : Int) + 1 + (j : Int) < (vs.length : Int) := by omega
    have htk : (vs.drop (i + 1)).take j = vs.drop (i + 1) := List.take_of_length_le (by simp; omega)
    simp [hle]
    exact ⟨i + 1, by (try dsimp only); omega, by (try dsimp only); omega, Weak.to (by simp [hw, htk, mostTo_succ vs h]) (by simp) (by simp) (by simp) (by simp)⟩
theorem rowA_take (n m : Int) (N a k : Nat) (h : k < N) : (rowA n m N a).take (k + 1) = (rowA n m N a).take k ++ [varS n m 1 a k] := by
  rw [← List.take_append_getElem (by simpa using h)]
  simp [rowA]
theorem rowB_take (n m : Int) (N a k : Nat) (h : k < N) : (rowB n m N a).take (k + 1) = (rowB n m N a).take k ++ [varS n m 1 k a] := by
  rw [← List.take_append_getElem (by simpa using h)]
  simp [rowB]
theorem rowS_take (n m : Int) (N a k : Nat) (h : k < N) : (rowS n m N a).take (k + 1) = (rowS n m N a).take k ++ [varS n m 3 a k] := by
  rw [← List.take_append_getElem (by simpa using h)]
  simp [rowS]
set_option maxRecDepth 16000 in
theorem refPlC_ok (N : Nat) (m : Int) (c : sizeOk N m = true) : APure Tryz.prog 32 [I64 N, I64 m] (fun r => r = .own true 1 ((placesC N m).map crow)) := by
  refine apure1 hmo Tryz.func32 (by kernel_rfl) rfl rfl (by kernel_rfl) (Nat.le_of_ble_eq_true rfl) ?_
  have hs := sizeOk_iff.1 c
  have hNN : N ≤ 64 := by omega
  have hq : N * N ≤ 64 * 64 := Nat.mul_le_mul hNN hNN
  have hpC : placesC N m = partA N m N N ++ partB N m N N := by unfold placesC; rw [if_pos c]; simp
  rw [hpC]
  simp
  refine CallK.intro (refCheck_ok _ _) (by simp) ?_
  simp [c]
  refine ALoop.intro (S := fun (i : Nat) => ⟨[(0, .pv (I64 N)), (1, .pv (I64 m)), (5, .own true 1 ((partA N m N i).map crow)), (6, .pv (I64 i))], []⟩) (fun i => i ≤ N) (fun i => N - i) 0 ?_ (Nat.zero_le _) ?_
  · exact (Weak.nilOwn (s := 5) 1 true (by simp)).trans (Weak.to (by simp [partA]) (by simp) (by simp) (by simp) (by simp))
  intro i hi
  by_cases h : i < N
  · have hw : w64 ((i : Int) + 1) = ((i + 1 : Nat) : Int) := by rw [w64_id (by omega) (by omega)]; omega
    have hla := partA_length N m N i
    have hla2 : i * (1 + N * N) ≤ 64 * (1 + 64 * 64) := Nat.mul_le_mul (by omega) (by omega)
    have hma := mostS_length (rowA N m N i)
    simp only [rowA_length] at hma
    have hpa := partA_succ N m N i
    have hmost := refMost_ok (rowA N m N i) (by simp; omega)
    simp [h]
    refine ALoop.intro (S := fun (j : Nat) => ⟨[(0, .pv (I64 N)), (1, .pv (I64 m)), (5, .own true 1 ((partA N m N i).map crow)), (6, .pv (I64 i)), (7, .own true 1 (irow ((rowA N m N i).take j))), (8, .pv (I64 j))], []⟩) (fun j => j ≤ N) (fun j => N - j) 0 ?_ (Nat.zero_le _) ?_
    · exact (Weak.nilOwn (s := 7) 1 true (by simp)).trans (Weak.to (by simp [irow]) (by simp) (by simp) (by simp) (by simp))
    intro j hj
    by_cases h2 : j < N
    · have hw2 : w64 ((j : Int) + 1) = ((j + 1 : Nat) : Int) := by rw [w64_id (by omega) (by omega)]; omega
      have hat := refAt_ok N m i j
      rw [var1 c ⟨by omega, by omega⟩ ⟨by omega, by omega⟩] at hat
      have htk := rowA_take N m N i j h2
      have hmin : min j N = j := by omega
      simp [h2]
      refine CallK.intro hat (by simp) ?_
      simp [hmin]
      refine ⟨by omega, j + 1, by (try dsimp only); omega, by (try dsimp only); omega, Weak.to ?_ (by simp) (by simp) (by simp) (by simp)⟩
      simp [hw2, htk]
      simp [irow]
    · have hje : j = N := by omega
      subst hje
      have hfull : (rowA j m j i).take j = rowA j m j i := List.take_of_length_le (by simp)
      simp [hfull]
      refine ⟨by omega, ?_⟩
      refine CallK.intro hmost (by simp) ?_
      simp
      refine ⟨by omega, i + 1, by (try dsimp only); omega, by (try dsimp only); omega, Weak.to ?_ (by simp) (by simp) (by simp) (by simp)⟩
      simp [hw, hpa, crow]
  have hie : i = N := by omega
  subst hie
  have hla2 : i * (1 + i * i) ≤ 64 * (1 + 64 * 64) := Nat.mul_le_mul (by omega) (by omega)
  have hla := partA_length i m i i
  simp
  refine ALoop.intro (S := fun (k : Nat) => ⟨[(0, .pv (I64 i)), (1, .pv (I64 m)), (5, .own true 1 ((partA i m i i ++ partB i m i k).map crow)), (9, .pv (I64 k))], []⟩) (fun k => k ≤ i) (fun k => i - k) 0 ?_ (Nat.zero_le _) ?_
  · exact Weak.to (by simp [partB]) (by simp) (by simp) (by simp) (by simp)
  intro k hk
  by_cases h : k < i
  rotate_left
  · have hke : k = i := by omega
    subst hke
    simp
  have hw : w64 ((k : Int) + 1) = ((k + 1 : Nat) : Int) := by rw [w64_id (by omega) (by omega)]; omega
  have hlb := partB_length i m i k
  have hlb2 : k * (i * i) ≤ 64 * (64 * 64) := Nat.mul_le_mul (by omega) (by omega)
  have hmb := mostS_length (rowB i m i k)
  simp only [rowB_length] at hmb
  have hmost := refMost_ok (rowB i m i k) (by simp; omega)
  have hpb := partB_succ i m i k
  simp [h]
  refine ALoop.intro (S := fun (j : Nat) => ⟨[(0, .pv (I64 i)), (1, .pv (I64 m)), (5, .own true 1 ((partA i m i i ++ partB i m i k).map crow)), (9, .pv (I64 k)), (10, .own true 1 (irow ((rowB i m i k).take j))), (11, .pv (I64 j))], []⟩) (fun j => j ≤ i) (fun j => i - j) 0 ?_ (Nat.zero_le _) ?_
  · exact (Weak.nilOwn (s := 10) 1 true (by simp)).trans (Weak.to (by simp [irow]) (by simp) (by simp) (by simp) (by simp))
  intro j hj
  by_cases h2 : j < i
  · have hw2 : w64 ((j : Int) + 1) = ((j + 1 : Nat) : Int) := by rw [w64_id (by omega) (by omega)]; omega
    have hat := refAt_ok i m j k
    rw [var1 c ⟨by omega, by omega⟩ ⟨by omega, by omega⟩] at hat
    have htk := rowB_take i m i k j h2
    have hmin : min j i = j := by omega
    simp [h2]
    refine CallK.intro hat (by simp) ?_
    simp [hmin]
    refine ⟨by omega, j + 1, by (try dsimp only); omega, by (try dsimp only); omega, Weak.to ?_ (by simp) (by simp) (by simp) (by simp)⟩
    simp [hw2, htk]
    simp [irow]
  · have hje : j = i := by omega
    subst hje
    have hfull : (rowB j m j k).take j = rowB j m j k := List.take_of_length_le (by simp)
    simp [hfull]
    refine CallK.intro hmost (by simp) ?_
    simp
    refine ⟨by omega, k + 1, by (try dsimp only); omega, by (try dsimp only); omega, Weak.to ?_ (by simp) (by simp) (by simp) (by simp)⟩
    simp [hw, hpb]
end Go.AX

namespace Go.AX
open Go.Proofs
set_option linter.unusedSimpArgs false

set_option maxRecDepth 16000 in
theorem refStC_ok (N M : Nat) (ini : Int) (c : sizeOk N M = true) (hi : 0 ≤ ini ∧ ini < M) : APure Tryz.prog 35 [I64 N, I64 M, I64 ini] (fun r => r = .own true 1 ((statesC N M ini).map crow)) := by
  refine apure1 hmo Tryz.func35 (by kernel_rfl) rfl rfl (by kernel_rfl) (Nat.le_of_ble_eq_true rfl) ?_
  have hs := sizeOk_iff.1 c
  have hNN : N ≤ 64 := by omega
  have hMM : M ≤ 32 := by omega
  have hq : M * M ≤ 32 * 32 := Nat.mul_le_mul hMM hMM
  have h1 : ¬ ini < 0 := by omega
  have h2 : ¬ (M : Int) ≤ ini := by omega
  have hpC : statesC N M ini = [varS N M 3 0 ini] :: partS N M M (N + 1) := by
    unfold statesC
    rw [c, decide_eq_true hi.1, decide_eq_true hi.2]
    rfl
  have hst0 := refState_ok N M 0 ini
  rw [var3 c ⟨by omega, by omega⟩ hi] at hst0
  rw [hpC]
  simp
  refine CallK.intro (refCheck_ok _ _) (by simp) ?_
  simp [c, h1, h2]
  refine CallK.intro hst0 (by simp) ?_
  simp
  refine ALoop.intro (S := fun (i : Nat) => ⟨[(0, .pv (I64 N)), (1, .pv (I64 M)), (7, .own true 1 (([varS N M 3 0 ini] :: partS N M M i).map crow)), (8, .pv (I64 i))], []⟩) (fun i => i ≤ N + 1) (fun i => N + 1 - i) 0 ?_ (Nat.zero_le _) ?_
  · exact Weak.to (by simp [partS, crow, irow]) (by simp) (by simp) (by simp) (by simp)
  intro i hi'
  by_cases h : i ≤ N
  rotate_left
  · have hie : i = N + 1 := by omega
    subst hie
    have h0 : ¬ (N : Int) + 1 ≤ (N : Int) := by omega
    simp [h0]
  have hw : w64 ((i : Int) + 1) = ((i + 1 : Nat) : Int) := by rw [w64_id (by omega) (by omega)]; omega
  have hla := partS_length N M M i
  have hla2 : i * (1 + M * M) ≤ 65 * (1 + 32 * 32) := Nat.mul_le_mul (by omega) (by omega)
  have hma := mostS_length (rowS N M M i)
  simp only [rowS_length] at hma
  have hps := partS_succ N M M i
  have hmost := refMost_ok (rowS N M M i) (by simp; omega)
  simp [h]
  refine ALoop.intro (S := fun (j : Nat) => ⟨[(0, .pv (I64 N)), (1, .pv (I64 M)), (7, .own true 1 (([varS N M 3 0 ini] :: partS N M M i).map crow)), (8, .pv (I64 i)), (9, .own true 1 (irow ((rowS N M M i).take j))), (10, .pv (I64 j))], []⟩) (fun j => j ≤ M) (fun j => M - j) 0 ?_ (Nat.zero_le _) ?_
  · exact (Weak.nilOwn (s := 9) 1 true (by simp)).trans (Weak.to (by simp [irow]) (by simp) (by simp) (by simp) (by simp))
  intro j hj
  by_cases h2 : j < M
  · have hw2 : w64 ((j : Int) + 1) = ((j + 1 : Nat) : Int) := by rw [w64_id (by omega) (by omega)]; omega
    have hat := refState_ok N M i j
    rw [var3 c ⟨by omega, by omega⟩ ⟨by omega, by omega⟩] at hat
    have htk := rowS_take N M M i j h2
    have hmin : min j M = j := by omega
    simp [h2]
    refine CallK.intro hat (by simp) ?_
    simp [hmin]
    refine ⟨by omega, j + 1, by (try dsimp only); omega, by (try dsimp only); omega, Weak.to ?_ (by simp) (by simp) (by simp) (by simp)⟩
    simp [hw2, htk]
    simp [irow]
  · have hje : j = M := by omega
    subst hje
    have hfull : (rowS N j j i).take j = rowS N j j i := List.take_of_length_le (by simp)
    simp [hfull]
    refine ⟨by omega, ?_⟩
    refine CallK.intro hmost (by simp) ?_
    simp
    refine ⟨by omega, i + 1, by (try dsimp only); omega, by (try dsimp only); omega, Weak.to ?_ (by simp) (by simp) (by simp) (by simp)⟩
    simp [hw, hps, crow]
theorem proper_in {p : Int × Int} {N : Nat} (h : properS p N = true) : (0 ≤ p.1 ∧ p.1 < N) ∧ (0 ≤ p.2 ∧ p.2 < N) ∧ p.1 ≠ p.2 := by
  unfold properS at h
  simp only [Bool.and_eq_true, decide_eq_true_eq, Bool.not_eq_true', decide_eq_false_iff_not] at h
  obtain ⟨⟨g1, g2⟩, g3⟩ := h
  by_cases c : p.2 < p.1
  · rw [if_pos c] at g1
    rw [if_neg (by omega)] at g2
    omega
  · rw [if_neg c] at g1
    by_cases c2 : p.1 < p.2
    · rw [if_pos c2] at g2; omega
    · rw [if_neg c2] at g2; omega
set_option maxRecDepth 16000 in
theorem refTiC_ok (N : Nat) (m : Int) (ps : List (Int × Int)) (c : sizeOk N m = true) (hl : ps.length ≤ 100000) (hp : ∀ p ∈ ps, properS p N = true) : APure Tryz.prog 33 [I64 N, I64 m, .seq false 2 (ps.map prow)] (fun r => r = .own true 1 ((timesC N m ps).map crow)) := by
  refine apure1 hmo Tryz.func33 (by kernel_rfl) rfl rfl (by kernel_rfl) (Nat.le_of_ble_eq_true rfl) ?_
  have hs := sizeOk_iff.1 c
  have hNN : N ≤ 64 := by omega
  have hq : N * N ≤ 64 * 64 := Nat.mul_le_mul hNN hNN
  have hpC : timesC N m ps = timesTo N m N ps ps.length := by unfold timesC; rw [if_pos c]; simp
  have hck := refCheck_ok N m
  rw [if_pos c] at hck
  rw [hpC]
  simp
  refine ALoop.intro (S := fun (i : Nat) => ⟨[(0, .pv (I64 N)), (1, .pv (I64 m)), (2, .pv (.seq false 2 (ps.map prow))), (7, .own true 1 ((timesTo N m N ps i).map crow)), (8, .pv (I64 i))], []⟩) (fun i => i ≤ ps.length) (fun i => ps.length - i) 0 ?_ (Nat.zero_le _) ?_
  · exact (Weak.nilOwn (s := 7) 1 true (by simp)).trans (Weak.to (by simp [timesTo]) (by simp) (by simp) (by simp) (by simp))
  intro i hi
  by_cases h : i < ps.length
  rotate_left
  · have hie : i = ps.length := by omega
    subst hie
    simp
    refine CallG.intro (fun h : False => h.elim) (r := .pv (I64 0)) (by simp) ?_
    simp
  have hw : w64 ((i : Int) + 1) = ((i + 1 : Nat) : Int) := by rw [w64_id (by omega) (by omega)]; omega
  have hla := timesTo_length N m N ps i (by omega)
  have hla2 : i * (N * N) ≤ 100000 * (64 * 64) := Nat.mul_le_mul (by omega) hq
  obtain ⟨⟨q1, q2⟩, ⟨q3, q4⟩, q5⟩ := proper_in (hp _ (List.getElem_mem h))
  have hts := timesTo_succ N m N ps h
  rw [if_pos (hp _ (List.getElem_mem h))] at hts
  obtain ⟨⟨x, y⟩, hxy⟩ : ∃ z, ps[i] = z := ⟨_, rfl⟩
  rw [hxy] at q1 q2 q3 q4 q5 hts
  dsimp only at q1 q2 q3 q4 q5
  have n1 : ¬ x < 0 := by omega
  have n2 : ¬ y < 0 := by omega
  have n3 : ¬ (N : Int) ≤ x := by omega
  have n4 : ¬ (N : Int) ≤ y := by omega
  simp [h]
  refine CallG.intro (fun _ => hck) (by simp) ?_
  simp [h, hxy, prow, n1, n2, n3, n4, q5]
  refine ALoop.intro (S := fun (a : Nat) => ⟨[(0, .pv (I64 N)), (1, .pv (I64 m)), (2, .pv (.seq false 2 (ps.map prow))), (7, .own true 1 ((timesTo N m N ps i ++ pairC N m (x, y) a).map crow)), (8, .pv (I64 i)), (9, .pv (I64 x)), (10, .pv (I64 y)), (11, .pv (I64 a))], []⟩) (fun a => a ≤ N) (fun a => N - a) 0 ?_ (Nat.zero_le _) ?_
  · exact Weak.to (by simp [pairC, prow]) (by simp) (by simp) (by simp) (by simp)
  intro a ha
  by_cases h2 : a < N
  rotate_left
  · have hie : a = N := by omega
    subst hie
    simp
    exact ⟨i + 1, by (try dsimp only); omega, by (try dsimp only); omega, Weak.to (by simp [hw, hts]) (by simp) (by simp) (by simp) (by simp)⟩
  have hw2 : w64 ((a : Int) + 1) = ((a + 1 : Nat) : Int) := by rw [w64_id (by omega) (by omega)]; omega
  have hpl := pairC_length N m (x, y) a
  have hpl2 : a * a ≤ 64 * 64 := Nat.mul_le_mul (by omega) (by omega)
  have hps := pairC_succ N m (x, y) a
  simp [h2]
  refine ALoop.intro (S := fun (b : Nat) => ⟨[(0, .pv (I64 N)), (1, .pv (I64 m)), (2, .pv (.seq false 2 (ps.map prow))), (7, .own true 1 ((timesTo N m N ps i ++ (pairC N m (x, y) a ++ pairR N m (x, y) a b)).map crow)), (8, .pv (I64 i)), (9, .pv (I64 x)), (10, .pv (I64 y)), (11, .pv (I64 a)), (12, .pv (I64 b))], []⟩) (fun b => b ≤ a) (fun b => a - b) 0 ?_ (Nat.zero_le _) ?_
  · exact Weak.to (by simp [pairR]) (by simp) (by simp) (by simp) (by simp)
  intro b hb
  by_cases h3 : b < a
  rotate_left
  · have hie : b = a := by omega
    subst hie
    simp
    exact ⟨b + 1, by (try dsimp only); omega, by (try dsimp only); omega, Weak.to (by simp [hw2, hps]) (by simp) (by simp) (by simp) (by simp)⟩
  have hw3 : w64 ((b : Int) + 1) = ((b + 1 : Nat) : Int) := by rw [w64_id (by omega) (by omega)]; omega
  have a1 := refAt_ok N m x a
  rw [var1 c ⟨q1, q2⟩ ⟨by omega, by omega⟩] at a1
  have a2 := refAt_ok N m y b
  rw [var1 c ⟨q3, q4⟩ ⟨by omega, by omega⟩] at a2
  have hpr := pairR_succ N m (x, y) a b
  have hprl : (pairR N m (x, y) a b).length = b := by simp [pairR]
  simp [h3]
  refine CallK.intro a1 (by simp) ?_
  simp
  refine CallK.intro a2 (by simp) ?_
  simp
  refine ⟨by omega, b + 1, by (try dsimp only); omega, by (try dsimp only); omega, Weak.to ?_ (by simp) (by simp) (by simp) (by simp)⟩
  simp [hw3, hpr, crow, irow]
end Go.AX
