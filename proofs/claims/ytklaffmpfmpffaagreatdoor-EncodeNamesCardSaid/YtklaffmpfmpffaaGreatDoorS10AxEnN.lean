/-
  Contracts: the names of variables.
  Contracts: encode.Names.
  Contracts: the document's numerals and names.
-/
import Derived.Test.YtklaffmpfmpffaaGreatDoorS10AxEnA
import Derived.Test.YtklaffmpfmpffaaGreatDoorS10AxEnJ
namespace Go.AX
open Go.Proofs Go.Shelf
set_option linter.unusedSimpArgs false

def nmOf (N M j : Nat) : Nat × Nat × Nat := if N * N + N ≤ j then (3, (j - (N * N + N)) / M, (j - (N * N + N)) % M) else if N * N ≤ j then (2, j - N * N, 0) else (1, j / N, j % N)
theorem nmOf_in {N M j : Nat} (hc : sizeOk N M = true) (hj : j < varC N M) : ((nmOf N M j).1 = 1 ∨ (nmOf N M j).1 = 2 ∨ (nmOf N M j).1 = 3) ∧ (nmOf N M j).2.1 < 100 ∧ (nmOf N M j).2.2 < 100 := by
  have hs := sizeOk_iff.1 hc
  have hV : varC N M = N * N + N + (N + 1) * M := rfl
  unfold nmOf
  split
  · refine ⟨.inr (.inr rfl), ?_, ?_⟩
    · have : (j - (N * N + N)) / M < N + 1 := Nat.div_lt_of_lt_mul (by have e : M * (N + 1) = (N + 1) * M := Nat.mul_comm _ _; omega)
      dsimp only; omega
    · have : (j - (N * N + N)) % M < M := Nat.mod_lt _ (by omega)
      dsimp only; omega
  · split
    · refine ⟨.inr (.inl rfl), by dsimp only; omega, by dsimp only; omega⟩
    · rename_i h1 h2
      have hN : 0 < N := by
        apply Nat.pos_of_ne_zero
        rintro rfl
        simp at h2
      refine ⟨.inl rfl, ?_, ?_⟩
      · have : j / N < N := Nat.div_lt_of_lt_mul (by omega)
        dsimp only; omega
      · have : j % N < N := Nat.mod_lt _ hN
        dsimp only; omega
def ofSch : Sch := .fork [(0, .fork [(1, .fork [(2, .fork [(3, .fork [(4, .fork [(5, .done)])]), (4, .fork [(3, .fork [(5, .done)])])]), (4, .fork [(2, .fork [(3, .fork [(5, .done)])])])]), (2, .fork [(1, .fork [(3, .fork [(4, .fork [(5, .done)])]), (4, .fork [(3, .fork [(5, .done)])])]), (4, .fork [(1, .fork [(3, .fork [(5, .done)])])])]), (4, .fork [(1, .fork [(2, .fork [(3, .fork [(5, .done)])])]), (2, .fork [(1, .fork [(3, .fork [(5, .done)])])])])]), (1, .fork [(0, .fork [(2, .fork [(3, .fork [(4, .fork [(5, .done)])]), (4, .fork [(3, .fork [(5, .done)])])]), (4, .fork [(2, .fork [(3, .fork [(5, .done)])])])]), (2, .fork [(0, .fork [(3, .fork [(4, .fork [(5, .done)])]), (4, .fork [(3, .fork [(5, .done)])])]), (3, .fork [(0, .fork [(4, .fork [(5, .done)])])])])]), (2, .fork [(0, .fork [(1, .fork [(3, .fork [(4, .fork [(5, .done)])]), (4, .fork [(3, .fork [(5, .done)])])]), (4, .fork [(1, .fork [(3, .fork [(5, .done)])])])]), (1, .fork [(0, .fork [(3, .fork [(4, .fork [(5, .done)])]), (4, .fork [(3, .fork [(5, .done)])])]), (3, .fork [(0, .fork [(4, .fork [(5, .done)])])])])])]
def nmT (x : Nat × Nat × Nat) : PV := .agg [I64 x.1, I64 x.2.1, I64 x.2.2]
set_option maxRecDepth 16000 in
theorem numOf_ok (N M j : Nat) (hc : sizeOk N M = true) (hj : j < varC N M) : APure Tryz.prog 20 [.agg [I64 N, I64 M], I64 (j + 1 : Nat)] (fun r => r = .pv (.tup [nmT (nmOf N M j), BL true])) := by
  refine apureX [10] [.cell 4 _, .tmp 5] hmo Tryz.func20 (by kernel_rfl) rfl rfl (by kernel_rfl) (Nat.le_of_ble_eq_true rfl) ?_
  have hs := sizeOk_iff.1 hc
  obtain ⟨_, hV, n1, n2, n3, n4⟩ := varC_eq hc
  have hVd : varC N M = N * N + N + (N + 1) * M := rfl
  have hv := vars_ok N M
  rw [if_pos hc, show varsN N M = (varC N M : Int) by omega] at hv
  have h1 : ¬ ((j + 1 : Nat) : Int) < 1 := by omega
  have h2 : ¬ (varC N M : Int) < ((j + 1 : Nat) : Int) := by omega
  have w1 : w64 (((j + 1 : Nat) : Int) - 1) = (j : Int) := by rw [w64_id (by omega) (by omega)]; omega
  have k3 := blockK_ok N M 3 ⟨hs.1, hs.2.1⟩
  have k2 := blockK_ok N M 2 ⟨hs.1, hs.2.1⟩
  have k1 := blockK_ok N M 1 ⟨hs.1, hs.2.1⟩
  have hcast : ((N * N : Nat) : Int) = (N : Int) * (N : Int) := by simp
  generalize hvv : ((j + 1 : Nat) : Int) = v at *
  simp [h1]
  refine CallG.intro (fun _ => hv) (by simp) ?_
  simp [h1, h2]
  refine ALoop.intro (S := fun (k : Nat) => ⟨[(1, .pv (I64 v)), (2, .pv (.ptr 0 0)), (4, .pv (.ptr 1 0)), (22, .pv (.agg [I64 3, I64 2, I64 1])), (23, .pv (I64 k))], [[.pv (I64 N), .pv (I64 M)], [.pv (I64 0), .pv (I64 0), .pv (I64 0)]]⟩) (fun k => k ≤ 2 ∧ (1 ≤ k → j < N * N + N) ∧ (2 ≤ k → j < N * N)) (fun k => 3 - k) 0 ?_ ⟨by omega, by omega, by omega⟩ ?_
  · exact Weak.to (by simp) (by simp) (by simp) (by simp) (by simp)
  rintro k ⟨hk, g1, g2⟩
  have hk3 : k = 0 ∨ k = 1 ∨ k = 2 := by omega
  have w01 : w64 1 = 1 := w64_id (by omega) (by omega)
  have w02 : w64 2 = 2 := w64_id (by omega) (by omega)
  obtain ⟨F3, hF3⟩ : ∃ F, F = N * N + N := ⟨_, rfl⟩
  have b3 : blockFrom (N : Int) 3 = (F3 : Int) := by rw [show blockFrom (N : Int) 3 = (N : Int) * (N : Int) + (N : Int) from rfl]; omega
  have b3w : blockWide (N : Int) (M : Int) 3 = (M : Int) := rfl
  rw [b3, b3w] at k3
  obtain ⟨F2, hF2⟩ : ∃ F, F = N * N := ⟨_, rfl⟩
  have b2 : blockFrom (N : Int) 2 = (F2 : Int) := by rw [show blockFrom (N : Int) 2 = (N : Int) * (N : Int) from rfl]; omega
  have b2w : blockWide (N : Int) (M : Int) 2 = ((1 : Nat) : Int) := rfl
  rw [b2, b2w] at k2
  have b1 : blockFrom (N : Int) 1 = ((0 : Nat) : Int) := rfl
  have b1w : blockWide (N : Int) (M : Int) 1 = (N : Int) := rfl
  rw [b1, b1w] at k1
  rcases hk3 with rfl | rfl | rfl
  · simp
    refine CallK.intro k3 (by simp) ?_
    by_cases c : F3 ≤ j
    · obtain ⟨d, hd⟩ : ∃ d : Nat, (j : Int) - (F3 : Int) = (d : Int) := ⟨j - F3, by omega⟩
      have wj : w64 ((j : Int) - (F3 : Int)) = (d : Int) := by rw [w64_id (by omega) (by omega)]; exact hd
      have hdn : d = j - F3 := by omega
      have hM0 : ¬ M = 0 := by omega
      have hM2 : 0 < M := by omega
      have hq1 : w64 ((d : Int) / (M : Int)) = ((d / M : Nat) : Int) := by
        have : d / M ≤ d := Nat.div_le_self _ _
        have e : (d : Int) / (M : Int) = ((d / M : Nat) : Int) := rfl
        rw [e]
        generalize d / M = x at *
        exact w64_id (by omega) (by omega)
      have hq2 : (d : Int).tmod (M : Int) = ((d % M : Nat) : Int) := (Int.ofNat_tmod _ _).symm
      have hnm : nmT (nmOf N M j) = .agg [I64 3, I64 ((d / M : Nat) : Int), I64 ((d % M : Nat) : Int)] := by
        unfold nmOf nmT
        rw [if_pos (by omega)]
        rw [hdn, hF3]
        rfl
      rw [hnm]
      generalize ((d / M : Nat) : Int) = q1 at *
      generalize ((d % M : Nat) : Int) = q2 at *
      simp [w1, wj, hM0, hM2, hq1, hq2]
      refine AAnyD.meet ofSch ⟨[(4, .pv (.ptr 1 0)), (5, .pv (BL true))], [[.pv (I64 N), .pv (I64 M)], [.pv (I64 3), .pv (I64 q1), .pv (I64 q2)], [.pv (I64 3), .pv (I64 q1), .pv (I64 q2)]]⟩ (by kernel_rfl) ?_ ?_
      · simp [ofSch, hq1, hq2]
        and_intros
        all_goals exact Weak.keep (by simp) (by simp)
      · simp
    · have wj : w64 ((j : Int) - (F3 : Int)) = (j : Int) - (F3 : Int) := w64_id (by omega) (by omega)
      have c0 : ¬ 0 ≤ (j : Int) - (F3 : Int) := by omega
      simp [w1, wj, c]
      refine ⟨1, by (try dsimp only); omega, ⟨by omega, by omega, by omega⟩, Weak.to (by simp [w01, w02]) (by simp) (by simp) (by simp) (by simp)⟩
  · simp
    refine CallK.intro k2 (by simp) ?_
    by_cases c : F2 ≤ j
    · obtain ⟨d, hd⟩ : ∃ d : Nat, (j : Int) - (F2 : Int) = (d : Int) := ⟨j - F2, by omega⟩
      have wj : w64 ((j : Int) - (F2 : Int)) = (d : Int) := by rw [w64_id (by omega) (by omega)]; exact hd
      have hdn : d = j - F2 := by omega
      have hM0 : ¬ 1 = 0 := by omega
      have hM2 : 0 < 1 := by omega
      have wd : w64 (d : Int) = (d : Int) := w64_id (by omega) (by omega)
      have hnm : nmT (nmOf N M j) = .agg [I64 2, I64 (d : Int), I64 0] := by
        unfold nmOf nmT
        rw [if_neg (by omega), if_pos (by omega)]
        rw [hdn, hF2]
        rfl
      rw [hnm]
      simp [w1, wj, wd]
      refine AAnyD.meet ofSch ⟨[(4, .pv (.ptr 1 0)), (5, .pv (BL true))], [[.pv (I64 N), .pv (I64 M)], [.pv (I64 2), .pv (I64 d), .pv (I64 0)], [.pv (I64 2), .pv (I64 d), .pv (I64 0)]]⟩ (by kernel_rfl) ?_ ?_
      · simp [ofSch, wd]
        and_intros
        all_goals exact Weak.keep (by simp) (by simp)
      · simp
    · have wj : w64 ((j : Int) - (F2 : Int)) = (j : Int) - (F2 : Int) := w64_id (by omega) (by omega)
      have c0 : ¬ 0 ≤ (j : Int) - (F2 : Int) := by omega
      simp [w1, wj, c]
      refine ⟨2, by (try dsimp only); omega, ⟨by omega, by omega, by omega⟩, Weak.to (by simp [w01, w02]) (by simp) (by simp) (by simp) (by simp)⟩
  · have hN : 0 < N := by
      apply Nat.pos_of_ne_zero
      rintro rfl
      have := g2 (by omega)
      simp at this
    simp
    refine CallK.intro k1 (by simp) ?_
    by_cases c : 0 ≤ j
    · obtain ⟨d, hd⟩ : ∃ d : Nat, (j : Int) = (d : Int) := ⟨j, rfl⟩
      have wj : w64 (j : Int) = (d : Int) := by rw [w64_id (by omega) (by omega)]; exact hd
      have hdn : d = j := by omega
      have hM0 : ¬ N = 0 := by omega
      have hM2 : 0 < N := by omega
      have hq1 : w64 ((d : Int) / (N : Int)) = ((d / N : Nat) : Int) := by
        have : d / N ≤ d := Nat.div_le_self _ _
        have e : (d : Int) / (N : Int) = ((d / N : Nat) : Int) := rfl
        rw [e]
        generalize d / N = x at *
        exact w64_id (by omega) (by omega)
      have hq2 : (d : Int).tmod (N : Int) = ((d % N : Nat) : Int) := (Int.ofNat_tmod _ _).symm
      have hnm : nmT (nmOf N M j) = .agg [I64 1, I64 ((d / N : Nat) : Int), I64 ((d % N : Nat) : Int)] := by
        unfold nmOf nmT
        rw [if_neg (by omega), if_neg (by omega)]
        rw [hdn]
        rfl
      rw [hnm]
      generalize ((d / N : Nat) : Int) = q1 at *
      generalize ((d % N : Nat) : Int) = q2 at *
      simp [w1, wj, hM0, hM2, hq1, hq2]
      refine AAnyD.meet ofSch ⟨[(4, .pv (.ptr 1 0)), (5, .pv (BL true))], [[.pv (I64 N), .pv (I64 M)], [.pv (I64 1), .pv (I64 q1), .pv (I64 q2)], [.pv (I64 1), .pv (I64 q1), .pv (I64 q2)]]⟩ (by kernel_rfl) ?_ ?_
      · simp [ofSch, hq1, hq2]
        and_intros
        all_goals exact Weak.keep (by simp) (by simp)
      · simp
    · omega
end Go.AX

namespace Go.AX
open Go.Proofs Go.Shelf
set_option linter.unusedSimpArgs false

def wPlace : ByteArray := ⟨#[112, 108, 97, 99, 101]⟩
def wIn : ByteArray := ⟨#[105, 110]⟩
def wState : ByteArray := ⟨#[115, 116, 97, 116, 101]⟩
def kindW (k : Nat) : ByteArray := if k = 1 then wPlace else if k = 2 then wIn else wState
def nmS (x : Nat × Nat × Nat) : ByteArray := wjoin (if x.1 = 2 then [kindW x.1, digS x.2.1] else [kindW x.1, digS x.2.1, digS x.2.2]) ⟨#[32]⟩
theorem dig_len {i : Nat} (h : i < 100) : (Lib.decDigits i).length ≤ 2 := by
  rw [Lib.decDigits]
  split
  · simp
  · rw [Lib.decDigits, dif_pos (by omega)]
    simp
theorem kindW_len (k : Nat) : (kindW k).data.toList.length ≤ 5 := by
  unfold kindW
  split
  · decide
  · split <;> decide
def wordsA : List PV := [.lit (.string ⟨#[]⟩), .lit (.string wPlace), .lit (.string wIn), .lit (.string wState)]
set_option maxRecDepth 16000 in
theorem name1_ok (x : Nat × Nat × Nat) (hk : x.1 = 1 ∨ x.1 = 2 ∨ x.1 = 3) (ha : x.2.1 < 100) (hb : x.2.2 < 100) : APure Tryz.prog 16 [nmT x, .iptr 4 [wordsA] 0 0] (fun r => r = .pv (.lit (.string (nmS x)))) := by
  obtain ⟨k, a, b⟩ := x
  dsimp only at hk ha hb
  refine apure1 hmo Tryz.func16 (by kernel_rfl) rfl rfl (by kernel_rfl) (Nat.le_of_ble_eq_true rfl) ?_
  have d1 := digits_ok a ha
  have d2 := digits_ok b hb
  have j2 : ∀ k, APure Tryz.prog 18 [.seq false 1 (srow [kindW k, digS a]), .lit (.string ⟨#[32]⟩)] (fun r => r = .pv (.lit (.string (wjoin [kindW k, digS a] ⟨#[32]⟩)))) := fun k => wjoin_ok _ _ (by simp) (by simp) (by
    have := kindW_len k; have := dig_len ha
    simp [Lib.join, List.intercalate, digS] at *
    omega)
  have j3 : ∀ k, APure Tryz.prog 18 [.seq false 1 (srow [kindW k, digS a, digS b]), .lit (.string ⟨#[32]⟩)] (fun r => r = .pv (.lit (.string (wjoin [kindW k, digS a, digS b] ⟨#[32]⟩)))) := fun k => wjoin_ok _ _ (by simp) (by simp) (by
    have := kindW_len k; have := dig_len ha; have := dig_len hb
    simp [Lib.join, List.intercalate, digS] at *
    omega)
  generalize hda : digS a = da at *
  generalize hdb : digS b = db at *
  rcases hk with rfl | rfl | rfl
  · have j := j3 1
    simp only [srow, List.map_cons, List.map_nil, show kindW 1 = wPlace from rfl] at j
    simp [nmT, wordsA]
    refine CallQ0.intro d1 (by simp) ?_
    simp
    refine CallK.intro d2 (by simp) ?_
    simp
    refine CallK.intro j (by simp) ?_
    simp [nmS, hda, hdb, show kindW 1 = wPlace from rfl]
  · have j := j2 2
    simp only [srow, List.map_cons, List.map_nil, show kindW 2 = wIn from rfl] at j
    simp [nmT, wordsA]
    refine CallQ0.intro d1 (by simp) ?_
    simp
    refine CallK.intro j (by simp) ?_
    simp [nmS, hda, hdb, show kindW 2 = wIn from rfl]
  · have j := j3 3
    simp only [srow, List.map_cons, List.map_nil, show kindW 3 = wState from rfl] at j
    simp [nmT, wordsA]
    refine CallQ0.intro d1 (by simp) ?_
    simp
    refine CallK.intro d2 (by simp) ?_
    simp
    refine CallK.intro j (by simp) ?_
    simp [nmS, hda, hdb, show kindW 3 = wState from rfl]
@[simp] theorem belowR_srow (k : Nat) (l : List ByteArray) : belowR k (srow l) := by
  rw [belowR_iff]; intro r hr x hx
  obtain ⟨o, _, rfl⟩ := List.mem_map.1 hr
  simp at hx; subst hx; trivial
@[simp] theorem nwR_srow (l : List ByteArray) : nwR (srow l) := by
  rw [nwR_iff]; intro r hr
  obtain ⟨o, _, rfl⟩ := List.mem_map.1 hr
  exact ⟨trivial, trivial⟩
@[simp] theorem frzR_srow (r : Nat → Nat → PV) (l : List ByteArray) : frzR r (srow l) = srow l := by
  rw [srow, frzR_map, List.map_map]; congr 1
@[simp] theorem srow_length (l : List ByteArray) : (srow l).length = l.length := by simp [srow]
def nmsTo (N M j : Nat) : List ByteArray := (List.range j).map fun i => nmS (nmOf N M i)
@[simp] theorem nmsTo_length (N M j : Nat) : (nmsTo N M j).length = j := by simp [nmsTo]
theorem nmsTo_succ (N M j : Nat) : nmsTo N M (j + 1) = nmsTo N M j ++ [nmS (nmOf N M j)] := by simp [nmsTo, List.range_succ]
set_option maxRecDepth 16000 in
theorem names_ok (o : Obj) (ops : List Op5) (hr : objR o) (hl : o.rows.length ≤ 140737488355328) (hl2 : ops.length ≤ 1000000) : APure Tryz.prog 7 [robj o, ovec ops] (fun r => r = (if failE o ops = 0 then .own true 1 (srow (nmsTo ops.length o.st.toNat (varC ops.length o.st.toNat))) else .pv (.lit (.slice none 0 0)))) := by
  refine apure1 hmo Tryz.func7 (by kernel_rfl) rfl rfl (by kernel_rfl) (Nat.le_of_ble_eq_true rfl) ?_
  have h1 := sizeE_ok o ops hl (by omega)
  simp only [robj, ovec] at h1
  simp [robj, ovec]
  refine CallK.intro h1 (by simp) ?_
  by_cases hf : failE o ops = 0
  rotate_left
  · simp [hf]
  obtain ⟨g1, g2, g3, hP, hE, hc⟩ := failE_zero hr hf
  obtain ⟨q1, q2, q3, q4⟩ := obj_good hr g1
  rw [hE]
  obtain ⟨M, hM⟩ : ∃ M : Nat, o.st = (M : Int) := ⟨o.st.toNat, by omega⟩
  rw [hM] at hc
  obtain ⟨_, hV, n1, n2, n3, n4⟩ := varC_eq hc
  have hVd : varC ops.length M = ops.length * ops.length + ops.length + (ops.length + 1) * M := rfl
  have hv := vars_ok ops.length M
  rw [if_pos hc, show varsN ops.length M = (varC ops.length M : Int) by omega] at hv
  have hMn : o.st.toNat = M := by omega
  simp only [hM, hMn, hf, if_pos, Int.toNat_natCast]
  generalize ops.length = N at *
  simp
  refine CallK.intro hv (by simp) ?_
  simp
  refine ALoop.intro (S := fun (j : Nat) => ⟨[(5, .pv (.ptr 1 0)), (8, .pv (.fn (.func 16) [] [.ptr 2 0])), (9, .own true 1 (srow (nmsTo N M j))), (24, .pv (I64 (varC N M))), (25, .pv (I64 j))], [[.pv (I64 M), .pv (I64 o.kd), .pv (I64 o.ini), .pv (.seq false 4 (o.rows.map rrow))], [.pv (I64 N), .pv (I64 M)], [.pv (.lit (.string ⟨#[]⟩)), .pv (.lit (.string wPlace)), .pv (.lit (.string wIn)), .pv (.lit (.string wState))]]⟩) (fun j => j ≤ varC N M) (fun j => varC N M - j) 0 ?_ (Nat.zero_le _) ?_
  · exact (Weak.nilOwn (s := 9) 1 true (by simp)).trans (Weak.to (by simp [nmsTo, srow]) (by simp; exact ⟨rfl, rfl, rfl⟩) (by simp) (by simp) (by simp))
  intro j hj
  by_cases hlt : j < varC N M
  rotate_left
  · have hie : j = varC N M := by omega
    rw [hie]
    simp
  have hw : w64 ((j : Int) + 1) = ((j + 1 : Nat) : Int) := by rw [w64_id (by omega) (by omega)]; omega
  have ho := numOf_ok N M j hc hlt
  have hin := nmOf_in hc hlt
  have hn1 := name1_ok (nmOf N M j) hin.1 hin.2.1 hin.2.2
  have hsu := nmsTo_succ N M j
  generalize nmOf N M j = x at *
  obtain ⟨k, a, b⟩ := x
  simp only [nmT, wordsA] at ho hn1
  simp [hlt, hw]
  simp only [Int.natCast_add, Int.cast_ofNat_Int] at ho
  refine CallK.intro ho (by simp) ?_
  simp
  refine CallB.introP hn1 (by simp) (by simp) ?_
  simp
  refine ⟨by omega, j + 1, by (try dsimp only); omega, by (try dsimp only); omega, Weak.to (by simp [hw, hsu, srow]) (by simp) (by simp) (by simp) (by simp)⟩
end Go.AX

namespace Go.AX
open Go.Proofs Go.Shelf
set_option linter.unusedSimpArgs false

/-- What is left of a number, as digits. -/
def decS (k : Nat) : List UInt8 := if k = 0 then [] else Lib.decDigits k
theorem decS_next {k : Nat} (h : k ≠ 0) : decS k = decS (k / 10) ++ [UInt8.ofNat (48 + k % 10)] := by
  unfold decS
  rw [if_neg h, Lib.decDigits]
  split
  · rename_i c
    rw [if_pos (by omega), show k % 10 = k by omega]
    rfl
  · rename_i c
    rw [if_neg (by omega)]
set_option maxRecDepth 16000 in
theorem refDigits_ok (n : Nat) (hn : n < 100) : APure Tryz.prog 23 [I64 n] (fun r => r = .pv (.lit (.string (digS n)))) := by
  refine apure1 hmo Tryz.func23 (by kernel_rfl) rfl rfl (by kernel_rfl) (Nat.le_of_ble_eq_true rfl) ?_
  by_cases h0 : n = 0
  · subst h0
    have : digS 0 = ⟨#[48]⟩ := by unfold digS; rw [Lib.decDigits]; rfl
    simp [this]
  simp [h0]
  refine ALoop.intro (S := fun (x : Nat × ByteArray) => ⟨[(0, .pv (I64 n)), (3, .pv (.lit (.string x.2))), (4, .pv (I64 x.1))], []⟩) (fun x => x.1 ≤ n ∧ x.2.size ≤ 100 - x.1 ∧ decS x.1 ++ x.2.data.toList = decS n) (fun x => x.1) (n, ⟨#[]⟩) ?_ ⟨Nat.le_refl _, by simp [ByteArray.size], by simp⟩ ?_
  · exact Weak.to (by simp) (by simp) (by simp) (by simp) (by simp)
  rintro ⟨k, s⟩ ⟨hk, hs, hd⟩
  dsimp only at hk hs hd
  by_cases hk0 : k = 0
  · subst hk0
    have hs' : s = digS n := by
      have : s.data.toList = Lib.decDigits n := by
        rw [show decS 0 = [] from rfl, List.nil_append] at hd
        rw [hd]; unfold decS; rw [if_neg h0]
      unfold digS
      rw [← this]
    have hnn : ¬ (n : Int) < 0 := by omega
    simp [hnn, hs']
  have hq : w64 ((k : Int) / 10) = ((k / 10 : Nat) : Int) := by
    rw [show (k : Int) / 10 = ((k / 10 : Nat) : Int) from rfl]
    exact w64_id (by omega) (by omega)
  have hr0 : ¬ (k : Int) % 10 < 0 := by omega
  have hw : w64 (48 + (k : Int) % 10) = 48 + (k : Int) % 10 := w64_id (by omega) (by omega)
  have hwr : IntKind.u8.wrap (48 + (k : Int) % 10) = 48 + (k : Int) % 10 := by rw [IntKind.wrap_u8]; omega
  have hr : (k : Int).tmod 10 = (k : Int) % 10 := Int.tmod_eq_emod_of_nonneg (by omega)
  simp [hk0, hr, hr0, hw, hwr, hq]
  refine ⟨by rw [strOfNums_size]; simp; omega, (k / 10, strOfNums [48 + (k : Int) % 10] ++ s), by (try dsimp only); omega, ⟨by (try dsimp only); omega, ?_, ?_⟩, Weak.to (by simp) (by simp) (by simp) (by simp) (by simp)⟩
  · dsimp only
    rw [ByteArray.size_append, strOfNums_size]
    simp
    omega
  · dsimp only
    rw [decS_next hk0] at hd
    rw [← hd, List.append_assoc]
    congr 1
end Go.AX
