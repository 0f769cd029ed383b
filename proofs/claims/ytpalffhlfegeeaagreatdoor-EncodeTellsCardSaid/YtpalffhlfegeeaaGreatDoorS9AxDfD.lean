/-
  Contracts: whether a formula holds (package cnf).
-/
import Derived.Test.YtpalffhlfegeeaaGreatDoorS9AxMovR
import Derived.Test.YtpalffhlfegeeaaGreatDoorS9AxClB
namespace Go.AX
open Go.Proofs
set_option linter.unusedSimpArgs false

theorem indexC_ok (rows : List (List Int)) (k : FuncId) (cap : List PV) (p : List Int → Bool) (hl : rows.length ≤ 140737488355328) (hc : ∀ r, frzL r cap = cap) (hb : ∀ n, belowL n cap) (hp : ptrAny cap = false) (hf : ∀ x ∈ rows, APure Tryz.prog k (.seq false 1 (irow x) :: cap) (fun r => r = .pv (BL (p x)))) :
    APure Tryz.prog 105 [.seq false 1 (rows.map crowF), .fn (.func k) [] cap] (fun r => r = .pv (I64 (idxS p rows))) := by
  refine apure1 hmo Tryz.func105 (by kernel_rfl) rfl rfl (by kernel_rfl) (Nat.le_of_ble_eq_true rfl) ?_
  simp
  refine ALoop.intro (S := fun (i : Nat) => ⟨[(0, .pv (.seq false 1 (rows.map crowF))), (1, .pv (.fn (.func k) [] cap)), (7, .pv (I64 rows.length)), (8, .pv (I64 i))], []⟩) (fun i => i ≤ rows.length ∧ ∀ j (hj : j < rows.length), j < i → p rows[j] = false) (fun i => rows.length - i) 0 ?_ ?_ ?_
  · exact Weak.to (by simp) (by simp) (by simp) (by simp [hb]) (by simp)
  · exact ⟨by omega, fun j hj h => by omega⟩
  · intro i ⟨hi, ho⟩
    by_cases h : i < rows.length
    · have hw : w64 ((i : Int) + 1) = ((i + 1 : Nat) : Int) := by rw [w64_id (by omega) (by omega)]; omega
      have hf' := hf rows[i] (List.getElem_mem h)
      simp [h, hp, hc, crowF]
      refine CallK.intro hf' (by simp) ?_
      simp
      refine ⟨fun c => by rw [idxS_at h ho c], fun c => ⟨i + 1, by dsimp only; omega, ⟨by omega, fun j hj hji => ?_⟩, Weak.to ?_ (by simp) (by simp) (by simp [hb]) (by simp)⟩⟩
      · by_cases e : j = i
        · subst e; exact c
        · exact ho j hj (by omega)
      · simp [hw, crowF]
    · simp [h]
      rw [idxS_none (fun j hj => ho j hj (by omega))]

theorem lit_split (l : Int) : (splitS l).1 = litV l ∧ (litV l ≠ 0 → (splitS l).2 = decide (0 < l)) := by
  unfold splitS litV absS
  by_cases c : okL l = true
  · obtain ⟨h1, h2, h3⟩ := (okL_iff l).1 c
    rw [if_pos c]
    by_cases d : l < 0
    · rw [if_neg (by omega), if_pos ⟨d, h2⟩, if_pos d]
      exact ⟨rfl, fun _ => (decide_eq_false (by omega)).symm⟩
    · rw [if_pos ⟨by omega, h3⟩, if_neg d]
      exact ⟨rfl, fun _ => (decide_eq_true (by omega)).symm⟩
  · have hn : ¬ (l ≠ 0 ∧ -100000 ≤ l ∧ l ≤ 100000) := fun h => c ((okL_iff l).2 h)
    rw [if_neg c, if_neg (by omega), if_neg (by omega)]
    exact ⟨rfl, fun h => absurd rfl h⟩
set_option maxRecDepth 16000 in
theorem truth1_ok (l : Int) (m : List Bool) : APure Tryz.prog 125 [I64 l, .iptr 1 [[.seq false 1 (brow m)]] 0 0] (fun r => r = .pv (BL (litS m l))) := by
  refine apure1 hmo Tryz.func125 (by kernel_rfl) rfl rfl (by kernel_rfl) (Nat.le_of_ble_eq_true rfl) ?_
  simp
  refine CallK.intro (litVar_ok l) (by simp) ?_
  obtain ⟨e1, e2⟩ := lit_split l
  have hin := splitS_in l
  unfold litS
  rw [e1] at hin ⊢
  generalize litV l = v at *
  obtain ⟨n, rfl⟩ := Int.eq_ofNat_of_zero_le hin.1
  rcases Nat.eq_zero_or_pos n with h0 | h0
  · subst h0
    simp
  obtain ⟨k, rfl⟩ : ∃ k, n = k + 1 := ⟨n - 1, by omega⟩
  rw [e2 (by omega)]
  have hk1 : w64 (k : Int) = (k : Int) := w64_id (by omega) (by omega)
  have hne : ¬ (k : Int) + 1 = 0 := by omega
  have hpos : (0 : Int) < (k : Int) + 1 := by omega
  by_cases hk : k < m.length
  · have hle : (k : Int) + 1 ≤ (m.length : Int) := by omega
    have hle2 : k + 1 ≤ m.length := by omega
    simp [hne, hk, hle, hle2, hk1, hpos]
  · have hle : ¬ (k : Int) + 1 ≤ (m.length : Int) := by omega
    have hle2 : ¬ k + 1 ≤ m.length := by omega
    simp [hne, hk, hle, hle2, hk1, hpos]
theorem first1_ok (c : List Int) (m : List Bool) (hl : c.length ≤ 1000000) : APure Tryz.prog 106 [.seq false 1 (irow c), .iptr 1 [[.fn (.func 125) [] [.iptr 1 [[.seq false 1 (brow m)]] 0 0]]] 0 0] (fun r => r = .pv (BL (!holdsS c m))) := by
  refine apure1 hmo Tryz.func106 (by kernel_rfl) rfl rfl (by kernel_rfl) (Nat.le_of_ble_eq_true rfl) ?_
  simp
  refine CallK.intro (containsF_ok c hl 125 [.iptr 1 [[.seq false 1 (brow m)]] 0 0] (litS m) (by simp) (by simp) (by simp) (fun x _ => truth1_ok x m)) (by simp) ?_
  simp [holdsS]
theorem truths_ok (m : List Bool) (h : List (List SV)) : AMut Tryz.prog 104 [.seq false 1 (brow m)] h (fun r h' => r = .pv (.fn (.func 125) [] [.ptr h.length 0]) ∧ h' = h ++ [[.pv (.seq false 1 (brow m))]]) := by
  refine amut1 hmo Tryz.func104 (by kernel_rfl) rfl rfl (by kernel_rfl) (Nat.le_of_ble_eq_true rfl) ?_
  simp
set_option maxRecDepth 16000 in
theorem first_ok (v : Int) (L : List (List Int)) (m : List Bool) (hl : L.length ≤ 140737488355328) (hr : ∀ x ∈ L, x.length ≤ 1000000) : APure Tryz.prog 55 [.agg [I64 v, .seq false 1 (L.map crowF)], .seq false 1 (brow m)] (fun r => r = .pv (I64 (firstS L m))) := by
  refine apure1 hmo Tryz.func55 (by kernel_rfl) rfl rfl (by kernel_rfl) (Nat.le_of_ble_eq_true rfl) ?_
  simp
  refine CallK.introM (truths_ok m _) (by simp) ?_
  rintro _ _ ⟨rfl, rfl⟩
  simp
  have hfz : frzP [[.pv (I64 v), .pv (.seq false 1 (L.map crowF))], [.pv (.seq false 1 (brow m))], [.pv (.fn (.func 125) [] [.ptr 1 0])]] 3 2 0 = .iptr 1 [[.fn (.func 125) [] [.iptr 1 [[.seq false 1 (brow m)]] 0 0]]] 0 0 := by simp [frzP]
  rw [hfz]
  refine ⟨rfl, CallK.intro (indexC_ok L 106 [.iptr 1 [[.fn (.func 125) [] [.iptr 1 [[.seq false 1 (brow m)]] 0 0]]] 0 0] (fun c => !holdsS c m) hl (by simp) (by simp) (by simp) (fun x hx => first1_ok x m (hr x hx))) (by simp) ?_⟩
  simp [firstS]
theorem holds_ok (v : Int) (L : List (List Int)) (m : List Bool) (hl : L.length ≤ 140737488355328) (hr : ∀ x ∈ L, x.length ≤ 1000000) : APure Tryz.prog 19 [.agg [I64 v, .seq false 1 (L.map crowF)], .seq false 1 (brow m)] (fun r => r = .pv (BL (decide ((m.length : Int) = v) && decide (∀ c ∈ L, holdsS c m = true)))) := by
  refine apure1 hmo Tryz.func19 (by kernel_rfl) rfl rfl (by kernel_rfl) (Nat.le_of_ble_eq_true rfl) ?_
  have hF := first_ok v L m hl hr
  have hn := firstS_neg L m
  simp
  refine CallG.intro (fun _ => hF) (by simp) ?_
  simp [hn]
end Go.AX
