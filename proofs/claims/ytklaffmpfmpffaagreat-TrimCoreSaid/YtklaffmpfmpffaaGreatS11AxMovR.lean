/-
  Contracts: where a clause holds.
-/
import Derived.Test.YtklaffmpfmpffaaGreatS11AxEvC
namespace Go.AX
open Go.Proofs
set_option linter.unusedSimpArgs false

def splitS (l : Int) : Int × Bool := if 0 < l ∧ l ≤ 100000 then (l, true) else if l < 0 ∧ -100000 ≤ l then (-l, false) else (0, false)
theorem splitS_in (l : Int) : 0 ≤ (splitS l).1 ∧ (splitS l).1 ≤ 100000 := by
  unfold splitS
  split
  · dsimp only; omega
  · split
    · dsimp only; omega
    · simp
theorem split_ok (l : Int) : APure Tryz.prog 109 [I64 l] (fun r => r = .pv (.tup [I64 (splitS l).1, BL (splitS l).2])) := by
  refine apureN [2, 3] hmo Tryz.func109 (by kernel_rfl) rfl (fun _ _ => results_tmp2 rfl _ _ _) (by kernel_rfl) (Nat.le_of_ble_eq_true rfl) ?_
  simp
  refine ⟨fun h1 h2 => by simp [splitS, h1, h2], fun h => ⟨fun h1 h2 => ?_, fun h1 => ?_⟩⟩
  · have : w64 (-l) = -l := w64_id (by omega) (by omega)
    rw [splitS, if_neg (by omega), if_pos (by omega), this]; simp
  · rw [splitS, if_neg (by omega), if_neg (by omega)]; simp

def litS (m : List Bool) (l : Int) : Bool := decide ((splitS l).1 ≠ 0) && (decide ((splitS l).1 ≤ (m.length : Int)) && m.getD ((splitS l).1 - 1).toNat false) == (splitS l).2
def holdsS (c : List Int) (m : List Bool) : Bool := c.any (litS m)

set_option maxRecDepth 16000 in
theorem refHolds_ok (c : List Int) (m : List Bool) (hl : c.length ≤ 140737488355328) : APure Tryz.prog 46 [.seq false 1 (irow c), .seq false 1 (brow m)] (fun r => r = .pv (BL (holdsS c m))) := by
  refine apure1 hmo Tryz.func46 (by kernel_rfl) rfl rfl (by kernel_rfl) (Nat.le_of_ble_eq_true rfl) ?_
  simp
  refine ALoop.intro (S := fun (i : Nat) => ⟨[(0, .pv (.seq false 1 (irow c))), (1, .pv (.seq false 1 (brow m))), (5, .pv (I64 i))], []⟩) (fun i => i ≤ c.length ∧ ∀ j (hj : j < c.length), j < i → litS m c[j] = false) (fun i => c.length - i) 0 ?_ ?_ ?_
  · exact Weak.to (by simp) rfl (by simp) (by simp) (by simp)
  · exact ⟨by omega, fun j _ hj => by omega⟩
  · intro i ⟨hi, ho⟩
    by_cases h : i < c.length
    · have hw : w64 ((i : Int) + 1) = ((i + 1 : Nat) : Int) := by rw [w64_id (by omega) (by omega)]; omega
      have hs := split_ok c[i]
      have hin := splitS_in c[i]
      have hlit : ∀ b, litS m c[i] = b → b = true → holdsS c m = true := fun b hb hb2 => List.any_eq_true.2 ⟨c[i], List.getElem_mem h, by rw [hb, hb2]⟩
      have hnext : litS m c[i] = false → ∀ j (hj : j < c.length), j < i + 1 → litS m c[j] = false := fun hf j hj hji => by
        by_cases e : j = i
        · subst e; exact hf
        · exact ho j hj (by omega)
      have hd : litS m c[i] = (decide ((splitS c[i]).1 ≠ 0) && (decide ((splitS c[i]).1 ≤ (m.length : Int)) && m.getD ((splitS c[i]).1 - 1).toNat false) == (splitS c[i]).2) := rfl
      generalize hL : litS m c[i] = L at hlit hnext hd
      obtain ⟨v, hv⟩ := Int.eq_ofNat_of_zero_le hin.1
      have hv' : (splitS c[i]).1 = (v : Int) := hv
      rw [hv'] at hs hin hd
      generalize (splitS c[i]).2 = t at hs hd
      simp [h]
      refine CallK.intro hs (by simp) ?_
      rcases Nat.eq_zero_or_pos v with h0 | h0
      · subst h0
        simp
        refine ⟨i + 1, by dsimp only; omega, ⟨by omega, hnext (by rw [hd]; simp)⟩, Weak.to ?_ (by simp) (by simp) (by simp) (by simp)⟩
        simp [hw]
      · obtain ⟨k, rfl⟩ : ∃ k, v = k + 1 := ⟨v - 1, by omega⟩
        have hk1 : w64 (k : Int) = (k : Int) := w64_id (by omega) (by omega)
        have hne : ¬ (k : Int) + 1 = 0 := by omega
        by_cases hk : k < m.length
        · have hle : (k : Int) + 1 ≤ (m.length : Int) := by omega
          have hle2 : k + 1 ≤ m.length := by omega
          simp [hne, hk, hle, hle2, hk1] at hd ⊢
          refine ⟨fun q => hlit L rfl (by rw [hd]; simp [q]), fun q => ⟨i + 1, by dsimp only; omega, ⟨by omega, hnext (by rw [hd]; simp [q])⟩, Weak.to ?_ (by simp) (by simp) (by simp) (by simp)⟩⟩
          simp [hw]
        · have hle : ¬ (k : Int) + 1 ≤ (m.length : Int) := by omega
          have hle2 : ¬ k + 1 ≤ m.length := by omega
          simp [hne, hk, hle, hle2, hk1] at hd ⊢
          refine ⟨fun q => hlit L rfl (by rw [hd]; simp [q]), fun q => ⟨i + 1, by dsimp only; omega, ⟨by omega, hnext (by rw [hd]; simp [q])⟩, Weak.to ?_ (by simp) (by simp) (by simp) (by simp)⟩⟩
          simp [hw]
    · simp [h]
      simp only [holdsS, List.any_eq_false]
      intro x hx
      obtain ⟨j, hj, rfl⟩ := List.mem_iff_getElem.1 hx
      rw [ho j hj (by omega)]; simp

def firstS (L : List (List Int)) (m : List Bool) : Int := idxS (fun c => !holdsS c m) L
theorem firstS_neg (L : List (List Int)) (m : List Bool) : firstS L m < 0 ↔ ∀ c ∈ L, holdsS c m = true := by
  unfold firstS idxS
  cases h : L.findIdx? (fun c => !holdsS c m) with
  | none =>
    rw [List.findIdx?_eq_none_iff] at h
    exact ⟨fun _ c hc => by have := h c hc; simpa using this, fun _ => by decide⟩
  | some i =>
    rw [List.findIdx?_eq_some_iff_getElem] at h
    obtain ⟨h1, h2, _⟩ := h
    refine ⟨fun h3 => absurd h3 (by dsimp only; omega), fun h3 => ?_⟩
    rw [h3 L[i] (List.getElem_mem h1)] at h2
    cases h2

set_option maxRecDepth 16000 in
theorem refFirst_ok (v : Int) (L : List (List Int)) (m : List Bool) (hl : L.length ≤ 140737488355328) (hr : ∀ x ∈ L, x.length ≤ 140737488355328) : APure Tryz.prog 26 [.agg [I64 v, .seq false 1 (L.map crowF)], .seq false 1 (brow m)] (fun r => r = .pv (I64 (firstS L m))) := by
  refine apure1 hmo Tryz.func26 (by kernel_rfl) rfl rfl (by kernel_rfl) (Nat.le_of_ble_eq_true rfl) ?_
  simp
  refine ALoop.intro (S := fun (i : Nat) => ⟨[(1, .pv (.seq false 1 (brow m))), (2, .pv (.ptr 0 0)), (5, .pv (I64 i))], [[.pv (I64 v), .pv (.seq false 1 (L.map crowF))]]⟩) (fun i => i ≤ L.length ∧ ∀ j (hj : j < L.length), j < i → (fun c => !holdsS c m) L[j] = false) (fun i => L.length - i) 0 ?_ ?_ ?_
  · exact Weak.to (by simp) (by simp) (by simp) (by simp) (by simp)
  · exact ⟨by omega, fun j _ hj => by omega⟩
  · intro i ⟨hi, ho⟩
    by_cases h : i < L.length
    · have hw : w64 ((i : Int) + 1) = ((i + 1 : Nat) : Int) := by rw [w64_id (by omega) (by omega)]; omega
      simp [h, crowF]
      refine CallK.intro (refHolds_ok L[i] m (hr _ (List.getElem_mem h))) (by simp) ?_
      simp
      refine ⟨fun c => by rw [firstS, idxS_at h ho (by simp [c])], fun c => ⟨i + 1, by dsimp only; omega, ⟨by omega, fun j hj hji => ?_⟩, Weak.to ?_ (by simp) (by simp) (by simp) (by simp)⟩⟩
      · by_cases e : j = i
        · subst e; simpa using c
        · simpa using ho j hj (by omega)
      · simp [hw, crowF]
    · simp [h]
      rw [firstS, idxS_none (fun j hj => ho j hj (by omega))]

end Go.AX
