/-
  Contracts: what a clause has; both sides of a variable; parts.
-/
import Derived.Test.YthfhellfmbllhaaGreatS12AxClC
import Derived.Test.YthfhellfmbllhaaGreatS12AxEvC
namespace Go.AX
open Go.Proofs
set_option linter.unusedSimpArgs false
def hasS (c : List Int) (n : Int) : Bool := okL n && decide (n ∈ c)
def seenTo (l : List Int) : Nat → List (Int × Int)
  | 0 => []
  | i + 1 => if okL (l.getD i 0) = true then pt (seenTo l i) (l.getD i 0) ((lk (seenTo l i) (l.getD i 0)).getD 0 + 1) else seenTo l i
theorem lk_seen (l : List Int) (x : Int) : ∀ n, n ≤ l.length → (lk (seenTo l n) x).getD 0 = if okL x = true then ((l.take n).count x : Int) else 0
  | 0, _ => by simp [seenTo, lk]
  | n + 1, h => by
    have ih := lk_seen l x n (by omega)
    have hg : l.getD n 0 = l[n] := by simp [show n < l.length by omega]
    rw [seenTo, hg, List.take_add_one, List.getElem?_eq_getElem (by omega), Option.toList_some, List.count_append, List.count_singleton]
    by_cases c : okL l[n] = true
    · rw [if_pos c, lk_pt]
      by_cases e : l[n] = x
      · rw [if_pos e, e, ih]
        rw [e] at c
        simp [c]
      · rw [if_neg e, ih]
        simp [e]
    · rw [if_neg c, ih]
      by_cases e : l[n] = x
      · rw [e] at c; simp [c]
      · simp [e]
theorem seen_len (l : List Int) (x : Int) : ∀ n, n ≤ l.length → (lk (seenTo l n) x).getD 0 ≤ (n : Int) ∧ 0 ≤ (lk (seenTo l n) x).getD 0 := by
  intro n h
  rw [lk_seen l x n h]
  have := List.count_le_length (a := x) (l := l.take n)
  rw [List.length_take] at this
  split <;> omega
theorem litV_pos (n : Int) : (0 < litV n) = (okL n = true) := by
  apply propext
  have := okL_iff n
  unfold litV absS
  constructor
  · intro h
    split at h
    · assumption
    · omega
  · intro h
    obtain ⟨h1, h2, h3⟩ := this.1 h
    rw [if_pos h]
    split <;> omega
theorem litV_zero (n : Int) : (litV n = 0) = (okL n = false) := by
  have h := litV_pos n
  apply propext
  cases c : okL n
  · unfold litV; simp [c]
  · have : 0 < litV n := by rw [h]; exact c
    constructor
    · intro h2; omega
    · intro h2; cases h2
theorem litX_nn (n : Int) : (0 ≤ litX n) = (okL n = true) := by
  apply propext
  have := okL_iff n
  unfold litX absS
  constructor
  · intro h
    split at h
    · assumption
    · omega
  · intro h
    obtain ⟨h1, h2, h3⟩ := this.1 h
    rw [if_pos h]
    split <;> omega
theorem litX_neg (n : Int) : (litX n < 0) = (okL n = false) := by
  have h := litX_nn n
  apply propext
  cases c : okL n
  · rw [c] at h; simp at h; simp; omega
  · have : 0 ≤ litX n := by rw [h]; exact c
    simp; omega
theorem seen_pos (l : List Int) (x : Int) : (0 < (lk (seenTo l l.length) x).getD 0) = (hasS l x = true) := by
  rw [lk_seen l x l.length (Nat.le_refl _), List.take_length]
  unfold hasS
  apply propext
  cases okL x
  · simp
  · simp [List.count_pos_iff]
theorem seen_ok (l : List Int) (hl : l.length ≤ 1000000) : APure Tryz.prog 132 [.seq false 1 (irow l)] (fun r => r = .omap true (mapE fI (seenTo l l.length))) := by
  refine apure1 hmo Tryz.func132 (by kernel_rfl) rfl rfl (by kernel_rfl) (Nat.le_of_ble_eq_true rfl) ?_
  simp
  refine ALoop.intro (S := fun (i : Nat) => ⟨[(3, .omap true (mapE fI (seenTo l i))), (9, .pv (.seq false 1 (irow l))), (10, .pv (I64 l.length)), (11, .pv (I64 i))], []⟩) (fun i => i ≤ l.length) (fun i => l.length - i) 0 ?_ (Nat.zero_le _) ?_
  · exact Weak.to (by simp [seenTo]) rfl (by simp) (by simp) (by simp)
  · intro i hi
    by_cases c : i < l.length
    · have hw : w64 ((i : Int) + 1) = ((i + 1 : Nat) : Int) := by rw [w64_id (by omega) (by omega)]; omega
      have hg : l.getD i 0 = l[i] := by simp [c]
      have hs : seenTo l (i + 1) = if okL l[i] = true then pt (seenTo l i) l[i] ((lk (seenTo l i) l[i]).getD 0 + 1) else seenTo l i := by rw [seenTo, hg]
      have hb := seen_len l l[i] i (by omega)
      have hw2 : w64 ((lk (seenTo l i) l[i]).getD 0 + 1) = (lk (seenTo l i) l[i]).getD 0 + 1 := w64_id (by omega) (by omega)
      simp [c]
      refine CallK.intro (litVar_ok _) (by simp) ?_
      simp [litV_pos]
      by_cases d : okL l[i] = true
      · rw [if_pos d] at hs
        simp [d]
        exact ⟨i + 1, by (try dsimp only); omega, by (try dsimp only); omega, Weak.to (by simp [hw, hw2, hs]) rfl (by simp) (by simp) (by simp)⟩
      · rw [if_neg d] at hs
        simp [d]
        exact ⟨i + 1, by (try dsimp only); omega, by (try dsimp only); omega, Weak.to (by simp [hw, hs]) rfl (by simp) (by simp) (by simp)⟩
    · have : i = l.length := by omega
      subst this
      simp
theorem has_ok (l : List Int) (n : Int) (hl : l.length ≤ 140737488355328) : APure Tryz.prog 222 [.seq false 1 (irow l), I64 n] (fun r => r = .pv (BL (hasS l n))) := by
  refine apure1 hmo Tryz.func222 (by kernel_rfl) rfl rfl (by kernel_rfl) (Nat.le_of_ble_eq_true rfl) ?_
  simp
  refine CallK.intro (litVar_ok _) (by simp) ?_
  simp [litV_pos]
  refine CallG.intro (fun _ => contains_ok l n hl) (by simp) ?_
  cases h : okL n <;> simp [hasS, h]
theorem refHas2_ok (l : List Int) (n : Int) (hl : l.length ≤ 140737488355328) : APure Tryz.prog 105 [.seq false 1 (irow l), I64 n] (fun r => r = .pv (BL (hasS l n))) := by
  refine apure1 hmo Tryz.func105 (by kernel_rfl) rfl rfl (by kernel_rfl) (Nat.le_of_ble_eq_true rfl) ?_
  simp
  refine CallK.intro (refIndex_ok _) (by simp) ?_
  simp [litX_nn]
  refine CallG.intro (fun _ => refHas_ok l n hl) (by simp) ?_
  cases h : okL n <;> simp [hasS, h]
def tautS (l : List Int) : Bool := l.any fun x => hasS l x && hasS l (-x)
theorem okL_neg (n : Int) : okL (-n) = okL n := by
  rw [Bool.eq_iff_iff, okL_iff, okL_iff]; omega
theorem tautC_ok (l : List Int) (x : Int) : APure Tryz.prog 184 [I64 x, .iptr 1 [[.amap false (mapE fI (seenTo l l.length))]] 0 0] (fun r => r = .pv (BL (hasS l x && hasS l (-x)))) := by
  refine apure1 hmo Tryz.func184 (by kernel_rfl) rfl rfl (by kernel_rfl) (Nat.le_of_ble_eq_true rfl) ?_
  simp [seen_pos]
  by_cases c : okL x = true
  · obtain ⟨h1, h2, h3⟩ := (okL_iff x).1 c
    have hw : w64 (-x) = -x := w64_id (by omega) (by omega)
    simp [hw]
  · have : hasS l x = false := by unfold hasS; simp [c]
    simp [this]
theorem taut_ok (l : List Int) (hl : l.length ≤ 1000000) : APure Tryz.prog 151 [.seq false 1 (irow l)] (fun r => r = .pv (BL (tautS l))) := by
  refine apure1 hmo Tryz.func151 (by kernel_rfl) rfl rfl (by kernel_rfl) (Nat.le_of_ble_eq_true rfl) ?_
  have h := containsF_ok l hl 184 [.iptr 1 [[.amap false (mapE fI (seenTo l l.length))]] 0 0] (fun x => hasS l x && hasS l (-x)) (fun r => by simp) (by simp) (fun k => by simp) (fun x _ => tautC_ok l x)
  simp
  refine CallK.intro (seen_ok l hl) (by simp) ?_
  simp
  simp [frzP, frzC]
  refine CallK.intro h (by simp) ?_
  simp [tautS]
theorem refTaut_ok (l : List Int) (hl : l.length ≤ 1000000) : APure Tryz.prog 129 [.seq false 1 (irow l)] (fun r => r = .pv (BL (tautS l))) := by
  refine apure1 hmo Tryz.func129 (by kernel_rfl) rfl rfl (by kernel_rfl) (Nat.le_of_ble_eq_true rfl) ?_
  simp
  refine ALoop.intro (S := fun (i : Nat) => ⟨[(0, .pv (.seq false 1 (irow l))), (3, .pv (I64 i))], []⟩) (fun i => i ≤ l.length ∧ ∀ j (h : j < l.length), j < i → (hasS l l[j] && hasS l (-l[j])) = false) (fun i => l.length - i) 0 ?_ ⟨Nat.zero_le _, fun j _ h => by omega⟩ ?_
  · exact Weak.to (by simp) rfl (by simp) (by simp) (by simp)
  · rintro i ⟨hi, ho⟩
    by_cases c : i < l.length
    · have hw : w64 ((i : Int) + 1) = ((i + 1 : Nat) : Int) := by rw [w64_id (by omega) (by omega)]; omega
      simp [c]
      refine CallK.intro (refHas2_ok l l[i] (by omega)) (by simp) ?_
      simp [c]
      refine CallG.intro (r := .pv (I64 (litN l[i]))) (fun _ => refNeg_ok l[i]) (by simp) ?_
      simp [c]
      refine CallG.intro (r := .pv (BL (hasS l (litN l[i])))) (fun _ => refHas2_ok l _ (by omega)) (by simp) ?_
      have hn : (hasS l l[i] && hasS l (litN l[i])) = (hasS l l[i] && hasS l (-l[i])) := by
        unfold litN
        cases d : okL l[i]
        · unfold hasS; rw [d]; rfl
        · rfl
      simp [hn]
      cases e : hasS l l[i] && hasS l (-l[i])
      · simp at e
        refine ⟨fun h1 h2 => by simp [e h1] at h2, fun _ => ⟨i + 1, by dsimp only; omega, ⟨by omega, fun j h1 h2 => ?_⟩, Weak.to (by simp [hw]) rfl (by simp) (by simp) (by simp)⟩⟩
        by_cases ej : j = i
        · subst ej; exact e
        · simpa using ho j h1 (by omega)
      · have hT : tautS l = true := List.any_eq_true.2 ⟨_, List.getElem_mem c, e⟩
        simp at e
        simp [e, hT]
    · have : i = l.length := by omega
      subst this
      simp
      cases h : tautS l
      · rfl
      · obtain ⟨x, hx, hx2⟩ := List.any_eq_true.1 h
        obtain ⟨j, hj, rfl⟩ := List.getElem_of_mem hx
        rw [ho j hj hj] at hx2; cases hx2
end Go.AX
