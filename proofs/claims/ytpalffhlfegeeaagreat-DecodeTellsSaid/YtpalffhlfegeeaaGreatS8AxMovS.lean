/-
  Contracts: truths of orders and of rows of states.
-/
import Derived.Test.YtpalffhlfegeeaaGreatS8AxMovO
namespace Go.AX
open Go.Proofs
set_option linter.unusedSimpArgs false

def marks (V : Nat) (idx : List Nat) : List Bool := (List.range V).map fun j => decide (j ∈ idx)
@[simp] theorem marks_length (V : Nat) (idx : List Nat) : (marks V idx).length = V := by simp [marks]
theorem marks_nil (V : Nat) : marks V [] = List.replicate V false := by
  apply List.ext_getElem <;> simp [marks]
theorem marks_set (V : Nat) (idx : List Nat) {i : Nat} : (marks V idx).set i true = marks V (idx ++ [i]) := by
  apply List.ext_getElem
  · simp [marks]
  · intro j h1 h2
    simp [marks, List.getElem_set]
    by_cases e : i = j
    · simp [e]
    · have e2 : ¬ j = i := fun h => e h.symm
      simp [e, e2]
theorem brow_set (l : List Bool) (i : Nat) (b : Bool) : (brow l).set i [BL b] = brow (l.set i b) := by simp [brow, List.map_set]
theorem brow_false (V : Nat) : List.replicate V [BL false] = brow (marks V []) := by rw [marks_nil]; simp [brow]
@[simp] theorem nwR_brow (l : List Bool) : nwR (brow l) := by
  rw [nwR_iff]; intro r hr
  obtain ⟨o, _, rfl⟩ := List.mem_map.1 hr
  exact ⟨trivial, trivial⟩
theorem irow_take (l : List Int) (i : Nat) : List.take i (irow l) = irow (l.take i) := by simp [irow, List.map_take]

def truthsPV (q : Bool) : Option (List Bool) → PV
  | some l => .tup [.seq q 1 (brow l), BL true]
  | none => .tup [.lit (.slice none 0 0), BL false]
def markAt (n m k a b : Int) : Nat := (varS n m k a b - 1).toNat
theorem varsN_eq {n m : Int} (h : sizeOk n m = true) : varsN n m = n * n + n + (n + 1) * m ∧ 0 ≤ n * n ∧ n * n ≤ 4096 ∧ 0 ≤ (n + 1) * m ∧ (n + 1) * m ≤ 65 * 32 := by
  have hs := sizeOk_iff.1 h
  have h8 : 0 ≤ n * n := Int.mul_nonneg hs.1 hs.1
  have h9 : n * n ≤ 64 * 64 := Int.mul_le_mul hs.2.1 hs.2.1 hs.1 (by omega)
  have ha : 0 ≤ (n + 1) * m := Int.mul_nonneg (by omega) (by omega)
  have hb : (n + 1) * m ≤ 65 * 32 := Int.mul_le_mul (by omega) (by omega) (by omega) (by omega)
  exact ⟨w64_id (by omega) (by omega), h8, h9, ha, hb⟩
theorem mark_in {n m k a b : Int} (h : varOk n m k a b = true) : varS n m k a b = (markAt n m k a b : Int) + 1 ∧ (markAt n m k a b : Int) < varsN n m := by
  have hb := block_small h
  have hv : varS n m k a b = blockFrom n k + a * blockWide n m k + b + 1 := by rw [varS, if_pos h]
  obtain ⟨h1, h2, h3, h4, h5, h6, h7⟩ := varOk_iff.1 h
  obtain ⟨e1, e2, e3, e4, e5⟩ := varsN_eq h1
  have hs := sizeOk_iff.1 h1
  have hlt : blockFrom n k + a * blockWide n m k + b < varsN n m := by
    rw [e1]
    have hk : k = 1 ∨ k = 2 ∨ k = 3 := by omega
    rcases hk with rfl | rfl | rfl
    · simp [blockFrom, blockWide, blockTall] at h5 h7 ⊢
      have := Int.mul_le_mul_of_nonneg_right (show a ≤ n - 1 by omega) hs.1
      rw [Int.sub_mul] at this
      omega
    · simp [blockFrom, blockWide, blockTall] at h5 h7 ⊢
      omega
    · simp [blockFrom, blockWide, blockTall] at h5 h7 ⊢
      have := Int.mul_le_mul_of_nonneg_right (show a ≤ n by omega) (show 0 ≤ m by omega)
      rw [Int.add_mul, Int.one_mul]
      omega
  unfold markAt
  omega

def plIdx (n m : Int) (order : List Int) (k : Nat) : List Nat := (List.range k).map fun (j : Nat) => markAt n m 1 (order.getD j 0) j
def plAt (n : Int) (order : List Int) (k : Nat) : Prop := 0 ≤ order.getD k 0 ∧ order.getD k 0 < n ∧ ¬ order.getD k 0 ∈ order.take k
instance (n : Int) (order : List Int) (k : Nat) : Decidable (plAt n order k) := by unfold plAt; infer_instance
def plS (n m : Int) (order : List Int) : Option (List Bool) :=
  if sizeOk n m = true ∧ (order.length : Int) = n ∧ ∀ k, k < order.length → plAt n order k then some (marks (varsN n m).toNat (plIdx n m order order.length)) else none

set_option maxRecDepth 16000 in
theorem plTruths_ok (n m : Int) (order : List Int) (hl : order.length ≤ 140737488355328) : APure Tryz.prog 37 [.agg [I64 n, I64 m], .seq false 1 (irow order)] (fun r => r = .pv (truthsPV true (plS n m order))) := by
  refine apureN [4, 5] hmo Tryz.func37 (by kernel_rfl) rfl (fun _ _ => results_tmp2 rfl _ _ _) (by kernel_rfl) (Nat.le_of_ble_eq_true rfl) ?_
  simp
  refine CallK.intro (check_ok _ _) (by simp) ?_
  cases hc : sizeOk n m
  · have : plS n m order = none := by unfold plS; rw [if_neg]; simp [hc]
    simp [hc, this, truthsPV]
  simp [hc]
  refine ⟨fun c => ?_, fun c => ?_⟩
  · have : plS n m order = none := by unfold plS; rw [if_neg]; rintro ⟨_, h2, _⟩; omega
    simp [this, truthsPV]
  have hv := vars_ok n m
  rw [if_pos hc] at hv
  refine CallK.intro hv (by simp) ?_
  simp
  obtain ⟨e1, e2, e3, e4, e5⟩ := varsN_eq hc
  have hs := sizeOk_iff.1 hc
  refine ⟨by omega, by omega, ?_⟩
  obtain ⟨V, hV⟩ := Int.eq_ofNat_of_zero_le (show 0 ≤ varsN n m by omega)
  have hV' : varsN n m = (V : Int) := hV
  have hVn : (varsN n m).toNat = V := by omega
  refine ALoop.intro (S := fun (i : Nat) => ⟨[(6, .own true 1 (brow (marks V (plIdx n m order i)))), (1, .pv (.seq false 1 (irow order))), (2, .pv (.ptr 0 0)), (22, .pv (.seq false 1 (irow order))), (23, .pv (I64 order.length)), (24, .pv (I64 i))], [[.pv (I64 n), .pv (I64 m)]]⟩) (fun i => i ≤ order.length ∧ ∀ k, k < i → plAt n order k) (fun i => order.length - i) 0 ?_ ?_ ?_
  · exact Weak.to (by simp [hV', plIdx, brow_false]) (by simp) (by simp) (by simp) (by simp)
  · exact ⟨by omega, fun k hk => by omega⟩
  · intro i ⟨hi, ho⟩
    by_cases h : i < order.length
    · have hw : w64 ((i : Int) + 1) = ((i + 1 : Nat) : Int) := by rw [w64_id (by omega) (by omega)]; omega
      have hg : order.getD i 0 = order[i] := by simp [h]
      have hle : i ≤ order.length := hi
      simp [h, irow_take, hle]
      refine CallG.intro (r := .pv (BL (decide (order[i] ∈ order.take i)))) (fun _ => contains_ok (order.take i) order[i] (by simp; omega)) (by simp) ?_
      simp
      refine ⟨fun d => ?_, fun d1 d2 d3 => ?_⟩
      · have : plS n m order = none := by
          unfold plS; rw [if_neg]; rintro ⟨_, _, h3⟩
          have := h3 i h
          unfold plAt at this
          rw [hg] at this
          rcases d with d | d
          · omega
          · exact this.2.2 d
        simp [this, truthsPV]
      · have hvo : varOk n m 1 order[i] i = true := varOk_iff.2 ⟨hc, by decide, by decide, d1, by simpa [blockTall] using d2, by omega, by simp [blockWide]; omega⟩
        have hm := mark_in hvo
        have hid : plIdx n m order (i + 1) = plIdx n m order i ++ [markAt n m 1 order[i] i] := by
          unfold plIdx; rw [List.range_succ, List.map_append]; simp [h]
        have hva := var_ok n m 1 order[i] i
        rw [hm.1] at hva
        generalize markAt n m 1 order[i] i = x at hm hva hid
        have hwx : w64 (x : Int) = (x : Int) := w64_id (by omega) (by omega)
        have hxV : x < V := by omega
        refine CallK.intro hva (by simp) ?_
        simp [hwx, hxV, brow_set, marks_set]
        refine ⟨i + 1, by dsimp only; omega, ⟨by omega, fun k hk => ?_⟩, Weak.to ?_ (by simp) (by simp) (by simp) (by simp)⟩
        · by_cases e : k = i
          · subst e; unfold plAt; rw [hg]; exact ⟨d1, d2, d3⟩
          · exact ho k (by omega)
        · simp [hw, hid, brow_set, marks_set]
    · have : i = order.length := by omega
      subst this
      have : plS n m order = some (marks V (plIdx n m order order.length)) := by rw [plS, if_pos ⟨hc, c, ho⟩, hVn]
      simp [this, truthsPV]


theorem atS_ok (n m a b : Int) : APure Tryz.prog 65 [.agg [I64 n, I64 m], I64 a, I64 b] (fun r => r = .pv (I64 (varS n m 3 a b))) := by
  refine apure1 hmo Tryz.func65 (by kernel_rfl) rfl rfl (by kernel_rfl) (Nat.le_of_ble_eq_true rfl) ?_
  simp
  refine CallK.intro (var_ok n m 3 a b) (by simp) ?_
  simp

def stIdx (n m : Int) (row : List Int) (k : Nat) : List Nat := (List.range k).map fun (j : Nat) => markAt n m 3 j (row.getD j 0)
def stAt (m : Int) (row : List Int) (k : Nat) : Prop := 0 ≤ row.getD k 0 ∧ row.getD k 0 < m
instance (m : Int) (row : List Int) (k : Nat) : Decidable (stAt m row k) := by unfold stAt; infer_instance
def stS (n m : Int) (row : List Int) : Option (List Bool) :=
  if sizeOk n m = true ∧ (row.length : Int) = n + 1 ∧ ∀ k, k < row.length → stAt m row k then some (marks (varsN n m).toNat (stIdx n m row row.length)) else none

set_option maxRecDepth 16000 in
theorem stTruths_ok (n m : Int) (row : List Int) (hl : row.length ≤ 140737488355328) : APure Tryz.prog 38 [.agg [I64 n, I64 m], .seq false 1 (irow row)] (fun r => r = .pv (truthsPV true (stS n m row))) := by
  refine apureN [4, 5] hmo Tryz.func38 (by kernel_rfl) rfl (fun _ _ => results_tmp2 rfl _ _ _) (by kernel_rfl) (Nat.le_of_ble_eq_true rfl) ?_
  simp
  refine CallK.intro (check_ok _ _) (by simp) ?_
  cases hc : sizeOk n m
  · have : stS n m row = none := by unfold stS; rw [if_neg]; simp [hc]
    simp [hc, this, truthsPV]
  have hs := sizeOk_iff.1 hc
  have hw1 : w64 (n + 1) = n + 1 := w64_id (by omega) (by omega)
  simp [hc, hw1]
  refine ⟨fun c => ?_, fun c => ?_⟩
  · have : stS n m row = none := by unfold stS; rw [if_neg]; rintro ⟨_, h2, _⟩; omega
    simp [this, truthsPV]
  have hv := vars_ok n m
  rw [if_pos hc] at hv
  refine CallK.intro hv (by simp) ?_
  simp
  obtain ⟨e1, e2, e3, e4, e5⟩ := varsN_eq hc
  refine ⟨by omega, by omega, ?_⟩
  obtain ⟨V, hV⟩ := Int.eq_ofNat_of_zero_le (show 0 ≤ varsN n m by omega)
  have hV' : varsN n m = (V : Int) := hV
  have hVn : (varsN n m).toNat = V := by omega
  refine ALoop.intro (S := fun (i : Nat) => ⟨[(6, .own true 1 (brow (marks V (stIdx n m row i)))), (2, .pv (.ptr 0 0)), (23, .pv (.seq false 1 (irow row))), (24, .pv (I64 row.length)), (25, .pv (I64 i))], [[.pv (I64 n), .pv (I64 m)]]⟩) (fun i => i ≤ row.length ∧ ∀ k, k < i → stAt m row k) (fun i => row.length - i) 0 ?_ ?_ ?_
  · exact Weak.to (by simp [hV', stIdx, brow_false]) (by simp) (by simp) (by simp) (by simp)
  · exact ⟨by omega, fun k hk => by omega⟩
  · intro i ⟨hi, ho⟩
    by_cases h : i < row.length
    · have hw : w64 ((i : Int) + 1) = ((i + 1 : Nat) : Int) := by rw [w64_id (by omega) (by omega)]; omega
      have hg : row.getD i 0 = row[i] := by simp [h]
      simp [h]
      refine ⟨fun d => ?_, fun d1 d2 => ?_⟩
      · have : stS n m row = none := by
          unfold stS; rw [if_neg]; rintro ⟨_, _, h3⟩
          have := h3 i h
          unfold stAt at this
          rw [hg] at this
          omega
        simp [this, truthsPV]
      · have hvo : varOk n m 3 i row[i] = true := varOk_iff.2 ⟨hc, by decide, by decide, by omega, by simp [blockTall]; omega, d1, by simpa [blockWide] using d2⟩
        have hm := mark_in hvo
        have hid : stIdx n m row (i + 1) = stIdx n m row i ++ [markAt n m 3 i row[i]] := by
          unfold stIdx; rw [List.range_succ, List.map_append]; simp [h]
        have hva := atS_ok n m i row[i]
        rw [hm.1] at hva
        generalize markAt n m 3 i row[i] = x at hm hva hid
        have hwx : w64 (x : Int) = (x : Int) := w64_id (by omega) (by omega)
        have hxV : x < V := by omega
        refine CallK.intro hva (by simp) ?_
        simp [hwx, hxV, brow_set, marks_set]
        refine ⟨i + 1, by dsimp only; omega, ⟨by omega, fun k hk => ?_⟩, Weak.to ?_ (by simp) (by simp) (by simp) (by simp)⟩
        · by_cases e : k = i
          · subst e; unfold stAt; rw [hg]; exact ⟨d1, d2⟩
          · exact ho k (by omega)
        · simp [hw, hid, brow_set, marks_set]
    · have : i = row.length := by omega
      subst this
      have : stS n m row = some (marks V (stIdx n m row row.length)) := by rw [stS, if_pos ⟨hc, c, ho⟩, hVn]
      simp [this, truthsPV]

end Go.AX
