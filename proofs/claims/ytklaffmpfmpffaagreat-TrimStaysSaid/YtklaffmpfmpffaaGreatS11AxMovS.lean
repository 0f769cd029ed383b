/-
  Contracts: clauses of moves.
  Contracts: lists that are the same; where a number stands; plays.
  Contracts: plays.
  Contracts: truths of orders and of rows of states.
-/
import Derived.Test.YtklaffmpfmpffaaGreatS11AxMovB
import Derived.Test.YtklaffmpfmpffaaGreatS11AxCntI
namespace Go.AX
open Go.Proofs

end Go.AX

namespace Go.AX
open Go.Proofs

/-! ### Lists that are the same -/
@[simp] theorem belowR_crowF (k : Nat) (l : List (List Int)) : belowR k (l.map crowF) := by
  rw [belowR_iff]; intro r hr x hx
  obtain ⟨o, _, rfl⟩ := List.mem_map.1 hr
  simp [crowF] at hx; subst hx; exact belowR_irow k o
@[simp] theorem frzR_crowF (r : Nat → Nat → PV) (l : List (List Int)) : frzR r (l.map crowF) = l.map crowF := by
  rw [frzR_map, List.map_map]
  apply List.map_congr_left
  intro x _
  simp [crowF]
theorem eq_of_get {α : Type} {a b : List α} (hl : a.length = b.length) (h : ∀ j (h1 : j < a.length), a[j] = b[j]'(hl ▸ h1)) : a = b := List.ext_getElem hl fun j h1 _ => h j h1

theorem sameInts_ok (a b : List Int) (hl : a.length ≤ 140737488355328) : APure Tryz.prog 21 [.seq false 1 (irow a), .seq false 1 (irow b)] (fun r => r = .pv (BL (decide (a = b)))) := by
  refine apure1 hmo Tryz.func21 (by kernel_rfl) rfl rfl (by kernel_rfl) (Nat.le_of_ble_eq_true rfl) ?_
  simp
  refine ⟨fun h => fun e => h (by rw [e]), fun h => ?_⟩
  have hl2 : a.length = b.length := by omega
  refine ALoop.intro (S := fun (i : Nat) => ⟨[(0, .pv (.seq false 1 (irow a))), (1, .pv (.seq false 1 (irow b))), (5, .pv (I64 i))], []⟩) (fun i => i ≤ a.length ∧ ∀ j (h1 : j < a.length), j < i → a[j] = b[j]'(hl2 ▸ h1)) (fun i => a.length - i) 0 ?_ ?_ ?_
  · exact Weak.to (by simp) rfl (by simp) (by simp) (by simp)
  · exact ⟨by omega, fun j _ hj => by omega⟩
  · intro i ⟨hi, ho⟩
    by_cases h3 : i < a.length
    · have hw : w64 ((i : Int) + 1) = ((i + 1 : Nat) : Int) := by rw [w64_id (by omega) (by omega)]; omega
      have h4 : i < b.length := by omega
      simp [h3, h4]
      refine ⟨fun c => fun e => c (by subst e; rfl), fun c => ⟨i + 1, by dsimp only; omega, ⟨by omega, fun j h1 hj => ?_⟩, Weak.to ?_ rfl (by simp) (by simp) (by simp)⟩⟩
      · by_cases e : j = i
        · subst e; exact c
        · exact ho j h1 (by omega)
      · simp [hw]
    · simp [h3]
      exact eq_of_get hl2 fun j h1 => ho j h1 (by omega)

/-! ### Where a number stands -/
def posS (l : List Int) (n : Int) : Int := idxS (fun x => decide (x = n)) l
theorem posS_nn (l : List Int) (n : Int) : 0 ≤ posS l n ↔ n ∈ l := by
  unfold posS idxS
  cases h : l.findIdx? (fun x => decide (x = n)) with
  | none =>
    rw [List.findIdx?_eq_none_iff] at h
    refine ⟨fun h2 => absurd h2 (by decide), fun h2 => by have := h n h2; simp at this⟩
  | some i =>
    rw [List.findIdx?_eq_some_iff_getElem] at h
    obtain ⟨h1, h2, _⟩ := h
    refine ⟨fun _ => ?_, fun _ => by dsimp only; omega⟩
    have : l[i] = n := by simpa using h2
    exact this ▸ List.getElem_mem h1

theorem index_ok (l : List Int) (n : Int) (hl : l.length ≤ 140737488355328) : APure Tryz.prog 152 [.seq false 1 (irow l), I64 n] (fun r => r = .pv (I64 (posS l n))) := by
  refine apure1 hmo Tryz.func152 (by kernel_rfl) rfl rfl (by kernel_rfl) (Nat.le_of_ble_eq_true rfl) ?_
  simp
  refine ALoop.intro (S := fun (i : Nat) => ⟨[(0, .pv (.seq false 1 (irow l))), (1, .pv (I64 n)), (7, .pv (I64 l.length)), (8, .pv (I64 i))], []⟩) (fun i => i ≤ l.length ∧ ∀ j (hj : j < l.length), j < i → (fun x => decide (x = n)) l[j] = false) (fun i => l.length - i) 0 ?_ ?_ ?_
  · exact Weak.to (by simp) rfl (by simp) (by simp) (by simp)
  · exact ⟨by omega, fun j hj h => by omega⟩
  · intro i ⟨hi, ho⟩
    by_cases h : i < l.length
    · have hw : w64 ((i : Int) + 1) = ((i + 1 : Nat) : Int) := by rw [w64_id (by omega) (by omega)]; omega
      simp [h]
      refine ⟨fun c => by rw [posS, idxS_at h ho (by simpa using c.symm)], fun c => ⟨i + 1, by dsimp only; omega, ⟨by omega, fun j hj hji => ?_⟩, Weak.to ?_ rfl (by simp) (by simp) (by simp)⟩⟩
      · by_cases e : j = i
        · subst e; simpa using fun e => c e.symm
        · simpa using ho j hj (by omega)
      · simp [hw]
    · simp [h]
      rw [posS, idxS_none (fun j hj => ho j hj (by omega))]

theorem contains_ok (l : List Int) (n : Int) (hl : l.length ≤ 140737488355328) : APure Tryz.prog 94 [.seq false 1 (irow l), I64 n] (fun r => r = .pv (BL (decide (n ∈ l)))) := by
  refine apure1 hmo Tryz.func94 (by kernel_rfl) rfl rfl (by kernel_rfl) (Nat.le_of_ble_eq_true rfl) ?_
  simp
  refine CallK.intro (index_ok l n hl) (by simp) ?_
  simp [posS_nn]

/-! ### Closed objects and operations -/
/-! ### May, proper -/
def brow (l : List Bool) : List (List PV) := l.map fun b => [BL b]
@[simp] theorem brow_length (l : List Bool) : (brow l).length = l.length := by simp [brow]
@[simp] theorem belowR_brow (k : Nat) (l : List Bool) : belowR k (brow l) := by
  rw [belowR_iff]; intro r hr x hx
  obtain ⟨o, _, rfl⟩ := List.mem_map.1 hr
  simp at hx; subst hx; trivial
@[simp] theorem frzR_brow (r : Nat → Nat → PV) (l : List Bool) : frzR r (brow l) = brow l := by
  rw [brow, frzR_map, List.map_map]; congr 1
@[simp] theorem brow_get (l : List Bool) (i : Nat) : (brow l)[i]? = l[i]?.map fun n => [BL n] := by simp [brow]
@[simp] theorem brow_elem (l : List Bool) (i : Nat) (h : i < (brow l).length) : (brow l)[i]'h = [BL (l[i]'(by simpa using h))] := by simp [brow]

def properAt (ops : List Op5) (order : List Int) (inn : List Bool) (i : Nat) : Prop := (i : Int) ∈ order ∧ ((ops.getD i default).e ≠ -1 → inn.getD i false = true)
instance (ops : List Op5) (order : List Int) (inn : List Bool) (i : Nat) : Decidable (properAt ops order inn i) := by unfold properAt; infer_instance
end Go.AX

namespace Go.AX
open Go.Proofs

end Go.AX

namespace Go.AX
open Go.Proofs
set_option linter.unusedSimpArgs false

def marks (V : Nat) (idx : List Nat) : List Bool := (List.range V).map fun j => decide (j ∈ idx)
@[simp] theorem marks_length (V : Nat) (idx : List Nat) : (marks V idx).length = V := by simp [marks]
@[simp] theorem nwR_brow (l : List Bool) : nwR (brow l) := by
  rw [nwR_iff]; intro r hr
  obtain ⟨o, _, rfl⟩ := List.mem_map.1 hr
  exact ⟨trivial, trivial⟩
def plAt (n : Int) (order : List Int) (k : Nat) : Prop := 0 ≤ order.getD k 0 ∧ order.getD k 0 < n ∧ ¬ order.getD k 0 ∈ order.take k
instance (n : Int) (order : List Int) (k : Nat) : Decidable (plAt n order k) := by unfold plAt; infer_instance
def stAt (m : Int) (row : List Int) (k : Nat) : Prop := 0 ≤ row.getD k 0 ∧ row.getD k 0 < m
instance (m : Int) (row : List Int) (k : Nat) : Decidable (stAt m row k) := by unfold stAt; infer_instance
end Go.AX
