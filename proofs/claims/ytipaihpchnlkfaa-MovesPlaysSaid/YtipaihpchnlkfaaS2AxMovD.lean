/-
  Contracts: lists that are the same; where a number stands; plays.
-/
import Derived.Test.YtipaihpchnlkfaaS2AxMovC
namespace Go.AX
open Go.Proofs

/-! ### Lists that are the same -/
@[simp] theorem belowR_crowF (k : Nat) (l : List (List Int)) : belowR k (l.map crowF) := by
  rw [belowR_iff]; intro r hr x hx
  obtain ⟨o, _, rfl⟩ := List.mem_map.1 hr
  simp [crowF] at hx; subst hx; exact belowR_irow k o
@[simp] theorem frzR_crowF (r : Nat → Nat → PV) (l : List (List Int)) : frzR r (l.map crowF) = l.map crowF := by
  rw [frzR_map, List.map_map]
  apply List.map_congr_left
  intro x _
  simp [crowF]
theorem eq_of_get {α : Type} {a b : List α} (hl : a.length = b.length) (h : ∀ j (h1 : j < a.length), a[j] = b[j]'(hl ▸ h1)) : a = b := List.ext_getElem hl fun j h1 _ => h j h1

theorem sameInts_ok (a b : List Int) (hl : a.length ≤ 140737488355328) : APure Try.prog 25 [.seq false 1 (irow a), .seq false 1 (irow b)] (fun r => r = .pv (BL (decide (a = b)))) := by
  refine apure1 hmo Try.func25 (by kernel_rfl) rfl rfl (by kernel_rfl) (Nat.le_of_ble_eq_true rfl) ?_
  simp
  refine ⟨fun h => fun e => h (by rw [e]), fun h => ?_⟩
  have hl2 : a.length = b.length := by omega
  refine ALoop.intro (S := fun (i : Nat) => ⟨[(0, .pv (.seq false 1 (irow a))), (1, .pv (.seq false 1 (irow b))), (5, .pv (I64 i))], []⟩) (fun i => i ≤ a.length ∧ ∀ j (h1 : j < a.length), j < i → a[j] = b[j]'(hl2 ▸ h1)) (fun i => a.length - i) 0 ?_ ?_ ?_
  · exact Weak.to (by simp) rfl (by simp) (by simp) (by simp)
  · exact ⟨by omega, fun j _ hj => by omega⟩
  · intro i ⟨hi, ho⟩
    by_cases h3 : i < a.length
    · have hw : w64 ((i : Int) + 1) = ((i + 1 : Nat) : Int) := by rw [w64_id (by omega) (by omega)]; omega
      have h4 : i < b.length := by omega
      simp [h3, h4]
      refine ⟨fun c => fun e => c (by subst e; rfl), fun c => ⟨i + 1, by dsimp only; omega, ⟨by omega, fun j h1 hj => ?_⟩, Weak.to ?_ rfl (by simp) (by simp) (by simp)⟩⟩
      · by_cases e : j = i
        · subst e; exact c
        · exact ho j h1 (by omega)
      · simp [hw]
    · simp [h3]
      exact eq_of_get hl2 fun j h1 => ho j h1 (by omega)

theorem sameRows_ok (a b : List (List Int)) (hl : a.length ≤ 140737488355328) (hr : ∀ x ∈ a, x.length ≤ 140737488355328) : APure Try.prog 20 [.seq false 1 (a.map crowF), .seq false 1 (b.map crowF)] (fun r => r = .pv (BL (decide (a = b)))) := by
  refine apure1 hmo Try.func20 (by kernel_rfl) rfl rfl (by kernel_rfl) (Nat.le_of_ble_eq_true rfl) ?_
  simp
  refine ⟨fun h => fun e => h (by rw [e]), fun h => ?_⟩
  have hl2 : a.length = b.length := by omega
  refine ALoop.intro (S := fun (i : Nat) => ⟨[(0, .pv (.seq false 1 (a.map crowF))), (1, .pv (.seq false 1 (b.map crowF))), (5, .pv (I64 i))], []⟩) (fun i => i ≤ a.length ∧ ∀ j (h1 : j < a.length), j < i → a[j] = b[j]'(hl2 ▸ h1)) (fun i => a.length - i) 0 ?_ ?_ ?_
  · exact Weak.to (by simp) rfl (by simp) (by simp) (by simp)
  · exact ⟨by omega, fun j _ hj => by omega⟩
  · intro i ⟨hi, ho⟩
    by_cases h3 : i < a.length
    · have hw : w64 ((i : Int) + 1) = ((i + 1 : Nat) : Int) := by rw [w64_id (by omega) (by omega)]; omega
      have h4 : i < b.length := by omega
      simp [h3, h4, crowF]
      refine CallQ0.intro (sameInts_ok a[i] b[i] (hr _ (List.getElem_mem h3))) (by simp) ?_
      simp
      refine ⟨fun c => fun e => c (by subst e; rfl), fun c => ⟨i + 1, by dsimp only; omega, ⟨by omega, fun j h1 hj => ?_⟩, Weak.to ?_ rfl (by simp) (by simp) (by simp)⟩⟩
      · by_cases e : j = i
        · subst e; exact c
        · exact ho j h1 (by omega)
      · simp [hw, crowF]
    · simp [h3]
      exact eq_of_get hl2 fun j h1 => ho j h1 (by omega)

/-! ### Where a number stands -/
def posS (l : List Int) (n : Int) : Int := idxS (fun x => decide (x = n)) l
theorem posS_nn (l : List Int) (n : Int) : 0 ≤ posS l n ↔ n ∈ l := by
  unfold posS idxS
  cases h : l.findIdx? (fun x => decide (x = n)) with
  | none =>
    rw [List.findIdx?_eq_none_iff] at h
    refine ⟨fun h2 => absurd h2 (by decide), fun h2 => by have := h n h2; simp at this⟩
  | some i =>
    rw [List.findIdx?_eq_some_iff_getElem] at h
    obtain ⟨h1, h2, _⟩ := h
    refine ⟨fun _ => ?_, fun _ => by dsimp only; omega⟩
    have : l[i] = n := by simpa using h2
    exact this ▸ List.getElem_mem h1

theorem refPlace_ok (l : List Int) (n : Int) (hl : l.length ≤ 140737488355328) : APure Try.prog 74 [.seq false 1 (irow l), I64 n] (fun r => r = .pv (I64 (posS l n))) := by
  refine apure1 hmo Try.func74 (by kernel_rfl) rfl rfl (by kernel_rfl) (Nat.le_of_ble_eq_true rfl) ?_
  simp
  refine ALoop.intro (S := fun (i : Nat) => ⟨[(0, .pv (.seq false 1 (irow l))), (1, .pv (I64 n)), (5, .pv (I64 i))], []⟩) (fun i => i ≤ l.length ∧ ∀ j (hj : j < l.length), j < i → (fun x => decide (x = n)) l[j] = false) (fun i => l.length - i) 0 ?_ ?_ ?_
  · exact Weak.to (by simp) rfl (by simp) (by simp) (by simp)
  · exact ⟨by omega, fun j hj h => by omega⟩
  · intro i ⟨hi, ho⟩
    by_cases h : i < l.length
    · have hw : w64 ((i : Int) + 1) = ((i + 1 : Nat) : Int) := by rw [w64_id (by omega) (by omega)]; omega
      simp [h]
      refine ⟨fun c => by rw [posS, idxS_at h ho (by simpa using c)], fun c => ⟨i + 1, by dsimp only; omega, ⟨by omega, fun j hj hji => ?_⟩, Weak.to ?_ rfl (by simp) (by simp) (by simp)⟩⟩
      · by_cases e : j = i
        · subst e; simpa using c
        · simpa using ho j hj (by omega)
      · simp [hw]
    · simp [h]
      rw [posS, idxS_none (fun j hj => ho j hj (by omega))]

theorem index_ok (l : List Int) (n : Int) (hl : l.length ≤ 140737488355328) : APure Try.prog 107 [.seq false 1 (irow l), I64 n] (fun r => r = .pv (I64 (posS l n))) := by
  refine apure1 hmo Try.func107 (by kernel_rfl) rfl rfl (by kernel_rfl) (Nat.le_of_ble_eq_true rfl) ?_
  simp
  refine ALoop.intro (S := fun (i : Nat) => ⟨[(0, .pv (.seq false 1 (irow l))), (1, .pv (I64 n)), (7, .pv (I64 l.length)), (8, .pv (I64 i))], []⟩) (fun i => i ≤ l.length ∧ ∀ j (hj : j < l.length), j < i → (fun x => decide (x = n)) l[j] = false) (fun i => l.length - i) 0 ?_ ?_ ?_
  · exact Weak.to (by simp) rfl (by simp) (by simp) (by simp)
  · exact ⟨by omega, fun j hj h => by omega⟩
  · intro i ⟨hi, ho⟩
    by_cases h : i < l.length
    · have hw : w64 ((i : Int) + 1) = ((i + 1 : Nat) : Int) := by rw [w64_id (by omega) (by omega)]; omega
      simp [h]
      refine ⟨fun c => by rw [posS, idxS_at h ho (by simpa using c.symm)], fun c => ⟨i + 1, by dsimp only; omega, ⟨by omega, fun j hj hji => ?_⟩, Weak.to ?_ rfl (by simp) (by simp) (by simp)⟩⟩
      · by_cases e : j = i
        · subst e; simpa using fun e => c e.symm
        · simpa using ho j hj (by omega)
      · simp [hw]
    · simp [h]
      rw [posS, idxS_none (fun j hj => ho j hj (by omega))]

theorem contains_ok (l : List Int) (n : Int) (hl : l.length ≤ 140737488355328) : APure Try.prog 76 [.seq false 1 (irow l), I64 n] (fun r => r = .pv (BL (decide (n ∈ l)))) := by
  refine apure1 hmo Try.func76 (by kernel_rfl) rfl rfl (by kernel_rfl) (Nat.le_of_ble_eq_true rfl) ?_
  simp
  refine CallK.intro (index_ok l n hl) (by simp) ?_
  simp [posS_nn]

/-! ### Closed objects and operations -/
def oneO : Obj := ⟨1, 1, 0, [⟨0, 0, 0, 7⟩]⟩
theorem one35_ok : APure Try.prog 62 [] (fun r => r = .pv (.agg [I64 1, I64 1, I64 0, .seq true 4 [[I64 0, I64 0, I64 0, I64 7]]])) := by
  refine apureC hmo Try.func62 (by kernel_rfl) rfl rfl (by kernel_rfl) (Nat.le_of_ble_eq_true rfl) ?_
  simp
theorem ended35_ok (r : Int) : APure Try.prog 63 [I64 r] (fun x => x = .pv (.agg (orow ⟨1, 0, 0, 1, r⟩))) := by
  refine apureC hmo Try.func63 (by kernel_rfl) rfl rfl (by kernel_rfl) (Nat.le_of_ble_eq_true rfl) ?_
  simp [orow]

/-! ### May, proper -/
theorem mayM_ok (o : Obj) (x : Op5) (state : Int) (hl : o.rows.length ≤ 140737488355328) : APure Try.prog 18 [robj o, .agg (orow x), I64 state] (fun r => r = .pv (mayPV (mayS o x state))) := by
  refine apureN [6, 7] hmo Try.func18 (by kernel_rfl) rfl (fun _ _ => results_tmp2 rfl _ _ _) (by kernel_rfl) (Nat.le_of_ble_eq_true rfl) ?_
  have h := may2_ok o x state hl
  simp only [robj, orow] at h
  cases hm : mayS o x state <;> rw [hm] at h <;> simp only [mayPV] at h
  all_goals
    simp [robj, orow]
    refine CallK.intro h (by simp) ?_
    simp [mayPV]

def brow (l : List Bool) : List (List PV) := l.map fun b => [BL b]
@[simp] theorem brow_length (l : List Bool) : (brow l).length = l.length := by simp [brow]
@[simp] theorem belowR_brow (k : Nat) (l : List Bool) : belowR k (brow l) := by
  rw [belowR_iff]; intro r hr x hx
  obtain ⟨o, _, rfl⟩ := List.mem_map.1 hr
  simp at hx; subst hx; trivial
@[simp] theorem frzR_brow (r : Nat → Nat → PV) (l : List Bool) : frzR r (brow l) = brow l := by
  rw [brow, frzR_map, List.map_map]; congr 1
@[simp] theorem brow_get (l : List Bool) (i : Nat) : (brow l)[i]? = l[i]?.map fun n => [BL n] := by simp [brow]
@[simp] theorem brow_elem (l : List Bool) (i : Nat) (h : i < (brow l).length) : (brow l)[i]'h = [BL (l[i]'(by simpa using h))] := by simp [brow]

def properAt (ops : List Op5) (order : List Int) (inn : List Bool) (i : Nat) : Prop := (i : Int) ∈ order ∧ ((ops.getD i default).e ≠ -1 → inn.getD i false = true)
instance (ops : List Op5) (order : List Int) (inn : List Bool) (i : Nat) : Decidable (properAt ops order inn i) := by unfold properAt; infer_instance
def playOk (ops : List Op5) (order : List Int) (inn : List Bool) : Bool := decide (order.length = ops.length ∧ inn.length = ops.length ∧ ∀ i, i < ops.length → properAt ops order inn i)

set_option maxRecDepth 8000 in
theorem properM_ok (ops : List Op5) (order : List Int) (inn : List Bool) (hl : ops.length ≤ 140737488355328) : APure Try.prog 73 [ovec ops, .seq false 1 (irow order), .seq false 1 (brow inn)] (fun r => r = .pv (BL (playOk ops order inn))) := by
  refine apure1 hmo Try.func73 (by kernel_rfl) rfl rfl (by kernel_rfl) (Nat.le_of_ble_eq_true rfl) ?_
  simp [ovec]
  refine ⟨fun h => ?_, fun h1 h2 => ?_⟩
  · simp only [playOk, decide_eq_false_iff_not]; omega
  have h1 : order.length = ops.length := by omega
  have h2 : inn.length = ops.length := by omega
  have hP : ∀ (b : Bool), ((∀ i, i < ops.length → properAt ops order inn i) ↔ b = true) → playOk ops order inn = b := by
    intro b hb
    cases b <;> simp only [playOk, h1, h2, true_and, decide_eq_true_eq, decide_eq_false_iff_not] <;> simpa using hb
  refine ALoop.intro (S := fun (i : Nat) => ⟨[(0, .pv (.seq false 5 (ops.map orow))), (1, .pv (.seq false 1 (irow order))), (2, .pv (.seq false 1 (brow inn))), (21, .pv (.seq false 5 (ops.map orow))), (22, .pv (I64 ops.length)), (23, .pv (I64 i))], []⟩) (fun i => i ≤ ops.length ∧ ∀ j, j < i → properAt ops order inn j) (fun i => ops.length - i) 0 ?_ ?_ ?_
  · exact Weak.to (by simp) rfl (by simp) (by simp) (by simp)
  · exact ⟨by omega, fun j hj => by omega⟩
  · intro i ⟨hi, ho⟩
    by_cases h : i < ops.length
    · have hw : w64 ((i : Int) + 1) = ((i + 1 : Nat) : Int) := by rw [w64_id (by omega) (by omega)]; omega
      have h3 : i < inn.length := by omega
      have hg : ops.getD i default = ops[i] := by simp [h]
      have hg2 : inn.getD i false = inn[i] := by simp [h3]
      simp [h, orow]
      refine CallK.intro (contains_ok order i (by omega)) (by simp) ?_
      simp [h3]
      refine ⟨fun c => ⟨c, fun c2 => ⟨c, c2⟩⟩, fun c => hP false ?_, fun c c2 => ⟨i + 1, by dsimp only; omega, ⟨by omega, fun j hj => ?_⟩, Weak.to ?_ (by simp) (by simp) (by simp) (by simp)⟩⟩
      · simp
        refine ⟨i, h, fun hh => ?_⟩
        unfold properAt at hh
        rw [hg, hg2] at hh
        grind
      · by_cases e : j = i
        · subst e
          unfold properAt
          rw [hg, hg2]
          grind
        · exact ho j (by omega)
      · simp [hw, orow]
    · simp [h]
      refine hP true ?_
      simp
      exact fun j hj => ho j (by omega)

end Go.AX
