/-
  Contracts: clauses of moves.
  Contracts: lists that are the same; where a number stands; plays.
  Contracts: plays.
  Contracts: truths of orders and of rows of states.
-/
import Derived.Test.YtjhchangnkmedaaS6AxMovB
import Derived.Test.YtjhchangnkmedaaS6AxCntJ
namespace Go.AX
open Go.Proofs

def sizeP (o : Obj) (ops : List Op5) : Int × Int := if (objChk o).2 = 0 ∧ (chk ops).2 = 0 then ((ops.length : Int), o.st) else (0, 0)
def mayS (o : Obj) (x : Op5) (state : Int) : Option Int :=
  match moveS o state x.k with
  | some (n, r) => if x.e ≠ -1 ∧ x.r ≠ r then none else some n
  | none => none
def mayPV : Option Int → PV
  | some n => .tup [I64 n, BL true]
  | none => .tup [I64 0, BL false]
def optL : Option Int → (Int → Int) → List Int
  | some x, f => [f x]
  | none, _ => []
def movB (o : Obj) (n m : Int) (x : Op5) (i k b : Nat) : List (List Int) :=
  ([w64 (-varS n m 1 i k), w64 (-varS n m 2 i 0), w64 (-varS n m 3 k b)] ++ optL (mayS o x b) (fun y => varS n m 3 ((k : Int) + 1) y)) :: (if x.e = -1 then [[w64 (-varS n m 1 i k), varS n m 2 i 0, w64 (-varS n m 3 k b), varS n m 3 ((k : Int) + 1) b]] else [])
def movK (o : Obj) (n m : Int) (x : Op5) (i k b : Nat) : List (List Int) := (List.range b).flatMap fun b => movB o n m x i k b
def movI (o : Obj) (n m : Int) (x : Op5) (M i k : Nat) : List (List Int) := (List.range k).flatMap fun k => movK o n m x i k M
def movH (n m : Int) (x : Op5) (i : Nat) : List (List Int) := if x.e = -1 then [] else [[varS n m 2 i 0]]
def movTo (o : Obj) (n m : Int) (N M : Nat) (ops : List Op5) (i : Nat) : List (List Int) := (List.range i).flatMap fun i => movH n m (ops.getD i default) i ++ movI o n m (ops.getD i default) M i N
theorem movK_succ (o : Obj) (n m : Int) (x : Op5) (i k b : Nat) : movK o n m x i k (b + 1) = movK o n m x i k b ++ movB o n m x i k b := by
  unfold movK; rw [List.range_succ, List.flatMap_append]; simp
theorem movI_succ (o : Obj) (n m : Int) (x : Op5) (M i k : Nat) : movI o n m x M i (k + 1) = movI o n m x M i k ++ movK o n m x i k M := by
  unfold movI; rw [List.range_succ, List.flatMap_append]; simp
theorem movTo_succ (o : Obj) (n m : Int) (N M : Nat) {ops : List Op5} {i : Nat} (h : i < ops.length) : movTo o n m N M ops (i + 1) = movTo o n m N M ops i ++ (movH n m ops[i] i ++ movI o n m ops[i] M i N) := by
  unfold movTo; rw [List.range_succ, List.flatMap_append]; simp [h]
theorem movB_length (o : Obj) (n m : Int) (x : Op5) (i k b : Nat) : (movB o n m x i k b).length ≤ 2 := by
  unfold movB; split <;> simp
theorem movK_length (o : Obj) (n m : Int) (x : Op5) (i k : Nat) : ∀ b, (movK o n m x i k b).length ≤ b * 2
  | 0 => by simp [movK]
  | b + 1 => by
    have ih := movK_length o n m x i k b
    have := movB_length o n m x i k b
    rw [movK_succ, List.length_append]; omega
theorem movI_length (o : Obj) (n m : Int) (x : Op5) (M i : Nat) : ∀ k, (movI o n m x M i k).length ≤ k * (M * 2)
  | 0 => by simp [movI]
  | k + 1 => by
    have ih := movI_length o n m x M i k
    have := movK_length o n m x i k M
    rw [movI_succ, List.length_append, Nat.succ_mul]; omega
theorem movTo_length (o : Obj) (n m : Int) (N M : Nat) (ops : List Op5) : ∀ i, i ≤ ops.length → (movTo o n m N M ops i).length ≤ i * (1 + N * (M * 2))
  | 0, _ => by simp [movTo]
  | i + 1, h => by
    have ih := movTo_length o n m N M ops i (by omega)
    have h1 := movI_length o n m ops[i] M i N
    have h2 : (movH n m ops[i] i).length ≤ 1 := by unfold movH; split <;> simp
    rw [movTo_succ o n m N M (show i < ops.length by omega), List.length_append, List.length_append, Nat.succ_mul]; omega
def movesC (o : Obj) (ops : List Op5) : List (List Int) := if sizeOk (sizeP o ops).1 (sizeP o ops).2 then movTo o (sizeP o ops).1 (sizeP o ops).2 (sizeP o ops).1.toNat (sizeP o ops).2.toNat ops ops.length else []

end Go.AX

namespace Go.AX
open Go.Proofs

/-! ### Lists that are the same -/
@[simp] theorem belowR_crowF (k : Nat) (l : List (List Int)) : belowR k (l.map crowF) := by
  rw [belowR_iff]; intro r hr x hx
  obtain ⟨o, _, rfl⟩ := List.mem_map.1 hr
  simp [crowF] at hx; subst hx; exact belowR_irow k o
@[simp] theorem frzR_crowF (r : Nat → Nat → PV) (l : List (List Int)) : frzR r (l.map crowF) = l.map crowF := by
  rw [frzR_map, List.map_map]
  apply List.map_congr_left
  intro x _
  simp [crowF]
theorem eq_of_get {α : Type} {a b : List α} (hl : a.length = b.length) (h : ∀ j (h1 : j < a.length), a[j] = b[j]'(hl ▸ h1)) : a = b := List.ext_getElem hl fun j h1 _ => h j h1

theorem sameInts_ok (a b : List Int) (hl : a.length ≤ 140737488355328) : APure Try.prog 12 [.seq false 1 (irow a), .seq false 1 (irow b)] (fun r => r = .pv (BL (decide (a = b)))) := by
  refine apure1 hmo Try.func12 (by kernel_rfl) rfl rfl (by kernel_rfl) (Nat.le_of_ble_eq_true rfl) ?_
  simp
  refine ⟨fun h => fun e => h (by rw [e]), fun h => ?_⟩
  have hl2 : a.length = b.length := by omega
  refine ALoop.intro (S := fun (i : Nat) => ⟨[(0, .pv (.seq false 1 (irow a))), (1, .pv (.seq false 1 (irow b))), (5, .pv (I64 i))], []⟩) (fun i => i ≤ a.length ∧ ∀ j (h1 : j < a.length), j < i → a[j] = b[j]'(hl2 ▸ h1)) (fun i => a.length - i) 0 ?_ ?_ ?_
  · exact Weak.to (by simp) rfl (by simp) (by simp) (by simp)
  · exact ⟨by omega, fun j _ hj => by omega⟩
  · intro i ⟨hi, ho⟩
    by_cases h3 : i < a.length
    · have hw : w64 ((i : Int) + 1) = ((i + 1 : Nat) : Int) := by rw [w64_id (by omega) (by omega)]; omega
      have h4 : i < b.length := by omega
      simp [h3, h4]
      refine ⟨fun c => fun e => c (by subst e; rfl), fun c => ⟨i + 1, by dsimp only; omega, ⟨by omega, fun j h1 hj => ?_⟩, Weak.to ?_ rfl (by simp) (by simp) (by simp)⟩⟩
      · by_cases e : j = i
        · subst e; exact c
        · exact ho j h1 (by omega)
      · simp [hw]
    · simp [h3]
      exact eq_of_get hl2 fun j h1 => ho j h1 (by omega)

/-! ### Where a number stands -/
def posS (l : List Int) (n : Int) : Int := idxS (fun x => decide (x = n)) l
theorem posS_nn (l : List Int) (n : Int) : 0 ≤ posS l n ↔ n ∈ l := by
  unfold posS idxS
  cases h : l.findIdx? (fun x => decide (x = n)) with
  | none =>
    rw [List.findIdx?_eq_none_iff] at h
    refine ⟨fun h2 => absurd h2 (by decide), fun h2 => by have := h n h2; simp at this⟩
  | some i =>
    rw [List.findIdx?_eq_some_iff_getElem] at h
    obtain ⟨h1, h2, _⟩ := h
    refine ⟨fun _ => ?_, fun _ => by dsimp only; omega⟩
    have : l[i] = n := by simpa using h2
    exact this ▸ List.getElem_mem h1

theorem index_ok (l : List Int) (n : Int) (hl : l.length ≤ 140737488355328) : APure Try.prog 84 [.seq false 1 (irow l), I64 n] (fun r => r = .pv (I64 (posS l n))) := by
  refine apure1 hmo Try.func84 (by kernel_rfl) rfl rfl (by kernel_rfl) (Nat.le_of_ble_eq_true rfl) ?_
  simp
  refine ALoop.intro (S := fun (i : Nat) => ⟨[(0, .pv (.seq false 1 (irow l))), (1, .pv (I64 n)), (7, .pv (I64 l.length)), (8, .pv (I64 i))], []⟩) (fun i => i ≤ l.length ∧ ∀ j (hj : j < l.length), j < i → (fun x => decide (x = n)) l[j] = false) (fun i => l.length - i) 0 ?_ ?_ ?_
  · exact Weak.to (by simp) rfl (by simp) (by simp) (by simp)
  · exact ⟨by omega, fun j hj h => by omega⟩
  · intro i ⟨hi, ho⟩
    by_cases h : i < l.length
    · have hw : w64 ((i : Int) + 1) = ((i + 1 : Nat) : Int) := by rw [w64_id (by omega) (by omega)]; omega
      simp [h]
      refine ⟨fun c => by rw [posS, idxS_at h ho (by simpa using c.symm)], fun c => ⟨i + 1, by dsimp only; omega, ⟨by omega, fun j hj hji => ?_⟩, Weak.to ?_ rfl (by simp) (by simp) (by simp)⟩⟩
      · by_cases e : j = i
        · subst e; simpa using fun e => c e.symm
        · simpa using ho j hj (by omega)
      · simp [hw]
    · simp [h]
      rw [posS, idxS_none (fun j hj => ho j hj (by omega))]

theorem contains_ok (l : List Int) (n : Int) (hl : l.length ≤ 140737488355328) : APure Try.prog 48 [.seq false 1 (irow l), I64 n] (fun r => r = .pv (BL (decide (n ∈ l)))) := by
  refine apure1 hmo Try.func48 (by kernel_rfl) rfl rfl (by kernel_rfl) (Nat.le_of_ble_eq_true rfl) ?_
  simp
  refine CallK.intro (index_ok l n hl) (by simp) ?_
  simp [posS_nn]

theorem refHas_ok (l : List Int) (n : Int) (hl : l.length ≤ 140737488355328) : APure Try.prog 26 [.seq false 1 (irow l), I64 n] (fun r => r = .pv (BL (decide (n ∈ l)))) := by
  refine apure1 hmo Try.func26 (by kernel_rfl) rfl rfl (by kernel_rfl) (Nat.le_of_ble_eq_true rfl) ?_
  simp
  refine ALoop.intro (S := fun (i : Nat) => ⟨[(0, .pv (.seq false 1 (irow l))), (1, .pv (I64 n)), (5, .pv (I64 i))], []⟩) (fun i => i ≤ l.length ∧ ∀ j (h : j < l.length), j < i → l[j] ≠ n) (fun i => l.length - i) 0 ?_ ⟨Nat.zero_le _, fun j _ h => by omega⟩ ?_
  · exact Weak.to (by simp) rfl (by simp) (by simp [irow]) (by simp)
  · rintro i ⟨hi, ho⟩
    by_cases c : i < l.length
    · have hw : w64 ((i : Int) + 1) = ((i + 1 : Nat) : Int) := by rw [w64_id (by omega) (by omega)]; omega
      simp [c, irow]
      refine ⟨fun d => ?_, fun d => ⟨i + 1, by dsimp only; omega, ⟨by omega, fun j h1 h2 => ?_⟩, Weak.to (by simp [hw, irow]) rfl (by simp) (by simp [irow]) (by simp)⟩⟩
      · rw [← d]; exact List.getElem_mem c
      · by_cases e : j = i
        · subst e; exact d
        · exact ho j h1 (by omega)
    · have : i = l.length := by omega
      subst this
      simp [irow]
      intro h
      obtain ⟨j, hj, he⟩ := List.getElem_of_mem h
      exact ho j hj hj he

/-! ### Closed objects and operations -/
def oneO : Obj := ⟨1, 1, 0, [⟨0, 0, 0, 7⟩]⟩
/-! ### May, proper -/
def brow (l : List Bool) : List (List PV) := l.map fun b => [BL b]
@[simp] theorem brow_length (l : List Bool) : (brow l).length = l.length := by simp [brow]
@[simp] theorem belowR_brow (k : Nat) (l : List Bool) : belowR k (brow l) := by
  rw [belowR_iff]; intro r hr x hx
  obtain ⟨o, _, rfl⟩ := List.mem_map.1 hr
  simp at hx; subst hx; trivial
@[simp] theorem frzR_brow (r : Nat → Nat → PV) (l : List Bool) : frzR r (brow l) = brow l := by
  rw [brow, frzR_map, List.map_map]; congr 1
@[simp] theorem brow_get (l : List Bool) (i : Nat) : (brow l)[i]? = l[i]?.map fun n => [BL n] := by simp [brow]
@[simp] theorem brow_elem (l : List Bool) (i : Nat) (h : i < (brow l).length) : (brow l)[i]'h = [BL (l[i]'(by simpa using h))] := by simp [brow]

def properAt (ops : List Op5) (order : List Int) (inn : List Bool) (i : Nat) : Prop := (i : Int) ∈ order ∧ ((ops.getD i default).e ≠ -1 → inn.getD i false = true)
instance (ops : List Op5) (order : List Int) (inn : List Bool) (i : Nat) : Decidable (properAt ops order inn i) := by unfold properAt; infer_instance
def playOk (ops : List Op5) (order : List Int) (inn : List Bool) : Bool := decide (order.length = ops.length ∧ inn.length = ops.length ∧ ∀ i, i < ops.length → properAt ops order inn i)

end Go.AX

namespace Go.AX
open Go.Proofs

theorem len_of_sub {α : Type} [DecidableEq α] : ∀ (l m : List α), l.Nodup → (∀ x ∈ l, x ∈ m) → l.length ≤ m.length
  | [], _, _, _ => Nat.zero_le _
  | x :: l, m, hn, hs => by
    have hx := hs x List.mem_cons_self
    obtain ⟨h1, h2⟩ := List.nodup_cons.1 hn
    have := len_of_sub l (m.erase x) h2 (fun y hy => (List.mem_erase_of_ne (fun e => h1 (by rw [← e]; exact hy))).2 (hs y (List.mem_cons_of_mem _ hy)))
    rw [List.length_erase_of_mem hx] at this
    have hp := List.length_pos_of_mem hx
    simp only [List.length_cons]; omega
theorem range_all {n : Nat} {order : List Int} (hl : order.length = n) (h : ∀ i : Nat, i < n → (i : Int) ∈ order) : ∀ x ∈ order, 0 ≤ x ∧ x < n := by
  intro x hx
  apply Classical.byContradiction
  intro hc
  let r : List Int := (List.range n).map Int.ofNat
  have hr : ∀ y ∈ r, 0 ≤ y ∧ y < n := by
    intro y hy
    obtain ⟨i, hi, rfl⟩ := List.mem_map.1 hy
    have := List.mem_range.1 hi
    simp; omega
  have hnd : r.Nodup := by
    show List.Pairwise _ _
    rw [List.pairwise_map]
    exact (List.nodup_range (n := n)).imp fun h e => h (Int.ofNat.inj e)
  have := len_of_sub (x :: r) order (List.nodup_cons.2 ⟨fun hm => hc (hr x hm), hnd⟩) (by
    intro y hy
    rcases List.mem_cons.1 hy with rfl | hy
    · exact hx
    · obtain ⟨i, hi, rfl⟩ := List.mem_map.1 hy
      exact h i (List.mem_range.1 hi))
  simp [r] at this
  omega

theorem sizeP_all {o : Obj} {ops : List Op5} (h : sizeOk (sizeP o ops).1 (sizeP o ops).2 = true) : (objChk o).2 = 0 ∧ (chk ops).2 = 0 ∧ sizeP o ops = ((ops.length : Int), o.st) ∧ ops.length ≤ 64 ∧ 1 ≤ o.st ∧ o.st ≤ 32 := by
  unfold sizeP at h ⊢
  split at h
  · rename_i hc
    have := sizeOk_iff.1 h
    dsimp only at this
    exact ⟨hc.1, hc.2, by rw [if_pos hc], by omega, by omega, by omega⟩
  · cases h
theorem sizeP_zero {o : Obj} {ops : List Op5} (h : sizeOk (sizeP o ops).1 (sizeP o ops).2 = false) : ¬ sizeOk (sizeP o ops).1 (sizeP o ops).2 = true := by simp [h]

def playStep (o : Obj) (ops : List Op5) (inn : List Bool) (x : Nat) (out : List Int) : Option (List Int) :=
  if inn.getD x false then (mayS o (ops.getD x default) (out.getLastD 0)).map fun y => out ++ [y] else some (out ++ [out.getLastD 0])
def playTo (o : Obj) (ops : List Op5) (order : List Int) (inn : List Bool) : Nat → Option (List Int)
  | 0 => some [o.ini]
  | k + 1 => (playTo o ops order inn k).bind (playStep o ops inn (order.getD k 0).toNat)
def playS (o : Obj) (ops : List Op5) (order : List Int) (inn : List Bool) : Option (List Int) :=
  if sizeOk (sizeP o ops).1 (sizeP o ops).2 = true ∧ playOk ops order inn = true then playTo o ops order inn ops.length else none
def playPV (q : Bool) : Option (List Int) → PV
  | some l => .tup [.seq q 1 (irow l), BL true]
  | none => .tup [.lit (.slice none 0 0), BL false]
theorem playTo_none {o : Obj} {ops : List Op5} {order : List Int} {inn : List Bool} {k : Nat} (h : playTo o ops order inn k = none) : ∀ m, k ≤ m → playTo o ops order inn m = none
  | 0, hm => by rw [Nat.le_zero.1 hm] at h; exact h
  | m + 1, hm => by
    rcases Nat.lt_or_ge m k with h1 | h1
    · have : k = m + 1 := by omega
      exact this ▸ h
    · simp [playTo, playTo_none h m h1]
theorem playTo_length {o : Obj} {ops : List Op5} {order : List Int} {inn : List Bool} : ∀ {k : Nat} {out : List Int}, playTo o ops order inn k = some out → out.length = k + 1
  | 0, out, h => by cases h; rfl
  | k + 1, out, h => by
    simp only [playTo, Option.bind_eq_some_iff] at h
    obtain ⟨p, hp, h⟩ := h
    have := playTo_length hp
    unfold playStep at h
    split at h
    · simp only [Option.map_eq_some_iff] at h
      obtain ⟨y, _, rfl⟩ := h
      simp [this]
    · cases h; simp [this]
theorem playOk_iff {ops : List Op5} {order : List Int} {inn : List Bool} : playOk ops order inn = true ↔ order.length = ops.length ∧ inn.length = ops.length ∧ ∀ i, i < ops.length → properAt ops order inn i := by simp [playOk]

end Go.AX

namespace Go.AX
open Go.Proofs
set_option linter.unusedSimpArgs false

def marks (V : Nat) (idx : List Nat) : List Bool := (List.range V).map fun j => decide (j ∈ idx)
@[simp] theorem marks_length (V : Nat) (idx : List Nat) : (marks V idx).length = V := by simp [marks]
theorem marks_nil (V : Nat) : marks V [] = List.replicate V false := by
  apply List.ext_getElem <;> simp [marks]
theorem marks_set (V : Nat) (idx : List Nat) {i : Nat} : (marks V idx).set i true = marks V (idx ++ [i]) := by
  apply List.ext_getElem
  · simp [marks]
  · intro j h1 h2
    simp [marks, List.getElem_set]
    by_cases e : i = j
    · simp [e]
    · have e2 : ¬ j = i := fun h => e h.symm
      simp [e, e2]
theorem brow_set (l : List Bool) (i : Nat) (b : Bool) : (brow l).set i [BL b] = brow (l.set i b) := by simp [brow, List.map_set]
theorem brow_false (V : Nat) : List.replicate V [BL false] = brow (marks V []) := by rw [marks_nil]; simp [brow]
@[simp] theorem nwR_brow (l : List Bool) : nwR (brow l) := by
  rw [nwR_iff]; intro r hr
  obtain ⟨o, _, rfl⟩ := List.mem_map.1 hr
  exact ⟨trivial, trivial⟩
theorem irow_take (l : List Int) (i : Nat) : List.take i (irow l) = irow (l.take i) := by simp [irow, List.map_take]

def truthsPV (q : Bool) : Option (List Bool) → PV
  | some l => .tup [.seq q 1 (brow l), BL true]
  | none => .tup [.lit (.slice none 0 0), BL false]
def markAt (n m k a b : Int) : Nat := (varS n m k a b - 1).toNat
theorem varsN_eq {n m : Int} (h : sizeOk n m = true) : varsN n m = n * n + n + (n + 1) * m ∧ 0 ≤ n * n ∧ n * n ≤ 4096 ∧ 0 ≤ (n + 1) * m ∧ (n + 1) * m ≤ 65 * 32 := by
  have hs := sizeOk_iff.1 h
  have h8 : 0 ≤ n * n := Int.mul_nonneg hs.1 hs.1
  have h9 : n * n ≤ 64 * 64 := Int.mul_le_mul hs.2.1 hs.2.1 hs.1 (by omega)
  have ha : 0 ≤ (n + 1) * m := Int.mul_nonneg (by omega) (by omega)
  have hb : (n + 1) * m ≤ 65 * 32 := Int.mul_le_mul (by omega) (by omega) (by omega) (by omega)
  exact ⟨w64_id (by omega) (by omega), h8, h9, ha, hb⟩
theorem mark_in {n m k a b : Int} (h : varOk n m k a b = true) : varS n m k a b = (markAt n m k a b : Int) + 1 ∧ (markAt n m k a b : Int) < varsN n m := by
  have hb := block_small h
  have hv : varS n m k a b = blockFrom n k + a * blockWide n m k + b + 1 := by rw [varS, if_pos h]
  obtain ⟨h1, h2, h3, h4, h5, h6, h7⟩ := varOk_iff.1 h
  obtain ⟨e1, e2, e3, e4, e5⟩ := varsN_eq h1
  have hs := sizeOk_iff.1 h1
  have hlt : blockFrom n k + a * blockWide n m k + b < varsN n m := by
    rw [e1]
    have hk : k = 1 ∨ k = 2 ∨ k = 3 := by omega
    rcases hk with rfl | rfl | rfl
    · simp [blockFrom, blockWide, blockTall] at h5 h7 ⊢
      have := Int.mul_le_mul_of_nonneg_right (show a ≤ n - 1 by omega) hs.1
      rw [Int.sub_mul] at this
      omega
    · simp [blockFrom, blockWide, blockTall] at h5 h7 ⊢
      omega
    · simp [blockFrom, blockWide, blockTall] at h5 h7 ⊢
      have := Int.mul_le_mul_of_nonneg_right (show a ≤ n by omega) (show 0 ≤ m by omega)
      rw [Int.add_mul, Int.one_mul]
      omega
  unfold markAt
  omega

def plIdx (n m : Int) (order : List Int) (k : Nat) : List Nat := (List.range k).map fun (j : Nat) => markAt n m 1 (order.getD j 0) j
def plAt (n : Int) (order : List Int) (k : Nat) : Prop := 0 ≤ order.getD k 0 ∧ order.getD k 0 < n ∧ ¬ order.getD k 0 ∈ order.take k
instance (n : Int) (order : List Int) (k : Nat) : Decidable (plAt n order k) := by unfold plAt; infer_instance
def plS (n m : Int) (order : List Int) : Option (List Bool) :=
  if sizeOk n m = true ∧ (order.length : Int) = n ∧ ∀ k, k < order.length → plAt n order k then some (marks (varsN n m).toNat (plIdx n m order order.length)) else none

def stIdx (n m : Int) (row : List Int) (k : Nat) : List Nat := (List.range k).map fun (j : Nat) => markAt n m 3 j (row.getD j 0)
def stAt (m : Int) (row : List Int) (k : Nat) : Prop := 0 ≤ row.getD k 0 ∧ row.getD k 0 < m
instance (m : Int) (row : List Int) (k : Nat) : Decidable (stAt m row k) := by unfold stAt; infer_instance
def stS (n m : Int) (row : List Int) : Option (List Bool) :=
  if sizeOk n m = true ∧ (row.length : Int) = n + 1 ∧ ∀ k, k < row.length → stAt m row k then some (marks (varsN n m).toNat (stIdx n m row row.length)) else none

end Go.AX
