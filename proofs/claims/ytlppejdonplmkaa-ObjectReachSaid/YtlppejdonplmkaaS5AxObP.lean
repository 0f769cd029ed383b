/-
  Contracts: clauses of moves.
  Contracts: lists that are the same; where a number stands; plays.
  Contracts: plays.
  Contracts: what is awake (moves).
  Contracts: the document's objects, sizes, moves.
  Plain law: which states of an object are reached: what is gone through step by step, and what is gone through in rounds, is the same.
-/
import Derived.Test.YtlppejdonplmkaaS5AxMovB
import Derived.Test.YtlppejdonplmkaaS5AxCntJ
namespace Go.AX
open Go.Proofs

def sizeP (o : Obj) (ops : List Op5) : Int × Int := if (objChk o).2 = 0 ∧ (chk ops).2 = 0 then ((ops.length : Int), o.st) else (0, 0)
def mayS (o : Obj) (x : Op5) (state : Int) : Option Int :=
  match moveS o state x.k with
  | some (n, r) => if x.e ≠ -1 ∧ x.r ≠ r then none else some n
  | none => none
def mayPV : Option Int → PV
  | some n => .tup [I64 n, BL true]
  | none => .tup [I64 0, BL false]
def optL : Option Int → (Int → Int) → List Int
  | some x, f => [f x]
  | none, _ => []
def movB (o : Obj) (n m : Int) (x : Op5) (i k b : Nat) : List (List Int) :=
  ([w64 (-varS n m 1 i k), w64 (-varS n m 2 i 0), w64 (-varS n m 3 k b)] ++ optL (mayS o x b) (fun y => varS n m 3 ((k : Int) + 1) y)) :: (if x.e = -1 then [[w64 (-varS n m 1 i k), varS n m 2 i 0, w64 (-varS n m 3 k b), varS n m 3 ((k : Int) + 1) b]] else [])
def movK (o : Obj) (n m : Int) (x : Op5) (i k b : Nat) : List (List Int) := (List.range b).flatMap fun b => movB o n m x i k b
def movI (o : Obj) (n m : Int) (x : Op5) (M i k : Nat) : List (List Int) := (List.range k).flatMap fun k => movK o n m x i k M
def movH (n m : Int) (x : Op5) (i : Nat) : List (List Int) := if x.e = -1 then [] else [[varS n m 2 i 0]]
def movTo (o : Obj) (n m : Int) (N M : Nat) (ops : List Op5) (i : Nat) : List (List Int) := (List.range i).flatMap fun i => movH n m (ops.getD i default) i ++ movI o n m (ops.getD i default) M i N
theorem movK_succ (o : Obj) (n m : Int) (x : Op5) (i k b : Nat) : movK o n m x i k (b + 1) = movK o n m x i k b ++ movB o n m x i k b := by
  unfold movK; rw [List.range_succ, List.flatMap_append]; simp
theorem movI_succ (o : Obj) (n m : Int) (x : Op5) (M i k : Nat) : movI o n m x M i (k + 1) = movI o n m x M i k ++ movK o n m x i k M := by
  unfold movI; rw [List.range_succ, List.flatMap_append]; simp
theorem movTo_succ (o : Obj) (n m : Int) (N M : Nat) {ops : List Op5} {i : Nat} (h : i < ops.length) : movTo o n m N M ops (i + 1) = movTo o n m N M ops i ++ (movH n m ops[i] i ++ movI o n m ops[i] M i N) := by
  unfold movTo; rw [List.range_succ, List.flatMap_append]; simp [h]
theorem movB_length (o : Obj) (n m : Int) (x : Op5) (i k b : Nat) : (movB o n m x i k b).length ≤ 2 := by
  unfold movB; split <;> simp
theorem movK_length (o : Obj) (n m : Int) (x : Op5) (i k : Nat) : ∀ b, (movK o n m x i k b).length ≤ b * 2
  | 0 => by simp [movK]
  | b + 1 => by
    have ih := movK_length o n m x i k b
    have := movB_length o n m x i k b
    rw [movK_succ, List.length_append]; omega
theorem movI_length (o : Obj) (n m : Int) (x : Op5) (M i : Nat) : ∀ k, (movI o n m x M i k).length ≤ k * (M * 2)
  | 0 => by simp [movI]
  | k + 1 => by
    have ih := movI_length o n m x M i k
    have := movK_length o n m x i k M
    rw [movI_succ, List.length_append, Nat.succ_mul]; omega
theorem movTo_length (o : Obj) (n m : Int) (N M : Nat) (ops : List Op5) : ∀ i, i ≤ ops.length → (movTo o n m N M ops i).length ≤ i * (1 + N * (M * 2))
  | 0, _ => by simp [movTo]
  | i + 1, h => by
    have ih := movTo_length o n m N M ops i (by omega)
    have h1 := movI_length o n m ops[i] M i N
    have h2 : (movH n m ops[i] i).length ≤ 1 := by unfold movH; split <;> simp
    rw [movTo_succ o n m N M (show i < ops.length by omega), List.length_append, List.length_append, Nat.succ_mul]; omega
def movesC (o : Obj) (ops : List Op5) : List (List Int) := if sizeOk (sizeP o ops).1 (sizeP o ops).2 then movTo o (sizeP o ops).1 (sizeP o ops).2 (sizeP o ops).1.toNat (sizeP o ops).2.toNat ops ops.length else []

end Go.AX

namespace Go.AX
open Go.Proofs

/-! ### Lists that are the same -/
@[simp] theorem belowR_crowF (k : Nat) (l : List (List Int)) : belowR k (l.map crowF) := by
  rw [belowR_iff]; intro r hr x hx
  obtain ⟨o, _, rfl⟩ := List.mem_map.1 hr
  simp [crowF] at hx; subst hx; exact belowR_irow k o
@[simp] theorem frzR_crowF (r : Nat → Nat → PV) (l : List (List Int)) : frzR r (l.map crowF) = l.map crowF := by
  rw [frzR_map, List.map_map]
  apply List.map_congr_left
  intro x _
  simp [crowF]
theorem eq_of_get {α : Type} {a b : List α} (hl : a.length = b.length) (h : ∀ j (h1 : j < a.length), a[j] = b[j]'(hl ▸ h1)) : a = b := List.ext_getElem hl fun j h1 _ => h j h1

theorem sameInts_ok (a b : List Int) (hl : a.length ≤ 140737488355328) : APure Try.prog 12 [.seq false 1 (irow a), .seq false 1 (irow b)] (fun r => r = .pv (BL (decide (a = b)))) := by
  refine apure1 hmo Try.func12 (by kernel_rfl) rfl rfl (by kernel_rfl) (Nat.le_of_ble_eq_true rfl) ?_
  simp
  refine ⟨fun h => fun e => h (by rw [e]), fun h => ?_⟩
  have hl2 : a.length = b.length := by omega
  refine ALoop.intro (S := fun (i : Nat) => ⟨[(0, .pv (.seq false 1 (irow a))), (1, .pv (.seq false 1 (irow b))), (5, .pv (I64 i))], []⟩) (fun i => i ≤ a.length ∧ ∀ j (h1 : j < a.length), j < i → a[j] = b[j]'(hl2 ▸ h1)) (fun i => a.length - i) 0 ?_ ?_ ?_
  · exact Weak.to (by simp) rfl (by simp) (by simp) (by simp)
  · exact ⟨by omega, fun j _ hj => by omega⟩
  · intro i ⟨hi, ho⟩
    by_cases h3 : i < a.length
    · have hw : w64 ((i : Int) + 1) = ((i + 1 : Nat) : Int) := by rw [w64_id (by omega) (by omega)]; omega
      have h4 : i < b.length := by omega
      simp [h3, h4]
      refine ⟨fun c => fun e => c (by subst e; rfl), fun c => ⟨i + 1, by dsimp only; omega, ⟨by omega, fun j h1 hj => ?_⟩, Weak.to ?_ rfl (by simp) (by simp) (by simp)⟩⟩
      · by_cases e : j = i
        · subst e; exact c
        · exact ho j h1 (by omega)
      · simp [hw]
    · simp [h3]
      exact eq_of_get hl2 fun j h1 => ho j h1 (by omega)

/-! ### Where a number stands -/
def posS (l : List Int) (n : Int) : Int := idxS (fun x => decide (x = n)) l
theorem posS_nn (l : List Int) (n : Int) : 0 ≤ posS l n ↔ n ∈ l := by
  unfold posS idxS
  cases h : l.findIdx? (fun x => decide (x = n)) with
  | none =>
    rw [List.findIdx?_eq_none_iff] at h
    refine ⟨fun h2 => absurd h2 (by decide), fun h2 => by have := h n h2; simp at this⟩
  | some i =>
    rw [List.findIdx?_eq_some_iff_getElem] at h
    obtain ⟨h1, h2, _⟩ := h
    refine ⟨fun _ => ?_, fun _ => by dsimp only; omega⟩
    have : l[i] = n := by simpa using h2
    exact this ▸ List.getElem_mem h1

theorem index_ok (l : List Int) (n : Int) (hl : l.length ≤ 140737488355328) : APure Try.prog 40 [.seq false 1 (irow l), I64 n] (fun r => r = .pv (I64 (posS l n))) := by
  refine apure1 hmo Try.func40 (by kernel_rfl) rfl rfl (by kernel_rfl) (Nat.le_of_ble_eq_true rfl) ?_
  simp
  refine ALoop.intro (S := fun (i : Nat) => ⟨[(0, .pv (.seq false 1 (irow l))), (1, .pv (I64 n)), (7, .pv (I64 l.length)), (8, .pv (I64 i))], []⟩) (fun i => i ≤ l.length ∧ ∀ j (hj : j < l.length), j < i → (fun x => decide (x = n)) l[j] = false) (fun i => l.length - i) 0 ?_ ?_ ?_
  · exact Weak.to (by simp) rfl (by simp) (by simp) (by simp)
  · exact ⟨by omega, fun j hj h => by omega⟩
  · intro i ⟨hi, ho⟩
    by_cases h : i < l.length
    · have hw : w64 ((i : Int) + 1) = ((i + 1 : Nat) : Int) := by rw [w64_id (by omega) (by omega)]; omega
      simp [h]
      refine ⟨fun c => by rw [posS, idxS_at h ho (by simpa using c.symm)], fun c => ⟨i + 1, by dsimp only; omega, ⟨by omega, fun j hj hji => ?_⟩, Weak.to ?_ rfl (by simp) (by simp) (by simp)⟩⟩
      · by_cases e : j = i
        · subst e; simpa using fun e => c e.symm
        · simpa using ho j hj (by omega)
      · simp [hw]
    · simp [h]
      rw [posS, idxS_none (fun j hj => ho j hj (by omega))]

theorem contains_ok (l : List Int) (n : Int) (hl : l.length ≤ 140737488355328) : APure Try.prog 28 [.seq false 1 (irow l), I64 n] (fun r => r = .pv (BL (decide (n ∈ l)))) := by
  refine apure1 hmo Try.func28 (by kernel_rfl) rfl rfl (by kernel_rfl) (Nat.le_of_ble_eq_true rfl) ?_
  simp
  refine CallK.intro (index_ok l n hl) (by simp) ?_
  simp [posS_nn]

theorem refHas_ok (l : List Int) (n : Int) (hl : l.length ≤ 140737488355328) : APure Try.prog 22 [.seq false 1 (irow l), I64 n] (fun r => r = .pv (BL (decide (n ∈ l)))) := by
  refine apure1 hmo Try.func22 (by kernel_rfl) rfl rfl (by kernel_rfl) (Nat.le_of_ble_eq_true rfl) ?_
  simp
  refine ALoop.intro (S := fun (i : Nat) => ⟨[(0, .pv (.seq false 1 (irow l))), (1, .pv (I64 n)), (5, .pv (I64 i))], []⟩) (fun i => i ≤ l.length ∧ ∀ j (h : j < l.length), j < i → l[j] ≠ n) (fun i => l.length - i) 0 ?_ ⟨Nat.zero_le _, fun j _ h => by omega⟩ ?_
  · exact Weak.to (by simp) rfl (by simp) (by simp [irow]) (by simp)
  · rintro i ⟨hi, ho⟩
    by_cases c : i < l.length
    · have hw : w64 ((i : Int) + 1) = ((i + 1 : Nat) : Int) := by rw [w64_id (by omega) (by omega)]; omega
      simp [c, irow]
      refine ⟨fun d => ?_, fun d => ⟨i + 1, by dsimp only; omega, ⟨by omega, fun j h1 h2 => ?_⟩, Weak.to (by simp [hw, irow]) rfl (by simp) (by simp [irow]) (by simp)⟩⟩
      · rw [← d]; exact List.getElem_mem c
      · by_cases e : j = i
        · subst e; exact d
        · exact ho j h1 (by omega)
    · have : i = l.length := by omega
      subst this
      simp [irow]
      intro h
      obtain ⟨j, hj, he⟩ := List.getElem_of_mem h
      exact ho j hj hj he

/-! ### Closed objects and operations -/
def oneO : Obj := ⟨1, 1, 0, [⟨0, 0, 0, 7⟩]⟩
/-! ### May, proper -/
def brow (l : List Bool) : List (List PV) := l.map fun b => [BL b]
@[simp] theorem brow_length (l : List Bool) : (brow l).length = l.length := by simp [brow]
@[simp] theorem belowR_brow (k : Nat) (l : List Bool) : belowR k (brow l) := by
  rw [belowR_iff]; intro r hr x hx
  obtain ⟨o, _, rfl⟩ := List.mem_map.1 hr
  simp at hx; subst hx; trivial
@[simp] theorem frzR_brow (r : Nat → Nat → PV) (l : List Bool) : frzR r (brow l) = brow l := by
  rw [brow, frzR_map, List.map_map]; congr 1
@[simp] theorem brow_get (l : List Bool) (i : Nat) : (brow l)[i]? = l[i]?.map fun n => [BL n] := by simp [brow]
@[simp] theorem brow_elem (l : List Bool) (i : Nat) (h : i < (brow l).length) : (brow l)[i]'h = [BL (l[i]'(by simpa using h))] := by simp [brow]

def properAt (ops : List Op5) (order : List Int) (inn : List Bool) (i : Nat) : Prop := (i : Int) ∈ order ∧ ((ops.getD i default).e ≠ -1 → inn.getD i false = true)
instance (ops : List Op5) (order : List Int) (inn : List Bool) (i : Nat) : Decidable (properAt ops order inn i) := by unfold properAt; infer_instance
def playOk (ops : List Op5) (order : List Int) (inn : List Bool) : Bool := decide (order.length = ops.length ∧ inn.length = ops.length ∧ ∀ i, i < ops.length → properAt ops order inn i)

end Go.AX

namespace Go.AX
open Go.Proofs

theorem len_of_sub {α : Type} [DecidableEq α] : ∀ (l m : List α), l.Nodup → (∀ x ∈ l, x ∈ m) → l.length ≤ m.length
  | [], _, _, _ => Nat.zero_le _
  | x :: l, m, hn, hs => by
    have hx := hs x List.mem_cons_self
    obtain ⟨h1, h2⟩ := List.nodup_cons.1 hn
    have := len_of_sub l (m.erase x) h2 (fun y hy => (List.mem_erase_of_ne (fun e => h1 (by rw [← e]; exact hy))).2 (hs y (List.mem_cons_of_mem _ hy)))
    rw [List.length_erase_of_mem hx] at this
    have hp := List.length_pos_of_mem hx
    simp only [List.length_cons]; omega
theorem range_all {n : Nat} {order : List Int} (hl : order.length = n) (h : ∀ i : Nat, i < n → (i : Int) ∈ order) : ∀ x ∈ order, 0 ≤ x ∧ x < n := by
  intro x hx
  apply Classical.byContradiction
  intro hc
  let r : List Int := (List.range n).map Int.ofNat
  have hr : ∀ y ∈ r, 0 ≤ y ∧ y < n := by
    intro y hy
    obtain ⟨i, hi, rfl⟩ := List.mem_map.1 hy
    have := List.mem_range.1 hi
    simp; omega
  have hnd : r.Nodup := by
    show List.Pairwise _ _
    rw [List.pairwise_map]
    exact (List.nodup_range (n := n)).imp fun h e => h (Int.ofNat.inj e)
  have := len_of_sub (x :: r) order (List.nodup_cons.2 ⟨fun hm => hc (hr x hm), hnd⟩) (by
    intro y hy
    rcases List.mem_cons.1 hy with rfl | hy
    · exact hx
    · obtain ⟨i, hi, rfl⟩ := List.mem_map.1 hy
      exact h i (List.mem_range.1 hi))
  simp [r] at this
  omega

theorem sizeP_all {o : Obj} {ops : List Op5} (h : sizeOk (sizeP o ops).1 (sizeP o ops).2 = true) : (objChk o).2 = 0 ∧ (chk ops).2 = 0 ∧ sizeP o ops = ((ops.length : Int), o.st) ∧ ops.length ≤ 64 ∧ 1 ≤ o.st ∧ o.st ≤ 32 := by
  unfold sizeP at h ⊢
  split at h
  · rename_i hc
    have := sizeOk_iff.1 h
    dsimp only at this
    exact ⟨hc.1, hc.2, by rw [if_pos hc], by omega, by omega, by omega⟩
  · cases h
theorem sizeP_zero {o : Obj} {ops : List Op5} (h : sizeOk (sizeP o ops).1 (sizeP o ops).2 = false) : ¬ sizeOk (sizeP o ops).1 (sizeP o ops).2 = true := by simp [h]

def playStep (o : Obj) (ops : List Op5) (inn : List Bool) (x : Nat) (out : List Int) : Option (List Int) :=
  if inn.getD x false then (mayS o (ops.getD x default) (out.getLastD 0)).map fun y => out ++ [y] else some (out ++ [out.getLastD 0])
def playTo (o : Obj) (ops : List Op5) (order : List Int) (inn : List Bool) : Nat → Option (List Int)
  | 0 => some [o.ini]
  | k + 1 => (playTo o ops order inn k).bind (playStep o ops inn (order.getD k 0).toNat)
def playS (o : Obj) (ops : List Op5) (order : List Int) (inn : List Bool) : Option (List Int) :=
  if sizeOk (sizeP o ops).1 (sizeP o ops).2 = true ∧ playOk ops order inn = true then playTo o ops order inn ops.length else none
def playPV (q : Bool) : Option (List Int) → PV
  | some l => .tup [.seq q 1 (irow l), BL true]
  | none => .tup [.lit (.slice none 0 0), BL false]
theorem playTo_none {o : Obj} {ops : List Op5} {order : List Int} {inn : List Bool} {k : Nat} (h : playTo o ops order inn k = none) : ∀ m, k ≤ m → playTo o ops order inn m = none
  | 0, hm => by rw [Nat.le_zero.1 hm] at h; exact h
  | m + 1, hm => by
    rcases Nat.lt_or_ge m k with h1 | h1
    · have : k = m + 1 := by omega
      exact this ▸ h
    · simp [playTo, playTo_none h m h1]
theorem playTo_length {o : Obj} {ops : List Op5} {order : List Int} {inn : List Bool} : ∀ {k : Nat} {out : List Int}, playTo o ops order inn k = some out → out.length = k + 1
  | 0, out, h => by cases h; rfl
  | k + 1, out, h => by
    simp only [playTo, Option.bind_eq_some_iff] at h
    obtain ⟨p, hp, h⟩ := h
    have := playTo_length hp
    unfold playStep at h
    split at h
    · simp only [Option.map_eq_some_iff] at h
      obtain ⟨y, _, rfl⟩ := h
      simp [this]
    · cases h; simp [this]
theorem playOk_iff {ops : List Op5} {order : List Int} {inn : List Bool} : playOk ops order inn = true ↔ order.length = ops.length ∧ inn.length = ops.length ∧ ∀ i, i < ops.length → properAt ops order inn i := by simp [playOk]

end Go.AX

namespace Go.AX
set_option linter.unusedSimpArgs false
open Go.Proofs

theorem PV.as_agg {xs ys : List PV} (hc : asL xs ys) : PV.as (.agg xs) (.agg ys) := fun w v h => by
  obtain ⟨a, rfl, hf⟩ := h
  exact ⟨a, rfl, asL_fit hc hf⟩

@[simp] theorem nwL_orow (x : Op5) : nwL (orow x) := by simp [orow]

@[simp] theorem nwL_crow (x : List Int) : nwL (crow x) := by simp [crow]

end Go.AX

namespace Go.AX
open Go.Proofs

def inR (n : Int) : Prop := -9223372036854775808 ≤ n ∧ n ≤ 9223372036854775807
def objR (o : Obj) : Prop := inR o.st ∧ inR o.kd
theorem objOk_raw {o : Obj} (h : objR o) : objOk o = true ↔ (1 ≤ o.st ∧ o.st ≤ 32 ∧ 1 ≤ o.kd ∧ o.kd ≤ 64 ∧ 0 ≤ o.ini ∧ o.ini < o.st) := by
  rw [objOk_iff, withinS_iff, withinS_iff, withinS_iff, w64_eq, w64_eq]
  obtain ⟨⟨h1, h2⟩, h3, h4⟩ := h
  omega
theorem placeS_raw (a b : ORow) : 0 ≤ placeS a b ↔ (b.s < a.s ∨ a.s = b.s ∧ b.k ≤ a.k) := by
  unfold placeS cmpS
  split <;> (repeat' split) <;> omega

theorem rowE_raw {o : Obj} {i : Nat} (h : i < o.rows.length) : rowE o i = if o.rows[i].s < 0 ∨ o.st ≤ o.rows[i].s ∨ o.rows[i].n < 0 ∨ o.st ≤ o.rows[i].n then 30 else if o.rows[i].k < 0 ∨ o.kd ≤ o.rows[i].k then 31 else if o.rows[i].r < 0 ∨ 1000000 < o.rows[i].r then 7 else
    if 0 < i ∧ (o.rows[i].s < (o.rows.getD (i - 1) default).s ∨ (o.rows.getD (i - 1) default).s = o.rows[i].s ∧ o.rows[i].k ≤ (o.rows.getD (i - 1) default).k) then 32 else 0 := by
  rw [rowE_eq h]
  refine ite_congr (propext ?_) (fun _ => rfl) fun _ => ite_congr (propext ?_) (fun _ => rfl) fun _ => ite_congr (propext ?_) (fun _ => rfl) fun _ => ite_congr (propext ?_) (fun _ => rfl) fun _ => rfl
  · simp [withinS]; omega
  · simp [withinS]; omega
  · simp [withinS]; omega
  · rw [placeS_raw]

set_option maxRecDepth 16000 in
theorem refObjChk_ok (o : Obj) (hr : objR o) (hl : o.rows.length ≤ 140737488355328) : APure Try.prog 9 [robj o] (fun r => r = .pv (.tup [I64 (objChk o).1, I64 (objChk o).2])) := by
  refine apureN [2, 3] hmo Try.func9 (by kernel_rfl) rfl (fun _ _ => results_tmp2 rfl _ _ _) (by kernel_rfl) (Nat.le_of_ble_eq_true rfl) ?_
  have hraw := objOk_raw hr
  simp [robj]
  refine ⟨fun c => ?_, fun c => ?_⟩
  · have : objOk o = false := by
      cases hk : objOk o with
      | false => rfl
      | true => rw [hk] at hraw; have := hraw.1 rfl; omega
    simp [objChk, this]
  intro c2 c3 c4 c5 c6
  have hok : objChk o = firstErr (rowE o) o.rows.length := by rw [objChk, if_pos (hraw.2 ⟨c, c2, c3, c4, c5, c6⟩)]
  rw [hok]
  refine ALoop.intro (S := fun (i : Nat) => ⟨[(1, .pv (.ptr 0 0)), (4, .pv (I64 i))], [[.pv (I64 o.st), .pv (I64 o.kd), .pv (I64 o.ini), .pv (.seq false 4 (o.rows.map rrow))]]⟩) (fun i => i ≤ o.rows.length ∧ okUp (rowE o) i) (fun i => o.rows.length - i) 0 ?_ ?_ ?_
  · exact Weak.to (by simp) (by simp) (by simp) (by simp) (by simp)
  · exact ⟨by omega, fun j hj => by omega⟩
  · intro i ⟨hi, ho⟩
    by_cases h : i < o.rows.length
    · have hw : w64 ((i : Int) + 1) = ((i + 1 : Nat) : Int) := by rw [w64_id (by omega) (by omega)]; omega
      have hE := rowE_raw h
      have hb : ∀ e : Int, rowE o i = e → e ≠ 0 → firstErr (rowE o) o.rows.length = ((i : Int), e) := fun e he hz => by rw [firstErr_bad h ho (by rw [he]; exact hz), he]
      rcases Nat.eq_zero_or_pos i with h0 | h0
      · subst h0
        simp [h, rrow]
        refine ⟨fun d => ?_, fun d1 d2 d3 d4 => ⟨fun d => ?_, fun d5 d6 => ⟨fun d => ?_, fun d7 d8 => ?_⟩⟩⟩
        · rw [hb 30 (by rw [hE, if_pos (by omega)]) (by decide)]; exact ⟨rfl, rfl⟩
        · rw [hb 31 (by rw [hE, if_neg (by omega), if_pos (by omega)]) (by decide)]; exact ⟨rfl, rfl⟩
        · rw [hb 7 (by rw [hE, if_neg (by omega), if_neg (by omega), if_pos (by omega)]) (by decide)]; exact ⟨rfl, rfl⟩
        · refine ⟨0 + 1, by dsimp only; omega, ⟨by omega, okUp_succ ho (by rw [hE, if_neg (by omega), if_neg (by omega), if_neg (by omega), if_neg (by omega)])⟩, Weak.to ?_ (by simp) (by simp) (by simp) (by simp)⟩
          simp [show w64 1 = 1 by decide]
      · have hq1 : w64 ((i : Int) - 1) = ((i - 1 : Nat) : Int) := by rw [w64_id (by omega) (by omega)]; omega
        have hq2 : i - 1 < o.rows.length := by omega
        have hg : o.rows.getD (i - 1) default = o.rows[i - 1] := by simp [hq2]
        rw [hg] at hE
        simp [h, rrow, h0, hq1, hq2]
        refine ⟨fun d => ?_, fun d1 d2 d3 d4 => ⟨fun d => ?_, fun d5 d6 => ⟨fun d => ?_, fun d7 d8 => ⟨fun d => ⟨d, fun d9 => ⟨d, d9⟩⟩, fun d => ?_, fun d9 d10 => ?_⟩⟩⟩⟩
        · rw [hb 30 (by rw [hE, if_pos (by omega)]) (by decide)]; exact ⟨rfl, rfl⟩
        · rw [hb 31 (by rw [hE, if_neg (by omega), if_pos (by omega)]) (by decide)]; exact ⟨rfl, rfl⟩
        · rw [hb 7 (by rw [hE, if_neg (by omega), if_neg (by omega), if_pos (by omega)]) (by decide)]; exact ⟨rfl, rfl⟩
        · rw [hb 32 (by rw [hE, if_neg (by omega), if_neg (by omega), if_neg (by omega), if_pos (by omega)]) (by decide)]; exact ⟨rfl, rfl⟩
        · refine ⟨i + 1, by dsimp only; omega, ⟨by omega, okUp_succ ho (by rw [hE, if_neg (by omega), if_neg (by omega), if_neg (by omega), if_neg (by omega)])⟩, Weak.to ?_ (by simp) (by simp) (by simp) (by simp)⟩
          simp [hw, rrow]
    · simp [h]
      have : i = o.rows.length := by omega
      rw [firstErr_ok (this ▸ ho)]; simp

theorem find_at {α : Type} {p : α → Bool} {l : List α} {i : Nat} (h : i < l.length) (hn : ∀ j (hj : j < l.length), j < i → p l[j] = false) (hp : p l[i] = true) : l.find? p = some l[i] :=
  List.find?_eq_some_iff_getElem.2 ⟨hp, i, h, rfl, fun j hj => by simp [hn j (by omega) hj]⟩
theorem find_no {α : Type} {p : α → Bool} {l : List α} (hn : ∀ j (hj : j < l.length), p l[j] = false) : l.find? p = none := by
  rw [List.find?_eq_none]
  intro x hx
  obtain ⟨j, hj, rfl⟩ := List.mem_iff_getElem.1 hx
  simp [hn j hj]

set_option maxRecDepth 16000 in
theorem refMove_ok (o : Obj) (s k : Int) (hl : o.rows.length ≤ 140737488355328) : APure Try.prog 11 [robj o, I64 s, I64 k] (fun r => r = .pv (movePV (moveS o s k))) := by
  refine apureN [6, 7, 8] hmo Try.func11 (by kernel_rfl) rfl (fun _ _ => results_tmp3 rfl _ _ _) (by kernel_rfl) (Nat.le_of_ble_eq_true rfl) ?_
  simp [robj]
  refine ALoop.intro (S := fun (i : Nat) => ⟨[(1, .pv (I64 s)), (2, .pv (I64 k)), (3, .pv (.ptr 0 0)), (9, .pv (I64 i))], [[.pv (I64 o.st), .pv (I64 o.kd), .pv (I64 o.ini), .pv (.seq false 4 (o.rows.map rrow))]]⟩) (fun i => i ≤ o.rows.length ∧ ∀ j (hj : j < o.rows.length), j < i → isRow s k o.rows[j] = false) (fun i => o.rows.length - i) 0 ?_ ?_ ?_
  · exact Weak.to (by simp) (by simp) (by simp) (by simp) (by simp)
  · exact ⟨by omega, fun j _ hj => by omega⟩
  · intro i ⟨hi, ho⟩
    by_cases h : i < o.rows.length
    · have hw : w64 ((i : Int) + 1) = ((i + 1 : Nat) : Int) := by rw [w64_id (by omega) (by omega)]; omega
      simp [h, rrow]
      refine ⟨fun d1 d2 => ?_, fun d => ⟨i + 1, by dsimp only; omega, ⟨by omega, fun j hj hji => ?_⟩, Weak.to ?_ (by simp) (by simp) (by simp) (by simp)⟩⟩
      · rw [moveS, find_at h ho (by simp [isRow, d1, d2])]; rfl
      · by_cases e : j = i
        · subst e; simp [isRow]; exact d
        · exact ho j hj (by omega)
      · simp [hw, rrow]
    · simp [h]
      rw [moveS, find_no (fun j hj => ho j hj (by omega))]
      simp [movePV]

end Go.AX

namespace Go.AX
open Go.Proofs

/-! ### What is reached -/
inductive RE (o : Obj) : Int → Prop
  | init : RE o o.ini
  | step {r : ORow} : r ∈ o.rows → RE o r.s → RE o r.n

/-- An object that may be. -/
def objFine (o : Obj) : Prop := objOk o = true ∧ okUp (rowE o) o.rows.length
theorem objFine_iff {o : Obj} : (objChk o).2 = 0 ↔ objFine o := by
  unfold objChk objFine
  split
  · rename_i h; rw [firstErr_zero]; exact ⟨fun x => ⟨h, x⟩, fun x => x.2⟩
  · rename_i h; exact ⟨fun x => absurd x (by decide), fun x => absurd x.1 h⟩
theorem objFine_row {o : Obj} (h : objFine o) {r : ORow} (hr : r ∈ o.rows) : 0 ≤ r.s ∧ r.s < o.st ∧ 0 ≤ r.n ∧ r.n < o.st ∧ 0 ≤ r.k ∧ r.k < o.kd ∧ 0 ≤ r.r ∧ r.r ≤ 1000000 := by
  obtain ⟨j, hj, rfl⟩ := List.mem_iff_getElem.1 hr
  have he := h.2 j hj
  rw [rowE_raw hj] at he
  split at he
  · cases he
  · split at he
    · cases he
    · split at he
      · cases he
      · omega
theorem objFine_st {o : Obj} (hr : objR o) (h : objFine o) : 1 ≤ o.st ∧ o.st ≤ 32 ∧ 1 ≤ o.kd ∧ o.kd ≤ 64 ∧ 0 ≤ o.ini ∧ o.ini < o.st := (objOk_raw hr).1 h.1
theorem RE.isin {o : Obj} (hr : objR o) (h : objFine o) {s : Int} (hs : RE o s) : 0 ≤ s ∧ s < o.st := by
  cases hs with
  | init => have := objFine_st hr h; omega
  | step hm _ => have := objFine_row h hm; omega

open Classical in
/-- The states that are reached, in order. -/
noncomputable def reachL (o : Obj) : List Int := ((List.range o.st.toNat).map fun n : Nat => (n : Int)).filter fun s => decide (RE o s)
open Classical in
noncomputable def reachS (o : Obj) : List Int := if objFine o then reachL o else []
theorem mem_reachL {o : Obj} (hr : objR o) (h : objFine o) {s : Int} : s ∈ reachL o ↔ RE o s := by
  unfold reachL
  rw [List.mem_filter]
  simp only [List.mem_map, List.mem_range, decide_eq_true_eq]
  refine ⟨fun x => x.2, fun x => ⟨⟨s.toNat, ?_, ?_⟩, x⟩⟩ <;> have := x.isin hr h <;> omega
theorem reachL_lt (o : Obj) : (reachL o).Pairwise (· < ·) := by
  unfold reachL
  refine List.Pairwise.filter _ ?_
  rw [List.pairwise_map]
  exact List.pairwise_lt_range.imp fun h => by omega
theorem lt_nodup {l : List Int} (h : l.Pairwise (· < ·)) : l.Nodup := h.imp fun {x y} hxy e => by rw [e] at hxy; omega

theorem perm_of_mem : ∀ {a b : List Int}, a.Nodup → b.Nodup → (∀ x, x ∈ a ↔ x ∈ b) → a.Perm b := by
  intro a b ha hb h
  rw [List.perm_iff_count]
  intro x
  by_cases hx : x ∈ a
  · have h3 := List.count_pos_iff.2 hx
    have h4 := List.count_pos_iff.2 ((h x).1 hx)
    have h1 := List.nodup_iff_count.1 ha x
    have h2 := List.nodup_iff_count.1 hb x
    omega
  · rw [List.count_eq_zero_of_not_mem hx, List.count_eq_zero_of_not_mem (fun e => hx ((h x).2 e))]
theorem sorted_is {a b : List Int} (hp : a.Perm b) (hb : b.Pairwise (· < ·)) : a.mergeSort (fun x y => decide (x ≤ y)) = b := by
  have h1 : (a.mergeSort fun x y => decide (x ≤ y)).Pairwise (fun x y => x ≤ y) := by
    have := List.pairwise_mergeSort (le := fun x y : Int => decide (x ≤ y)) (fun a b c h1 h2 => by simp only [decide_eq_true_eq] at *; omega) (fun a b => by simp only [Bool.or_eq_true, decide_eq_true_eq]; omega) a
    exact this.imp fun h => by simpa using h
  refine List.Perm.eq_of_pairwise (fun x y _ _ h1 h2 => by omega) h1 (hb.imp fun h => by omega) ((List.mergeSort_perm _ _).trans hp)

/-! ### Step by step -/
/-- What has been found, up to the row k of the i-th. -/
structure Bfs (o : Obj) (l : List Int) (i k : Nat) : Prop where
  nd : l.Nodup
  re : ∀ x ∈ l, RE o x
  ini : o.ini ∈ l
  done : ∀ j, j < i → ∀ r ∈ o.rows, r.s = l.getD j 0 → r.n ∈ l
  now : ∀ j (hj : j < o.rows.length), j < k → o.rows[j].s = l.getD i 0 → o.rows[j].n ∈ l
theorem Bfs.start (o : Obj) : Bfs o [o.ini] 0 0 :=
  ⟨by simp, by simp; exact RE.init, by simp, fun j hj => by omega, fun j _ hj => by omega⟩
theorem Bfs.len {o : Obj} (hr : objR o) (h : objFine o) {l : List Int} {i k : Nat} (b : Bfs o l i k) : l.length ≤ 32 := by
  have hs := objFine_st hr h
  have := len_of_sub l ((List.range 32).map fun n : Nat => (n : Int)) b.nd (fun x hx => by
    have := (b.re x hx).isin hr h
    simp only [List.mem_map, List.mem_range]
    exact ⟨x.toNat, by omega, by omega⟩)
  simpa using this
theorem getD_append_left' {l m : List Int} {i : Nat} (h : i < l.length) : (l ++ m).getD i 0 = l.getD i 0 := by
  simp [List.getD_eq_getElem?_getD, List.getElem?_append_left h]
theorem Bfs.skip {o : Obj} {l : List Int} {i k : Nat} (b : Bfs o l i k) (hk : k < o.rows.length) (h : o.rows[k].s = l.getD i 0 → o.rows[k].n ∈ l) : Bfs o l i (k + 1) :=
  ⟨b.nd, b.re, b.ini, b.done, fun j hj hjk e => by
    by_cases e2 : j = k
    · subst e2; exact h e
    · exact b.now j hj (by omega) e⟩
theorem Bfs.more {o : Obj} {l : List Int} {i k : Nat} (b : Bfs o l i k) (hi : i < l.length) (hk : k < o.rows.length) (h1 : o.rows[k].s = l.getD i 0) (h2 : o.rows[k].n ∉ l) : Bfs o (l ++ [o.rows[k].n]) i (k + 1) := by
  refine ⟨?_, ?_, by simp [b.ini], fun j hj r hr e => ?_, fun j hj hjk e => ?_⟩
  · rw [List.nodup_append]
    refine ⟨b.nd, by simp, fun x hx y hy => ?_⟩
    simp only [List.mem_singleton] at hy
    intro e; rw [e, hy] at hx; exact h2 hx
  · intro x hx
    simp only [List.mem_append, List.mem_singleton] at hx
    rcases hx with hx | rfl
    · exact b.re x hx
    · have hm : l.getD i 0 ∈ l := by rw [List.getD_eq_getElem?_getD, List.getElem?_eq_getElem hi]; exact List.getElem_mem hi
      have := b.re _ hm
      rw [← h1] at this
      exact RE.step (List.getElem_mem hk) this
  · rw [getD_append_left' (by omega)] at e
    exact List.mem_append_left _ (b.done j hj r hr e)
  · rw [getD_append_left' hi] at e
    by_cases e2 : j = k
    · subst e2; simp
    · exact List.mem_append_left _ (b.now j hj (by omega) e)
theorem Bfs.next {o : Obj} {l : List Int} {i : Nat} (b : Bfs o l i o.rows.length) : Bfs o l (i + 1) 0 :=
  ⟨b.nd, b.re, b.ini, fun j hj r hr e => by
    by_cases e2 : j = i
    · subst e2
      obtain ⟨k, hk, rfl⟩ := List.mem_iff_getElem.1 hr
      exact b.now k hk hk e
    · exact b.done j (by omega) r hr e, fun j _ hj => by omega⟩
theorem Bfs.ends {o : Obj} (hr : objR o) (h : objFine o) {l : List Int} (b : Bfs o l l.length 0) : l.mergeSort (fun x y => decide (x ≤ y)) = reachL o := by
  refine sorted_is (perm_of_mem b.nd (lt_nodup (reachL_lt o)) fun x => ?_) (reachL_lt o)
  rw [mem_reachL hr h]
  refine ⟨b.re x, fun hx => ?_⟩
  induction hx with
  | init => exact b.ini
  | step hm _ ih =>
    obtain ⟨j, hj, e⟩ := List.mem_iff_getElem.1 ih
    exact b.done j hj _ hm (by rw [List.getD_eq_getElem?_getD, List.getElem?_eq_getElem hj]; exact e.symm)

/-! ### In rounds -/
/-- Whether a state is marked. -/
def bAt (b : List Bool) (s : Int) : Bool := b.getD s.toNat false
theorem bAt_set {b : List Bool} {s t : Int} (ht : t.toNat < b.length) (h0 : 0 ≤ s) (h1 : 0 ≤ t) : bAt (b.set t.toNat true) s = (bAt b s || decide (s = t)) := by
  unfold bAt
  rw [List.getD_eq_getElem?_getD, List.getElem?_set, List.getD_eq_getElem?_getD]
  by_cases e : t.toNat = s.toNat
  · rw [if_pos e, if_pos (by omega)]; have : s = t := by omega
    simp [this]
  · rw [if_neg e]; have : ¬ s = t := by omega
    simp [this]
theorem count_set : ∀ {b : List Bool} {i : Nat}, i < b.length → b.getD i false = false → (b.set i true).count true = b.count true + 1
  | [], i, h, _ => by simp at h
  | x :: b, 0, _, h => by
    have : x = false := h
    subst this
    simp
  | x :: b, i + 1, h, h2 => by
    rw [List.set_cons_succ, List.count_cons, List.count_cons, count_set (b := b) (i := i) (by simpa using h) h2]
    omega
def markedAll (o : Obj) (b : List Bool) : Prop := ∀ r ∈ o.rows, bAt b r.s = true → bAt b r.n = true
/-- What is marked in the n-th round, up to the row k; b0 as it was ahead of the round. -/
structure Rnd (o : Obj) (b0 b : List Bool) (n k : Nat) : Prop where
  len : b.length = 32
  re : ∀ x, 0 ≤ x → bAt b x = true → RE o x
  ini : bAt b o.ini = true
  cnt : markedAll o b0 ∨ n + 1 ≤ b0.count true
  way : (b = b0 ∧ ∀ j (hj : j < o.rows.length), j < k → bAt b0 o.rows[j].s = true → bAt b0 o.rows[j].n = true) ∨ (¬ markedAll o b0 ∧ b0.count true + 1 ≤ b.count true)
theorem bAt_rep {s : Int} : bAt (List.replicate 32 false) s = false := by
  unfold bAt
  rw [List.getD_eq_getElem?_getD, List.getElem?_replicate]
  split <;> rfl
theorem Rnd.start {o : Obj} (hr : objR o) (h : objFine o) : Rnd o ((List.replicate 32 false).set o.ini.toNat true) ((List.replicate 32 false).set o.ini.toNat true) 0 0 := by
  have hs := objFine_st hr h
  have h1 : o.ini.toNat < (List.replicate 32 false).length := by simp; omega
  refine ⟨by simp, fun x hx hb => ?_, ?_, .inr ?_, .inl ⟨rfl, fun j _ hj => by omega⟩⟩
  · rw [bAt_set h1 hx (by omega), bAt_rep] at hb
    have : x = o.ini := by simpa using hb
    rw [this]; exact RE.init
  · rw [bAt_set h1 (by omega) (by omega)]; simp
  · have := bAt_rep (s := o.ini)
    unfold bAt at this
    rw [count_set h1 this]; omega
theorem Rnd.skip {o : Obj} {b0 b : List Bool} {n k : Nat} (R : Rnd o b0 b n k) (hk : k < o.rows.length) (h : bAt b o.rows[k].s = true → bAt b o.rows[k].n = true) : Rnd o b0 b n (k + 1) :=
  ⟨R.len, R.re, R.ini, R.cnt, R.way.imp (fun ⟨e, x⟩ => ⟨e, fun j hj hjk => by
    by_cases e2 : j = k
    · subst e2; rw [← e]; exact h
    · exact x j hj (by omega)⟩) id⟩
theorem set_same_bool {b : List Bool} {i : Nat} (hi : i < b.length) (h : b.getD i false = true) : b.set i true = b := by
  apply List.ext_getElem?
  intro j
  rw [List.getElem?_set]
  split
  · rename_i e; subst e
    rw [List.getElem?_eq_getElem hi]
    rw [List.getD_eq_getElem?_getD, List.getElem?_eq_getElem hi] at h
    simpa using h.symm
  · rfl
theorem Rnd.mark {o : Obj} (hr : objR o) (h : objFine o) {b0 b : List Bool} {n k : Nat} (R : Rnd o b0 b n k) (hk : k < o.rows.length) (h1 : bAt b o.rows[k].s = true) : Rnd o b0 (b.set o.rows[k].n.toNat true) n (k + 1) := by
  have hrow := objFine_row h (List.getElem_mem hk)
  have hs := objFine_st hr h
  have hl : o.rows[k].n.toNat < b.length := by rw [R.len]; omega
  by_cases h2 : bAt b o.rows[k].n = true
  · rw [set_same_bool hl h2]
    exact R.skip hk fun _ => h2
  · have h2' : b.getD o.rows[k].n.toNat false = false := by unfold bAt at h2; simpa using h2
    refine ⟨by simp [R.len], fun x hx hb => ?_, ?_, R.cnt, .inr ?_⟩
    · rw [bAt_set hl hx (by omega)] at hb
      simp only [Bool.or_eq_true, decide_eq_true_eq] at hb
      rcases hb with hb | rfl
      · exact R.re x hx hb
      · exact RE.step (List.getElem_mem hk) (R.re _ (by omega) h1)
    · rw [bAt_set hl (by omega) (by omega), R.ini]; rfl
    · rw [count_set hl h2']
      rcases R.way with ⟨e, _⟩ | ⟨e1, e2⟩
      · subst e
        exact ⟨fun hm => h2 (hm _ (List.getElem_mem hk) h1), Nat.le_refl _⟩
      · exact ⟨e1, by omega⟩
theorem Rnd.next {o : Obj} {b0 b : List Bool} {n : Nat} (R : Rnd o b0 b n o.rows.length) : Rnd o b b (n + 1) 0 := by
  refine ⟨R.len, R.re, R.ini, ?_, .inl ⟨rfl, fun j _ hj => by omega⟩⟩
  rcases R.way with ⟨e, x⟩ | ⟨e1, e2⟩
  · left
    intro r hm hs
    obtain ⟨j, hj, rfl⟩ := List.mem_iff_getElem.1 hm
    rw [e] at hs ⊢
    exact x j hj hj hs
  · right
    rcases R.cnt with c | c
    · exact absurd c e1
    · omega
theorem Rnd.ends {o : Obj} (hr : objR o) (h : objFine o) {b0 b : List Bool} (R : Rnd o b0 b 32 0) {s : Int} (hs : 0 ≤ s) : bAt b0 s = true ↔ RE o s := by
  have hb : b = b0 := by
    rcases R.way with ⟨e, _⟩ | ⟨_, e2⟩
    · exact e
    · have h1 : b.count true ≤ b.length := List.count_le_length
      rw [R.len] at h1
      rcases R.cnt with c | c
      · contradiction
      · omega
  subst hb
  refine ⟨R.re s hs, fun hx => ?_⟩
  have hm : markedAll o b := by
    rcases R.cnt with c | c
    · exact c
    · have h1 : b.count true ≤ b.length := List.count_le_length
      rw [R.len] at h1; omega
  clear hs
  induction hx with
  | init => exact R.ini
  | step hr _ ih => exact hm _ hr ih
open Classical in
/-- The states that are marked, up to the i-th. -/
noncomputable def upL (o : Obj) (i : Nat) : List Int := ((List.range i).map fun n : Nat => (n : Int)).filter fun s => decide (RE o s)
theorem reachL_up (o : Obj) : reachL o = upL o o.st.toNat := rfl
open Classical in
theorem upL_succ (o : Obj) (i : Nat) : upL o (i + 1) = if RE o i then upL o i ++ [(i : Int)] else upL o i := by
  unfold upL
  rw [List.range_succ, List.map_append, List.filter_append]
  by_cases h : RE o i
  · simp [h]
  · simp [h]

/-! ### What never moves -/
open Classical in
noncomputable def deadOf (o : Obj) (k : Int) : Bool := !(o.rows.any fun r => decide (r.k = k) && decide (r.s ∈ reachS o))
open Classical in
noncomputable def deadTo (o : Obj) (n : Nat) : List Int := ((List.range n).map fun n : Nat => (n : Int)).filter fun k => deadOf o k
open Classical in
noncomputable def deadS (o : Obj) : List Int := if objFine o then deadTo o o.kd.toNat else []
theorem deadTo_succ (o : Obj) (n : Nat) : deadTo o (n + 1) = if deadOf o n then deadTo o n ++ [(n : Int)] else deadTo o n := by
  unfold deadTo
  rw [List.range_succ, List.map_append, List.filter_append]
  by_cases h : deadOf o n
  · simp [h]
  · simp [h]
theorem reachS_ne {o : Obj} (hr : objR o) (h : objFine o) : reachS o ≠ [] := by
  unfold reachS
  rw [if_pos h]
  intro e
  have := (mem_reachL hr h).2 RE.init
  rw [e] at this; cases this
end Go.AX
