/-
  Contracts: all clauses (count, the document's answer).
  Contracts: all clauses (count).
  Contracts: objects as tables; names' variables.
  Contracts: clauses of places, times and states.
-/
import Derived.Test.YtjhchangnkmedaaS6AxCntC
import Derived.Test.YtjhchangnkmedaaS6AxCntD
namespace Go.AX
open Go.Proofs

@[simp] theorem frzR_orow (r : Nat → Nat → PV) (ops : List Op5) : frzR r (ops.map orow) = ops.map orow := by
  rw [frzR_map, List.map_map]; congr 1
@[simp] theorem frzR_prow (r : Nat → Nat → PV) (l : List (Int × Int)) : frzR r (l.map prow) = l.map prow := by
  rw [frzR_map, List.map_map]; congr 1
@[simp] theorem frzR_ints (r : Nat → Nat → PV) (l : List Int) : frzR r (l.map fun i => [I64 i]) = l.map fun i => [I64 i] := by
  rw [frzR_map, List.map_map]; congr 1
@[simp] theorem nwR_prow (l : List (Int × Int)) : nwR (l.map prow) := by
  rw [nwR_iff]; intro r hr
  obtain ⟨o, _, rfl⟩ := List.mem_map.1 hr
  exact ⟨trivial, trivial, trivial⟩
@[simp] theorem nwR_ints (l : List Int) : nwR (l.map fun i => [I64 i]) := by
  rw [nwR_iff]; intro r hr
  obtain ⟨o, _, rfl⟩ := List.mem_map.1 hr
  exact ⟨trivial, trivial⟩

def allOk (n m : Int) (ops : List Op5) : Bool := decide ((chk ops).2 = 0) && sizeOk n m && decide ((ops.length : Int) = n)
def allN (n m : Int) (ops : List Op5) : Int :=
  if allOk n m ops then w64 (placesN n m + timesN n m (pairsTo ops ops.length).length + statesN n m + movesN n m (w64 (n - (pendTo ops ops.length).length))) else 0
theorem allOk_iff {n m : Int} {ops : List Op5} : allOk n m ops = true ↔ (chk ops).2 = 0 ∧ sizeOk n m = true ∧ (ops.length : Int) = n := by simp [allOk, and_assoc]

def varsN (n m : Int) : Int := w64 (n * n + n + (n + 1) * m)
def fitsN (n m : Int) (ops : List Op5) : Int := if allN n m ops = 0 then 2 else if allN n m ops > 500000 ∨ varsN n m > 900 then 3 else 0
end Go.AX

namespace Go.AX
open Go.Proofs

end Go.AX

namespace Go.AX
open Go.Proofs

/-! ### The first error of a row -/
def firstErr (e : Nat → Int) (n : Nat) : Int × Int :=
  match (List.range n).find? (fun i => decide (e i ≠ 0)) with
  | some i => ((i : Int), e i)
  | none => ((n : Int), 0)
def okUp (e : Nat → Int) (i : Nat) : Prop := ∀ j, j < i → e j = 0
theorem firstErr_bad {e : Nat → Int} {n i : Nat} (hi : i < n) (ho : okUp e i) (he : e i ≠ 0) : firstErr e n = ((i : Int), e i) := by
  unfold firstErr
  have : (List.range n).find? (fun i => decide (e i ≠ 0)) = some i := by
    rw [List.find?_range_eq_some]
    exact ⟨by simpa using he, by simpa using hi, fun j hj => by simpa using ho j hj⟩
  rw [this]
theorem firstErr_ok {e : Nat → Int} {n : Nat} (ho : okUp e n) : firstErr e n = ((n : Int), 0) := by
  unfold firstErr
  have : (List.range n).find? (fun i => decide (e i ≠ 0)) = none := by
    rw [List.find?_range_eq_none]
    intro j hj; simpa using ho j hj
  rw [this]
theorem okUp_succ {e : Nat → Int} {i : Nat} (h : okUp e i) (he : e i = 0) : okUp e (i + 1) := fun j hj => by
  rcases Nat.lt_or_ge j i with h1 | h1
  · exact h j h1
  · have : j = i := by omega
    subst this; exact he
theorem firstErr_zero {e : Nat → Int} {n : Nat} : (firstErr e n).2 = 0 ↔ okUp e n := by
  constructor
  · intro h
    unfold firstErr at h
    split at h
    · rename_i i hi
      rw [List.find?_range_eq_some] at hi
      exact absurd h (by simpa using hi.1)
    · rename_i hn
      rw [List.find?_range_eq_none] at hn
      intro j hj
      have := hn j hj
      simpa using this
  · intro h; rw [firstErr_ok h]

/-! ### Objects -/
structure ORow where
  s : Int
  k : Int
  n : Int
  r : Int
  deriving DecidableEq, Inhabited
structure Obj where
  st : Int
  kd : Int
  ini : Int
  rows : List ORow
def rrow (r : ORow) : List PV := [I64 r.s, I64 r.k, I64 r.n, I64 r.r]
def robj (o : Obj) : PV := .agg [I64 o.st, I64 o.kd, I64 o.ini, .seq false 4 (o.rows.map rrow)]
@[simp] theorem belowR_rrow (k : Nat) (l : List ORow) : belowR k (l.map rrow) := by
  rw [belowR_iff]; intro r hr x hx
  obtain ⟨o, _, rfl⟩ := List.mem_map.1 hr
  simp [rrow] at hx; rcases hx with rfl | rfl | rfl | rfl <;> trivial
@[simp] theorem frzR_rrow (r : Nat → Nat → PV) (l : List ORow) : frzR r (l.map rrow) = l.map rrow := by
  rw [frzR_map, List.map_map]; congr 1

def withinS (n t : Int) : Bool := decide (0 ≤ n) && decide (n < t)
theorem withinS_iff {n t : Int} : withinS n t = true ↔ 0 ≤ n ∧ n < t := by simp [withinS]
def cmpS (a b : Int) : Int := if a < b then -1 else if a > b then 1 else 0
def placeS (a b : ORow) : Int := if cmpS a.s b.s ≠ 0 then cmpS a.s b.s else cmpS a.k b.k
def rowE (o : Obj) (i : Nat) : Int :=
  let r := o.rows.getD i default
  if (withinS r.s o.st && withinS r.n o.st) = false then 30 else if withinS r.k o.kd = false then 31 else if withinS r.r 1000001 = false then 7 else if 0 < i ∧ 0 ≤ placeS (o.rows.getD (i - 1) default) r then 32 else 0
def objOk (o : Obj) : Bool := withinS (w64 (o.st - 1)) 32 && (withinS (w64 (o.kd - 1)) 64 && withinS o.ini o.st)
def objChk (o : Obj) : Int × Int := if objOk o then firstErr (rowE o) o.rows.length else (-1, 2)

theorem isNaN_ok (n : Int) : APure Try.prog 137 [I64 n] (fun r => r = .pv (BL false)) := by
  refine apure1 hmo Try.func137 (by kernel_rfl) rfl rfl (by kernel_rfl) (Nat.le_of_ble_eq_true rfl) ?_
  simp

def orS : List Int → Int
  | [] => 0
  | x :: r => if x ≠ 0 then x else orS r
theorem orS_drop {l : List Int} {i : Nat} (h : i < l.length) : orS (l.drop i) = if l[i] ≠ 0 then l[i] else orS (l.drop (i + 1)) := by
  rw [List.drop_eq_getElem_cons h]; rfl

theorem rowE_eq {o : Obj} {i : Nat} (h : i < o.rows.length) : rowE o i = if (withinS o.rows[i].s o.st && withinS o.rows[i].n o.st) = false then 30 else if withinS o.rows[i].k o.kd = false then 31 else if withinS o.rows[i].r 1000001 = false then 7 else if 0 < i ∧ 0 ≤ placeS (o.rows.getD (i - 1) default) o.rows[i] then 32 else 0 := by
  simp [rowE, h]

theorem objOk_iff {o : Obj} : objOk o = true ↔ withinS (w64 (o.st - 1)) 32 = true ∧ withinS (w64 (o.kd - 1)) 64 = true ∧ withinS o.ini o.st = true := by simp [objOk]

/-! ### Moves -/
def idxS {α : Type} (p : α → Bool) (l : List α) : Int := match l.findIdx? p with | some i => (i : Int) | none => -1
theorem idxS_at {α : Type} {p : α → Bool} {l : List α} {i : Nat} (h : i < l.length) (hn : ∀ j (hj : j < l.length), j < i → p l[j] = false) (hp : p l[i] = true) : idxS p l = i := by
  have : l.findIdx? p = some i := by
    rw [List.findIdx?_eq_some_iff_getElem]
    exact ⟨h, hp, fun j hj => by simp [hn j (by omega) hj]⟩
  rw [idxS, this]
theorem idxS_none {α : Type} {p : α → Bool} {l : List α} (hn : ∀ j (hj : j < l.length), p l[j] = false) : idxS p l = -1 := by
  have : l.findIdx? p = none := by
    rw [List.findIdx?_eq_none_iff]
    intro x hx
    obtain ⟨j, hj, rfl⟩ := List.mem_iff_getElem.1 hx
    exact hn j hj
  rw [idxS, this]

def isRow (s k : Int) (x : ORow) : Bool := decide (x.s = s) && decide (x.k = k)
def moveS (o : Obj) (s k : Int) : Option (Int × Int) := (o.rows.find? (isRow s k)).map fun r => (r.n, r.r)
def movePV : Option (Int × Int) → PV
  | some x => .tup [I64 x.1, I64 x.2, BL true]
  | none => .tup [I64 0, I64 0, BL false]

theorem find_of_idx {α : Type} {p : α → Bool} : ∀ {l : List α}, (l.findIdx? p = none ∧ l.find? p = none) ∨ ∃ n, ∃ h : n < l.length, l.findIdx? p = some n ∧ l.find? p = some l[n] := by
  intro l
  cases hf : l.findIdx? p with
  | none =>
    left
    refine ⟨rfl, ?_⟩
    rw [List.findIdx?_eq_none_iff] at hf
    rw [List.find?_eq_none]
    intro x hx; simp [hf x hx]
  | some n =>
    right
    rw [List.findIdx?_eq_some_iff_getElem] at hf
    obtain ⟨h, h1, h2⟩ := hf
    refine ⟨n, h, rfl, ?_⟩
    rw [List.find?_eq_some_iff_getElem]
    exact ⟨h1, n, h, rfl, fun j hj => by have := h2 j hj; simpa using this⟩

/-! ### Names -/
def blockFrom (n : Int) (kind : Int) : Int := if kind = 1 then 0 else if kind = 2 then n * n else n * n + n
def blockWide (n m : Int) (kind : Int) : Int := if kind = 1 then n else if kind = 2 then 1 else m
def blockTall (n : Int) (kind : Int) : Int := if kind = 1 then n else if kind = 2 then n else n + 1
def varOk (n m kind a b : Int) : Bool := sizeOk n m && (decide (0 < kind) && (decide (kind ≤ 3) && (decide (0 ≤ a) && (decide (a < blockTall n kind) && (decide (0 ≤ b) && decide (b < blockWide n m kind))))))
/-- A name's variable. -/
def varS (n m kind a b : Int) : Int := if varOk n m kind a b then blockFrom n kind + a * blockWide n m kind + b + 1 else 0
theorem varOk_iff {n m kind a b : Int} : varOk n m kind a b = true ↔ sizeOk n m = true ∧ 0 < kind ∧ kind ≤ 3 ∧ 0 ≤ a ∧ a < blockTall n kind ∧ 0 ≤ b ∧ b < blockWide n m kind := by simp [varOk]

theorem block_small {n m k a b : Int} (h : varOk n m k a b = true) : 0 ≤ blockFrom n k ∧ blockFrom n k ≤ 4160 ∧ 0 ≤ a * blockWide n m k ∧ a * blockWide n m k ≤ 65 * 64 ∧ 0 ≤ b ∧ b ≤ 64 := by
  obtain ⟨h1, h2, h3, h4, h5, h6, h7⟩ := varOk_iff.1 h
  have hs := sizeOk_iff.1 h1
  have h8 : 0 ≤ n * n := Int.mul_nonneg hs.1 hs.1
  have h9 : n * n ≤ 64 * 64 := Int.mul_le_mul hs.2.1 hs.2.1 hs.1 (by omega)
  have hw : blockWide n m k ≤ 64 := by unfold blockWide; split <;> (try split) <;> omega
  have ht : blockTall n k ≤ 65 := by unfold blockTall; split <;> (try split) <;> omega
  refine ⟨by unfold blockFrom; split <;> (try split) <;> omega, by unfold blockFrom; split <;> (try split) <;> omega, Int.mul_nonneg h4 (by omega), Int.mul_le_mul (by omega) hw (by omega) (by omega), h6, by omega⟩

end Go.AX

namespace Go.AX
open Go.Proofs

def irow (l : List Int) : List (List PV) := l.map fun i => [I64 i]
/-- A clause as a row of rows holds it. -/
def crow (l : List Int) : List PV := [.seq true 1 (irow l)]
def crowF (l : List Int) : List PV := [.seq false 1 (irow l)]
@[simp] theorem irow_length (l : List Int) : (irow l).length = l.length := by simp [irow]
@[simp] theorem belowR_irow (k : Nat) (l : List Int) : belowR k (irow l) := belowR_ints k l
@[simp] theorem nwR_irow (l : List Int) : nwR (irow l) := by
  rw [nwR_iff]; intro r hr
  obtain ⟨o, _, rfl⟩ := List.mem_map.1 hr
  exact ⟨trivial, trivial⟩
@[simp] theorem frzR_irow (r : Nat → Nat → PV) (l : List Int) : frzR r (irow l) = irow l := by
  rw [irow, frzR_map, List.map_map]; congr 1
@[simp] theorem belowR_crow (k : Nat) (l : List (List Int)) : belowR k (l.map crow) := by
  rw [belowR_iff]; intro r hr x hx
  obtain ⟨o, _, rfl⟩ := List.mem_map.1 hr
  simp [crow] at hx; subst hx; exact belowR_irow k o
@[simp] theorem belowL_crow (k : Nat) (l : List Int) : belowL k (crow l) := by simp [crow]
@[simp] theorem nwR_crow (l : List (List Int)) : nwR (l.map crow) := by
  rw [nwR_iff]; intro r hr
  obtain ⟨o, _, rfl⟩ := List.mem_map.1 hr
  simp [crow]
@[simp] theorem frzR_crow (r : Nat → Nat → PV) (l : List (List Int)) : frzR r (l.map crow) = l.map crowF := by
  rw [frzR_map, List.map_map]
  apply List.map_congr_left
  intro x _
  simp [crow, crowF]

@[simp] theorem irow_get (l : List Int) (i : Nat) : (irow l)[i]? = l[i]?.map fun n => [I64 n] := by simp [irow]
@[simp] theorem irow_elem (l : List Int) (i : Nat) (h : i < (irow l).length) : (irow l)[i]'h = [I64 (l[i]'(by simpa using h))] := by simp [irow]
theorem irow_cut (l : List Int) (i : Nat) : List.drop i (List.take l.length (irow l)) = irow (l.drop i) := by
  rw [← irow_length l, List.take_length, irow, irow, List.map_drop]
theorem irow_append (l : List Int) (x : Int) : irow l ++ [[I64 x]] = irow (l ++ [x]) := by simp [irow]

/-! ### At most one -/
def mostRow (v : Int) (ws : List Int) : List (List Int) := ws.map fun w => [w64 (-v), w64 (-w)]
def mostTo (vs : List Int) (i : Nat) : List (List Int) := (List.range i).flatMap fun a => mostRow (vs.getD a 0) (vs.drop (a + 1))
def mostS (vs : List Int) : List (List Int) := mostTo vs vs.length
theorem mostTo_succ (vs : List Int) {i : Nat} (h : i < vs.length) : mostTo vs (i + 1) = mostTo vs i ++ mostRow vs[i] (vs.drop (i + 1)) := by
  unfold mostTo
  rw [List.range_succ, List.flatMap_append]; simp [h]
theorem mostTo_length (vs : List Int) : ∀ i, (mostTo vs i).length ≤ i * vs.length
  | 0 => by simp [mostTo]
  | i + 1 => by
    have ih := mostTo_length vs i
    unfold mostTo at ih ⊢
    rw [List.range_succ, List.flatMap_append, List.length_append, Nat.succ_mul]
    simp [mostRow] at ih ⊢
    omega

/-! ### Rows that are filled -/
def fillTo (g : Nat → Int) (N i : Nat) : List (List PV) := (List.range N).map fun j => if j < i then [I64 (g j)] else [I64 0]
@[simp] theorem fillTo_length (g : Nat → Int) (N i : Nat) : (fillTo g N i).length = N := by simp [fillTo]
theorem fillTo_zero (g : Nat → Int) (N : Nat) : fillTo g N 0 = List.replicate N [I64 0] := by
  apply List.ext_getElem?; intro k
  simp only [fillTo, List.getElem?_map, List.getElem?_range, List.getElem?_replicate]
  split <;> rename_i h
  · rw [List.getElem?_range h]; simp
  · rw [List.getElem?_eq_none (by simpa using h)]; simp
theorem fillTo_all (g : Nat → Int) (N : Nat) : fillTo g N N = irow ((List.range N).map g) := by
  simp only [fillTo, irow, List.map_map]
  apply List.map_congr_left
  intro x hx
  simp at hx; simp [hx]
theorem fillTo_get (g : Nat → Int) {N i : Nat} (h : i < N) : (fillTo g N i)[i]? = some [I64 0] := by simp [fillTo, h]
theorem fillTo_elem (g : Nat → Int) {N i : Nat} (h : i < N) : (fillTo g N i)[i]'(by simpa using h) = [I64 0] := by simp [fillTo]
theorem fillTo_set (g : Nat → Int) {N i : Nat} (h : i < N) : (fillTo g N i).set i [I64 (g i)] = fillTo g N (i + 1) := by
  apply List.ext_getElem?; intro k
  rw [List.getElem?_set]
  by_cases hk : k < N
  · by_cases e : i = k
    · subst e; simp [fillTo, h]
    · rw [if_neg e]
      simp only [fillTo, List.getElem?_map, List.getElem?_range hk, Option.map_some]
      by_cases h2 : k < i
      · rw [if_pos h2, if_pos (by omega)]
      · rw [if_neg h2, if_neg (by omega)]
  · have h1 : (fillTo g N i)[k]? = none := List.getElem?_eq_none (by simp; omega)
    have h2 : (fillTo g N (i + 1))[k]? = none := List.getElem?_eq_none (by simp; omega)
    rw [h1, h2]; simp; intro e; omega
@[simp] theorem belowR_fill (k : Nat) (g : Nat → Int) (N i : Nat) : belowR k (fillTo g N i) := by
  rw [belowR_iff]; intro r hr x hx
  obtain ⟨o, _, rfl⟩ := List.mem_map.1 hr
  split at hx <;> (simp at hx; subst hx; trivial)

/-- A name, told by a function. -/
structure Nm where
  k : Int
  a : Int
  b : Int
def nmPV (x : Nm) : PV := .agg [I64 x.k, I64 x.a, I64 x.b]

/-! ### Places -/
def rowA (n m : Int) (N a : Nat) : List Int := (List.range N).map fun (i : Nat) => varS n m 1 a i
def rowB (n m : Int) (N k : Nat) : List Int := (List.range N).map fun (i : Nat) => varS n m 1 i k
def partA (n m : Int) (N i : Nat) : List (List Int) := (List.range i).flatMap fun a => rowA n m N a :: mostS (rowA n m N a)
def partB (n m : Int) (N i : Nat) : List (List Int) := (List.range i).flatMap fun k => mostS (rowB n m N k)
def placesC (n m : Int) : List (List Int) := if sizeOk n m then partA n m n.toNat n.toNat ++ partB n m n.toNat n.toNat else []
theorem partA_succ (n m : Int) (N i : Nat) : partA n m N (i + 1) = partA n m N i ++ (rowA n m N i :: mostS (rowA n m N i)) := by
  unfold partA; rw [List.range_succ, List.flatMap_append]; simp
theorem partB_succ (n m : Int) (N i : Nat) : partB n m N (i + 1) = partB n m N i ++ mostS (rowB n m N i) := by
  unfold partB; rw [List.range_succ, List.flatMap_append]; simp
@[simp] theorem rowA_length (n m : Int) (N a : Nat) : (rowA n m N a).length = N := by simp [rowA]
@[simp] theorem rowB_length (n m : Int) (N a : Nat) : (rowB n m N a).length = N := by simp [rowB]
theorem mostS_length (vs : List Int) : (mostS vs).length ≤ vs.length * vs.length := mostTo_length vs vs.length
theorem partA_length (n m : Int) (N : Nat) : ∀ i, (partA n m N i).length ≤ i * (1 + N * N)
  | 0 => by simp [partA]
  | i + 1 => by
    have ih := partA_length n m N i
    have := mostS_length (rowA n m N i)
    rw [partA_succ, List.length_append, Nat.succ_mul]
    simp at this ⊢; omega
theorem partB_length (n m : Int) (N : Nat) : ∀ i, (partB n m N i).length ≤ i * (N * N)
  | 0 => by simp [partB]
  | i + 1 => by
    have ih := partB_length n m N i
    have := mostS_length (rowB n m N i)
    rw [partB_succ, List.length_append, Nat.succ_mul]
    simp at this ⊢; omega

/-! ### Times -/
def properS (p : Int × Int) (n : Int) : Bool := decide (0 ≤ if p.2 < p.1 then p.2 else p.1) && decide ((if p.1 < p.2 then p.2 else p.1) < n) && !decide (p.1 = p.2)
/-! ### States -/
def rowS (n m : Int) (M a : Nat) : List Int := (List.range M).map fun (b : Nat) => varS n m 3 a b
def partS (n m : Int) (M i : Nat) : List (List Int) := (List.range i).flatMap fun a => rowS n m M a :: mostS (rowS n m M a)
def statesC (n m init : Int) : List (List Int) := if sizeOk n m && (decide (0 ≤ init) && decide (init < m)) then [varS n m 3 0 init] :: partS n m m.toNat (n.toNat + 1) else []
theorem partS_succ (n m : Int) (M i : Nat) : partS n m M (i + 1) = partS n m M i ++ (rowS n m M i :: mostS (rowS n m M i)) := by
  unfold partS; rw [List.range_succ, List.flatMap_append]; simp
@[simp] theorem rowS_length (n m : Int) (M a : Nat) : (rowS n m M a).length = M := by simp [rowS]
theorem partS_length (n m : Int) (M : Nat) : ∀ i, (partS n m M i).length ≤ i * (1 + M * M)
  | 0 => by simp [partS]
  | i + 1 => by
    have ih := partS_length n m M i
    have := mostS_length (rowS n m M i)
    rw [partS_succ, List.length_append, Nat.succ_mul]
    simp at this ⊢; omega

/-! ### Times -/
/-- Of one pair: all places. -/
def pairC (n m : Int) (p : Int × Int) (a : Nat) : List (List Int) := (List.range a).flatMap fun a => (List.range a).map fun (b : Nat) => [w64 (-varS n m 1 p.1 a), w64 (-varS n m 1 p.2 b)]
def timesTo (n m : Int) (N : Nat) (ps : List (Int × Int)) (i : Nat) : List (List Int) := (ps.take i).flatMap fun p => if properS p n then pairC n m p N else []
def timesC (n m : Int) (ps : List (Int × Int)) : List (List Int) := if sizeOk n m then timesTo n m n.toNat ps ps.length else []
def pairR (n m : Int) (p : Int × Int) (a b : Nat) : List (List Int) := (List.range b).map fun (b : Nat) => [w64 (-varS n m 1 p.1 a), w64 (-varS n m 1 p.2 b)]
theorem pairC_succ (n m : Int) (p : Int × Int) (a : Nat) : pairC n m p (a + 1) = pairC n m p a ++ pairR n m p a a := by
  unfold pairC; rw [List.range_succ, List.flatMap_append]; simp [pairR]
theorem pairR_succ (n m : Int) (p : Int × Int) (a b : Nat) : pairR n m p a (b + 1) = pairR n m p a b ++ [[w64 (-varS n m 1 p.1 a), w64 (-varS n m 1 p.2 b)]] := by
  unfold pairR; rw [List.range_succ, List.map_append]; simp
theorem timesTo_succ (n m : Int) (N : Nat) (ps : List (Int × Int)) {i : Nat} (h : i < ps.length) : timesTo n m N ps (i + 1) = timesTo n m N ps i ++ (if properS ps[i] n then pairC n m ps[i] N else []) := by
  unfold timesTo; rw [List.take_succ_eq_append_getElem h, List.flatMap_append]; simp
theorem pairC_length (n m : Int) (p : Int × Int) : ∀ a, (pairC n m p a).length ≤ a * a
  | 0 => by simp [pairC]
  | a + 1 => by
    have ih := pairC_length n m p a
    have : (a + 1) * (a + 1) = a * a + 2 * a + 1 := by grind
    rw [pairC_succ, List.length_append]
    simp [pairR]; omega
theorem timesTo_length (n m : Int) (N : Nat) (ps : List (Int × Int)) : ∀ i, i ≤ ps.length → (timesTo n m N ps i).length ≤ i * (N * N)
  | 0, _ => by simp [timesTo]
  | i + 1, h => by
    have ih := timesTo_length n m N ps i (by omega)
    have := pairC_length n m ps[i] N
    rw [timesTo_succ n m N ps (show i < ps.length by omega), List.length_append, Nat.succ_mul]
    split
    · omega
    · simp; omega

end Go.AX
