/-
  Contracts: objects as tables; names' variables.
  Contracts: clauses of places, times and states.
-/
import Derived.Test.YthfhellfmbllhaaGreatS12AxCntG
namespace Go.AX
open Go.Proofs
/-! ### The first error of a row -/
/-! ### Objects -/
structure ORow where
  s : Int
  k : Int
  n : Int
  r : Int
  deriving DecidableEq, Inhabited
structure Obj where
  st : Int
  kd : Int
  ini : Int
  rows : List ORow
def rrow (r : ORow) : List PV := [I64 r.s, I64 r.k, I64 r.n, I64 r.r]
@[simp] theorem belowR_rrow (k : Nat) (l : List ORow) : belowR k (l.map rrow) := by
  rw [belowR_iff]; intro r hr x hx
  obtain ⟨o, _, rfl⟩ := List.mem_map.1 hr
  simp [rrow] at hx; rcases hx with rfl | rfl | rfl | rfl <;> trivial
@[simp] theorem frzR_rrow (r : Nat → Nat → PV) (l : List ORow) : frzR r (l.map rrow) = l.map rrow := by
  rw [frzR_map, List.map_map]; congr 1
theorem isNaN_ok (n : Int) : APure Tryz.prog 207 [I64 n] (fun r => r = .pv (BL false)) := by
  refine apure1 hmo Tryz.func207 (by kernel_rfl) rfl rfl (by kernel_rfl) (Nat.le_of_ble_eq_true rfl) ?_
  simp
/-! ### Moves -/
def idxS {α : Type} (p : α → Bool) (l : List α) : Int := match l.findIdx? p with | some i => (i : Int) | none => -1
theorem idxS_at {α : Type} {p : α → Bool} {l : List α} {i : Nat} (h : i < l.length) (hn : ∀ j (hj : j < l.length), j < i → p l[j] = false) (hp : p l[i] = true) : idxS p l = i := by
  have : l.findIdx? p = some i := by
    rw [List.findIdx?_eq_some_iff_getElem]
    exact ⟨h, hp, fun j hj => by simp [hn j (by omega) hj]⟩
  rw [idxS, this]
theorem idxS_none {α : Type} {p : α → Bool} {l : List α} (hn : ∀ j (hj : j < l.length), p l[j] = false) : idxS p l = -1 := by
  have : l.findIdx? p = none := by
    rw [List.findIdx?_eq_none_iff]
    intro x hx
    obtain ⟨j, hj, rfl⟩ := List.mem_iff_getElem.1 hx
    exact hn j hj
  rw [idxS, this]
/-! ### Names -/
def blockFrom (n : Int) (kind : Int) : Int := if kind = 1 then 0 else if kind = 2 then n * n else n * n + n
def blockWide (n m : Int) (kind : Int) : Int := if kind = 1 then n else if kind = 2 then 1 else m
def blockTall (n : Int) (kind : Int) : Int := if kind = 1 then n else if kind = 2 then n else n + 1
def varOk (n m kind a b : Int) : Bool := sizeOk n m && (decide (0 < kind) && (decide (kind ≤ 3) && (decide (0 ≤ a) && (decide (a < blockTall n kind) && (decide (0 ≤ b) && decide (b < blockWide n m kind))))))
def varS (n m kind a b : Int) : Int := if varOk n m kind a b then blockFrom n kind + a * blockWide n m kind + b + 1 else 0
end Go.AX

namespace Go.AX
open Go.Proofs
def irow (l : List Int) : List (List PV) := l.map fun i => [I64 i]
def crow (l : List Int) : List PV := [.seq true 1 (irow l)]
def crowF (l : List Int) : List PV := [.seq false 1 (irow l)]
@[simp] theorem irow_length (l : List Int) : (irow l).length = l.length := by simp [irow]
@[simp] theorem belowR_irow (k : Nat) (l : List Int) : belowR k (irow l) := belowR_ints k l
@[simp] theorem nwR_irow (l : List Int) : nwR (irow l) := by
  rw [nwR_iff]; intro r hr
  obtain ⟨o, _, rfl⟩ := List.mem_map.1 hr
  exact ⟨trivial, trivial⟩
@[simp] theorem frzR_irow (r : Nat → Nat → PV) (l : List Int) : frzR r (irow l) = irow l := by
  rw [irow, frzR_map, List.map_map]; congr 1
@[simp] theorem belowR_crow (k : Nat) (l : List (List Int)) : belowR k (l.map crow) := by
  rw [belowR_iff]; intro r hr x hx
  obtain ⟨o, _, rfl⟩ := List.mem_map.1 hr
  simp [crow] at hx; subst hx; exact belowR_irow k o
@[simp] theorem belowL_crow (k : Nat) (l : List Int) : belowL k (crow l) := by simp [crow]
@[simp] theorem nwR_crow (l : List (List Int)) : nwR (l.map crow) := by
  rw [nwR_iff]; intro r hr
  obtain ⟨o, _, rfl⟩ := List.mem_map.1 hr
  simp [crow]
@[simp] theorem frzR_crow (r : Nat → Nat → PV) (l : List (List Int)) : frzR r (l.map crow) = l.map crowF := by
  rw [frzR_map, List.map_map]
  apply List.map_congr_left
  intro x _
  simp [crow, crowF]
@[simp] theorem irow_get (l : List Int) (i : Nat) : (irow l)[i]? = l[i]?.map fun n => [I64 n] := by simp [irow]
@[simp] theorem irow_elem (l : List Int) (i : Nat) (h : i < (irow l).length) : (irow l)[i]'h = [I64 (l[i]'(by simpa using h))] := by simp [irow]
/-! ### At most one -/
/-! ### Rows that are filled -/
def fillTo (g : Nat → Int) (N i : Nat) : List (List PV) := (List.range N).map fun j => if j < i then [I64 (g j)] else [I64 0]
@[simp] theorem fillTo_length (g : Nat → Int) (N i : Nat) : (fillTo g N i).length = N := by simp [fillTo]
@[simp] theorem belowR_fill (k : Nat) (g : Nat → Int) (N i : Nat) : belowR k (fillTo g N i) := by
  rw [belowR_iff]; intro r hr x hx
  obtain ⟨o, _, rfl⟩ := List.mem_map.1 hr
  split at hx <;> (simp at hx; subst hx; trivial)
/-! ### Places -/
def rowA (n m : Int) (N a : Nat) : List Int := (List.range N).map fun (i : Nat) => varS n m 1 a i
def rowB (n m : Int) (N k : Nat) : List Int := (List.range N).map fun (i : Nat) => varS n m 1 i k
@[simp] theorem rowA_length (n m : Int) (N a : Nat) : (rowA n m N a).length = N := by simp [rowA]
@[simp] theorem rowB_length (n m : Int) (N a : Nat) : (rowB n m N a).length = N := by simp [rowB]
/-! ### Times -/
/-! ### States -/
def rowS (n m : Int) (M a : Nat) : List Int := (List.range M).map fun (b : Nat) => varS n m 3 a b
@[simp] theorem rowS_length (n m : Int) (M a : Nat) : (rowS n m M a).length = M := by simp [rowS]
/-! ### Times -/
end Go.AX
