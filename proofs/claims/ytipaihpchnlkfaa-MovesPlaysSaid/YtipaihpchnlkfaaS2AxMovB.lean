/-
  Contracts: clauses of places, times and states.
-/
import Derived.Test.YtipaihpchnlkfaaS2AxMovA
namespace Go.AX
open Go.Proofs

def irow (l : List Int) : List (List PV) := l.map fun i => [I64 i]
/-- A clause as a row of rows holds it. -/
def crow (l : List Int) : List PV := [.seq true 1 (irow l)]
def crowF (l : List Int) : List PV := [.seq false 1 (irow l)]
@[simp] theorem irow_length (l : List Int) : (irow l).length = l.length := by simp [irow]
@[simp] theorem belowR_irow (k : Nat) (l : List Int) : belowR k (irow l) := belowR_ints k l
@[simp] theorem nwR_irow (l : List Int) : nwR (irow l) := by
  rw [nwR_iff]; intro r hr
  obtain ⟨o, _, rfl⟩ := List.mem_map.1 hr
  exact ⟨trivial, trivial⟩
@[simp] theorem frzR_irow (r : Nat → Nat → PV) (l : List Int) : frzR r (irow l) = irow l := by
  rw [irow, frzR_map, List.map_map]; congr 1
@[simp] theorem belowR_crow (k : Nat) (l : List (List Int)) : belowR k (l.map crow) := by
  rw [belowR_iff]; intro r hr x hx
  obtain ⟨o, _, rfl⟩ := List.mem_map.1 hr
  simp [crow] at hx; subst hx; exact belowR_irow k o
@[simp] theorem belowL_crow (k : Nat) (l : List Int) : belowL k (crow l) := by simp [crow]
@[simp] theorem nwR_crow (l : List (List Int)) : nwR (l.map crow) := by
  rw [nwR_iff]; intro r hr
  obtain ⟨o, _, rfl⟩ := List.mem_map.1 hr
  simp [crow]
@[simp] theorem frzR_crow (r : Nat → Nat → PV) (l : List (List Int)) : frzR r (l.map crow) = l.map crowF := by
  rw [frzR_map, List.map_map]
  apply List.map_congr_left
  intro x _
  simp [crow, crowF]

@[simp] theorem irow_get (l : List Int) (i : Nat) : (irow l)[i]? = l[i]?.map fun n => [I64 n] := by simp [irow]
@[simp] theorem irow_elem (l : List Int) (i : Nat) (h : i < (irow l).length) : (irow l)[i]'h = [I64 (l[i]'(by simpa using h))] := by simp [irow]
theorem irow_cut (l : List Int) (i : Nat) : List.drop i (List.take l.length (irow l)) = irow (l.drop i) := by
  rw [← irow_length l, List.take_length, irow, irow, List.map_drop]
theorem irow_append (l : List Int) (x : Int) : irow l ++ [[I64 x]] = irow (l ++ [x]) := by simp [irow]

/-! ### At most one -/
def mostRow (v : Int) (ws : List Int) : List (List Int) := ws.map fun w => [w64 (-v), w64 (-w)]
def mostTo (vs : List Int) (i : Nat) : List (List Int) := (List.range i).flatMap fun a => mostRow (vs.getD a 0) (vs.drop (a + 1))
def mostS (vs : List Int) : List (List Int) := mostTo vs vs.length
theorem mostTo_succ (vs : List Int) {i : Nat} (h : i < vs.length) : mostTo vs (i + 1) = mostTo vs i ++ mostRow vs[i] (vs.drop (i + 1)) := by
  unfold mostTo
  rw [List.range_succ, List.flatMap_append]; simp [h]
theorem mostTo_length (vs : List Int) : ∀ i, (mostTo vs i).length ≤ i * vs.length
  | 0 => by simp [mostTo]
  | i + 1 => by
    have ih := mostTo_length vs i
    unfold mostTo at ih ⊢
    rw [List.range_succ, List.flatMap_append, List.length_append, Nat.succ_mul]
    simp [mostRow] at ih ⊢
    omega

/-! ### Rows that are filled -/
def fillTo (g : Nat → Int) (N i : Nat) : List (List PV) := (List.range N).map fun j => if j < i then [I64 (g j)] else [I64 0]
@[simp] theorem fillTo_length (g : Nat → Int) (N i : Nat) : (fillTo g N i).length = N := by simp [fillTo]
theorem fillTo_zero (g : Nat → Int) (N : Nat) : fillTo g N 0 = List.replicate N [I64 0] := by
  apply List.ext_getElem?; intro k
  simp only [fillTo, List.getElem?_map, List.getElem?_range, List.getElem?_replicate]
  split <;> rename_i h
  · rw [List.getElem?_range h]; simp
  · rw [List.getElem?_eq_none (by simpa using h)]; simp
theorem fillTo_all (g : Nat → Int) (N : Nat) : fillTo g N N = irow ((List.range N).map g) := by
  simp only [fillTo, irow, List.map_map]
  apply List.map_congr_left
  intro x hx
  simp at hx; simp [hx]
theorem fillTo_get (g : Nat → Int) {N i : Nat} (h : i < N) : (fillTo g N i)[i]? = some [I64 0] := by simp [fillTo, h]
theorem fillTo_elem (g : Nat → Int) {N i : Nat} (h : i < N) : (fillTo g N i)[i]'(by simpa using h) = [I64 0] := by simp [fillTo]
theorem fillTo_set (g : Nat → Int) {N i : Nat} (h : i < N) : (fillTo g N i).set i [I64 (g i)] = fillTo g N (i + 1) := by
  apply List.ext_getElem?; intro k
  rw [List.getElem?_set]
  by_cases hk : k < N
  · by_cases e : i = k
    · subst e; simp [fillTo, h]
    · rw [if_neg e]
      simp only [fillTo, List.getElem?_map, List.getElem?_range hk, Option.map_some]
      by_cases h2 : k < i
      · rw [if_pos h2, if_pos (by omega)]
      · rw [if_neg h2, if_neg (by omega)]
  · have h1 : (fillTo g N i)[k]? = none := List.getElem?_eq_none (by simp; omega)
    have h2 : (fillTo g N (i + 1))[k]? = none := List.getElem?_eq_none (by simp; omega)
    rw [h1, h2]; simp; intro e; omega
@[simp] theorem belowR_fill (k : Nat) (g : Nat → Int) (N i : Nat) : belowR k (fillTo g N i) := by
  rw [belowR_iff]; intro r hr x hx
  obtain ⟨o, _, rfl⟩ := List.mem_map.1 hr
  split at hx <;> (simp at hx; subst hx; trivial)

/-- A name, told by a function. -/
structure Nm where
  k : Int
  a : Int
  b : Int
def nmPV (x : Nm) : PV := .agg [I64 x.k, I64 x.a, I64 x.b]

/-! ### Places -/
def rowA (n m : Int) (N a : Nat) : List Int := (List.range N).map fun (i : Nat) => varS n m 1 a i
def rowB (n m : Int) (N k : Nat) : List Int := (List.range N).map fun (i : Nat) => varS n m 1 i k
def partA (n m : Int) (N i : Nat) : List (List Int) := (List.range i).flatMap fun a => rowA n m N a :: mostS (rowA n m N a)
def partB (n m : Int) (N i : Nat) : List (List Int) := (List.range i).flatMap fun k => mostS (rowB n m N k)
def placesC (n m : Int) : List (List Int) := if sizeOk n m then partA n m n.toNat n.toNat ++ partB n m n.toNat n.toNat else []
theorem partA_succ (n m : Int) (N i : Nat) : partA n m N (i + 1) = partA n m N i ++ (rowA n m N i :: mostS (rowA n m N i)) := by
  unfold partA; rw [List.range_succ, List.flatMap_append]; simp
theorem partB_succ (n m : Int) (N i : Nat) : partB n m N (i + 1) = partB n m N i ++ mostS (rowB n m N i) := by
  unfold partB; rw [List.range_succ, List.flatMap_append]; simp
@[simp] theorem rowA_length (n m : Int) (N a : Nat) : (rowA n m N a).length = N := by simp [rowA]
@[simp] theorem rowB_length (n m : Int) (N a : Nat) : (rowB n m N a).length = N := by simp [rowB]
theorem mostS_length (vs : List Int) : (mostS vs).length ≤ vs.length * vs.length := mostTo_length vs vs.length
theorem partA_length (n m : Int) (N : Nat) : ∀ i, (partA n m N i).length ≤ i * (1 + N * N)
  | 0 => by simp [partA]
  | i + 1 => by
    have ih := partA_length n m N i
    have := mostS_length (rowA n m N i)
    rw [partA_succ, List.length_append, Nat.succ_mul]
    simp at this ⊢; omega
theorem partB_length (n m : Int) (N : Nat) : ∀ i, (partB n m N i).length ≤ i * (N * N)
  | 0 => by simp [partB]
  | i + 1 => by
    have ih := partB_length n m N i
    have := mostS_length (rowB n m N i)
    rw [partB_succ, List.length_append, Nat.succ_mul]
    simp at this ⊢; omega

/-! ### Times -/
def properS (p : Int × Int) (n : Int) : Bool := decide (0 ≤ if p.2 < p.1 then p.2 else p.1) && decide ((if p.1 < p.2 then p.2 else p.1) < n) && !decide (p.1 = p.2)
theorem stateAt_ok (n m a b : Int) : APure Try.prog 77 [.agg [I64 n, I64 m], I64 a, I64 b] (fun r => r = .pv (I64 (varS n m 3 a b))) := by
  refine apure1 hmo Try.func77 (by kernel_rfl) rfl rfl (by kernel_rfl) (Nat.le_of_ble_eq_true rfl) ?_
  simp
  refine CallK.intro (var_ok n m 3 a b) (by simp) ?_
  simp

/-! ### States -/
def rowS (n m : Int) (M a : Nat) : List Int := (List.range M).map fun (b : Nat) => varS n m 3 a b
def partS (n m : Int) (M i : Nat) : List (List Int) := (List.range i).flatMap fun a => rowS n m M a :: mostS (rowS n m M a)
def statesC (n m init : Int) : List (List Int) := if sizeOk n m && (decide (0 ≤ init) && decide (init < m)) then [varS n m 3 0 init] :: partS n m m.toNat (n.toNat + 1) else []
theorem partS_succ (n m : Int) (M i : Nat) : partS n m M (i + 1) = partS n m M i ++ (rowS n m M i :: mostS (rowS n m M i)) := by
  unfold partS; rw [List.range_succ, List.flatMap_append]; simp
@[simp] theorem rowS_length (n m : Int) (M a : Nat) : (rowS n m M a).length = M := by simp [rowS]
theorem partS_length (n m : Int) (M : Nat) : ∀ i, (partS n m M i).length ≤ i * (1 + M * M)
  | 0 => by simp [partS]
  | i + 1 => by
    have ih := partS_length n m M i
    have := mostS_length (rowS n m M i)
    rw [partS_succ, List.length_append, Nat.succ_mul]
    simp at this ⊢; omega

/-! ### Times -/
/-- Of one pair: all places. -/
def pairC (n m : Int) (p : Int × Int) (a : Nat) : List (List Int) := (List.range a).flatMap fun a => (List.range a).map fun (b : Nat) => [w64 (-varS n m 1 p.1 a), w64 (-varS n m 1 p.2 b)]
def timesTo (n m : Int) (N : Nat) (ps : List (Int × Int)) (i : Nat) : List (List Int) := (ps.take i).flatMap fun p => if properS p n then pairC n m p N else []
def timesC (n m : Int) (ps : List (Int × Int)) : List (List Int) := if sizeOk n m then timesTo n m n.toNat ps ps.length else []
def pairR (n m : Int) (p : Int × Int) (a b : Nat) : List (List Int) := (List.range b).map fun (b : Nat) => [w64 (-varS n m 1 p.1 a), w64 (-varS n m 1 p.2 b)]
theorem pairC_succ (n m : Int) (p : Int × Int) (a : Nat) : pairC n m p (a + 1) = pairC n m p a ++ pairR n m p a a := by
  unfold pairC; rw [List.range_succ, List.flatMap_append]; simp [pairR]
theorem pairR_succ (n m : Int) (p : Int × Int) (a b : Nat) : pairR n m p a (b + 1) = pairR n m p a b ++ [[w64 (-varS n m 1 p.1 a), w64 (-varS n m 1 p.2 b)]] := by
  unfold pairR; rw [List.range_succ, List.map_append]; simp
theorem timesTo_succ (n m : Int) (N : Nat) (ps : List (Int × Int)) {i : Nat} (h : i < ps.length) : timesTo n m N ps (i + 1) = timesTo n m N ps i ++ (if properS ps[i] n then pairC n m ps[i] N else []) := by
  unfold timesTo; rw [List.take_succ_eq_append_getElem h, List.flatMap_append]; simp
theorem pairC_length (n m : Int) (p : Int × Int) : ∀ a, (pairC n m p a).length ≤ a * a
  | 0 => by simp [pairC]
  | a + 1 => by
    have ih := pairC_length n m p a
    have : (a + 1) * (a + 1) = a * a + 2 * a + 1 := by grind
    rw [pairC_succ, List.length_append]
    simp [pairR]; omega
theorem timesTo_length (n m : Int) (N : Nat) (ps : List (Int × Int)) : ∀ i, i ≤ ps.length → (timesTo n m N ps i).length ≤ i * (N * N)
  | 0, _ => by simp [timesTo]
  | i + 1, h => by
    have ih := timesTo_length n m N ps i (by omega)
    have := pairC_length n m ps[i] N
    rw [timesTo_succ n m N ps (show i < ps.length by omega), List.length_append, Nat.succ_mul]
    split
    · omega
    · simp; omega

end Go.AX
