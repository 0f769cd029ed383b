/-
  Contracts: objects as tables; names' variables.
  Contracts: clauses of places, times and states.
-/
import Derived.Test.YtpejmhpcgpnpaaaGreatS15AxCntL
namespace Go.AX
open Go.Proofs
/-! ### The first error of a row -/
def firstErr (e : Nat → Int) (n : Nat) : Int × Int :=
 match (List.range n).find? (fun i => decide (e i ≠ 0)) with
 | some i => ((i : Int), e i)
 | none => ((n : Int), 0)
def okUp (e : Nat → Int) (i : Nat) : Prop := ∀ j, j < i → e j = 0
theorem firstErr_bad {e : Nat → Int} {n i : Nat} (hi : i < n) (ho : okUp e i) (he : e i ≠ 0) : firstErr e n = ((i : Int), e i) := by
 unfold firstErr; have : (List.range n).find? (fun i => decide (e i ≠ 0)) = some i := by
  rw [List.find?_range_eq_some]; exact ⟨by simpa using he, by simpa using hi, fun j hj => by simpa using ho j hj⟩
 rw [this]
theorem firstErr_ok {e : Nat → Int} {n : Nat} (ho : okUp e n) : firstErr e n = ((n : Int), 0) := by
 unfold firstErr; have : (List.range n).find? (fun i => decide (e i ≠ 0)) = none := by
  rw [List.find?_range_eq_none]; intro j hj; simpa using ho j hj
 rw [this]
theorem okUp_succ {e : Nat → Int} {i : Nat} (h : okUp e i) (he : e i = 0) : okUp e (i + 1) := fun j hj => by
 rcases Nat.lt_or_ge j i with h1 | h1
 ·exact h j h1
 ·have : j = i := by omega
  subst this; exact he
theorem firstErr_zero {e : Nat → Int} {n : Nat} : (firstErr e n).2 = 0 ↔ okUp e n := by
 constructor
 ·intro h; unfold firstErr at h; split at h
  ·rename_i i hi; rw [List.find?_range_eq_some] at hi; exact absurd h (by simpa using hi.1)
  ·rename_i hn; rw [List.find?_range_eq_none] at hn; intro j hj; have := hn j hj; simpa using this
 ·intro h; rw [firstErr_ok h]
/-! ### Objects -/
structure ORow where
  s : Int
  k : Int
  n : Int
  r : Int
  deriving DecidableEq, Inhabited
structure Obj where
  st : Int
  kd : Int
  ini : Int
  rows : List ORow
def rrow (r : ORow) : List PV := [I64 r.s, I64 r.k, I64 r.n, I64 r.r]
def robj (o : Obj) : PV := .agg [I64 o.st, I64 o.kd, I64 o.ini, .seq false 4 (o.rows.map rrow)]
@[simp] theorem belowR_rrow (k : Nat) (l : List ORow) : belowR k (l.map rrow) := by
 rw [belowR_iff]; intro r hr x hx; obtain ⟨o, _, rfl⟩ := List.mem_map.1 hr; simp [rrow] at hx; rcases hx with rfl | rfl | rfl | rfl <;> trivial
@[simp] theorem frzR_rrow (r : Nat → Nat → PV) (l : List ORow) : frzR r (l.map rrow) = l.map rrow := by
 rw [frzR_map, List.map_map]; congr 1
def withinS (n t : Int) : Bool := decide (0 ≤ n) && decide (n < t)
theorem withinS_iff {n t : Int} : withinS n t = true ↔ 0 ≤ n ∧ n < t := by simp [withinS]
def cmpS (a b : Int) : Int := if a < b then -1 else if a > b then 1 else 0
def placeS (a b : ORow) : Int := if cmpS a.s b.s ≠ 0 then cmpS a.s b.s else cmpS a.k b.k
def rowE (o : Obj) (i : Nat) : Int :=
 let r := o.rows.getD i default
 if (withinS r.s o.st && withinS r.n o.st) = false then 30 else if withinS r.k o.kd = false then 31 else if withinS r.r 1000001 = false then 7 else if 0 < i ∧ 0 ≤ placeS (o.rows.getD (i - 1) default) r then 32 else 0
def objOk (o : Obj) : Bool := withinS (w64 (o.st - 1)) 32 && (withinS (w64 (o.kd - 1)) 64 && withinS o.ini o.st)
def objChk (o : Obj) : Int × Int := if objOk o then firstErr (rowE o) o.rows.length else (-1, 2)
theorem within_ok (n t : Int) : APure Tryz.prog 235 [I64 n, I64 t] (fun r => r = .pv (BL (withinS n t))) := by
 refine apure1 hmo Tryz.func235 ?_; simp [withinS]
theorem isNaN_ok (n : Int) : APure Tryz.prog 439 [I64 n] (fun r => r = .pv (BL false)) := by
 refine apure1 hmo Tryz.func439 ?_; simp
theorem compare_ok (a b : Int) : APure Tryz.prog 388 [I64 a, I64 b] (fun r => r = .pv (I64 (cmpS a b))) := by
 refine apure1 hmo Tryz.func388 ?_; simp; refine CallK.intro (isNaN_ok a) ?_; simp; refine CallK.intro (isNaN_ok b) ?_; simp; exact ⟨fun h => by simp [cmpS, h], fun h => ⟨fun h2 => by simp [cmpS, h2, Int.not_lt.2 h], fun h2 => by simp [cmpS, Int.not_lt.2 h2, Int.not_lt.2 h]⟩⟩
def orS : List Int → Int
 | [] => 0
 | x :: r => if x ≠ 0 then x else orS r
theorem orS_drop {l : List Int} {i : Nat} (h : i < l.length) : orS (l.drop i) = if l[i] ≠ 0 then l[i] else orS (l.drop (i + 1)) := by
 rw [List.drop_eq_getElem_cons h]; rfl
theorem or_ok (l : List Int) (hl : l.length ≤ 1000000) : APure Tryz.prog 387 [.seq false 1 (l.map fun i => [I64 i])] (fun r => r = .pv (I64 (orS l))) := by
 refine apure1 hmo Tryz.func387 ?_; simp; refine ALoop.intro (S := fun (i : Nat) => ⟨[(3, .pv (I64 0)), (6, .pv (.seq false 1 (l.map fun i => [I64 i]))), (7, .pv (I64 l.length)), (8, .pv (I64 i))], []⟩) (fun i => i ≤ l.length ∧ orS l = orS (l.drop i)) (fun i => l.length - i) 0 ?_ ?_ ?_
 ·exact Weak.to (by simp) rfl (by simp) (by simp) (by simp)
 ·exact ⟨by omega, by simp⟩
 ·intro i ⟨hi, ho⟩; by_cases h : i < l.length
  ·have hw := wnx i; rw [orS_drop h] at ho; simp [h]; refine ⟨fun h1 => by rw [ho, if_pos h1], fun h1 => ⟨i + 1, by dsimp only; omega, ⟨by omega, by rw [ho, if_neg (by simp [h1])]⟩, Weak.to ?_ rfl (by simp) (by simp) (by simp)⟩⟩; simp [hw]
  ·simp [h]; rw [ho, List.drop_eq_nil_of_le (by omega)]; rfl
theorem place_ok (a b : ORow) : APure Tryz.prog 324 [.agg (rrow a), .agg (rrow b)] (fun r => r = .pv (I64 (placeS a b))) := by
 refine apure1 hmo Tryz.func324 ?_; simp [rrow]; refine CallQ0.intro (compare_ok a.s b.s) ?_; simp; refine CallQ0.intro (compare_ok a.k b.k) ?_; simp; refine CallQ0.intro (or_ok [cmpS a.s b.s, cmpS a.k b.k] (by simp)) ?_; simp [orS, placeS]; split <;> simp_all
theorem rowE_eq {o : Obj} {i : Nat} (h : i < o.rows.length) : rowE o i = if (withinS o.rows[i].s o.st && withinS o.rows[i].n o.st) = false then 30 else if withinS o.rows[i].k o.kd = false then 31 else if withinS o.rows[i].r 1000001 = false then 7 else if 0 < i ∧ 0 ≤ placeS (o.rows.getD (i - 1) default) o.rows[i] then 32 else 0 := by
 simp [rowE, h]
set_option maxRecDepth 8000 in
theorem row_ok (o : Obj) (i : Nat) (h : i < o.rows.length) (hl : o.rows.length ≤ 140737488355328) : APure Tryz.prog 236 [robj o, I64 i] (fun r => r = .pv (I64 (rowE o i))) := by
 refine apure1 hmo Tryz.func236 ?_; have he := rowE_eq h; generalize hq : rowE o i = E at he ⊢; rcases Nat.eq_zero_or_pos i with h0 | h0
 ·subst h0; simp [robj, h, rrow]; refine CallK.intro (within_ok _ _) ?_; simp; refine CallG.intro (fun _ => within_ok _ _) ?_; simp; refine ⟨fun c1 => by rw [he, if_pos (Bool.and_eq_false_iff.2 c1)], fun c1 c2 => ?_⟩; refine CallK.intro (within_ok _ _) ?_; simp; refine ⟨fun c3 => by rw [he, if_neg (by simp [c1, c2]), if_pos c3], fun c3 => ?_⟩; refine CallK.intro (within_ok _ _) ?_; simp; refine ⟨fun c4 => by rw [he, if_neg (by simp [c1, c2]), if_neg (by simp [c3]), if_pos c4], fun c4 => ?_⟩; refine CallQ.intro (r := .pv (I64 0)) (fun hh => hh.elim) ?_; simp; rw [he, if_neg (by simp [c1, c2]), if_neg (by simp [c3]), if_neg (by simp [c4]), if_neg (by simp)]
 ·have hq1 : w64 ((i : Int) - 1) = ((i - 1 : Nat) : Int) := by rw [w64_id (by omega) (by omega)]; omega
  have hq2 : i - 1 < o.rows.length := by omega
  simp [robj, h, rrow]; refine CallK.intro (within_ok _ _) ?_; simp; refine CallG.intro (fun _ => within_ok _ _) ?_; simp; refine ⟨fun c1 => by rw [he, if_pos (Bool.and_eq_false_iff.2 c1)], fun c1 c2 => ?_⟩; refine CallK.intro (within_ok _ _) ?_; simp; refine ⟨fun c3 => by rw [he, if_neg (by simp [c1, c2]), if_pos c3], fun c3 => ?_⟩; refine CallK.intro (within_ok _ _) ?_; simp [h0, hq1, hq2, rrow]; refine ⟨fun c4 => by rw [he, if_neg (by simp [c1, c2]), if_neg (by simp [c3]), if_pos c4], fun c4 => ?_⟩; refine CallQ.intro (r := .pv (I64 (placeS o.rows[i - 1] o.rows[i]))) (fun hh => place_ok o.rows[i - 1] o.rows[i]) ?_; simp; have hg : o.rows.getD (i - 1) default = o.rows[i - 1] := by simp [hq2]
  refine ⟨fun c5 => by rw [he, if_neg (by simp [c1, c2]), if_neg (by simp [c3]), if_neg (by simp [c4]), if_pos ⟨h0, by rw [hg]; exact c5⟩], fun c5 => ?_⟩; rw [he, if_neg (by simp [c1, c2]), if_neg (by simp [c3]), if_neg (by simp [c4]), if_neg (by rw [hg]; omega)]
theorem objOk_iff {o : Obj} : objOk o = true ↔ withinS (w64 (o.st - 1)) 32 = true ∧ withinS (w64 (o.kd - 1)) 64 = true ∧ withinS o.ini o.st = true := by simp [objOk]
set_option maxRecDepth 8000 in
theorem objChk_ok (o : Obj) (hl : o.rows.length ≤ 140737488355328) : APure Tryz.prog 147 [robj o] (fun r => r = .pv (.tup [I64 (objChk o).1, I64 (objChk o).2])) := by
 refine apureN [2, 3] hmo Tryz.func147 (fun _ _ => results_tmp2 rfl _ _ _) ?_; have hr := row_ok o; simp [robj] at hr ⊢; refine CallK.intro (within_ok _ _) ?_; simp; refine CallG.intro (fun _ => within_ok _ _) ?_; simp; refine CallG.intro (fun _ => within_ok _ _) ?_; simp; refine ⟨fun c => ?_, fun c1 c2 c3 => ?_⟩
 ·have : objOk o = false := by simp only [objOk, Bool.and_eq_false_iff]; rcases c with (c | c) | c <;> simp [c]
  simp [objChk, this]
 have hok : objChk o = firstErr (rowE o) o.rows.length := by rw [objChk, if_pos (objOk_iff.2 ⟨c1, c2, c3⟩)]
 rw [hok]; refine ALoop.intro (S := fun (i : Nat) => ⟨[(1, .pv (.ptr 0 0)), (28, .pv (I64 o.rows.length)), (29, .pv (I64 i))], [[.pv (I64 o.st), .pv (I64 o.kd), .pv (I64 o.ini), .pv (.seq false 4 (o.rows.map rrow))]]⟩) (fun i => i ≤ o.rows.length ∧ okUp (rowE o) i) (fun i => o.rows.length - i) 0 ?_ ?_ ?_
 ·exact Weak.to (by simp) (by simp) (by simp) (by simp) (by simp)
 ·exact ⟨by omega, fun j hj => by omega⟩
 ·intro i ⟨hi, ho⟩; by_cases h : i < o.rows.length
  ·have hw := wnx i; simp [h]; refine CallK.intro (hr i h hl) ?_; simp; refine ⟨fun c4 => by rw [firstErr_bad h ho c4]; exact ⟨rfl, rfl⟩, fun c4 => ⟨i + 1, by dsimp only; omega, ⟨by omega, okUp_succ ho c4⟩, Weak.to ?_ (by simp) (by simp) (by simp) (by simp)⟩⟩; simp [hw]
  ·simp [h]; have : i = o.rows.length := by omega
   rw [firstErr_ok (this ▸ ho)]; simp
/-! ### Moves -/
def idxS {α : Type} (p : α → Bool) (l : List α) : Int := match l.findIdx? p with | some i => (i : Int) | none => -1
theorem idxS_at {α : Type} {p : α → Bool} {l : List α} {i : Nat} (h : i < l.length) (hn : ∀ j (hj : j < l.length), j < i → p l[j] = false) (hp : p l[i] = true) : idxS p l = i := by
 have : l.findIdx? p = some i := by
  rw [List.findIdx?_eq_some_iff_getElem]; exact ⟨h, hp, fun j hj => by simp [hn j (by omega) hj]⟩
 rw [idxS, this]
theorem idxS_none {α : Type} {p : α → Bool} {l : List α} (hn : ∀ j (hj : j < l.length), p l[j] = false) : idxS p l = -1 := by
 have : l.findIdx? p = none := by
  rw [List.findIdx?_eq_none_iff]; intro x hx; obtain ⟨j, hj, rfl⟩ := List.mem_iff_getElem.1 hx; exact hn j hj
 rw [idxS, this]
theorem indexRow_ok (rows : List ORow) (k : FuncId) (cap : List PV) (p : ORow → Bool) (hl : rows.length ≤ 140737488355328) (hc : ∀ r, frzL r cap = cap) (hb : ∀ n, belowL n cap) (hp : ptrAny cap = false) (hf : ∀ x ∈ rows, APure Tryz.prog k (.agg (rrow x) :: cap) (fun r => r = .pv (BL (p x)))) :
 APure Tryz.prog 219 [.seq false 4 (rows.map rrow), .fn (.func k) [] cap] (fun r => r = .pv (I64 (idxS p rows))) := by
 refine apure1 hmo Tryz.func219 ?_; simp; refine ALoop.intro (S := fun (i : Nat) => ⟨[(0, .pv (.seq false 4 (rows.map rrow))), (1, .pv (.fn (.func k) [] cap)), (7, .pv (I64 rows.length)), (8, .pv (I64 i))], []⟩) (fun i => i ≤ rows.length ∧ ∀ j (hj : j < rows.length), j < i → p rows[j] = false) (fun i => rows.length - i) 0 ?_ ?_ ?_
 ·exact Weak.to (by simp) (by simp) (by simp) (by simp [hb]) (by simp)
 ·exact ⟨by omega, fun j hj h => by omega⟩
 ·intro i ⟨hi, ho⟩; by_cases h : i < rows.length
  ·have hw := wnx i; have hf' := hf rows[i] (List.getElem_mem h); simp only [rrow] at hf'; simp [h, hp, hc, rrow]; refine CallK.intro hf' ?_; simp; refine ⟨fun c => by rw [idxS_at h ho c], fun c => ⟨i + 1, by dsimp only; omega, ⟨by omega, fun j hj hji => ?_⟩, Weak.to ?_ (by simp) (by simp) (by simp [hb]) (by simp)⟩⟩
   ·by_cases e : j = i
    ·subst e; exact c
    ·exact ho j hj (by omega)
   ·simp [hw, rrow]
  ·simp [h]; rw [idxS_none (fun j hj => ho j hj (by omega))]
def isRow (s k : Int) (x : ORow) : Bool := decide (x.s = s) && decide (x.k = k)
set_option maxRecDepth 8000 in
theorem isRow_ok (s k : Int) (x : ORow) : APure Tryz.prog 218 [.agg (rrow x), .iptr 1 [[I64 s]] 0 0, .iptr 1 [[I64 k]] 0 0] (fun r => r = .pv (BL (isRow s k x))) := by
 refine apure1 hmo Tryz.func218 ?_; simp [rrow, isRow]
def moveS (o : Obj) (s k : Int) : Option (Int × Int) := (o.rows.find? (isRow s k)).map fun r => (r.n, r.r)
def movePV : Option (Int × Int) → PV
 | some x => .tup [I64 x.1, I64 x.2, BL true]
 | none => .tup [I64 0, I64 0, BL false]
theorem find_of_idx {α : Type} {p : α → Bool} : ∀ {l : List α}, (l.findIdx? p = none ∧ l.find? p = none) ∨ ∃ n, ∃ h : n < l.length, l.findIdx? p = some n ∧ l.find? p = some l[n] := by
 intro l; cases hf : l.findIdx? p with
 | none =>
  left; refine ⟨rfl, ?_⟩; rw [List.findIdx?_eq_none_iff] at hf; rw [List.find?_eq_none]; intro x hx; simp [hf x hx]
 | some n =>
  right; rw [List.findIdx?_eq_some_iff_getElem] at hf; obtain ⟨h, h1, h2⟩ := hf; refine ⟨n, h, rfl, ?_⟩; rw [List.find?_eq_some_iff_getElem]; exact ⟨h1, n, h, rfl, fun j hj => by have := h2 j hj; simpa using this⟩
set_option maxRecDepth 8000 in
theorem move_ok (o : Obj) (s k : Int) (hl : o.rows.length ≤ 140737488355328) : APure Tryz.prog 117 [robj o, I64 s, I64 k] (fun r => r = .pv (movePV (moveS o s k))) := by
 refine apureN [6, 7, 8] hmo Tryz.func117 (fun _ _ => results_tmp3 rfl _ _ _) ?_; have hi := indexRow_ok o.rows 218 [.iptr 1 [[I64 s]] 0 0, .iptr 1 [[I64 k]] 0 0] (isRow s k) hl (fun r => by simp) (fun n => by simp) (by simp) (fun x _ => isRow_ok s k x); rcases find_of_idx (p := isRow s k) (l := o.rows) with ⟨h1, h2⟩ | ⟨n, hn, h1, h2⟩
 ·have hx : idxS (isRow s k) o.rows = -1 := by rw [idxS, h1]
  have hm : moveS o s k = none := by rw [moveS, h2]; rfl
  rw [hx] at hi; rw [hm]; simp [robj]; refine CallK.intro hi ?_; simp [movePV]
 ·have hx : idxS (isRow s k) o.rows = n := by rw [idxS, h1]
  have hm : moveS o s k = some (o.rows[n].n, o.rows[n].r) := by rw [moveS, h2]; rfl
  rw [hx] at hi; rw [hm]; simp [robj]; refine CallK.intro hi ?_; simp [movePV, hn, rrow]
/-! ### Names -/
def blockFrom (n : Int) (kind : Int) : Int := if kind = 1 then 0 else if kind = 2 then n * n else n * n + n
def blockWide (n m : Int) (kind : Int) : Int := if kind = 1 then n else if kind = 2 then 1 else m
def blockTall (n : Int) (kind : Int) : Int := if kind = 1 then n else if kind = 2 then n else n + 1
def varOk (n m kind a b : Int) : Bool := sizeOk n m && (decide (0 < kind) && (decide (kind ≤ 3) && (decide (0 ≤ a) && (decide (a < blockTall n kind) && (decide (0 ≤ b) && decide (b < blockWide n m kind))))))
def varS (n m kind a b : Int) : Int := if varOk n m kind a b then blockFrom n kind + a * blockWide n m kind + b + 1 else 0
theorem varOk_iff {n m kind a b : Int} : varOk n m kind a b = true ↔ sizeOk n m = true ∧ 0 < kind ∧ kind ≤ 3 ∧ 0 ≤ a ∧ a < blockTall n kind ∧ 0 ≤ b ∧ b < blockWide n m kind := by simp [varOk]
set_option maxRecDepth 8000 in
theorem blockK_ok (n m k : Int) (hn : 0 ≤ n ∧ n ≤ 64) : APure Tryz.prog 179 [.agg [I64 n, I64 m], I64 k] (fun r => r = .pv (.tup [I64 (blockFrom n k), I64 (blockWide n m k), I64 (blockTall n k)])) := by
 refine apureN [4, 5, 6] hmo Tryz.func179 (fun _ _ => results_tmp3 rfl _ _ _) ?_; have h0 : 0 ≤ n * n := Int.mul_nonneg hn.1 hn.1; have h1 : n * n ≤ 64 * 64 := Int.mul_le_mul hn.2 hn.2 hn.1 (by omega); have w1 : w64 (n * n) = n * n := w64_id (by omega) (by omega); have w2 : w64 (n * n + n) = n * n + n := w64_id (by omega) (by omega); have w3 : w64 (n + 1) = n + 1 := w64_id (by omega) (by omega); simp [w1, w2, w3]; refine ⟨fun h => by simp [h, blockFrom, blockWide, blockTall], fun h => ⟨fun h2 => by simp [h2, blockFrom, blockWide, blockTall], fun h2 => by simp [h, h2, blockFrom, blockWide, blockTall]⟩⟩
theorem block_small {n m k a b : Int} (h : varOk n m k a b = true) : 0 ≤ blockFrom n k ∧ blockFrom n k ≤ 4160 ∧ 0 ≤ a * blockWide n m k ∧ a * blockWide n m k ≤ 65 * 64 ∧ 0 ≤ b ∧ b ≤ 64 := by
 obtain ⟨h1, h2, h3, h4, h5, h6, h7⟩ := varOk_iff.1 h; have hs := sizeOk_iff.1 h1; have h8 : 0 ≤ n * n := Int.mul_nonneg hs.1 hs.1; have h9 : n * n ≤ 64 * 64 := Int.mul_le_mul hs.2.1 hs.2.1 hs.1 (by omega); have hw : blockWide n m k ≤ 64 := by unfold blockWide; split <;> (try split) <;> omega
 have ht : blockTall n k ≤ 65 := by unfold blockTall; split <;> (try split) <;> omega
 refine ⟨by unfold blockFrom; split <;> (try split) <;> omega, by unfold blockFrom; split <;> (try split) <;> omega, Int.mul_nonneg h4 (by omega), Int.mul_le_mul (by omega) hw (by omega) (by omega), h6, by omega⟩
set_option maxRecDepth 8000 in
theorem var_ok (n m k a b : Int) : APure Tryz.prog 171 [.agg [I64 n, I64 m], .agg [I64 k, I64 a, I64 b]] (fun r => r = .pv (I64 (varS n m k a b))) := by
 refine apure1 hmo Tryz.func171 ?_; simp; refine CallK.intro (check_ok n m) ?_; simp; refine ⟨fun c => ?_, fun c1 c2 c3 => ?_⟩
 ·rw [varS, if_neg]; intro hh; have := varOk_iff.1 hh; rcases c with (c | c) | c
  ·rw [this.1] at c; cases c
  ·omega
  ·omega
 have hs := sizeOk_iff.1 c1; refine CallK.intro (blockK_ok n m k ⟨hs.1, hs.2.1⟩) ?_; simp; refine ⟨fun c => ?_, fun d1 d2 d3 d4 => ?_⟩
 ·rw [varS, if_neg]; intro hh; have := varOk_iff.1 hh; rcases c with ((c | c) | c) | c <;> omega
 have hok : varOk n m k a b = true := varOk_iff.2 ⟨c1, c2, c3, d1, d2, d3, d4⟩; obtain ⟨b1, b2, b3, b4, b5, b6⟩ := block_small hok; have w1 : w64 (a * blockWide n m k) = a * blockWide n m k := w64_id (by omega) (by omega); rw [varS, if_pos hok]; exact w64_id (by omega) (by omega)
def irow (l : List Int) : List (List PV) := l.map fun i => [I64 i]
def crow (l : List Int) : List PV := [.seq true 1 (irow l)]
def crowF (l : List Int) : List PV := [.seq false 1 (irow l)]
@[simp] theorem irow_length (l : List Int) : (irow l).length = l.length := by simp [irow]
@[simp] theorem belowR_irow (k : Nat) (l : List Int) : belowR k (irow l) := belowR_ints k l
@[simp] theorem nwR_irow (l : List Int) : nwR (irow l) := by
 rw [nwR_iff]; intro r hr; obtain ⟨o, _, rfl⟩ := List.mem_map.1 hr; exact ⟨trivial, trivial⟩
@[simp] theorem frzR_irow (r : Nat → Nat → PV) (l : List Int) : frzR r (irow l) = irow l := by
 rw [irow, frzR_map, List.map_map]; congr 1
@[simp] theorem belowR_crow (k : Nat) (l : List (List Int)) : belowR k (l.map crow) := by
 rw [belowR_iff]; intro r hr x hx; obtain ⟨o, _, rfl⟩ := List.mem_map.1 hr; simp [crow] at hx; subst hx; exact belowR_irow k o
@[simp] theorem belowL_crow (k : Nat) (l : List Int) : belowL k (crow l) := by simp [crow]
@[simp] theorem nwR_crow (l : List (List Int)) : nwR (l.map crow) := by
 rw [nwR_iff]; intro r hr; obtain ⟨o, _, rfl⟩ := List.mem_map.1 hr; simp [crow]
@[simp] theorem frzR_crow (r : Nat → Nat → PV) (l : List (List Int)) : frzR r (l.map crow) = l.map crowF := by
 rw [frzR_map, List.map_map]; apply List.map_congr_left; intro x _; simp [crow, crowF]
@[simp] theorem irow_elem (l : List Int) (i : Nat) (h : i < (irow l).length) : (irow l)[i]'h = [I64 (l[i]'(by simpa using h))] := by simp [irow]
theorem irow_cut (l : List Int) (i : Nat) : List.drop i (List.take l.length (irow l)) = irow (l.drop i) := by
 rw [← irow_length l, List.take_length, irow, irow, List.map_drop]
/-! ### At most one -/
def mostRow (v : Int) (ws : List Int) : List (List Int) := ws.map fun w => [w64 (-v), w64 (-w)]
def mostTo (vs : List Int) (i : Nat) : List (List Int) := (List.range i).flatMap fun a => mostRow (vs.getD a 0) (vs.drop (a + 1))
def mostS (vs : List Int) : List (List Int) := mostTo vs vs.length
theorem mostTo_succ (vs : List Int) {i : Nat} (h : i < vs.length) : mostTo vs (i + 1) = mostTo vs i ++ mostRow vs[i] (vs.drop (i + 1)) := by
 unfold mostTo; rw [List.range_succ, List.flatMap_append]; simp [h]
theorem mostTo_length (vs : List Int) : ∀ i, (mostTo vs i).length ≤ i * vs.length
 | 0 => by simp [mostTo]
 | i + 1 => by
  have ih := mostTo_length vs i; unfold mostTo at ih ⊢; rw [List.range_succ, List.flatMap_append, List.length_append, Nat.succ_mul]; simp [mostRow] at ih ⊢; omega
set_option maxRecDepth 8000 in
theorem most_ok (vs : List Int) (hl : vs.length ≤ 100000) : APure Tryz.prog 168 [.seq false 1 (irow vs)] (fun r => r = .own true 1 ((mostS vs).map crow)) := by
 refine apure1 hmo Tryz.func168 ?_; simp; refine ALoop.intro (S := fun (i : Nat) => ⟨[(3, .own true 1 ((mostTo vs i).map crow)), (8, .pv (.seq false 1 (irow vs))), (9, .pv (I64 vs.length)), (10, .pv (I64 i)), (0, .pv (.seq false 1 (irow vs)))], []⟩) (fun i => i ≤ vs.length) (fun i => vs.length - i) 0 ?_ ?_ ?_
 ·exact (Weak.nilOwn (s := 3) 1 true (by simp)).trans (Weak.to (by simp [mostTo]) rfl (by simp) (by simp) (by simp))
 ·omega
 ·intro i hi; by_cases h : i < vs.length
  ·have hw := wnx i; have hn := mostTo_length vs i; have hn2 : i * vs.length ≤ 100000 * 100000 := Nat.mul_le_mul (by omega) hl; have hd : (vs.drop (i + 1)).length = vs.length - (i + 1) := by simp
   simp [h, hw, irow_cut]; refine ⟨by omega, ?_⟩; refine ALoop.intro (S := fun (j : Nat) => ⟨[(3, .own true 1 ((mostTo vs i ++ mostRow vs[i] ((vs.drop (i + 1)).take j)).map crow)), (18, .pv (.seq false 1 (irow (vs.drop (i + 1))))), (19, .pv (I64 (vs.length - (i + 1) : Nat))), (20, .pv (I64 j)), (5, .pv (I64 vs[i])), (8, .pv (.seq false 1 (irow vs))), (9, .pv (I64 vs.length)), (10, .pv (I64 i)), (0, .pv (.seq false 1 (irow vs)))], []⟩) (fun j => j ≤ vs.length - (i + 1)) (fun j => vs.length - (i + 1) - j) 0 ?_ ?_ ?_
   ·exact Weak.to (by simp [mostRow]) rfl (by simp) (by simp) (by simp)
   ·omega
   ·intro j hj; by_cases h2 : j < vs.length - (i + 1)
    ·have hw2 := wnx j; have h3 : i + 1 + j < vs.length := by omega
     have hg : vs[i + 1 + j]? = some vs[i + 1 + j] := by simp [h3]
     have htk : (vs.drop (i + 1)).take (j + 1) = (vs.drop (i + 1)).take j ++ [vs[i + 1 + j]] := by
      rw [List.take_add_one]; simp [hg]
     simp [h2, h3, hg]; refine ⟨?_, j + 1, by dsimp only; omega, by dsimp only; omega, Weak.to ?_ rfl (by simp) (by simp) (by simp)⟩
     ·simp [mostRow]; omega
     ·simp [hw2, htk, mostRow, crow, irow]
    ·simp [h2]; have : j = vs.length - (i + 1) := by omega
     refine ⟨i + 1, by dsimp only; omega, by dsimp only; omega, Weak.to ?_ rfl (by simp) (by simp) (by simp)⟩; have htk : (vs.drop (i + 1)).take j = vs.drop (i + 1) := List.take_of_length_le (by rw [hd]; omega); simp [mostTo_succ vs h, htk, hw]
  ·simp [h]; have : i = vs.length := by omega
   rw [mostS, this]
/-! ### Rows that are filled -/
def fillTo (g : Nat → Int) (N i : Nat) : List (List PV) := (List.range N).map fun j => if j < i then [I64 (g j)] else [I64 0]
@[simp] theorem fillTo_length (g : Nat → Int) (N i : Nat) : (fillTo g N i).length = N := by simp [fillTo]
theorem fillTo_zero (g : Nat → Int) (N : Nat) : fillTo g N 0 = List.replicate N [I64 0] := by
 apply List.ext_getElem?; intro k; simp only [fillTo, List.getElem?_map, List.getElem?_range, List.getElem?_replicate]; split <;> rename_i h
 ·rw [List.getElem?_range h]; simp
 ·rw [List.getElem?_eq_none (by simpa using h)]; simp
theorem fillTo_all (g : Nat → Int) (N : Nat) : fillTo g N N = irow ((List.range N).map g) := by
 simp only [fillTo, irow, List.map_map]; apply List.map_congr_left; intro x hx; simp at hx; simp [hx]
theorem fillTo_get (g : Nat → Int) {N i : Nat} (h : i < N) : (fillTo g N i)[i]? = some [I64 0] := by simp [fillTo, h]
theorem fillTo_elem (g : Nat → Int) {N i : Nat} (h : i < N) : (fillTo g N i)[i]'(by simpa using h) = [I64 0] := by simp [fillTo]
theorem fillTo_set (g : Nat → Int) {N i : Nat} (h : i < N) : (fillTo g N i).set i [I64 (g i)] = fillTo g N (i + 1) := by
 apply List.ext_getElem?; intro k; rw [List.getElem?_set]; by_cases hk : k < N
 ·by_cases e : i = k
  ·subst e; simp [fillTo, h]
  ·rw [if_neg e]; simp only [fillTo, List.getElem?_map, List.getElem?_range hk, Option.map_some]; by_cases h2 : k < i
   ·rw [if_pos h2, if_pos (by omega)]
   ·rw [if_neg h2, if_neg (by omega)]
 ·have h1 : (fillTo g N i)[k]? = none := List.getElem?_eq_none (by simp; omega); have h2 : (fillTo g N (i + 1))[k]? = none := List.getElem?_eq_none (by simp; omega); rw [h1, h2]; simp; intro e; omega
@[simp] theorem belowR_fill (k : Nat) (g : Nat → Int) (N i : Nat) : belowR k (fillTo g N i) := by
 rw [belowR_iff]; intro r hr x hx; obtain ⟨o, _, rfl⟩ := List.mem_map.1 hr; split at hx <;> (simp at hx; subst hx; trivial)
structure Nm where
  k : Int
  a : Int
  b : Int
def nmPV (x : Nm) : PV := .agg [I64 x.k, I64 x.a, I64 x.b]
set_option maxRecDepth 8000 in
theorem row2_ok (n m : Int) (N : Nat) (k : FuncId) (cap : List PV) (f : Nat → Nm) (hN : (N : Int) = n) (hn : N ≤ 64) (hc : ∀ r, frzL r cap = cap) (hb : ∀ n, belowL n cap) (hp : ptrAny cap = false) (hf : ∀ i : Nat, i < N → APure Tryz.prog k (I64 i :: cap) (fun r => r = .pv (nmPV (f i)))) :
 APure Tryz.prog 166 [.agg [I64 n, I64 m], .fn (.func k) [] cap] (fun r => r = .own true 1 (irow ((List.range N).map fun i => varS n m (f i).k (f i).a (f i).b))) := by
 refine apure1 hmo Tryz.func166 ?_; subst hN; have hr : ¬ (N : Int) < 0 := by omega
 simp; refine ⟨by omega, ?_⟩; refine ALoop.intro (S := fun (i : Nat) => ⟨[(5, .own true 1 (fillTo (fun i => varS N m (f i).k (f i).a (f i).b) N i)), (1, .pv (.fn (.func k) [] cap)), (2, .pv (.ptr 0 0)), (11, .pv (I64 N)), (12, .pv (I64 i))], [[.pv (I64 N), .pv (I64 m)]]⟩) (fun i => i ≤ N) (fun i => N - i) 0 ?_ ?_ ?_
 ·exact Weak.to (by simp [fillTo_zero]) (by simp) (by simp) (by simp [hb]) (by simp)
 ·omega
 ·intro i hi; by_cases h : i < N
  ·have hw := wnx i; have hf' := hf i h; simp only [nmPV] at hf'; simp [h, hp, hc]; refine CallQ0.intro hf' ?_; simp; refine CallQ0.intro (var_ok N m (f i).k (f i).a (f i).b) ?_; simp [h, fillTo_get]; refine ⟨i + 1, by dsimp only; omega, by dsimp only; omega, Weak.to ?_ (by simp) (by simp) (by simp [hb]) (by simp)⟩; simp [hw, ← fillTo_set _ h, fillTo_elem _ h]
  ·simp [h]; have : i = N := by omega
   rw [this, fillTo_all]
/-! ### Places -/
theorem nameA_ok (a i : Int) : APure Tryz.prog 167 [I64 i, .iptr 1 [[I64 a]] 0 0] (fun r => r = .pv (nmPV ⟨1, a, i⟩)) := by
 refine apureC hmo Tryz.func167 ?_; simp [nmPV]
theorem nameB_ok (k i : Int) : APure Tryz.prog 169 [I64 i, .iptr 1 [[I64 k]] 0 0] (fun r => r = .pv (nmPV ⟨1, i, k⟩)) := by
 refine apureC hmo Tryz.func169 ?_; simp [nmPV]
def rowA (n m : Int) (N a : Nat) : List Int := (List.range N).map fun (i : Nat) => varS n m 1 a i
def rowB (n m : Int) (N k : Nat) : List Int := (List.range N).map fun (i : Nat) => varS n m 1 i k
def partA (n m : Int) (N i : Nat) : List (List Int) := (List.range i).flatMap fun a => rowA n m N a :: mostS (rowA n m N a)
def partB (n m : Int) (N i : Nat) : List (List Int) := (List.range i).flatMap fun k => mostS (rowB n m N k)
def placesC (n m : Int) : List (List Int) := if sizeOk n m then partA n m n.toNat n.toNat ++ partB n m n.toNat n.toNat else []
theorem partA_succ (n m : Int) (N i : Nat) : partA n m N (i + 1) = partA n m N i ++ (rowA n m N i :: mostS (rowA n m N i)) := by
 unfold partA; rw [List.range_succ, List.flatMap_append]; simp
theorem partB_succ (n m : Int) (N i : Nat) : partB n m N (i + 1) = partB n m N i ++ mostS (rowB n m N i) := by
 unfold partB; rw [List.range_succ, List.flatMap_append]; simp
@[simp] theorem rowA_length (n m : Int) (N a : Nat) : (rowA n m N a).length = N := by simp [rowA]
@[simp] theorem rowB_length (n m : Int) (N a : Nat) : (rowB n m N a).length = N := by simp [rowB]
theorem mostS_length (vs : List Int) : (mostS vs).length ≤ vs.length * vs.length := mostTo_length vs vs.length
theorem partA_length (n m : Int) (N : Nat) : ∀ i, (partA n m N i).length ≤ i * (1 + N * N)
 | 0 => by simp [partA]
 | i + 1 => by
  have ih := partA_length n m N i; have := mostS_length (rowA n m N i); rw [partA_succ, List.length_append, Nat.succ_mul]; simp at this ⊢; omega
theorem partB_length (n m : Int) (N : Nat) : ∀ i, (partB n m N i).length ≤ i * (N * N)
 | 0 => by simp [partB]
 | i + 1 => by
  have ih := partB_length n m N i; have := mostS_length (rowB n m N i); rw [partB_succ, List.length_append, Nat.succ_mul]; simp at this ⊢; omega
set_option maxRecDepth 8000 in
theorem placesC_ok (n m : Int) : APure Tryz.prog 88 [.agg [I64 n, I64 m]] (fun r => r = (if sizeOk n m then .own true 1 ((placesC n m).map crow) else .pv (.lit (.slice none 0 0)))) := by
 refine apure1 hmo Tryz.func88 ?_; simp; refine CallK.intro (check_ok n m) ?_; simp; intro c; have hs := sizeOk_iff.1 c; obtain ⟨N, hN⟩ := Int.eq_ofNat_of_zero_le hs.1; have hN' : n = (N : Int) := hN; subst hN'; have hNN : N ≤ 64 := by omega
 have hAl := partA_length N m N N; have hBl := partB_length N m N N; have hq : N * N ≤ 64 * 64 := Nat.mul_le_mul hNN hNN; simp [placesC, c]; refine ALoop.intro (S := fun (i : Nat) => ⟨[(3, .own true 1 ((partA N m N i).map crow)), (1, .pv (.ptr 0 0)), (12, .pv (I64 N)), (13, .pv (I64 i))], [[.pv (I64 N), .pv (I64 m)]]⟩) (fun i => i ≤ N) (fun i => N - i) 0 ?_ ?_ ?_
 ·exact (Weak.nilOwn (s := 3) 1 true (by simp)).trans (Weak.to (by simp [partA]) (by simp) (by simp) (by simp) (by simp))
 ·omega
 ·intro i hi; by_cases h : i < N
  ·have hw := wnx i; have hla := partA_length N m N i; have hla2 : i * (1 + N * N) ≤ 64 * (1 + 64 * 64) := Nat.mul_le_mul (by omega) (by omega); have hma := mostS_length (rowA N m N i); simp only [rowA_length] at hma; have hra : APure Tryz.prog 166 [.agg [I64 N, I64 m], .fn (.func 167) [] [.iptr 1 [[I64 i]] 0 0]] (fun r => r = .own true 1 (irow (rowA N m N i))) := row2_ok N m N 167 [.iptr 1 [[I64 i]] 0 0] (fun j => ⟨1, i, j⟩) rfl hNN (fun r => by simp) (fun n => by simp) (by simp) (fun j _ => nameA_ok i j); simp [h]; refine CallK.intro hra ?_; simp; refine ⟨by omega, ?_⟩; refine CallK.intro (most_ok (rowA N m N i) (by simp; omega)) ?_; simp; refine ⟨by omega, i + 1, by dsimp only; omega, by dsimp only; omega, Weak.to ?_ (by simp) (by simp) (by simp) (by simp)⟩; simp [hw, partA_succ, crow]
  ·simp [h]; have : i = N := by omega
   subst this; refine ALoop.intro (S := fun (k : Nat) => ⟨[(3, .own true 1 ((partA i m i i ++ partB i m i k).map crow)), (1, .pv (.ptr 0 0)), (28, .pv (I64 i)), (29, .pv (I64 k))], [[.pv (I64 i), .pv (I64 m)]]⟩) (fun k => k ≤ i) (fun k => i - k) 0 ?_ ?_ ?_
   ·exact Weak.to (by simp [partB]) (by simp) (by simp) (by simp) (by simp)
   ·omega
   ·intro k hk; by_cases h2 : k < i
    ·have hw := wnx k; have hlb := partB_length i m i k; have hlb2 : k * (i * i) ≤ 64 * (64 * 64) := Nat.mul_le_mul (by omega) (by omega); have hla2 : i * (1 + i * i) ≤ 64 * (1 + 64 * 64) := Nat.mul_le_mul (by omega) (by omega); have hmb := mostS_length (rowB i m i k); simp only [rowB_length] at hmb; have hrb : APure Tryz.prog 166 [.agg [I64 i, I64 m], .fn (.func 169) [] [.iptr 1 [[I64 k]] 0 0]] (fun r => r = .own true 1 (irow (rowB i m i k))) := row2_ok i m i 169 [.iptr 1 [[I64 k]] 0 0] (fun j => ⟨1, j, k⟩) rfl hNN (fun r => by simp) (fun n => by simp) (by simp) (fun j _ => nameB_ok k j); simp [h2]; refine CallK.intro hrb ?_; simp; refine CallK.intro (most_ok (rowB i m i k) (by simp; omega)) ?_; simp; refine ⟨by omega, k + 1, by dsimp only; omega, by dsimp only; omega, Weak.to ?_ (by simp) (by simp) (by simp) (by simp)⟩; simp [hw, partB_succ]
    ·simp [h2]; have : k = i := by omega
     subst this; simp
/-! ### Times -/
def properS (p : Int × Int) (n : Int) : Bool := decide (0 ≤ if p.2 < p.1 then p.2 else p.1) && decide ((if p.1 < p.2 then p.2 else p.1) < n) && !decide (p.1 = p.2)
theorem proper_ok (p : Int × Int) (n : Int) : APure Tryz.prog 172 [.agg (prow p), I64 n] (fun r => r = .pv (BL (properS p n))) := by
 refine apure1 hmo Tryz.func172 ?_; simp [prow, properS]
theorem atPlace_ok (n m a b : Int) : APure Tryz.prog 170 [I64 a, I64 b, .iptr 2 [[I64 n, I64 m]] 0 0] (fun r => r = .pv (I64 (varS n m 1 a b))) := by
 refine apure1 hmo Tryz.func170 ?_; simp; refine CallK.intro (var_ok n m 1 a b) ?_; simp
theorem stateAt_ok (n m a b : Int) : APure Tryz.prog 174 [.agg [I64 n, I64 m], I64 a, I64 b] (fun r => r = .pv (I64 (varS n m 3 a b))) := by
 refine apure1 hmo Tryz.func174 ?_; simp; refine CallK.intro (var_ok n m 3 a b) ?_; simp
theorem stateOf_ok (n m a b : Int) : APure Tryz.prog 176 [I64 b, .iptr 2 [[I64 n, I64 m]] 0 0, .iptr 1 [[I64 a]] 0 0] (fun r => r = .pv (I64 (varS n m 3 a b))) := by
 refine apure1 hmo Tryz.func176 ?_; simp; refine CallK.intro (stateAt_ok n m a b) ?_; simp
set_option maxRecDepth 8000 in
theorem each_ok (N : Nat) (k : FuncId) (cap : List PV) (f : Nat → Int) (hn : N ≤ 10000) (hc : ∀ r, frzL r cap = cap) (hb : ∀ n, belowL n cap) (hp : ptrAny cap = false) (hf : ∀ i : Nat, i < N → APure Tryz.prog k (I64 i :: cap) (fun r => r = .pv (I64 (f i)))) :
 APure Tryz.prog 175 [I64 N, .fn (.func k) [] cap] (fun r => r = .own true 1 (irow ((List.range N).map f))) := by
 refine apure1 hmo Tryz.func175 ?_; have hr : ¬ (N : Int) < 0 := by omega
 simp; refine ⟨by omega, ?_⟩; refine ALoop.intro (S := fun (i : Nat) => ⟨[(5, .own true 1 (fillTo f N i)), (1, .pv (.fn (.func k) [] cap)), (10, .pv (I64 N)), (11, .pv (I64 i))], []⟩) (fun i => i ≤ N) (fun i => N - i) 0 ?_ ?_ ?_
 ·exact Weak.to (by simp [fillTo_zero]) (by simp) (by simp) (by simp [hb]) (by simp)
 ·omega
 ·intro i hi; by_cases h : i < N
  ·have hw := wnx i; have hf' := hf i h; simp [h, hp, hc]; refine CallK.intro hf' ?_; simp [h, fillTo_get]; refine ⟨i + 1, by dsimp only; omega, by dsimp only; omega, Weak.to ?_ (by simp) (by simp) (by simp [hb]) (by simp)⟩; simp [hw, ← fillTo_set _ h, fillTo_elem _ h]
  ·simp [h]; have : i = N := by omega
   rw [this, fillTo_all]
/-! ### States -/
def rowS (n m : Int) (M a : Nat) : List Int := (List.range M).map fun (b : Nat) => varS n m 3 a b
def partS (n m : Int) (M i : Nat) : List (List Int) := (List.range i).flatMap fun a => rowS n m M a :: mostS (rowS n m M a)
def statesC (n m init : Int) : List (List Int) := if sizeOk n m && (decide (0 ≤ init) && decide (init < m)) then [varS n m 3 0 init] :: partS n m m.toNat (n.toNat + 1) else []
theorem partS_succ (n m : Int) (M i : Nat) : partS n m M (i + 1) = partS n m M i ++ (rowS n m M i :: mostS (rowS n m M i)) := by
 unfold partS; rw [List.range_succ, List.flatMap_append]; simp
@[simp] theorem rowS_length (n m : Int) (M a : Nat) : (rowS n m M a).length = M := by simp [rowS]
theorem partS_length (n m : Int) (M : Nat) : ∀ i, (partS n m M i).length ≤ i * (1 + M * M)
 | 0 => by simp [partS]
 | i + 1 => by
  have ih := partS_length n m M i; have := mostS_length (rowS n m M i); rw [partS_succ, List.length_append, Nat.succ_mul]; simp at this ⊢; omega
set_option maxRecDepth 8000 in
theorem statesC_ok (n m init : Int) : APure Tryz.prog 91 [.agg [I64 n, I64 m], I64 init] (fun r => r = (if sizeOk n m && (decide (0 ≤ init) && decide (init < m)) then .own true 1 ((statesC n m init).map crow) else .pv (.lit (.slice none 0 0)))) := by
 refine apure1 hmo Tryz.func91 ?_; cases hc : (sizeOk n m && (decide (0 ≤ init) && decide (init < m)))
 ·simp; refine CallK.intro (check_ok n m) ?_; simp; intro c1 c2 c3; simp [c1, c2] at hc; omega
 have hc' := hc; simp only [Bool.and_eq_true, decide_eq_true_iff] at hc'; obtain ⟨c, h0, h1⟩ := hc'; have hs := sizeOk_iff.1 c; obtain ⟨N, hN⟩ := Int.eq_ofNat_of_zero_le hs.1; have hN' : n = (N : Int) := hN; subst hN'; obtain ⟨M, hM⟩ := Int.eq_ofNat_of_zero_le (show 0 ≤ m by omega); have hM' : m = (M : Int) := hM; subst hM'; have hNN : N ≤ 64 := by omega
 have hMM : M ≤ 32 := by omega
 have hq : M * M ≤ 32 * 32 := Nat.mul_le_mul hMM hMM; have hw1 := wnx N; simp; refine CallK.intro (check_ok N M) ?_; simp [c, h0, h1]; refine CallK.intro (stateAt_ok N M 0 init) ?_; simp [hw1]; have hst : statesC N M init = [varS N M 3 0 init] :: partS N M M (N + 1) := by rw [statesC, if_pos hc]; simp
 refine ALoop.intro (S := fun (i : Nat) => ⟨[(5, .own true 1 (([varS N M 3 0 init] :: partS N M M i).map crow)), (2, .pv (.ptr 0 0)), (28, .pv (I64 (N + 1 : Nat))), (29, .pv (I64 i))], [[.pv (I64 N), .pv (I64 M)]]⟩) (fun i => i ≤ N + 1) (fun i => N + 1 - i) 0 ?_ ?_ ?_
 ·exact Weak.to (by simp [partS, crow, irow]) (by simp) (by simp) (by simp) (by simp)
 ·omega
 ·intro i hi; by_cases h : i < N + 1
  ·have hw := wnx i; have h' : (i : Int) < (N : Int) + 1 := by omega
   have hla := partS_length N M M i; have hla2 : i * (1 + M * M) ≤ 65 * (1 + 32 * 32) := Nat.mul_le_mul (by omega) (by omega); have hma := mostS_length (rowS N M M i); simp only [rowS_length] at hma; have hra : APure Tryz.prog 175 [I64 M, .fn (.func 176) [] [.iptr 2 [[I64 N, I64 M]] 0 0, .iptr 1 [[I64 i]] 0 0]] (fun r => r = .own true 1 (irow (rowS N M M i))) := each_ok M 176 [.iptr 2 [[I64 N, I64 M]] 0 0, .iptr 1 [[I64 i]] 0 0] (fun j => varS N M 3 i j) (by omega) (fun r => by simp) (fun n => by simp) (by simp) (fun j _ => stateOf_ok N M i j); simp [h']; refine CallK.intro hra ?_; simp; refine ⟨by omega, ?_⟩; refine CallK.intro (most_ok (rowS N M M i) (by simp; omega)) ?_; simp; refine ⟨by omega, i + 1, by dsimp only; omega, by dsimp only; omega, Weak.to ?_ (by simp) (by simp) (by simp) (by simp)⟩; simp [hw, partS_succ, crow]
  ·have : i = N + 1 := by omega
   subst this; simp [hst]
/-! ### Times -/
def pairC (n m : Int) (p : Int × Int) (a : Nat) : List (List Int) := (List.range a).flatMap fun a => (List.range a).map fun (b : Nat) => [w64 (-varS n m 1 p.1 a), w64 (-varS n m 1 p.2 b)]
def timesTo (n m : Int) (N : Nat) (ps : List (Int × Int)) (i : Nat) : List (List Int) := (ps.take i).flatMap fun p => if properS p n then pairC n m p N else []
def timesC (n m : Int) (ps : List (Int × Int)) : List (List Int) := if sizeOk n m then timesTo n m n.toNat ps ps.length else []
def pairR (n m : Int) (p : Int × Int) (a b : Nat) : List (List Int) := (List.range b).map fun (b : Nat) => [w64 (-varS n m 1 p.1 a), w64 (-varS n m 1 p.2 b)]
theorem pairC_succ (n m : Int) (p : Int × Int) (a : Nat) : pairC n m p (a + 1) = pairC n m p a ++ pairR n m p a a := by
 unfold pairC; rw [List.range_succ, List.flatMap_append]; simp [pairR]
theorem pairR_succ (n m : Int) (p : Int × Int) (a b : Nat) : pairR n m p a (b + 1) = pairR n m p a b ++ [[w64 (-varS n m 1 p.1 a), w64 (-varS n m 1 p.2 b)]] := by
 unfold pairR; rw [List.range_succ, List.map_append]; simp
theorem timesTo_succ (n m : Int) (N : Nat) (ps : List (Int × Int)) {i : Nat} (h : i < ps.length) : timesTo n m N ps (i + 1) = timesTo n m N ps i ++ (if properS ps[i] n then pairC n m ps[i] N else []) := by
 unfold timesTo; rw [List.take_succ_eq_append_getElem h, List.flatMap_append]; simp
theorem pairC_length (n m : Int) (p : Int × Int) : ∀ a, (pairC n m p a).length ≤ a * a
 | 0 => by simp [pairC]
 | a + 1 => by
  have ih := pairC_length n m p a; have : (a + 1) * (a + 1) = a * a + 2 * a + 1 := by grind
  rw [pairC_succ, List.length_append]; simp [pairR]; omega
theorem timesTo_length (n m : Int) (N : Nat) (ps : List (Int × Int)) : ∀ i, i ≤ ps.length → (timesTo n m N ps i).length ≤ i * (N * N)
 | 0, _ => by simp [timesTo]
 | i + 1, h => by
  have ih := timesTo_length n m N ps i (by omega); have := pairC_length n m ps[i] N; rw [timesTo_succ n m N ps (show i < ps.length by omega), List.length_append, Nat.succ_mul]; split
  ·omega
  ·simp; omega
set_option maxRecDepth 8000 in
theorem timesC_ok (n m : Int) (ps : List (Int × Int)) (hl : ps.length ≤ 100000) : APure Tryz.prog 89 [.agg [I64 n, I64 m], .seq false 2 (ps.map prow)] (fun r => r = (if sizeOk n m then .own true 1 ((timesC n m ps).map crow) else .pv (.lit (.slice none 0 0)))) := by
 refine apure1 hmo Tryz.func89 ?_; simp; refine CallK.intro (check_ok n m) ?_; simp; intro c; have hs := sizeOk_iff.1 c; obtain ⟨N, hN⟩ := Int.eq_ofNat_of_zero_le hs.1; have hN' : n = (N : Int) := hN; subst hN'; have hNN : N ≤ 64 := by omega
 have hq : N * N ≤ 64 * 64 := Nat.mul_le_mul hNN hNN; simp [timesC, c]; refine ALoop.intro (S := fun (i : Nat) => ⟨[(6, .own true 1 ((timesTo N m N ps i).map crow)), (5, .pv (.fn (.func 170) [] [.ptr 0 0])), (2, .pv (.ptr 0 0)), (15, .pv (.seq false 2 (ps.map prow))), (16, .pv (I64 ps.length)), (17, .pv (I64 i))], [[.pv (I64 N), .pv (I64 m)]]⟩) (fun i => i ≤ ps.length) (fun i => ps.length - i) 0 ?_ ?_ ?_
 ·exact (Weak.nilOwn (s := 6) 1 true (by simp)).trans (Weak.to (by simp [timesTo]) (by simp) (by simp) (by simp) (by simp))
 ·omega
 ·intro i hi; by_cases h : i < ps.length
  ·have hw := wnx i; have hpr := proper_ok ps[i] N; simp only [prow] at hpr; simp [h, prow]; refine CallK.intro hpr ?_; simp; refine ⟨fun c1 => ?_, fun c1 => ?_⟩
   ·refine ⟨i + 1, by dsimp only; omega, by dsimp only; omega, Weak.to ?_ (by simp) (by simp) (by simp) (by simp)⟩; simp [hw, timesTo_succ _ _ _ ps h, c1, prow]
   have hla := timesTo_length N m N ps i (by omega); have hla2 : i * (N * N) ≤ 100000 * (64 * 64) := Nat.mul_le_mul (by omega) hq; refine ALoop.intro (S := fun (a : Nat) => ⟨[(6, .own true 1 ((timesTo N m N ps i ++ pairC N m ps[i] a).map crow)), (5, .pv (.fn (.func 170) [] [.ptr 0 0])), (8, .pv (.ptr 1 0)), (27, .pv (I64 N)), (28, .pv (I64 a)), (2, .pv (.ptr 0 0)), (15, .pv (.seq false 2 (ps.map prow))), (16, .pv (I64 ps.length)), (17, .pv (I64 i))], [[.pv (I64 N), .pv (I64 m)], [.pv (I64 ps[i].1), .pv (I64 ps[i].2)]]⟩) (fun a => a ≤ N) (fun a => N - a) 0 ?_ ?_ ?_
   ·exact Weak.to (by simp [pairC, prow]) (by simp) (by simp) (by simp) (by simp)
   ·omega
   ·intro a ha; by_cases h2 : a < N
    ·have hw2 := wnx a; have hlp := pairC_length N m ps[i] a; have hlp2 : a * a ≤ 64 * 64 := Nat.mul_le_mul (by omega) (by omega); simp [h2]; refine ALoop.intro (S := fun (b : Nat) => ⟨[(6, .own true 1 ((timesTo N m N ps i ++ (pairC N m ps[i] a ++ pairR N m ps[i] a b)).map crow)), (9, .pv (I64 a)), (31, .pv (I64 a)), (32, .pv (I64 b)), (5, .pv (.fn (.func 170) [] [.ptr 0 0])), (8, .pv (.ptr 1 0)), (27, .pv (I64 N)), (28, .pv (I64 a)), (2, .pv (.ptr 0 0)), (15, .pv (.seq false 2 (ps.map prow))), (16, .pv (I64 ps.length)), (17, .pv (I64 i))], [[.pv (I64 N), .pv (I64 m)], [.pv (I64 ps[i].1), .pv (I64 ps[i].2)]]⟩) (fun b => b ≤ a) (fun b => a - b) 0 ?_ ?_ ?_
     ·exact Weak.to (by simp [pairR]) (by simp) (by simp) (by simp) (by simp)
     ·omega
     ·intro b hb; by_cases h3 : b < a
      ·have hw3 := wnx b; have hlr : (pairR N m ps[i] a b).length = b := by simp [pairR]
       simp [h3]; refine CallQ0.intro (atPlace_ok N m ps[i].1 a) ?_; simp; refine CallQ0.intro (atPlace_ok N m ps[i].2 b) ?_; simp; refine ⟨by omega, b + 1, by dsimp only; omega, by dsimp only; omega, Weak.to ?_ (by simp) (by simp) (by simp) (by simp)⟩; simp [hw3, pairR_succ, crow, irow]
      ·simp [h3]; have : b = a := by omega
       subst this; refine ⟨b + 1, by dsimp only; omega, by dsimp only; omega, Weak.to ?_ (by simp) (by simp) (by simp) (by simp)⟩; simp [hw2, pairC_succ]
    ·simp [h2]; have : a = N := by omega
     subst this; refine ⟨i + 1, by dsimp only; omega, by dsimp only; omega, Weak.to ?_ (by simp) (by simp) (by simp) (by simp)⟩; simp [hw, timesTo_succ _ _ _ ps h, c1]
  ·simp [h]; have : i = ps.length := by omega
   rw [this]
end Go.AX
