/-
  Contracts: proof.Split: hints, parted.
  Contracts: proof.Check: steps that may be.
  Contracts: lrat.Checker: what it holds.
  Contracts: lrat.Checker, read only.
  Contracts: rat: candidates.
  Contracts: whether a formula may be: the program's, the document's.
-/
import Derived.Test.YthfhellfmbllhaaGreatS12AxTmB
import Derived.Test.YthfhellfmbllhaaGreatAxFz
namespace Go.AX
open Go.Proofs
set_option linter.unusedSimpArgs false
def splF (x : List Int × List (List Int)) (h : Int) : List Int × List (List Int) :=
  if h < 0 then (x.1, x.2 ++ [[h]]) else if x.2 = [] then (x.1 ++ [h], x.2) else (x.1, x.2.dropLast ++ [x.2.getLastD [] ++ [h]])
def splTo (hs : List Int) (i : Nat) : List Int × List (List Int) := (hs.take i).foldl splF ([], [])
def splS (hs : List Int) : List Int × List (List Int) := splTo hs hs.length
structure Bs where
  b : Nat
  n : Nat
  cap : Nat
theorem splTo_succ (hs : List Int) {i : Nat} (h : i < hs.length) : splTo hs (i + 1) = splF (splTo hs i) hs[i] := foldl_take_succ splF ([], []) hs i h
theorem WeakE.of {k0 : Nat} {st S : St} (h : Weak k0 st S) : WeakE k0 st (fun _ : Unit => S) := fun g a w h0 hs => by
  obtain ⟨g', t, s'⟩ := h g a w h0 hs
  exact ⟨g', (), t, s'⟩
structure Stp where
  kind : Int
  id : Int
  lits : List Int
  hints : List Int
instance : Inhabited Stp := ⟨⟨0, 0, [], []⟩⟩
def outW (lo n : Int) : Bool := decide (n < lo) || decide (10000000 < n) || decide (n = 0)
def wthnS (l : List Int) (lo : Int) : Bool := decide (l.length ≤ 1000) && !(l.any (outW lo))
def mayP (x : Stp) : Bool :=
  if x.kind = 1 then decide (1 ≤ x.id) && (decide (x.id ≤ 10000000) && (decide (chkC x.lits 100000 = 0) && wthnS x.hints (-10000000)))
  else if x.kind = 2 then decide (0 ≤ x.id) && (decide (x.id ≤ 10000000) && (decide (x.lits.length = 0) && wthnS x.hints 1)) else false
def pchE (l : List Stp) : Int := if 1000000 < l.length then 3 else if 0 ≤ idxS (fun x => !mayP x) l then 2 else 0
structure Ck where
  m : List (Int × List Int)
  last : Int
  done : Bool
def putC (c : Ck) (id : Int) (l : List Int) : Ck := ⟨pt c.m id l, id, c.done || decide (l.length = 0)⟩
theorem cloneN2_ok : APure Tryz.prog 70 [.lit (.slice none 0 0)] (fun r => r = .pv (.lit (.slice none 0 0))) := by
  refine apure1 hmo Tryz.func70 (by kernel_rfl) rfl rfl (by kernel_rfl) (Nat.le_of_ble_eq_true rfl) ?_
  simp
def absM (id : Int) : Int := if id < w64 (-id) then w64 (-id) else id
def thereS (c : Ck) (ids : List Int) : Bool := ids.all fun id => (lk c.m (absM id)).isSome
def rowsS (c : Ck) (ids : List Int) : List (List Int) := ids.map fun id => (lk c.m id).getD []
def canS (cs : List (List Int)) (p : Int) : Nat → List Int
  | 0 => []
  | i + 1 => if litN p ≠ 0 ∧ hasS (cs.getD i []) (litN p) = true then canS cs p i ++ [(i : Int)] else canS cs p i
def refF (p : Int) (o : Option (List Int)) (x : Int) : Option (List Int) :=
  o.bind fun out => if litV x = 0 ∨ x = litN p then some out else if val3 out x = 1 then none else if val3 out x = 0 then some (out ++ [w64 (-x)]) else some out
def refO (l c : List Int) (p : Int) (i : Nat) : Option (List Int) := (c.take i).foldl (refF p) (some l)
def refE (l c : List Int) (p : Int) (hs : List (List Int)) : Int := match refO l c p c.length with
  | none => 0
  | some out => if (chnF out hs 0).2.2 ≠ 0 then 24 else 0
def cnfGo (v : Int) : List (List Int) → Nat → Int × Int
  | [], i => (i, 0)
  | c :: L, i => if chkC c v ≠ 0 then (i, chkC c v) else if tautS c = true then (i, 11) else cnfGo v L (i + 1)
def cnfS (v : Int) (L : List (List Int)) : Int × Int := if v < 0 ∨ 100000 < v then (0, 2) else if 1000000 < L.length then (0, 3) else cnfGo v L 0
end Go.AX
