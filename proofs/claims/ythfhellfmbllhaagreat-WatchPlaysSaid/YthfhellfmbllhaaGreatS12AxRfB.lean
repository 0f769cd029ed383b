/-
  Contracts: what follows by units, by the document.
-/
import Derived.Test.YthfhellfmbllhaaGreatS12AxRfA
import Derived.Test.YthfhellfmbllhaaGreatS12AxClD
namespace Go.AX
open Go.Proofs
set_option linter.unusedSimpArgs false
def val3 (l : List Int) (x : Int) : Int := if litX x < 0 then 0 else if x ∈ l then 1 else if w64 (-x) ∈ l then -1 else 0
theorem foldl_take_succ {α β : Type} (f : β → α → β) (b : β) (c : List α) (i : Nat) (h : i < c.length) : (c.take (i + 1)).foldl f b = f ((c.take i).foldl f b) c[i] := by
  rw [← List.take_append_getElem h, List.foldl_append]; rfl
def clF (l : List Int) (n x : Int) : Int := if 0 ≤ litX x ∧ n < val3 l x then val3 l x else n
def clS (l c : List Int) : Int := c.foldl (clF l) (-1)
def ctF (l : List Int) (t : Int × Int × Int) (x : Int) : Int × Int × Int :=
  if val3 l x = 1 then (w64 (t.1 + 1), t.2.1, t.2.2) else if val3 l x = -1 then (t.1, w64 (t.2.1 + 1), t.2.2) else if 0 ≤ litX x then (t.1, t.2.1, w64 (t.2.2 + 1)) else t
def ctS (l c : List Int) : Int × Int × Int := c.foldl (ctF l) (0, 0, 0)
def opF (l : List Int) (n x : Int) : Int := if 0 ≤ litX x ∧ val3 l x = 0 then x else n
def unitS (l c : List Int) : Int × Bool := if (ctS l c).1 ≠ 0 ∨ (ctS l c).2.2 ≠ 1 then (0, false) else (c.foldl (opF l) 0, true)
def fewC (cs : List (List Int)) : Prop := cs.length ≤ 500 ∧ ∀ c ∈ cs, c.length ≤ 1000
end Go.AX
