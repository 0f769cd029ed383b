/-
  Contracts: literals.
-/
import Derived.Test.YtklaffmpfmpffaaGreatDoorS10AxMovS
import Derived.Test.YtklaffmpfmpffaaGreatDoorAxBL
namespace Go.AX
open Go.Proofs
set_option linter.unusedSimpArgs false

def inS (n m : Int) : Bool := decide (n ≠ 0) && (decide (-m ≤ n) && decide (n ≤ m))
def okL (n : Int) : Bool := inS n 100000
def absS (n : Int) : Int := if n < 0 then -n else n
def litV (n : Int) : Int := if okL n = true then absS n else 0
def litX (n : Int) : Int := if okL n = true then (if n < 0 then 2 * absS n - 1 else 2 * absS n - 2) else -1
def litN (n : Int) : Int := if okL n = true then -n else 0
theorem okL_iff (n : Int) : okL n = true ↔ n ≠ 0 ∧ -100000 ≤ n ∧ n ≤ 100000 := by unfold okL inS; simp

def litChk (n m : Int) : Int := if m < 0 ∨ 100000 < m then 2 else if inS n m = true then 0 else 10
def joinS (v : Int) (b : Bool) : Int := if v < 1 ∨ 100000 < v then 0 else if b = true then v else -v
end Go.AX
