/-
  Contracts: arenas.
-/
import Derived.Test.YthfhellfmbllhaaGreatS12AxRfA
import Derived.Test.YthfhellfmbllhaaGreatS12AxRfD
import Derived.Test.YthfhellfmbllhaaGreatAxLo
import Derived.Test.YthfhellfmbllhaaGreatAxX
namespace Go.AX
open Go.Proofs
set_option linter.unusedSimpArgs false
structure Ar where
  row : List Int
  hd : List (Int × Int)
@[simp] theorem litsR_irow (l : List Int) : litsR (irow l) := by
  unfold irow
  induction l with
  | nil => trivial
  | cons x xs ih => exact ⟨⟨trivial, trivial⟩, ih⟩
def isA (A : Ar) (at' : Int) : Bool := decide (0 < (lk A.hd at').getD 0)
structure AtOk (A : Ar) (p n : Nat) : Prop where
  len : p + 3 + n ≤ A.row.length
  num : A.row.getD (p + 1) 0 = n
def partA' (A : Ar) (p n : Nat) : List Int := (A.row.drop (p + 3)).take n
end Go.AX
