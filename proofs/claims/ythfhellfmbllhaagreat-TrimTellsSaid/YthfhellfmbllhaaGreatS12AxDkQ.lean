/-
  A desk: what the program keeps and what the document keeps go together (plain law).
-/
import Derived.Test.YthfhellfmbllhaaGreatS12AxDkP
import Derived.Test.YthfhellfmbllhaaGreatS12AxArA
import Derived.Test.YthfhellfmbllhaaGreatS12AxRfB
namespace Go.AX
open Go.Proofs
set_option linter.unusedSimpArgs false
structure RelA (A : Ar) (a : RA) : Prop where
  size : a.size = A.row.length
  rows : ∀ x ∈ a.rows, ∃ p : Nat, x.at' = p ∧ AtOk A p x.lits.length ∧ partA' A p x.lits.length = x.lits ∧ isA A p = true ∧ A.row.getD p 0 = x.id
  is : ∀ q : Int, isA A q = true → ∃ x ∈ a.rows, x.at' = q
structure DK where
  A : Ar
  T : Tr
  a : RA
  t : RT
  con : Int
end Go.AX
