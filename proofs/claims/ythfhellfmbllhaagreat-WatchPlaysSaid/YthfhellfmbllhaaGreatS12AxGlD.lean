/-
  Contracts: what is forgotten, by the program.
  Contracts: what is forgotten, by the document.
-/
import Derived.Test.YthfhellfmbllhaaGreatS12AxGlP
import Derived.Test.YthfhellfmbllhaaGreatAxBe
import Derived.Test.YthfhellfmbllhaaGreatS12AxShelf
import Derived.Test.YthfhellfmbllhaaGreatAxIs
import Derived.Test.YthfhellfmbllhaaGreatAxDr
import Derived.Sort.Grow
import Derived.Shelf.SlSortCmp.Insertion
import Derived.Shelf.SortM.Plain
import Derived.Shelf.SortM.SortNone
namespace Go.AX
open Go.Proofs Go.Shelf
set_option linter.unusedSimpArgs false
def r3 (x : G3) : List PV := grR (g3 x)
@[simp] theorem belowR_r3 (k : Nat) (u : List G3) : belowR k (u.map r3) := by
  have := belowR_grR k (u.map g3)
  rw [List.map_map] at this
  exact this
end Go.AX
