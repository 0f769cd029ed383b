/-
  Contracts: what is forgotten, by the program.
-/
import Derived.Test.YthfhellfmbllhaaGreatS12AxGlP
import Derived.Test.YthfhellfmbllhaaGreatAxBe
import Derived.Test.YthfhellfmbllhaaGreatS12AxShelf
import Derived.Test.YthfhellfmbllhaaGreatAxIs
import Derived.Test.YthfhellfmbllhaaGreatAxDr
import Derived.Sort.Grow
import Derived.Shelf.SlSortCmp.Insertion
import Derived.Shelf.SortM.Plain
import Derived.Shelf.SortM.SortNone
namespace Go.AX
open Go.Proofs Go.Shelf
set_option linter.unusedSimpArgs false
def r3 (x:G3):List PV:=grR (g3 x)
end Go.AX