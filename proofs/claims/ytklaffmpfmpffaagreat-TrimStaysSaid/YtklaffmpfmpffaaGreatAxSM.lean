/-
  AX, part SM: slices.Sort of numbers, from the library's contract: a slice of numbers is put in order in place.
-/
import Derived.Test.YtklaffmpfmpffaaGreatAxBR
import Derived.Shelf.SortM.Plain
import Derived.Shelf.SortM.SortNone
namespace Go.AX
open Go.Proofs Go.Shelf Go.Sort

end Go.AX
