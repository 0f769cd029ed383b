/-
  AX, part DL: slices.Delete of numbers, from the library's contract: in place.
-/
import Derived.Test.YtklaffmpfmpffaaGreatAxSM
import Derived.Test.YtklaffmpfmpffaaGreatAxIs
import Derived.Shelf.SlicesG.Delete
namespace Go.AX
open Go.Proofs Go.Shelf Go.Sort

end Go.AX
