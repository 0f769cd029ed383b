/-
  The library's contracts at this program: sort, keys of maps, what is deleted.
-/
import Derived.Shelf.Spec.SlicesInsert
import Derived.Shelf.SlicesG.Delete
import Derived.Test.YtklaffmpfmpffaaGreatRows
namespace Go.Proofs
open Go.Shelf
end Go.Proofs
