/-
  Contracts: what is forgotten, by the program.
  Contracts: what is forgotten, by the document.
-/
import Derived.Test.YtklaffmpfmpffaaGreatS11AxGlP
import Derived.Test.YtklaffmpfmpffaaGreatAxBe
import Derived.Test.YtklaffmpfmpffaaGreatS11AxShelf
import Derived.Test.YtklaffmpfmpffaaGreatAxBL
import Derived.Test.YtklaffmpfmpffaaGreatAxDr
import Derived.Shelf.SlSortCmp.NoneTotal
import Derived.Shelf.SortM.Plain
import Derived.Shelf.SortM.SortNone
namespace Go.AX
open Go.Proofs Go.Shelf
set_option linter.unusedSimpArgs false

def r3 (x : G3) : List PV := grR (g3 x)
end Go.AX

namespace Go.AX
open Go.Proofs
set_option linter.unusedSimpArgs false

@[simp] theorem belowR_r3 (k : Nat) (u : List G3) : belowR k (u.map r3) := by
  have := belowR_grR k (u.map g3)
  rw [List.map_map] at this
  exact this
end Go.AX
