/-
  Contracts: slices.DeleteFunc of rows.
-/
import Derived.Test.YtklaffmpfmpffaaGreatS11AxGlP
import Derived.Test.YtklaffmpfmpffaaGreatAxBe
namespace Go.AX
open Go.Proofs
set_option linter.unusedSimpArgs false

end Go.AX
