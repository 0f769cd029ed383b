/-
  Contracts: a desk is set.
-/
import Derived.Test.YtklaffmpfmpffaaGreatS11AxDkB
import Derived.Test.YtklaffmpfmpffaaGreatAxBe
namespace Go.AX
open Go.Proofs
set_option linter.unusedSimpArgs false

end Go.AX
