/-
  Contracts: the probe of the layer glue.
  The law's contract: GlueCounts.
-/
import Derived.Test.YtklaffmpfmpffaaGreatS11AxShC
import Derived.Test.YtklaffmpfmpffaaGreatS11AxMovS
namespace Go.AX
open Go.Proofs
set_option linter.unusedSimpArgs false

end Go.AX

namespace Go.AX
open Go.Proofs
set_option linter.unusedSimpArgs false

end Go.AX
