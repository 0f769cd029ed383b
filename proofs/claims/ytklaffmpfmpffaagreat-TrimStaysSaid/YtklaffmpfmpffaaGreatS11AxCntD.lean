/-
  Contracts: pairs, the document's way.
-/
import Derived.Test.YtklaffmpfmpffaaGreatS11AxCntC
namespace Go.AX
open Go.Proofs

end Go.AX
