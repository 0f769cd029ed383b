/-
  Contracts: pairs, the document's way.
-/
import Derived.Test.YtphbmbhmhbchbaaS4AxCntC
namespace Go.AX
open Go.Proofs

end Go.AX
