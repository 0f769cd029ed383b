/-
  Contracts: pairs, the document's way.
-/
import Derived.Test.YtlppejdonplmkaaS5AxCntC
namespace Go.AX
open Go.Proofs

end Go.AX
