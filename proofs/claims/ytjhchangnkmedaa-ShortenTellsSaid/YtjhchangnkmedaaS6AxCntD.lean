/-
  Contracts: pairs, the document's way.
-/
import Derived.Test.YtjhchangnkmedaaS6AxCntC
namespace Go.AX
open Go.Proofs

end Go.AX
