/-
  Contracts: pairs, the document's way.
-/
import Derived.Test.YtjhchangnkmedaaGreatS7AxCntC
namespace Go.AX
open Go.Proofs

end Go.AX
