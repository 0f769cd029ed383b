/-
  Contracts: count.All, count.Fits.
-/
import Derived.Test.YtipaihpchnlkfaaS2AxCntH
namespace Go.AX
open Go.Proofs

end Go.AX
