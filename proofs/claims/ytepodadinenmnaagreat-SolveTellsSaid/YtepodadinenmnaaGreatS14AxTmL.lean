/-
  The library: a slice's values, as a sequence.
-/
import Derived.Test.YtepodadinenmnaaGreatS14AxCntG
import Derived.Test.YtepodadinenmnaaGreatAxR
import Derived.Test.YtepodadinenmnaaGreatAxOw
namespace Go.AX
open Go.Proofs Go.RowKit Go.Shelf
attribute [local go_sem] Oper.semAt_some
end Go.AX