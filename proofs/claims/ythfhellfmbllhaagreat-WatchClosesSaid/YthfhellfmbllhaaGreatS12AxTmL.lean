/-
  The library: a slice's values, as a sequence.
-/
import Derived.Test.YthfhellfmbllhaaGreatS12AxCntG
import Derived.Test.YthfhellfmbllhaaGreatAxPt
import Derived.Test.YthfhellfmbllhaaGreatAxIs
namespace Go.AX
open Go.Proofs Go.RowKit Go.Shelf
attribute [local go_sem] Oper.semAt_some
end Go.AX