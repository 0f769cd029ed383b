/-
  The library: a slice's values, as a sequence.
-/
import Derived.Test.YthfhellfmbllhaaS13AxMovB
import Derived.Test.YthfhellfmbllhaaAxPt
import Derived.Test.YthfhellfmbllhaaAxIs
namespace Go.AX
open Go.Proofs Go.RowKit Go.Shelf
attribute [local go_sem] Oper.semAt_some

end Go.AX
