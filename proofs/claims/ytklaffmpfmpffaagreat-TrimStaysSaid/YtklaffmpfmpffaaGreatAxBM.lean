/-
  AX, part BM: a call is handed a slice of numbers of the caller's own, which it writes, and blocks of the caller's turn, too.
-/
import Derived.Test.YtklaffmpfmpffaaGreatAxIs
import Derived.Test.YtklaffmpfmpffaaGreatAxBe
namespace Go.AX

end Go.AX
