/-
  AX, part Dr: whatever runs, the count of draws never goes back.
-/
import Derived.WalkKit
namespace Go.AX
def rw{α:Type}:Result α→World
 |.ok _ w=>w
 |.halt _ w=>w
end Go.AX