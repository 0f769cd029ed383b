/-
  AX, part Dr: whatever runs, the count of draws never goes back.
-/
import Derived.WalkKit
namespace Go.AX
def rw {α : Type} : Result α → World
  | .ok _ w => w
  | .halt _ w => w
def gw : GStep → World
  | .go _ w _ => w
  | .comm _ _ _ _ w _ => w
  | .spawn _ _ w _ => w
  | .count _ w _ => w
  | .timer _ _ w _ => w
  | .alone _ _ w _ => w
  | .newcoro _ _ _ w _ => w
  | .coroswitch _ _ _ w _ => w
  | .collect _ w _ => w
  | .watch _ w _ => w
  | .ended _ w _ => w
end Go.AX
