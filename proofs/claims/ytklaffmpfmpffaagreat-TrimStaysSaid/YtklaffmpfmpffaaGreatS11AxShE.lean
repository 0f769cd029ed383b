/-
  Contracts: slices.DeleteFunc whose predicate turns blocks.
  Contracts: a clause that is made shorter.
-/
import Derived.Test.YtklaffmpfmpffaaGreatS11AxShC
import Derived.Test.YtklaffmpfmpffaaGreatAxBM
namespace Go.AX
open Go.Proofs
set_option linter.unusedSimpArgs false

end Go.AX

namespace Go.AX
open Go.Proofs
set_option linter.unusedSimpArgs false

@[simp] theorem oldE_mapI : ∀ l : List (Int × Int), oldE (mapE fI l)
  | [] => trivial
  | (_, _) :: l => ⟨trivial, oldE_mapI l⟩
end Go.AX
