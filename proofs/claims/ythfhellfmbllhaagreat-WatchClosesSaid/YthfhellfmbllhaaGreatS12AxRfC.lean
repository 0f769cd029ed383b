/-
  Contracts: the document's trails that grow, and its arenas.
-/
import Derived.Test.YthfhellfmbllhaaGreatS12AxRfA
import Derived.Test.YthfhellfmbllhaaGreatS12AxClG
import Derived.Test.YthfhellfmbllhaaGreatAxIs
namespace Go.AX
open Go.Proofs
set_option linter.unusedSimpArgs false
theorem rfNew_ok (h:List (List SV)):AMut Tryz.prog 38 [I64 6] h (fun r h'=>h'=h∧r=.pv (.tup [rtV ⟨6,[],0⟩,I64 0])):=by
 refine amutXW [] [.cell 2 _,.tmp 3] hmo Tryz.func38 (by kernel_rfl) rfl rfl (by kernel_rfl) (Nat.le_of_ble_eq_true rfl) ?_;simp[rtV,wkPL,wkP]
end Go.AX