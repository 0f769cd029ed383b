/-
  Contracts: what is awake (count).
-/
import Derived.Test.YtipaihpchnlkfaaS2AxCntI
namespace Go.AX
open Go.Proofs

def lAw : List Op5 := [⟨1, 0, 0, 1, 0⟩, ⟨1, 0, 2, 3, 0⟩, ⟨2, 0, 4, -1, -1⟩]
def lAw2 : List Op5 := [⟨1, 0, 0, 1, 0⟩, ⟨1, 0, 2, 3, 0⟩]
theorem eqv {P : Program} {f : FuncId} {xs : List PV} {n m : Int} (h : APure P f xs (fun r => r = .pv (I64 n))) (e : n = m) : APure P f xs (fun r => r = .pv (I64 m)) := by subst e; exact h

end Go.AX
