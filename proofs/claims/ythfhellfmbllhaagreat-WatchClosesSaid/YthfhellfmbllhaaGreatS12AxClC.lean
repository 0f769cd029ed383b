/-
  Contracts: slices.Compact of numbers.
-/
import Derived.Test.YthfhellfmbllhaaGreatS12AxTrA
namespace Go.AX
open Go.Proofs
set_option linter.unusedSimpArgs false
def compTo (zs:List Int):Nat→List Int
 |0=>[]
 |j+1=>if j=0∨zs.getD j 0≠zs.getD (j -1) 0 then compTo zs j++[zs.getD j 0]else compTo zs j
def compS (zs:List Int):List Int:=compTo zs zs.length
end Go.AX