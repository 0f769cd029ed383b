/-
  Contracts: the document's trails that grow, and its arenas.
-/
import Derived.Test.YtepodadinenmnaaGreatS14AxRfA
import Derived.Test.YtepodadinenmnaaGreatS14AxClG
import Derived.Test.YtepodadinenmnaaGreatAxXW
import Derived.Test.YtepodadinenmnaaGreatAxTb
namespace Go.AX
open Go.Proofs
set_option linter.unusedSimpArgs false
structure Ro where
  at':Int
  id:Int
  lits:List Int
structure RA where
  rows:List Ro
  size:Int
theorem oF:∀l:List SV,vV l l
 |[]=>trivial
 |x::xs=>⟨nB x,oF xs⟩
theorem qP:∀(h:List (List SV)){a b:List (List SV)},ul a b->ul (h++a) (h++b)
 |[],_,_,h=>h
 |x::xs,_,_,h=>⟨oF x,qP xs h⟩
def iC(id:Int)(lits:List Int):Int:=if id<1∨10000000<id then 2 else iM lits 100000
end Go.AX