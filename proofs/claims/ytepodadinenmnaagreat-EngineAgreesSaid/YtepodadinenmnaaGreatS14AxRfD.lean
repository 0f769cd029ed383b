/-
  Contracts: the document's trails that grow, and its arenas.
-/
import Derived.Test.YtepodadinenmnaaGreatS14AxRfA
import Derived.Test.YtepodadinenmnaaGreatS14AxClG
import Derived.Test.YtepodadinenmnaaGreatAxBM
import Derived.Test.YtepodadinenmnaaGreatAxTb
namespace Go.AX
open Go.Proofs
set_option linter.unusedSimpArgs false
structure Ro where
  at':Int
  id:Int
  lits:List Int
structure RA where
  rows:List Ro
  size:Int
theorem ox:∀l:List SV,vR l l
 |[]=>trivial
 |x::xs=>⟨nu x,ox xs⟩
theorem qK:∀(h:List (List SV)){a b:List (List SV)},uj a b→uj (h++a) (h++b)
 |[],_,_,h=>h
 |x::xs,_,_,h=>⟨ox x,qK xs h⟩
def iw(id:Int)(lits:List Int):Int:=if id<1∨10000000<id then 2 else iR lits 100000
end Go.AX