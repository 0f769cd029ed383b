/-
  Contracts: the document's trails that grow, and its arenas.
-/
import Derived.Test.YtepodadinenmnaaGreatS14AxRfA
import Derived.Test.YtepodadinenmnaaGreatS14AxClG
import Derived.Test.YtepodadinenmnaaGreatAxXW
import Derived.Test.YtepodadinenmnaaGreatAxTb
namespace Go.AX
open Go.Proofs
set_option linter.unusedSimpArgs false
structure Ro where
  at':Int
  id:Int
  lits:List Int
structure RA where
  rows:List Ro
  size:Int
theorem qg:∀l:List SV,yI l l
 |[]=>trivial
 |x::xs=>⟨o7 x,qg xs⟩
theorem sV:∀(h:List (List SV)){a b:List (List SV)},wR a b->wR (h++a) (h++b)
 |[],_,_,h=>h
 |x::xs,_,_,h=>⟨qg x,sV xs h⟩
def jw(id:Int)(lits:List Int):Int:=if id<1∨10000000<id then 2 else fu lits 100000
end Go.AX