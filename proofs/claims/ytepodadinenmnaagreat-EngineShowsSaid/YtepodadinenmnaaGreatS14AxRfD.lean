/-
  Contracts: the document's trails that grow, and its arenas.
-/
import Derived.Test.YtepodadinenmnaaGreatS14AxRfA
import Derived.Test.YtepodadinenmnaaGreatS14AxClG
import Derived.Test.YtepodadinenmnaaGreatAxXW
import Derived.Test.YtepodadinenmnaaGreatAxTb
namespace Go.AX
open Go.Proofs
set_option linter.unusedSimpArgs false
structure Ro where
  at':Int
  id:Int
  lits:List Int
structure RA where
  rows:List Ro
  size:Int
theorem pK:∀l:List SV,xG l l
 |[]=>trivial
 |x::xs=>⟨oD x,pK xs⟩
theorem rQ:∀(h:List (List SV)){a b:List (List SV)},vT a b->vT (h++a) (h++b)
 |[],_,_,h=>h
 |x::xs,_,_,h=>⟨pK x,rQ xs h⟩
def jb(id:Int)(lits:List Int):Int:=if id<1∨10000000<id then 2 else fj lits 100000
end Go.AX