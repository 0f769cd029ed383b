/-
  Contracts: the document's trails that grow, and its arenas.
-/
import Derived.Test.YtepodadinenmnaaGreatZi
import Derived.Test.YtepodadinenmnaaGreatZk
set_option linter.unusedSimpArgs false
namespace Go.AX
open Go.Proofs
structure Ro where
  at':Int
  id:Int
  lits:af
structure RA where
  rows:List Ro
  size:Int
theorem sE:∀l:bj,Bf l l
 |[]=>trivial
 |x::xs=>⟨rk x,sE xs⟩
theorem vc:∀(h:ao){a b:ao},zA a b->zA (h++a) (h++b)
 |[],_,_,h=>h
 |x::xs,_,_,h=>⟨sE x,vc xs h⟩
def lp(id:Int)(lits:af):Int:=if id<1∨10000000<id then 2 else iM lits 100000
theorem WalkerO.kp{P:aa}{k0:Nat}{ops:Array ai}{stp:Nat->(St->Prop)->St->Prop}{K:St->Prop}{C:Nat->Array Bool->St->Prop}(a:WalkerO P k0 ops stp K C){n:Nat}{l:Array Bool}{st:St}{t1:List (Nat×SV)}{h1:ao}(hd:C n l ⟨t1,h1⟩)(h:PU st.t t1)(b:st.h=h1):C n l st:=a.weak hd (b▸av.slots h)
end Go.AX
