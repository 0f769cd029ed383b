/-
  Contracts: the document's trails that grow, and its arenas.
-/
import Derived.Test.YtepodadinenmnaaGreatS14AxRfA
import Derived.Test.YtepodadinenmnaaGreatS14AxClG
import Derived.Test.YtepodadinenmnaaGreatAxXW
import Derived.Test.YtepodadinenmnaaGreatAxTb
namespace Go.AX
open Go.Proofs
set_option linter.unusedSimpArgs false
structure Ro where
  at':Int
  id:Int
  lits:List Int
structure RA where
  rows:List Ro
  size:Int
theorem qz:∀l:List SV,zc l l
 |[]=>trivial
 |x::xs=>⟨pz x,qz xs⟩
theorem tn:∀(h:List (List SV)){a b:List (List SV)},xp a b->xp (h++a) (h++b)
 |[],_,_,h=>h
 |x::xs,_,_,h=>⟨qz x,tn xs h⟩
def jt(id:Int)(lits:List Int):Int:=if id<1∨10000000<id then 2 else fj lits 100000
theorem WalkerO.kp{P:Program}{k0:Nat}{ops:Array Oper}{stp:Nat->(St->Prop)->St->Prop}{K:St->Prop}{C:Nat->Array Bool->St->Prop}(a:WalkerO P k0 ops stp K C){n:Nat}{l:Array Bool}{st:St}{t1:List (Nat×SV)}{h1:List (List SV)}(hd:C n l ⟨t1,h1⟩)(h:M5 st.t t1)(b:st.h=h1):C n l st:=a.weak hd (b▸ah.slots h)
end Go.AX