/-
  Contracts: where a clause holds.
-/
import Derived.Test.YtepodadinenmnaaGreatS14AxEvC
namespace Go.AX
open Go.Proofs
set_option linter.unusedSimpArgs false
def gt(l:Int):Int×Bool:=if 0<l∧l<=100000 then(l,true)else if l<0∧-100000<=l then(-l,false)else(0,false)
theorem Et(l:Int):0<=(gt l).1∧(gt l).1<=100000:=by
 unfold gt;split
 .dsimp only;omega
 .split
  .dsimp only;omega
  .simp
def jQ(m:List Bool)(l:Int):Bool:=decide ((gt l).1≠0)&&(decide ((gt l).1<=(m.length:Int))&&m.getD ((gt l).1 -1).toNat false)==(gt l).2
def d0(c:List Int)(m:List Bool):Bool:=c.any (jQ m)
def wG(L:List (List Int))(m:List Bool):Int:=gG (λc=>!d0 c m) L
theorem Bd(L:List (List Int))(m:List Bool):wG L m<0↔∀c∈L,d0 c m=true:=by
 unfold wG gG;cases h:L.findIdx? (λc=>!d0 c m)with
 |none=>
  rw[Sz]at h;exact⟨λ_ c d=>by have:=h c d;simpa using this,λ_=>by decide⟩
 |some i=>
  rw[RJ]at h;obtain⟨h1,b,_⟩:=h;refine⟨λa=>absurd a (by dsimp only;omega),λa=>?_⟩;rw[a L[i] (Qe h1)]at b;cases b
end Go.AX