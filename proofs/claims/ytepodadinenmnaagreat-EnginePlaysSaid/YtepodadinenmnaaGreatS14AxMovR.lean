/-
  Contracts: where a clause holds.
-/
import Derived.Test.YtepodadinenmnaaGreatS14AxEvC
namespace Go.AX
open Go.Proofs
set_option linter.unusedSimpArgs false
def gD(l:Int):Int×Bool:=if 0<l∧l<=100000 then(l,true)else if l<0∧-100000<=l then(-l,false)else(0,false)
theorem FO(l:Int):0<=(gD l).1∧(gD l).1<=100000:=by
 unfold gD;split
 .dsimp only;omega
 .split
  .dsimp only;omega
  .simp
def ka(m:List Bool)(l:Int):Bool:=decide ((gD l).1≠0)&&(decide ((gD l).1<=(m.length:Int))&&m.getD ((gD l).1 -1).toNat false)==(gD l).2
def eh(c:List Int)(m:List Bool):Bool:=c.any (ka m)
def xz(L:List (List Int))(m:List Bool):Int:=i7 (λc=>!eh c m) L
theorem Ch(L:List (List Int))(m:List Bool):xz L m<0↔∀c∈L,eh c m=true:=by
 unfold xz i7;cases h:L.findIdx? (λc=>!eh c m)with
 |none=>
  rw[TQ]at h;exact⟨λ_ c d=>by have:=h c d;simpa using this,λ_=>by decide⟩
 |some i=>
  rw[SG]at h;obtain⟨h1,b,_⟩:=h;refine⟨λa=>absurd a (by dsimp only;omega),λa=>?_⟩;rw[a L[i] (Rz h1)]at b;cases b
end Go.AX