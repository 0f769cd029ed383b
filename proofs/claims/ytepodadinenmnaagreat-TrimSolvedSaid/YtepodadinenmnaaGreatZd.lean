/-
  Contracts: where a clause holds.
-/
import Derived.Test.YtepodadinenmnaaGreatZb
set_option linter.unusedSimpArgs false
namespace Go.AX
open Go.Proofs
def fU(l:Int):Int×Bool:=if 0<l∧l<=100000 then(l,true)else if l<0∧-100000<=l then(-l,false)else(0,false)
theorem Jd(l:Int):0<=(fU l).1∧(fU l).1<=100000:=by
 unfold fU;split;dsimp only;omega;split;dsimp only;omega;simp
def m8(m:dC)(l:Int):Bool:=decide ((fU l).1≠0)&&(decide ((fU l).1<=(m.length:Int))&&m.getD ((fU l).1 -1).toNat false)==(fU l).2
def dP(c:af)(m:dC):Bool:=c.any (m8 m)
def Ah(L:au)(m:dC):Int:=gD (λc=>!dP c m) L
theorem EZ(L:au)(m:dC):Ah L m<0↔∀c∈L,dP c m=true:=by
 unfold Ah gD;cases h:L.findIdx? (λc=>!dP c m)with
 |none=>
  rw[Yk]at h;exact⟨λ_ c d=>by have:=h c d;simpa using this,λ_=>by decide⟩
 |some i=>
  rw[Xk]at h;obtain⟨h1,b,_⟩:=h;refine⟨λa=>absurd a (by dsimp only;omega),λa=>?_⟩;rw[a L[i] (Vx h1)]at b;cases b
end Go.AX
