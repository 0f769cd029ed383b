/-
  The law's contract: GlueCounts.
-/
import Derived.Test.YthfhellfmbllhaaGreatS12AxShA
import Derived.Test.YthfhellfmbllhaaGreatS12AxEvC
namespace Go.AX
open Go.Proofs
set_option linter.unusedSimpArgs false
def few4 (cs:List (List Int)):Bool:=decide (cs.length≤200)&&cs.all fun c=>decide (c.length≤50)
theorem few4_ok (cs:List (List Int)):APure Tryz.prog 27 [.agg [I64 0,.seq false 1 (cs.map crowF)]] (fun r=>r=.pv (BL (few4 cs))):=by
 refine apure1 hmo Tryz.func27 (by kernel_rfl) rfl rfl (by kernel_rfl) (Nat.le_of_ble_eq_true rfl) ?_
 by_cases c:(200:Int)<cs.length
 ·have:few4 cs=false:=by unfold few4;rw[decide_eq_false (by omega),Bool.false_and]
  rw[this];simp[c]
 have c':cs.length≤200:=by omega
 have hF:few4 cs=cs.all fun c=>decide (c.length≤50):=by unfold few4;rw[decide_eq_true c',Bool.true_and]
 rw[hF];simp[c];refine ALoop.intro (S:=fun(i:Nat)=>⟨[(1,.pv (.ptr 0 0)),(3,.pv (I64 i))],[[.pv (I64 0),.pv (.seq false 1 (cs.map crowF))]]⟩) (fun i=>i≤cs.length∧∀j (h:j<cs.length),j<i→cs[j].length≤50) (fun i=>cs.length -i) 0 ?_ ⟨Nat.zero_le _,fun j _ h=>by omega⟩ ?_
 ·exact Weak.to (by simp) rfl (by simp) (by simp) (by simp)
 rintro i ⟨hi,hle⟩
 by_cases ci:i<cs.length
 ·have hw2:w64 ((i:Int)+1)=((i+1:Nat):Int):=by rw[w64_id (by omega) (by omega)];omega
  by_cases c5:(50:Int)<cs[i].length
  ·have:(cs.all fun c=>decide (c.length≤50))=false:=by
    rw[List.all_eq_false];exact⟨cs[i],List.getElem_mem ci,by simp;omega⟩
   rw[this];simp[ci,crowF,c5]
  ·simp[ci,crowF,c5];refine⟨i+1,by(try dsimp only);omega,⟨by(try dsimp only);omega,fun j hj hji=>?_⟩,Weak.to (by simp[hw2]) rfl (by simp) (by simp) (by simp)⟩
   by_cases e:j=i
   ·subst e;omega
   ·exact hle j hj (by omega)
 ·have hie:i=cs.length:=by omega
  subst hie;have:(cs.all fun c=>decide (c.length≤50))=true:=by
   rw[List.all_eq_true];intro x hx;obtain⟨j,hj,rfl⟩:=List.getElem_of_mem hx;simpa using hle j hj hj
  rw[this];simp
def few8 (cs:List (List Int)) (l:List Int):Bool:=few4 cs&&decide (cs.length≤60)&&decide (l.length≤60)
theorem few8_ok (cs:List (List Int)) (l:List Int):APure Tryz.prog 6 [.seq false 1 (cs.map crowF),.seq false 1 (irow l)] (fun r=>r=.pv (BL (few8 cs l))):=by
 refine apure1 hmo Tryz.func6 (by kernel_rfl) rfl rfl (by kernel_rfl) (Nat.le_of_ble_eq_true rfl) ?_;simp;refine CallK.intro (few4_ok cs) (by simp) ?_;unfold few8;cases c:few4 cs
 ·simp
 ·by_cases c1:cs.length≤60
  ·have c1':(cs.length:Int)≤60:=by omega
   by_cases c2:l.length≤60
   ·have c2':(l.length:Int)≤60:=by omega
    simp[c1,c1',c2,c2']
   ·have c2':¬(l.length:Int)≤60:=by omega
    simp[c1,c1',c2,c2']
  ·have c1':¬(cs.length:Int)≤60:=by omega
   simp[c1,c1']
end Go.AX