/-
  Contracts: what follows by units, by the document.
-/
import Derived.Test.YthfhellfmbllhaaGreatS12AxRfA
import Derived.Test.YthfhellfmbllhaaGreatS12AxClD
namespace Go.AX
open Go.Proofs
set_option linter.unusedSimpArgs false
def val3 (l:List Int) (x:Int):Int:=if litX x<0 then 0 else if x∈l then 1 else if w64 (-x)∈l then-1 else 0
theorem rf3Value_ok (l:List Int) (x:Int) (hl:l.length≤1000000):APure Tryz.prog 103 [.seq false 1 (irow l),I64 x] (fun r=>r=.pv (I64 (val3 l x))):=by
 refine apure1 hmo Tryz.func103 (by kernel_rfl) rfl rfl (by kernel_rfl) (Nat.le_of_ble_eq_true rfl) ?_;have hV:val3 l x=if litX x<0 then 0 else if x∈l then 1 else if w64 (-x)∈l then-1 else 0:=rfl;generalize val3 l x=V at hV⊢;simp;refine CallK.intro (refIndex_ok x) (by simp) ?_;simp;refine⟨fun c=>by rw[hV,if_pos c],fun c=>?_⟩;rw[if_neg (by omega)]at hV;refine CallK.intro (refHas_ok l x (by omega)) (by simp) ?_;simp;refine⟨fun c=>by rw[hV,if_pos c],fun c=>?_⟩;rw[if_neg c]at hV;refine CallK.intro (refHas_ok l (w64 (-x)) (by omega)) (by simp) ?_;simp;exact⟨fun c=>by rw[hV,if_pos c],fun c=>by rw[hV,if_neg c]⟩
theorem foldl_take_succ {α β:Type} (f:β→α→β) (b:β) (c:List α) (i:Nat) (h:i<c.length):(c.take (i+1)).foldl f b=f ((c.take i).foldl f b) c[i]:=by
 rw[←List.take_append_getElem h,List.foldl_append];rfl
def clF (l:List Int) (n x:Int):Int:=if 0≤litX x∧n<val3 l x then val3 l x else n
def clS (l c:List Int):Int:=c.foldl (clF l) (-1)
theorem rf3Clause_ok (l c:List Int) (hl:l.length≤1000000) (hc:c.length≤1000000):APure Tryz.prog 53 [.seq false 1 (irow l),.seq false 1 (irow c)] (fun r=>r=.pv (I64 (clS l c))):=by
 refine apure1 hmo Tryz.func53 (by kernel_rfl) rfl rfl (by kernel_rfl) (Nat.le_of_ble_eq_true rfl) ?_;simp;refine ALoop.intro (S:=fun(i:Nat)=>⟨[(0,.pv (.seq false 1 (irow l))),(1,.pv (.seq false 1 (irow c))),(5,.pv (I64 ((c.take i).foldl (clF l) (-1)))),(6,.pv (I64 i))],[]⟩) (fun i=>i≤c.length) (fun i=>c.length -i) 0 ?_ (Nat.zero_le _) ?_
 ·exact Weak.to (by simp) rfl (by simp) (by simp) (by simp)
 intro i hi
 by_cases h:i<c.length
 ·have hw:w64 ((i:Int)+1)=((i+1:Nat):Int):=by rw[w64_id (by omega) (by omega)];omega
  have hF:=foldl_take_succ (clF l) (-1) c i h;generalize(c.take i).foldl (clF l) (-1)=n at hF⊢;simp[h];refine CallK.intro (refIndex_ok c[i]) (by simp) ?_;simp[h];refine CallG.intro (r:=.pv (I64 (val3 l c[i]))) (fun _=>rf3Value_ok l c[i] hl) (by simp) ?_;simp[h];refine⟨fun c1 c2=>?_,fun c1=>⟨i+1,by(try dsimp only);omega,by(try dsimp only);omega,?_⟩⟩
  ·refine CallK.intro (rf3Value_ok l c[i] hl) (by simp) ?_;have e:clF l n c[i]=val3 l c[i]:=by unfold clF;rw[if_pos ⟨c1,c2⟩]
   rw[e]at hF;simp[h];exact⟨i+1,by(try dsimp only);omega,by(try dsimp only);omega,Weak.to (by simp[hw,hF]) rfl (by simp) (by simp) (by simp)⟩
  ·have e:clF l n c[i]=n:=by
    unfold clF;rw[if_neg];rintro⟨a1,a2⟩;have:=c1 a1;omega
   rw[e]at hF;exact Weak.to (by simp[hw,hF]) rfl (by simp) (by simp) (by simp)
 ·have hie:i=c.length:=by omega
  subst hie;simp[clS]
def ctF (l:List Int) (t:Int×Int×Int) (x:Int):Int×Int×Int:=
 if val3 l x=1 then(w64 (t.1+1),t.2.1,t.2.2)else if val3 l x=-1 then(t.1,w64 (t.2.1+1),t.2.2)else if 0≤litX x then(t.1,t.2.1,w64 (t.2.2+1))else t
def ctS (l c:List Int):Int×Int×Int:=c.foldl (ctF l) (0,0,0)
set_option maxRecDepth 8000 in
theorem rf3Count_ok (l c:List Int) (hl:l.length≤1000000) (hc:c.length≤1000000):APure Tryz.prog 183 [.seq false 1 (irow l),.seq false 1 (irow c)] (fun r=>r=.pv (.agg [I64 (ctS l c).1,I64 (ctS l c).2.1,I64 (ctS l c).2.2])):=by
 refine apureC hmo Tryz.func183 (by kernel_rfl) rfl rfl (by kernel_rfl) (Nat.le_of_ble_eq_true rfl) ?_;simp;refine ALoop.intro (S:=fun(i:Nat)=>⟨[(0,.pv (.seq false 1 (irow l))),(1,.pv (.seq false 1 (irow c))),(4,.pv (.ptr 0 0)),(5,.pv (.ptr 1 0)),(6,.pv (I64 i))],[[.pv (I64 0),.pv (I64 0),.pv (I64 0)],[.pv (I64 ((c.take i).foldl (ctF l) (0,0,0)).1),.pv (I64 ((c.take i).foldl (ctF l) (0,0,0)).2.1),.pv (I64 ((c.take i).foldl (ctF l) (0,0,0)).2.2)]]⟩) (fun i=>i≤c.length) (fun i=>c.length -i) 0 ?_ (Nat.zero_le _) ?_
 ·exact Weak.to (by simp) (by simp) (by simp) (by simp) (by simp)
 intro i hi
 by_cases h:i<c.length
 ·have hw:w64 ((i:Int)+1)=((i+1:Nat):Int):=by rw[w64_id (by omega) (by omega)];omega
  have hF:=foldl_take_succ (ctF l) (0,0,0) c i h;generalize(c.take i).foldl (ctF l) (0,0,0)=t at hF⊢;obtain⟨x,y,z⟩:=t;unfold ctF at hF;simp[h];refine CallK.intro (rf3Value_ok l c[i] hl) (by simp) ?_;simp[h];refine⟨fun c1=>⟨i+1,by(try dsimp only);omega,by(try dsimp only);omega,Weak.to (by rw[if_pos c1]at hF;simp[hw]) (by rw[if_pos c1]at hF;unfold ctF;simp[hF]) (by simp) (by simp) (by simp)⟩,fun c1=>⟨fun c2=>⟨i+1,by(try dsimp only);omega,by(try dsimp only);omega,Weak.to (by simp[hw]) (by rw[if_neg c1,if_pos c2]at hF;unfold ctF;simp[hF]) (by simp) (by simp) (by simp)⟩,fun c2=>?_⟩⟩;refine CallK.intro (refIndex_ok c[i]) (by simp) ?_;simp;exact⟨fun c3=>⟨i+1,by(try dsimp only);omega,by(try dsimp only);omega,Weak.to (by simp[hw]) (by rw[if_neg c1,if_neg c2,if_pos c3]at hF;unfold ctF;simp[hF]) (by simp) (by simp) (by simp)⟩,fun c3=>⟨i+1,by(try dsimp only);omega,by(try dsimp only);omega,Weak.to (by simp[hw]) (by rw[if_neg c1,if_neg c2,if_neg (by omega)]at hF;unfold ctF;simp[hF]) (by simp) (by simp) (by simp)⟩⟩
 ·have hie:i=c.length:=by omega
  subst hie;simp[ctS]
def opF (l:List Int) (n x:Int):Int:=if 0≤litX x∧val3 l x=0 then x else n
def unitS (l c:List Int):Int×Bool:=if(ctS l c).1≠0∨(ctS l c).2.2≠1 then(0,false)else(c.foldl (opF l) 0,true)
set_option maxRecDepth 8000 in
theorem rf3Unit_ok (l c:List Int) (hl:l.length≤1000000) (hc:c.length≤1000000):APure Tryz.prog 148 [.seq false 1 (irow l),.seq false 1 (irow c)] (fun r=>r=.pv (.tup [I64 (unitS l c).1,BL (unitS l c).2])):=by
 refine apureN [4,5] hmo Tryz.func148 (by kernel_rfl) rfl (fun _ _=>results_tmp2 rfl _ _ _) (by kernel_rfl) (Nat.le_of_ble_eq_true rfl) ?_;have hU:unitS l c=if(ctS l c).1≠0∨(ctS l c).2.2≠1 then(0,false)else(c.foldl (opF l) 0,true):=rfl;have hct:=rf3Count_ok l c hl hc;generalize unitS l c=U at hU⊢;generalize ctS l c=t at hU hct;obtain⟨x,y,z⟩:=t;dsimp only at hU hct;simp;refine CallK.intro hct (by simp) ?_
 by_cases c1:x=0
 rotate_left
 ·rw[if_pos (.inl c1)]at hU;subst hU;simp[c1]
 by_cases c2:z=1
 rotate_left
 ·rw[if_pos (.inr c2)]at hU;subst hU;simp[c1,c2]
 rw[if_neg (by omega)]at hU;simp[c1,c2];refine ALoop.intro (S:=fun(i:Nat)=>⟨[(0,.pv (.seq false 1 (irow l))),(1,.pv (.seq false 1 (irow c))),(7,.pv (I64 ((c.take i).foldl (opF l) 0))),(8,.pv (I64 i))],[]⟩) (fun i=>i≤c.length) (fun i=>c.length -i) 0 ?_ (Nat.zero_le _) ?_
 ·exact Weak.to (by simp) rfl (by simp) (by simp) (by simp)
 intro i hi
 by_cases h:i<c.length
 ·have hw:w64 ((i:Int)+1)=((i+1:Nat):Int):=by rw[w64_id (by omega) (by omega)];omega
  have hF:=foldl_take_succ (opF l) 0 c i h;generalize(c.take i).foldl (opF l) 0=n at hF⊢;unfold opF at hF;simp[h];refine CallK.intro (refIndex_ok c[i]) (by simp) ?_;simp[h];refine CallG.intro (r:=.pv (I64 (val3 l c[i]))) (fun _=>rf3Value_ok l c[i] hl) (by simp) ?_;simp[h];refine⟨fun d1 d2=>⟨i+1,by(try dsimp only);omega,by(try dsimp only);omega,?_⟩,fun d1=>⟨i+1,by(try dsimp only);omega,by(try dsimp only);omega,?_⟩⟩
  ·rw[if_pos ⟨d1,d2⟩]at hF;exact Weak.to (by unfold opF;simp[hw,hF]) rfl (by simp) (by simp) (by simp)
  ·rw[if_neg (fun d=>d1 d.1 d.2)]at hF;exact Weak.to (by unfold opF;simp[hw,hF]) rfl (by simp) (by simp) (by simp)
 ·have hie:i=c.length:=by omega
  subst hie hU;simp
def fewC (cs:List (List Int)):Prop:=cs.length≤500∧∀c∈cs,c.length≤1000
def failS (cs:List (List Int)) (l:List Int):Int:=idxS (fun c=>decide (clS l c=-1)) cs
theorem rf7fails_ok (cs:List (List Int)) (l:List Int) (hl:l.length≤1000000) (hc:fewC cs):APure Tryz.prog 107 [.seq false 1 (cs.map crowF),.seq false 1 (irow l)] (fun r=>r=.pv (I64 (failS cs l))):=by
 refine apure1 hmo Tryz.func107 (by kernel_rfl) rfl rfl (by kernel_rfl) (Nat.le_of_ble_eq_true rfl) ?_;simp;refine ALoop.intro (S:=fun(i:Nat)=>⟨[(0,.pv (.seq false 1 (cs.map crowF))),(1,.pv (.seq false 1 (irow l))),(5,.pv (I64 i))],[]⟩) (fun i=>i≤cs.length∧∀j (hj:j<cs.length),j<i→decide (clS l cs[j]=-1)=false) (fun i=>cs.length -i) 0 ?_ ⟨Nat.zero_le _,fun j _ h=>by omega⟩ ?_
 ·exact Weak.to (by simp) rfl (by simp) (by simp) (by simp)
 intro i ⟨hi,ho⟩;have:=hc.1
 by_cases h:i<cs.length
 ·have hw:w64 ((i:Int)+1)=((i+1:Nat):Int):=by rw[w64_id (by omega) (by omega)];omega
  have hci:=hc.2 _ (List.getElem_mem h);simp[h,crowF];refine CallK.intro (rf3Clause_ok l cs[i] hl (by omega)) (by simp) ?_;simp[h];refine⟨fun c1=>?_,fun c1=>⟨i+1,by(try dsimp only);omega,⟨by omega,fun j hj hji=>?_⟩,Weak.to (by simp[hw,crowF]) rfl (by simp) (by simp) (by simp)⟩⟩
  ·rw[failS,idxS_at h ho (by simpa using c1)]
  ·by_cases e:j=i
   ·subst e;simpa using c1
   ·simpa using ho j hj (by omega)
 ·simp[h];rw[failS,idxS_none (fun j hj=>ho j hj (by omega))]
def nextS (cs:List (List Int)) (l:List Int):Int×Int×Bool:=match cs.findIdx? (fun c=>(unitS l c).2)with
 |some i=>((unitS l (cs.getD i [])).1,i,true)
 |none=>(0,0,false)
theorem rf7next_ok (cs:List (List Int)) (l:List Int) (hl:l.length≤1000000) (hc:fewC cs):APure Tryz.prog 106 [.seq false 1 (cs.map crowF),.seq false 1 (irow l)] (fun r=>r=.pv (.tup [I64 (nextS cs l).1,I64 (nextS cs l).2.1,BL (nextS cs l).2.2])):=by
 refine apureN [4,5,6] hmo Tryz.func106 (by kernel_rfl) rfl (fun _ _=>results_tmp3 rfl _ _ _) (by kernel_rfl) (Nat.le_of_ble_eq_true rfl) ?_;simp;refine ALoop.intro (S:=fun(i:Nat)=>⟨[(0,.pv (.seq false 1 (cs.map crowF))),(1,.pv (.seq false 1 (irow l))),(7,.pv (I64 i))],[]⟩) (fun i=>i≤cs.length∧∀j (hj:j<cs.length),j<i→(unitS l cs[j]).2=false) (fun i=>cs.length -i) 0 ?_ ⟨Nat.zero_le _,fun j _ h=>by omega⟩ ?_
 ·exact Weak.to (by simp) rfl (by simp) (by simp) (by simp)
 intro i ⟨hi,ho⟩;have:=hc.1
 by_cases h:i<cs.length
 ·have hw:w64 ((i:Int)+1)=((i+1:Nat):Int):=by rw[w64_id (by omega) (by omega)];omega
  have hci:=hc.2 _ (List.getElem_mem h);simp[h,crowF];refine CallK.intro (rf3Unit_ok l cs[i] hl (by omega)) (by simp) ?_;simp[h];refine⟨fun c1=>?_,fun c1=>⟨i+1,by(try dsimp only);omega,⟨by omega,fun j hj hji=>?_⟩,Weak.to (by simp[hw,crowF]) rfl (by simp) (by simp) (by simp)⟩⟩
  ·have hf:cs.findIdx? (fun c=>(unitS l c).2)=some i:=by
    rw[List.findIdx?_eq_some_iff_getElem];exact⟨h,c1,fun j hj=>by simpa using ho j (by omega) hj⟩
   simp[nextS,hf,h]
  ·by_cases e:j=i
   ·subst e;simpa using c1
   ·simpa using ho j hj (by omega)
 ·have hf:cs.findIdx? (fun c=>(unitS l c).2)=none:=by
   rw[List.findIdx?_eq_none_iff];intro x hx;obtain⟨j,hj,rfl⟩:=List.mem_iff_getElem.1 hx;exact ho j hj (by omega)
  simp[h,nextS,hf]
def propF (cs:List (List Int)):Nat→List Int→List Int→List Int×List Int×Int
 |0,out,by'=>(out,by',-1)
 |k+1,out,by'=>if 0≤failS cs out then(out,by',failS cs out)else if(nextS cs out).2.2=false then(out,by',-1)else propF cs k (out++[(nextS cs out).1]) (by'++[(nextS cs out).2.1])
def mostP (cs:List (List Int)):Nat:=cs.foldl (fun n c=>n+c.length) 0
def propS (cs:List (List Int)) (l:List Int):List Int×List Int×Int:=propF cs (mostP cs+1) l []
theorem mostP_le {cs:List (List Int)} (hc:∀c∈cs,c.length≤1000):∀i,(cs.take i).foldl (fun n c=>n+c.length) 0≤1000*i:=by
 intro i
 induction i with
 |zero=>simp
 |succ i ih=>
  by_cases h:i<cs.length
  ·rw[foldl_take_succ _ _ _ _ h];have:=hc _ (List.getElem_mem h);omega
  ·rw[List.take_of_length_le (by omega)];rw[List.take_of_length_le (by omega)]at ih;omega
theorem propF_step (cs:List (List Int)) (k:Nat) (out by':List Int):propF cs (k+1) out by'=if 0≤failS cs out then(out,by',failS cs out)else if(nextS cs out).2.2=false then(out,by',-1)else propF cs k (out++[(nextS cs out).1]) (by'++[(nextS cs out).2.1]):=rfl
set_option maxRecDepth 16000 in
theorem rf7prop_ok (cs:List (List Int)) (l:List Int) (hl:l.length≤1000) (hc:fewC cs):APure Tryz.prog 102 [.seq false 1 (cs.map crowF),.seq false 1 (irow l)] (fun r=>r=.pv (.tup [.seq true 1 (irow (propS cs l).1),.seq true 1 (irow (propS cs l).2.1),I64 (propS cs l).2.2])):=by
 refine apureN [4,5,6] hmo Tryz.func102 (by kernel_rfl) rfl (fun _ _=>results_tmp3 rfl _ _ _) (by kernel_rfl) (Nat.le_of_ble_eq_true rfl) ?_;have hc1:=hc.1;have hm:=mostP_le hc.2;have hP:propF cs (mostP cs+1) l []=propS cs l:=rfl;have hmost:mostP cs=(cs.take cs.length).foldl (fun n c=>n+c.length) 0:=by rw[List.take_length];rfl
 simp;refine⟨by omega,?_⟩;refine ALoop.intro (S:=fun(i:Nat)=>⟨[(0,.pv (.seq false 1 (cs.map crowF))),(7,.own true 1 (irow l)),(8,.pv (.lit (.slice none 0 0))),(9,.pv (I64 (((cs.take i).foldl (fun n c=>n+c.length) 0:Nat):Int))),(10,.pv (I64 i))],[]⟩) (fun i=>i≤cs.length) (fun i=>cs.length -i) 0 ?_ (Nat.zero_le _) ?_
 ·exact Weak.to (by simp) rfl (by simp) (by simp) (by simp)
 intro i hi
 by_cases h:i<cs.length
 ·have hw:w64 ((i:Int)+1)=((i+1:Nat):Int):=by rw[w64_id (by omega) (by omega)];omega
  have hci:=hc.2 _ (List.getElem_mem h);have hmi:=hm i;have hF:=foldl_take_succ (fun n (c:List Int)=>n+c.length) 0 cs i h;generalize(cs.take i).foldl (fun n c=>n+c.length) 0=m at hF hmi⊢;have hw2:w64 ((m:Int)+cs[i].length)=((m+cs[i].length:Nat):Int):=by rw[w64_id (by omega) (by omega)];omega
  simp[h,crowF];exact⟨i+1,by(try dsimp only);omega,by(try dsimp only);omega,Weak.to (by simp[hw,hw2,hF,crowF]) rfl (by simp) (by simp) (by simp)⟩
 have hie:i=cs.length:=by omega
 subst hie;have hmi:=hm cs.length;rw[←hmost]at hmi⊢;generalize hmp:mostP cs=m at*;generalize propS cs l=R at*;simp;refine ALoop.intro (S:=fun(y:Nat×List Int×List Int)=>⟨[(0,.pv (.seq false 1 (cs.map crowF))),(7,.own true 1 (irow y.2.1)),(8,.own true 1 (irow y.2.2)),(9,.pv (I64 m)),(11,.pv (I64 y.1))],[]⟩) (fun y=>y.1≤m+1∧y.2.1.length=l.length+y.1∧y.2.2.length=y.1∧propF cs (m+1 -y.1) y.2.1 y.2.2=R) (fun y=>m+2 -y.1) (0,l,[]) ?_ ⟨Nat.zero_le _,rfl,rfl,hP⟩ ?_
 ·exact(Weak.nilOwn (s:=8) 1 true (by simp)).trans (Weak.to (by simp[irow]) rfl (by simp) (by simp) (by simp))
 rintro⟨n,out,by'⟩ ⟨j1,j2,j3,j4⟩;dsimp only at j1 j2 j3 j4
 by_cases h:n≤m
 ·have hw:w64 ((n:Int)+1)=((n+1:Nat):Int):=by rw[w64_id (by omega) (by omega)];omega
  rw[show m+1 -n=(m -n)+1 by omega,propF_step]at j4;simp[h];refine CallK.intro (rf7fails_ok cs out (by omega) hc) (by simp) ?_
  by_cases c1:0≤failS cs out
  ·rw[if_pos c1]at j4;subst j4;simp[c1]
  rw[if_neg c1]at j4;simp[c1];refine CallK.intro (rf7next_ok cs out (by omega) hc) (by simp) ?_
  by_cases c2:(nextS cs out).2.2=false
  ·rw[if_pos c2]at j4;subst j4;simp[c2]
  rw[if_neg c2]at j4;have c2':(nextS cs out).2.2=true:=by simpa using c2
  simp[c2'];refine⟨by omega,by omega,(n+1,out++[(nextS cs out).1],by'++[(nextS cs out).2.1]),by(try dsimp only);omega,⟨by dsimp only;omega,by simp;omega,by simp;omega,by dsimp only;rw[show m+1 -(n+1)=m -n by omega];exact j4⟩,Weak.to (by simp[hw,irow]) rfl (by simp) (by simp) (by simp)⟩
 ·rw[show m+1 -n=0 by omega]at j4;subst j4;have:¬(n:Int)≤m:=by omega
  simp[this,propF]
end Go.AX