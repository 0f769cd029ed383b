/-
  Contracts: what a clause has; both sides of a variable; parts.
-/
import Derived.Test.YthfhellfmbllhaaGreatS12AxClC
import Derived.Test.YthfhellfmbllhaaGreatS12AxEvC
namespace Go.AX
open Go.Proofs
set_option linter.unusedSimpArgs false
def hasS (c:List Int) (n:Int):Bool:=okL n&&decide (n∈c)
def seenTo (l:List Int):Nat→List (Int×Int)
 |0=>[]
 |i+1=>if okL (l.getD i 0)=true then pt (seenTo l i) (l.getD i 0) ((lk (seenTo l i) (l.getD i 0)).getD 0+1)else seenTo l i
theorem lk_seen (l:List Int) (x:Int):∀n,n≤l.length→(lk (seenTo l n) x).getD 0=if okL x=true then((l.take n).count x:Int)else 0
 |0,_=>by simp[seenTo,lk]
 |n+1,h=>by
  have ih:=lk_seen l x n (by omega);have hg:l.getD n 0=l[n]:=by simp[show n<l.length by omega]
  rw[seenTo,hg,List.take_add_one,List.getElem?_eq_getElem (by omega),Option.toList_some,List.count_append,List.count_singleton]
  by_cases c:okL l[n]=true
  ·rw[if_pos c,lk_pt]
   by_cases e:l[n]=x
   ·rw[if_pos e,e,ih];rw[e]at c;simp[c]
   ·rw[if_neg e,ih];simp[e]
  ·rw[if_neg c,ih]
   by_cases e:l[n]=x
   ·rw[e]at c;simp[c]
   ·simp[e]
theorem seen_len (l:List Int) (x:Int):∀n,n≤l.length→(lk (seenTo l n) x).getD 0≤(n:Int)∧0≤(lk (seenTo l n) x).getD 0:=by
 intro n h;rw[lk_seen l x n h];have:=List.count_le_length (a:=x) (l:=l.take n);rw[List.length_take]at this;split<;>omega
theorem litV_pos (n:Int):(0<litV n)=(okL n=true):=by
 apply propext;have:=okL_iff n;unfold litV absS;constructor
 ·intro h;split at h
  ·assumption
  ·omega
 ·intro h;obtain⟨h1,h2,h3⟩:=this.1 h;rw[if_pos h];split<;>omega
theorem litX_nn (n:Int):(0≤litX n)=(okL n=true):=by
 apply propext;have:=okL_iff n;unfold litX absS;constructor
 ·intro h;split at h
  ·assumption
  ·omega
 ·intro h;obtain⟨h1,h2,h3⟩:=this.1 h;rw[if_pos h];split<;>omega
theorem seen_ok (l:List Int) (hl:l.length≤1000000):APure Tryz.prog 132 [.seq false 1 (irow l)] (fun r=>r=.omap true (mapE fI (seenTo l l.length))):=by
 refine apure1 hmo Tryz.func132 (by kernel_rfl) rfl rfl (by kernel_rfl) (Nat.le_of_ble_eq_true rfl) ?_;simp;refine ALoop.intro (S:=fun(i:Nat)=>⟨[(3,.omap true (mapE fI (seenTo l i))),(9,.pv (.seq false 1 (irow l))),(10,.pv (I64 l.length)),(11,.pv (I64 i))],[]⟩) (fun i=>i≤l.length) (fun i=>l.length -i) 0 ?_ (Nat.zero_le _) ?_
 ·exact Weak.to (by simp[seenTo]) rfl (by simp) (by simp) (by simp)
 ·intro i hi
  by_cases c:i<l.length
  ·have hw:w64 ((i:Int)+1)=((i+1:Nat):Int):=by rw[w64_id (by omega) (by omega)];omega
   have hg:l.getD i 0=l[i]:=by simp[c]
   have hs:seenTo l (i+1)=if okL l[i]=true then pt (seenTo l i) l[i] ((lk (seenTo l i) l[i]).getD 0+1)else seenTo l i:=by rw[seenTo,hg]
   have hb:=seen_len l l[i] i (by omega);have hw2:w64 ((lk (seenTo l i) l[i]).getD 0+1)=(lk (seenTo l i) l[i]).getD 0+1:=w64_id (by omega) (by omega);simp[c];refine CallK.intro (litVar_ok _) (by simp) ?_;simp[litV_pos]
   by_cases d:okL l[i]=true
   ·rw[if_pos d]at hs;simp[d];exact⟨i+1,by(try dsimp only);omega,by(try dsimp only);omega,Weak.to (by simp[hw,hw2,hs]) rfl (by simp) (by simp) (by simp)⟩
   ·rw[if_neg d]at hs;simp[d];exact⟨i+1,by(try dsimp only);omega,by(try dsimp only);omega,Weak.to (by simp[hw,hs]) rfl (by simp) (by simp) (by simp)⟩
  ·have:i=l.length:=by omega
   subst this;simp
theorem refHas2_ok (l:List Int) (n:Int) (hl:l.length≤140737488355328):APure Tryz.prog 105 [.seq false 1 (irow l),I64 n] (fun r=>r=.pv (BL (hasS l n))):=by
 refine apure1 hmo Tryz.func105 (by kernel_rfl) rfl rfl (by kernel_rfl) (Nat.le_of_ble_eq_true rfl) ?_;simp;refine CallK.intro (refIndex_ok _) (by simp) ?_;simp[litX_nn];refine CallG.intro (fun _=>refHas_ok l n hl) (by simp) ?_;cases h:okL n<;>simp[hasS,h]
theorem okL_neg (n:Int):okL (-n)=okL n:=by
 rw[Bool.eq_iff_iff,okL_iff,okL_iff];omega
def subS (a b:List Int):Bool:=a.all fun x=>!okL x||hasS b x
theorem refSubset_ok (a b:List Int) (ha:a.length≤1000000) (hl:b.length≤1000000):APure Tryz.prog 54 [.seq false 1 (irow a),.seq false 1 (irow b)] (fun r=>r=.pv (BL (subS a b))):=by
 refine apure1 hmo Tryz.func54 (by kernel_rfl) rfl rfl (by kernel_rfl) (Nat.le_of_ble_eq_true rfl) ?_;simp;refine ALoop.intro (S:=fun(i:Nat)=>⟨[(0,.pv (.seq false 1 (irow a))),(1,.pv (.seq false 1 (irow b))),(5,.pv (I64 i))],[]⟩) (fun i=>i≤a.length∧∀j (h:j<a.length),j<i→(!okL a[j]||hasS b a[j])=true) (fun i=>a.length -i) 0 ?_ ⟨Nat.zero_le _,fun j _ h=>by omega⟩ ?_
 ·exact Weak.to (by simp) rfl (by simp) (by simp) (by simp)
 ·rintro i ⟨hi,ho⟩
  by_cases c:i<a.length
  ·have hw:w64 ((i:Int)+1)=((i+1:Nat):Int):=by rw[w64_id (by omega) (by omega)];omega
   simp[c];refine CallK.intro (refHas2_ok a a[i] (by omega)) (by simp) ?_;simp[c];refine CallG.intro (r:=.pv (BL (hasS b a[i]))) (fun _=>refHas2_ok b _ (by omega)) (by simp) ?_;have h1:hasS a a[i]=okL a[i]:=by unfold hasS;simp
   simp[h1]
   by_cases e:(!okL a[i]||hasS b a[i])=true
   ·simp at e;refine⟨fun h1 h2=>?_,fun _=>⟨i+1,by dsimp only;omega,⟨by omega,fun j h1 h2=>?_⟩,Weak.to (by simp[hw]) rfl (by simp) (by simp) (by simp)⟩⟩
    ·rcases e with e|e
     ·rw[h1]at e;cases e
     ·rw[h2]at e;cases e
    ·by_cases ej:j=i
     ·subst ej;simpa using e
     ·simpa using ho j h1 (by omega)
   ·have hT:subS a b=false:=by
     rw[←Bool.not_eq_true];intro h;exact e (List.all_eq_true.1 h _ (List.getElem_mem c))
    simp at e;simp[e,hT]
  ·have:i=a.length:=by omega
   subst this;simp;refine List.all_eq_true.2 fun x hx=>?_;obtain⟨j,hj,rfl⟩:=List.getElem_of_mem hx;exact ho j hj hj
end Go.AX