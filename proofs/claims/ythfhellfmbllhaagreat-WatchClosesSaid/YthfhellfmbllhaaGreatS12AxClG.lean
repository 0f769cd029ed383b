/-
  Contracts: clause.Norm.
  Contracts: clause.Check, Without, Resolve.
-/
import Derived.Test.YthfhellfmbllhaaGreatS12AxClD
import Derived.Test.YthfhellfmbllhaaGreatS12AxShelf
import Derived.Test.YthfhellfmbllhaaGreatAxIs
import Derived.Test.YthfhellfmbllhaaGreatAxDr
import Derived.Sort.Grow
import Derived.Shelf.SlSortCmp.Insertion
namespace Go.AX
open Go.Proofs
set_option linter.unusedSimpArgs false
abbrev Lit:={n:Int//okL n=true}
instance:Inhabited Lit:=⟨⟨1,rfl⟩⟩
def dupTo (l:List Int):Nat→Nat
 |0=>0
 |i+1=>dupTo l i+if l.getD i 0∈l.take i then 1 else 0
theorem dupTo_mono (l:List Int) {i:Nat}:∀n,i≤n→dupTo l i≤dupTo l n
 |0,h=>by
  have:i=0:=by omega
  subst this;exact Nat.le_refl _
 |n+1,h=>by
  by_cases e:i=n+1
  ·subst e;exact Nat.le_refl _
  ·have:=dupTo_mono (i:=i) l n (by omega);rw[dupTo];omega
theorem pt_len {α:Type}:∀(l:List (Int×α)) (k:Int) (y:α),(pt l k y).length=l.length+if(lk l k).isNone=true then 1 else 0
 |[],k,y=>by simp[pt,lk]
 |(j,x)::r,k,y=>by
  have ih:=pt_len r k y;rw[pt,lk]
  by_cases e:j=k
  ·rw[if_pos e,if_pos e];simp
  ·rw[if_neg e,if_neg e,List.length_cons,ih,List.length_cons];omega
theorem lk_seen_none (l:List Int) (x:Int):∀n,n≤l.length→((lk (seenTo l n) x).isNone=true↔¬(okL x=true∧x∈l.take n))
 |0,_=>by simp[seenTo,lk]
 |n+1,h=>by
  have ih:=lk_seen_none l x n (by omega);have hg:l.getD n 0=l[n]:=by simp[show n<l.length by omega]
  rw[seenTo,hg,List.take_add_one,List.getElem?_eq_getElem (by omega),Option.toList_some,List.mem_append,List.mem_singleton]
  by_cases c:okL l[n]=true
  ·rw[if_pos c,lk_pt]
   by_cases e:l[n]=x
   ·rw[if_pos e];subst e;simp[c]
   ·rw[if_neg e,ih];have e':¬x=l[n]:=fun h=>e h.symm;simp[e']
  ·rw[if_neg c,ih]
   by_cases e:l[n]=x
   ·subst e;simp[c]
   ·have e':¬x=l[n]:=fun h=>e h.symm;simp[e']
theorem seen_dup (l:List Int) (hok:∀x∈l,okL x=true):∀n,n≤l.length→(seenTo l n).length+dupTo l n=n
 |0,_=>rfl
 |n+1,h=>by
  have ih:=seen_dup l hok n (by omega);have hg:l.getD n 0=l[n]:=by simp[show n<l.length by omega]
  have hl:=hok _ (List.getElem_mem (show n<l.length by omega));have hn:=lk_seen_none l l[n] n (by omega);rw[seenTo,dupTo,hg,if_pos hl,pt_len]
  by_cases e:l[n]∈l.take n
  ·rw[if_pos e,if_neg (fun h=>hn.1 h ⟨hl,e⟩)];omega
  ·rw[if_neg e,if_pos (hn.2 fun h=>e h.2)];omega
def chkC (l:List Int) (m:Int):Int:=
 if m<0∨100000<m then 2 else if 1000<l.length then 3 else if(l.all fun x=>inS x m)=false then 10 else if dupTo l l.length=0 then 0 else 21
theorem inS_ok {x m:Int} (h:m≤100000) (hi:inS x m=true):okL x=true:=by
 unfold inS at hi;simp at hi;exact(okL_iff x).2 (by omega)
theorem clCheck_ok (l:List Int) (m:Int) (hl:l.length≤140737488355328):APure Tryz.prog 81 [.seq false 1 (irow l),I64 m] (fun r=>r=.pv (I64 (chkC l m))):=by
 refine apure1 hmo Tryz.func81 (by kernel_rfl) rfl rfl (by kernel_rfl) (Nat.le_of_ble_eq_true rfl) ?_
 by_cases c1:m<0
 ·simp[c1,chkC]
 by_cases c2:100000<m
 ·simp[c1,c2,chkC]
 by_cases c3:1000<l.length
 ·have c3':1000<(l.length:Int):=by omega
  simp[c1,c2,c3,c3',chkC]
 have c3':¬1000<(l.length:Int):=by omega
 have hL:∀n,litChk n m=if inS n m=true then 0 else 10:=fun n=>by unfold litChk;rw[if_neg (by omega)]
 simp[c1,c2,c3,c3'];refine ALoop.intro (S:=fun(i:Nat)=>⟨[(0,.pv (.seq false 1 (irow l))),(1,.pv (I64 m)),(19,.pv (.seq false 1 (irow l))),(20,.pv (I64 l.length)),(21,.pv (I64 i))],[]⟩) (fun i=>i≤l.length∧∀j (h:j<l.length),j<i→inS l[j] m=true) (fun i=>l.length -i) 0 ?_ ⟨Nat.zero_le _,fun j _ h=>by omega⟩ ?_
 ·exact Weak.to (by simp) rfl (by simp) (by simp) (by simp)
 ·rintro i ⟨hi,ho⟩
  by_cases c:i<l.length
  ·have hw:w64 ((i:Int)+1)=((i+1:Nat):Int):=by rw[w64_id (by omega) (by omega)];omega
   simp[c];refine CallK.intro (litCheck_ok _ _) (by simp) ?_;simp[hL]
   by_cases d:inS l[i] m=true
   ·simp[d];refine⟨i+1,by(try dsimp only);omega,⟨by omega,fun j h1 h2=>?_⟩,Weak.to (by simp[hw]) rfl (by simp) (by simp) (by simp)⟩
    by_cases e:j=i
    ·subst e;exact d
    ·exact ho j h1 (by omega)
   ·have hall:(l.all fun x=>inS x m)=false:=by
     rw[←Bool.not_eq_true];intro h;exact d (List.all_eq_true.1 h _ (List.getElem_mem c))
    simp[d,chkC,c1,c2,c3,hall]
  ·have:i=l.length:=by omega
   subst this;have hall:(l.all fun x=>inS x m)=true:=List.all_eq_true.2 fun x hx=>by
    obtain⟨j,hj,rfl⟩:=List.getElem_of_mem hx;exact ho j hj hj
   have hsd:=seen_dup l (fun x hx=>inS_ok (by omega) (List.all_eq_true.1 hall x hx)) l.length (Nat.le_refl _);have hml:(mapE fI (seenTo l l.length)).length=(seenTo l l.length).length:=by unfold mapE;simp
   simp;refine CallK.intro (seen_ok l (by omega)) (by simp) ?_;simp[hml]
   by_cases d:dupTo l l.length=0
   ·have:¬(seenTo l l.length).length<l.length:=by omega
    simp[this,chkC,c1,c2,c3,hall,d]
   ·have:(seenTo l l.length).length<l.length:=by omega
    simp[this,chkC,c1,c2,c3,hall,d]
theorem refClCheck_ok (l:List Int) (m:Int) (hl:l.length≤140737488355328):APure Tryz.prog 96 [.seq false 1 (irow l),I64 m] (fun r=>r=.pv (I64 (chkC l m))):=by
 refine apure1 hmo Tryz.func96 (by kernel_rfl) rfl rfl (by kernel_rfl) (Nat.le_of_ble_eq_true rfl) ?_
 by_cases c1:m<0
 ·simp[c1,chkC]
 by_cases c2:100000<m
 ·simp[c1,c2,chkC]
 by_cases c3:1000<l.length
 ·have c3':1000<(l.length:Int):=by omega
  simp[c1,c2,c3,c3',chkC]
 have c3':¬1000<(l.length:Int):=by omega
 have hL:∀n,litChk n m=if inS n m=true then 0 else 10:=fun n=>by unfold litChk;rw[if_neg (by omega)]
 simp[c1,c2,c3,c3'];refine ALoop.intro (S:=fun(i:Nat)=>⟨[(0,.pv (.seq false 1 (irow l))),(1,.pv (I64 m)),(5,.pv (I64 i))],[]⟩) (fun i=>i≤l.length∧∀j (h:j<l.length),j<i→inS l[j] m=true) (fun i=>l.length -i) 0 ?_ ⟨Nat.zero_le _,fun j _ h=>by omega⟩ ?_
 ·exact Weak.to (by simp) rfl (by simp) (by simp) (by simp)
 ·rintro i ⟨hi,ho⟩
  by_cases c:i<l.length
  ·have hw:w64 ((i:Int)+1)=((i+1:Nat):Int):=by rw[w64_id (by omega) (by omega)];omega
   simp[c];refine CallK.intro (refLitChk_ok _ _) (by simp) ?_;simp[hL]
   by_cases d:inS l[i] m=true
   ·simp[d];refine⟨i+1,by(try dsimp only);omega,⟨by omega,fun j h1 h2=>?_⟩,Weak.to (by simp[hw]) rfl (by simp) (by simp) (by simp)⟩
    by_cases e:j=i
    ·subst e;exact d
    ·exact ho j h1 (by omega)
   ·have hall:(l.all fun x=>inS x m)=false:=by
     rw[←Bool.not_eq_true];intro h;exact d (List.all_eq_true.1 h _ (List.getElem_mem c))
    simp[d,chkC,c1,c2,c3,hall]
  ·have:i=l.length:=by omega
   subst this;have hall:(l.all fun x=>inS x m)=true:=List.all_eq_true.2 fun x hx=>by
    obtain⟨j,hj,rfl⟩:=List.getElem_of_mem hx;exact ho j hj hj
   simp;refine ALoop.intro (S:=fun(i:Nat)=>⟨[(0,.pv (.seq false 1 (irow l))),(6,.pv (I64 i))],[]⟩) (fun i=>i≤l.length∧dupTo l i=0) (fun i=>l.length -i) 0 ?_ ⟨Nat.zero_le _,rfl⟩ ?_
   ·exact Weak.to (by simp) rfl (by simp) (by simp) (by simp)
   ·rintro i ⟨hi,hz⟩
    by_cases c:i<l.length
    ·have hw:w64 ((i:Int)+1)=((i+1:Nat):Int):=by rw[w64_id (by omega) (by omega)];omega
     have hg:l.getD i 0=l[i]:=by simp[c]
     have hd:dupTo l (i+1)=if l[i]∈l.take i then 1 else 0:=by rw[dupTo,hz,hg,Nat.zero_add]
     have ht:List.take i (irow l)=irow (l.take i):=by simp[irow,List.map_take]
     have hk:=refHas_ok (l.take i) l[i] (by rw[List.length_take];omega);have hi2:i≤l.length:=hi;simp[c,hi2,ht];refine CallQ0.intro hk (by simp) ?_;simp;refine⟨fun h=>?_,fun h=>⟨i+1,by(try dsimp only);omega,⟨by(try dsimp only);omega,by(try dsimp only);rw[hd,if_neg h]⟩,Weak.to (by simp[hw]) rfl (by simp) (by simp) (by simp)⟩⟩;rw[if_pos h]at hd;have:=dupTo_mono (i:=i+1) l l.length (by omega);have hne:¬dupTo l l.length=0:=by omega
     simp[chkC,c1,c2,c3,hall,hne]
    ·have:i=l.length:=by omega
     subst this;simp[chkC,c1,c2,c3,hall,hz]
end Go.AX