/-
  Contracts: what a clause has; both sides of a variable; parts.
-/
import Derived.Test.YtepodadinenmnaaGreatS14AxDfD
import Derived.Test.YtepodadinenmnaaGreatS14AxEvC
namespace Go.AX
open Go.Proofs
set_option linter.unusedSimpArgs false
def mL(c:List Int)(n:Int):Bool:=da n&&decide (n∈c)
def bA(l:List Int):Nat→List (Int×Int)
 |0=>[]
 |i+1=>if da (l.getD i 0)=true then pt (bA l i) (l.getD i 0) ((lk (bA l i) (l.getD i 0)).getD 0+1)else bA l i
theorem un(l:List Int)(x:Int):∀n,n≤l.length→(lk (bA l n) x).getD 0=if da x=true then((l.take n).count x:Int)else 0
 |0,_=>by simp[bA,lk]
 |n+1,h=>by
  have ih:=un l x n (by omega);have hg:l.getD n 0=l[n]:=by simp[show n<l.length by omega]
  rw[bA,hg,List.take_add_one,List.getElem?_eq_getElem (by omega),Option.toList_some,List.count_append,List.count_singleton]
  by_cases c:da l[n]=true
  ·rw[if_pos c,bz]
   by_cases e:l[n]=x
   ·rw[if_pos e,e,ih];rw[e]at c;simp[c]
   ·rw[if_neg e,ih];simp[e]
  ·rw[if_neg c,ih]
   by_cases e:l[n]=x
   ·rw[e]at c;simp[c]
   ·simp[e]
theorem Dv(l:List Int)(x:Int):∀n,n≤l.length→(lk (bA l n) x).getD 0≤(n:Int)∧0≤(lk (bA l n) x).getD 0:=by
 intro n h;rw[un l x n h];have:=List.count_le_length (a:=x) (l:=l.take n);rw[List.length_take]at this;split<;>omega
theorem qF(n:Int):(0<ab n)=(da n=true):=by
 apply propext;have:=bj n;unfold ab eF;constructor
 ·intro h;split at h
  ·assumption
  ·omega
 ·intro h;obtain⟨h1,h2,h3⟩:=this.1 h;rw[if_pos h];split<;>omega
theorem Bu(n:Int):(ab n=0)=(da n=false):=by
 have h:=qF n;apply propext;cases c:da n
 ·unfold ab;simp[c]
 ·have:0<ab n:=by rw[h];exact c
  constructor
  ·intro h2;omega
  ·intro h2;cases h2
theorem uo(n:Int):(0≤bi n)=(da n=true):=by
 apply propext;have:=bj n;unfold bi eF;constructor
 ·intro h;split at h
  ·assumption
  ·omega
 ·intro h;obtain⟨h1,h2,h3⟩:=this.1 h;rw[if_pos h];split<;>omega
theorem Dw(l:List Int)(x:Int):(0<(lk (bA l l.length) x).getD 0)=(mL l x=true):=by
 rw[un l x l.length (Nat.le_refl _),List.take_length];unfold mL;apply propext;cases da x
 ·simp
 ·simp[List.count_pos_iff]
theorem Aa(l:List Int)(hl:l.length≤1000000):ao Tryz.prog 205 [.seq false 1 (af l)] (fun r=>r=.omap true (aT fI (bA l l.length))):=by
 refine aw aG Tryz.func205 (by kernel_rfl) rfl rfl (by kernel_rfl) (Nat.le_of_ble_eq_true rfl) ?_;simp;refine aH.intro (S:=fun(i:Nat)=>⟨[(3,.omap true (aT fI (bA l i))),(9,.pv (.seq false 1 (af l))),(10,.pv (ae l.length)),(11,.pv (ae i))],[]⟩) (fun i=>i≤l.length) (fun i=>l.length -i) 0 ?_ (Nat.zero_le _) ?_
 ·exact aj.to (by simp[bA]) rfl (by simp) (by simp) (by simp)
 ·intro i hi
  by_cases c:i<l.length
  ·have hw:aM ((i:Int)+1)=((i+1:Nat):Int):=by rw[ah (by omega) (by omega)];omega
   have hg:l.getD i 0=l[i]:=by simp[c]
   have hs:bA l (i+1)=if da l[i]=true then pt (bA l i) l[i] ((lk (bA l i) l[i]).getD 0+1)else bA l i:=by rw[bA,hg]
   have hb:=Dv l l[i] i (by omega);have hw2:aM ((lk (bA l i) l[i]).getD 0+1)=(lk (bA l i) l[i]).getD 0+1:=ah (by omega) (by omega);simp[c];refine am.intro (aD _) (by simp) ?_;simp[qF]
   by_cases d:da l[i]=true
   ·rw[if_pos d]at hs;simp[d];exact⟨i+1,by(try dsimp only);omega,by(try dsimp only);omega,aj.to (by simp[hw,hw2,hs]) rfl (by simp) (by simp) (by simp)⟩
   ·rw[if_neg d]at hs;simp[d];exact⟨i+1,by(try dsimp only);omega,by(try dsimp only);omega,aj.to (by simp[hw,hs]) rfl (by simp) (by simp) (by simp)⟩
  ·have:i=l.length:=by omega
   subst this;simp
theorem Iq(l:List Int)(n:Int)(hl:l.length≤140737488355328):ao Tryz.prog 288 [.seq false 1 (af l),ae n] (fun r=>r=.pv (BL (mL l n))):=by
 refine aw aG Tryz.func288 (by kernel_rfl) rfl rfl (by kernel_rfl) (Nat.le_of_ble_eq_true rfl) ?_;simp;refine am.intro (aD _) (by simp) ?_;simp[qF];refine bY.intro (fun _=>ir l n hl) (by simp) ?_;cases h:da n<;>simp[mL,h]
def sM(l:List Int):Bool:=l.any fun x=>mL l x&&mL l (-x)
theorem Gv(n:Int):da (-n)=da n:=by
 rw[Bool.eq_iff_iff,bj,bj];omega
theorem Dx(l:List Int)(x:Int):ao Tryz.prog 206 [ae x,.iptr 1 [[.amap false (aT fI (bA l l.length))]] 0 0] (fun r=>r=.pv (BL (mL l x&&mL l (-x)))):=by
 refine aw aG Tryz.func206 (by kernel_rfl) rfl rfl (by kernel_rfl) (Nat.le_of_ble_eq_true rfl) ?_;simp[Dw]
 by_cases c:da x=true
 ·obtain⟨h1,h2,h3⟩:=(bj x).1 c;have hw:aM (-x)=-x:=ah (by omega) (by omega);simp[hw]
 ·have:mL l x=false:=by unfold mL;simp[c]
  simp[this]
theorem Gw(l:List Int)(hl:l.length≤1000000):ao Tryz.prog 125 [.seq false 1 (af l)] (fun r=>r=.pv (BL (sM l))):=by
 refine aw aG Tryz.func125 (by kernel_rfl) rfl rfl (by kernel_rfl) (Nat.le_of_ble_eq_true rfl) ?_;have h:=ff l hl 206 [.iptr 1 [[.amap false (aT fI (bA l l.length))]] 0 0] (fun x=>mL l x&&mL l (-x)) (fun r=>by simp) (by simp) (fun k=>by simp) (fun x _=>Dx l x);simp;refine am.intro (Aa l hl) (by simp) ?_;simp;simp[bq,frzC];refine am.intro h (by simp) ?_;simp[sM]
end Go.AX