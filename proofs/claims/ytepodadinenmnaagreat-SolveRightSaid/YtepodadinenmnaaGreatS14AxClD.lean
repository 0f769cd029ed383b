/-
  Contracts: what a clause has; both sides of a variable; parts.
-/
import Derived.Test.YtepodadinenmnaaGreatS14AxDfD
import Derived.Test.YtepodadinenmnaaGreatS14AxEvC
namespace Go.AX
open Go.Proofs
set_option linter.unusedSimpArgs false
def lA(c:List Int)(n:Int):Bool:=cX n&&decide (n∈c)
def bS(l:List Int):Nat->List (Int×Int)
 |0=>[]
 |i+1=>if cX (l.getD i 0)=true then pt (bS l i) (l.getD i 0) ((lk (bS l i) (l.getD i 0)).getD 0+1)else bS l i
theorem xv(l:List Int)(x:Int):∀n,n<=l.length->(lk (bS l n) x).getD 0=if cX x=true then((l.take n).count x:Int)else 0
 |0,_=>by simp[bS,lk]
 |n+1,h=>by
  have a:=xv l x n (by omega);have b:l.getD n 0=l[n]:=by simp[show n<l.length by omega]
  rw[bS,b,T4,SH (by omega),UG,List.count_append,List.count_singleton]
  by_cases c:cX l[n]=true
  .rw[SN c,bJ]
   by_cases e:l[n]=x
   .rw[SN e,e,a];rw[e]at c;simp[c]
   .rw[SM e,a];simp[e]
  .rw[SM c,a]
   by_cases e:l[n]=x
   .rw[e]at c;simp[c]
   .simp[e]
theorem HR(l:List Int)(x:Int):∀n,n<=l.length->(lk (bS l n) x).getD 0<=(n:Int)∧0<=(lk (bS l n) x).getD 0:=by
 intro n h;rw[xv l x n h];have:=List.count_le_length (a:=x) (l:=l.take n);rw[SU]at this;split<;>omega
theorem mI(n:Int):(0<af n)=(cX n=true):=by
 apply propext;have:=a8 n;unfold af fp;constructor
 .intro h;split at h
  .assumption
  .omega
 .intro h;obtain⟨h1,a,b⟩:=this.1 h;rw[SN h];split<;>omega
theorem jX(n:Int):(af n=0)=(cX n=false):=by
 have h:=mI n;apply propext;cases c:cX n
 .unfold af;simp[c]
 .have:0<af n:=by rw[h];exact c
  constructor
  .intro a;omega
  .intro a;cases a
theorem gP(n:Int):(0<=aX n)=(cX n=true):=by
 apply propext;have:=a8 n;unfold aX fp;constructor
 .intro h;split at h
  .assumption
  .omega
 .intro h;obtain⟨h1,a,b⟩:=this.1 h;rw[SN h];split<;>omega
theorem tn(n:Int):(aX n<0)=(cX n=false):=by
 have h:=gP n;apply propext;cases c:cX n
 .rw[c]at h;simp at h;simp;omega
 .have:0<=aX n:=by rw[h];exact c
  simp;omega
theorem HT(l:List Int)(x:Int):(0<(lk (bS l l.length) x).getD 0)=(lA l x=true):=by
 rw[xv l x l.length (SQ _),Tw];unfold lA;apply propext;cases cX x
 .simp
 .simp[List.count_pos_iff]
theorem DN(l:List Int)(g:l.length<=1000000):ak Tryz.prog 205 [.seq false 1 (ae l)] (λr=>r=.omap true (aG fI (bS l l.length))):=by
 refine ap aC Tryz.func205 ?_;simp;refine aF.intro (S:=λ(i:Nat)=>⟨[(3,.omap true (aG fI (bS l i))),(9,.pv (.seq false 1 (ae l))),(10,.pv (ab l.length)),(11,.pv (ab i))],[]⟩) (λi=>i<=l.length) (λi=>l.length -i) 0 ?_ (Te _) ?_
 .exact ai.to (by simp[bS]) rfl (by simp) (by simp) (by simp)
 .intro i hi
  by_cases c:i<l.length
  .have b:=dZ i;have e:l.getD i 0=l[i]:=by simp[c]
   have hs:bS l (i+1)=if cX l[i]=true then pt (bS l i) l[i] ((lk (bS l i) l[i]).getD 0+1)else bS l i:=by rw[bS,e]
   have f:=HR l l[i] i (by omega);have a:aY ((lk (bS l i) l[i]).getD 0+1)=(lk (bS l i) l[i]).getD 0+1:=ao (by omega) (by omega);simp[c];refine ah.intro (aI _) ?_;simp[mI]
   by_cases d:cX l[i]=true
   .rw[SN d]at hs;simp[d];exact⟨i+1,by(try dsimp only);omega,by(try dsimp only);omega,ai.to (by simp[b,a,hs]) rfl (by simp) (by simp) (by simp)⟩
   .rw[SM d]at hs;simp[d];exact⟨i+1,by(try dsimp only);omega,by(try dsimp only);omega,ai.to (by simp[b,hs]) rfl (by simp) (by simp) (by simp)⟩
  .have:i=l.length:=by omega
   subst this;simp
theorem HU(l:List Int)(n:Int)(a:l.length<=140737488355328):ak Tryz.prog 288 [.seq false 1 (ae l),ab n] (λr=>r=.pv (BL (lA l n))):=by
 refine ap aC Tryz.func288 ?_;simp;refine ah.intro (aI _) ?_;simp[mI];refine aV.intro (λ_=>eF l n a) ?_;cases h:cX n<;>simp[lA,h]
def i8(l:List Int):Bool:=l.any λx=>lA l x&&lA l (-x)
theorem Lm(n:Int):cX (-n)=cX n:=by
 rw[Xu,a8,a8];omega
theorem HV(l:List Int)(x:Int):ak Tryz.prog 206 [ab x,.iptr 1 [[.amap false (aG fI (bS l l.length))]] 0 0] (λr=>r=.pv (BL (lA l x&&lA l (-x)))):=by
 refine ap aC Tryz.func206 ?_;simp[HT]
 by_cases c:cX x=true
 .obtain⟨h1,b,d⟩:=(a8 x).1 c;have a:aY (-x)=-x:=ao (by omega) (by omega);simp[a]
 .have:lA l x=false:=by unfold lA;simp[c]
  simp[this]
theorem xw(l:List Int)(a:l.length<=1000000):ak Tryz.prog 125 [.seq false 1 (ae l)] (λr=>r=.pv (BL (i8 l))):=by
 refine ap aC Tryz.func125 ?_;have h:=dQ l a 206 [.iptr 1 [[.amap false (aG fI (bS l l.length))]] 0 0] (λx=>lA l x&&lA l (-x)) (λr=>by simp) (by simp) (λk=>by simp) (λx _=>HV l x);simp;refine ah.intro (DN l a) ?_;simp;simp[aZ,frzC];refine ah.intro h ?_;simp[i8]
end Go.AX