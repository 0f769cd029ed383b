/-
  Contracts: what a clause has; both sides of a variable; parts.
-/
import Derived.Test.YtepodadinenmnaaGreatS14AxDfD
import Derived.Test.YtepodadinenmnaaGreatS14AxEvC
namespace Go.AX
open Go.Proofs
set_option linter.unusedSimpArgs false
def l7(c:List Int)(n:Int):Bool:=da n&&decide (n∈c)
def bE(l:List Int):Nat->List (Int×Int)
 |0=>[]
 |i+1=>if da (l.getD i 0)=true then pt (bE l i) (l.getD i 0) ((lk (bE l i) (l.getD i 0)).getD 0+1)else bE l i
theorem uq(l:List Int)(x:Int):∀n,n<=l.length->(lk (bE l n) x).getD 0=if da x=true then((l.take n).count x:Int)else 0
 |0,_=>by simp[bE,lk]
 |n+1,h=>by
  have a:=uq l x n (by omega);have b:l.getD n 0=l[n]:=by simp[show n<l.length by omega]
  rw[bE,b,Pj,N6 (by omega),P3,List.count_append,List.count_singleton]
  by_cases c:da l[n]=true
  .rw[N9 c,bD]
   by_cases e:l[n]=x
   .rw[N9 e,e,a];rw[e]at c;simp[c]
   .rw[N8 e,a];simp[e]
  .rw[N8 c,a]
   by_cases e:l[n]=x
   .rw[e]at c;simp[c]
   .simp[e]
theorem DD(l:List Int)(x:Int):∀n,n<=l.length->(lk (bE l n) x).getD 0<=(n:Int)∧0<=(lk (bE l n) x).getD 0:=by
 intro n h;rw[uq l x n h];have:=List.count_le_length (a:=x) (l:=l.take n);rw[Oe]at this;split<;>omega
theorem qK(n:Int):(0<ab n)=(da n=true):=by
 apply propext;have:=bk n;unfold ab eG;constructor
 .intro h;split at h
  .assumption
  .omega
 .intro h;obtain⟨h1,a,b⟩:=this.1 h;rw[N9 h];split<;>omega
theorem BD(n:Int):(ab n=0)=(da n=false):=by
 have h:=qK n;apply propext;cases c:da n
 .unfold ab;simp[c]
 .have:0<ab n:=by rw[h];exact c
  constructor
  .intro a;omega
  .intro a;cases a
theorem ur(n:Int):(0<=bf n)=(da n=true):=by
 apply propext;have:=bk n;unfold bf eG;constructor
 .intro h;split at h
  .assumption
  .omega
 .intro h;obtain⟨h1,a,b⟩:=this.1 h;rw[N9 h];split<;>omega
theorem DE(l:List Int)(x:Int):(0<(lk (bE l l.length) x).getD 0)=(l7 l x=true):=by
 rw[uq l x l.length (Oc _),OT];unfold l7;apply propext;cases da x
 .simp
 .simp[List.count_pos_iff]
theorem Am(l:List Int)(g:l.length<=1000000):an Tryz.prog 205 [.seq false 1 (af l)] (λr=>r=.omap true (aS fI (bE l l.length))):=by
 refine ax aG Tryz.func205 ?_;simp;refine aJ.intro (S:=λ(i:Nat)=>⟨[(3,.omap true (aS fI (bE l i))),(9,.pv (.seq false 1 (af l))),(10,.pv (ae l.length)),(11,.pv (ae i))],[]⟩) (λi=>i<=l.length) (λi=>l.length -i) 0 ?_ (Oz _) ?_
 .exact ai.to (by simp[bE]) rfl (by simp) (by simp) (by simp)
 .intro i hi
  by_cases c:i<l.length
  .have b:=fQ i;have e:l.getD i 0=l[i]:=by simp[c]
   have hs:bE l (i+1)=if da l[i]=true then pt (bE l i) l[i] ((lk (bE l i) l[i]).getD 0+1)else bE l i:=by rw[bE,e]
   have f:=DD l l[i] i (by omega);have a:a8 ((lk (bE l i) l[i]).getD 0+1)=(lk (bE l i) l[i]).getD 0+1:=ap (by omega) (by omega);simp[c];refine aj.intro (aF _) ?_;simp[qK]
   by_cases d:da l[i]=true
   .rw[N9 d]at hs;simp[d];exact⟨i+1,by(try dsimp only);omega,by(try dsimp only);omega,ai.to (by simp[b,a,hs]) rfl (by simp) (by simp) (by simp)⟩
   .rw[N8 d]at hs;simp[d];exact⟨i+1,by(try dsimp only);omega,by(try dsimp only);omega,ai.to (by simp[b,hs]) rfl (by simp) (by simp) (by simp)⟩
  .have:i=l.length:=by omega
   subst this;simp
theorem IT(l:List Int)(n:Int)(a:l.length<=140737488355328):an Tryz.prog 288 [.seq false 1 (af l),ae n] (λr=>r=.pv (BL (l7 l n))):=by
 refine ax aG Tryz.func288 ?_;simp;refine aj.intro (aF _) ?_;simp[qK];refine bK.intro (λ_=>iz l n a) ?_;cases h:da n<;>simp[l7,h]
def o7(l:List Int):Bool:=l.any λx=>l7 l x&&l7 l (-x)
theorem GL(n:Int):da (-n)=da n:=by
 rw[Bool.eq_iff_iff,bk,bk];omega
theorem DF(l:List Int)(x:Int):an Tryz.prog 206 [ae x,.iptr 1 [[.amap false (aS fI (bE l l.length))]] 0 0] (λr=>r=.pv (BL (l7 l x&&l7 l (-x)))):=by
 refine ax aG Tryz.func206 ?_;simp[DE]
 by_cases c:da x=true
 .obtain⟨h1,b,d⟩:=(bk x).1 c;have a:a8 (-x)=-x:=ap (by omega) (by omega);simp[a]
 .have:l7 l x=false:=by unfold l7;simp[c]
  simp[this]
theorem GM(l:List Int)(a:l.length<=1000000):an Tryz.prog 125 [.seq false 1 (af l)] (λr=>r=.pv (BL (o7 l))):=by
 refine ax aG Tryz.func125 ?_;have h:=fe l a 206 [.iptr 1 [[.amap false (aS fI (bE l l.length))]] 0 0] (λx=>l7 l x&&l7 l (-x)) (λr=>by simp) (by simp) (λk=>by simp) (λx _=>DF l x);simp;refine aj.intro (Am l a) ?_;simp;simp[br,frzC];refine aj.intro h ?_;simp[o7]
end Go.AX