/-
  Contracts: what a clause has; both sides of a variable; parts.
-/
import Derived.Test.YtepodadinenmnaaGreatS14AxDfD
import Derived.Test.YtepodadinenmnaaGreatS14AxEvC
namespace Go.AX
open Go.Proofs
set_option linter.unusedSimpArgs false
def ku(c:List Int)(n:Int):Bool:=cK n&&decide (n∈c)
def bJ(l:List Int):Nat->List (Int×Int)
 |0=>[]
 |i+1=>if cK (l.getD i 0)=true then pt (bJ l i) (l.getD i 0) ((lk (bJ l i) (l.getD i 0)).getD 0+1)else bJ l i
theorem vZ(l:List Int)(x:Int):∀n,n<=l.length->(lk (bJ l n) x).getD 0=if cK x=true then((l.take n).count x:Int)else 0
 |0,_=>by simp[bJ,lk]
 |n+1,h=>by
  have a:=vZ l x n (by omega);have b:l.getD n 0=l[n]:=by simp[show n<l.length by omega]
  rw[bJ,b,Rl,P8 (by omega),R3,List.count_append,List.count_singleton]
  by_cases c:cK l[n]=true
  .rw[Qb c,bD]
   by_cases e:l[n]=x
   .rw[Qb e,e,a];rw[e]at c;simp[c]
   .rw[Qa e,a];simp[e]
  .rw[Qa c,a]
   by_cases e:l[n]=x
   .rw[e]at c;simp[c]
   .simp[e]
theorem F0(l:List Int)(x:Int):∀n,n<=l.length->(lk (bJ l n) x).getD 0<=(n:Int)∧0<=(lk (bJ l n) x).getD 0:=by
 intro n h;rw[vZ l x n h];have:=List.count_le_length (a:=x) (l:=l.take n);rw[Qg]at this;split<;>omega
theorem l5(n:Int):(0<ae n)=(cK n=true):=by
 apply propext;have:=aW n;unfold ae du;constructor
 .intro h;split at h
  .assumption
  .omega
 .intro h;obtain⟨h1,a,b⟩:=this.1 h;rw[Qb h];split<;>omega
theorem jF(n:Int):(ae n=0)=(cK n=false):=by
 have h:=l5 n;apply propext;cases c:cK n
 .unfold ae;simp[c]
 .have:0<ae n:=by rw[h];exact c
  constructor
  .intro a;omega
  .intro a;cases a
theorem gy(n:Int):(0<=aV n)=(cK n=true):=by
 apply propext;have:=aW n;unfold aV du;constructor
 .intro h;split at h
  .assumption
  .omega
 .intro h;obtain⟨h1,a,b⟩:=this.1 h;rw[Qb h];split<;>omega
theorem rN(n:Int):(aV n<0)=(cK n=false):=by
 have h:=gy n;apply propext;cases c:cK n
 .rw[c]at h;simp at h;simp;omega
 .have:0<=aV n:=by rw[h];exact c
  simp;omega
theorem F1(l:List Int)(x:Int):(0<(lk (bJ l l.length) x).getD 0)=(ku l x=true):=by
 rw[vZ l x l.length (Qc _),QO];unfold ku;apply propext;cases cK x
 .simp
 .simp[List.count_pos_iff]
theorem Cg(l:List Int)(g:l.length<=1000000):am Tryz.prog 205 [.seq false 1 (ab l)] (λr=>r=.omap true (aC fI (bJ l l.length))):=by
 refine ao aD Tryz.func205 ?_;simp;refine aH.intro (S:=λ(i:Nat)=>⟨[(3,.omap true (aC fI (bJ l i))),(9,.pv (.seq false 1 (ab l))),(10,.pv (af l.length)),(11,.pv (af i))],[]⟩) (λi=>i<=l.length) (λi=>l.length -i) 0 ?_ (Qq _) ?_
 .exact ai.to (by simp[bJ]) rfl (by simp) (by simp) (by simp)
 .intro i hi
  by_cases c:i<l.length
  .have b:=eq i;have e:l.getD i 0=l[i]:=by simp[c]
   have hs:bJ l (i+1)=if cK l[i]=true then pt (bJ l i) l[i] ((lk (bJ l i) l[i]).getD 0+1)else bJ l i:=by rw[bJ,e]
   have f:=F0 l l[i] i (by omega);have a:aX ((lk (bJ l i) l[i]).getD 0+1)=(lk (bJ l i) l[i]).getD 0+1:=aq (by omega) (by omega);simp[c];refine ah.intro (aG _) ?_;simp[l5]
   by_cases d:cK l[i]=true
   .rw[Qb d]at hs;simp[d];exact⟨i+1,by(try dsimp only);omega,by(try dsimp only);omega,ai.to (by simp[b,a,hs]) rfl (by simp) (by simp) (by simp)⟩
   .rw[Qa d]at hs;simp[d];exact⟨i+1,by(try dsimp only);omega,by(try dsimp only);omega,ai.to (by simp[b,hs]) rfl (by simp) (by simp) (by simp)⟩
  .have:i=l.length:=by omega
   subst this;simp
theorem F2(l:List Int)(n:Int)(a:l.length<=140737488355328):am Tryz.prog 288 [.seq false 1 (ab l),af n] (λr=>r=.pv (BL (ku l n))):=by
 refine ao aD Tryz.func288 ?_;simp;refine ah.intro (aG _) ?_;simp[l5];refine aO.intro (λ_=>er l n a) ?_;cases h:cK n<;>simp[ku,h]
def iK(l:List Int):Bool:=l.any λx=>ku l x&&ku l (-x)
theorem Jl(n:Int):cK (-n)=cK n:=by
 rw[UL,aW,aW];omega
theorem F3(l:List Int)(x:Int):am Tryz.prog 206 [af x,.iptr 1 [[.amap false (aC fI (bJ l l.length))]] 0 0] (λr=>r=.pv (BL (ku l x&&ku l (-x)))):=by
 refine ao aD Tryz.func206 ?_;simp[F1]
 by_cases c:cK x=true
 .obtain⟨h1,b,d⟩:=(aW x).1 c;have a:aX (-x)=-x:=aq (by omega) (by omega);simp[a]
 .have:ku l x=false:=by unfold ku;simp[c]
  simp[this]
theorem v6(l:List Int)(a:l.length<=1000000):am Tryz.prog 125 [.seq false 1 (ab l)] (λr=>r=.pv (BL (iK l))):=by
 refine ao aD Tryz.func125 ?_;have h:=dM l a 206 [.iptr 1 [[.amap false (aC fI (bJ l l.length))]] 0 0] (λx=>ku l x&&ku l (-x)) (λr=>by simp) (by simp) (λk=>by simp) (λx _=>F3 l x);simp;refine ah.intro (Cg l a) ?_;simp;simp[a8,frzC];refine ah.intro h ?_;simp[iK]
end Go.AX