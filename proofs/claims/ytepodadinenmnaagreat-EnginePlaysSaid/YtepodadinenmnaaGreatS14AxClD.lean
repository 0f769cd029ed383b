/-
  Contracts: what a clause has; both sides of a variable; parts.
-/
import Derived.Test.YtepodadinenmnaaGreatS14AxDfD
import Derived.Test.YtepodadinenmnaaGreatS14AxEvC
namespace Go.AX
open Go.Proofs
set_option linter.unusedSimpArgs false
def d4(c:List Int)(n:Int):Bool:=cE n&&decide (n∈c)
def bP(l:List Int):Nat->List (Int×Int)
 |0=>[]
 |i+1=>if cE (l.getD i 0)=true then pt (bP l i) (l.getD i 0) ((lk (bP l i) (l.getD i 0)).getD 0+1)else bP l i
theorem wR(l:List Int)(x:Int):∀n,n<=l.length->(lk (bP l n) x).getD 0=if cE x=true then((l.take n).count x:Int)else 0
 |0,_=>by simp[bP,lk]
 |n+1,h=>by
  have a:=wR l x n (by omega);have b:l.getD n 0=l[n]:=by simp[show n<l.length by omega]
  rw[bP,b,Sp,Ru (by omega),Tm,List.count_append,List.count_singleton]
  by_cases c:cE l[n]=true
  .rw[Rx c,bK]
   by_cases e:l[n]=x
   .rw[Rx e,e,a];rw[e]at c;simp[c]
   .rw[Rw e,a];simp[e]
  .rw[Rw c,a]
   by_cases e:l[n]=x
   .rw[e]at c;simp[c]
   .simp[e]
theorem Hj(l:List Int)(x:Int):∀n,n<=l.length->(lk (bP l n) x).getD 0<=(n:Int)∧0<=(lk (bP l n) x).getD 0:=by
 intro n h;rw[wR l x n h];have:=List.count_le_length (a:=x) (l:=l.take n);rw[RD]at this;split<;>omega
theorem sE(n:Int):(0<af n)=(cE n=true):=by
 apply propext;have:=aY n;unfold af dg;constructor
 .intro h;split at h
  .assumption
  .omega
 .intro h;obtain⟨h1,a,b⟩:=this.1 h;rw[Rx h];split<;>omega
theorem u9(n:Int):(af n=0)=(cE n=false):=by
 have h:=sE n;apply propext;cases c:cE n
 .unfold af;simp[c]
 .have:0<af n:=by rw[h];exact c
  constructor
  .intro a;omega
  .intro a;cases a
theorem ll(n:Int):(0<=aW n)=(cE n=true):=by
 apply propext;have:=aY n;unfold aW dg;constructor
 .intro h;split at h
  .assumption
  .omega
 .intro h;obtain⟨h1,a,b⟩:=this.1 h;rw[Rx h];split<;>omega
theorem Hk(n:Int):(aW n<0)=(cE n=false):=by
 have h:=ll n;apply propext;cases c:cE n
 .rw[c]at h;simp at h;simp;omega
 .have:0<=aW n:=by rw[h];exact c
  simp;omega
theorem Hl(l:List Int)(x:Int):(0<(lk (bP l l.length) x).getD 0)=(d4 l x=true):=by
 rw[wR l x l.length (Ry _),RY];unfold d4;apply propext;cases cE x
 .simp
 .simp[List.count_pos_iff]
theorem Dg(l:List Int)(g:l.length<=1000000):am Tryz.prog 205 [.seq false 1 (aa l)] (λr=>r=.omap true (a8 fI (bP l l.length))):=by
 refine aq aE Tryz.func205 ?_;simp;refine aw.intro (S:=λ(i:Nat)=>⟨[(3,.omap true (a8 fI (bP l i))),(9,.pv (.seq false 1 (aa l))),(10,.pv (ae l.length)),(11,.pv (ae i))],[]⟩) (λi=>i<=l.length) (λi=>l.length -i) 0 ?_ (RL _) ?_
 .exact ah.to (by simp[bP]) rfl (by simp) (by simp) (by simp)
 .intro i hi
  by_cases c:i<l.length
  .have b:=dr i;have e:l.getD i 0=l[i]:=by simp[c]
   have hs:bP l (i+1)=if cE l[i]=true then pt (bP l i) l[i] ((lk (bP l i) l[i]).getD 0+1)else bP l i:=by rw[bP,e]
   have f:=Hj l l[i] i (by omega);have a:aS ((lk (bP l i) l[i]).getD 0+1)=(lk (bP l i) l[i]).getD 0+1:=ap (by omega) (by omega);simp[c];refine ai.intro (aI _) ?_;simp[sE]
   by_cases d:cE l[i]=true
   .rw[Rx d]at hs;simp[d];exact⟨i+1,by(try dsimp only);omega,by(try dsimp only);omega,ah.to (by simp[b,a,hs]) rfl (by simp) (by simp) (by simp)⟩
   .rw[Rw d]at hs;simp[d];exact⟨i+1,by(try dsimp only);omega,by(try dsimp only);omega,ah.to (by simp[b,hs]) rfl (by simp) (by simp) (by simp)⟩
  .have:i=l.length:=by omega
   subst this;simp
theorem MH(l:List Int)(n:Int)(a:l.length<=140737488355328):am Tryz.prog 288 [.seq false 1 (aa l),ae n] (λr=>r=.pv (BL (d4 l n))):=by
 refine aq aE Tryz.func288 ?_;simp;refine ai.intro (aI _) ?_;simp[sE];refine aP.intro (λ_=>jn l n a) ?_;cases h:cE n<;>simp[d4,h]
theorem iK(l:List Int)(n:Int)(a:l.length<=140737488355328):am Tryz.prog 181 [.seq false 1 (aa l),ae n] (λr=>r=.pv (BL (d4 l n))):=by
 refine aq aE Tryz.func181 ?_;simp;refine ai.intro (dM _) ?_;simp[ll];refine aP.intro (λ_=>jO l n a) ?_;cases h:cE n<;>simp[d4,h]
def fh(l:List Int):Bool:=l.any λx=>d4 l x&&d4 l (-x)
theorem KB(n:Int):cE (-n)=cE n:=by
 rw[Vz,aY,aY];omega
theorem Hm(l:List Int)(x:Int):am Tryz.prog 206 [ae x,.iptr 1 [[.amap false (a8 fI (bP l l.length))]] 0 0] (λr=>r=.pv (BL (d4 l x&&d4 l (-x)))):=by
 refine aq aE Tryz.func206 ?_;simp[Hl]
 by_cases c:cE x=true
 .obtain⟨h1,b,d⟩:=(aY x).1 c;have a:aS (-x)=-x:=ap (by omega) (by omega);simp[a]
 .have:d4 l x=false:=by unfold d4;simp[c]
  simp[this]
theorem KC(l:List Int)(a:l.length<=1000000):am Tryz.prog 125 [.seq false 1 (aa l)] (λr=>r=.pv (BL (fh l))):=by
 refine aq aE Tryz.func125 ?_;have h:=fY l a 206 [.iptr 1 [[.amap false (a8 fI (bP l l.length))]] 0 0] (λx=>d4 l x&&d4 l (-x)) (λr=>by simp) (by simp) (λk=>by simp) (λx _=>Hm l x);simp;refine ai.intro (Dg l a) ?_;simp;simp[bG,frzC];refine ai.intro h ?_;simp[fh]
theorem oc(l:List Int)(k:l.length<=1000000):am Tryz.prog 136 [.seq false 1 (aa l)] (λr=>r=.pv (BL (fh l))):=by
 refine aq aE Tryz.func136 ?_;simp;refine aw.intro (S:=λ(i:Nat)=>⟨[(0,.pv (.seq false 1 (aa l))),(3,.pv (ae i))],[]⟩) (λi=>i<=l.length∧∀j (h:j<l.length),j<i->(d4 l l[j]&&d4 l (-l[j]))=false) (λi=>l.length -i) 0 ?_ ⟨RL _,λj _ h=>by omega⟩ ?_
 .exact ah.to (by simp) rfl (by simp) (by simp) (by simp)
 .rintro i ⟨hi,ho⟩
  by_cases c:i<l.length
  .have g:=dr i;simp[c];refine ai.intro (iK l l[i] (by omega)) ?_;simp[c];refine aP.intro (r:=.pv (ae (lV l[i]))) (λ_=>uY l[i]) ?_;simp[c];refine aP.intro (r:=.pv (BL (d4 l (lV l[i])))) (λ_=>iK l _ (by omega)) ?_;have hn:(d4 l l[i]&&d4 l (lV l[i]))=(d4 l l[i]&&d4 l (-l[i])):=by
    unfold lV;cases d:cE l[i]
    .unfold d4;rw[d];rfl
    .rfl
   simp[hn];cases e:d4 l l[i]&&d4 l (-l[i])
   .simp at e;refine⟨λh1 b=>by simp[e h1]at b,λ_=>⟨i+1,by dsimp only;omega,⟨by omega,λj h1 b=>?_⟩,ah.to (by simp[g]) rfl (by simp) (by simp) (by simp)⟩⟩
    by_cases ej:j=i
    .subst ej;exact e
    .simpa using ho j h1 (by omega)
   .have f:fh l=true:=Ti.2 ⟨_,Rz c,e⟩;simp at e;simp[e,f]
  .have:i=l.length:=by omega
   subst this;simp;cases h:fh l
   .rfl
   .obtain⟨x,hx,a⟩:=Ti.1 h;obtain⟨j,hj,rfl⟩:=RJ hx;rw[ho j hj hj]at a;cases a
def KD(a b:List Int):Bool:=a.all λx=>!cE x||d4 b x
theorem wS(a b:List Int)(k:a.length<=1000000)(l:b.length<=1000000):am Tryz.prog 108 [.seq false 1 (aa a),.seq false 1 (aa b)] (λr=>r=.pv (BL (KD a b))):=by
 refine aq aE Tryz.func108 ?_;simp;refine aw.intro (S:=λ(i:Nat)=>⟨[(0,.pv (.seq false 1 (aa a))),(1,.pv (.seq false 1 (aa b))),(5,.pv (ae i))],[]⟩) (λi=>i<=a.length∧∀j (h:j<a.length),j<i->(!cE a[j]||d4 b a[j])=true) (λi=>a.length -i) 0 ?_ ⟨RL _,λj _ h=>by omega⟩ ?_
 .exact ah.to (by simp) rfl (by simp) (by simp) (by simp)
 .rintro i ⟨hi,ho⟩
  by_cases c:i<a.length
  .have g:=dr i;simp[c];refine ai.intro (iK a a[i] (by omega)) ?_;simp[c];refine aP.intro (r:=.pv (BL (d4 b a[i]))) (λ_=>iK b _ (by omega)) ?_;have h1:d4 a a[i]=cE a[i]:=by unfold d4;simp
   simp[h1]
   by_cases e:(!cE a[i]||d4 b a[i])=true
   .simp at e;refine⟨λh1 d=>?_,λ_=>⟨i+1,by dsimp only;omega,⟨by omega,λj h1 d=>?_⟩,ah.to (by simp[g]) rfl (by simp) (by simp) (by simp)⟩⟩
    .rcases e with e|e
     .rw[h1]at e;cases e
     .rw[d]at e;cases e
    .by_cases ej:j=i
     .subst ej;simpa using e
     .simpa using ho j h1 (by omega)
   .have f:KD a b=false:=by
     rw[←Uj];intro h;exact e (R3.1 h _ (Rz c))
    simp at e;simp[e,f]
  .have:i=a.length:=by omega
   subst this;simp;refine R3.2 λx hx=>?_;obtain⟨j,hj,rfl⟩:=RJ hx;exact ho j hj hj
end Go.AX