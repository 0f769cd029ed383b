/-
  Contracts: what a clause has; both sides of a variable; parts.
-/
import Derived.Test.YtepodadinenmnaaGreatS14AxDfD
import Derived.Test.YtepodadinenmnaaGreatS14AxEvC
namespace Go.AX
open Go.Proofs
set_option linter.unusedSimpArgs false
def d7(c:List Int)(n:Int):Bool:=cF n&&decide (n∈c)
def bP(l:List Int):Nat->List (Int×Int)
 |0=>[]
 |i+1=>if cF (l.getD i 0)=true then pt (bP l i) (l.getD i 0) ((lk (bP l i) (l.getD i 0)).getD 0+1)else bP l i
theorem wX(l:List Int)(x:Int):∀n,n<=l.length->(lk (bP l n) x).getD 0=if cF x=true then((l.take n).count x:Int)else 0
 |0,_=>by simp[bP,lk]
 |n+1,h=>by
  have a:=wX l x n (by omega);have b:l.getD n 0=l[n]:=by simp[show n<l.length by omega]
  rw[bP,b,SA,RF (by omega),Ty,List.count_append,List.count_singleton]
  by_cases c:cF l[n]=true
  .rw[RI c,bK]
   by_cases e:l[n]=x
   .rw[RI e,e,a];rw[e]at c;simp[c]
   .rw[RH e,a];simp[e]
  .rw[RH c,a]
   by_cases e:l[n]=x
   .rw[e]at c;simp[c]
   .simp[e]
theorem Hs(l:List Int)(x:Int):∀n,n<=l.length->(lk (bP l n) x).getD 0<=(n:Int)∧0<=(lk (bP l n) x).getD 0:=by
 intro n h;rw[wX l x n h];have:=List.count_le_length (a:=x) (l:=l.take n);rw[RN]at this;split<;>omega
theorem sR(n:Int):(0<ah n)=(cF n=true):=by
 apply propext;have:=aY n;unfold ah dr;constructor
 .intro h;split at h
  .assumption
  .omega
 .intro h;obtain⟨h1,a,b⟩:=this.1 h;rw[RI h];split<;>omega
theorem ve(n:Int):(ah n=0)=(cF n=false):=by
 have h:=sR n;apply propext;cases c:cF n
 .unfold ah;simp[c]
 .have:0<ah n:=by rw[h];exact c
  constructor
  .intro a;omega
  .intro a;cases a
theorem lp(n:Int):(0<=aW n)=(cF n=true):=by
 apply propext;have:=aY n;unfold aW dr;constructor
 .intro h;split at h
  .assumption
  .omega
 .intro h;obtain⟨h1,a,b⟩:=this.1 h;rw[RI h];split<;>omega
theorem Ht(n:Int):(aW n<0)=(cF n=false):=by
 have h:=lp n;apply propext;cases c:cF n
 .rw[c]at h;simp at h;simp;omega
 .have:0<=aW n:=by rw[h];exact c
  simp;omega
theorem Hu(l:List Int)(x:Int):(0<(lk (bP l l.length) x).getD 0)=(d7 l x=true):=by
 rw[wX l x l.length (RJ _),R8];unfold d7;apply propext;cases cF x
 .simp
 .simp[List.count_pos_iff]
theorem Dp(l:List Int)(g:l.length<=1000000):am Tryz.prog 205 [.seq false 1 (aa l)] (λr=>r=.omap true (a8 fI (bP l l.length))):=by
 refine aq aE Tryz.func205 ?_;simp;refine av.intro (S:=λ(i:Nat)=>⟨[(3,.omap true (a8 fI (bP l i))),(9,.pv (.seq false 1 (aa l))),(10,.pv (ae l.length)),(11,.pv (ae i))],[]⟩) (λi=>i<=l.length) (λi=>l.length -i) 0 ?_ (RW _) ?_
 .exact af.to (by simp[bP]) rfl (by simp) (by simp) (by simp)
 .intro i hi
  by_cases c:i<l.length
  .have b:=dq i;have e:l.getD i 0=l[i]:=by simp[c]
   have hs:bP l (i+1)=if cF l[i]=true then pt (bP l i) l[i] ((lk (bP l i) l[i]).getD 0+1)else bP l i:=by rw[bP,e]
   have f:=Hs l l[i] i (by omega);have a:aR ((lk (bP l i) l[i]).getD 0+1)=(lk (bP l i) l[i]).getD 0+1:=ap (by omega) (by omega);simp[c];refine ai.intro (aJ _) ?_;simp[sR]
   by_cases d:cF l[i]=true
   .rw[RI d]at hs;simp[d];exact⟨i+1,by(try dsimp only);omega,by(try dsimp only);omega,af.to (by simp[b,a,hs]) rfl (by simp) (by simp) (by simp)⟩
   .rw[RH d]at hs;simp[d];exact⟨i+1,by(try dsimp only);omega,by(try dsimp only);omega,af.to (by simp[b,hs]) rfl (by simp) (by simp) (by simp)⟩
  .have:i=l.length:=by omega
   subst this;simp
theorem MR(l:List Int)(n:Int)(a:l.length<=140737488355328):am Tryz.prog 288 [.seq false 1 (aa l),ae n] (λr=>r=.pv (BL (d7 l n))):=by
 refine aq aE Tryz.func288 ?_;simp;refine ai.intro (aJ _) ?_;simp[sR];refine aH.intro (λ_=>jr l n a) ?_;cases h:cF n<;>simp[d7,h]
theorem iN(l:List Int)(n:Int)(a:l.length<=140737488355328):am Tryz.prog 181 [.seq false 1 (aa l),ae n] (λr=>r=.pv (BL (d7 l n))):=by
 refine aq aE Tryz.func181 ?_;simp;refine ai.intro (dP _) ?_;simp[lp];refine aH.intro (λ_=>jR l n a) ?_;cases h:cF n<;>simp[d7,h]
def fl(l:List Int):Bool:=l.any λx=>d7 l x&&d7 l (-x)
theorem KM(n:Int):cF (-n)=cF n:=by
 rw[VJ,aY,aY];omega
theorem Hv(l:List Int)(x:Int):am Tryz.prog 206 [ae x,.iptr 1 [[.amap false (a8 fI (bP l l.length))]] 0 0] (λr=>r=.pv (BL (d7 l x&&d7 l (-x)))):=by
 refine aq aE Tryz.func206 ?_;simp[Hu]
 by_cases c:cF x=true
 .obtain⟨h1,b,d⟩:=(aY x).1 c;have a:aR (-x)=-x:=ap (by omega) (by omega);simp[a]
 .have:d7 l x=false:=by unfold d7;simp[c]
  simp[this]
theorem KN(l:List Int)(a:l.length<=1000000):am Tryz.prog 125 [.seq false 1 (aa l)] (λr=>r=.pv (BL (fl l))):=by
 refine aq aE Tryz.func125 ?_;have h:=ga l a 206 [.iptr 1 [[.amap false (a8 fI (bP l l.length))]] 0 0] (λx=>d7 l x&&d7 l (-x)) (λr=>by simp) (by simp) (λk=>by simp) (λx _=>Hv l x);simp;refine ai.intro (Dp l a) ?_;simp;simp[bG,frzC];refine ai.intro h ?_;simp[fl]
theorem oh(l:List Int)(k:l.length<=1000000):am Tryz.prog 136 [.seq false 1 (aa l)] (λr=>r=.pv (BL (fl l))):=by
 refine aq aE Tryz.func136 ?_;simp;refine av.intro (S:=λ(i:Nat)=>⟨[(0,.pv (.seq false 1 (aa l))),(3,.pv (ae i))],[]⟩) (λi=>i<=l.length∧∀j (h:j<l.length),j<i->(d7 l l[j]&&d7 l (-l[j]))=false) (λi=>l.length -i) 0 ?_ ⟨RW _,λj _ h=>by omega⟩ ?_
 .exact af.to (by simp) rfl (by simp) (by simp) (by simp)
 .rintro i ⟨hi,ho⟩
  by_cases c:i<l.length
  .have g:=dq i;simp[c];refine ai.intro (iN l l[i] (by omega)) ?_;simp[c];refine aH.intro (r:=.pv (ae (lX l[i]))) (λ_=>u9 l[i]) ?_;simp[c];refine aH.intro (r:=.pv (BL (d7 l (lX l[i])))) (λ_=>iN l _ (by omega)) ?_;have hn:(d7 l l[i]&&d7 l (lX l[i]))=(d7 l l[i]&&d7 l (-l[i])):=by
    unfold lX;cases d:cF l[i]
    .unfold d7;rw[d];rfl
    .rfl
   simp[hn];cases e:d7 l l[i]&&d7 l (-l[i])
   .simp at e;refine⟨λh1 b=>by simp[e h1]at b,λ_=>⟨i+1,by dsimp only;omega,⟨by omega,λj h1 b=>?_⟩,af.to (by simp[g]) rfl (by simp) (by simp) (by simp)⟩⟩
    by_cases ej:j=i
    .subst ej;exact e
    .simpa using ho j h1 (by omega)
   .have f:fl l=true:=Tm.2 ⟨_,RK c,e⟩;simp at e;simp[e,f]
  .have:i=l.length:=by omega
   subst this;simp;cases h:fl l
   .rfl
   .obtain⟨x,hx,a⟩:=Tm.1 h;obtain⟨j,hj,rfl⟩:=RU hx;rw[ho j hj hj]at a;cases a
def KO(a b:List Int):Bool:=a.all λx=>!cF x||d7 b x
theorem wY(a b:List Int)(k:a.length<=1000000)(l:b.length<=1000000):am Tryz.prog 108 [.seq false 1 (aa a),.seq false 1 (aa b)] (λr=>r=.pv (BL (KO a b))):=by
 refine aq aE Tryz.func108 ?_;simp;refine av.intro (S:=λ(i:Nat)=>⟨[(0,.pv (.seq false 1 (aa a))),(1,.pv (.seq false 1 (aa b))),(5,.pv (ae i))],[]⟩) (λi=>i<=a.length∧∀j (h:j<a.length),j<i->(!cF a[j]||d7 b a[j])=true) (λi=>a.length -i) 0 ?_ ⟨RW _,λj _ h=>by omega⟩ ?_
 .exact af.to (by simp) rfl (by simp) (by simp) (by simp)
 .rintro i ⟨hi,ho⟩
  by_cases c:i<a.length
  .have g:=dq i;simp[c];refine ai.intro (iN a a[i] (by omega)) ?_;simp[c];refine aH.intro (r:=.pv (BL (d7 b a[i]))) (λ_=>iN b _ (by omega)) ?_;have h1:d7 a a[i]=cF a[i]:=by unfold d7;simp
   simp[h1]
   by_cases e:(!cF a[i]||d7 b a[i])=true
   .simp at e;refine⟨λh1 d=>?_,λ_=>⟨i+1,by dsimp only;omega,⟨by omega,λj h1 d=>?_⟩,af.to (by simp[g]) rfl (by simp) (by simp) (by simp)⟩⟩
    .rcases e with e|e
     .rw[h1]at e;cases e
     .rw[d]at e;cases e
    .by_cases ej:j=i
     .subst ej;simpa using e
     .simpa using ho j h1 (by omega)
   .have f:KO a b=false:=by
     rw[←Uu];intro h;exact e (Se.1 h _ (RK c))
    simp at e;simp[e,f]
  .have:i=a.length:=by omega
   subst this;simp;refine Se.2 λx hx=>?_;obtain⟨j,hj,rfl⟩:=RU hx;exact ho j hj hj
end Go.AX