/-
  Contracts: what a clause has; both sides of a variable; parts.
-/
import Derived.Test.YtepodadinenmnaaGreatS14AxDfD
import Derived.Test.YtepodadinenmnaaGreatS14AxEvC
namespace Go.AX
open Go.Proofs
set_option linter.unusedSimpArgs false
def fA(c:List Int)(n:Int):Bool:=cF n&&decide (n∈c)
def bS(l:List Int):Nat->List (Int×Int)
 |0=>[]
 |i+1=>if cF (l.getD i 0)=true then pt (bS l i) (l.getD i 0) ((lk (bS l i) (l.getD i 0)).getD 0+1)else bS l i
theorem xw(l:List Int)(x:Int):∀n,n<=l.length->(lk (bS l n) x).getD 0=if cF x=true then((l.take n).count x:Int)else 0
 |0,_=>by simp[bS,lk]
 |n+1,h=>by
  have a:=xw l x n (by omega);have b:l.getD n 0=l[n]:=by simp[show n<l.length by omega]
  rw[bS,b,TW,SR (by omega),UO,List.count_append,List.count_singleton]
  by_cases c:cF l[n]=true
  .rw[SX c,bJ]
   by_cases e:l[n]=x
   .rw[SX e,e,a];rw[e]at c;simp[c]
   .rw[SU e,a];simp[e]
  .rw[SU c,a]
   by_cases e:l[n]=x
   .rw[e]at c;simp[c]
   .simp[e]
theorem Ii(l:List Int)(x:Int):∀n,n<=l.length->(lk (bS l n) x).getD 0<=(n:Int)∧0<=(lk (bS l n) x).getD 0:=by
 intro n h;rw[xw l x n h];have:=List.count_le_length (a:=x) (l:=l.take n);rw[S6]at this;split<;>omega
theorem tg(n:Int):(0<af n)=(cF n=true):=by
 apply propext;have:=aY n;unfold af c9;constructor
 .intro h;split at h
  .assumption
  .omega
 .intro h;obtain⟨h1,a,b⟩:=this.1 h;rw[SX h];split<;>omega
theorem vI(n:Int):(af n=0)=(cF n=false):=by
 have h:=tg n;apply propext;cases c:cF n
 .unfold af;simp[c]
 .have:0<af n:=by rw[h];exact c
  constructor
  .intro a;omega
  .intro a;cases a
theorem lA(n:Int):(0<=aV n)=(cF n=true):=by
 apply propext;have:=aY n;unfold aV c9;constructor
 .intro h;split at h
  .assumption
  .omega
 .intro h;obtain⟨h1,a,b⟩:=this.1 h;rw[SX h];split<;>omega
theorem Ij(n:Int):(aV n<0)=(cF n=false):=by
 have h:=lA n;apply propext;cases c:cF n
 .rw[c]at h;simp at h;simp;omega
 .have:0<=aV n:=by rw[h];exact c
  simp;omega
theorem Ik(l:List Int)(x:Int):(0<(lk (bS l l.length) x).getD 0)=(fA l x=true):=by
 rw[xw l x l.length (SY _),Tw];unfold fA;apply propext;cases cF x
 .simp
 .simp[List.count_pos_iff]
theorem D4(l:List Int)(g:l.length<=1000000):aj Tryz.prog 205 [.seq false 1 (ae l)] (λr=>r=.omap true (aZ fI (bS l l.length))):=by
 refine ap aD Tryz.func205 ?_;simp;refine ax.intro (S:=λ(i:Nat)=>⟨[(3,.omap true (aZ fI (bS l i))),(9,.pv (.seq false 1 (ae l))),(10,.pv (ab l.length)),(11,.pv (ab i))],[]⟩) (λi=>i<=l.length) (λi=>l.length -i) 0 ?_ (Tf _) ?_
 .exact ah.to (by simp[bS]) rfl (by simp) (by simp) (by simp)
 .intro i hi
  by_cases c:i<l.length
  .have b:=dv i;have e:l.getD i 0=l[i]:=by simp[c]
   have hs:bS l (i+1)=if cF l[i]=true then pt (bS l i) l[i] ((lk (bS l i) l[i]).getD 0+1)else bS l i:=by rw[bS,e]
   have f:=Ii l l[i] i (by omega);have a:aX ((lk (bS l i) l[i]).getD 0+1)=(lk (bS l i) l[i]).getD 0+1:=ao (by omega) (by omega);simp[c];refine ai.intro (aK _) ?_;simp[tg]
   by_cases d:cF l[i]=true
   .rw[SX d]at hs;simp[d];exact⟨i+1,by(try dsimp only);omega,by(try dsimp only);omega,ah.to (by simp[b,a,hs]) rfl (by simp) (by simp) (by simp)⟩
   .rw[SU d]at hs;simp[d];exact⟨i+1,by(try dsimp only);omega,by(try dsimp only);omega,ah.to (by simp[b,hs]) rfl (by simp) (by simp) (by simp)⟩
  .have:i=l.length:=by omega
   subst this;simp
theorem NT(l:List Int)(n:Int)(a:l.length<=140737488355328):aj Tryz.prog 288 [.seq false 1 (ae l),ab n] (λr=>r=.pv (BL (fA l n))):=by
 refine ap aD Tryz.func288 ?_;simp;refine ai.intro (aK _) ?_;simp[tg];refine bf.intro (λ_=>jo l n a) ?_;cases h:cF n<;>simp[fA,h]
theorem oE(l:List Int)(n:Int)(a:l.length<=140737488355328):aj Tryz.prog 181 [.seq false 1 (ae l),ab n] (λr=>r=.pv (BL (fA l n))):=by
 refine ap aD Tryz.func181 ?_;simp;refine ai.intro (dH _) ?_;simp[lA];refine bf.intro (λ_=>jT l n a) ?_;cases h:cF n<;>simp[fA,h]
def eY(l:List Int):Bool:=l.any λx=>fA l x&&fA l (-x)
theorem Lx(n:Int):cF (-n)=cF n:=by
 rw[W8,aY,aY];omega
theorem Il(l:List Int)(x:Int):aj Tryz.prog 206 [ab x,.iptr 1 [[.amap false (aZ fI (bS l l.length))]] 0 0] (λr=>r=.pv (BL (fA l x&&fA l (-x)))):=by
 refine ap aD Tryz.func206 ?_;simp[Ik]
 by_cases c:cF x=true
 .obtain⟨h1,b,d⟩:=(aY x).1 c;have a:aX (-x)=-x:=ao (by omega) (by omega);simp[a]
 .have:fA l x=false:=by unfold fA;simp[c]
  simp[this]
theorem Ly(l:List Int)(a:l.length<=1000000):aj Tryz.prog 125 [.seq false 1 (ae l)] (λr=>r=.pv (BL (eY l))):=by
 refine ap aD Tryz.func125 ?_;have h:=fY l a 206 [.iptr 1 [[.amap false (aZ fI (bS l l.length))]] 0 0] (λx=>fA l x&&fA l (-x)) (λr=>by simp) (by simp) (λk=>by simp) (λx _=>Il l x);simp;refine ai.intro (D4 l a) ?_;simp;simp[bA,frzC];refine ai.intro h ?_;simp[eY]
theorem oF(l:List Int)(m:l.length<=1000000):aj Tryz.prog 136 [.seq false 1 (ae l)] (λr=>r=.pv (BL (eY l))):=by
 refine ap aD Tryz.func136 ?_;simp;refine ax.intro (S:=λ(i:Nat)=>⟨[(0,.pv (.seq false 1 (ae l))),(3,.pv (ab i))],[]⟩) (λi=>i<=l.length∧∀j (h:j<l.length),j<i->(fA l l[j]&&fA l (-l[j]))=false) (λi=>l.length -i) 0 ?_ ⟨Tf _,λj _ h=>by omega⟩ ?_
 .exact ah.to (by simp) rfl (by simp) (by simp) (by simp)
 .rintro i ⟨hi,ho⟩
  by_cases c:i<l.length
  .have k:=dv i;simp[c];refine ai.intro (oE l l[i] (by omega)) ?_;simp[c];refine bf.intro (r:=.pv (ab (l8 l[i]))) (λ_=>vE l[i]) ?_;simp[c];refine bf.intro (r:=.pv (BL (fA l (l8 l[i])))) (λ_=>oE l _ (by omega)) ?_;have hn:(fA l l[i]&&fA l (l8 l[i]))=(fA l l[i]&&fA l (-l[i])):=by
    unfold l8;cases d:cF l[i]
    .unfold fA;rw[d];rfl
    .rfl
   simp[hn];cases e:fA l l[i]&&fA l (-l[i])
   .simp at e;refine⟨λh1 b=>by simp[e h1]at b,λ_=>⟨i+1,by dsimp only;omega,⟨by omega,λj h1 b=>?_⟩,ah.to (by simp[k]) rfl (by simp) (by simp) (by simp)⟩⟩
    by_cases f:j=i
    .subst f;exact e
    .simpa using ho j h1 (by omega)
   .have g:eY l=true:=UL.2 ⟨_,S5 c,e⟩;simp at e;simp[e,g]
  .have:i=l.length:=by omega
   subst this;simp;cases h:eY l
   .rfl
   .obtain⟨x,hx,a⟩:=UL.1 h;obtain⟨j,hj,rfl⟩:=Tc hx;rw[ho j hj hj]at a;cases a
end Go.AX