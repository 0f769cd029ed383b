/-
  Contracts: what a clause has; both sides of a variable; parts.
-/
import Derived.Test.YtepodadinenmnaaGreatZf
set_option linter.unusedSimpArgs false
namespace Go.AX
open Go.Proofs Go.Proofs.Tryz
def mP(c:af)(n:Int):Bool:=dF n&&decide (n∈c)
def cG(l:af):Nat->aS
 |0=>[]
 |i+1=>if dF (l.getD i 0)=true then pt (cG l i) (l.getD i 0) ((lk (cG l i) (l.getD i 0)).getD 0+1)else cG l i
theorem zF(l:af)(x:Int):∀n,n<=l.length->(lk (cG l n) x).getD 0=if dF x=true then((l.take n).count x:Int)else 0
 |0,_=>by simp[cG,lk]
 |n+1,h=>by
  have a:=zF l x n (by omega);have b:l.getD n 0=l[n]:=by simp[show n<l.length by omega]
  rw[cG,b,Wj,Vq (by omega),W6,List.count_append,List.count_singleton];by_cases c:dF l[n]=true;rw[Vt c,cm];by_cases e:l[n]=x;rw[Vt e,e,a];rw[e]at c;simp[c];rw[Vs e,a];simp[e];rw[Vs c,a];by_cases e:l[n]=x;rw[e]at c;simp[c];simp[e]
theorem KN(l:af)(x:Int):∀n,n<=l.length->(lk (cG l n) x).getD 0<=(n:Int)∧0<=(lk (cG l n) x).getD 0:=by
 intro n h;rw[zF l x n h];have:=List.count_le_length (a:=x) (l:=l.take n);rw[Vy]at this;split<;>omega
theorem oc(n:Int):(0<aq n)=(dF n=true):=by
 apply propext;have:=bO n;unfold aq gr;constructor;intro h;split at h;assumption;omega;intro h;obtain⟨h1,a,b⟩:=this.1 h;rw[Vt h];split<;>omega
theorem lS(n:Int):(aq n=0)=(dF n=false):=by
 have h:=oc n;apply propext;cases c:dF n;unfold aq;simp[c];have:0<aq n:=by rw[h];exact c
 constructor;intro a;omega;intro a;cases a
theorem il(n:Int):(0<=bH n)=(dF n=true):=by
 apply propext;have:=bO n;unfold bH gr;constructor;intro h;split at h;assumption;omega;intro h;obtain⟨h1,a,b⟩:=this.1 h;rw[Vt h];split<;>omega
theorem u6(n:Int):(bH n<0)=(dF n=false):=by
 have h:=il n;apply propext;cases c:dF n;rw[c]at h;simp at h;simp;omega;have:0<=bH n:=by rw[h];exact c
 simp;omega
theorem KO(l:af)(x:Int):(0<(lk (cG l l.length) x).getD 0)=(mP l x=true):=by
 rw[zF l x l.length (Vu _),VX];unfold mP;apply propext;cases dF x;simp;simp[List.count_pos_iff]
theorem Gv(l:af)(g:l.length<=1000000):aw prog 205 [.seq false 1 (am l)] (λr=>r=.omap true (aL fI (cG l l.length))):=by
 refine aB aP func205 ?_;simp;refine aM.intro (S:=λ(i:Nat)=>⟨[(3,.omap true (aL fI (cG l i))),(9,.pv (.seq false 1 (am l))),(10,.pv (ak l.length)),(11,.pv (ak i))],[]⟩) (λi=>i<=l.length) (λi=>l.length -i) 0 ?_ (VH _) ?_;exact av.to (by simp[cG]) rfl (by simp) (by simp) (by simp);intro i hi;by_cases c:i<l.length;have b:=dU i;have e:l.getD i 0=l[i]:=by simp[c]
 have hs:cG l (i+1)=if dF l[i]=true then pt (cG l i) l[i] ((lk (cG l i) l[i]).getD 0+1)else cG l i:=by rw[cG,e]
 have f:=KN l l[i] i (by omega);have a:bG ((lk (cG l i) l[i]).getD 0+1)=(lk (cG l i) l[i]).getD 0+1:=aC (by omega) (by omega);simp[c];refine ap.intro (aX _) ?_;simp[oc];by_cases d:dF l[i]=true;rw[Vt d]at hs;simp[d];exact⟨i+1,by(try dsimp only);omega,by(try dsimp only);omega,av.to (by simp[b,a,hs]) rfl (by simp) (by simp) (by simp)⟩;rw[Vs d]at hs;simp[d];exact⟨i+1,by(try dsimp only);omega,by(try dsimp only);omega,av.to (by simp[b,hs]) rfl (by simp) (by simp) (by simp)⟩;have:i=l.length:=by omega
 subst this;simp
theorem KP(l:af)(n:Int)(a:l.length<=140737488355328):aw prog 288 [.seq false 1 (am l),ak n] (λr=>r=.pv (BL (mP l n))):=by
 refine aB aP func288 ?_;simp;refine ap.intro (aX _) ?_;simp[oc];refine bz.intro (λ_=>fL l n a) ?_;cases h:dF n<;>simp[mP,h]
def gN(l:af):Bool:=l.any λx=>mP l x&&mP l (-x)
theorem Ou(n:Int):dF (-n)=dF n:=by
 rw[aaa,bO,bO];omega
theorem KQ(l:af)(x:Int):aw prog 206 [ak x,.iptr 1 [[.amap false (aL fI (cG l l.length))]] 0 0] (λr=>r=.pv (BL (mP l x&&mP l (-x)))):=by
 refine aB aP func206 ?_;simp[KO];by_cases c:dF x=true;obtain⟨h1,b,d⟩:=(bO x).1 c;have a:bG (-x)=-x:=aC (by omega) (by omega);simp[a];have:mP l x=false:=by unfold mP;simp[c]
 simp[this]
theorem zG(l:af)(a:l.length<=1000000):aw prog 125 [.seq false 1 (am l)] (λr=>r=.pv (BL (gN l))):=by
 refine aB aP func125 ?_;have h:=eQ l a 206 [.iptr 1 [[.amap false (aL fI (cG l l.length))]] 0 0] (λx=>mP l x&&mP l (-x)) (λr=>by simp) (by simp) (λk=>by simp) (λx _=>KQ l x);simp;refine ap.intro (Gv l a) ?_;simp;simp[bE,frzC];refine ap.intro h ?_;simp[gN]
end Go.AX
