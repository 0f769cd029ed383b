/-
  Contracts: literals.
  Contracts: slices.Clone, IndexFunc, ContainsFunc, DeleteFunc of numbers.
  Contracts: trails.
  Contracts: trails that grow.
  Contracts: the document's trails: what only reads.
-/
import Derived.Test.YtepodadinenmnaaGreatS14AxEvC
import Derived.Test.YtepodadinenmnaaGreatAxIs
namespace Go.AX
open Go.Proofs
set_option linter.unusedSimpArgs false
def nZ(n m:Int):Bool:=decide (n≠0)&&(decide (-m<=n)&&decide (n<=m))
def cE(n:Int):Bool:=nZ n 100000
def dg(n:Int):Int:=if n<0 then-n else n
def af(n:Int):Int:=if cE n=true then dg n else 0
def aW(n:Int):Int:=if cE n=true then(if n<0 then 2*dg n -1 else 2*dg n -2)else-1
def lV(n:Int):Int:=if cE n=true then-n else 0
theorem aY(n:Int):cE n=true↔n≠0∧-100000<=n∧n<=100000:=by unfold cE nZ;simp
theorem yH(n m:Int)(h0:0<=m)(h1:m<=100000):am Tryz.prog 252 [ae n,ae m] (λr=>r=.pv (BL (nZ n m))):=by
 refine aq aE Tryz.func252 ?_;have a:aS (-m)=-m:=ap (by omega) (by omega);simp[nZ,a]
 try grind
theorem sB(n:Int):am Tryz.prog 178 [ae n] (λr=>r=.pv (BL (cE n))):=by
 refine aq aE Tryz.func178 ?_;simp;refine ai.intro (yH n 100000 (by omega) (by omega)) ?_;simp[cE]
theorem aI(n:Int):am Tryz.prog 130 [ae n] (λr=>r=.pv (ae (af n))):=by
 refine aq aE Tryz.func130 ?_;simp;refine ai.intro (sB n) ?_
 by_cases c:cE n=true
 .obtain⟨h1,b,d⟩:=(aY n).1 c;have a:aS (-n)=-n:=ap (by omega) (by omega);simp[af,dg,c,a];split<;>split<;>omega
 .simp[af,c]
theorem qI(n:Int):am Tryz.prog 285 [ae n] (λr=>r=.pv (ae (aW n))):=by
 refine aq aE Tryz.func285 ?_;simp;refine ai.intro (sB n) ?_
 by_cases c:cE n=true
 .obtain⟨h1,g,h⟩:=(aY n).1 c;simp[c];refine ai.intro (aI n) ?_;have i:dg n<=100000∧0<=dg n:=by unfold dg;split<;>omega
  have f:af n=dg n:=by unfold af;rw[Rx c]
  have a:aS (2*dg n)=2*dg n:=ap (by omega) (by omega);have b:aS (2*dg n -2)=2*dg n -2:=ap (by omega) (by omega);have e:aS (2*dg n -2+1)=2*dg n -1:=by rw[ap (by omega) (by omega)];omega
  by_cases d:n<0
  .simp[aW,c,f,a,b,e,d]
  .simp[aW,c,f,a,b,e,d]
 .simp[aW,c]
def ax(n m:Int):Int:=if m<0∨100000<m then 2 else if nZ n m=true then 0 else 10
theorem jo(n m:Int):am Tryz.prog 179 [ae n,ae m] (λr=>r=.pv (ae (ax n m))):=by
 refine aq aE Tryz.func179 ?_
 by_cases c1:m<0
 .simp[c1,ax]
 by_cases c2:100000<m
 .simp[c1,c2,ax]
 simp[c1,c2,ax];refine ai.intro (yH n m (by omega) (by omega)) ?_;cases nZ n m<;>simp
theorem my(n:Int):am Tryz.prog 70 [ae n] (λr=>r=.pv (.tup [ae (af n),BL (cE n&&decide (0<n))])):=by
 refine jG [2,3] aE Tryz.func70 (λ_ _=>results_tmp2 rfl _ _ _) ?_;have hk:=aY n
 by_cases c1:0<n
 .by_cases c2:n<=100000
  .have c:cE n=true:=hk.2 ⟨by omega,by omega,by omega⟩;simp[c1,c2,c,af,dg];omega
  .have c:cE n=false:=by rw[VT];intro h;exact c2 (hk.1 h).2.2
   have c3:¬n<0:=by omega
   simp[c1,c2,c,af,dg,c3]
 .by_cases c2:n<0
  .by_cases c3:-100000<=n
   .have c:cE n=true:=hk.2 ⟨by omega,by omega,by omega⟩;have a:aS (-n)=-n:=ap (by omega) (by omega);simp[c1,c2,c3,c,af,dg,a]
   .have c:cE n=false:=by rw[VT];intro h;exact c3 (hk.1 h).2.1
    simp[c1,c2,c3,c,af,dg]
  .have c:cE n=false:=by rw[VT];intro h;have:=(hk.1 h).1;omega
   simp[c1,c2,c,af,dg]
def yI(v:Int)(b:Bool):Int:=if v<1∨100000<v then 0 else if b=true then v else-v
theorem Bp(v:Int)(b:Bool):am Tryz.prog 267 [ae v,BL b] (λr=>r=.pv (ae (yI v b))):=by
 refine aq aE Tryz.func267 ?_
 by_cases c1:v<1
 .simp[c1,yI]
 by_cases c2:100000<v
 .simp[c1,c2,yI]
 have a:aS (-v)=-v:=ap (by omega) (by omega);cases b<;>simp[c1,c2,yI,a]
theorem uY(n:Int):am Tryz.prog 215 [ae n] (λr=>r=.pv (ae (lV n))):=by
 refine aq aE Tryz.func215 ?_;simp;refine ai.intro (my n) ?_;simp;refine ai.intro (Bp _ _) ?_;simp[yI,lV,af,dg];have hk:=aY n
 by_cases c:cE n=true
 .obtain⟨h1,a,b⟩:=hk.1 c
  by_cases d:n<0
  .simp[c,d];omega
  .simp[c,d];omega
 .simp[c]
theorem dM(n:Int):am Tryz.prog 122 [ae n] (λr=>r=.pv (ae (aW n))):=by
 refine aq aE Tryz.func122 ?_;simp;refine ai.intro (my n) ?_;have hk:=aY n
 by_cases c:cE n=true
 .obtain⟨h1,f,g⟩:=hk.1 c
  by_cases d:n<0
  .have e:¬0<n:=by omega
   have a:aS (2*-n)=2*-n:=ap (by omega) (by omega);have b:aS (2*-n -1)=2*-n -1:=ap (by omega) (by omega);simp[c,d,e,af,dg,aW,a,b]
   try omega
  .have e:0<n:=by omega
   have a:aS (2*n)=2*n:=ap (by omega) (by omega);have b:aS (2*n -2)=2*n -2:=ap (by omega) (by omega);simp[c,d,e,af,dg,aW,a,b]
   try omega
 .simp[c,af,aW]
theorem wO(n m:Int):am Tryz.prog 145 [ae n,ae m] (λr=>r=.pv (ae (ax n m))):=by
 refine aq aE Tryz.func145 ?_
 by_cases c1:m<0
 .simp[c1,ax]
 by_cases c2:100000<m
 .simp[c1,c2,ax]
 simp[c1,c2,ax];refine ai.intro (my n) ?_;have hk:=aY n;have hi:nZ n m=true↔n≠0∧-m<=n∧n<=m:=by unfold nZ;simp
 by_cases c:cE n=true
 .obtain⟨h1,g,i⟩:=hk.1 c;have b:af n=dg n:=by unfold af;rw[Rx c]
  have f:dg n=if n<0 then-n else n:=rfl;have a:dg n≠0:=by rw[f];split<;>omega
  by_cases d:nZ n m=true
  .have:=hi.1 d;have e:¬m<dg n:=by rw[f];split<;>omega
   simp[b,a,d,e]
  .have:¬(n≠0∧-m<=n∧n<=m):=λh=>d (hi.2 h);have e:m<dg n:=by rw[f];split<;>omega
   simp[b,a,d,e]
 .have b:af n=0:=by unfold af;rw[Rw c]
  have d:¬nZ n m=true:=λh=>c (hk.2 (by have:=hi.1 h;omega));simp[b,d]
theorem iF(l:List Int)(c:l.length<=1000000):am Tryz.prog 77 [.seq false 1 (aa l)] (λr=>r=.own true 1 (aa l)):=by
 refine am.own0 (R:=λr=>r=.own true 1 (aa l)∨(l=[]∧r=.pv (.lit (.slice none 0 0)))) ?_ (λr h=>h.imp id λ⟨a,b⟩=>⟨b,true,1,by rw[a];rfl⟩);refine aq aE Tryz.func77 ?_;simp;cases l with
 |nil=>simp[aa]
 |cons x l=>simp[aa]at c⊢;omega
theorem uZ(l:List Int)(n:l.length<=1000000)(g:Nat)(cap:List PV)(p:Int->Bool)(d:∀r,eD r cap=cap)(hp:jD cap=false)(b:∀k,bO k cap)
 (h:∀x∈l,am Tryz.prog g (ae x::cap) (λr=>r=.pv (BL (p x)))):am Tryz.prog 230 [.seq false 1 (aa l),.fn (.func g) [] cap] (λr=>r=.pv (ae (i7 p l))):=by
 refine aq aE Tryz.func230 ?_;simp;refine aw.intro (S:=λ(i:Nat)=>⟨[(0,.pv (.seq false 1 (aa l))),(1,.pv (.fn (.func g) [] cap)),(7,.pv (ae l.length)),(8,.pv (ae i))],[]⟩) (λi=>i<=l.length∧∀j (hj:j<l.length),j<i->p l[j]=false) (λi=>l.length -i) 0 ?_ ⟨RL _,λj _ h=>by omega⟩ ?_
 .exact ah.to (by simp) rfl (by simp) (by simp[b]) (by simp)
 .intro i ⟨hi,ho⟩
  by_cases c:i<l.length
  .have m:=dr i;have hx:=h l[i] (Rz c);simp[c,hp,d];refine ai.intro hx ?_;cases a:p l[i]
   .simp;refine⟨i+1,by dsimp only;omega,⟨by omega,λj hj f=>?_⟩,ah.to (by simp[m]) rfl (by simp) (by simp[b]) (by simp)⟩
    by_cases e:j=i
    .subst e;exact a
    .exact ho j hj (by omega)
   .simp;rw[gH c ho a]
  .simp[c];rw[ff (λj hj=>ho j hj (by omega))]
theorem fY(l:List Int)(n:l.length<=1000000)(g:Nat)(cap:List PV)(p:Int->Bool)(d:∀r,eD r cap=cap)(hp:jD cap=false)(m:∀k,bO k cap)
 (h:∀x∈l,am Tryz.prog g (ae x::cap) (λr=>r=.pv (BL (p x)))):am Tryz.prog 204 [.seq false 1 (aa l),.fn (.func g) [] cap] (λr=>r=.pv (BL (l.any p))):=by
 refine aq aE Tryz.func204 ?_;simp[hp,d];refine ai.intro (uZ l n g cap p d hp m h) ?_;have:decide ((0:Int)<=i7 p l)=l.any p:=by
  by_cases c:∃i,∃h:i<l.length,p l[i]=true∧∀j (hj:j<l.length),j<i->p l[j]=false
  .obtain⟨i,hi,h1,f⟩:=c;rw[gH hi f h1,Ti.2 ⟨_,Rz hi,h1⟩];simp
  .have a:∀j (hj:j<l.length),p l[j]=false:=by
    intro j
    induction j using Nat.strongRecOn with
    |ind j o=>
     intro hj;cases e:p l[j]
     .rfl
     .exact absurd ⟨j,hj,e,λk hk b=>o k b hk⟩ c
   rw[ff a];have:l.any p=false:=by
    rw[Tp];intro x hx;obtain⟨j,hj,rfl⟩:=RJ hx;rw[a j hj];simp
   rw[this];rfl
 simp[this]
def bk(p:Int->Bool)(l:List Int):List Int:=l.filter λx=>!p x
theorem jP(p:Int->Bool)(l:List Int):(bk p l).length<=l.length:=SU _ _
theorem iw(p:Int->Bool)(l:List Int){j:Nat}(h:j<l.length):bk p (l.take (j+1))=if p l[j]=true then bk p (l.take j)else bk p (l.take j)++[l[j]]:=by
 unfold bk;rw[Sp,Ru h,Tm,SO];simp only[Sn,UQ];cases p l[j]<;>simp
theorem mV(p:Int->Bool)(l:List Int)(h:∀x∈l,p x=false):bk p l=l:=Tw.2 λx hx=>by rw[h x hx];rfl
def Kz(p:Int->Bool)(zs:List Int)(k:Option Nat)(rows:List (List PV)):Prop:=k=some (bk p zs).length∧rows=aD (bk p zs++List.replicate (zs.length -(bk p zs).length) 0)
theorem iG(zs:List Int)(V:zs.length<=1000000)(g:Nat)(cap:List PV)(p:Int->Bool)(J:∀r,eD r cap=cap)(hp:jD cap=false)(C:∀k,bO k cap)(ho:qW cap)
 (h:∀x∈zs,am Tryz.prog g (ae x::cap) (λr=>r=.pv (BL (p x)))):wo Tryz.prog 150 1 (aD zs) [.fn (.func g) [] cap] (Kz p zs):=by
 have Q:=uZ zs V g cap p J hp C h;refine wo.ofInts (by kernel_rfl) ⟨⟨trivial,ho⟩,trivial⟩ ⟨⟨trivial,C 0⟩,trivial⟩ (λX pre d cp T W=>?_) (λU q cp=>?_)
 .refine nz aE Tryz.func150 ?_;simp[hp,J,Hg];refine aj.introP Q ?_
  by_cases c:∃i,∃h:i<zs.length,p zs[i]=true∧∀j (hj:j<zs.length),j<i->p zs[j]=false
  rotate_left
  .have o:∀j (hj:j<zs.length),p zs[j]=false:=by
    intro j
    induction j using Nat.strongRecOn with
    |ind j Z=>
     intro hj;cases e:p zs[j]
     .rfl
     .exact absurd ⟨j,hj,e,λk hk L=>Z k L hk⟩ c
   have hd:=mV p zs λx hx=>by
    obtain⟨j,hj,rfl⟩:=RJ hx;exact o j hj
   rw[ff o];simp;exact⟨some zs.length,zs,⟨by rw[hd],by rw[hd];simp⟩,rfl,λm M=>by cases M;exact Ry _,rfl,rfl⟩
  obtain⟨t,z,A,o⟩:=c;rw[gH z o A];have N:=dr t;have D:bk p (zs.take t)=zs.take t:=mV p _ λx hx=>by
   obtain⟨j,hj,rfl⟩:=RJ hx;rw[RD]at hj;rw[SQ];exact o j (by omega) (by omega)
  simp;refine aw.intro (S:=λ(y:Nat×List Int)=>⟨[(0,.pv (.bsl 0 1 pre.length zs.length cp)),(1,.pv (.fn (.func g) [] cap)),(5,.pv (ae ((bk p (zs.take y.1)).length:Nat))),(6,.pv (ae y.1))],[blk pre y.2 d]⟩)
   (λy=>y.1<=zs.length∧(bk p (zs.take y.1)).length<y.1∧y.2.length=zs.length∧y.2.take (bk p (zs.take y.1)).length=bk p (zs.take y.1)∧y.2.drop y.1=zs.drop y.1) (λy=>zs.length -y.1) (t+1,zs) ?_ ?_ ?_
  .refine ah.to ?_ rfl (by simp) (by simp[C]) (by simp[fL]);have:(bk p (zs.take (t+1))).length=t:=by rw[iw p zs z,Rx A,D,RD];omega
   simp[N,this]
  .have:bk p (zs.take (t+1))=zs.take t:=by rw[iw p zs z,Rx A,D]
   refine⟨by dsimp only;omega,?_,rfl,?_,rfl⟩
   .dsimp only;rw[this,RD];omega
   .dsimp only;rw[this,RD];congr 1;omega
  .rintro⟨j,b⟩ ⟨h1,P,H,B,I⟩;dsimp only at h1 P H B I
   by_cases G:j<zs.length
   .have R:=dr j;have K:b[j]'(by omega)=zs[j]:=by
     have:=Ua (λl=>l[0]?) I;simp only[SZ,Uw]at this;rw[Ru (by omega),Ru G]at this;exact TL this
    have s:=lh pre b d (i:=j) (by omega);rw[K]at s;have f:=eM pre b d;have hx:=h zs[j] (Rz G);have a:=iw p zs G;simp[G,hp,J,s,f];refine⟨by omega,ai.intro hx ?_⟩;cases E:p zs[j]
    .rw[E]at a;simp only[Sg,SR]at a;have O:=dr ((bk p (zs.take j)).length);have F:=wN pre b d (i:=(bk p (zs.take j)).length) zs[j] (by omega);simp[f];refine⟨by omega,by omega,(j+1,b.set (bk p (zs.take j)).length zs[j]),by(try dsimp only);omega,⟨by(try dsimp only);omega,?_,by(try dsimp only);rw[R5];exact H,?_,?_⟩,ah.to ?_ (by simp[F]) (by simp) (by simp[C]) (by simp[fL])⟩
     .dsimp only;rw[a,RF,SS];omega
     .dsimp only;rw[a,RF,SS,Sp,VG (Ry _),B,Si (by omega)];rfl
     .dsimp only;rw[U5 (by omega)];have:=Ua (List.drop 1) I
      rwa [S7,S7]at this
     .simp[R,O,a]
    .rw[E]at a;simp only[TA]at a;simp;refine⟨(j+1,b),by(try dsimp only);omega,⟨by(try dsimp only);omega,by dsimp only;rw[a];omega,H,by dsimp only;rw[a];exact B,?_⟩,ah.to (by simp[R,a]) rfl (by simp) (by simp[C]) (by simp[fL])⟩;dsimp only;have:=Ua (List.drop 1) I
     rwa [S7,S7]at this
   .have:j=zs.length:=by omega
    subst this;rw[RY]at P B;have f:=eM pre b d;have u:=sy pre b d (i:=(bk p zs).length) (n:=zs.length -(bk p zs).length) 0 (by omega);simp[H];refine⟨⟨by omega,by omega⟩,by omega,by omega,⟨by omega,by omega⟩,some (bk p zs).length,bk p zs++List.replicate (zs.length -(bk p zs).length) 0,⟨rfl,rfl⟩,by simp;omega,λm M=>by cases M;omega,rfl,?_⟩;rw[u,B,R2 (by omega),SX]
 .subst U;refine aq aE Tryz.func150 ?_;simp[hp,J];refine ai.intro (Q.conv ⟨_,_,rfl,λw v Y=>⟨q,cp,Y,RL _,.inl rfl⟩,_,_,rfl,PV.as.refl _,rfl⟩) ?_;rw[ff (λj hj=>by simp at hj)];simp;exact⟨some 0,⟨rfl,rfl⟩,.inr rfl,rfl⟩
end Go.AX
namespace Go.AX
set_option maxRecDepth 8000
open Go.Proofs
set_option linter.unusedSimpArgs false
structure Mk where
  v:Int
  lev:Int
  rea:Int
  pla:Int
instance:Inhabited Mk:=⟨⟨0,0,0,0⟩⟩
structure Tr where
  marks:List Mk
  lits:List Int
  beg:List Int
def pM(x:Mk):List PV:=[ae x.v,ae x.lev,ae x.rea,ae x.pla]
def cV(T:Tr):List PV:=[.seq false 4 (T.marks.map pM),.seq false 1 (aa T.lits),.seq false 1 (aa T.beg),BL true]
def gr(T:Tr):List SV:=[.own true 4 (T.marks.map pM),.own true 1 (aa T.lits),.own true 1 (aa T.beg),.pv (BL true)]
abbrev bM(T:Tr):PV:=.iptr 4 [cV T] 0 0
@[simp] theorem oa(k:Nat)(l:List Mk):bW k (l.map pM):=by
 induction l with
 |nil=>trivial
 |cons x xs a=>exact⟨⟨trivial,trivial,trivial,trivial,trivial⟩,a⟩
@[simp] theorem Pq(r:Nat->Nat->PV)(l:List Mk):kw r (l.map pM)=l.map pM:=by
 rw[bV,Sz];congr 1
theorem cH{h:List (List SV)}{b:Nat}{T:Tr}(d:h[b]?=some (gr T))(n:Nat):bG h (n+1) b 0=bM T:=by
 obtain⟨c,a⟩:=Rt.1 d;simp[bG,c,a,gr,cV,frzC]
def Tr.ok(T:Tr):Prop:=1<=T.marks.length∧T.marks.length<=100001
theorem mz(T:Tr):am Tryz.prog 119 [bM T] (λr=>r=.pv (BL true)):=by
 refine aq aE Tryz.func119 ?_;simp[bM,cV]
def bI(T:Tr)(i:Int):Mk:=T.marks.getD i.toNat default
def fD(T:Tr)(l:Int):Int:=if ax l ((T.marks.length:Int) -1)≠0 then 10 else if(bI T (af l)).v≠0 then 21 else 0
theorem dt{n m:Int}(a:0<=m∧m<=100000):ax n m=0↔n≠0∧-m<=n∧n<=m:=by
 unfold ax;rw[Rw (by omega)];have:nZ n m=true↔n≠0∧-m<=n∧n<=m:=by unfold nZ;simp
 split
 .rename_i h;exact⟨λ_=>this.1 h,λ_=>rfl⟩
 .rename_i h;exact⟨λx=>by simp at x,λx=>absurd (this.2 x) h⟩
theorem o5{n m:Int}(a:0<=m∧m<=100000)(h:ax n m=0):1<=af n∧af n<=m∧cE n=true∧af n=dg n:=by
 obtain⟨h1,c,d⟩:=(dt a).1 h;have hk:=(aY n).2 ⟨h1,by omega,by omega⟩;have b:af n=dg n:=by unfold af;rw[Rx hk]
 rw[b];unfold dg;refine⟨?_,?_,hk,rfl⟩<;>split<;>omega
theorem De(T:Tr)(l:Int)(ht:T.ok):am Tryz.prog 172 [bM T,ae l] (λr=>r=.pv (ae (fD T l))):=by
 refine aq aE Tryz.func172 ?_;obtain⟨t1,g⟩:=ht;have f:aS ((T.marks.length:Int) -1)=(T.marks.length:Int) -1:=ap (by omega) (by omega);have d:=mz T;have a:fD T l=if ax l ((T.marks.length:Int) -1)≠0 then 10 else if(bI T (af l)).v≠0 then 21 else 0:=rfl;generalize fD T l=E at a⊢;simp only[bM,cV]at d;simp[bM,cV,f];refine ai.intro d ?_;simp[f];refine ai.intro (jo l ((T.marks.length:Int) -1)) ?_;simp;refine⟨λc=>by rw[a,Rx c],λc=>?_⟩;obtain⟨h,j,v3,v4⟩:=o5 (by omega) c;obtain⟨i,hi⟩:∃i:Nat,af l=(i:Int):=⟨(af l).toNat,by omega⟩;have b:i<T.marks.length:=by omega
 have e:bI T (af l)=T.marks[i]:=by unfold bI;rw[hi,SF,Rv,Ru b];rfl
 rw[e,Rw (by simp[c])]at a;refine br.intro (aI l) ?_;simp[hi,b,pM];exact⟨λc=>by rw[a,Rx c],λc=>by rw[a,Rw (by simp[c])]⟩
def dE(T:Tr)(v:Int):Mk×Bool:=if v<1∨(T.marks.length:Int)<=v∨(bI T v).v=0 then(⟨0,-1,-1,-1⟩,false)else(bI T v,true)
theorem Bq(T:Tr)(v:Int)(ht:T.ok):am Tryz.prog 247 [bM T,ae v] (λr=>r=.pv (.tup [.agg (pM (dE T v).1),BL (dE T v).2])):=by
 refine mq [] [.cell 4 _,.tmp 5] aE Tryz.func247 ?_;have c:=mz T;obtain⟨t1,e⟩:=ht;have a:dE T v=if v<1∨(T.marks.length:Int)<=v∨(bI T v).v=0 then(⟨0,-1,-1,-1⟩,false)else(bI T v,true):=rfl;generalize dE T v=R at a⊢;simp only[bM,cV]at c;simp[bM,cV];refine ai.intro c ?_
 by_cases c1:v<1
 .rw[Rx (.inl c1)]at a;subst a;simp[c1,pM]
 by_cases c2:(T.marks.length:Int)<=v
 .rw[Rx (.inr (.inl c2))]at a;subst a;simp[c1,c2,pM]
 obtain⟨i,rfl⟩:∃i:Nat,v=(i:Int):=⟨v.toNat,by omega⟩;have b:i<T.marks.length:=by omega
 have c3:¬T.marks.length<=i:=by omega
 have d:bI T i=T.marks[i]:=by unfold bI;rw[SF,Rv,Ru b];rfl
 rw[d]at a
 by_cases c4:T.marks[i].v=0
 .rw[Rx (.inr (.inr c4))]at a;subst a;simp[c1,c3,b,c4,pM]
 .rw[Rw (by omega)]at a;subst a;simp[c1,c3,b,c4,pM]
theorem fM(T:Tr)(v:Int)(ht:T.ok):am Tryz.prog 170 [bM T,ae v] (λr=>r=.pv (ae (dE T v).1.lev)):=by
 refine aq aE Tryz.func170 ?_;have h:=Bq T v ht;simp only[bM,cV,pM]at h;simp[bM,cV];refine ai.intro h ?_;simp
theorem gt(T:Tr)(v:Int)(ht:T.ok):am Tryz.prog 167 [bM T,ae v] (λr=>r=.pv (ae (dE T v).1.rea)):=by
 refine aq aE Tryz.func167 ?_;have h:=Bq T v ht;simp only[bM,cV,pM]at h;simp[bM,cV];refine ai.intro h ?_;simp
theorem mW(T:Tr)(v:Int)(ht:T.ok):am Tryz.prog 245 [bM T,ae v] (λr=>r=.pv (ae (dE T v).1.pla)):=by
 refine aq aE Tryz.func245 ?_;have h:=Bq T v ht;simp only[bM,cV,pM]at h;simp[bM,cV];refine ai.intro h ?_;simp
def cr(T:Tr)(l:Int):Int:=if ax l ((T.marks.length:Int) -1)≠0 then 0 else if l<0 then aS (-(bI T (af l)).v)else(bI T (af l)).v
theorem fN(T:Tr)(l:Int)(ht:T.ok):am Tryz.prog 103 [bM T,ae l] (λr=>r=.pv (ae (cr T l))):=by
 refine aq aE Tryz.func103 ?_;obtain⟨t1,g⟩:=ht;have f:aS ((T.marks.length:Int) -1)=(T.marks.length:Int) -1:=ap (by omega) (by omega);have d:=mz T;have a:cr T l=if ax l ((T.marks.length:Int) -1)≠0 then 0 else if l<0 then aS (-(bI T (af l)).v)else(bI T (af l)).v:=rfl;generalize cr T l=E at a⊢;simp only[bM,cV]at d;simp[bM,cV,f];refine ai.intro d ?_;simp[f];refine aP.intro (r:=.pv (ae (ax l ((T.marks.length:Int) -1)))) (λ_=>jo l ((T.marks.length:Int) -1)) ?_;simp;refine⟨λc=>by rw[a,Rx c],λc=>?_⟩;obtain⟨h,j,v3,v4⟩:=o5 (by omega) c;obtain⟨i,hi⟩:∃i:Nat,af l=(i:Int):=⟨(af l).toNat,by omega⟩;have b:i<T.marks.length:=by omega
 have e:bI T (af l)=T.marks[i]:=by unfold bI;rw[hi,SF,Rv,Ru b];rfl
 rw[e,Rw (by simp[c])]at a;refine br.intro (aI l) ?_;simp[hi,b,pM];exact⟨λc=>by rw[a,Rx c],λc=>by rw[a,Rw (by omega)]⟩
theorem fo(T:Tr)(b:T.lits.length<=1000000):am Tryz.prog 58 [bM T] (λr=>r=.own true 1 (aa T.lits)):=by
 refine aq aE Tryz.func58 ?_;have a:=mz T;simp only[bM,cV]at a;simp[bM,cV];refine ai.intro a ?_;simp;refine ai.intro (iF T.lits b) ?_;simp
end Go.AX
namespace Go.AX
set_option maxRecDepth 16000
open Go.Proofs
set_option linter.unusedSimpArgs false
def gu(T:Tr)(l rea:Int):Tr:=⟨T.marks.set (af l).toNat ⟨if l<0 then-1 else 1,T.beg.length,rea,T.lits.length⟩,T.lits++[l],T.beg⟩
def Hh:Sch:=
 let R11:Sch:=.fork [(11,.take 12 (.take 13 (.fork [(14,.done)])))]
 let A:Sch:=.fork [(9,.fork [(10,R11)])]
 .take 0 (.take 1 (.take 2 (.take 3 (.take 5 (.take 6 (.take 7 (.fork [(4,.fork [(8,A)]),(8,.fork [(4,A),(9,.fork [(4,.fork [(10,R11)]),(10,.fork [(4,R11)])])])])))))))
theorem iI(k:Nat)(T:Tr):cU k (gr T):=⟨oa k _,bc k _,bc k _,trivial,trivial⟩
theorem dN{k:Nat}{x:List SV}(hx:cU k x):∀(b:Nat){h:List (List SV)},ea k h->ea k (h.set b x)
 |_,[],_=>trivial
 |0,_::_,a=>⟨hx,a.2⟩
 |b+1,_::_,a=>⟨a.1,dN hx b a.2⟩
theorem dh{h:List (List SV)}{b:Nat}{x:List SV}(a:h[b]?=some x):h.set b x=h:=by
 apply Ta;intro i;rw[R4];split
 .rename_i e;subst e;rw[Rx (Rt.1 a).1,a]
 .rfl
theorem wP{h:List (List SV)}{b:Nat}(a:b<h.length)(y x:List SV):(h++[y]).set b x=h.set b x++[y]:=UW _ _ a
theorem Df(h:List (List SV))(b:Nat)(T:Tr)(n:h[b]?=some (gr T))(l rea:Int)(q:0<=af l∧af l<T.marks.length)(hs:T.lits.length<=1000000):
 aB Tryz.prog 173 [.ptr b 0,ae l,ae rea] h (λr h'=>h'=h.set b (gr (gu T l rea))∧r=.pv (.tup [])):=by
 refine iH [] [] (h.set b (gr (gu T l rea))) (by simp) (λo=>by rw[R5];exact dN (iI _ _) b o) aE Tryz.func173 ?_;obtain⟨a,e⟩:=Rt.1 n;obtain⟨i,hi⟩:∃i:Nat,af l=(i:Int):=⟨(af l).toNat,by omega⟩;have j:i<T.marks.length:=by omega
 have d:∀y,(h++[y])[b]?=some (gr T):=λy=>by rw[RB a];exact n
 have f:∀y x,(h++[y]).set b x=h.set b x++[y]:=λy x=>wP a y x;simp only[gr]at d;have g:∀x y,(h.set b x++[y])[b]?=some x:=λx y=>by rw[RB (by simpa using a)];simp[a]
 have m:∀x y z,(h.set b x++[y]).set b z=h.set b z++[y]:=λx y z=>by rw[wP (by simpa using a),UO]
 have p:∀x:Mk,(T.marks.map pM).set i [ae x.v,ae x.lev,ae x.rea,ae x.pla]=(T.marks.set i x).map pM:=λx=>by rw[V6];rfl
 have k:aa T.lits++[[ae l]]=aa (T.lits++[l]):=qH _ _
 by_cases c:l<0
 .simp[e,a,gr,c,d,f];refine br.intro (aI l) ?_;simp[e,a,gr,c,d,f,g,m,hi,j,pM,gu,k,fX];omega
 .simp[e,a,gr,c,d,f];refine br.intro (aI l) ?_;simp[e,a,gr,c,d,f,g,m,hi,j,pM,gu,k,fX];omega
def p8(T:Tr):Tr:=⟨T.marks,T.lits,T.beg++[(T.lits.length:Int)]⟩
def gP(T:Tr)(l:Int):Tr:=if fD T l=0 then gu (p8 T) l (-1)else T
def wQ(T:Tr)(l rea:Int):Int:=if fD T l≠0 then fD T l else if rea<0 then 2 else 0
def i8(T:Tr)(l rea:Int):Tr:=if wQ T l rea=0 then gu T l rea else T
theorem u6{T:Tr}(ht:T.ok){l:Int}(h:fD T l=0):ax l ((T.marks.length:Int) -1)=0∧(bI T (af l)).v=0∧1<=af l∧af l<T.marks.length:=by
 unfold fD at h;split at h
 .cases h
 .rename_i h1;split at h
  .cases h
  .rename_i b;have a:ax l ((T.marks.length:Int) -1)=0:=by simpa using h1
   obtain⟨c,d,_,_⟩:=o5 (by have:=ht.1;have:=ht.2;omega) a;exact⟨a,by simpa using b,c,by omega⟩
theorem Br(h:List (List SV))(b:Nat)(T:Tr)(f:h[b]?=some (gr T))(l:Int)(ht:T.ok)(hs:T.lits.length<=1000000)(p:T.beg.length<=1000000):
 aB Tryz.prog 104 [.ptr b 0,ae l] h (λr h'=>h'=h.set b (gr (gP T l))∧r=.pv (ae (fD T l))):=by
 refine iH [3] [.tmp 4] (h.set b (gr (gP T l))) (by simp) (λo=>by rw[R5];exact dN (iI _ _) b o) aE Tryz.func104 ?_;obtain⟨d,g⟩:=Rt.1 f;have j:=De T l ht;have a:∀n,bG h (n+1) b 0=bM T:=λn=>cH f n;simp;simp only[bM]at j a;have k:=j;rw[←a 0]at k;refine aj.introP (r:=.pv (ae (fD T l))) (by simpa[a]using j) ?_ (by simp[d]) (by simp);simp;refine⟨λc=>?_,λc=>?_⟩
 .obtain⟨s,t,u,q⟩:=u6 ht c;have e:gP T l=gu (p8 T) l (-1):=by unfold gP;rw[Rx c]
  have m:=Df (h.set b (gr (p8 T))) b (p8 T) (by simp[d]) l (-1) ⟨by omega,q⟩ hs;refine aQ.meet Hh ⟨[(0,.pv (.ptr b 0)),(1,.pv (ae l)),(5,.pv (ae (fD T l)))],h.set b (gr (p8 T))⟩ (by kernel_rfl) ?_ ?_
  .have i:aa T.beg++[[ae (T.lits.length:Int)]]=aa (T.beg++[(T.lits.length:Int)]):=qH _ _;simp[Hh,g,d,gr];and_intros
   all_goals first
    |omega
    |exact ah.keep (by simp) (by simp[p8,i])
  .simp;refine aj.intro m ?_;rintro _ _ ⟨rfl,rfl⟩;simp[e,c,fX];exact SA (by simp)
 .have e:gP T l=T:=by unfold gP;rw[Rw c]
  simp[e,dh f,fX]
theorem u7(h:List (List SV))(b:Nat)(T:Tr)(e:h[b]?=some (gr T))(l rea:Int)(ht:T.ok)(hs:T.lits.length<=1000000):
 aB Tryz.prog 99 [.ptr b 0,ae l,ae rea] h (λr h'=>h'=h.set b (gr (i8 T l rea))∧r=.pv (ae (wQ T l rea))):=by
 refine iH [] [.tmp 6] (h.set b (gr (i8 T l rea))) (by simp) (λm=>by rw[R5];exact dN (iI _ _) b m) aE Tryz.func99 ?_;obtain⟨g,k⟩:=Rt.1 e;have i:=De T l ht;have f:∀n,bG h (n+1) b 0=bM T:=λn=>cH e n;have a:wQ T l rea=if fD T l≠0 then fD T l else if rea<0 then 2 else 0:=rfl;simp only[bM]at i f;simp;refine aj.introP (r:=.pv (ae (fD T l))) (by simpa[f]using i) ?_ (by simp[g]) (by simp)
 by_cases c:fD T l=0
 .rw[Rw (by simp[c])]at a;obtain⟨p,q,s,o⟩:=u6 ht c
  by_cases c2:rea<0
  .rw[Rx c2]at a;have d:i8 T l rea=T:=by unfold i8;rw[Rw (by rw[a];decide)]
   simp[c,c2,a,d,dh e,fX]
  .rw[Rw c2]at a;have d:i8 T l rea=gu T l rea:=by unfold i8;rw[Rx a]
   have j:=Df h b T e l rea ⟨by omega,o⟩ hs;simp[c,c2];refine aj.intro j ?_;rintro _ _ ⟨rfl,rfl⟩;simp[d,a,c,fX];exact SA (by simp)
 .rw[Rx c]at a;have d:i8 T l rea=T:=by unfold i8;rw[Rw (by rw[a];exact c)]
  simp[c,a,d,dh e,fX]
def jQ(n:Nat):Tr:=⟨List.replicate (n+1) ⟨0,0,0,0⟩,[],[]⟩
theorem KA(h:List (List SV))(n:Nat)(hn:n<=100000):
 aB Tryz.prog 63 [ae n] h (λr h'=>r=.pv (.tup [.ptr h.length 0,ae 0])∧h'=h++[[.own true 4 ((jQ n).marks.map pM),.pv (.lit (.slice none 0 0)),.pv (.lit (.slice none 0 0)),.pv (BL true)]]):=by
 refine uT [2,3] aE Tryz.func63 (λ_ _=>results_tmp2 rfl _ _ _) ?_;have a:=dr n;have c2:¬(n:Int)<0:=by omega
 have c3:¬100000<(n:Int):=by omega
 have c4:¬100000<n:=by omega
 simp[c2,c3,c4,a,jQ,pM];omega
end Go.AX
namespace Go.AX
open Go.Proofs
set_option linter.unusedSimpArgs false
structure En where
  l:Int
  lev:Int
  rea:Int
instance:Inhabited En:=⟨⟨0,0,0⟩⟩
structure RT where
  vars:Int
  rows:List En
  dep:Int
def p9(t:RT)(v:Int):Int:=i7 (λx:En=>decide (af x.l=v)) t.rows
theorem lj{t:RT}{v:Int}(h:0<=p9 t v):∃i:Nat,∃hi:i<t.rows.length,p9 t v=i∧af t.rows[i].l=v:=by
 unfold p9 i7 at*;split at h
 .rename_i i a;rw[SG]at a;obtain⟨h1,b,_⟩:=a;exact⟨i,h1,rfl,by simpa using b⟩
 .omega
def mayR(t:RT)(l:Int):Int:=if ax l t.vars≠0 then 10 else if 0<=p9 t (af l)then 21 else 0
def Ps(t:RT)(v:Int):Int×Int:=if p9 t v<0 then(-1,-1)else((t.rows.getD (p9 t v).toNat default).lev,(t.rows.getD (p9 t v).toNat default).rea)
end Go.AX