/-
  Contracts: literals.
  Contracts: slices.Clone, IndexFunc, ContainsFunc, DeleteFunc of numbers.
  Contracts: trails.
  Contracts: trails that grow.
  Contracts: the document's trails: what only reads.
-/
import Derived.Test.YtepodadinenmnaaGreatS14AxEvC
import Derived.Test.YtepodadinenmnaaGreatAxIs
namespace Go.AX
open Go.Proofs
set_option linter.unusedSimpArgs false
def nD(n m:Int):Bool:=decide (n≠0)&&(decide (-m<=n)&&decide (n<=m))
def cF(n:Int):Bool:=nD n 100000
def dr(n:Int):Int:=if n<0 then-n else n
def ah(n:Int):Int:=if cF n=true then dr n else 0
def aW(n:Int):Int:=if cF n=true then(if n<0 then 2*dr n -1 else 2*dr n -2)else-1
def lX(n:Int):Int:=if cF n=true then-n else 0
theorem aY(n:Int):cF n=true↔n≠0∧-100000<=n∧n<=100000:=by unfold cF nD;simp
theorem yN(n m:Int)(h0:0<=m)(h1:m<=100000):am Tryz.prog 252 [ae n,ae m] (λr=>r=.pv (BL (nD n m))):=by
 refine aq aE Tryz.func252 ?_;have a:aR (-m)=-m:=ap (by omega) (by omega);simp[nD,a]
 try grind
theorem sN(n:Int):am Tryz.prog 178 [ae n] (λr=>r=.pv (BL (cF n))):=by
 refine aq aE Tryz.func178 ?_;simp;refine ai.intro (yN n 100000 (by omega) (by omega)) ?_;simp[cF]
theorem aJ(n:Int):am Tryz.prog 130 [ae n] (λr=>r=.pv (ae (ah n))):=by
 refine aq aE Tryz.func130 ?_;simp;refine ai.intro (sN n) ?_
 by_cases c:cF n=true
 .obtain⟨h1,b,d⟩:=(aY n).1 c;have a:aR (-n)=-n:=ap (by omega) (by omega);simp[ah,dr,c,a];split<;>split<;>omega
 .simp[ah,c]
theorem qN(n:Int):am Tryz.prog 285 [ae n] (λr=>r=.pv (ae (aW n))):=by
 refine aq aE Tryz.func285 ?_;simp;refine ai.intro (sN n) ?_
 by_cases c:cF n=true
 .obtain⟨h1,g,h⟩:=(aY n).1 c;simp[c];refine ai.intro (aJ n) ?_;have i:dr n<=100000∧0<=dr n:=by unfold dr;split<;>omega
  have f:ah n=dr n:=by unfold ah;rw[RI c]
  have a:aR (2*dr n)=2*dr n:=ap (by omega) (by omega);have b:aR (2*dr n -2)=2*dr n -2:=ap (by omega) (by omega);have e:aR (2*dr n -2+1)=2*dr n -1:=by rw[ap (by omega) (by omega)];omega
  by_cases d:n<0
  .simp[aW,c,f,a,b,e,d]
  .simp[aW,c,f,a,b,e,d]
 .simp[aW,c]
def ax(n m:Int):Int:=if m<0∨100000<m then 2 else if nD n m=true then 0 else 10
theorem jt(n m:Int):am Tryz.prog 179 [ae n,ae m] (λr=>r=.pv (ae (ax n m))):=by
 refine aq aE Tryz.func179 ?_
 by_cases c1:m<0
 .simp[c1,ax]
 by_cases c2:100000<m
 .simp[c1,c2,ax]
 simp[c1,c2,ax];refine ai.intro (yN n m (by omega) (by omega)) ?_;cases nD n m<;>simp
theorem mB(n:Int):am Tryz.prog 70 [ae n] (λr=>r=.pv (.tup [ae (ah n),BL (cF n&&decide (0<n))])):=by
 refine iG [2,3] aE Tryz.func70 (λ_ _=>results_tmp2 rfl _ _ _) ?_;have hk:=aY n
 by_cases c1:0<n
 .by_cases c2:n<=100000
  .have c:cF n=true:=hk.2 ⟨by omega,by omega,by omega⟩;simp[c1,c2,c,ah,dr];omega
  .have c:cF n=false:=by rw[V3];intro h;exact c2 (hk.1 h).2.2
   have c3:¬n<0:=by omega
   simp[c1,c2,c,ah,dr,c3]
 .by_cases c2:n<0
  .by_cases c3:-100000<=n
   .have c:cF n=true:=hk.2 ⟨by omega,by omega,by omega⟩;have a:aR (-n)=-n:=ap (by omega) (by omega);simp[c1,c2,c3,c,ah,dr,a]
   .have c:cF n=false:=by rw[V3];intro h;exact c3 (hk.1 h).2.1
    simp[c1,c2,c3,c,ah,dr]
  .have c:cF n=false:=by rw[V3];intro h;have:=(hk.1 h).1;omega
   simp[c1,c2,c,ah,dr]
def yO(v:Int)(b:Bool):Int:=if v<1∨100000<v then 0 else if b=true then v else-v
theorem BB(v:Int)(b:Bool):am Tryz.prog 267 [ae v,BL b] (λr=>r=.pv (ae (yO v b))):=by
 refine aq aE Tryz.func267 ?_
 by_cases c1:v<1
 .simp[c1,yO]
 by_cases c2:100000<v
 .simp[c1,c2,yO]
 have a:aR (-v)=-v:=ap (by omega) (by omega);cases b<;>simp[c1,c2,yO,a]
theorem u9(n:Int):am Tryz.prog 215 [ae n] (λr=>r=.pv (ae (lX n))):=by
 refine aq aE Tryz.func215 ?_;simp;refine ai.intro (mB n) ?_;simp;refine ai.intro (BB _ _) ?_;simp[yO,lX,ah,dr];have hk:=aY n
 by_cases c:cF n=true
 .obtain⟨h1,a,b⟩:=hk.1 c
  by_cases d:n<0
  .simp[c,d];omega
  .simp[c,d];omega
 .simp[c]
theorem dP(n:Int):am Tryz.prog 122 [ae n] (λr=>r=.pv (ae (aW n))):=by
 refine aq aE Tryz.func122 ?_;simp;refine ai.intro (mB n) ?_;have hk:=aY n
 by_cases c:cF n=true
 .obtain⟨h1,f,g⟩:=hk.1 c
  by_cases d:n<0
  .have e:¬0<n:=by omega
   have a:aR (2*-n)=2*-n:=ap (by omega) (by omega);have b:aR (2*-n -1)=2*-n -1:=ap (by omega) (by omega);simp[c,d,e,ah,dr,aW,a,b]
   try omega
  .have e:0<n:=by omega
   have a:aR (2*n)=2*n:=ap (by omega) (by omega);have b:aR (2*n -2)=2*n -2:=ap (by omega) (by omega);simp[c,d,e,ah,dr,aW,a,b]
   try omega
 .simp[c,ah,aW]
theorem wU(n m:Int):am Tryz.prog 145 [ae n,ae m] (λr=>r=.pv (ae (ax n m))):=by
 refine aq aE Tryz.func145 ?_
 by_cases c1:m<0
 .simp[c1,ax]
 by_cases c2:100000<m
 .simp[c1,c2,ax]
 simp[c1,c2,ax];refine ai.intro (mB n) ?_;have hk:=aY n;have hi:nD n m=true↔n≠0∧-m<=n∧n<=m:=by unfold nD;simp
 by_cases c:cF n=true
 .obtain⟨h1,g,i⟩:=hk.1 c;have b:ah n=dr n:=by unfold ah;rw[RI c]
  have f:dr n=if n<0 then-n else n:=rfl;have a:dr n≠0:=by rw[f];split<;>omega
  by_cases d:nD n m=true
  .have:=hi.1 d;have e:¬m<dr n:=by rw[f];split<;>omega
   simp[b,a,d,e]
  .have:¬(n≠0∧-m<=n∧n<=m):=λh=>d (hi.2 h);have e:m<dr n:=by rw[f];split<;>omega
   simp[b,a,d,e]
 .have b:ah n=0:=by unfold ah;rw[RH c]
  have d:¬nD n m=true:=λh=>c (hk.2 (by have:=hi.1 h;omega));simp[b,d]
theorem iI(l:List Int)(c:l.length<=1000000):am Tryz.prog 77 [.seq false 1 (aa l)] (λr=>r=.own true 1 (aa l)):=by
 refine am.own0 (R:=λr=>r=.own true 1 (aa l)∨(l=[]∧r=.pv (.lit (.slice none 0 0)))) ?_ (λr h=>h.imp id λ⟨a,b⟩=>⟨b,true,1,by rw[a];rfl⟩);refine aq aE Tryz.func77 ?_;simp;cases l with
 |nil=>simp[aa]
 |cons x l=>simp[aa]at c⊢;omega
theorem vb(l:List Int)(n:l.length<=1000000)(g:Nat)(cap:List PV)(p:Int->Bool)(d:∀r,eI r cap=cap)(hp:jG cap=false)(b:∀k,bO k cap)
 (h:∀x∈l,am Tryz.prog g (ae x::cap) (λr=>r=.pv (BL (p x)))):am Tryz.prog 230 [.seq false 1 (aa l),.fn (.func g) [] cap] (λr=>r=.pv (ae (iH p l))):=by
 refine aq aE Tryz.func230 ?_;simp;refine av.intro (S:=λ(i:Nat)=>⟨[(0,.pv (.seq false 1 (aa l))),(1,.pv (.fn (.func g) [] cap)),(7,.pv (ae l.length)),(8,.pv (ae i))],[]⟩) (λi=>i<=l.length∧∀j (hj:j<l.length),j<i->p l[j]=false) (λi=>l.length -i) 0 ?_ ⟨RW _,λj _ h=>by omega⟩ ?_
 .exact af.to (by simp) rfl (by simp) (by simp[b]) (by simp)
 .intro i ⟨hi,ho⟩
  by_cases c:i<l.length
  .have m:=dq i;have hx:=h l[i] (RK c);simp[c,hp,d];refine ai.intro hx ?_;cases a:p l[i]
   .simp;refine⟨i+1,by dsimp only;omega,⟨by omega,λj hj f=>?_⟩,af.to (by simp[m]) rfl (by simp) (by simp[b]) (by simp)⟩
    by_cases e:j=i
    .subst e;exact a
    .exact ho j hj (by omega)
   .simp;rw[f9 c ho a]
  .simp[c];rw[ed (λj hj=>ho j hj (by omega))]
theorem ga(l:List Int)(n:l.length<=1000000)(g:Nat)(cap:List PV)(p:Int->Bool)(d:∀r,eI r cap=cap)(hp:jG cap=false)(m:∀k,bO k cap)
 (h:∀x∈l,am Tryz.prog g (ae x::cap) (λr=>r=.pv (BL (p x)))):am Tryz.prog 204 [.seq false 1 (aa l),.fn (.func g) [] cap] (λr=>r=.pv (BL (l.any p))):=by
 refine aq aE Tryz.func204 ?_;simp[hp,d];refine ai.intro (vb l n g cap p d hp m h) ?_;have:decide ((0:Int)<=iH p l)=l.any p:=by
  by_cases c:∃i,∃h:i<l.length,p l[i]=true∧∀j (hj:j<l.length),j<i->p l[j]=false
  .obtain⟨i,hi,h1,f⟩:=c;rw[f9 hi f h1,Tm.2 ⟨_,RK hi,h1⟩];simp
  .have a:∀j (hj:j<l.length),p l[j]=false:=by
    intro j
    induction j using Nat.strongRecOn with
    |ind j o=>
     intro hj;cases e:p l[j]
     .rfl
     .exact absurd ⟨j,hj,e,λk hk b=>o k b hk⟩ c
   rw[ed a];have:l.any p=false:=by
    rw[Tv];intro x hx;obtain⟨j,hj,rfl⟩:=RU hx;rw[a j hj];simp
   rw[this];rfl
 simp[this]
def bk(p:Int->Bool)(l:List Int):List Int:=l.filter λx=>!p x
theorem jS(p:Int->Bool)(l:List Int):(bk p l).length<=l.length:=Ta _ _
theorem iz(p:Int->Bool)(l:List Int){j:Nat}(h:j<l.length):bk p (l.take (j+1))=if p l[j]=true then bk p (l.take j)else bk p (l.take j)++[l[j]]:=by
 unfold bk;rw[SA,RF h,Ty,S5];simp only[Sz,U0];cases p l[j]<;>simp
theorem mY(p:Int->Bool)(l:List Int)(h:∀x∈l,p x=false):bk p l=l:=TG.2 λx hx=>by rw[h x hx];rfl
def KK(p:Int->Bool)(zs:List Int)(k:Option Nat)(rows:List (List PV)):Prop:=k=some (bk p zs).length∧rows=aD (bk p zs++List.replicate (zs.length -(bk p zs).length) 0)
theorem iJ(zs:List Int)(V:zs.length<=1000000)(g:Nat)(cap:List PV)(p:Int->Bool)(J:∀r,eI r cap=cap)(hp:jG cap=false)(C:∀k,bO k cap)(ho:q7 cap)
 (h:∀x∈zs,am Tryz.prog g (ae x::cap) (λr=>r=.pv (BL (p x)))):wx Tryz.prog 150 1 (aD zs) [.fn (.func g) [] cap] (KK p zs):=by
 have Q:=vb zs V g cap p J hp C h;refine wx.ofInts (by kernel_rfl) ⟨⟨trivial,ho⟩,trivial⟩ ⟨⟨trivial,C 0⟩,trivial⟩ (λX pre d cp T W=>?_) (λU q cp=>?_)
 .refine nC aE Tryz.func150 ?_;simp[hp,J,Hq];refine aj.introP Q ?_
  by_cases c:∃i,∃h:i<zs.length,p zs[i]=true∧∀j (hj:j<zs.length),j<i->p zs[j]=false
  rotate_left
  .have o:∀j (hj:j<zs.length),p zs[j]=false:=by
    intro j
    induction j using Nat.strongRecOn with
    |ind j Z=>
     intro hj;cases e:p zs[j]
     .rfl
     .exact absurd ⟨j,hj,e,λk hk L=>Z k L hk⟩ c
   have hd:=mY p zs λx hx=>by
    obtain⟨j,hj,rfl⟩:=RU hx;exact o j hj
   rw[ed o];simp;exact⟨some zs.length,zs,⟨by rw[hd],by rw[hd];simp⟩,rfl,λm M=>by cases M;exact RJ _,rfl,rfl⟩
  obtain⟨t,z,A,o⟩:=c;rw[f9 z o A];have N:=dq t;have D:bk p (zs.take t)=zs.take t:=mY p _ λx hx=>by
   obtain⟨j,hj,rfl⟩:=RU hx;rw[RN]at hj;rw[S7];exact o j (by omega) (by omega)
  simp;refine av.intro (S:=λ(y:Nat×List Int)=>⟨[(0,.pv (.bsl 0 1 pre.length zs.length cp)),(1,.pv (.fn (.func g) [] cap)),(5,.pv (ae ((bk p (zs.take y.1)).length:Nat))),(6,.pv (ae y.1))],[blk pre y.2 d]⟩)
   (λy=>y.1<=zs.length∧(bk p (zs.take y.1)).length<y.1∧y.2.length=zs.length∧y.2.take (bk p (zs.take y.1)).length=bk p (zs.take y.1)∧y.2.drop y.1=zs.drop y.1) (λy=>zs.length -y.1) (t+1,zs) ?_ ?_ ?_
  .refine af.to ?_ rfl (by simp) (by simp[C]) (by simp[fM]);have:(bk p (zs.take (t+1))).length=t:=by rw[iz p zs z,RI A,D,RN];omega
   simp[N,this]
  .have:bk p (zs.take (t+1))=zs.take t:=by rw[iz p zs z,RI A,D]
   refine⟨by dsimp only;omega,?_,rfl,?_,rfl⟩
   .dsimp only;rw[this,RN];omega
   .dsimp only;rw[this,RN];congr 1;omega
  .rintro⟨j,b⟩ ⟨h1,P,H,B,I⟩;dsimp only at h1 P H B I
   by_cases G:j<zs.length
   .have R:=dq j;have K:b[j]'(by omega)=zs[j]:=by
     have:=Ul (λl=>l[0]?) I;simp only[Tf,UG]at this;rw[RF (by omega),RF G]at this;exact TX this
    have s:=ll pre b d (i:=j) (by omega);rw[K]at s;have f:=eP pre b d;have hx:=h zs[j] (RK G);have a:=iz p zs G;simp[G,hp,J,s,f];refine⟨by omega,ai.intro hx ?_⟩;cases E:p zs[j]
    .rw[E]at a;simp only[Ss,S8]at a;have O:=dq ((bk p (zs.take j)).length);have F:=wT pre b d (i:=(bk p (zs.take j)).length) zs[j] (by omega);simp[f];refine⟨by omega,by omega,(j+1,b.set (bk p (zs.take j)).length zs[j]),by(try dsimp only);omega,⟨by(try dsimp only);omega,?_,by(try dsimp only);rw[Sg];exact H,?_,?_⟩,af.to ?_ (by simp[F]) (by simp) (by simp[C]) (by simp[fM])⟩
     .dsimp only;rw[a,RP,S9];omega
     .dsimp only;rw[a,RP,S9,SA,VQ (RJ _),B,Su (by omega)];rfl
     .dsimp only;rw[Vg (by omega)];have:=Ul (List.drop 1) I
      rwa [Ti,Ti]at this
     .simp[R,O,a]
    .rw[E]at a;simp only[TL]at a;simp;refine⟨(j+1,b),by(try dsimp only);omega,⟨by(try dsimp only);omega,by dsimp only;rw[a];omega,H,by dsimp only;rw[a];exact B,?_⟩,af.to (by simp[R,a]) rfl (by simp) (by simp[C]) (by simp[fM])⟩;dsimp only;have:=Ul (List.drop 1) I
     rwa [Ti,Ti]at this
   .have:j=zs.length:=by omega
    subst this;rw[R8]at P B;have f:=eP pre b d;have u:=sK pre b d (i:=(bk p zs).length) (n:=zs.length -(bk p zs).length) 0 (by omega);simp[H];refine⟨⟨by omega,by omega⟩,by omega,by omega,⟨by omega,by omega⟩,some (bk p zs).length,bk p zs++List.replicate (zs.length -(bk p zs).length) 0,⟨rfl,rfl⟩,by simp;omega,λm M=>by cases M;omega,rfl,?_⟩;rw[u,B,Sc (by omega),Tc]
 .subst U;refine aq aE Tryz.func150 ?_;simp[hp,J];refine ai.intro (Q.conv ⟨_,_,rfl,λw v Y=>⟨q,cp,Y,RW _,.inl rfl⟩,_,_,rfl,PV.as.refl _,rfl⟩) ?_;rw[ed (λj hj=>by simp at hj)];simp;exact⟨some 0,⟨rfl,rfl⟩,.inr rfl,rfl⟩
end Go.AX
namespace Go.AX
set_option maxRecDepth 8000
open Go.Proofs
set_option linter.unusedSimpArgs false
structure Mk where
  v:Int
  lev:Int
  rea:Int
  pla:Int
instance:Inhabited Mk:=⟨⟨0,0,0,0⟩⟩
structure Tr where
  marks:List Mk
  lits:List Int
  beg:List Int
def pR(x:Mk):List PV:=[ae x.v,ae x.lev,ae x.rea,ae x.pla]
def cY(T:Tr):List PV:=[.seq false 4 (T.marks.map pR),.seq false 1 (aa T.lits),.seq false 1 (aa T.beg),BL true]
def gv(T:Tr):List SV:=[.own true 4 (T.marks.map pR),.own true 1 (aa T.lits),.own true 1 (aa T.beg),.pv (BL true)]
abbrev bM(T:Tr):PV:=.iptr 4 [cY T] 0 0
@[simp] theorem og(k:Nat)(l:List Mk):bX k (l.map pR):=by
 induction l with
 |nil=>trivial
 |cons x xs a=>exact⟨⟨trivial,trivial,trivial,trivial,trivial⟩,a⟩
@[simp] theorem PB(r:Nat->Nat->PV)(l:List Mk):kJ r (l.map pR)=l.map pR:=by
 rw[bW,SJ];congr 1
theorem cI{h:List (List SV)}{b:Nat}{T:Tr}(d:h[b]?=some (gv T))(n:Nat):bG h (n+1) b 0=bM T:=by
 obtain⟨c,a⟩:=RE.1 d;simp[bG,c,a,gv,cY,frzC]
def Tr.ok(T:Tr):Prop:=1<=T.marks.length∧T.marks.length<=100001
theorem mC(T:Tr):am Tryz.prog 119 [bM T] (λr=>r=.pv (BL true)):=by
 refine aq aE Tryz.func119 ?_;simp[bM,cY]
def bJ(T:Tr)(i:Int):Mk:=T.marks.getD i.toNat default
def fE(T:Tr)(l:Int):Int:=if ax l ((T.marks.length:Int) -1)≠0 then 10 else if(bJ T (ah l)).v≠0 then 21 else 0
theorem dw{n m:Int}(a:0<=m∧m<=100000):ax n m=0↔n≠0∧-m<=n∧n<=m:=by
 unfold ax;rw[RH (by omega)];have:nD n m=true↔n≠0∧-m<=n∧n<=m:=by unfold nD;simp
 split
 .rename_i h;exact⟨λ_=>this.1 h,λ_=>rfl⟩
 .rename_i h;exact⟨λx=>by simp at x,λx=>absurd (this.2 x) h⟩
theorem o9{n m:Int}(a:0<=m∧m<=100000)(h:ax n m=0):1<=ah n∧ah n<=m∧cF n=true∧ah n=dr n:=by
 obtain⟨h1,c,d⟩:=(dw a).1 h;have hk:=(aY n).2 ⟨h1,by omega,by omega⟩;have b:ah n=dr n:=by unfold ah;rw[RI hk]
 rw[b];unfold dr;refine⟨?_,?_,hk,rfl⟩<;>split<;>omega
theorem Dn(T:Tr)(l:Int)(ht:T.ok):am Tryz.prog 172 [bM T,ae l] (λr=>r=.pv (ae (fE T l))):=by
 refine aq aE Tryz.func172 ?_;obtain⟨t1,g⟩:=ht;have f:aR ((T.marks.length:Int) -1)=(T.marks.length:Int) -1:=ap (by omega) (by omega);have d:=mC T;have a:fE T l=if ax l ((T.marks.length:Int) -1)≠0 then 10 else if(bJ T (ah l)).v≠0 then 21 else 0:=rfl;generalize fE T l=E at a⊢;simp only[bM,cY]at d;simp[bM,cY,f];refine ai.intro d ?_;simp[f];refine ai.intro (jt l ((T.marks.length:Int) -1)) ?_;simp;refine⟨λc=>by rw[a,RI c],λc=>?_⟩;obtain⟨h,j,v3,v4⟩:=o9 (by omega) c;obtain⟨i,hi⟩:∃i:Nat,ah l=(i:Int):=⟨(ah l).toNat,by omega⟩;have b:i<T.marks.length:=by omega
 have e:bJ T (ah l)=T.marks[i]:=by unfold bJ;rw[hi,SQ,RG,RF b];rfl
 rw[e,RH (by simp[c])]at a;refine br.intro (aJ l) ?_;simp[hi,b,pR];exact⟨λc=>by rw[a,RI c],λc=>by rw[a,RH (by simp[c])]⟩
def dH(T:Tr)(v:Int):Mk×Bool:=if v<1∨(T.marks.length:Int)<=v∨(bJ T v).v=0 then(⟨0,-1,-1,-1⟩,false)else(bJ T v,true)
theorem BC(T:Tr)(v:Int)(ht:T.ok):am Tryz.prog 247 [bM T,ae v] (λr=>r=.pv (.tup [.agg (pR (dH T v).1),BL (dH T v).2])):=by
 refine mu [] [.cell 4 _,.tmp 5] aE Tryz.func247 ?_;have c:=mC T;obtain⟨t1,e⟩:=ht;have a:dH T v=if v<1∨(T.marks.length:Int)<=v∨(bJ T v).v=0 then(⟨0,-1,-1,-1⟩,false)else(bJ T v,true):=rfl;generalize dH T v=R at a⊢;simp only[bM,cY]at c;simp[bM,cY];refine ai.intro c ?_
 by_cases c1:v<1
 .rw[RI (.inl c1)]at a;subst a;simp[c1,pR]
 by_cases c2:(T.marks.length:Int)<=v
 .rw[RI (.inr (.inl c2))]at a;subst a;simp[c1,c2,pR]
 obtain⟨i,rfl⟩:∃i:Nat,v=(i:Int):=⟨v.toNat,by omega⟩;have b:i<T.marks.length:=by omega
 have c3:¬T.marks.length<=i:=by omega
 have d:bJ T i=T.marks[i]:=by unfold bJ;rw[SQ,RG,RF b];rfl
 rw[d]at a
 by_cases c4:T.marks[i].v=0
 .rw[RI (.inr (.inr c4))]at a;subst a;simp[c1,c3,b,c4,pR]
 .rw[RH (by omega)]at a;subst a;simp[c1,c3,b,c4,pR]
theorem fN(T:Tr)(v:Int)(ht:T.ok):am Tryz.prog 170 [bM T,ae v] (λr=>r=.pv (ae (dH T v).1.lev)):=by
 refine aq aE Tryz.func170 ?_;have h:=BC T v ht;simp only[bM,cY,pR]at h;simp[bM,cY];refine ai.intro h ?_;simp
theorem gx(T:Tr)(v:Int)(ht:T.ok):am Tryz.prog 167 [bM T,ae v] (λr=>r=.pv (ae (dH T v).1.rea)):=by
 refine aq aE Tryz.func167 ?_;have h:=BC T v ht;simp only[bM,cY,pR]at h;simp[bM,cY];refine ai.intro h ?_;simp
theorem mZ(T:Tr)(v:Int)(ht:T.ok):am Tryz.prog 245 [bM T,ae v] (λr=>r=.pv (ae (dH T v).1.pla)):=by
 refine aq aE Tryz.func245 ?_;have h:=BC T v ht;simp only[bM,cY,pR]at h;simp[bM,cY];refine ai.intro h ?_;simp
def cu(T:Tr)(l:Int):Int:=if ax l ((T.marks.length:Int) -1)≠0 then 0 else if l<0 then aR (-(bJ T (ah l)).v)else(bJ T (ah l)).v
theorem fO(T:Tr)(l:Int)(ht:T.ok):am Tryz.prog 103 [bM T,ae l] (λr=>r=.pv (ae (cu T l))):=by
 refine aq aE Tryz.func103 ?_;obtain⟨t1,g⟩:=ht;have f:aR ((T.marks.length:Int) -1)=(T.marks.length:Int) -1:=ap (by omega) (by omega);have d:=mC T;have a:cu T l=if ax l ((T.marks.length:Int) -1)≠0 then 0 else if l<0 then aR (-(bJ T (ah l)).v)else(bJ T (ah l)).v:=rfl;generalize cu T l=E at a⊢;simp only[bM,cY]at d;simp[bM,cY,f];refine ai.intro d ?_;simp[f];refine aH.intro (r:=.pv (ae (ax l ((T.marks.length:Int) -1)))) (λ_=>jt l ((T.marks.length:Int) -1)) ?_;simp;refine⟨λc=>by rw[a,RI c],λc=>?_⟩;obtain⟨h,j,v3,v4⟩:=o9 (by omega) c;obtain⟨i,hi⟩:∃i:Nat,ah l=(i:Int):=⟨(ah l).toNat,by omega⟩;have b:i<T.marks.length:=by omega
 have e:bJ T (ah l)=T.marks[i]:=by unfold bJ;rw[hi,SQ,RG,RF b];rfl
 rw[e,RH (by simp[c])]at a;refine br.intro (aJ l) ?_;simp[hi,b,pR];exact⟨λc=>by rw[a,RI c],λc=>by rw[a,RH (by omega)]⟩
theorem ft(T:Tr)(b:T.lits.length<=1000000):am Tryz.prog 58 [bM T] (λr=>r=.own true 1 (aa T.lits)):=by
 refine aq aE Tryz.func58 ?_;have a:=mC T;simp only[bM,cY]at a;simp[bM,cY];refine ai.intro a ?_;simp;refine ai.intro (iI T.lits b) ?_;simp
end Go.AX
namespace Go.AX
set_option maxRecDepth 16000
open Go.Proofs
set_option linter.unusedSimpArgs false
def gy(T:Tr)(l rea:Int):Tr:=⟨T.marks.set (ah l).toNat ⟨if l<0 then-1 else 1,T.beg.length,rea,T.lits.length⟩,T.lits++[l],T.beg⟩
def Hr:Sch:=
 let R11:Sch:=.fork [(11,.take 12 (.take 13 (.fork [(14,.done)])))]
 let A:Sch:=.fork [(9,.fork [(10,R11)])]
 .take 0 (.take 1 (.take 2 (.take 3 (.take 5 (.take 6 (.take 7 (.fork [(4,.fork [(8,A)]),(8,.fork [(4,A),(9,.fork [(4,.fork [(10,R11)]),(10,.fork [(4,R11)])])])])))))))
theorem iL(k:Nat)(T:Tr):cX k (gv T):=⟨og k _,bc k _,bc k _,trivial,trivial⟩
theorem dQ{k:Nat}{x:List SV}(hx:cX k x):∀(b:Nat){h:List (List SV)},ep k h->ep k (h.set b x)
 |_,[],_=>trivial
 |0,_::_,a=>⟨hx,a.2⟩
 |b+1,_::_,a=>⟨a.1,dQ hx b a.2⟩
theorem dt{h:List (List SV)}{b:Nat}{x:List SV}(a:h[b]?=some x):h.set b x=h:=by
 apply Tl;intro i;rw[Sf];split
 .rename_i e;subst e;rw[RI (RE.1 a).1,a]
 .rfl
theorem wV{h:List (List SV)}{b:Nat}(a:b<h.length)(y x:List SV):(h++[y]).set b x=h.set b x++[y]:=U7 _ _ a
theorem Do(h:List (List SV))(b:Nat)(T:Tr)(n:h[b]?=some (gv T))(l rea:Int)(q:0<=ah l∧ah l<T.marks.length)(hs:T.lits.length<=1000000):
 aB Tryz.prog 173 [.ptr b 0,ae l,ae rea] h (λr h'=>h'=h.set b (gv (gy T l rea))∧r=.pv (.tup [])):=by
 refine iK [] [] (h.set b (gv (gy T l rea))) (by simp) (λo=>by rw[Sg];exact dQ (iL _ _) b o) aE Tryz.func173 ?_;obtain⟨a,e⟩:=RE.1 n;obtain⟨i,hi⟩:∃i:Nat,ah l=(i:Int):=⟨(ah l).toNat,by omega⟩;have j:i<T.marks.length:=by omega
 have d:∀y,(h++[y])[b]?=some (gv T):=λy=>by rw[RL a];exact n
 have f:∀y x,(h++[y]).set b x=h.set b x++[y]:=λy x=>wV a y x;simp only[gv]at d;have g:∀x y,(h.set b x++[y])[b]?=some x:=λx y=>by rw[RL (by simpa using a)];simp[a]
 have m:∀x y z,(h.set b x++[y]).set b z=h.set b z++[y]:=λx y z=>by rw[wV (by simpa using a),UY]
 have p:∀x:Mk,(T.marks.map pR).set i [ae x.v,ae x.lev,ae x.rea,ae x.pla]=(T.marks.set i x).map pR:=λx=>by rw[Wg];rfl
 have k:aa T.lits++[[ae l]]=aa (T.lits++[l]):=qM _ _
 by_cases c:l<0
 .simp[e,a,gv,c,d,f];refine br.intro (aJ l) ?_;simp[e,a,gv,c,d,f,g,m,hi,j,pR,gy,k,fZ];omega
 .simp[e,a,gv,c,d,f];refine br.intro (aJ l) ?_;simp[e,a,gv,c,d,f,g,m,hi,j,pR,gy,k,fZ];omega
def qd(T:Tr):Tr:=⟨T.marks,T.lits,T.beg++[(T.lits.length:Int)]⟩
def gQ(T:Tr)(l:Int):Tr:=if fE T l=0 then gy (qd T) l (-1)else T
def wW(T:Tr)(l rea:Int):Int:=if fE T l≠0 then fE T l else if rea<0 then 2 else 0
def jb(T:Tr)(l rea:Int):Tr:=if wW T l rea=0 then gy T l rea else T
theorem vc{T:Tr}(ht:T.ok){l:Int}(h:fE T l=0):ax l ((T.marks.length:Int) -1)=0∧(bJ T (ah l)).v=0∧1<=ah l∧ah l<T.marks.length:=by
 unfold fE at h;split at h
 .cases h
 .rename_i h1;split at h
  .cases h
  .rename_i b;have a:ax l ((T.marks.length:Int) -1)=0:=by simpa using h1
   obtain⟨c,d,_,_⟩:=o9 (by have:=ht.1;have:=ht.2;omega) a;exact⟨a,by simpa using b,c,by omega⟩
theorem BD(h:List (List SV))(b:Nat)(T:Tr)(f:h[b]?=some (gv T))(l:Int)(ht:T.ok)(hs:T.lits.length<=1000000)(p:T.beg.length<=1000000):
 aB Tryz.prog 104 [.ptr b 0,ae l] h (λr h'=>h'=h.set b (gv (gQ T l))∧r=.pv (ae (fE T l))):=by
 refine iK [3] [.tmp 4] (h.set b (gv (gQ T l))) (by simp) (λo=>by rw[Sg];exact dQ (iL _ _) b o) aE Tryz.func104 ?_;obtain⟨d,g⟩:=RE.1 f;have j:=Dn T l ht;have a:∀n,bG h (n+1) b 0=bM T:=λn=>cI f n;simp;simp only[bM]at j a;have k:=j;rw[←a 0]at k;refine aj.introP (r:=.pv (ae (fE T l))) (by simpa[a]using j) ?_ (by simp[d]) (by simp);simp;refine⟨λc=>?_,λc=>?_⟩
 .obtain⟨s,t,u,q⟩:=vc ht c;have e:gQ T l=gy (qd T) l (-1):=by unfold gQ;rw[RI c]
  have m:=Do (h.set b (gv (qd T))) b (qd T) (by simp[d]) l (-1) ⟨by omega,q⟩ hs;refine aQ.meet Hr ⟨[(0,.pv (.ptr b 0)),(1,.pv (ae l)),(5,.pv (ae (fE T l)))],h.set b (gv (qd T))⟩ (by kernel_rfl) ?_ ?_
  .have i:aa T.beg++[[ae (T.lits.length:Int)]]=aa (T.beg++[(T.lits.length:Int)]):=qM _ _;simp[Hr,g,d,gv];and_intros
   all_goals first
    |omega
    |exact af.keep (by simp) (by simp[qd,i])
  .simp;refine aj.intro m ?_;rintro _ _ ⟨rfl,rfl⟩;simp[e,c,fZ];exact SK (by simp)
 .have e:gQ T l=T:=by unfold gQ;rw[RH c]
  simp[e,dt f,fZ]
theorem vd(h:List (List SV))(b:Nat)(T:Tr)(e:h[b]?=some (gv T))(l rea:Int)(ht:T.ok)(hs:T.lits.length<=1000000):
 aB Tryz.prog 99 [.ptr b 0,ae l,ae rea] h (λr h'=>h'=h.set b (gv (jb T l rea))∧r=.pv (ae (wW T l rea))):=by
 refine iK [] [.tmp 6] (h.set b (gv (jb T l rea))) (by simp) (λm=>by rw[Sg];exact dQ (iL _ _) b m) aE Tryz.func99 ?_;obtain⟨g,k⟩:=RE.1 e;have i:=Dn T l ht;have f:∀n,bG h (n+1) b 0=bM T:=λn=>cI e n;have a:wW T l rea=if fE T l≠0 then fE T l else if rea<0 then 2 else 0:=rfl;simp only[bM]at i f;simp;refine aj.introP (r:=.pv (ae (fE T l))) (by simpa[f]using i) ?_ (by simp[g]) (by simp)
 by_cases c:fE T l=0
 .rw[RH (by simp[c])]at a;obtain⟨p,q,s,o⟩:=vc ht c
  by_cases c2:rea<0
  .rw[RI c2]at a;have d:jb T l rea=T:=by unfold jb;rw[RH (by rw[a];decide)]
   simp[c,c2,a,d,dt e,fZ]
  .rw[RH c2]at a;have d:jb T l rea=gy T l rea:=by unfold jb;rw[RI a]
   have j:=Do h b T e l rea ⟨by omega,o⟩ hs;simp[c,c2];refine aj.intro j ?_;rintro _ _ ⟨rfl,rfl⟩;simp[d,a,c,fZ];exact SK (by simp)
 .rw[RI c]at a;have d:jb T l rea=T:=by unfold jb;rw[RH (by rw[a];exact c)]
  simp[c,a,d,dt e,fZ]
def jT(n:Nat):Tr:=⟨List.replicate (n+1) ⟨0,0,0,0⟩,[],[]⟩
theorem KL(h:List (List SV))(n:Nat)(hn:n<=100000):
 aB Tryz.prog 63 [ae n] h (λr h'=>r=.pv (.tup [.ptr h.length 0,ae 0])∧h'=h++[[.own true 4 ((jT n).marks.map pR),.pv (.lit (.slice none 0 0)),.pv (.lit (.slice none 0 0)),.pv (BL true)]]):=by
 refine uX [2,3] aE Tryz.func63 (λ_ _=>results_tmp2 rfl _ _ _) ?_;have a:=dq n;have c2:¬(n:Int)<0:=by omega
 have c3:¬100000<(n:Int):=by omega
 have c4:¬100000<n:=by omega
 simp[c2,c3,c4,a,jT,pR];omega
end Go.AX
namespace Go.AX
open Go.Proofs
set_option linter.unusedSimpArgs false
structure En where
  l:Int
  lev:Int
  rea:Int
instance:Inhabited En:=⟨⟨0,0,0⟩⟩
structure RT where
  vars:Int
  rows:List En
  dep:Int
def qf(t:RT)(v:Int):Int:=iH (λx:En=>decide (ah x.l=v)) t.rows
theorem lm{t:RT}{v:Int}(h:0<=qf t v):∃i:Nat,∃hi:i<t.rows.length,qf t v=i∧ah t.rows[i].l=v:=by
 unfold qf iH at*;split at h
 .rename_i i a;rw[SR]at a;obtain⟨h1,b,_⟩:=a;exact⟨i,h1,rfl,by simpa using b⟩
 .omega
def mayR(t:RT)(l:Int):Int:=if ax l t.vars≠0 then 10 else if 0<=qf t (ah l)then 21 else 0
def PC(t:RT)(v:Int):Int×Int:=if qf t v<0 then(-1,-1)else((t.rows.getD (qf t v).toNat default).lev,(t.rows.getD (qf t v).toNat default).rea)
end Go.AX