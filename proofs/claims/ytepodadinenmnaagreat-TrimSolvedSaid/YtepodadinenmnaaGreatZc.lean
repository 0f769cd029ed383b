/-
  Contracts: literals; and what follows.
-/
import Derived.Test.YtepodadinenmnaaGreatZb
import Derived.Test.YtepodadinenmnaaGreatZ8
set_option linter.unusedSimpArgs false
set_option maxRecDepth 16000
namespace Go.AX
open Go.Proofs Go.Proofs.Tryz
def uY(n m:Int):Bool:=decide (n≠0)&&(decide (-m<=n)&&decide (n<=m))
def dF(n:Int):Bool:=uY n 100000
def gr(n:Int):Int:=if n<0 then-n else n
def aq(n:Int):Int:=if dF n=true then gr n else 0
def bH(n:Int):Int:=if dF n=true then(if n<0 then 2*gr n -1 else 2*gr n -2)else-1
def ny(n:Int):Int:=if dF n=true then-n else 0
theorem bO(n:Int):dF n=true↔n≠0∧-100000<=n∧n<=100000:=by unfold dF uY;simp
theorem Bk(n m:Int)(h0:0<=m)(h1:m<=100000):aw prog 252 [ak n,ak m] (λr=>r=.pv (BL (uY n m))):=by
 refine aB aP func252 ?_;have a:bG (-m)=-m:=aC (by omega) (by omega);simp[uY,a]
 try grind
theorem rl(n:Int):aw prog 178 [ak n] (λr=>r=.pv (BL (dF n))):=by
 refine aB aP func178 ?_;simp;refine ap.intro (Bk n 100000 (by omega) (by omega)) ?_;simp[dF]
theorem aX(n:Int):aw prog 130 [ak n] (λr=>r=.pv (ak (aq n))):=by
 refine aB aP func130 ?_;simp;refine ap.intro (rl n) ?_;by_cases c:dF n=true;obtain⟨h1,b,d⟩:=(bO n).1 c;have a:bG (-n)=-n:=aC (by omega) (by omega);simp[aq,gr,c,a];split<;>split<;>omega;simp[aq,c]
theorem sB(n:Int):aw prog 278 [ak n] (λr=>r=.pv (ak (ny n))):=by
 refine aB aP func278 ?_;simp;refine ap.intro (rl n) ?_;by_cases c:dF n=true;obtain⟨h1,b,d⟩:=(bO n).1 c;have a:bG (-n)=-n:=aC (by omega) (by omega);simp[ny,c,a];simp[ny,c]
theorem tg(n:Int):aw prog 285 [ak n] (λr=>r=.pv (ak (bH n))):=by
 refine aB aP func285 ?_;simp;refine ap.intro (rl n) ?_;by_cases c:dF n=true;obtain⟨h1,g,h⟩:=(bO n).1 c;simp[c];refine ap.intro (aX n) ?_;have i:gr n<=100000∧0<=gr n:=by unfold gr;split<;>omega
 have f:aq n=gr n:=by unfold aq;rw[Vt c]
 have a:bG (2*gr n)=2*gr n:=aC (by omega) (by omega);have b:bG (2*gr n -2)=2*gr n -2:=aC (by omega) (by omega);have e:bG (2*gr n -2+1)=2*gr n -1:=by rw[aC (by omega) (by omega)];omega
 by_cases d:n<0;simp[bH,c,f,a,b,e,d];simp[bH,c,f,a,b,e,d];simp[bH,c]
def aQ(n m:Int):Int:=if m<0∨100000<m then 2 else if uY n m=true then 0 else 10
theorem ll(n m:Int):aw prog 179 [ak n,ak m] (λr=>r=.pv (ak (aQ n m))):=by
 refine aB aP func179 ?_;by_cases c1:m<0;simp[c1,aQ];by_cases c2:100000<m;simp[c1,c2,aQ];simp[c1,c2,aQ];refine ap.intro (Bk n m (by omega) (by omega)) ?_;cases uY n m<;>simp
theorem dy(l:af)(c:l.length<=1000000):aw prog 77 [.seq false 1 (am l)] (λr=>r=.own true 1 (am l)):=by
 refine aw.own0 (R:=λr=>r=.own true 1 (am l)∨(l=[]∧r=.pv (.lit (.slice none 0 0)))) ?_ (λr h=>h.imp id λ⟨a,b⟩=>⟨b,true,1,by rw[a];rfl⟩);refine aB aP func77 ?_;simp;cases l with
 |nil=>simp[am]
 |cons x l=>simp[am]at c⊢;omega
theorem lQ(l:af)(n:l.length<=1000000)(g:Nat)(cap:aD)(p:Int->Bool)(d:∀r,eG r cap=cap)(hp:gm cap=false)(b:∀k,b7 k cap)
 (h:∀x∈l,aw prog g (ak x::cap) (λr=>r=.pv (BL (p x)))):aw prog 230 [.seq false 1 (am l),.fn (.func g) [] cap] (λr=>r=.pv (ak (gD p l))):=by
 refine aB aP func230 ?_;simp;refine aM.intro (S:=λ(i:Nat)=>⟨[(0,.pv (.seq false 1 (am l))),(1,.pv (.fn (.func g) [] cap)),(7,.pv (ak l.length)),(8,.pv (ak i))],[]⟩) (λi=>i<=l.length∧∀j (hj:j<l.length),j<i->p l[j]=false) (λi=>l.length -i) 0 ?_ ⟨VH _,λj _ h=>by omega⟩ ?_;exact av.to (by simp) rfl (by simp) (by simp[b]) (by simp);intro i ⟨hi,ho⟩;by_cases c:i<l.length;have m:=dU i;have hx:=h l[i] (Vx c);simp[c,hp,d];refine ap.intro hx ?_;cases a:p l[i];simp;refine⟨i+1,by dsimp only;omega,⟨by omega,λj hj f=>?_⟩,av.to (by simp[m]) rfl (by simp) (by simp[b]) (by simp)⟩;by_cases e:j=i;subst e;exact a;exact ho j hj (by omega);simp;rw[d0 c ho a];simp[c];rw[cw (λj hj=>ho j hj (by omega))]
theorem eQ(l:af)(n:l.length<=1000000)(g:Nat)(cap:aD)(p:Int->Bool)(d:∀r,eG r cap=cap)(hp:gm cap=false)(m:∀k,b7 k cap)
 (h:∀x∈l,aw prog g (ak x::cap) (λr=>r=.pv (BL (p x)))):aw prog 204 [.seq false 1 (am l),.fn (.func g) [] cap] (λr=>r=.pv (BL (l.any p))):=by
 refine aB aP func204 ?_;simp[hp,d];refine ap.intro (lQ l n g cap p d hp m h) ?_;have:decide ((0:Int)<=gD p l)=l.any p:=by
  by_cases c:∃i,∃h:i<l.length,p l[i]=true∧∀j (hj:j<l.length),j<i->p l[j]=false;obtain⟨i,hi,h1,f⟩:=c;rw[d0 hi f h1,XS.2 ⟨_,Vx hi,h1⟩];simp;have a:∀j (hj:j<l.length),p l[j]=false:=by
   intro j
   induction j using Nat.strongRecOn with
   |ind j o=>
    intro hj;cases e:p l[j];rfl;exact absurd ⟨j,hj,e,λk hk b=>o k b hk⟩ c
  rw[cw a];have:l.any p=false:=by
   rw[Xo];intro x hx;obtain⟨j,hj,rfl⟩:=VE hx;rw[a j hj];simp
  rw[this];rfl
 simp[this]
def bq(p:Int->Bool)(l:af):af:=l.filter λx=>!p x
theorem j7(p:Int->Bool)(l:af):(bq p l).length<=l.length:=WR _ _
theorem gd(p:Int->Bool)(l:af){j:Nat}(h:j<l.length):bq p (l.take (j+1))=if p l[j]=true then bq p (l.take j)else bq p (l.take j)++[l[j]]:=by
 unfold bq;rw[Wj,Vq h,W6,WT];simp only[Wl,Zs];cases p l[j]<;>simp
theorem jQ(p:Int->Bool)(l:af)(h:∀x∈l,p x=false):bq p l=l:=WU.2 λx hx=>by rw[h x hx];rfl
def Oq(p:Int->Bool)(zs:af)(k:Option Nat)(rows:aT):Prop:=k=some (bq p zs).length∧rows=aU (bq p zs++List.replicate (zs.length -(bq p zs).length) 0)
theorem j8(zs:af)(V:zs.length<=1000000)(g:Nat)(cap:aD)(p:Int->Bool)(J:∀r,eG r cap=cap)(hp:gm cap=false)(C:∀k,b7 k cap)(ho:nQ cap)
 (h:∀x∈zs,aw prog g (ak x::cap) (λr=>r=.pv (BL (p x)))):qP prog 150 1 (aU zs) [.fn (.func g) [] cap] (Oq p zs):=by
 have Q:=lQ zs V g cap p J hp C h;refine qP.ofInts (by kernel_rfl) ⟨⟨trivial,ho⟩,trivial⟩ ⟨⟨trivial,C 0⟩,trivial⟩ (λX pre d cp T W=>?_) (λU q cp=>?_)
 .refine lg aP func150 ?_;simp[hp,J,KL];refine ay.introP Q ?_;by_cases c:∃i,∃h:i<zs.length,p zs[i]=true∧∀j (hj:j<zs.length),j<i->p zs[j]=false;rotate_left;have o:∀j (hj:j<zs.length),p zs[j]=false:=by
   intro j
   induction j using Nat.strongRecOn with
   |ind j Z=>
    intro hj;cases e:p zs[j];rfl;exact absurd ⟨j,hj,e,λk hk L=>Z k L hk⟩ c
  have hd:=jQ p zs λx hx=>by
   obtain⟨j,hj,rfl⟩:=VE hx;exact o j hj
  rw[cw o];simp;exact⟨some zs.length,zs,⟨by rw[hd],by rw[hd];simp⟩,rfl,λm M=>by cases M;exact Vu _,rfl,rfl⟩;obtain⟨t,z,A,o⟩:=c;rw[d0 z o A];have N:=dU t;have D:bq p (zs.take t)=zs.take t:=jQ p _ λx hx=>by
   obtain⟨j,hj,rfl⟩:=VE hx;rw[Vy]at hj;rw[WE];exact o j (by omega) (by omega)
  simp;refine aM.intro (S:=λ(y:Nat×af)=>⟨[(0,.pv (.bsl 0 1 pre.length zs.length cp)),(1,.pv (.fn (.func g) [] cap)),(5,.pv (ak ((bq p (zs.take y.1)).length:Nat))),(6,.pv (ak y.1))],[blk pre y.2 d]⟩)
   (λy=>y.1<=zs.length∧(bq p (zs.take y.1)).length<y.1∧y.2.length=zs.length∧y.2.take (bq p (zs.take y.1)).length=bq p (zs.take y.1)∧y.2.drop y.1=zs.drop y.1) (λy=>zs.length -y.1) (t+1,zs) ?_ ?_ ?_
  refine av.to ?_ rfl (by simp) (by simp[C]) (by simp[gJ]);have:(bq p (zs.take (t+1))).length=t:=by rw[gd p zs z,Vt A,D,Vy];omega
  simp[N,this];have:bq p (zs.take (t+1))=zs.take t:=by rw[gd p zs z,Vt A,D]
  refine⟨by dsimp only;omega,?_,rfl,?_,rfl⟩;dsimp only;rw[this,Vy];omega;dsimp only;rw[this,Vy];congr 1;omega;rintro⟨j,b⟩ ⟨h1,P,H,B,I⟩;dsimp only at h1 P H B I;by_cases G:j<zs.length;have R:=dU j;have K:b[j]'(by omega)=zs[j]:=by
   have:=Xp (λl=>l[0]?) I;simp only[Wk,Ye]at this;rw[Vq (by omega),Vq G]at this;exact Yb this
  have s:=mM pre b d (i:=j) (by omega);rw[K]at s;have f:=fN pre b d;have hx:=h zs[j] (Vx G);have a:=gd p zs G;simp[G,hp,J,s,f];refine⟨by omega,ap.intro hx ?_⟩;cases E:p zs[j];rw[E]at a;simp only[We,WM]at a;have O:=dU ((bq p (zs.take j)).length);have F:=zC pre b d (i:=(bq p (zs.take j)).length) zs[j] (by omega);simp[f];refine⟨by omega,by omega,(j+1,b.set (bq p (zs.take j)).length zs[j]),by(try dsimp only);omega,⟨by(try dsimp only);omega,?_,by(try dsimp only);rw[VQ];exact H,?_,?_⟩,av.to ?_ (by simp[F]) (by simp) (by simp[C]) (by simp[gJ])⟩;dsimp only;rw[a,Vz,Wi];omega;dsimp only;rw[a,Vz,Wi,Wj,Yw (Vu _),B,VZ (by omega)];rfl;dsimp only;rw[Yh (by omega)];have:=Xp (List.drop 1) I
  rwa [Wx,Wx]at this
  simp[R,O,a];rw[E]at a;simp only[Xl]at a;simp;refine⟨(j+1,b),by dsimp only;omega,⟨by dsimp only;omega,by dsimp only;rw[a];omega,H,by dsimp only;rw[a];exact B,?_⟩,av.to (by simp[R,a]) rfl (by simp) (by simp[C]) (by simp[gJ])⟩;dsimp only;have:=Xp (List.drop 1) I
  rwa [Wx,Wx]at this
  have:j=zs.length:=by omega
  subst this;rw[VX]at P B;have f:=fN pre b d;have u:=uX pre b d (i:=(bq p zs).length) (n:=zs.length -(bq p zs).length) 0 (by omega);simp[H];refine⟨⟨by omega,by omega⟩,by omega,by omega,⟨by omega,by omega⟩,some (bq p zs).length,bq p zs++List.replicate (zs.length -(bq p zs).length) 0,⟨rfl,rfl⟩,by simp;omega,λm M=>by cases M;omega,rfl,?_⟩;rw[u,B,VS (by omega),WF]
 subst U;refine aB aP func150 ?_;simp[hp,J];refine ap.intro (Q.conv ⟨_,_,rfl,λw v Y=>⟨q,cp,Y,VH _,.inl rfl⟩,_,_,rfl,PV.as.refl _,rfl⟩) ?_;rw[cw (λj hj=>by simp at hj)];simp;exact⟨some 0,⟨rfl,rfl⟩,.inr rfl,rfl⟩
section
structure Mk where
  v:Int
  lev:Int
  rea:Int
  pla:Int
instance:Inhabited Mk:=⟨⟨0,0,0,0⟩⟩
structure Tr where
  marks:List Mk
  lits:af
  beg:af
def sa(x:Mk):aD:=[ak x.v,ak x.lev,ak x.rea,ak x.pla]
def dM(T:Tr):aD:=[.seq false 4 (T.marks.map sa),.seq false 1 (am T.lits),.seq false 1 (am T.beg),BL true]
def iI(T:Tr):bj:=[.own true 4 (T.marks.map sa),.own true 1 (am T.lits),.own true 1 (am T.beg),.pv (BL true)]
abbrev cD(T:Tr):PV:=.iptr 4 [dM T] 0 0
@[simp] theorem qj(k:Nat)(l:List Mk):bV k (l.map sa):=by
 induction l with
 |nil=>trivial
 |cons x xs a=>exact⟨⟨trivial,trivial,trivial,trivial,trivial⟩,a⟩
@[simp] theorem Tw(r:Nat->Nat->PV)(l:List Mk):mA r (l.map sa)=l.map sa:=by
 rw[cN,Wo];congr 1
theorem dR{h:ao}{b:Nat}{T:Tr}(d:h[b]?=some (iI T))(n:Nat):bE h (n+1) b 0=cD T:=by
 obtain⟨c,a⟩:=Vp.1 d;simp[bE,c,a,iI,dM,frzC]
def Tr.ok(T:Tr):Prop:=1<=T.marks.length∧T.marks.length<=100001
theorem oa(T:Tr):aw prog 119 [cD T] (λr=>r=.pv (BL true)):=by
 refine aB aP func119 ?_;simp[cD,dM]
def cv(T:Tr)(i:Int):Mk:=T.marks.getD i.toNat default
def gZ(T:Tr)(l:Int):Int:=if aQ l ((T.marks.length:Int) -1)≠0 then 10 else if(cv T (aq l)).v≠0 then 21 else 0
theorem d5{n m:Int}(a:0<=m∧m<=100000):aQ n m=0↔n≠0∧-m<=n∧n<=m:=by
 unfold aQ;rw[Vs (by omega)];have:uY n m=true↔n≠0∧-m<=n∧n<=m:=by unfold uY;simp
 split;rename_i h;exact⟨λ_=>this.1 h,λ_=>rfl⟩;rename_i h;exact⟨λx=>by simp at x,λx=>absurd (this.2 x) h⟩
theorem rm{n m:Int}(a:0<=m∧m<=100000)(h:aQ n m=0):1<=aq n∧aq n<=m∧dF n=true∧aq n=gr n:=by
 obtain⟨h1,c,d⟩:=(d5 a).1 h;have hk:=(bO n).2 ⟨h1,by omega,by omega⟩;have b:aq n=gr n:=by unfold aq;rw[Vt hk]
 rw[b];unfold gr;refine⟨?_,?_,hk,rfl⟩<;>split<;>omega
theorem Gt(T:Tr)(l:Int)(ht:T.ok):aw prog 172 [cD T,ak l] (λr=>r=.pv (ak (gZ T l))):=by
 refine aB aP func172 ?_;obtain⟨t1,g⟩:=ht;have f:bG ((T.marks.length:Int) -1)=(T.marks.length:Int) -1:=aC (by omega) (by omega);have d:=oa T;have a:gZ T l=if aQ l ((T.marks.length:Int) -1)≠0 then 10 else if(cv T (aq l)).v≠0 then 21 else 0:=rfl;generalize gZ T l=E at a⊢;simp only[cD,dM]at d;simp[cD,dM,f];refine ap.intro d ?_;simp[f];refine ap.intro (ll l ((T.marks.length:Int) -1)) ?_;simp;refine⟨λc=>by rw[a,Vt c],λc=>?_⟩;obtain⟨h,j,v3,v4⟩:=rm (by omega) c;obtain⟨i,hi⟩:∃i:Nat,aq l=(i:Int):=⟨(aq l).toNat,by omega⟩;have b:i<T.marks.length:=by omega
 have e:cv T (aq l)=T.marks[i]:=by unfold cv;rw[hi,WH,Vr,Vq b];rfl
 rw[e,Vs (by simp[c])]at a;refine bW.intro (aX l) ?_;simp[hi,b,sa];exact⟨λc=>by rw[a,Vt c],λc=>by rw[a,Vs (by simp[c])]⟩
def em(T:Tr)(v:Int):Mk×Bool:=if v<1∨(T.marks.length:Int)<=v∨(cv T v).v=0 then(⟨0,-1,-1,-1⟩,false)else(cv T v,true)
theorem D5(T:Tr)(v:Int)(ht:T.ok):aw prog 247 [cD T,ak v] (λr=>r=.pv (.tup [.agg (sa (em T v).1),BL (em T v).2])):=by
 refine iF [] [.cell 4 _,.tmp 5] aP func247 ?_;have c:=oa T;obtain⟨t1,e⟩:=ht;have a:em T v=if v<1∨(T.marks.length:Int)<=v∨(cv T v).v=0 then(⟨0,-1,-1,-1⟩,false)else(cv T v,true):=rfl;generalize em T v=R at a⊢;simp only[cD,dM]at c;simp[cD,dM];refine ap.intro c ?_;by_cases c1:v<1;rw[Vt (.inl c1)]at a;subst a;simp[c1,sa];by_cases c2:(T.marks.length:Int)<=v;rw[Vt (.inr (.inl c2))]at a;subst a;simp[c1,c2,sa];obtain⟨i,rfl⟩:∃i:Nat,v=(i:Int):=⟨v.toNat,by omega⟩;have b:i<T.marks.length:=by omega
 have c3:¬T.marks.length<=i:=by omega
 have d:cv T i=T.marks[i]:=by unfold cv;rw[WH,Vr,Vq b];rfl
 rw[d]at a;by_cases c4:T.marks[i].v=0;rw[Vt (.inr (.inr c4))]at a;subst a;simp[c1,c3,b,c4,sa];rw[Vs (by omega)]at a;subst a;simp[c1,c3,b,c4,sa]
theorem gL(T:Tr)(v:Int)(ht:T.ok):aw prog 170 [cD T,ak v] (λr=>r=.pv (ak (em T v).1.lev)):=by
 refine aB aP func170 ?_;have h:=D5 T v ht;simp only[cD,dM,sa]at h;simp[cD,dM];refine ap.intro h ?_;simp
theorem iJ(T:Tr)(v:Int)(ht:T.ok):aw prog 167 [cD T,ak v] (λr=>r=.pv (ak (em T v).1.rea)):=by
 refine aB aP func167 ?_;have h:=D5 T v ht;simp only[cD,dM,sa]at h;simp[cD,dM];refine ap.intro h ?_;simp
theorem oW(T:Tr)(v:Int)(ht:T.ok):aw prog 245 [cD T,ak v] (λr=>r=.pv (ak (em T v).1.pla)):=by
 refine aB aP func245 ?_;have h:=D5 T v ht;simp only[cD,dM,sa]at h;simp[cD,dM];refine ap.intro h ?_;simp
def df(T:Tr)(l:Int):Int:=if aQ l ((T.marks.length:Int) -1)≠0 then 0 else if l<0 then bG (-(cv T (aq l)).v)else(cv T (aq l)).v
theorem gM(T:Tr)(l:Int)(ht:T.ok):aw prog 103 [cD T,ak l] (λr=>r=.pv (ak (df T l))):=by
 refine aB aP func103 ?_;obtain⟨t1,g⟩:=ht;have f:bG ((T.marks.length:Int) -1)=(T.marks.length:Int) -1:=aC (by omega) (by omega);have d:=oa T;have a:df T l=if aQ l ((T.marks.length:Int) -1)≠0 then 0 else if l<0 then bG (-(cv T (aq l)).v)else(cv T (aq l)).v:=rfl;generalize df T l=E at a⊢;simp only[cD,dM]at d;simp[cD,dM,f];refine ap.intro d ?_;simp[f];refine bz.intro (r:=.pv (ak (aQ l ((T.marks.length:Int) -1)))) (λ_=>ll l ((T.marks.length:Int) -1)) ?_;simp;refine⟨λc=>by rw[a,Vt c],λc=>?_⟩;obtain⟨h,j,v3,v4⟩:=rm (by omega) c;obtain⟨i,hi⟩:∃i:Nat,aq l=(i:Int):=⟨(aq l).toNat,by omega⟩;have b:i<T.marks.length:=by omega
 have e:cv T (aq l)=T.marks[i]:=by unfold cv;rw[hi,WH,Vr,Vq b];rfl
 rw[e,Vs (by simp[c])]at a;refine bW.intro (aX l) ?_;simp[hi,b,sa];exact⟨λc=>by rw[a,Vt c],λc=>by rw[a,Vs (by omega)]⟩
theorem ik(T:Tr)(b:T.lits.length<=1000000):aw prog 58 [cD T] (λr=>r=.own true 1 (am T.lits)):=by
 refine aB aP func58 ?_;have a:=oa T;simp only[cD,dM]at a;simp[cD,dM];refine ap.intro a ?_;simp;refine ap.intro (dy T.lits b) ?_;simp
end
section
def ja(T:Tr)(l rea:Int):Tr:=⟨T.marks.set (aq l).toNat ⟨if l<0 then-1 else 1,T.beg.length,rea,T.lits.length⟩,T.lits++[l],T.beg⟩
def KM:Sch:=
 let R11:Sch:=.fork [(11,.take 12 (.take 13 (.fork [(14,.done)])))]
 let A:Sch:=.fork [(9,.fork [(10,R11)])]
 .take 0 (.take 1 (.take 2 (.take 3 (.take 5 (.take 6 (.take 7 (.fork [(4,.fork [(8,A)]),(8,.fork [(4,A),(9,.fork [(4,.fork [(10,R11)]),(10,.fork [(4,R11)])])])])))))))
theorem j9(k:Nat)(T:Tr):cA k (iI T):=⟨qj k _,br k _,br k _,trivial,trivial⟩
theorem b9{k:Nat}{x:bj}(hx:cA k x):∀(b:Nat){h:ao},er k h->er k (h.set b x)
 |_,[],_=>trivial
 |0,_::_,a=>⟨hx,a.2⟩
 |b+1,_::_,a=>⟨a.1,b9 hx b a.2⟩
theorem dG{h:ao}{b:Nat}{x:bj}(a:h[b]?=some x):h.set b x=h:=by
 apply Wv;intro i;rw[V2];split;rename_i e;subst e;rw[Vt (Vp.1 a).1,a];rfl
theorem zD{h:ao}{b:Nat}(a:b<h.length)(y x:bj):(h++[y]).set b x=h.set b x++[y]:=XO _ _ a
theorem Gu(h:ao)(b:Nat)(T:Tr)(n:h[b]?=some (iI T))(l rea:Int)(q:0<=aq l∧aq l<T.marks.length)(hs:T.lits.length<=1000000):
 aI prog 173 [.ptr b 0,ak l,ak rea] h (λr h'=>h'=h.set b (iI (ja T l rea))∧r=.pv (.tup [])):=by
 refine ea [] [] (h.set b (iI (ja T l rea))) (by simp) (λo=>by rw[VQ];exact b9 (j9 _ _) b o) aP func173 ?_;obtain⟨a,e⟩:=Vp.1 n;obtain⟨i,hi⟩:∃i:Nat,aq l=(i:Int):=⟨(aq l).toNat,by omega⟩;have j:i<T.marks.length:=by omega
 have d:∀y,(h++[y])[b]?=some (iI T):=λy=>by rw[Vv a];exact n
 have f:∀y x,(h++[y]).set b x=h.set b x++[y]:=λy x=>zD a y x;simp only[iI]at d;have g:∀x y,(h.set b x++[y])[b]?=some x:=λx y=>by rw[Vv (by simpa using a)];simp[a]
 have m:∀x y z,(h.set b x++[y]).set b z=h.set b z++[y]:=λx y z=>by rw[zD (by simpa using a),YD]
 have p:∀x:Mk,(T.marks.map sa).set i [ak x.v,ak x.lev,ak x.rea,ak x.pla]=(T.marks.set i x).map sa:=λx=>by rw[Zn];rfl
 have k:am T.lits++[[ak l]]=am (T.lits++[l]):=nZ _ _;by_cases c:l<0;simp[e,a,iI,c,d,f];refine bW.intro (aX l) ?_;simp[e,a,iI,c,d,f,g,m,hi,j,sa,ja,k,ii];omega;simp[e,a,iI,c,d,f];refine bW.intro (aX l) ?_;simp[e,a,iI,c,d,f,g,m,hi,j,sa,ja,k,ii];omega
def sC(T:Tr):Tr:=⟨T.marks,T.lits,T.beg++[(T.lits.length:Int)]⟩
def jt(T:Tr)(l:Int):Tr:=if gZ T l=0 then ja (sC T) l (-1)else T
def D6(T:Tr)(l rea:Int):Int:=if gZ T l≠0 then gZ T l else if rea<0 then 2 else 0
def mN(T:Tr)(l rea:Int):Tr:=if D6 T l rea=0 then ja T l rea else T
theorem xI{T:Tr}(ht:T.ok){l:Int}(h:gZ T l=0):aQ l ((T.marks.length:Int) -1)=0∧(cv T (aq l)).v=0∧1<=aq l∧aq l<T.marks.length:=by
 unfold gZ at h;split at h;cases h;rename_i h1;split at h;cases h;rename_i b;have a:aQ l ((T.marks.length:Int) -1)=0:=by simpa using h1
 obtain⟨c,d,_,_⟩:=rm (by have:=ht.1;have:=ht.2;omega) a;exact⟨a,by simpa using b,c,by omega⟩
theorem D7(h:ao)(b:Nat)(T:Tr)(f:h[b]?=some (iI T))(l:Int)(ht:T.ok)(hs:T.lits.length<=1000000)(p:T.beg.length<=1000000):
 aI prog 104 [.ptr b 0,ak l] h (λr h'=>h'=h.set b (iI (jt T l))∧r=.pv (ak (gZ T l))):=by
 refine ea [3] [.tmp 4] (h.set b (iI (jt T l))) (by simp) (λo=>by rw[VQ];exact b9 (j9 _ _) b o) aP func104 ?_;obtain⟨d,g⟩:=Vp.1 f;have j:=Gt T l ht;have a:∀n,bE h (n+1) b 0=cD T:=λn=>dR f n;simp;simp only[cD]at j a;have k:=j;rw[←a 0]at k;refine ay.introP (r:=.pv (ak (gZ T l))) (by simpa[a]using j) ?_ (by simp[d]) (by simp);simp;refine⟨λc=>?_,λc=>?_⟩;obtain⟨s,t,u,q⟩:=xI ht c;have e:jt T l=ja (sC T) l (-1):=by unfold jt;rw[Vt c]
 have m:=Gu (h.set b (iI (sC T))) b (sC T) (by simp[d]) l (-1) ⟨by omega,q⟩ hs;refine bP.meet KM ⟨[(0,.pv (.ptr b 0)),(1,.pv (ak l)),(5,.pv (ak (gZ T l)))],h.set b (iI (sC T))⟩ (by kernel_rfl) ?_ ?_
 .have i:am T.beg++[[ak (T.lits.length:Int)]]=am (T.beg++[(T.lits.length:Int)]):=nZ _ _;simp[KM,g,d,iI];and_intros
  all_goals first
   |omega
   |exact av.keep (by simp) (by simp[sC,i])
 simp;refine ay.intro m ?_;rintro _ _ ⟨rfl,rfl⟩;simp[e,c,ii];exact VT (by simp);have e:jt T l=T:=by unfold jt;rw[Vs c]
 simp[e,dG f,ii]
theorem xJ(h:ao)(b:Nat)(T:Tr)(e:h[b]?=some (iI T))(l rea:Int)(ht:T.ok)(hs:T.lits.length<=1000000):
 aI prog 99 [.ptr b 0,ak l,ak rea] h (λr h'=>h'=h.set b (iI (mN T l rea))∧r=.pv (ak (D6 T l rea))):=by
 refine ea [] [.tmp 6] (h.set b (iI (mN T l rea))) (by simp) (λm=>by rw[VQ];exact b9 (j9 _ _) b m) aP func99 ?_;obtain⟨g,k⟩:=Vp.1 e;have i:=Gt T l ht;have f:∀n,bE h (n+1) b 0=cD T:=λn=>dR e n;have a:D6 T l rea=if gZ T l≠0 then gZ T l else if rea<0 then 2 else 0:=rfl;simp only[cD]at i f;simp;refine ay.introP (r:=.pv (ak (gZ T l))) (by simpa[f]using i) ?_ (by simp[g]) (by simp);by_cases c:gZ T l=0;rw[Vs (by simp[c])]at a;obtain⟨p,q,s,o⟩:=xI ht c;by_cases c2:rea<0;rw[Vt c2]at a;have d:mN T l rea=T:=by unfold mN;rw[Vs (by rw[a];decide)]
 simp[c,c2,a,d,dG e,ii];rw[Vs c2]at a;have d:mN T l rea=ja T l rea:=by unfold mN;rw[Vt a]
 have j:=Gu h b T e l rea ⟨by omega,o⟩ hs;simp[c,c2];refine ay.intro j ?_;rintro _ _ ⟨rfl,rfl⟩;simp[d,a,c,ii];exact VT (by simp);rw[Vt c]at a;have d:mN T l rea=T:=by unfold mN;rw[Vs (by rw[a];exact c)]
 simp[c,a,d,dG e,ii]
def nz(n:Nat):Tr:=⟨List.replicate (n+1) ⟨0,0,0,0⟩,[],[]⟩
theorem Ot(h:ao)(n:Nat)(hn:n<=100000):
 aI prog 63 [ak n] h (λr h'=>r=.pv (.tup [.ptr h.length 0,ak 0])∧h'=h++[[.own true 4 ((nz n).marks.map sa),.pv (.lit (.slice none 0 0)),.pv (.lit (.slice none 0 0)),.pv (BL true)]]):=by
 refine xA [2,3] aP func63 (λ_ _=>results_tmp2 rfl _ _ _) ?_;have a:=dU n;have c2:¬(n:Int)<0:=by omega
 have c3:¬100000<(n:Int):=by omega
 have c4:¬100000<n:=by omega
 simp[c2,c3,c4,a,nz,sa];omega
end
structure En where
  l:Int
  lev:Int
  rea:Int
instance:Inhabited En:=⟨⟨0,0,0⟩⟩
structure RT where
  vars:Int
  rows:List En
  dep:Int
def sD(t:RT)(v:Int):Int:=gD (λx:En=>decide (aq x.l=v)) t.rows
theorem mO{t:RT}{v:Int}(h:0<=sD t v):∃i:Nat,∃hi:i<t.rows.length,sD t v=i∧aq t.rows[i].l=v:=by
 unfold sD gD at*;split at h;rename_i i a;rw[Xk]at a;obtain⟨h1,b,_⟩:=a;exact⟨i,h1,rfl,by simpa using b⟩;omega
def mayR(t:RT)(l:Int):Int:=if aQ l t.vars≠0 then 10 else if 0<=sD t (aq l)then 21 else 0
def Tx(t:RT)(v:Int):Int×Int:=if sD t v<0 then(-1,-1)else((t.rows.getD (sD t v).toNat default).lev,(t.rows.getD (sD t v).toNat default).rea)
end Go.AX
