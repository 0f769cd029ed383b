/-
  Contracts: literals; and what follows.
-/
import Derived.Test.YtepodadinenmnaaGreatS14AxEvC
import Derived.Test.YtepodadinenmnaaGreatAxOw
set_option linter.unusedSimpArgs false
namespace Go.AX
open Go.Proofs
def nH(n m:Int):Bool:=decide (n≠0)&&(decide (-m<=n)&&decide (n<=m))
def cF(n:Int):Bool:=nH n 100000
def c9(n:Int):Int:=if n<0 then-n else n
def af(n:Int):Int:=if cF n=true then c9 n else 0
def aV(n:Int):Int:=if cF n=true then(if n<0 then 2*c9 n -1 else 2*c9 n -2)else-1
def l8(n:Int):Int:=if cF n=true then-n else 0
theorem aY(n:Int):cF n=true↔n≠0∧-100000<=n∧n<=100000:=by unfold cF nH;simp
theorem zh(n m:Int)(h0:0<=m)(h1:m<=100000):aj Tryz.prog 252 [ab n,ab m] (λr=>r=.pv (BL (nH n m))):=by
 refine ap aD Tryz.func252 ?_;have a:aX (-m)=-m:=ao (by omega) (by omega);simp[nH,a]
 try grind
theorem td(n:Int):aj Tryz.prog 178 [ab n] (λr=>r=.pv (BL (cF n))):=by
 refine ap aD Tryz.func178 ?_;simp;refine ai.intro (zh n 100000 (by omega) (by omega)) ?_;simp[cF]
theorem aK(n:Int):aj Tryz.prog 130 [ab n] (λr=>r=.pv (ab (af n))):=by
 refine ap aD Tryz.func130 ?_;simp;refine ai.intro (td n) ?_
 by_cases c:cF n=true
 .obtain⟨h1,b,d⟩:=(aY n).1 c;have a:aX (-n)=-n:=ao (by omega) (by omega);simp[af,c9,c,a];split<;>split<;>omega
 .simp[af,c]
theorem rh(n:Int):aj Tryz.prog 285 [ab n] (λr=>r=.pv (ab (aV n))):=by
 refine ap aD Tryz.func285 ?_;simp;refine ai.intro (td n) ?_
 by_cases c:cF n=true
 .obtain⟨h1,g,h⟩:=(aY n).1 c;simp[c];refine ai.intro (aK n) ?_;have i:c9 n<=100000∧0<=c9 n:=by unfold c9;split<;>omega
  have f:af n=c9 n:=by unfold af;rw[SX c]
  have a:aX (2*c9 n)=2*c9 n:=ao (by omega) (by omega);have b:aX (2*c9 n -2)=2*c9 n -2:=ao (by omega) (by omega);have e:aX (2*c9 n -2+1)=2*c9 n -1:=by rw[ao (by omega) (by omega)];omega
  by_cases d:n<0
  .simp[aV,c,f,a,b,e,d]
  .simp[aV,c,f,a,b,e,d]
 .simp[aV,c]
def aw(n m:Int):Int:=if m<0∨100000<m then 2 else if nH n m=true then 0 else 10
theorem jp(n m:Int):aj Tryz.prog 179 [ab n,ab m] (λr=>r=.pv (ab (aw n m))):=by
 refine ap aD Tryz.func179 ?_
 by_cases c1:m<0
 .simp[c1,aw]
 by_cases c2:100000<m
 .simp[c1,c2,aw]
 simp[c1,c2,aw];refine ai.intro (zh n m (by omega) (by omega)) ?_;cases nH n m<;>simp
theorem mL(n:Int):aj Tryz.prog 70 [ab n] (λr=>r=.pv (.tup [ab (af n),BL (cF n&&decide (0<n))])):=by
 refine mC [2,3] aD Tryz.func70 (λ_ _=>results_tmp2 rfl _ _ _) ?_;have hk:=aY n
 by_cases c1:0<n
 .by_cases c2:n<=100000
  .have c:cF n=true:=hk.2 ⟨by omega,by omega,by omega⟩;simp[c1,c2,c,af,c9];omega
  .have c:cF n=false:=by rw[Xl];intro h;exact c2 (hk.1 h).2.2
   have c3:¬n<0:=by omega
   simp[c1,c2,c,af,c9,c3]
 .by_cases c2:n<0
  .by_cases c3:-100000<=n
   .have c:cF n=true:=hk.2 ⟨by omega,by omega,by omega⟩;have a:aX (-n)=-n:=ao (by omega) (by omega);simp[c1,c2,c3,c,af,c9,a]
   .have c:cF n=false:=by rw[Xl];intro h;exact c3 (hk.1 h).2.1
    simp[c1,c2,c3,c,af,c9]
  .have c:cF n=false:=by rw[Xl];intro h;have:=(hk.1 h).1;omega
   simp[c1,c2,c,af,c9]
def zi(v:Int)(b:Bool):Int:=if v<1∨100000<v then 0 else if b=true then v else-v
theorem B4(v:Int)(b:Bool):aj Tryz.prog 267 [ab v,BL b] (λr=>r=.pv (ab (zi v b))):=by
 refine ap aD Tryz.func267 ?_
 by_cases c1:v<1
 .simp[c1,zi]
 by_cases c2:100000<v
 .simp[c1,c2,zi]
 have a:aX (-v)=-v:=ao (by omega) (by omega);cases b<;>simp[c1,c2,zi,a]
theorem vE(n:Int):aj Tryz.prog 215 [ab n] (λr=>r=.pv (ab (l8 n))):=by
 refine ap aD Tryz.func215 ?_;simp;refine ai.intro (mL n) ?_;simp;refine ai.intro (B4 _ _) ?_;simp[zi,l8,af,c9];have hk:=aY n
 by_cases c:cF n=true
 .obtain⟨h1,a,b⟩:=hk.1 c
  by_cases d:n<0
  .simp[c,d];omega
  .simp[c,d];omega
 .simp[c]
theorem dH(n:Int):aj Tryz.prog 122 [ab n] (λr=>r=.pv (ab (aV n))):=by
 refine ap aD Tryz.func122 ?_;simp;refine ai.intro (mL n) ?_;have hk:=aY n
 by_cases c:cF n=true
 .obtain⟨h1,f,g⟩:=hk.1 c
  by_cases d:n<0
  .have e:¬0<n:=by omega
   have a:aX (2*-n)=2*-n:=ao (by omega) (by omega);have b:aX (2*-n -1)=2*-n -1:=ao (by omega) (by omega);simp[c,d,e,af,c9,aV,a,b]
   try omega
  .have e:0<n:=by omega
   have a:aX (2*n)=2*n:=ao (by omega) (by omega);have b:aX (2*n -2)=2*n -2:=ao (by omega) (by omega);simp[c,d,e,af,c9,aV,a,b]
   try omega
 .simp[c,af,aV]
theorem xu(n m:Int):aj Tryz.prog 145 [ab n,ab m] (λr=>r=.pv (ab (aw n m))):=by
 refine ap aD Tryz.func145 ?_
 by_cases c1:m<0
 .simp[c1,aw]
 by_cases c2:100000<m
 .simp[c1,c2,aw]
 simp[c1,c2,aw];refine ai.intro (mL n) ?_;have hk:=aY n;have hi:nH n m=true↔n≠0∧-m<=n∧n<=m:=by unfold nH;simp
 by_cases c:cF n=true
 .obtain⟨h1,g,i⟩:=hk.1 c;have b:af n=c9 n:=by unfold af;rw[SX c]
  have f:c9 n=if n<0 then-n else n:=rfl;have a:c9 n≠0:=by rw[f];split<;>omega
  by_cases d:nH n m=true
  .have:=hi.1 d;have e:¬m<c9 n:=by rw[f];split<;>omega
   simp[b,a,d,e]
  .have:¬(n≠0∧-m<=n∧n<=m):=λh=>d (hi.2 h);have e:m<c9 n:=by rw[f];split<;>omega
   simp[b,a,d,e]
 .have b:af n=0:=by unfold af;rw[SU c]
  have d:¬nH n m=true:=λh=>c (hk.2 (by have:=hi.1 h;omega));simp[b,d]
theorem iQ(l:List Int)(c:l.length<=1000000):aj Tryz.prog 77 [.seq false 1 (ae l)] (λr=>r=.own true 1 (ae l)):=by
 refine aj.own0 (R:=λr=>r=.own true 1 (ae l)∨(l=[]∧r=.pv (.lit (.slice none 0 0)))) ?_ (λr h=>h.imp id λ⟨a,b⟩=>⟨b,true,1,by rw[a];rfl⟩);refine ap aD Tryz.func77 ?_;simp;cases l with
 |nil=>simp[ae]
 |cons x l=>simp[ae]at c⊢;omega
theorem vF(l:List Int)(n:l.length<=1000000)(g:Nat)(cap:List PV)(p:Int->Bool)(d:∀r,eC r cap=cap)(hp:jF cap=false)(b:∀k,bR k cap)
 (h:∀x∈l,aj Tryz.prog g (ab x::cap) (λr=>r=.pv (BL (p x)))):aj Tryz.prog 230 [.seq false 1 (ae l),.fn (.func g) [] cap] (λr=>r=.pv (ab (iP p l))):=by
 refine ap aD Tryz.func230 ?_;simp;refine ax.intro (S:=λ(i:Nat)=>⟨[(0,.pv (.seq false 1 (ae l))),(1,.pv (.fn (.func g) [] cap)),(7,.pv (ab l.length)),(8,.pv (ab i))],[]⟩) (λi=>i<=l.length∧∀j (hj:j<l.length),j<i->p l[j]=false) (λi=>l.length -i) 0 ?_ ⟨Tf _,λj _ h=>by omega⟩ ?_
 .exact ah.to (by simp) rfl (by simp) (by simp[b]) (by simp)
 .intro i ⟨hi,ho⟩
  by_cases c:i<l.length
  .have m:=dv i;have hx:=h l[i] (S5 c);simp[c,hp,d];refine ai.intro hx ?_;cases a:p l[i]
   .simp;refine⟨i+1,by dsimp only;omega,⟨by omega,λj hj f=>?_⟩,ah.to (by simp[m]) rfl (by simp) (by simp[b]) (by simp)⟩
    by_cases e:j=i
    .subst e;exact a
    .exact ho j hj (by omega)
   .simp;rw[eU c ho a]
  .simp[c];rw[cM (λj hj=>ho j hj (by omega))]
theorem fY(l:List Int)(n:l.length<=1000000)(g:Nat)(cap:List PV)(p:Int->Bool)(d:∀r,eC r cap=cap)(hp:jF cap=false)(m:∀k,bR k cap)
 (h:∀x∈l,aj Tryz.prog g (ab x::cap) (λr=>r=.pv (BL (p x)))):aj Tryz.prog 204 [.seq false 1 (ae l),.fn (.func g) [] cap] (λr=>r=.pv (BL (l.any p))):=by
 refine ap aD Tryz.func204 ?_;simp[hp,d];refine ai.intro (vF l n g cap p d hp m h) ?_;have:decide ((0:Int)<=iP p l)=l.any p:=by
  by_cases c:∃i,∃h:i<l.length,p l[i]=true∧∀j (hj:j<l.length),j<i->p l[j]=false
  .obtain⟨i,hi,h1,f⟩:=c;rw[eU hi f h1,UL.2 ⟨_,S5 hi,h1⟩];simp
  .have a:∀j (hj:j<l.length),p l[j]=false:=by
    intro j
    induction j using Nat.strongRecOn with
    |ind j o=>
     intro hj;cases e:p l[j]
     .rfl
     .exact absurd ⟨j,hj,e,λk hk b=>o k b hk⟩ c
   rw[cM a];have:l.any p=false:=by
    rw[UE];intro x hx;obtain⟨j,hj,rfl⟩:=Tc hx;rw[a j hj];simp
   rw[this];rfl
 simp[this]
def bk(p:Int->Bool)(l:List Int):List Int:=l.filter λx=>!p x
theorem jU(p:Int->Bool)(l:List Int):(bk p l).length<=l.length:=Uq _ _
theorem iF(p:Int->Bool)(l:List Int){j:Nat}(h:j<l.length):bk p (l.take (j+1))=if p l[j]=true then bk p (l.take j)else bk p (l.take j)++[l[j]]:=by
 unfold bk;rw[TW,SR h,UO,Uu];simp only[TO,Wd];cases p l[j]<;>simp
theorem ns(p:Int->Bool)(l:List Int)(h:∀x∈l,p x=false):bk p l=l:=Uz.2 λx hx=>by rw[h x hx];rfl
def Lv(p:Int->Bool)(zs:List Int)(k:Option Nat)(rows:List (List PV)):Prop:=k=some (bk p zs).length∧rows=aC (bk p zs++List.replicate (zs.length -(bk p zs).length) 0)
theorem iR(zs:List Int)(V:zs.length<=1000000)(g:Nat)(cap:List PV)(p:Int->Bool)(J:∀r,eC r cap=cap)(hp:jF cap=false)(C:∀k,bR k cap)(ho:qo cap)
 (h:∀x∈zs,aj Tryz.prog g (ab x::cap) (λr=>r=.pv (BL (p x)))):o8 Tryz.prog 150 1 (aC zs) [.fn (.func g) [] cap] (Lv p zs):=by
 have Q:=vF zs V g cap p J hp C h;refine o8.ofInts (by kernel_rfl) ⟨⟨trivial,ho⟩,trivial⟩ ⟨⟨trivial,C 0⟩,trivial⟩ (λX pre d cp T W=>?_) (λU q cp=>?_)
 .refine mF aD Tryz.func150 ?_;simp[hp,J,Ig];refine am.introP Q ?_
  by_cases c:∃i,∃h:i<zs.length,p zs[i]=true∧∀j (hj:j<zs.length),j<i->p zs[j]=false
  rotate_left
  .have o:∀j (hj:j<zs.length),p zs[j]=false:=by
    intro j
    induction j using Nat.strongRecOn with
    |ind j Z=>
     intro hj;cases e:p zs[j]
     .rfl
     .exact absurd ⟨j,hj,e,λk hk L=>Z k L hk⟩ c
   have hd:=ns p zs λx hx=>by
    obtain⟨j,hj,rfl⟩:=Tc hx;exact o j hj
   rw[cM o];simp;exact⟨some zs.length,zs,⟨by rw[hd],by rw[hd];simp⟩,rfl,λm M=>by cases M;exact SY _,rfl,rfl⟩
  obtain⟨t,z,A,o⟩:=c;rw[eU z o A];have N:=dv t;have D:bk p (zs.take t)=zs.take t:=ns p _ λx hx=>by
   obtain⟨j,hj,rfl⟩:=Tc hx;rw[S6]at hj;rw[Uh];exact o j (by omega) (by omega)
  simp;refine ax.intro (S:=λ(y:Nat×List Int)=>⟨[(0,.pv (.bsl 0 1 pre.length zs.length cp)),(1,.pv (.fn (.func g) [] cap)),(5,.pv (ab ((bk p (zs.take y.1)).length:Nat))),(6,.pv (ab y.1))],[blk pre y.2 d]⟩)
   (λy=>y.1<=zs.length∧(bk p (zs.take y.1)).length<y.1∧y.2.length=zs.length∧y.2.take (bk p (zs.take y.1)).length=bk p (zs.take y.1)∧y.2.drop y.1=zs.drop y.1) (λy=>zs.length -y.1) (t+1,zs) ?_ ?_ ?_
  .refine ah.to ?_ rfl (by simp) (by simp[C]) (by simp[fE]);have:(bk p (zs.take (t+1))).length=t:=by rw[iF p zs z,SX A,D,S6];omega
   simp[N,this]
  .have:bk p (zs.take (t+1))=zs.take t:=by rw[iF p zs z,SX A,D]
   refine⟨by dsimp only;omega,?_,rfl,?_,rfl⟩
   .dsimp only;rw[this,S6];omega
   .dsimp only;rw[this,S6];congr 1;omega
  .rintro⟨j,b⟩ ⟨h1,P,H,B,I⟩;dsimp only at h1 P H B I
   by_cases G:j<zs.length
   .have R:=dv j;have K:b[j]'(by omega)=zs[j]:=by
     have:=Vm (λl=>l[0]?) I;simp only[Ub,VE]at this;rw[SR (by omega),SR G]at this;exact VH this
    have s:=lr pre b d (i:=j) (by omega);rw[K]at s;have f:=eF pre b d;have hx:=h zs[j] (S5 G);have a:=iF p zs G;simp[G,hp,J,s,f];refine⟨by omega,ai.intro hx ?_⟩;cases E:p zs[j]
    .rw[E]at a;simp only[TM,Ul]at a;have O:=dv ((bk p (zs.take j)).length);have F:=xt pre b d (i:=(bk p (zs.take j)).length) zs[j] (by omega);simp[f];refine⟨by omega,by omega,(j+1,b.set (bk p (zs.take j)).length zs[j]),by(try dsimp only);omega,⟨by(try dsimp only);omega,?_,by(try dsimp only);rw[Tt];exact H,?_,?_⟩,ah.to ?_ (by simp[F]) (by simp) (by simp[C]) (by simp[fE])⟩
     .dsimp only;rw[a,Ta,Ue];omega
     .dsimp only;rw[a,Ta,Ue,TW,Ws (SY _),B,TH (by omega)];rfl
     .dsimp only;rw[V2 (by omega)];have:=Vm (List.drop 1) I
      rwa [Ui,Ui]at this
     .simp[R,O,a]
    .rw[E]at a;simp only[UU]at a;simp;refine⟨(j+1,b),by(try dsimp only);omega,⟨by(try dsimp only);omega,by dsimp only;rw[a];omega,H,by dsimp only;rw[a];exact B,?_⟩,ah.to (by simp[R,a]) rfl (by simp) (by simp[C]) (by simp[fE])⟩;dsimp only;have:=Vm (List.drop 1) I
     rwa [Ui,Ui]at this
   .have:j=zs.length:=by omega
    subst this;rw[Tw]at P B;have f:=eF pre b d;have u:=tc pre b d (i:=(bk p zs).length) (n:=zs.length -(bk p zs).length) 0 (by omega);simp[H];refine⟨⟨by omega,by omega⟩,by omega,by omega,⟨by omega,by omega⟩,some (bk p zs).length,bk p zs++List.replicate (zs.length -(bk p zs).length) 0,⟨rfl,rfl⟩,by simp;omega,λm M=>by cases M;omega,rfl,?_⟩;rw[u,B,Tq (by omega),Ut]
 .subst U;refine ap aD Tryz.func150 ?_;simp[hp,J];refine ai.intro (Q.conv ⟨_,_,rfl,λw v Y=>⟨q,cp,Y,Tf _,.inl rfl⟩,_,_,rfl,PV.as.refl _,rfl⟩) ?_;rw[cM (λj hj=>by simp at hj)];simp;exact⟨some 0,⟨rfl,rfl⟩,.inr rfl,rfl⟩
end Go.AX
namespace Go.AX
set_option maxRecDepth 8000
open Go.Proofs
structure Mk where
  v:Int
  lev:Int
  rea:Int
  pla:Int
instance:Inhabited Mk:=⟨⟨0,0,0,0⟩⟩
structure Tr where
  marks:List Mk
  lits:List Int
  beg:List Int
def qg(x:Mk):List PV:=[ab x.v,ab x.lev,ab x.rea,ab x.pla]
def cR(T:Tr):List PV:=[.seq false 4 (T.marks.map qg),.seq false 1 (ae T.lits),.seq false 1 (ae T.beg),BL true]
def gA(T:Tr):List SV:=[.own true 4 (T.marks.map qg),.own true 1 (ae T.lits),.own true 1 (ae T.beg),.pv (BL true)]
abbrev bN(T:Tr):PV:=.iptr 4 [cR T] 0 0
@[simp] theorem oD(k:Nat)(l:List Mk):bI k (l.map qg):=by
 induction l with
 |nil=>trivial
 |cons x xs a=>exact⟨⟨trivial,trivial,trivial,trivial,trivial⟩,a⟩
@[simp] theorem QH(r:Nat->Nat->PV)(l:List Mk):jN r (l.map qg)=l.map qg:=by
 rw[bP,TX];congr 1
theorem cW{h:List (List SV)}{b:Nat}{T:Tr}(d:h[b]?=some (gA T))(n:Nat):bA h (n+1) b 0=bN T:=by
 obtain⟨c,a⟩:=SQ.1 d;simp[bA,c,a,gA,cR,frzC]
def Tr.ok(T:Tr):Prop:=1<=T.marks.length∧T.marks.length<=100001
theorem mM(T:Tr):aj Tryz.prog 119 [bN T] (λr=>r=.pv (BL true)):=by
 refine ap aD Tryz.func119 ?_;simp[bN,cR]
def bG(T:Tr)(i:Int):Mk:=T.marks.getD i.toNat default
def fP(T:Tr)(l:Int):Int:=if aw l ((T.marks.length:Int) -1)≠0 then 10 else if(bG T (af l)).v≠0 then 21 else 0
theorem df{n m:Int}(a:0<=m∧m<=100000):aw n m=0↔n≠0∧-m<=n∧n<=m:=by
 unfold aw;rw[SU (by omega)];have:nH n m=true↔n≠0∧-m<=n∧n<=m:=by unfold nH;simp
 split
 .rename_i h;exact⟨λ_=>this.1 h,λ_=>rfl⟩
 .rename_i h;exact⟨λx=>by simp at x,λx=>absurd (this.2 x) h⟩
theorem pB{n m:Int}(a:0<=m∧m<=100000)(h:aw n m=0):1<=af n∧af n<=m∧cF n=true∧af n=c9 n:=by
 obtain⟨h1,c,d⟩:=(df a).1 h;have hk:=(aY n).2 ⟨h1,by omega,by omega⟩;have b:af n=c9 n:=by unfold af;rw[SX hk]
 rw[b];unfold c9;refine⟨?_,?_,hk,rfl⟩<;>split<;>omega
theorem DY(T:Tr)(l:Int)(ht:T.ok):aj Tryz.prog 172 [bN T,ab l] (λr=>r=.pv (ab (fP T l))):=by
 refine ap aD Tryz.func172 ?_;obtain⟨t1,g⟩:=ht;have f:aX ((T.marks.length:Int) -1)=(T.marks.length:Int) -1:=ao (by omega) (by omega);have d:=mM T;have a:fP T l=if aw l ((T.marks.length:Int) -1)≠0 then 10 else if(bG T (af l)).v≠0 then 21 else 0:=rfl;generalize fP T l=E at a⊢;simp only[bN,cR]at d;simp[bN,cR,f];refine ai.intro d ?_;simp[f];refine ai.intro (jp l ((T.marks.length:Int) -1)) ?_;simp;refine⟨λc=>by rw[a,SX c],λc=>?_⟩;obtain⟨h,j,v3,v4⟩:=pB (by omega) c;obtain⟨i,hi⟩:∃i:Nat,af l=(i:Int):=⟨(af l).toNat,by omega⟩;have b:i<T.marks.length:=by omega
 have e:bG T (af l)=T.marks[i]:=by unfold bG;rw[hi,Uc,SS,SR b];rfl
 rw[e,SU (by simp[c])]at a;refine bz.intro (aK l) ?_;simp[hi,b,qg];exact⟨λc=>by rw[a,SX c],λc=>by rw[a,SU (by simp[c])]⟩
def dw(T:Tr)(v:Int):Mk×Bool:=if v<1∨(T.marks.length:Int)<=v∨(bG T v).v=0 then(⟨0,-1,-1,-1⟩,false)else(bG T v,true)
theorem B5(T:Tr)(v:Int)(ht:T.ok):aj Tryz.prog 247 [bN T,ab v] (λr=>r=.pv (.tup [.agg (qg (dw T v).1),BL (dw T v).2])):=by
 refine iO [] [.cell 4 _,.tmp 5] aD Tryz.func247 ?_;have c:=mM T;obtain⟨t1,e⟩:=ht;have a:dw T v=if v<1∨(T.marks.length:Int)<=v∨(bG T v).v=0 then(⟨0,-1,-1,-1⟩,false)else(bG T v,true):=rfl;generalize dw T v=R at a⊢;simp only[bN,cR]at c;simp[bN,cR];refine ai.intro c ?_
 by_cases c1:v<1
 .rw[SX (.inl c1)]at a;subst a;simp[c1,qg]
 by_cases c2:(T.marks.length:Int)<=v
 .rw[SX (.inr (.inl c2))]at a;subst a;simp[c1,c2,qg]
 obtain⟨i,rfl⟩:∃i:Nat,v=(i:Int):=⟨v.toNat,by omega⟩;have b:i<T.marks.length:=by omega
 have c3:¬T.marks.length<=i:=by omega
 have d:bG T i=T.marks[i]:=by unfold bG;rw[Uc,SS,SR b];rfl
 rw[d]at a
 by_cases c4:T.marks[i].v=0
 .rw[SX (.inr (.inr c4))]at a;subst a;simp[c1,c3,b,c4,qg]
 .rw[SU (by omega)]at a;subst a;simp[c1,c3,b,c4,qg]
theorem fH(T:Tr)(v:Int)(ht:T.ok):aj Tryz.prog 170 [bN T,ab v] (λr=>r=.pv (ab (dw T v).1.lev)):=by
 refine ap aD Tryz.func170 ?_;have h:=B5 T v ht;simp only[bN,cR,qg]at h;simp[bN,cR];refine ai.intro h ?_;simp
theorem gB(T:Tr)(v:Int)(ht:T.ok):aj Tryz.prog 167 [bN T,ab v] (λr=>r=.pv (ab (dw T v).1.rea)):=by
 refine ap aD Tryz.func167 ?_;have h:=B5 T v ht;simp only[bN,cR,qg]at h;simp[bN,cR];refine ai.intro h ?_;simp
theorem nt(T:Tr)(v:Int)(ht:T.ok):aj Tryz.prog 245 [bN T,ab v] (λr=>r=.pv (ab (dw T v).1.pla)):=by
 refine ap aD Tryz.func245 ?_;have h:=B5 T v ht;simp only[bN,cR,qg]at h;simp[bN,cR];refine ai.intro h ?_;simp
def cm(T:Tr)(l:Int):Int:=if aw l ((T.marks.length:Int) -1)≠0 then 0 else if l<0 then aX (-(bG T (af l)).v)else(bG T (af l)).v
theorem fJ(T:Tr)(l:Int)(ht:T.ok):aj Tryz.prog 103 [bN T,ab l] (λr=>r=.pv (ab (cm T l))):=by
 refine ap aD Tryz.func103 ?_;obtain⟨t1,g⟩:=ht;have f:aX ((T.marks.length:Int) -1)=(T.marks.length:Int) -1:=ao (by omega) (by omega);have d:=mM T;have a:cm T l=if aw l ((T.marks.length:Int) -1)≠0 then 0 else if l<0 then aX (-(bG T (af l)).v)else(bG T (af l)).v:=rfl;generalize cm T l=E at a⊢;simp only[bN,cR]at d;simp[bN,cR,f];refine ai.intro d ?_;simp[f];refine bf.intro (r:=.pv (ab (aw l ((T.marks.length:Int) -1)))) (λ_=>jp l ((T.marks.length:Int) -1)) ?_;simp;refine⟨λc=>by rw[a,SX c],λc=>?_⟩;obtain⟨h,j,v3,v4⟩:=pB (by omega) c;obtain⟨i,hi⟩:∃i:Nat,af l=(i:Int):=⟨(af l).toNat,by omega⟩;have b:i<T.marks.length:=by omega
 have e:bG T (af l)=T.marks[i]:=by unfold bG;rw[hi,Uc,SS,SR b];rfl
 rw[e,SU (by simp[c])]at a;refine bz.intro (aK l) ?_;simp[hi,b,qg];exact⟨λc=>by rw[a,SX c],λc=>by rw[a,SU (by omega)]⟩
theorem fZ(T:Tr)(b:T.lits.length<=1000000):aj Tryz.prog 58 [bN T] (λr=>r=.own true 1 (ae T.lits)):=by
 refine ap aD Tryz.func58 ?_;have a:=mM T;simp only[bN,cR]at a;simp[bN,cR];refine ai.intro a ?_;simp;refine ai.intro (iQ T.lits b) ?_;simp
end Go.AX
namespace Go.AX
set_option maxRecDepth 16000
open Go.Proofs
def gT(T:Tr)(l rea:Int):Tr:=⟨T.marks.set (af l).toNat ⟨if l<0 then-1 else 1,T.beg.length,rea,T.lits.length⟩,T.lits++[l],T.beg⟩
def Ih:Sch:=
 let R11:Sch:=.fork [(11,.take 12 (.take 13 (.fork [(14,.done)])))]
 let A:Sch:=.fork [(9,.fork [(10,R11)])]
 .take 0 (.take 1 (.take 2 (.take 3 (.take 5 (.take 6 (.take 7 (.fork [(4,.fork [(8,A)]),(8,.fork [(4,A),(9,.fork [(4,.fork [(10,R11)]),(10,.fork [(4,R11)])])])])))))))
theorem iS(k:Nat)(T:Tr):cG k (gA T):=⟨oD k _,aU k _,aU k _,trivial,trivial⟩
theorem dI{k:Nat}{x:List SV}(hx:cG k x):∀(b:Nat){h:List (List SV)},dO k h->dO k (h.set b x)
 |_,[],_=>trivial
 |0,_::_,a=>⟨hx,a.2⟩
 |b+1,_::_,a=>⟨a.1,dI hx b a.2⟩
theorem cN{h:List (List SV)}{b:Nat}{x:List SV}(a:h[b]?=some x):h.set b x=h:=by
 apply Uf;intro i;rw[Tz];split
 .rename_i e;subst e;rw[SX (SQ.1 a).1,a]
 .rfl
theorem xv{h:List (List SV)}{b:Nat}(a:b<h.length)(y x:List SV):(h++[y]).set b x=h.set b x++[y]:=Wj _ _ a
theorem DZ(h:List (List SV))(b:Nat)(T:Tr)(n:h[b]?=some (gA T))(l rea:Int)(q:0<=af l∧af l<T.marks.length)(hs:T.lits.length<=1000000):
 aA Tryz.prog 173 [.ptr b 0,ab l,ab rea] h (λr h'=>h'=h.set b (gA (gT T l rea))∧r=.pv (.tup [])):=by
 refine ic [] [] (h.set b (gA (gT T l rea))) (by simp) (λo=>by rw[Tt];exact dI (iS _ _) b o) aD Tryz.func173 ?_;obtain⟨a,e⟩:=SQ.1 n;obtain⟨i,hi⟩:∃i:Nat,af l=(i:Int):=⟨(af l).toNat,by omega⟩;have j:i<T.marks.length:=by omega
 have d:∀y,(h++[y])[b]?=some (gA T):=λy=>by rw[SZ a];exact n
 have f:∀y x,(h++[y]).set b x=h.set b x++[y]:=λy x=>xv a y x;simp only[gA]at d;have g:∀x y,(h.set b x++[y])[b]?=some x:=λx y=>by rw[SZ (by simpa using a)];simp[a]
 have m:∀x y z,(h.set b x++[y]).set b z=h.set b z++[y]:=λx y z=>by rw[xv (by simpa using a),Wy]
 have p:∀x:Mk,(T.marks.map qg).set i [ab x.v,ab x.lev,ab x.rea,ab x.pla]=(T.marks.set i x).map qg:=λx=>by rw[XB];rfl
 have k:ae T.lits++[[ab l]]=ae (T.lits++[l]):=mK _ _
 by_cases c:l<0
 .simp[e,a,gA,c,d,f];refine bz.intro (aK l) ?_;simp[e,a,gA,c,d,f,g,m,hi,j,qg,gT,k,fX];omega
 .simp[e,a,gA,c,d,f];refine bz.intro (aK l) ?_;simp[e,a,gA,c,d,f,g,m,hi,j,qg,gT,k,fX];omega
def qw(T:Tr):Tr:=⟨T.marks,T.lits,T.beg++[(T.lits.length:Int)]⟩
def ig(T:Tr)(l:Int):Tr:=if fP T l=0 then gT (qw T) l (-1)else T
def B6(T:Tr)(l rea:Int):Int:=if fP T l≠0 then fP T l else if rea<0 then 2 else 0
def lu(T:Tr)(l rea:Int):Tr:=if B6 T l rea=0 then gT T l rea else T
theorem vG{T:Tr}(ht:T.ok){l:Int}(h:fP T l=0):aw l ((T.marks.length:Int) -1)=0∧(bG T (af l)).v=0∧1<=af l∧af l<T.marks.length:=by
 unfold fP at h;split at h
 .cases h
 .rename_i h1;split at h
  .cases h
  .rename_i b;have a:aw l ((T.marks.length:Int) -1)=0:=by simpa using h1
   obtain⟨c,d,_,_⟩:=pB (by have:=ht.1;have:=ht.2;omega) a;exact⟨a,by simpa using b,c,by omega⟩
theorem B7(h:List (List SV))(b:Nat)(T:Tr)(f:h[b]?=some (gA T))(l:Int)(ht:T.ok)(hs:T.lits.length<=1000000)(p:T.beg.length<=1000000):
 aA Tryz.prog 104 [.ptr b 0,ab l] h (λr h'=>h'=h.set b (gA (ig T l))∧r=.pv (ab (fP T l))):=by
 refine ic [3] [.tmp 4] (h.set b (gA (ig T l))) (by simp) (λo=>by rw[Tt];exact dI (iS _ _) b o) aD Tryz.func104 ?_;obtain⟨d,g⟩:=SQ.1 f;have j:=DY T l ht;have a:∀n,bA h (n+1) b 0=bN T:=λn=>cW f n;simp;simp only[bN]at j a;have k:=j;rw[←a 0]at k;refine am.introP (r:=.pv (ab (fP T l))) (by simpa[a]using j) ?_ (by simp[d]) (by simp);simp;refine⟨λc=>?_,λc=>?_⟩
 .obtain⟨s,t,u,q⟩:=vG ht c;have e:ig T l=gT (qw T) l (-1):=by unfold ig;rw[SX c]
  have m:=DZ (h.set b (gA (qw T))) b (qw T) (by simp[d]) l (-1) ⟨by omega,q⟩ hs;refine aT.meet Ih ⟨[(0,.pv (.ptr b 0)),(1,.pv (ab l)),(5,.pv (ab (fP T l)))],h.set b (gA (qw T))⟩ (by kernel_rfl) ?_ ?_
  .have i:ae T.beg++[[ab (T.lits.length:Int)]]=ae (T.beg++[(T.lits.length:Int)]):=mK _ _;simp[Ih,g,d,gA];and_intros
   all_goals first
    |omega
    |exact ah.keep (by simp) (by simp[qw,i])
  .simp;refine am.intro m ?_;rintro _ _ ⟨rfl,rfl⟩;simp[e,c,fX];exact TT (by simp)
 .have e:ig T l=T:=by unfold ig;rw[SU c]
  simp[e,cN f,fX]
theorem vH(h:List (List SV))(b:Nat)(T:Tr)(e:h[b]?=some (gA T))(l rea:Int)(ht:T.ok)(hs:T.lits.length<=1000000):
 aA Tryz.prog 99 [.ptr b 0,ab l,ab rea] h (λr h'=>h'=h.set b (gA (lu T l rea))∧r=.pv (ab (B6 T l rea))):=by
 refine ic [] [.tmp 6] (h.set b (gA (lu T l rea))) (by simp) (λm=>by rw[Tt];exact dI (iS _ _) b m) aD Tryz.func99 ?_;obtain⟨g,k⟩:=SQ.1 e;have i:=DY T l ht;have f:∀n,bA h (n+1) b 0=bN T:=λn=>cW e n;have a:B6 T l rea=if fP T l≠0 then fP T l else if rea<0 then 2 else 0:=rfl;simp only[bN]at i f;simp;refine am.introP (r:=.pv (ab (fP T l))) (by simpa[f]using i) ?_ (by simp[g]) (by simp)
 by_cases c:fP T l=0
 .rw[SU (by simp[c])]at a;obtain⟨p,q,s,o⟩:=vG ht c
  by_cases c2:rea<0
  .rw[SX c2]at a;have d:lu T l rea=T:=by unfold lu;rw[SU (by rw[a];decide)]
   simp[c,c2,a,d,cN e,fX]
  .rw[SU c2]at a;have d:lu T l rea=gT T l rea:=by unfold lu;rw[SX a]
   have j:=DZ h b T e l rea ⟨by omega,o⟩ hs;simp[c,c2];refine am.intro j ?_;rintro _ _ ⟨rfl,rfl⟩;simp[d,a,c,fX];exact TT (by simp)
 .rw[SX c]at a;have d:lu T l rea=T:=by unfold lu;rw[SU (by rw[a];exact c)]
  simp[c,a,d,cN e,fX]
def l9(n:Nat):Tr:=⟨List.replicate (n+1) ⟨0,0,0,0⟩,[],[]⟩
theorem Lw(h:List (List SV))(n:Nat)(hn:n<=100000):
 aA Tryz.prog 63 [ab n] h (λr h'=>r=.pv (.tup [.ptr h.length 0,ab 0])∧h'=h++[[.own true 4 ((l9 n).marks.map qg),.pv (.lit (.slice none 0 0)),.pv (.lit (.slice none 0 0)),.pv (BL true)]]):=by
 refine vz [2,3] aD Tryz.func63 (λ_ _=>results_tmp2 rfl _ _ _) ?_;have a:=dv n;have c2:¬(n:Int)<0:=by omega
 have c3:¬100000<(n:Int):=by omega
 have c4:¬100000<n:=by omega
 simp[c2,c3,c4,a,l9,qg];omega
end Go.AX
namespace Go.AX
open Go.Proofs
structure En where
  l:Int
  lev:Int
  rea:Int
instance:Inhabited En:=⟨⟨0,0,0⟩⟩
structure RT where
  vars:Int
  rows:List En
  dep:Int
def qx(t:RT)(v:Int):Int:=iP (λx:En=>decide (af x.l=v)) t.rows
theorem lw{t:RT}{v:Int}(h:0<=qx t v):∃i:Nat,∃hi:i<t.rows.length,qx t v=i∧af t.rows[i].l=v:=by
 unfold qx iP at*;split at h
 .rename_i i a;rw[U5]at a;obtain⟨h1,b,_⟩:=a;exact⟨i,h1,rfl,by simpa using b⟩
 .omega
def mayR(t:RT)(l:Int):Int:=if aw l t.vars≠0 then 10 else if 0<=qx t (af l)then 21 else 0
def QI(t:RT)(v:Int):Int×Int:=if qx t v<0 then(-1,-1)else((t.rows.getD (qx t v).toNat default).lev,(t.rows.getD (qx t v).toNat default).rea)
end Go.AX