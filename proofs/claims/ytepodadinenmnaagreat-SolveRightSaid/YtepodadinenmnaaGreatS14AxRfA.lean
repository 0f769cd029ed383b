/-
  Contracts: literals; and what follows.
-/
import Derived.Test.YtepodadinenmnaaGreatS14AxEvC
import Derived.Test.YtepodadinenmnaaGreatAxOw
namespace Go.AX
open Go.Proofs
set_option linter.unusedSimpArgs false
def sj(n m:Int):Bool:=decide (n≠0)&&(decide (-m<=n)&&decide (n<=m))
def cX(n:Int):Bool:=sj n 100000
def fp(n:Int):Int:=if n<0 then-n else n
def af(n:Int):Int:=if cX n=true then fp n else 0
def aX(n:Int):Int:=if cX n=true then(if n<0 then 2*fp n -1 else 2*fp n -2)else-1
def l7(n:Int):Int:=if cX n=true then-n else 0
theorem a8(n:Int):cX n=true↔n≠0∧-100000<=n∧n<=100000:=by unfold cX sj;simp
theorem zb(n m:Int)(h0:0<=m)(h1:m<=100000):ak Tryz.prog 252 [ab n,ab m] (λr=>r=.pv (BL (sj n m))):=by
 refine ap aC Tryz.func252 ?_;have a:aY (-m)=-m:=ao (by omega) (by omega);simp[sj,a]
 try grind
theorem pD(n:Int):ak Tryz.prog 178 [ab n] (λr=>r=.pv (BL (cX n))):=by
 refine ap aC Tryz.func178 ?_;simp;refine ah.intro (zb n 100000 (by omega) (by omega)) ?_;simp[cX]
theorem aI(n:Int):ak Tryz.prog 130 [ab n] (λr=>r=.pv (ab (af n))):=by
 refine ap aC Tryz.func130 ?_;simp;refine ah.intro (pD n) ?_
 by_cases c:cX n=true
 .obtain⟨h1,b,d⟩:=(a8 n).1 c;have a:aY (-n)=-n:=ao (by omega) (by omega);simp[af,fp,c,a];split<;>split<;>omega
 .simp[af,c]
theorem qD(n:Int):ak Tryz.prog 278 [ab n] (λr=>r=.pv (ab (l7 n))):=by
 refine ap aC Tryz.func278 ?_;simp;refine ah.intro (pD n) ?_
 by_cases c:cX n=true
 .obtain⟨h1,b,d⟩:=(a8 n).1 c;have a:aY (-n)=-n:=ao (by omega) (by omega);simp[l7,c,a]
 .simp[l7,c]
theorem rn(n:Int):ak Tryz.prog 285 [ab n] (λr=>r=.pv (ab (aX n))):=by
 refine ap aC Tryz.func285 ?_;simp;refine ah.intro (pD n) ?_
 by_cases c:cX n=true
 .obtain⟨h1,g,h⟩:=(a8 n).1 c;simp[c];refine ah.intro (aI n) ?_;have i:fp n<=100000∧0<=fp n:=by unfold fp;split<;>omega
  have f:af n=fp n:=by unfold af;rw[SN c]
  have a:aY (2*fp n)=2*fp n:=ao (by omega) (by omega);have b:aY (2*fp n -2)=2*fp n -2:=ao (by omega) (by omega);have e:aY (2*fp n -2+1)=2*fp n -1:=by rw[ao (by omega) (by omega)];omega
  by_cases d:n<0
  .simp[aX,c,f,a,b,e,d]
  .simp[aX,c,f,a,b,e,d]
 .simp[aX,c]
def ay(n m:Int):Int:=if m<0∨100000<m then 2 else if sj n m=true then 0 else 10
theorem jx(n m:Int):ak Tryz.prog 179 [ab n,ab m] (λr=>r=.pv (ab (ay n m))):=by
 refine ap aC Tryz.func179 ?_
 by_cases c1:m<0
 .simp[c1,ay]
 by_cases c2:100000<m
 .simp[c1,c2,ay]
 simp[c1,c2,ay];refine ah.intro (zb n m (by omega) (by omega)) ?_;cases sj n m<;>simp
theorem eI(l:List Int)(c:l.length<=1000000):ak Tryz.prog 77 [.seq false 1 (ae l)] (λr=>r=.own true 1 (ae l)):=by
 refine ak.own0 (R:=λr=>r=.own true 1 (ae l)∨(l=[]∧r=.pv (.lit (.slice none 0 0)))) ?_ (λr h=>h.imp id λ⟨a,b⟩=>⟨b,true,1,by rw[a];rfl⟩);refine ap aC Tryz.func77 ?_;simp;cases l with
 |nil=>simp[ae]
 |cons x l=>simp[ae]at c⊢;omega
theorem qE(l:List Int)(n:l.length<=1000000)(g:Nat)(cap:List PV)(p:Int->Bool)(d:∀r,eC r cap=cap)(hp:jH cap=false)(b:∀k,bR k cap)
 (h:∀x∈l,ak Tryz.prog g (ab x::cap) (λr=>r=.pv (BL (p x)))):ak Tryz.prog 230 [.seq false 1 (ae l),.fn (.func g) [] cap] (λr=>r=.pv (ab (gp p l))):=by
 refine ap aC Tryz.func230 ?_;simp;refine aF.intro (S:=λ(i:Nat)=>⟨[(0,.pv (.seq false 1 (ae l))),(1,.pv (.fn (.func g) [] cap)),(7,.pv (ab l.length)),(8,.pv (ab i))],[]⟩) (λi=>i<=l.length∧∀j (hj:j<l.length),j<i->p l[j]=false) (λi=>l.length -i) 0 ?_ ⟨Te _,λj _ h=>by omega⟩ ?_
 .exact ai.to (by simp) rfl (by simp) (by simp[b]) (by simp)
 .intro i ⟨hi,ho⟩
  by_cases c:i<l.length
  .have m:=dZ i;have hx:=h l[i] (SS c);simp[c,hp,d];refine ah.intro hx ?_;cases a:p l[i]
   .simp;refine⟨i+1,by dsimp only;omega,⟨by omega,λj hj f=>?_⟩,ai.to (by simp[m]) rfl (by simp) (by simp[b]) (by simp)⟩
    by_cases e:j=i
    .subst e;exact a
    .exact ho j hj (by omega)
   .simp;rw[d9 c ho a]
  .simp[c];rw[cJ (λj hj=>ho j hj (by omega))]
theorem dQ(l:List Int)(n:l.length<=1000000)(g:Nat)(cap:List PV)(p:Int->Bool)(d:∀r,eC r cap=cap)(hp:jH cap=false)(m:∀k,bR k cap)
 (h:∀x∈l,ak Tryz.prog g (ab x::cap) (λr=>r=.pv (BL (p x)))):ak Tryz.prog 204 [.seq false 1 (ae l),.fn (.func g) [] cap] (λr=>r=.pv (BL (l.any p))):=by
 refine ap aC Tryz.func204 ?_;simp[hp,d];refine ah.intro (qE l n g cap p d hp m h) ?_;have:decide ((0:Int)<=gp p l)=l.any p:=by
  by_cases c:∃i,∃h:i<l.length,p l[i]=true∧∀j (hj:j<l.length),j<i->p l[j]=false
  .obtain⟨i,hi,h1,f⟩:=c;rw[d9 hi f h1,U0.2 ⟨_,SS hi,h1⟩];simp
  .have a:∀j (hj:j<l.length),p l[j]=false:=by
    intro j
    induction j using Nat.strongRecOn with
    |ind j o=>
     intro hj;cases e:p l[j]
     .rfl
     .exact absurd ⟨j,hj,e,λk hk b=>o k b hk⟩ c
   rw[cJ a];have:l.any p=false:=by
    rw[UJ];intro x hx;obtain⟨j,hj,rfl⟩:=S6 hx;rw[a j hj];simp
   rw[this];rfl
 simp[this]
def bk(p:Int->Bool)(l:List Int):List Int:=l.filter λx=>!p x
theorem jW(p:Int->Bool)(l:List Int):(bk p l).length<=l.length:=UM _ _
theorem iM(p:Int->Bool)(l:List Int){j:Nat}(h:j<l.length):bk p (l.take (j+1))=if p l[j]=true then bk p (l.take j)else bk p (l.take j)++[l[j]]:=by
 unfold bk;rw[T4,SH h,UG,Uv];simp only[TQ,W7];cases p l[j]<;>simp
theorem np(p:Int->Bool)(l:List Int)(h:∀x∈l,p x=false):bk p l=l:=Uw.2 λx hx=>by rw[h x hx];rfl
def Lk(p:Int->Bool)(zs:List Int)(k:Option Nat)(rows:List (List PV)):Prop:=k=some (bk p zs).length∧rows=aB (bk p zs++List.replicate (zs.length -(bk p zs).length) 0)
theorem iZ(zs:List Int)(V:zs.length<=1000000)(g:Nat)(cap:List PV)(p:Int->Bool)(J:∀r,eC r cap=cap)(hp:jH cap=false)(C:∀k,bR k cap)(ho:qt cap)
 (h:∀x∈zs,ak Tryz.prog g (ab x::cap) (λr=>r=.pv (BL (p x)))):qv Tryz.prog 150 1 (aB zs) [.fn (.func g) [] cap] (Lk p zs):=by
 have Q:=qE zs V g cap p J hp C h;refine qv.ofInts (by kernel_rfl) ⟨⟨trivial,ho⟩,trivial⟩ ⟨⟨trivial,C 0⟩,trivial⟩ (λX pre d cp T W=>?_) (λU q cp=>?_)
 .refine mB aC Tryz.func150 ?_;simp[hp,J,HP];refine am.introP Q ?_
  by_cases c:∃i,∃h:i<zs.length,p zs[i]=true∧∀j (hj:j<zs.length),j<i->p zs[j]=false
  rotate_left
  .have o:∀j (hj:j<zs.length),p zs[j]=false:=by
    intro j
    induction j using Nat.strongRecOn with
    |ind j Z=>
     intro hj;cases e:p zs[j]
     .rfl
     .exact absurd ⟨j,hj,e,λk hk L=>Z k L hk⟩ c
   have hd:=np p zs λx hx=>by
    obtain⟨j,hj,rfl⟩:=S6 hx;exact o j hj
   rw[cJ o];simp;exact⟨some zs.length,zs,⟨by rw[hd],by rw[hd];simp⟩,rfl,λm M=>by cases M;exact SQ _,rfl,rfl⟩
  obtain⟨t,z,A,o⟩:=c;rw[d9 z o A];have N:=dZ t;have D:bk p (zs.take t)=zs.take t:=np p _ λx hx=>by
   obtain⟨j,hj,rfl⟩:=S6 hx;rw[SU]at hj;rw[Ua];exact o j (by omega) (by omega)
  simp;refine aF.intro (S:=λ(y:Nat×List Int)=>⟨[(0,.pv (.bsl 0 1 pre.length zs.length cp)),(1,.pv (.fn (.func g) [] cap)),(5,.pv (ab ((bk p (zs.take y.1)).length:Nat))),(6,.pv (ab y.1))],[blk pre y.2 d]⟩)
   (λy=>y.1<=zs.length∧(bk p (zs.take y.1)).length<y.1∧y.2.length=zs.length∧y.2.take (bk p (zs.take y.1)).length=bk p (zs.take y.1)∧y.2.drop y.1=zs.drop y.1) (λy=>zs.length -y.1) (t+1,zs) ?_ ?_ ?_
  .refine ai.to ?_ rfl (by simp) (by simp[C]) (by simp[fN]);have:(bk p (zs.take (t+1))).length=t:=by rw[iM p zs z,SN A,D,SU];omega
   simp[N,this]
  .have:bk p (zs.take (t+1))=zs.take t:=by rw[iM p zs z,SN A,D]
   refine⟨by dsimp only;omega,?_,rfl,?_,rfl⟩
   .dsimp only;rw[this,SU];omega
   .dsimp only;rw[this,SU];congr 1;omega
  .rintro⟨j,b⟩ ⟨h1,P,H,B,I⟩;dsimp only at h1 P H B I
   by_cases G:j<zs.length
   .have R:=dZ j;have K:b[j]'(by omega)=zs[j]:=by
     have:=Vk (λl=>l[0]?) I;simp only[T5,VA]at this;rw[SH (by omega),SH G]at this;exact VC this
    have s:=lr pre b d (i:=j) (by omega);rw[K]at s;have f:=eG pre b d;have hx:=h zs[j] (SS G);have a:=iM p zs G;simp[G,hp,J,s,f];refine⟨by omega,ah.intro hx ?_⟩;cases E:p zs[j]
    .rw[E]at a;simp only[TM,Uo]at a;have O:=dZ ((bk p (zs.take j)).length);have F:=xt pre b d (i:=(bk p (zs.take j)).length) zs[j] (by omega);simp[f];refine⟨by omega,by omega,(j+1,b.set (bk p (zs.take j)).length zs[j]),by(try dsimp only);omega,⟨by(try dsimp only);omega,?_,by(try dsimp only);rw[Ti];exact H,?_,?_⟩,ai.to ?_ (by simp[F]) (by simp) (by simp[C]) (by simp[fN])⟩
     .dsimp only;rw[a,SX,TZ];omega
     .dsimp only;rw[a,SX,TZ,T4,Wv (SQ _),B,Tu (by omega)];rfl
     .dsimp only;rw[V0 (by omega)];have:=Vk (List.drop 1) I
      rwa [Ue,Ue]at this
     .simp[R,O,a]
    .rw[E]at a;simp only[UO]at a;simp;refine⟨(j+1,b),by(try dsimp only);omega,⟨by(try dsimp only);omega,by dsimp only;rw[a];omega,H,by dsimp only;rw[a];exact B,?_⟩,ai.to (by simp[R,a]) rfl (by simp) (by simp[C]) (by simp[fN])⟩;dsimp only;have:=Vk (List.drop 1) I
     rwa [Ue,Ue]at this
   .have:j=zs.length:=by omega
    subst this;rw[Tw]at P B;have f:=eG pre b d;have u:=ti pre b d (i:=(bk p zs).length) (n:=zs.length -(bk p zs).length) 0 (by omega);simp[H];refine⟨⟨by omega,by omega⟩,by omega,by omega,⟨by omega,by omega⟩,some (bk p zs).length,bk p zs++List.replicate (zs.length -(bk p zs).length) 0,⟨rfl,rfl⟩,by simp;omega,λm M=>by cases M;omega,rfl,?_⟩;rw[u,B,Tq (by omega),Ui]
 .subst U;refine ap aC Tryz.func150 ?_;simp[hp,J];refine ah.intro (Q.conv ⟨_,_,rfl,λw v Y=>⟨q,cp,Y,Te _,.inl rfl⟩,_,_,rfl,PV.as.refl _,rfl⟩) ?_;rw[cJ (λj hj=>by simp at hj)];simp;exact⟨some 0,⟨rfl,rfl⟩,.inr rfl,rfl⟩
end Go.AX
namespace Go.AX
set_option maxRecDepth 8000
open Go.Proofs
set_option linter.unusedSimpArgs false
structure Mk where
  v:Int
  lev:Int
  rea:Int
  pla:Int
instance:Inhabited Mk:=⟨⟨0,0,0,0⟩⟩
structure Tr where
  marks:List Mk
  lits:List Int
  beg:List Int
def qm(x:Mk):List PV:=[ab x.v,ab x.lev,ab x.rea,ab x.pla]
def cY(T:Tr):List PV:=[.seq false 4 (T.marks.map qm),.seq false 1 (ae T.lits),.seq false 1 (ae T.beg),BL true]
def gD(T:Tr):List SV:=[.own true 4 (T.marks.map qm),.own true 1 (ae T.lits),.own true 1 (ae T.beg),.pv (BL true)]
abbrev bM(T:Tr):PV:=.iptr 4 [cY T] 0 0
@[simp] theorem oE(k:Nat)(l:List Mk):bL k (l.map qm):=by
 induction l with
 |nil=>trivial
 |cons x xs a=>exact⟨⟨trivial,trivial,trivial,trivial,trivial⟩,a⟩
@[simp] theorem Qy(r:Nat->Nat->PV)(l:List Mk):l4 r (l.map qm)=l.map qm:=by
 rw[cm,TT];congr 1
theorem db{h:List (List SV)}{b:Nat}{T:Tr}(d:h[b]?=some (gD T))(n:Nat):aZ h (n+1) b 0=bM T:=by
 obtain⟨c,a⟩:=SG.1 d;simp[aZ,c,a,gD,cY,frzC]
def Tr.ok(T:Tr):Prop:=1<=T.marks.length∧T.marks.length<=100001
theorem mH(T:Tr):ak Tryz.prog 119 [bM T] (λr=>r=.pv (BL true)):=by
 refine ap aC Tryz.func119 ?_;simp[bM,cY]
def bH(T:Tr)(i:Int):Mk:=T.marks.getD i.toNat default
def fX(T:Tr)(l:Int):Int:=if ay l ((T.marks.length:Int) -1)≠0 then 10 else if(bH T (af l)).v≠0 then 21 else 0
theorem dm{n m:Int}(a:0<=m∧m<=100000):ay n m=0↔n≠0∧-m<=n∧n<=m:=by
 unfold ay;rw[SM (by omega)];have:sj n m=true↔n≠0∧-m<=n∧n<=m:=by unfold sj;simp
 split
 .rename_i h;exact⟨λ_=>this.1 h,λ_=>rfl⟩
 .rename_i h;exact⟨λx=>by simp at x,λx=>absurd (this.2 x) h⟩
theorem pE{n m:Int}(a:0<=m∧m<=100000)(h:ay n m=0):1<=af n∧af n<=m∧cX n=true∧af n=fp n:=by
 obtain⟨h1,c,d⟩:=(dm a).1 h;have hk:=(a8 n).2 ⟨h1,by omega,by omega⟩;have b:af n=fp n:=by unfold af;rw[SN hk]
 rw[b];unfold fp;refine⟨?_,?_,hk,rfl⟩<;>split<;>omega
theorem DL(T:Tr)(l:Int)(ht:T.ok):ak Tryz.prog 172 [bM T,ab l] (λr=>r=.pv (ab (fX T l))):=by
 refine ap aC Tryz.func172 ?_;obtain⟨t1,g⟩:=ht;have f:aY ((T.marks.length:Int) -1)=(T.marks.length:Int) -1:=ao (by omega) (by omega);have d:=mH T;have a:fX T l=if ay l ((T.marks.length:Int) -1)≠0 then 10 else if(bH T (af l)).v≠0 then 21 else 0:=rfl;generalize fX T l=E at a⊢;simp only[bM,cY]at d;simp[bM,cY,f];refine ah.intro d ?_;simp[f];refine ah.intro (jx l ((T.marks.length:Int) -1)) ?_;simp;refine⟨λc=>by rw[a,SN c],λc=>?_⟩;obtain⟨h,j,v3,v4⟩:=pE (by omega) c;obtain⟨i,hi⟩:∃i:Nat,af l=(i:Int):=⟨(af l).toNat,by omega⟩;have b:i<T.marks.length:=by omega
 have e:bH T (af l)=T.marks[i]:=by unfold bH;rw[hi,Ub,SI,SH b];rfl
 rw[e,SM (by simp[c])]at a;refine bE.intro (aI l) ?_;simp[hi,b,qm];exact⟨λc=>by rw[a,SN c],λc=>by rw[a,SM (by simp[c])]⟩
def dA(T:Tr)(v:Int):Mk×Bool:=if v<1∨(T.marks.length:Int)<=v∨(bH T v).v=0 then(⟨0,-1,-1,-1⟩,false)else(bH T v,true)
theorem BW(T:Tr)(v:Int)(ht:T.ok):ak Tryz.prog 247 [bM T,ab v] (λr=>r=.pv (.tup [.agg (qm (dA T v).1),BL (dA T v).2])):=by
 refine iX [] [.cell 4 _,.tmp 5] aC Tryz.func247 ?_;have c:=mH T;obtain⟨t1,e⟩:=ht;have a:dA T v=if v<1∨(T.marks.length:Int)<=v∨(bH T v).v=0 then(⟨0,-1,-1,-1⟩,false)else(bH T v,true):=rfl;generalize dA T v=R at a⊢;simp only[bM,cY]at c;simp[bM,cY];refine ah.intro c ?_
 by_cases c1:v<1
 .rw[SN (.inl c1)]at a;subst a;simp[c1,qm]
 by_cases c2:(T.marks.length:Int)<=v
 .rw[SN (.inr (.inl c2))]at a;subst a;simp[c1,c2,qm]
 obtain⟨i,rfl⟩:∃i:Nat,v=(i:Int):=⟨v.toNat,by omega⟩;have b:i<T.marks.length:=by omega
 have c3:¬T.marks.length<=i:=by omega
 have d:bH T i=T.marks[i]:=by unfold bH;rw[Ub,SI,SH b];rfl
 rw[d]at a
 by_cases c4:T.marks[i].v=0
 .rw[SN (.inr (.inr c4))]at a;subst a;simp[c1,c3,b,c4,qm]
 .rw[SM (by omega)]at a;subst a;simp[c1,c3,b,c4,qm]
theorem fO(T:Tr)(v:Int)(ht:T.ok):ak Tryz.prog 170 [bM T,ab v] (λr=>r=.pv (ab (dA T v).1.lev)):=by
 refine ap aC Tryz.func170 ?_;have h:=BW T v ht;simp only[bM,cY,qm]at h;simp[bM,cY];refine ah.intro h ?_;simp
theorem gE(T:Tr)(v:Int)(ht:T.ok):ak Tryz.prog 167 [bM T,ab v] (λr=>r=.pv (ab (dA T v).1.rea)):=by
 refine ap aC Tryz.func167 ?_;have h:=BW T v ht;simp only[bM,cY,qm]at h;simp[bM,cY];refine ah.intro h ?_;simp
theorem nq(T:Tr)(v:Int)(ht:T.ok):ak Tryz.prog 245 [bM T,ab v] (λr=>r=.pv (ab (dA T v).1.pla)):=by
 refine ap aC Tryz.func245 ?_;have h:=BW T v ht;simp only[bM,cY,qm]at h;simp[bM,cY];refine ah.intro h ?_;simp
def cz(T:Tr)(l:Int):Int:=if ay l ((T.marks.length:Int) -1)≠0 then 0 else if l<0 then aY (-(bH T (af l)).v)else(bH T (af l)).v
theorem fP(T:Tr)(l:Int)(ht:T.ok):ak Tryz.prog 103 [bM T,ab l] (λr=>r=.pv (ab (cz T l))):=by
 refine ap aC Tryz.func103 ?_;obtain⟨t1,g⟩:=ht;have f:aY ((T.marks.length:Int) -1)=(T.marks.length:Int) -1:=ao (by omega) (by omega);have d:=mH T;have a:cz T l=if ay l ((T.marks.length:Int) -1)≠0 then 0 else if l<0 then aY (-(bH T (af l)).v)else(bH T (af l)).v:=rfl;generalize cz T l=E at a⊢;simp only[bM,cY]at d;simp[bM,cY,f];refine ah.intro d ?_;simp[f];refine aV.intro (r:=.pv (ab (ay l ((T.marks.length:Int) -1)))) (λ_=>jx l ((T.marks.length:Int) -1)) ?_;simp;refine⟨λc=>by rw[a,SN c],λc=>?_⟩;obtain⟨h,j,v3,v4⟩:=pE (by omega) c;obtain⟨i,hi⟩:∃i:Nat,af l=(i:Int):=⟨(af l).toNat,by omega⟩;have b:i<T.marks.length:=by omega
 have e:bH T (af l)=T.marks[i]:=by unfold bH;rw[hi,Ub,SI,SH b];rfl
 rw[e,SM (by simp[c])]at a;refine bE.intro (aI l) ?_;simp[hi,b,qm];exact⟨λc=>by rw[a,SN c],λc=>by rw[a,SM (by omega)]⟩
theorem ge(T:Tr)(b:T.lits.length<=1000000):ak Tryz.prog 58 [bM T] (λr=>r=.own true 1 (ae T.lits)):=by
 refine ap aC Tryz.func58 ?_;have a:=mH T;simp only[bM,cY]at a;simp[bM,cY];refine ah.intro a ?_;simp;refine ah.intro (eI T.lits b) ?_;simp
end Go.AX
namespace Go.AX
set_option maxRecDepth 16000
open Go.Proofs
set_option linter.unusedSimpArgs false
def gY(T:Tr)(l rea:Int):Tr:=⟨T.marks.set (af l).toNat ⟨if l<0 then-1 else 1,T.beg.length,rea,T.lits.length⟩,T.lits++[l],T.beg⟩
def HQ:Sch:=
 let R11:Sch:=.fork [(11,.take 12 (.take 13 (.fork [(14,.done)])))]
 let A:Sch:=.fork [(9,.fork [(10,R11)])]
 .take 0 (.take 1 (.take 2 (.take 3 (.take 5 (.take 6 (.take 7 (.fork [(4,.fork [(8,A)]),(8,.fork [(4,A),(9,.fork [(4,.fork [(10,R11)]),(10,.fork [(4,R11)])])])])))))))
theorem i7(k:Nat)(T:Tr):cD k (gD T):=⟨oE k _,aT k _,aT k _,trivial,trivial⟩
theorem bP{k:Nat}{x:List SV}(hx:cD k x):∀(b:Nat){h:List (List SV)},dO k h->dO k (h.set b x)
 |_,[],_=>trivial
 |0,_::_,a=>⟨hx,a.2⟩
 |b+1,_::_,a=>⟨a.1,bP hx b a.2⟩
theorem cU{h:List (List SV)}{b:Nat}{x:List SV}(a:h[b]?=some x):h.set b x=h:=by
 apply T7;intro i;rw[Ts];split
 .rename_i e;subst e;rw[SN (SG.1 a).1,a]
 .rfl
theorem xu{h:List (List SV)}{b:Nat}(a:b<h.length)(y x:List SV):(h++[y]).set b x=h.set b x++[y]:=Vo _ _ a
theorem DM(h:List (List SV))(b:Nat)(T:Tr)(n:h[b]?=some (gD T))(l rea:Int)(q:0<=af l∧af l<T.marks.length)(hs:T.lits.length<=1000000):
 ax Tryz.prog 173 [.ptr b 0,ab l,ab rea] h (λr h'=>h'=h.set b (gD (gY T l rea))∧r=.pv (.tup [])):=by
 refine dR [] [] (h.set b (gD (gY T l rea))) (by simp) (λo=>by rw[Ti];exact bP (i7 _ _) b o) aC Tryz.func173 ?_;obtain⟨a,e⟩:=SG.1 n;obtain⟨i,hi⟩:∃i:Nat,af l=(i:Int):=⟨(af l).toNat,by omega⟩;have j:i<T.marks.length:=by omega
 have d:∀y,(h++[y])[b]?=some (gD T):=λy=>by rw[SO a];exact n
 have f:∀y x,(h++[y]).set b x=h.set b x++[y]:=λy x=>xu a y x;simp only[gD]at d;have g:∀x y,(h.set b x++[y])[b]?=some x:=λx y=>by rw[SO (by simpa using a)];simp[a]
 have m:∀x y z,(h.set b x++[y]).set b z=h.set b z++[y]:=λx y z=>by rw[xu (by simpa using a),Wb]
 have p:∀x:Mk,(T.marks.map qm).set i [ab x.v,ab x.lev,ab x.rea,ab x.pla]=(T.marks.set i x).map qm:=λx=>by rw[WO];rfl
 have k:ae T.lits++[[ab l]]=ae (T.lits++[l]):=mG _ _
 by_cases c:l<0
 .simp[e,a,gD,c,d,f];refine bE.intro (aI l) ?_;simp[e,a,gD,c,d,f,g,m,hi,j,qm,gY,k,gd];omega
 .simp[e,a,gD,c,d,f];refine bE.intro (aI l) ?_;simp[e,a,gD,c,d,f,g,m,hi,j,qm,gY,k,gd];omega
def qF(T:Tr):Tr:=⟨T.marks,T.lits,T.beg++[(T.lits.length:Int)]⟩
def ip(T:Tr)(l:Int):Tr:=if fX T l=0 then gY (qF T) l (-1)else T
def BX(T:Tr)(l rea:Int):Int:=if fX T l≠0 then fX T l else if rea<0 then 2 else 0
def lu(T:Tr)(l rea:Int):Tr:=if BX T l rea=0 then gY T l rea else T
theorem vG{T:Tr}(ht:T.ok){l:Int}(h:fX T l=0):ay l ((T.marks.length:Int) -1)=0∧(bH T (af l)).v=0∧1<=af l∧af l<T.marks.length:=by
 unfold fX at h;split at h
 .cases h
 .rename_i h1;split at h
  .cases h
  .rename_i b;have a:ay l ((T.marks.length:Int) -1)=0:=by simpa using h1
   obtain⟨c,d,_,_⟩:=pE (by have:=ht.1;have:=ht.2;omega) a;exact⟨a,by simpa using b,c,by omega⟩
theorem BY(h:List (List SV))(b:Nat)(T:Tr)(f:h[b]?=some (gD T))(l:Int)(ht:T.ok)(hs:T.lits.length<=1000000)(p:T.beg.length<=1000000):
 ax Tryz.prog 104 [.ptr b 0,ab l] h (λr h'=>h'=h.set b (gD (ip T l))∧r=.pv (ab (fX T l))):=by
 refine dR [3] [.tmp 4] (h.set b (gD (ip T l))) (by simp) (λo=>by rw[Ti];exact bP (i7 _ _) b o) aC Tryz.func104 ?_;obtain⟨d,g⟩:=SG.1 f;have j:=DL T l ht;have a:∀n,aZ h (n+1) b 0=bM T:=λn=>db f n;simp;simp only[bM]at j a;have k:=j;rw[←a 0]at k;refine am.introP (r:=.pv (ab (fX T l))) (by simpa[a]using j) ?_ (by simp[d]) (by simp);simp;refine⟨λc=>?_,λc=>?_⟩
 .obtain⟨s,t,u,q⟩:=vG ht c;have e:ip T l=gY (qF T) l (-1):=by unfold ip;rw[SN c]
  have m:=DM (h.set b (gD (qF T))) b (qF T) (by simp[d]) l (-1) ⟨by omega,q⟩ hs;refine bc.meet HQ ⟨[(0,.pv (.ptr b 0)),(1,.pv (ab l)),(5,.pv (ab (fX T l)))],h.set b (gD (qF T))⟩ (by kernel_rfl) ?_ ?_
  .have i:ae T.beg++[[ab (T.lits.length:Int)]]=ae (T.beg++[(T.lits.length:Int)]):=mG _ _;simp[HQ,g,d,gD];and_intros
   all_goals first
    |omega
    |exact ai.keep (by simp) (by simp[qF,i])
  .simp;refine am.intro m ?_;rintro _ _ ⟨rfl,rfl⟩;simp[e,c,gd];exact Tm (by simp)
 .have e:ip T l=T:=by unfold ip;rw[SM c]
  simp[e,cU f,gd]
theorem vH(h:List (List SV))(b:Nat)(T:Tr)(e:h[b]?=some (gD T))(l rea:Int)(ht:T.ok)(hs:T.lits.length<=1000000):
 ax Tryz.prog 99 [.ptr b 0,ab l,ab rea] h (λr h'=>h'=h.set b (gD (lu T l rea))∧r=.pv (ab (BX T l rea))):=by
 refine dR [] [.tmp 6] (h.set b (gD (lu T l rea))) (by simp) (λm=>by rw[Ti];exact bP (i7 _ _) b m) aC Tryz.func99 ?_;obtain⟨g,k⟩:=SG.1 e;have i:=DL T l ht;have f:∀n,aZ h (n+1) b 0=bM T:=λn=>db e n;have a:BX T l rea=if fX T l≠0 then fX T l else if rea<0 then 2 else 0:=rfl;simp only[bM]at i f;simp;refine am.introP (r:=.pv (ab (fX T l))) (by simpa[f]using i) ?_ (by simp[g]) (by simp)
 by_cases c:fX T l=0
 .rw[SM (by simp[c])]at a;obtain⟨p,q,s,o⟩:=vG ht c
  by_cases c2:rea<0
  .rw[SN c2]at a;have d:lu T l rea=T:=by unfold lu;rw[SM (by rw[a];decide)]
   simp[c,c2,a,d,cU e,gd]
  .rw[SM c2]at a;have d:lu T l rea=gY T l rea:=by unfold lu;rw[SN a]
   have j:=DM h b T e l rea ⟨by omega,o⟩ hs;simp[c,c2];refine am.intro j ?_;rintro _ _ ⟨rfl,rfl⟩;simp[d,a,c,gd];exact Tm (by simp)
 .rw[SN c]at a;have d:lu T l rea=T:=by unfold lu;rw[SM (by rw[a];exact c)]
  simp[c,a,d,cU e,gd]
def l8(n:Nat):Tr:=⟨List.replicate (n+1) ⟨0,0,0,0⟩,[],[]⟩
theorem Ll(h:List (List SV))(n:Nat)(hn:n<=100000):
 ax Tryz.prog 63 [ab n] h (λr h'=>r=.pv (.tup [.ptr h.length 0,ab 0])∧h'=h++[[.own true 4 ((l8 n).marks.map qm),.pv (.lit (.slice none 0 0)),.pv (.lit (.slice none 0 0)),.pv (BL true)]]):=by
 refine vA [2,3] aC Tryz.func63 (λ_ _=>results_tmp2 rfl _ _ _) ?_;have a:=dZ n;have c2:¬(n:Int)<0:=by omega
 have c3:¬100000<(n:Int):=by omega
 have c4:¬100000<n:=by omega
 simp[c2,c3,c4,a,l8,qm];omega
end Go.AX
namespace Go.AX
open Go.Proofs
set_option linter.unusedSimpArgs false
structure En where
  l:Int
  lev:Int
  rea:Int
instance:Inhabited En:=⟨⟨0,0,0⟩⟩
structure RT where
  vars:Int
  rows:List En
  dep:Int
def qG(t:RT)(v:Int):Int:=gp (λx:En=>decide (af x.l=v)) t.rows
theorem lw{t:RT}{v:Int}(h:0<=qG t v):∃i:Nat,∃hi:i<t.rows.length,qG t v=i∧af t.rows[i].l=v:=by
 unfold qG gp at*;split at h
 .rename_i i a;rw[UF]at a;obtain⟨h1,b,_⟩:=a;exact⟨i,h1,rfl,by simpa using b⟩
 .omega
def mayR(t:RT)(l:Int):Int:=if ay l t.vars≠0 then 10 else if 0<=qG t (af l)then 21 else 0
def Qz(t:RT)(v:Int):Int×Int:=if qG t v<0 then(-1,-1)else((t.rows.getD (qG t v).toNat default).lev,(t.rows.getD (qG t v).toNat default).rea)
end Go.AX