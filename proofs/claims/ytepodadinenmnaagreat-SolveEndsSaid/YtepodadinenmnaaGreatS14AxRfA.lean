/-
  Contracts: literals.
  Contracts: slices.Clone, IndexFunc, ContainsFunc, DeleteFunc of numbers.
  Contracts: trails.
  Contracts: trails that grow.
  Contracts: the document's trails: what only reads.
-/
import Derived.Test.YtepodadinenmnaaGreatS14AxEvC
import Derived.Test.YtepodadinenmnaaGreatAxIs
namespace Go.AX
open Go.Proofs
set_option linter.unusedSimpArgs false
def pz(n m:Int):Bool:=decide (n≠0)&&(decide (-m<=n)&&decide (n<=m))
def da(n:Int):Bool:=pz n 100000
def eG(n:Int):Int:=if n<0 then-n else n
def ab(n:Int):Int:=if da n=true then eG n else 0
def bf(n:Int):Int:=if da n=true then(if n<0 then 2*eG n -1 else 2*eG n -2)else-1
def IQ(n:Int):Int:=if da n=true then-n else 0
theorem bk(n:Int):da n=true↔n≠0∧-100000<=n∧n<=100000:=by unfold da pz;simp
theorem v6(n m:Int)(h0:0<=m)(h1:m<=100000):an Tryz.prog 252 [ae n,ae m] (λr=>r=.pv (BL (pz n m))):=by
 refine ax aG Tryz.func252 ?_;have a:a8 (-m)=-m:=ap (by omega) (by omega);simp[pz,a]
 try grind
theorem qH(n:Int):an Tryz.prog 178 [ae n] (λr=>r=.pv (BL (da n))):=by
 refine ax aG Tryz.func178 ?_;simp;refine aj.intro (v6 n 100000 (by omega) (by omega)) ?_;simp[da]
theorem aF(n:Int):an Tryz.prog 130 [ae n] (λr=>r=.pv (ae (ab n))):=by
 refine ax aG Tryz.func130 ?_;simp;refine aj.intro (qH n) ?_
 by_cases c:da n=true
 .obtain⟨h1,b,d⟩:=(bk n).1 c;have a:a8 (-n)=-n:=ap (by omega) (by omega);simp[ab,eG,c,a];split<;>split<;>omega
 .simp[ab,c]
theorem o6(n:Int):an Tryz.prog 285 [ae n] (λr=>r=.pv (ae (bf n))):=by
 refine ax aG Tryz.func285 ?_;simp;refine aj.intro (qH n) ?_
 by_cases c:da n=true
 .obtain⟨h1,g,h⟩:=(bk n).1 c;simp[c];refine aj.intro (aF n) ?_;have i:eG n<=100000∧0<=eG n:=by unfold eG;split<;>omega
  have f:ab n=eG n:=by unfold ab;rw[N9 c]
  have a:a8 (2*eG n)=2*eG n:=ap (by omega) (by omega);have b:a8 (2*eG n -2)=2*eG n -2:=ap (by omega) (by omega);have e:a8 (2*eG n -2+1)=2*eG n -1:=by rw[ap (by omega) (by omega)];omega
  by_cases d:n<0
  .simp[bf,c,f,a,b,e,d]
  .simp[bf,c,f,a,b,e,d]
 .simp[bf,c]
def au(n m:Int):Int:=if m<0∨100000<m then 2 else if pz n m=true then 0 else 10
theorem iA(n m:Int):an Tryz.prog 179 [ae n,ae m] (λr=>r=.pv (ae (au n m))):=by
 refine ax aG Tryz.func179 ?_
 by_cases c1:m<0
 .simp[c1,au]
 by_cases c2:100000<m
 .simp[c1,c2,au]
 simp[c1,c2,au];refine aj.intro (v6 n m (by omega) (by omega)) ?_;cases pz n m<;>simp
theorem gP(l:List Int)(c:l.length<=1000000):an Tryz.prog 77 [.seq false 1 (af l)] (λr=>r=.own true 1 (af l)):=by
 refine an.own0 (R:=λr=>r=.own true 1 (af l)∨(l=[]∧r=.pv (.lit (.slice none 0 0)))) ?_ (λr h=>h.imp id λ⟨a,b⟩=>⟨b,true,1,by rw[a];rfl⟩);refine ax aG Tryz.func77 ?_;simp;cases l with
 |nil=>simp[af]
 |cons x l=>simp[af]at c⊢;omega
theorem sN(l:List Int)(n:l.length<=1000000)(g:Nat)(cap:List PV)(p:Int->Bool)(d:∀r,dY r cap=cap)(hp:iH cap=false)(b:∀k,bR k cap)
 (h:∀x∈l,an Tryz.prog g (ae x::cap) (λr=>r=.pv (BL (p x)))):an Tryz.prog 230 [.seq false 1 (af l),.fn (.func g) [] cap] (λr=>r=.pv (ae (iV p l))):=by
 refine ax aG Tryz.func230 ?_;simp;refine aJ.intro (S:=λ(i:Nat)=>⟨[(0,.pv (.seq false 1 (af l))),(1,.pv (.fn (.func g) [] cap)),(7,.pv (ae l.length)),(8,.pv (ae i))],[]⟩) (λi=>i<=l.length∧∀j (hj:j<l.length),j<i->p l[j]=false) (λi=>l.length -i) 0 ?_ ⟨Oz _,λj _ h=>by omega⟩ ?_
 .exact ai.to (by simp) rfl (by simp) (by simp[b]) (by simp)
 .intro i ⟨hi,ho⟩
  by_cases c:i<l.length
  .have m:=fQ i;have hx:=h l[i] (Od c);simp[c,hp,d];refine aj.intro hx ?_;cases a:p l[i]
   .simp;refine⟨i+1,by dsimp only;omega,⟨by omega,λj hj f=>?_⟩,ai.to (by simp[m]) rfl (by simp) (by simp[b]) (by simp)⟩
    by_cases e:j=i
    .subst e;exact a
    .exact ho j hj (by omega)
   .simp;rw[fR c ho a]
  .simp[c];rw[d9 (λj hj=>ho j hj (by omega))]
theorem fe(l:List Int)(n:l.length<=1000000)(g:Nat)(cap:List PV)(p:Int->Bool)(d:∀r,dY r cap=cap)(hp:iH cap=false)(m:∀k,bR k cap)
 (h:∀x∈l,an Tryz.prog g (ae x::cap) (λr=>r=.pv (BL (p x)))):an Tryz.prog 204 [.seq false 1 (af l),.fn (.func g) [] cap] (λr=>r=.pv (BL (l.any p))):=by
 refine ax aG Tryz.func204 ?_;simp[hp,d];refine aj.intro (sN l n g cap p d hp m h) ?_;have:decide ((0:Int)<=iV p l)=l.any p:=by
  by_cases c:∃i,∃h:i<l.length,p l[i]=true∧∀j (hj:j<l.length),j<i->p l[j]=false
  .obtain⟨i,hi,h1,f⟩:=c;rw[fR hi f h1,Qe.2 ⟨_,Od hi,h1⟩];simp
  .have a:∀j (hj:j<l.length),p l[j]=false:=by
    intro j
    induction j using Nat.strongRecOn with
    |ind j o=>
     intro hj;cases e:p l[j]
     .rfl
     .exact absurd ⟨j,hj,e,λk hk b=>o k b hk⟩ c
   rw[d9 a];have:l.any p=false:=by
    rw[QS];intro x hx;obtain⟨j,hj,rfl⟩:=Oo hx;rw[a j hj];simp
   rw[this];rfl
 simp[this]
def aV(p:Int->Bool)(l:List Int):List Int:=l.filter λx=>!p x
theorem iW(p:Int->Bool)(l:List Int):(aV p l).length<=l.length:=P6 _ _
theorem gF(p:Int->Bool)(l:List Int){j:Nat}(h:j<l.length):aV p (l.take (j+1))=if p l[j]=true then aV p (l.take j)else aV p (l.take j)++[l[j]]:=by
 unfold aV;rw[Pj,N6 h,P3,PD];simp only[O5,SB];cases p l[j]<;>simp
theorem lQ(p:Int->Bool)(l:List Int)(h:∀x∈l,p x=false):aV p l=l:=Qf.2 λx hx=>by rw[h x hx];rfl
def GJ(p:Int->Bool)(zs:List Int)(k:Option Nat)(rows:List (List PV)):Prop:=k=some (aV p zs).length∧rows=az (aV p zs++List.replicate (zs.length -(aV p zs).length) 0)
theorem gQ(zs:List Int)(V:zs.length<=1000000)(g:Nat)(cap:List PV)(p:Int->Bool)(J:∀r,dY r cap=cap)(hp:iH cap=false)(C:∀k,bR k cap)(ho:pq cap)
 (h:∀x∈zs,an Tryz.prog g (ae x::cap) (λr=>r=.pv (BL (p x)))):tV Tryz.prog 150 1 (az zs) [.fn (.func g) [] cap] (GJ p zs):=by
 have Q:=sN zs V g cap p J hp C h;refine tV.ofInts (by kernel_rfl) ⟨⟨trivial,ho⟩,trivial⟩ ⟨⟨trivial,C 0⟩,trivial⟩ (λX pre d cp T W=>?_) (λU q cp=>?_)
 .refine mo aG Tryz.func150 ?_;simp[hp,J,DB];refine am.introP Q ?_
  by_cases c:∃i,∃h:i<zs.length,p zs[i]=true∧∀j (hj:j<zs.length),j<i->p zs[j]=false
  rotate_left
  .have o:∀j (hj:j<zs.length),p zs[j]=false:=by
    intro j
    induction j using Nat.strongRecOn with
    |ind j Z=>
     intro hj;cases e:p zs[j]
     .rfl
     .exact absurd ⟨j,hj,e,λk hk L=>Z k L hk⟩ c
   have hd:=lQ p zs λx hx=>by
    obtain⟨j,hj,rfl⟩:=Oo hx;exact o j hj
   rw[d9 o];simp;exact⟨some zs.length,zs,⟨by rw[hd],by rw[hd];simp⟩,rfl,λm M=>by cases M;exact Oc _,rfl,rfl⟩
  obtain⟨t,z,A,o⟩:=c;rw[fR z o A];have N:=fQ t;have D:aV p (zs.take t)=zs.take t:=lQ p _ λx hx=>by
   obtain⟨j,hj,rfl⟩:=Oo hx;rw[Oe]at hj;rw[Pq];exact o j (by omega) (by omega)
  simp;refine aJ.intro (S:=λ(y:Nat×List Int)=>⟨[(0,.pv (.bsl 0 1 pre.length zs.length cp)),(1,.pv (.fn (.func g) [] cap)),(5,.pv (ae ((aV p (zs.take y.1)).length:Nat))),(6,.pv (ae y.1))],[blk pre y.2 d]⟩)
   (λy=>y.1<=zs.length∧(aV p (zs.take y.1)).length<y.1∧y.2.length=zs.length∧y.2.take (aV p (zs.take y.1)).length=aV p (zs.take y.1)∧y.2.drop y.1=zs.drop y.1) (λy=>zs.length -y.1) (t+1,zs) ?_ ?_ ?_
  .refine ai.to ?_ rfl (by simp) (by simp[C]) (by simp[eM]);have:(aV p (zs.take (t+1))).length=t:=by rw[gF p zs z,N9 A,D,Oe];omega
   simp[N,this]
  .have:aV p (zs.take (t+1))=zs.take t:=by rw[gF p zs z,N9 A,D]
   refine⟨by dsimp only;omega,?_,rfl,?_,rfl⟩
   .dsimp only;rw[this,Oe];omega
   .dsimp only;rw[this,Oe];congr 1;omega
  .rintro⟨j,b⟩ ⟨h1,P,H,B,I⟩;dsimp only at h1 P H B I
   by_cases G:j<zs.length
   .have R:=fQ j;have K:b[j]'(by omega)=zs[j]:=by
     have:=QH (λl=>l[0]?) I;simp only[Pp,QF]at this;rw[N6 (by omega),N6 G]at this;exact QT this
    have s:=jD pre b d (i:=j) (by omega);rw[K]at s;have f:=dZ pre b d;have hx:=h zs[j] (Od G);have a:=gF p zs G;simp[G,hp,J,s,f];refine⟨by omega,aj.intro hx ?_⟩;cases E:p zs[j]
    .rw[E]at a;simp only[OQ,Pk]at a;have O:=fQ ((aV p (zs.take j)).length);have F:=un pre b d (i:=(aV p (zs.take j)).length) zs[j] (by omega);simp[f];refine⟨by omega,by omega,(j+1,b.set (aV p (zs.take j)).length zs[j]),by(try dsimp only);omega,⟨by(try dsimp only);omega,?_,by(try dsimp only);rw[OE];exact H,?_,?_⟩,ai.to ?_ (by simp[F]) (by simp) (by simp[C]) (by simp[eM])⟩
     .dsimp only;rw[a,Oi,Po];omega
     .dsimp only;rw[a,Oi,Po,Pj,R5 (Oc _),B,O4 (by omega)];rfl
     .dsimp only;rw[Rr (by omega)];have:=QH (List.drop 1) I
      rwa [Pv,Pv]at this
     .simp[R,O,a]
    .rw[E]at a;simp only[PT]at a;simp;refine⟨(j+1,b),by(try dsimp only);omega,⟨by(try dsimp only);omega,by dsimp only;rw[a];omega,H,by dsimp only;rw[a];exact B,?_⟩,ai.to (by simp[R,a]) rfl (by simp) (by simp[C]) (by simp[eM])⟩;dsimp only;have:=QH (List.drop 1) I
     rwa [Pv,Pv]at this
   .have:j=zs.length:=by omega
    subst this;rw[OT]at P B;have f:=dZ pre b d;have u:=qF pre b d (i:=(aV p zs).length) (n:=zs.length -(aV p zs).length) 0 (by omega);simp[H];refine⟨⟨by omega,by omega⟩,by omega,by omega,⟨by omega,by omega⟩,some (aV p zs).length,aV p zs++List.replicate (zs.length -(aV p zs).length) 0,⟨rfl,rfl⟩,by simp;omega,λm M=>by cases M;omega,rfl,?_⟩;rw[u,B,OK (by omega),Pt]
 .subst U;refine ax aG Tryz.func150 ?_;simp[hp,J];refine aj.intro (Q.conv ⟨_,_,rfl,λw v Y=>⟨q,cp,Y,Oz _,.inl rfl⟩,_,_,rfl,PV.as.refl _,rfl⟩) ?_;rw[d9 (λj hj=>by simp at hj)];simp;exact⟨some 0,⟨rfl,rfl⟩,.inr rfl,rfl⟩
end Go.AX
namespace Go.AX
set_option maxRecDepth 8000
open Go.Proofs
set_option linter.unusedSimpArgs false
structure Mk where
  v:Int
  lev:Int
  rea:Int
  pla:Int
instance:Inhabited Mk:=⟨⟨0,0,0,0⟩⟩
structure Tr where
  marks:List Mk
  lits:List Int
  beg:List Int
def oe(x:Mk):List PV:=[ae x.v,ae x.lev,ae x.rea,ae x.pla]
def cF(T:Tr):List PV:=[.seq false 4 (T.marks.map oe),.seq false 1 (af T.lits),.seq false 1 (af T.beg),BL true]
def fD(T:Tr):List SV:=[.own true 4 (T.marks.map oe),.own true 1 (af T.lits),.own true 1 (af T.beg),.pv (BL true)]
abbrev bB(T:Tr):PV:=.iptr 4 [cF T] 0 0
@[simp] theorem mS(k:Nat)(l:List Mk):bS k (l.map oe):=by
 induction l with
 |nil=>trivial
 |cons x xs a=>exact⟨⟨trivial,trivial,trivial,trivial,trivial⟩,a⟩
@[simp] theorem Lt(r:Nat->Nat->PV)(l:List Mk):kw r (l.map oe)=l.map oe:=by
 rw[ce,Pa];congr 1
theorem cJ{h:List (List SV)}{b:Nat}{T:Tr}(d:h[b]?=some (fD T))(n:Nat):br h (n+1) b 0=bB T:=by
 obtain⟨c,a⟩:=N5.1 d;simp[br,c,a,fD,cF,frzC]
def Tr.ok(T:Tr):Prop:=1<=T.marks.length∧T.marks.length<=100001
theorem ll(T:Tr):an Tryz.prog 119 [bB T] (λr=>r=.pv (BL true)):=by
 refine ax aG Tryz.func119 ?_;simp[bB,cF]
def bz(T:Tr)(i:Int):Mk:=T.marks.getD i.toNat default
def eV(T:Tr)(l:Int):Int:=if au l ((T.marks.length:Int) -1)≠0 then 10 else if(bz T (ab l)).v≠0 then 21 else 0
theorem cR{n m:Int}(a:0<=m∧m<=100000):au n m=0↔n≠0∧-m<=n∧n<=m:=by
 unfold au;rw[N8 (by omega)];have:pz n m=true↔n≠0∧-m<=n∧n<=m:=by unfold pz;simp
 split
 .rename_i h;exact⟨λ_=>this.1 h,λ_=>rfl⟩
 .rename_i h;exact⟨λx=>by simp at x,λx=>absurd (this.2 x) h⟩
theorem nD{n m:Int}(a:0<=m∧m<=100000)(h:au n m=0):1<=ab n∧ab n<=m∧da n=true∧ab n=eG n:=by
 obtain⟨h1,c,d⟩:=(cR a).1 h;have hk:=(bk n).2 ⟨h1,by omega,by omega⟩;have b:ab n=eG n:=by unfold ab;rw[N9 hk]
 rw[b];unfold eG;refine⟨?_,?_,hk,rfl⟩<;>split<;>omega
theorem Ak(T:Tr)(l:Int)(ht:T.ok):an Tryz.prog 172 [bB T,ae l] (λr=>r=.pv (ae (eV T l))):=by
 refine ax aG Tryz.func172 ?_;obtain⟨t1,g⟩:=ht;have f:a8 ((T.marks.length:Int) -1)=(T.marks.length:Int) -1:=ap (by omega) (by omega);have d:=ll T;have a:eV T l=if au l ((T.marks.length:Int) -1)≠0 then 10 else if(bz T (ab l)).v≠0 then 21 else 0:=rfl;generalize eV T l=E at a⊢;simp only[bB,cF]at d;simp[bB,cF,f];refine aj.intro d ?_;simp[f];refine aj.intro (iA l ((T.marks.length:Int) -1)) ?_;simp;refine⟨λc=>by rw[a,N9 c],λc=>?_⟩;obtain⟨h,j,v3,v4⟩:=nD (by omega) c;obtain⟨i,hi⟩:∃i:Nat,ab l=(i:Int):=⟨(ab l).toNat,by omega⟩;have b:i<T.marks.length:=by omega
 have e:bz T (ab l)=T.marks[i]:=by unfold bz;rw[hi,Pe,N7,N6 b];rfl
 rw[e,N8 (by simp[c])]at a;refine bA.intro (aF l) ?_;simp[hi,b,oe];exact⟨λc=>by rw[a,N9 c],λc=>by rw[a,N8 (by simp[c])]⟩
def dm(T:Tr)(v:Int):Mk×Bool:=if v<1∨(T.marks.length:Int)<=v∨(bz T v).v=0 then(⟨0,-1,-1,-1⟩,false)else(bz T v,true)
theorem yn(T:Tr)(v:Int)(ht:T.ok):an Tryz.prog 247 [bB T,ae v] (λr=>r=.pv (.tup [.agg (oe (dm T v).1),BL (dm T v).2])):=by
 refine iL [] [.cell 4 _,.tmp 5] aG Tryz.func247 ?_;have c:=ll T;obtain⟨t1,e⟩:=ht;have a:dm T v=if v<1∨(T.marks.length:Int)<=v∨(bz T v).v=0 then(⟨0,-1,-1,-1⟩,false)else(bz T v,true):=rfl;generalize dm T v=R at a⊢;simp only[bB,cF]at c;simp[bB,cF];refine aj.intro c ?_
 by_cases c1:v<1
 .rw[N9 (.inl c1)]at a;subst a;simp[c1,oe]
 by_cases c2:(T.marks.length:Int)<=v
 .rw[N9 (.inr (.inl c2))]at a;subst a;simp[c1,c2,oe]
 obtain⟨i,rfl⟩:∃i:Nat,v=(i:Int):=⟨v.toNat,by omega⟩;have b:i<T.marks.length:=by omega
 have c3:¬T.marks.length<=i:=by omega
 have d:bz T i=T.marks[i]:=by unfold bz;rw[Pe,N7,N6 b];rfl
 rw[d]at a
 by_cases c4:T.marks[i].v=0
 .rw[N9 (.inr (.inr c4))]at a;subst a;simp[c1,c3,b,c4,oe]
 .rw[N8 (by omega)]at a;subst a;simp[c1,c3,b,c4,oe]
theorem eO(T:Tr)(v:Int)(ht:T.ok):an Tryz.prog 170 [bB T,ae v] (λr=>r=.pv (ae (dm T v).1.lev)):=by
 refine ax aG Tryz.func170 ?_;have h:=yn T v ht;simp only[bB,cF,oe]at h;simp[bB,cF];refine aj.intro h ?_;simp
theorem fE(T:Tr)(v:Int)(ht:T.ok):an Tryz.prog 167 [bB T,ae v] (λr=>r=.pv (ae (dm T v).1.rea)):=by
 refine ax aG Tryz.func167 ?_;have h:=yn T v ht;simp only[bB,cF,oe]at h;simp[bB,cF];refine aj.intro h ?_;simp
theorem lS(T:Tr)(v:Int)(ht:T.ok):an Tryz.prog 245 [bB T,ae v] (λr=>r=.pv (ae (dm T v).1.pla)):=by
 refine ax aG Tryz.func245 ?_;have h:=yn T v ht;simp only[bB,cF,oe]at h;simp[bB,cF];refine aj.intro h ?_;simp
def bZ(T:Tr)(l:Int):Int:=if au l ((T.marks.length:Int) -1)≠0 then 0 else if l<0 then a8 (-(bz T (ab l)).v)else(bz T (ab l)).v
theorem eP(T:Tr)(l:Int)(ht:T.ok):an Tryz.prog 103 [bB T,ae l] (λr=>r=.pv (ae (bZ T l))):=by
 refine ax aG Tryz.func103 ?_;obtain⟨t1,g⟩:=ht;have f:a8 ((T.marks.length:Int) -1)=(T.marks.length:Int) -1:=ap (by omega) (by omega);have d:=ll T;have a:bZ T l=if au l ((T.marks.length:Int) -1)≠0 then 0 else if l<0 then a8 (-(bz T (ab l)).v)else(bz T (ab l)).v:=rfl;generalize bZ T l=E at a⊢;simp only[bB,cF]at d;simp[bB,cF,f];refine aj.intro d ?_;simp[f];refine bK.intro (r:=.pv (ae (au l ((T.marks.length:Int) -1)))) (λ_=>iA l ((T.marks.length:Int) -1)) ?_;simp;refine⟨λc=>by rw[a,N9 c],λc=>?_⟩;obtain⟨h,j,v3,v4⟩:=nD (by omega) c;obtain⟨i,hi⟩:∃i:Nat,ab l=(i:Int):=⟨(ab l).toNat,by omega⟩;have b:i<T.marks.length:=by omega
 have e:bz T (ab l)=T.marks[i]:=by unfold bz;rw[hi,Pe,N7,N6 b];rfl
 rw[e,N8 (by simp[c])]at a;refine bA.intro (aF l) ?_;simp[hi,b,oe];exact⟨λc=>by rw[a,N9 c],λc=>by rw[a,N8 (by omega)]⟩
theorem ff(T:Tr)(b:T.lits.length<=1000000):an Tryz.prog 58 [bB T] (λr=>r=.own true 1 (af T.lits)):=by
 refine ax aG Tryz.func58 ?_;have a:=ll T;simp only[bB,cF]at a;simp[bB,cF];refine aj.intro a ?_;simp;refine aj.intro (gP T.lits b) ?_;simp
end Go.AX
namespace Go.AX
set_option maxRecDepth 16000
open Go.Proofs
set_option linter.unusedSimpArgs false
def f9(T:Tr)(l rea:Int):Tr:=⟨T.marks.set (ab l).toNat ⟨if l<0 then-1 else 1,T.beg.length,rea,T.lits.length⟩,T.lits++[l],T.beg⟩
def DC:Sch:=
 let R11:Sch:=.fork [(11,.take 12 (.take 13 (.fork [(14,.done)])))]
 let A:Sch:=.fork [(9,.fork [(10,R11)])]
 .take 0 (.take 1 (.take 2 (.take 3 (.take 5 (.take 6 (.take 7 (.fork [(4,.fork [(8,A)]),(8,.fork [(4,A),(9,.fork [(4,.fork [(10,R11)]),(10,.fork [(4,R11)])])])])))))))
theorem gT(k:Nat)(T:Tr):cM k (fD T):=⟨mS k _,bd k _,bd k _,trivial,trivial⟩
theorem d0{k:Nat}{x:List SV}(hx:cM k x):∀(b:Nat){h:List (List SV)},dy k h->dy k (h.set b x)
 |_,[],_=>trivial
 |0,_::_,a=>⟨hx,a.2⟩
 |b+1,_::_,a=>⟨a.1,d0 hx b a.2⟩
theorem cN{h:List (List SV)}{b:Nat}{x:List SV}(a:h[b]?=some x):h.set b x=h:=by
 apply Px;intro i;rw[OD];split
 .rename_i e;subst e;rw[N9 (N5.1 a).1,a]
 .rfl
theorem uo{h:List (List SV)}{b:Nat}(a:b<h.length)(y x:List SV):(h++[y]).set b x=h.set b x++[y]:=Rf _ _ a
theorem Al(h:List (List SV))(b:Nat)(T:Tr)(n:h[b]?=some (fD T))(l rea:Int)(q:0<=ab l∧ab l<T.marks.length)(hs:T.lits.length<=1000000):
 aB Tryz.prog 173 [.ptr b 0,ae l,ae rea] h (λr h'=>h'=h.set b (fD (f9 T l rea))∧r=.pv (.tup [])):=by
 refine gR [] [] (h.set b (fD (f9 T l rea))) (by simp) (λo=>by rw[OE];exact d0 (gT _ _) b o) aG Tryz.func173 ?_;obtain⟨a,e⟩:=N5.1 n;obtain⟨i,hi⟩:∃i:Nat,ab l=(i:Int):=⟨(ab l).toNat,by omega⟩;have j:i<T.marks.length:=by omega
 have d:∀y,(h++[y])[b]?=some (fD T):=λy=>by rw[Oa a];exact n
 have f:∀y x,(h++[y]).set b x=h.set b x++[y]:=λy x=>uo a y x;simp only[fD]at d;have g:∀x y,(h.set b x++[y])[b]?=some x:=λx y=>by rw[Oa (by simpa using a)];simp[a]
 have m:∀x y z,(h.set b x++[y]).set b z=h.set b z++[y]:=λx y z=>by rw[uo (by simpa using a),RJ]
 have p:∀x:Mk,(T.marks.map oe).set i [ae x.v,ae x.lev,ae x.rea,ae x.pla]=(T.marks.set i x).map oe:=λx=>by rw[SC];rfl
 have k:af T.lits++[[ae l]]=af (T.lits++[l]):=o5 _ _
 by_cases c:l<0
 .simp[e,a,fD,c,d,f];refine bA.intro (aF l) ?_;simp[e,a,fD,c,d,f,g,m,hi,j,oe,f9,k,fc];omega
 .simp[e,a,fD,c,d,f];refine bA.intro (aF l) ?_;simp[e,a,fD,c,d,f,g,m,hi,j,oe,f9,k,fc];omega
def oD(T:Tr):Tr:=⟨T.marks,T.lits,T.beg++[(T.lits.length:Int)]⟩
def fH(T:Tr)(l:Int):Tr:=if eV T l=0 then f9 (oD T) l (-1)else T
def yo(T:Tr)(l rea:Int):Int:=if eV T l≠0 then eV T l else if rea<0 then 2 else 0
def jE(T:Tr)(l rea:Int):Tr:=if yo T l rea=0 then f9 T l rea else T
theorem sO{T:Tr}(ht:T.ok){l:Int}(h:eV T l=0):au l ((T.marks.length:Int) -1)=0∧(bz T (ab l)).v=0∧1<=ab l∧ab l<T.marks.length:=by
 unfold eV at h;split at h
 .cases h
 .rename_i h1;split at h
  .cases h
  .rename_i b;have a:au l ((T.marks.length:Int) -1)=0:=by simpa using h1
   obtain⟨c,d,_,_⟩:=nD (by have:=ht.1;have:=ht.2;omega) a;exact⟨a,by simpa using b,c,by omega⟩
theorem yp(h:List (List SV))(b:Nat)(T:Tr)(f:h[b]?=some (fD T))(l:Int)(ht:T.ok)(hs:T.lits.length<=1000000)(p:T.beg.length<=1000000):
 aB Tryz.prog 104 [.ptr b 0,ae l] h (λr h'=>h'=h.set b (fD (fH T l))∧r=.pv (ae (eV T l))):=by
 refine gR [3] [.tmp 4] (h.set b (fD (fH T l))) (by simp) (λo=>by rw[OE];exact d0 (gT _ _) b o) aG Tryz.func104 ?_;obtain⟨d,g⟩:=N5.1 f;have j:=Ak T l ht;have a:∀n,br h (n+1) b 0=bB T:=λn=>cJ f n;simp;simp only[bB]at j a;have k:=j;rw[←a 0]at k;refine am.introP (r:=.pv (ae (eV T l))) (by simpa[a]using j) ?_ (by simp[d]) (by simp);simp;refine⟨λc=>?_,λc=>?_⟩
 .obtain⟨s,t,u,q⟩:=sO ht c;have e:fH T l=f9 (oD T) l (-1):=by unfold fH;rw[N9 c]
  have m:=Al (h.set b (fD (oD T))) b (oD T) (by simp[d]) l (-1) ⟨by omega,q⟩ hs;refine aX.meet DC ⟨[(0,.pv (.ptr b 0)),(1,.pv (ae l)),(5,.pv (ae (eV T l)))],h.set b (fD (oD T))⟩ (by kernel_rfl) ?_ ?_
  .have i:af T.beg++[[ae (T.lits.length:Int)]]=af (T.beg++[(T.lits.length:Int)]):=o5 _ _;simp[DC,g,d,fD];and_intros
   all_goals first
    |omega
    |exact ai.keep (by simp) (by simp[oD,i])
  .simp;refine am.intro m ?_;rintro _ _ ⟨rfl,rfl⟩;simp[e,c,fc];exact Pf (by simp)
 .have e:fH T l=T:=by unfold fH;rw[N8 c]
  simp[e,cN f,fc]
theorem sP(h:List (List SV))(b:Nat)(T:Tr)(e:h[b]?=some (fD T))(l rea:Int)(ht:T.ok)(hs:T.lits.length<=1000000):
 aB Tryz.prog 99 [.ptr b 0,ae l,ae rea] h (λr h'=>h'=h.set b (fD (jE T l rea))∧r=.pv (ae (yo T l rea))):=by
 refine gR [] [.tmp 6] (h.set b (fD (jE T l rea))) (by simp) (λm=>by rw[OE];exact d0 (gT _ _) b m) aG Tryz.func99 ?_;obtain⟨g,k⟩:=N5.1 e;have i:=Ak T l ht;have f:∀n,br h (n+1) b 0=bB T:=λn=>cJ e n;have a:yo T l rea=if eV T l≠0 then eV T l else if rea<0 then 2 else 0:=rfl;simp only[bB]at i f;simp;refine am.introP (r:=.pv (ae (eV T l))) (by simpa[f]using i) ?_ (by simp[g]) (by simp)
 by_cases c:eV T l=0
 .rw[N8 (by simp[c])]at a;obtain⟨p,q,s,o⟩:=sO ht c
  by_cases c2:rea<0
  .rw[N9 c2]at a;have d:jE T l rea=T:=by unfold jE;rw[N8 (by rw[a];decide)]
   simp[c,c2,a,d,cN e,fc]
  .rw[N8 c2]at a;have d:jE T l rea=f9 T l rea:=by unfold jE;rw[N9 a]
   have j:=Al h b T e l rea ⟨by omega,o⟩ hs;simp[c,c2];refine am.intro j ?_;rintro _ _ ⟨rfl,rfl⟩;simp[d,a,c,fc];exact Pf (by simp)
 .rw[N9 c]at a;have d:jE T l rea=T:=by unfold jE;rw[N8 (by rw[a];exact c)]
  simp[c,a,d,cN e,fc]
def kb(n:Nat):Tr:=⟨List.replicate (n+1) ⟨0,0,0,0⟩,[],[]⟩
theorem GK(h:List (List SV))(n:Nat)(hn:n<=100000):
 aB Tryz.prog 63 [ae n] h (λr h'=>r=.pv (.tup [.ptr h.length 0,ae 0])∧h'=h++[[.own true 4 ((kb n).marks.map oe),.pv (.lit (.slice none 0 0)),.pv (.lit (.slice none 0 0)),.pv (BL true)]]):=by
 refine sJ [2,3] aG Tryz.func63 (λ_ _=>results_tmp2 rfl _ _ _) ?_;have a:=fQ n;have c2:¬(n:Int)<0:=by omega
 have c3:¬100000<(n:Int):=by omega
 have c4:¬100000<n:=by omega
 simp[c2,c3,c4,a,kb,oe];omega
end Go.AX
namespace Go.AX
open Go.Proofs
set_option linter.unusedSimpArgs false
structure En where
  l:Int
  lev:Int
  rea:Int
instance:Inhabited En:=⟨⟨0,0,0⟩⟩
structure RT where
  vars:Int
  rows:List En
  dep:Int
def oE(t:RT)(v:Int):Int:=iV (λx:En=>decide (ab x.l=v)) t.rows
theorem jF{t:RT}{v:Int}(h:0<=oE t v):∃i:Nat,∃hi:i<t.rows.length,oE t v=i∧ab t.rows[i].l=v:=by
 unfold oE iV at*;split at h
 .rename_i i a;rw[P2]at a;obtain⟨h1,b,_⟩:=a;exact⟨i,h1,rfl,by simpa using b⟩
 .omega
def mayR(t:RT)(l:Int):Int:=if au l t.vars≠0 then 10 else if 0<=oE t (ab l)then 21 else 0
def Lu(t:RT)(v:Int):Int×Int:=if oE t v<0 then(-1,-1)else((t.rows.getD (oE t v).toNat default).lev,(t.rows.getD (oE t v).toNat default).rea)
end Go.AX