/-
  Contracts: literals.
  Contracts: slices.Clone, IndexFunc, ContainsFunc, DeleteFunc of numbers.
  Contracts: trails.
  Contracts: trails that grow.
  Contracts: the document's trails: what only reads.
-/
import Derived.Test.YtepodadinenmnaaGreatS14AxEvC
import Derived.Test.YtepodadinenmnaaGreatAxIs
namespace Go.AX
open Go.Proofs
set_option linter.unusedSimpArgs false
def nH(n m:Int):Bool:=decide (n≠0)&&(decide (-m<=n)&&decide (n<=m))
def cK(n:Int):Bool:=nH n 100000
def du(n:Int):Int:=if n<0 then-n else n
def ae(n:Int):Int:=if cK n=true then du n else 0
def aV(n:Int):Int:=if cK n=true then(if n<0 then 2*du n -1 else 2*du n -2)else-1
def lC(n:Int):Int:=if cK n=true then-n else 0
theorem aW(n:Int):cK n=true↔n≠0∧-100000<=n∧n<=100000:=by unfold cK nH;simp
theorem xK(n m:Int)(h0:0<=m)(h1:m<=100000):am Tryz.prog 252 [af n,af m] (λr=>r=.pv (BL (nH n m))):=by
 refine ao aD Tryz.func252 ?_;have a:aX (-m)=-m:=aq (by omega) (by omega);simp[nH,a]
 try grind
theorem oF(n:Int):am Tryz.prog 178 [af n] (λr=>r=.pv (BL (cK n))):=by
 refine ao aD Tryz.func178 ?_;simp;refine ah.intro (xK n 100000 (by omega) (by omega)) ?_;simp[cK]
theorem aG(n:Int):am Tryz.prog 130 [af n] (λr=>r=.pv (af (ae n))):=by
 refine ao aD Tryz.func130 ?_;simp;refine ah.intro (oF n) ?_
 by_cases c:cK n=true
 .obtain⟨h1,b,d⟩:=(aW n).1 c;have a:aX (-n)=-n:=aq (by omega) (by omega);simp[ae,du,c,a];split<;>split<;>omega
 .simp[ae,c]
theorem pG(n:Int):am Tryz.prog 278 [af n] (λr=>r=.pv (af (lC n))):=by
 refine ao aD Tryz.func278 ?_;simp;refine ah.intro (oF n) ?_
 by_cases c:cK n=true
 .obtain⟨h1,b,d⟩:=(aW n).1 c;have a:aX (-n)=-n:=aq (by omega) (by omega);simp[lC,c,a]
 .simp[lC,c]
theorem qh(n:Int):am Tryz.prog 285 [af n] (λr=>r=.pv (af (aV n))):=by
 refine ao aD Tryz.func285 ?_;simp;refine ah.intro (oF n) ?_
 by_cases c:cK n=true
 .obtain⟨h1,g,h⟩:=(aW n).1 c;simp[c];refine ah.intro (aG n) ?_;have i:du n<=100000∧0<=du n:=by unfold du;split<;>omega
  have f:ae n=du n:=by unfold ae;rw[Qb c]
  have a:aX (2*du n)=2*du n:=aq (by omega) (by omega);have b:aX (2*du n -2)=2*du n -2:=aq (by omega) (by omega);have e:aX (2*du n -2+1)=2*du n -1:=by rw[aq (by omega) (by omega)];omega
  by_cases d:n<0
  .simp[aV,c,f,a,b,e,d]
  .simp[aV,c,f,a,b,e,d]
 .simp[aV,c]
def ax(n m:Int):Int:=if m<0∨100000<m then 2 else if nH n m=true then 0 else 10
theorem i9(n m:Int):am Tryz.prog 179 [af n,af m] (λr=>r=.pv (af (ax n m))):=by
 refine ao aD Tryz.func179 ?_
 by_cases c1:m<0
 .simp[c1,ax]
 by_cases c2:100000<m
 .simp[c1,c2,ax]
 simp[c1,c2,ax];refine ah.intro (xK n m (by omega) (by omega)) ?_;cases nH n m<;>simp
theorem xL(n:Int):am Tryz.prog 70 [af n] (λr=>r=.pv (.tup [af (ae n),BL (cK n&&decide (0<n))])):=by
 refine nE [2,3] aD Tryz.func70 (λ_ _=>results_tmp2 rfl _ _ _) ?_;have hk:=aW n
 by_cases c1:0<n
 .by_cases c2:n<=100000
  .have c:cK n=true:=hk.2 ⟨by omega,by omega,by omega⟩;simp[c1,c2,c,ae,du];omega
  .have c:cK n=false:=by rw[UA];intro h;exact c2 (hk.1 h).2.2
   have c3:¬n<0:=by omega
   simp[c1,c2,c,ae,du,c3]
 .by_cases c2:n<0
  .by_cases c3:-100000<=n
   .have c:cK n=true:=hk.2 ⟨by omega,by omega,by omega⟩;have a:aX (-n)=-n:=aq (by omega) (by omega);simp[c1,c2,c3,c,ae,du,a]
   .have c:cK n=false:=by rw[UA];intro h;exact c3 (hk.1 h).2.1
    simp[c1,c2,c3,c,ae,du]
  .have c:cK n=false:=by rw[UA];intro h;have:=(hk.1 h).1;omega
   simp[c1,c2,c,ae,du]
theorem vX(n m:Int):am Tryz.prog 145 [af n,af m] (λr=>r=.pv (af (ax n m))):=by
 refine ao aD Tryz.func145 ?_
 by_cases c1:m<0
 .simp[c1,ax]
 by_cases c2:100000<m
 .simp[c1,c2,ax]
 simp[c1,c2,ax];refine ah.intro (xL n) ?_;have hk:=aW n;have hi:nH n m=true↔n≠0∧-m<=n∧n<=m:=by unfold nH;simp
 by_cases c:cK n=true
 .obtain⟨h1,g,i⟩:=hk.1 c;have b:ae n=du n:=by unfold ae;rw[Qb c]
  have f:du n=if n<0 then-n else n:=rfl;have a:du n≠0:=by rw[f];split<;>omega
  by_cases d:nH n m=true
  .have:=hi.1 d;have e:¬m<du n:=by rw[f];split<;>omega
   simp[b,a,d,e]
  .have:¬(n≠0∧-m<=n∧n<=m):=λh=>d (hi.2 h);have e:m<du n:=by rw[f];split<;>omega
   simp[b,a,d,e]
 .have b:ae n=0:=by unfold ae;rw[Qa c]
  have d:¬nH n m=true:=λh=>c (hk.2 (by have:=hi.1 h;omega));simp[b,d]
theorem ez(l:List Int)(c:l.length<=1000000):am Tryz.prog 77 [.seq false 1 (ab l)] (λr=>r=.own true 1 (ab l)):=by
 refine am.own0 (R:=λr=>r=.own true 1 (ab l)∨(l=[]∧r=.pv (.lit (.slice none 0 0)))) ?_ (λr h=>h.imp id λ⟨a,b⟩=>⟨b,true,1,by rw[a];rfl⟩);refine ao aD Tryz.func77 ?_;simp;cases l with
 |nil=>simp[ab]
 |cons x l=>simp[ab]at c⊢;omega
theorem pH(l:List Int)(n:l.length<=1000000)(g:Nat)(cap:List PV)(p:Int->Bool)(d:∀r,em r cap=cap)(hp:jk cap=false)(b:∀k,bP k cap)
 (h:∀x∈l,am Tryz.prog g (af x::cap) (λr=>r=.pv (BL (p x)))):am Tryz.prog 230 [.seq false 1 (ab l),.fn (.func g) [] cap] (λr=>r=.pv (af (gG p l))):=by
 refine ao aD Tryz.func230 ?_;simp;refine aH.intro (S:=λ(i:Nat)=>⟨[(0,.pv (.seq false 1 (ab l))),(1,.pv (.fn (.func g) [] cap)),(7,.pv (af l.length)),(8,.pv (af i))],[]⟩) (λi=>i<=l.length∧∀j (hj:j<l.length),j<i->p l[j]=false) (λi=>l.length -i) 0 ?_ ⟨Qq _,λj _ h=>by omega⟩ ?_
 .exact ai.to (by simp) rfl (by simp) (by simp[b]) (by simp)
 .intro i ⟨hi,ho⟩
  by_cases c:i<l.length
  .have m:=eq i;have hx:=h l[i] (Qe c);simp[c,hp,d];refine ah.intro hx ?_;cases a:p l[i]
   .simp;refine⟨i+1,by dsimp only;omega,⟨by omega,λj hj f=>?_⟩,ai.to (by simp[m]) rfl (by simp) (by simp[b]) (by simp)⟩
    by_cases e:j=i
    .subst e;exact a
    .exact ho j hj (by omega)
   .simp;rw[gx c ho a]
  .simp[c];rw[eJ (λj hj=>ho j hj (by omega))]
theorem dM(l:List Int)(n:l.length<=1000000)(g:Nat)(cap:List PV)(p:Int->Bool)(d:∀r,em r cap=cap)(hp:jk cap=false)(m:∀k,bP k cap)
 (h:∀x∈l,am Tryz.prog g (af x::cap) (λr=>r=.pv (BL (p x)))):am Tryz.prog 204 [.seq false 1 (ab l),.fn (.func g) [] cap] (λr=>r=.pv (BL (l.any p))):=by
 refine ao aD Tryz.func204 ?_;simp[hp,d];refine ah.intro (pH l n g cap p d hp m h) ?_;have:decide ((0:Int)<=gG p l)=l.any p:=by
  by_cases c:∃i,∃h:i<l.length,p l[i]=true∧∀j (hj:j<l.length),j<i->p l[j]=false
  .obtain⟨i,hi,h1,f⟩:=c;rw[gx hi f h1,R7.2 ⟨_,Qe hi,h1⟩];simp
  .have a:∀j (hj:j<l.length),p l[j]=false:=by
    intro j
    induction j using Nat.strongRecOn with
    |ind j o=>
     intro hj;cases e:p l[j]
     .rfl
     .exact absurd ⟨j,hj,e,λk hk b=>o k b hk⟩ c
   rw[eJ a];have:l.any p=false:=by
    rw[Sa];intro x hx;obtain⟨j,hj,rfl⟩:=Qm hx;rw[a j hj];simp
   rw[this];rfl
 simp[this]
def bc(p:Int->Bool)(l:List Int):List Int:=l.filter λx=>!p x
theorem jD(p:Int->Bool)(l:List Int):(bc p l).length<=l.length:=R6 _ _
theorem il(p:Int->Bool)(l:List Int){j:Nat}(h:j<l.length):bc p (l.take (j+1))=if p l[j]=true then bc p (l.take j)else bc p (l.take j)++[l[j]]:=by
 unfold bc;rw[Rl,P8 h,R3,RK];simp only[Q9,UQ];cases p l[j]<;>simp
theorem mE(p:Int->Bool)(l:List Int)(h:∀x∈l,p x=false):bc p l=l:=Si.2 λx hx=>by rw[h x hx];rfl
def Jj(p:Int->Bool)(zs:List Int)(k:Option Nat)(rows:List (List PV)):Prop:=k=some (bc p zs).length∧rows=aB (bc p zs++List.replicate (zs.length -(bc p zs).length) 0)
theorem iI(zs:List Int)(V:zs.length<=1000000)(g:Nat)(cap:List PV)(p:Int->Bool)(J:∀r,em r cap=cap)(hp:jk cap=false)(C:∀k,bP k cap)(ho:qv cap)
 (h:∀x∈zs,am Tryz.prog g (af x::cap) (λr=>r=.pv (BL (p x)))):vz Tryz.prog 150 1 (aB zs) [.fn (.func g) [] cap] (Jj p zs):=by
 have Q:=pH zs V g cap p J hp C h;refine vz.ofInts (by kernel_rfl) ⟨⟨trivial,ho⟩,trivial⟩ ⟨⟨trivial,C 0⟩,trivial⟩ (λX pre d cp T W=>?_) (λU q cp=>?_)
 .refine m7 aD Tryz.func150 ?_;simp[hp,J,FY];refine ak.introP Q ?_
  by_cases c:∃i,∃h:i<zs.length,p zs[i]=true∧∀j (hj:j<zs.length),j<i->p zs[j]=false
  rotate_left
  .have o:∀j (hj:j<zs.length),p zs[j]=false:=by
    intro j
    induction j using Nat.strongRecOn with
    |ind j Z=>
     intro hj;cases e:p zs[j]
     .rfl
     .exact absurd ⟨j,hj,e,λk hk L=>Z k L hk⟩ c
   have hd:=mE p zs λx hx=>by
    obtain⟨j,hj,rfl⟩:=Qm hx;exact o j hj
   rw[eJ o];simp;exact⟨some zs.length,zs,⟨by rw[hd],by rw[hd];simp⟩,rfl,λm M=>by cases M;exact Qc _,rfl,rfl⟩
  obtain⟨t,z,A,o⟩:=c;rw[gx z o A];have N:=eq t;have D:bc p (zs.take t)=zs.take t:=mE p _ λx hx=>by
   obtain⟨j,hj,rfl⟩:=Qm hx;rw[Qg]at hj;rw[Rr];exact o j (by omega) (by omega)
  simp;refine aH.intro (S:=λ(y:Nat×List Int)=>⟨[(0,.pv (.bsl 0 1 pre.length zs.length cp)),(1,.pv (.fn (.func g) [] cap)),(5,.pv (af ((bc p (zs.take y.1)).length:Nat))),(6,.pv (af y.1))],[blk pre y.2 d]⟩)
   (λy=>y.1<=zs.length∧(bc p (zs.take y.1)).length<y.1∧y.2.length=zs.length∧y.2.take (bc p (zs.take y.1)).length=bc p (zs.take y.1)∧y.2.drop y.1=zs.drop y.1) (λy=>zs.length -y.1) (t+1,zs) ?_ ?_ ?_
  .refine ai.to ?_ rfl (by simp) (by simp[C]) (by simp[fu]);have:(bc p (zs.take (t+1))).length=t:=by rw[il p zs z,Qb A,D,Qg];omega
   simp[N,this]
  .have:bc p (zs.take (t+1))=zs.take t:=by rw[il p zs z,Qb A,D]
   refine⟨by dsimp only;omega,?_,rfl,?_,rfl⟩
   .dsimp only;rw[this,Qg];omega
   .dsimp only;rw[this,Qg];congr 1;omega
  .rintro⟨j,b⟩ ⟨h1,P,H,B,I⟩;dsimp only at h1 P H B I
   by_cases G:j<zs.length
   .have R:=eq j;have K:b[j]'(by omega)=zs[j]:=by
     have:=SK (λl=>l[0]?) I;simp only[Rp,SR]at this;rw[P8 (by omega),P8 G]at this;exact Te this
    have s:=kj pre b d (i:=j) (by omega);rw[K]at s;have f:=eu pre b d;have hx:=h zs[j] (Qe G);have a:=il p zs G;simp[G,hp,J,s,f];refine⟨by omega,ah.intro hx ?_⟩;cases E:p zs[j]
    .rw[E]at a;simp only[QX,Rs]at a;have O:=eq ((bc p (zs.take j)).length);have F:=vW pre b d (i:=(bc p (zs.take j)).length) zs[j] (by omega);simp[f];refine⟨by omega,by omega,(j+1,b.set (bc p (zs.take j)).length zs[j]),by(try dsimp only);omega,⟨by(try dsimp only);omega,?_,by(try dsimp only);rw[Qz];exact H,?_,?_⟩,ai.to ?_ (by simp[F]) (by simp) (by simp[C]) (by simp[fu])⟩
     .dsimp only;rw[a,Qh,Ri];omega
     .dsimp only;rw[a,Qh,Ri,Rl,Uo (Qc _),B,Q0 (by omega)];rfl
     .dsimp only;rw[TJ (by omega)];have:=SK (List.drop 1) I
      rwa [RB,RB]at this
     .simp[R,O,a]
    .rw[E]at a;simp only[RV]at a;simp;refine⟨(j+1,b),by(try dsimp only);omega,⟨by(try dsimp only);omega,by dsimp only;rw[a];omega,H,by dsimp only;rw[a];exact B,?_⟩,ai.to (by simp[R,a]) rfl (by simp) (by simp[C]) (by simp[fu])⟩;dsimp only;have:=SK (List.drop 1) I
     rwa [RB,RB]at this
   .have:j=zs.length:=by omega
    subst this;rw[QO]at P B;have f:=eu pre b d;have u:=rK pre b d (i:=(bc p zs).length) (n:=zs.length -(bc p zs).length) 0 (by omega);simp[H];refine⟨⟨by omega,by omega⟩,by omega,by omega,⟨by omega,by omega⟩,some (bc p zs).length,bc p zs++List.replicate (zs.length -(bc p zs).length) 0,⟨rfl,rfl⟩,by simp;omega,λm M=>by cases M;omega,rfl,?_⟩;rw[u,B,QK (by omega),Rx]
 .subst U;refine ao aD Tryz.func150 ?_;simp[hp,J];refine ah.intro (Q.conv ⟨_,_,rfl,λw v Y=>⟨q,cp,Y,Qq _,.inl rfl⟩,_,_,rfl,PV.as.refl _,rfl⟩) ?_;rw[eJ (λj hj=>by simp at hj)];simp;exact⟨some 0,⟨rfl,rfl⟩,.inr rfl,rfl⟩
end Go.AX
namespace Go.AX
set_option maxRecDepth 8000
open Go.Proofs
set_option linter.unusedSimpArgs false
structure Mk where
  v:Int
  lev:Int
  rea:Int
  pla:Int
instance:Inhabited Mk:=⟨⟨0,0,0,0⟩⟩
structure Tr where
  marks:List Mk
  lits:List Int
  beg:List Int
def pn(x:Mk):List PV:=[af x.v,af x.lev,af x.rea,af x.pla]
def cU(T:Tr):List PV:=[.seq false 4 (T.marks.map pn),.seq false 1 (ab T.lits),.seq false 1 (ab T.beg),BL true]
def gi(T:Tr):List SV:=[.own true 4 (T.marks.map pn),.own true 1 (ab T.lits),.own true 1 (ab T.beg),.pv (BL true)]
abbrev bE(T:Tr):PV:=.iptr 4 [cU T] 0 0
@[simp] theorem nI(k:Nat)(l:List Mk):bQ k (l.map pn):=by
 induction l with
 |nil=>trivial
 |cons x xs a=>exact⟨⟨trivial,trivial,trivial,trivial,trivial⟩,a⟩
@[simp] theorem Oh(r:Nat->Nat->PV)(l:List Mk):lz r (l.map pn)=l.map pn:=by
 rw[cb,Ra];congr 1
theorem cG{h:List (List SV)}{b:Nat}{T:Tr}(d:h[b]?=some (gi T))(n:Nat):a8 h (n+1) b 0=bE T:=by
 obtain⟨c,a⟩:=P7.1 d;simp[a8,c,a,gi,cU,frzC]
def Tr.ok(T:Tr):Prop:=1<=T.marks.length∧T.marks.length<=100001
theorem l4(T:Tr):am Tryz.prog 119 [bE T] (λr=>r=.pv (BL true)):=by
 refine ao aD Tryz.func119 ?_;simp[bE,cU]
def bC(T:Tr)(i:Int):Mk:=T.marks.getD i.toNat default
def fJ(T:Tr)(l:Int):Int:=if ax l ((T.marks.length:Int) -1)≠0 then 10 else if(bC T (ae l)).v≠0 then 21 else 0
theorem df{n m:Int}(a:0<=m∧m<=100000):ax n m=0↔n≠0∧-m<=n∧n<=m:=by
 unfold ax;rw[Qa (by omega)];have:nH n m=true↔n≠0∧-m<=n∧n<=m:=by unfold nH;simp
 split
 .rename_i h;exact⟨λ_=>this.1 h,λ_=>rfl⟩
 .rename_i h;exact⟨λx=>by simp at x,λx=>absurd (this.2 x) h⟩
theorem oG{n m:Int}(a:0<=m∧m<=100000)(h:ax n m=0):1<=ae n∧ae n<=m∧cK n=true∧ae n=du n:=by
 obtain⟨h1,c,d⟩:=(df a).1 h;have hk:=(aW n).2 ⟨h1,by omega,by omega⟩;have b:ae n=du n:=by unfold ae;rw[Qb hk]
 rw[b];unfold du;refine⟨?_,?_,hk,rfl⟩<;>split<;>omega
theorem Ce(T:Tr)(l:Int)(ht:T.ok):am Tryz.prog 172 [bE T,af l] (λr=>r=.pv (af (fJ T l))):=by
 refine ao aD Tryz.func172 ?_;obtain⟨t1,g⟩:=ht;have f:aX ((T.marks.length:Int) -1)=(T.marks.length:Int) -1:=aq (by omega) (by omega);have d:=l4 T;have a:fJ T l=if ax l ((T.marks.length:Int) -1)≠0 then 10 else if(bC T (ae l)).v≠0 then 21 else 0:=rfl;generalize fJ T l=E at a⊢;simp only[bE,cU]at d;simp[bE,cU,f];refine ah.intro d ?_;simp[f];refine ah.intro (i9 l ((T.marks.length:Int) -1)) ?_;simp;refine⟨λc=>by rw[a,Qb c],λc=>?_⟩;obtain⟨h,j,v3,v4⟩:=oG (by omega) c;obtain⟨i,hi⟩:∃i:Nat,ae l=(i:Int):=⟨(ae l).toNat,by omega⟩;have b:i<T.marks.length:=by omega
 have e:bC T (ae l)=T.marks[i]:=by unfold bC;rw[hi,Rm,P9,P8 b];rfl
 rw[e,Qa (by simp[c])]at a;refine br.intro (aG l) ?_;simp[hi,b,pn];exact⟨λc=>by rw[a,Qb c],λc=>by rw[a,Qa (by simp[c])]⟩
def dA(T:Tr)(v:Int):Mk×Bool:=if v<1∨(T.marks.length:Int)<=v∨(bC T v).v=0 then(⟨0,-1,-1,-1⟩,false)else(bC T v,true)
theorem Ao(T:Tr)(v:Int)(ht:T.ok):am Tryz.prog 247 [bE T,af v] (λr=>r=.pv (.tup [.agg (pn (dA T v).1),BL (dA T v).2])):=by
 refine nF [] [.cell 4 _,.tmp 5] aD Tryz.func247 ?_;have c:=l4 T;obtain⟨t1,e⟩:=ht;have a:dA T v=if v<1∨(T.marks.length:Int)<=v∨(bC T v).v=0 then(⟨0,-1,-1,-1⟩,false)else(bC T v,true):=rfl;generalize dA T v=R at a⊢;simp only[bE,cU]at c;simp[bE,cU];refine ah.intro c ?_
 by_cases c1:v<1
 .rw[Qb (.inl c1)]at a;subst a;simp[c1,pn]
 by_cases c2:(T.marks.length:Int)<=v
 .rw[Qb (.inr (.inl c2))]at a;subst a;simp[c1,c2,pn]
 obtain⟨i,rfl⟩:∃i:Nat,v=(i:Int):=⟨v.toNat,by omega⟩;have b:i<T.marks.length:=by omega
 have c3:¬T.marks.length<=i:=by omega
 have d:bC T i=T.marks[i]:=by unfold bC;rw[Rm,P9,P8 b];rfl
 rw[d]at a
 by_cases c4:T.marks[i].v=0
 .rw[Qb (.inr (.inr c4))]at a;subst a;simp[c1,c3,b,c4,pn]
 .rw[Qa (by omega)]at a;subst a;simp[c1,c3,b,c4,pn]
theorem fv(T:Tr)(v:Int)(ht:T.ok):am Tryz.prog 170 [bE T,af v] (λr=>r=.pv (af (dA T v).1.lev)):=by
 refine ao aD Tryz.func170 ?_;have h:=Ao T v ht;simp only[bE,cU,pn]at h;simp[bE,cU];refine ah.intro h ?_;simp
theorem gj(T:Tr)(v:Int)(ht:T.ok):am Tryz.prog 167 [bE T,af v] (λr=>r=.pv (af (dA T v).1.rea)):=by
 refine ao aD Tryz.func167 ?_;have h:=Ao T v ht;simp only[bE,cU,pn]at h;simp[bE,cU];refine ah.intro h ?_;simp
theorem mF(T:Tr)(v:Int)(ht:T.ok):am Tryz.prog 245 [bE T,af v] (λr=>r=.pv (af (dA T v).1.pla)):=by
 refine ao aD Tryz.func245 ?_;have h:=Ao T v ht;simp only[bE,cU,pn]at h;simp[bE,cU];refine ah.intro h ?_;simp
def cv(T:Tr)(l:Int):Int:=if ax l ((T.marks.length:Int) -1)≠0 then 0 else if l<0 then aX (-(bC T (ae l)).v)else(bC T (ae l)).v
theorem fw(T:Tr)(l:Int)(ht:T.ok):am Tryz.prog 103 [bE T,af l] (λr=>r=.pv (af (cv T l))):=by
 refine ao aD Tryz.func103 ?_;obtain⟨t1,g⟩:=ht;have f:aX ((T.marks.length:Int) -1)=(T.marks.length:Int) -1:=aq (by omega) (by omega);have d:=l4 T;have a:cv T l=if ax l ((T.marks.length:Int) -1)≠0 then 0 else if l<0 then aX (-(bC T (ae l)).v)else(bC T (ae l)).v:=rfl;generalize cv T l=E at a⊢;simp only[bE,cU]at d;simp[bE,cU,f];refine ah.intro d ?_;simp[f];refine aO.intro (r:=.pv (af (ax l ((T.marks.length:Int) -1)))) (λ_=>i9 l ((T.marks.length:Int) -1)) ?_;simp;refine⟨λc=>by rw[a,Qb c],λc=>?_⟩;obtain⟨h,j,v3,v4⟩:=oG (by omega) c;obtain⟨i,hi⟩:∃i:Nat,ae l=(i:Int):=⟨(ae l).toNat,by omega⟩;have b:i<T.marks.length:=by omega
 have e:bC T (ae l)=T.marks[i]:=by unfold bC;rw[hi,Rm,P9,P8 b];rfl
 rw[e,Qa (by simp[c])]at a;refine br.intro (aG l) ?_;simp[hi,b,pn];exact⟨λc=>by rw[a,Qb c],λc=>by rw[a,Qa (by omega)]⟩
theorem eY(T:Tr)(b:T.lits.length<=1000000):am Tryz.prog 58 [bE T] (λr=>r=.own true 1 (ab T.lits)):=by
 refine ao aD Tryz.func58 ?_;have a:=l4 T;simp only[bE,cU]at a;simp[bE,cU];refine ah.intro a ?_;simp;refine ah.intro (ez T.lits b) ?_;simp
end Go.AX
namespace Go.AX
set_option maxRecDepth 16000
open Go.Proofs
set_option linter.unusedSimpArgs false
def gH(T:Tr)(l rea:Int):Tr:=⟨T.marks.set (ae l).toNat ⟨if l<0 then-1 else 1,T.beg.length,rea,T.lits.length⟩,T.lits++[l],T.beg⟩
def FZ:Sch:=
 let R11:Sch:=.fork [(11,.take 12 (.take 13 (.fork [(14,.done)])))]
 let A:Sch:=.fork [(9,.fork [(10,R11)])]
 .take 0 (.take 1 (.take 2 (.take 3 (.take 5 (.take 6 (.take 7 (.fork [(4,.fork [(8,A)]),(8,.fork [(4,A),(9,.fork [(4,.fork [(10,R11)]),(10,.fork [(4,R11)])])])])))))))
theorem iJ(k:Nat)(T:Tr):cT k (gi T):=⟨nI k _,aS k _,aS k _,trivial,trivial⟩
theorem bX{k:Nat}{x:List SV}(hx:cT k x):∀(b:Nat){h:List (List SV)},dy k h->dy k (h.set b x)
 |_,[],_=>trivial
 |0,_::_,a=>⟨hx,a.2⟩
 |b+1,_::_,a=>⟨a.1,bX hx b a.2⟩
theorem da{h:List (List SV)}{b:Nat}{x:List SV}(a:h[b]?=some x):h.set b x=h:=by
 apply Rt;intro i;rw[QB];split
 .rename_i e;subst e;rw[Qb (P7.1 a).1,a]
 .rfl
theorem vY{h:List (List SV)}{b:Nat}(a:b<h.length)(y x:List SV):(h++[y]).set b x=h.set b x++[y]:=Su _ _ a
theorem Cf(h:List (List SV))(b:Nat)(T:Tr)(n:h[b]?=some (gi T))(l rea:Int)(q:0<=ae l∧ae l<T.marks.length)(hs:T.lits.length<=1000000):
 ay Tryz.prog 173 [.ptr b 0,af l,af rea] h (λr h'=>h'=h.set b (gi (gH T l rea))∧r=.pv (.tup [])):=by
 refine dY [] [] (h.set b (gi (gH T l rea))) (by simp) (λo=>by rw[Qz];exact bX (iJ _ _) b o) aD Tryz.func173 ?_;obtain⟨a,e⟩:=P7.1 n;obtain⟨i,hi⟩:∃i:Nat,ae l=(i:Int):=⟨(ae l).toNat,by omega⟩;have j:i<T.marks.length:=by omega
 have d:∀y,(h++[y])[b]?=some (gi T):=λy=>by rw[Qd a];exact n
 have f:∀y x,(h++[y]).set b x=h.set b x++[y]:=λy x=>vY a y x;simp only[gi]at d;have g:∀x y,(h.set b x++[y])[b]?=some x:=λx y=>by rw[Qd (by simpa using a)];simp[a]
 have m:∀x y z,(h.set b x++[y]).set b z=h.set b z++[y]:=λx y z=>by rw[vY (by simpa using a),TO]
 have p:∀x:Mk,(T.marks.map pn).set i [af x.v,af x.lev,af x.rea,af x.pla]=(T.marks.set i x).map pn:=λx=>by rw[T6];rfl
 have k:ab T.lits++[[af l]]=ab (T.lits++[l]):=qg _ _
 by_cases c:l<0
 .simp[e,a,gi,c,d,f];refine br.intro (aG l) ?_;simp[e,a,gi,c,d,f,g,m,hi,j,pn,gH,k,fP];omega
 .simp[e,a,gi,c,d,f];refine br.intro (aG l) ?_;simp[e,a,gi,c,d,f,g,m,hi,j,pn,gH,k,fP];omega
def pI(T:Tr):Tr:=⟨T.marks,T.lits,T.beg++[(T.lits.length:Int)]⟩
def km(T:Tr)(l:Int):Tr:=if fJ T l=0 then gH (pI T) l (-1)else T
def Ap(T:Tr)(l rea:Int):Int:=if fJ T l≠0 then fJ T l else if rea<0 then 2 else 0
def kn(T:Tr)(l rea:Int):Tr:=if Ap T l rea=0 then gH T l rea else T
theorem un{T:Tr}(ht:T.ok){l:Int}(h:fJ T l=0):ax l ((T.marks.length:Int) -1)=0∧(bC T (ae l)).v=0∧1<=ae l∧ae l<T.marks.length:=by
 unfold fJ at h;split at h
 .cases h
 .rename_i h1;split at h
  .cases h
  .rename_i b;have a:ax l ((T.marks.length:Int) -1)=0:=by simpa using h1
   obtain⟨c,d,_,_⟩:=oG (by have:=ht.1;have:=ht.2;omega) a;exact⟨a,by simpa using b,c,by omega⟩
theorem Aq(h:List (List SV))(b:Nat)(T:Tr)(f:h[b]?=some (gi T))(l:Int)(ht:T.ok)(hs:T.lits.length<=1000000)(p:T.beg.length<=1000000):
 ay Tryz.prog 104 [.ptr b 0,af l] h (λr h'=>h'=h.set b (gi (km T l))∧r=.pv (af (fJ T l))):=by
 refine dY [3] [.tmp 4] (h.set b (gi (km T l))) (by simp) (λo=>by rw[Qz];exact bX (iJ _ _) b o) aD Tryz.func104 ?_;obtain⟨d,g⟩:=P7.1 f;have j:=Ce T l ht;have a:∀n,a8 h (n+1) b 0=bE T:=λn=>cG f n;simp;simp only[bE]at j a;have k:=j;rw[←a 0]at k;refine ak.introP (r:=.pv (af (fJ T l))) (by simpa[a]using j) ?_ (by simp[d]) (by simp);simp;refine⟨λc=>?_,λc=>?_⟩
 .obtain⟨s,t,u,q⟩:=un ht c;have e:km T l=gH (pI T) l (-1):=by unfold km;rw[Qb c]
  have m:=Cf (h.set b (gi (pI T))) b (pI T) (by simp[d]) l (-1) ⟨by omega,q⟩ hs;refine bd.meet FZ ⟨[(0,.pv (.ptr b 0)),(1,.pv (af l)),(5,.pv (af (fJ T l)))],h.set b (gi (pI T))⟩ (by kernel_rfl) ?_ ?_
  .have i:ab T.beg++[[af (T.lits.length:Int)]]=ab (T.beg++[(T.lits.length:Int)]):=qg _ _;simp[FZ,g,d,gi];and_intros
   all_goals first
    |omega
    |exact ai.keep (by simp) (by simp[pI,i])
  .simp;refine ak.intro m ?_;rintro _ _ ⟨rfl,rfl⟩;simp[e,c,fP];exact QM (by simp)
 .have e:km T l=T:=by unfold km;rw[Qa c]
  simp[e,da f,fP]
theorem uo(h:List (List SV))(b:Nat)(T:Tr)(e:h[b]?=some (gi T))(l rea:Int)(ht:T.ok)(hs:T.lits.length<=1000000):
 ay Tryz.prog 99 [.ptr b 0,af l,af rea] h (λr h'=>h'=h.set b (gi (kn T l rea))∧r=.pv (af (Ap T l rea))):=by
 refine dY [] [.tmp 6] (h.set b (gi (kn T l rea))) (by simp) (λm=>by rw[Qz];exact bX (iJ _ _) b m) aD Tryz.func99 ?_;obtain⟨g,k⟩:=P7.1 e;have i:=Ce T l ht;have f:∀n,a8 h (n+1) b 0=bE T:=λn=>cG e n;have a:Ap T l rea=if fJ T l≠0 then fJ T l else if rea<0 then 2 else 0:=rfl;simp only[bE]at i f;simp;refine ak.introP (r:=.pv (af (fJ T l))) (by simpa[f]using i) ?_ (by simp[g]) (by simp)
 by_cases c:fJ T l=0
 .rw[Qa (by simp[c])]at a;obtain⟨p,q,s,o⟩:=un ht c
  by_cases c2:rea<0
  .rw[Qb c2]at a;have d:kn T l rea=T:=by unfold kn;rw[Qa (by rw[a];decide)]
   simp[c,c2,a,d,da e,fP]
  .rw[Qa c2]at a;have d:kn T l rea=gH T l rea:=by unfold kn;rw[Qb a]
   have j:=Cf h b T e l rea ⟨by omega,o⟩ hs;simp[c,c2];refine ak.intro j ?_;rintro _ _ ⟨rfl,rfl⟩;simp[d,a,c,fP];exact QM (by simp)
 .rw[Qb c]at a;have d:kn T l rea=T:=by unfold kn;rw[Qa (by rw[a];exact c)]
  simp[c,a,d,da e,fP]
def jE(n:Nat):Tr:=⟨List.replicate (n+1) ⟨0,0,0,0⟩,[],[]⟩
theorem Jk(h:List (List SV))(n:Nat)(hn:n<=100000):
 ay Tryz.prog 63 [af n] h (λr h'=>r=.pv (.tup [.ptr h.length 0,af 0])∧h'=h++[[.own true 4 ((jE n).marks.map pn),.pv (.lit (.slice none 0 0)),.pv (.lit (.slice none 0 0)),.pv (BL true)]]):=by
 refine uh [2,3] aD Tryz.func63 (λ_ _=>results_tmp2 rfl _ _ _) ?_;have a:=eq n;have c2:¬(n:Int)<0:=by omega
 have c3:¬100000<(n:Int):=by omega
 have c4:¬100000<n:=by omega
 simp[c2,c3,c4,a,jE,pn];omega
end Go.AX
namespace Go.AX
open Go.Proofs
set_option linter.unusedSimpArgs false
structure En where
  l:Int
  lev:Int
  rea:Int
instance:Inhabited En:=⟨⟨0,0,0⟩⟩
structure RT where
  vars:Int
  rows:List En
  dep:Int
def pJ(t:RT)(v:Int):Int:=gG (λx:En=>decide (ae x.l=v)) t.rows
theorem ko{t:RT}{v:Int}(h:0<=pJ t v):∃i:Nat,∃hi:i<t.rows.length,pJ t v=i∧ae t.rows[i].l=v:=by
 unfold pJ gG at*;split at h
 .rename_i i a;rw[RJ]at a;obtain⟨h1,b,_⟩:=a;exact⟨i,h1,rfl,by simpa using b⟩
 .omega
def mayR(t:RT)(l:Int):Int:=if ax l t.vars≠0 then 10 else if 0<=pJ t (ae l)then 21 else 0
def Oi(t:RT)(v:Int):Int×Int:=if pJ t v<0 then(-1,-1)else((t.rows.getD (pJ t v).toNat default).lev,(t.rows.getD (pJ t v).toNat default).rea)
end Go.AX