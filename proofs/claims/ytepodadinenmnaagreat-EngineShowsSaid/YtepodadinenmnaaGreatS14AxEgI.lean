/-
  Contracts: engines: a literal decided.
  Contracts: engines: a model.
  Contracts: what a conflict teaches, of more variables.
-/
import Derived.Test.YtepodadinenmnaaGreatS14AxEgF
import Derived.Test.YtepodadinenmnaaGreatS14AxEgD
import Derived.Test.YtepodadinenmnaaGreatS14AxRnX
import Derived.Test.YtepodadinenmnaaGreatS14AxDfD
namespace Go.AX
open Go.Proofs
set_option linter.unusedSimpArgs false
section
variable {h : List (List SV)} {be bt ba bw bh : Nat} {mp : List (Int × Nat)} {mb : List (Int × By)} {E : ES}
def CY(n:Nat)(E a:ES)(b:Bool):Prop:=
  ((E.over=true∨E.calm=false)∧a=E∧b=false)∨
  (E.over = false ∧ E.calm = true ∧ ∃ q, HpG n 1000000000000 q ∧
    ((b = true ∧ ∃ x, fJ E.T x = 0 ∧ a = { E with T := km E.T x, calm := false, q := q } ∧ ∀ v ∈ E.q.row, v ∈ q.row ∨ v ∈ E.T.lits.map ae ∨ v = ae x) ∨
     (b=false∧a={E with q:=q}∧q.row=[]∧∀v∈E.q.row,v∈E.T.lits.map ae)))
set_option maxRecDepth 16000 in
theorem Bo(L:LayE h be bt ba bw bh mp mb E){n:Nat}(l:TOk n E.T)(g:HpG n 1000000000000 E.q)(hp:E.ph.length=n+1):
 ay Tryz.prog 46 [.ptr be 0] h (λr h'=>∃C b,r=.pv (BL b)∧CY n E C b∧LayE h' be bt ba bw bh mp mb C∧Ext h h' (eG be bt ba bw bh mp mb) (eG be bt ba bw bh mp mb)):=by
 refine cY [] [.tmp 2] aD Tryz.func46 ?_;have hf:=l.few;have hn:=l.hn;have O:CY n E=λC b=>((E.over=true∨E.calm=false)∧C=E∧b=false)∨(E.over=false∧E.calm=true∧∃q,HpG n 1000000000000 q∧((b=true∧∃x,fJ E.T x=0∧C={E with T:=km E.T x,calm:=false,q:=q}∧∀v∈E.q.row,v∈q.row∨v∈E.T.lits.map ae∨v=ae x)∨(b=false∧C={E with q:=q}∧q.row=[]∧∀v∈E.q.row,v∈E.T.lits.map ae))):=rfl;generalize CY n E=DT at*;obtain⟨i,a⟩:=P7.1 L.e;simp;refine ak.intro (dE L.e) ?_;rintro _ h ⟨rfl,rfl⟩
 by_cases ho:E.over=true∨E.calm=false
 .have G:DT E false:=by rw[O];exact .inl ⟨ho,rfl,rfl⟩
  rcases ho with ho|ho
  .simp[a,i,bS,ho];exact⟨E,G,L,Ext.refl _ _⟩
  .cases j:E.over<;>simp[a,i,bS,ho,j]<;>exact⟨E,G,L,Ext.refl _ _⟩
 have y:E.over=false:=by cases e:E.over<;>simp_all
 have j:E.calm=true:=by cases e:E.calm<;>simp_all
 simp[a,i,bS,y,j];refine aH.intro (S:=λ(x:List (List SV)×HS)=>⟨[(0,.pv (.ptr be 0)),(2,.pv (BL false))],x.1⟩)
  (λx=>LayE x.1 be bt ba bw bh mp mb {E with q:=x.2}∧Ext h x.1 (eG be bt ba bw bh mp mb) (eG be bt ba bw bh mp mb)∧HpG n 1000000000000 x.2∧∀v∈E.q.row,v∈x.2.row∨v∈E.T.lits.map ae) (λx=>x.2.row.length) (h,E.q) ?_ ⟨L,Ext.refl _ _,g,λv z=>.inl z⟩ ?_
 .exact ai.keep (by simp) rfl
 clear L i a g;rintro⟨H,q⟩ ⟨p,M,k,hin⟩;dsimp only at p M k hin;obtain⟨i,a⟩:=P7.1 p.e;have hz:=gr (q:=q) p.q 2;have P:=p.lt.2;have kL:=CI q (by rw[k.sl];omega);simp[a,i,bS,hz];refine ak.introP kL ?_ (by simp[P]) (by simp)
 by_cases c:q.row=[]
 .simp[c];refine⟨{E with q:=q},?_,p,M⟩;rw[O];exact .inr ⟨y,j,q,k,.inr ⟨rfl,rfl,c,λv z=>(hin v z).resolve_left (by rw[c];simp)⟩⟩
 have c':0<q.row.length:=Ru.2 c;have I:bY q≠0:=λe=>c (k.peek_zero.1 e);have J:=k.peek_mem I;obtain⟨u,hu⟩:∃u:Nat,bY q=u:=⟨(bY q).toNat,by have:=k.inr _ J;omega⟩;have W:=k.inr _ J;rw[hu]at W;obtain⟨t1,_,t3,t4,_⟩:=Ek k;have t4:=t4 I;have Z:=HZ H bh q p.q k hn;rw[t3]at Z;have D:=p.heap (eV q).1;have X2:=M.trans (Ext.set bh (ap (eV q).1) (.inr (.inl rfl)));generalize(eV q).1=o at*;rw[hu]at Z t4;have m:∀v∈E.q.row,v∈o.row∨v∈E.T.lits.map ae∨v=u:=λv z=>by
  rcases hin v z with e|e
  .rcases QC.1 (t4.subset e)with e|e
   .exact .inr (.inr e)
   .exact .inl e
  .exact .inr (.inl e)
 have s:o.row.length<q.row.length:=by have:=t4.length_eq;simp at this;omega
 have V:u<E.ph.length:=by omega
 simp[c',a,i,bS];refine ak.intro Z ?_;rintro _ _ ⟨rfl,rfl⟩;clear i a hz kL;generalize H.set bh (ap o)=H2 at*;obtain⟨i,a⟩:=P7.1 D.e;have U:cK u=true:=(aW _).2 (by omega);have kM:=HL u E.ph[u];have Q:HK u E.ph[u]=if E.ph[u]=true then(u:Int)else-u:=by unfold HK;rw[Qa (by simp[U];omega)]
 have hx:∃x:Int,HK u E.ph[u]=x∧ax x n=0∧ae x=u:=by
  have N:ax (u:Int) n=0:=(df (by omega)).2 (by omega);have K:=(b8 hn N).2.2.2.2.2.1;have e3:ae (u:Int)=u:=by rw[K];unfold du;rw[Qa (by omega)]
  rw[Q];split
  .exact⟨_,rfl,N,e3⟩
  .exact⟨_,rfl,qm hn N,by rw[dC];exact e3⟩
 obtain⟨x,X,A,B⟩:=hx;rw[X]at kM;simp[a,i,bS,V];refine ah.intro kM ?_;have Y:=cG D.w.t 2;have ht:=(P7.1 D.w.t).1;have kV:=fw E.T x l.okT;simp[a,i,bS,Y];refine ak.introP kV ?_ (by simp[ht]) (by simp)
 by_cases d:cv E.T x=0
 .have hm:fJ E.T x=0:=(l.may x).2 ⟨A,(l.val0 A).1 d⟩;have L3:=D.eng {E with q:=o,calm:=false} rfl rfl rfl rfl;have X3:=X2.trans (Ext.set be (bS bt ba bw bh {E with q:=o,calm:=false}) (.inl rfl));generalize F:H2.set be (bS bt ba bw bh {E with q:=o,calm:=false})=H3 at*;simp only[bS]at F;have kD:=Aq H3 bt E.T L3.w.t x l.okT (by omega) (by have:=l.deep;omega);rw[hm]at kD;have L4:=L3.trail (km E.T x);have X4:=X3.trans (Ext.set bt (gi (km E.T x)) (.inr (.inr (.inr (.inr (.inl rfl))))));simp[d,a,i,bS,F];clear i a;obtain⟨i,a⟩:=P7.1 L3.e;simp[a,i,bS];refine ak.intro kD ?_;rintro _ _ ⟨rfl,rfl⟩;simp;refine⟨_,?_,L4,X4⟩;rw[O];exact .inr ⟨y,j,o,t1,.inl ⟨rfl,x,hm,rfl,by rw[B];exact m⟩⟩
 .have R:(u:Int)∈E.T.lits.map ae:=by
   have:=mt (l.val0 A).2 d
   by_cases e:x∈E.T.lits
   .exact B▸Sy e
   .by_cases K:-x∈E.T.lits
    .have:=Sy (f:=ae) K
     rwa [dC,B]at this
    .exact absurd ⟨e,K⟩ this
  simp[d];exact⟨(H2,o),s,⟨D,X2,t1,λv z=>by have:=(m v z).imp id λe=>e.elim id λe=>e▸R;simpa using this⟩,ai.keep (by simp) rfl⟩
end
end Go.AX
namespace Go.AX
set_option maxRecDepth 16000
open Go.Proofs
set_option linter.unusedSimpArgs false
def mT(l:List Int)(n:Nat):List Bool:=(List.range n).map λ(i:Nat)=>decide ((i:Int)+1∈l)
def wQ(l:List Int)(n i:Nat):List Bool:=mT l i++List.replicate (n -i) false
theorem Iz(l:List Int)(n i:Nat)(h:i<=n):(wQ l n i).length=n:=by unfold wQ mT;simp;omega
theorem IA(l:List Int)(n i:Nat)(h:i<n):(wQ l n i).set i (decide ((i:Int)+1∈l))=wQ l n (i+1):=by
 unfold wQ mT;have e:n -i=(n -(i+1))+1:=by omega
 rw[e,TI,Sm _ _ (by simp)];simp[Tg]
theorem IB(l:List Int)(n:Nat):wQ l n n=mT l n:=by unfold wQ;simp
theorem IC(l:List Int)(x:Int):(kU l x=1)=(x∈l):=by
 unfold kU;split
 .rename_i h;simp[h]
 .rename_i h;split<;>simp[h]
theorem EH(l:List Int)(n:Nat)(g:l.length<=1000000)(hn:n<=100000):am Tryz.prog 57 [.seq false 1 (ab l),af n] (λr=>r=.pv (.seq true 1 (ea (mT l n)))):=by
 refine am.wk (R:=λr=>∃x,r=.pv x∧bI x (.seq true 1 (ea (mT l n)))) ?_ (λr ⟨x,e,h⟩=>⟨x,_,e,h,rfl⟩);refine nF [] [.tmp 4] aD Tryz.func57 ?_;have j:=λh=>pP h l g;have c1:¬(n:Int)<0:=by omega
 have c2:¬(100000:Int)<n:=by omega
 simp[c1,c2];refine ah.introM (j _) ?_;rintro _ _ ⟨rfl,rfl⟩;simp[mR];refine⟨by omega,?_⟩;refine aH.intro (S:=λ(i:Nat)=>⟨[(5,.pv (mR 0)),(6,.own true 1 (ea (wQ l n i))),(19,.pv (af n)),(20,.pv (af i))],[[.omap true (aC fI (cg l l.length))]]⟩) (λi=>i<=n) (λi=>n -i) 0 ?_ (Qq _) ?_
 .exact ai.keep (by simp[mR,wQ,mT,ea]) rfl
 intro i hi;have a:=Iz l n i hi
 by_cases c:i<n
 .have f:=eq i;have hs:=IA l n i c;have d:=nU l ((i:Int)+1);have h1:=IC l ((i:Int)+1);simp[c,f,mR,a8];refine ak.introP d ?_;simp[a,c,h1,xM,hs];exact⟨i+1,by(try dsimp only);omega,by(try dsimp only);omega,ai.keep (by simp[f,mR,hs]) rfl⟩
 .have b:i=n:=by omega
  subst b;simp[IB,bI,bG]
section
variable {h : List (List SV)} {be bt ba bw bh : Nat} {mp : List (Int × Nat)} {mb : List (Int × By)} {E : ES}
def EK(E:ES)(n:Nat):Bool:=!E.over&&(decide (E.con<0)&&(decide (E.T.lits.length=n)&&decide (∀c∈E.cs,d0 c (mT E.T.lits n)=true)))
theorem EL(L:LayE h be bt ba bw bh mp mb E){n:Nat}(j:TOk n E.T)(m:E.vars=n)(x:E.cs.length<=1000000)(q:∀c∈E.cs,c.length<=1000000):
 ay Tryz.prog 15 [.ptr be 0] h (λr h'=>h'=h∧r=.pv (.tup [if EK E n=true then .seq true 1 (ea (mT E.T.lits n))else .lit (.slice none 0 0),BL (EK E n)])):=by
 refine fh [] [.tmp 2,.tmp 3] aD Tryz.func15 ?_;have v:=j.few;have hn:=j.hn;have a:EK E n=(!E.over&&(decide (E.con<0)&&(decide (E.T.lits.length=n)&&decide (∀c∈E.cs,d0 c (mT E.T.lits n)=true)))):=rfl;generalize EK E n=M at*;obtain⟨f,b⟩:=P7.1 L.e;have hz:=cG L.w.t 2;have ht:=(P7.1 L.w.t).1;have p:=yF E.T (by rw[j.len];omega) (by omega);have s:=eY E.T (by omega);have u:=EH E.T.lits n (by omega) hn;have o:=Iy E.vars E.cs (mT E.T.lits n) (by omega) q;simp;refine ak.intro (dE L.e) ?_;rintro _ h ⟨rfl,rfl⟩;cases ho:E.over
 rotate_left
 .have a:M=false:=by rw[a,ho];rfl
  subst a;simp[b,f,bS,ho,bI,bG]
 by_cases c1:0<=E.con
 .have a:M=false:=by rw[a,RX (by omega:¬E.con<0)];simp
  subst a;simp[b,f,bS,ho,c1,bI,bG]
 have k:E.con<0:=by omega
 rw[ho,Sn k]at a;simp[b,f,bS,ho,c1,hz];rw[j.len]at p;refine ak.introP p ?_ (by simp[ht]) (by simp)
 by_cases c2:E.T.lits.length=n
 rotate_left
 .have g:E.T.lits.length<n:=by omega
  have i:¬n<=E.T.lits.length:=by omega
  have a:M=false:=by rw[a,RX c2];simp
  subst a;simp[g,i,bI,bG]
 rw[Sn c2]at a;have g:¬E.T.lits.length<n:=by omega
 have i:n<=E.T.lits.length:=by omega
 simp[g,i,b,f,bS,ho,c1,hz];refine br.intro s ?_;simp[b,f,bS,m];refine br.intro u ?_;simp[b,f,bS,m];rw[m]at o;have l:(mT E.T.lits n).length=n:=by simp[mT]
 rw[l,Sn rfl]at o;refine ah.intro o ?_
 by_cases d:∀c∈E.cs,d0 c (mT E.T.lits n)=true
 .rw[Sn d]at a;subst a;simp[d,bI,bG];exact d
 .rw[RX d]at a;subst a;simp[d,bI,bG]
end
end Go.AX
namespace Go.AX
open Go.Proofs
set_option linter.unusedSimpArgs false
theorem p7(A:Ar)(T:Tr){B:Nat}(a:∀q,(au A q).length<=B)(all:List Int):∀(n:Nat)(p:PS),(cN A T all n p).lits.length<=p.lits.length+n*B
 |0,p=>by simp[cN]
 |n+1,p=>by
  rw[cN,RZ];split
  .omega
  split
  .have h:=p7 A T a all n (nQ A T p (all.getD n 0));have h1:=jK T (ae (all.getD n 0)) (au A (dA T (ae (all.getD n 0))).1.rea) ⟨pt p.seen (ae (all.getD n 0)) 0,p.lits,p.many -1⟩;have c:=a (dA T (ae (all.getD n 0))).1.rea;have b:nQ A T p (all.getD n 0)=dt T (ae (all.getD n 0)) (au A (dA T (ae (all.getD n 0))).1.rea) ⟨pt p.seen (ae (all.getD n 0)) 0,p.lits,p.many -1⟩:=rfl;rw[b]at h⊢;dsimp only at h1;omega
  .have h:=p7 A T a all n p;omega
set_option maxRecDepth 16000 in
theorem Bp(A:Ar)(T:Tr)(con:Int)(ht:T.ok)(h0:A.hd≠[])(hk:kJ A)(y:A.row.length<=1000000)(o:∀q,(au A q).length<=1000)(w:T.lits.length<=400):
 am Tryz.prog 92 [lD A,bE T,af con] (λr=>r=.pv (.tup [.seq true 1 (ab (pN A T con)),af (kQ A T con)])):=by
 refine am.wk (R:=λr=>∃x,r=.pv x∧bI x (.tup [.seq true 1 (ab (pN A T con)),af (kQ A T con)])) ?_ (λr ⟨x,e,h⟩=>⟨x,_,e,h,rfl⟩);refine nF [] [.tmp 6,.tmp 7] aD Tryz.func92 ?_;have j:=wq A h0 hk (by omega) con;have s:=jJ A h0 hk (by omega) con;have u:=fA A hk con;have l:=DP T (au A con) ht (by omega);have d:=DS A T con 0 ht h0 hk (by omega);have g:dt T 0 (au A con) ⟨[],[],0⟩=gT A T con:=rfl;rw[g]at d;have a:=jK T 0 (au A con) ⟨[],[],0⟩;rw[g]at a;dsimp only[List.length_nil]at a;have m:=eY T (by omega);have n:=GB A T (gT A T con) T.lits ht h0 hk (by omega) (by omega) (by omega) (by omega);have k:fin A T T.lits (gT A T con)=⟨(cN A T T.lits T.lits.length (gT A T con)).seen,qA T T.lits (cN A T T.lits T.lits.length (gT A T con)),(cN A T T.lits T.lits.length (gT A T con)).many⟩:=rfl;have b:kQ A T con=if je A con=0 then 20 else if nT T (au A con)=false then 30 else 0:=rfl;have f:pN A T con=if kQ A T con=0 then dq A T con else[]:=rfl;have t:dq A T con=Gw T (qA T T.lits (cN A T T.lits T.lits.length (gT A T con))):=rfl;have i:(qA T T.lits (cN A T T.lits T.lits.length (gT A T con))).length<=1000000:=by
  have v:=ya T T.lits (cN A T T.lits T.lits.length (gT A T con)) T.lits.length (Qc _);rw[uy]at v;have z:=p7 A T o T.lits T.lits.length (gT A T con);have C:=o con;omega
 generalize pN A T con=R at*;generalize kQ A T con=E at*;generalize dq A T con=S at*;generalize au A con=c at*;rw[k]at n;generalize cN A T T.lits T.lits.length (gT A T con)=W at*;generalize gT A T con=B at*;simp;refine ah.intro j ?_
 by_cases c1:je A con=0
 .rw[Qb c1]at b;subst b;rw[Qa (by omega)]at f;subst f;simp[c1,bI,bG,ab]
 rw[Qa c1]at b;simp[c1];refine ah.intro s ?_;simp;refine ah.intro l ?_;cases c2:nT T c
 .rw[Qb c2]at b;subst b;rw[Qa (by omega)]at f;subst f;simp[c2,bI,bG,ab]
 rw[Qa (by simp[c2])]at b;subst b;rw[Qb rfl]at f;subst f;simp[c2];simp only[Lx,iT]at d n;refine ak.intro d ?_;rintro _ _ ⟨rfl,rfl⟩;simp;refine ah.intro m ?_;simp;refine ak.intro (n.args (xs:=[.ptr 0 0,.seq true 1 (ab T.lits)]) (by simp[bG,bI])) ?_;rintro _ _ ⟨rfl,rfl⟩;have p:=DR T (qA T T.lits W) ht i;rw[←t]at p;simp;refine ah.intro p ?_;simp[bI,bG]
end Go.AX