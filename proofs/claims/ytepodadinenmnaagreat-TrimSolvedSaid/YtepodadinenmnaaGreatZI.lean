/-
  Contracts: engines: a literal decided; and what follows.
-/
import Derived.Test.YtepodadinenmnaaGreatZG
set_option linter.unusedSimpArgs false
set_option maxRecDepth 16000
namespace Go.AX
open Go.Proofs
section
variable {h : ao} {be bt ba bw bh : Nat} {mp : cg} {mb : List (Int × By)} {E : ES}
def Hz(n:Nat)(E E':ES)(b:Bool):Prop:=
  ((E.over=true∨E.calm=false)∧E'=E∧b=false)∨
  (E.over = false ∧ E.calm = true ∧ ∃ q, HpG n 1000000000000 q ∧
    ((b = true ∧ ∃ x, gZ E.T x = 0 ∧ E' = { E with T := jt E.T x, calm := false, q := q } ∧ ∀ v ∈ E.q.row, v ∈ q.row ∨ v ∈ E.T.lits.map aq ∨ v = aq x) ∨
     (b=false∧E'={E with q:=q}∧q.row=[]∧∀v∈E.q.row,v∈E.T.lits.map aq)))
theorem Fw(L:LayE h be bt ba bw bh mp mb E){n:Nat}(l:TOk n E.T)(g:HpG n 1000000000000 E.q)(hp:E.ph.length=n+1):
 aI Tryz.prog 46 [.ptr be 0] h (λr h'=>∃E' b,r=.pv (BL b)∧Hz n E E' b∧LayE h' be bt ba bw bh mp mb E'∧Ext h h' (dH be bt ba bw bh mp mb) (dH be bt ba bw bh mp mb)):=by
 refine dh [] [.tmp 2] aP Tryz.func46 ?_;have hf:=l.few;have hn:=l.hn;have N:Hz n E=λE' b=>((E.over=true∨E.calm=false)∧E'=E∧b=false)∨(E.over=false∧E.calm=true∧∃q,HpG n 1000000000000 q∧((b=true∧∃x,gZ E.T x=0∧E'={E with T:=jt E.T x,calm:=false,q:=q}∧∀v∈E.q.row,v∈q.row∨v∈E.T.lits.map aq∨v=aq x)∨(b=false∧E'={E with q:=q}∧q.row=[]∧∀v∈E.q.row,v∈E.T.lits.map aq))):=rfl;generalize Hz n E=DT at*;obtain⟨i,a⟩:=Vp.1 L.e;simp;refine ay.intro (ip L.e) ?_;rintro _ h ⟨rfl,rfl⟩;by_cases ho:E.over=true∨E.calm=false;have F:DT E false:=by rw[N];exact .inl ⟨ho,rfl,rfl⟩
 rcases ho with ho|ho;simp[a,i,cE,ho];exact⟨E,F,L,Ext.refl _ _⟩;cases j:E.over<;>simp[a,i,cE,ho,j]<;>exact⟨E,F,L,Ext.refl _ _⟩;have y:E.over=false:=by cases e:E.over<;>simp_all
 have j:E.calm=true:=by cases e:E.calm<;>simp_all
 simp[a,i,cE,y,j];refine aM.intro (S:=λ(x:ao×HS)=>⟨[(0,.pv (.ptr be 0)),(2,.pv (BL false))],x.1⟩)
  (λx=>LayE x.1 be bt ba bw bh mp mb {E with q:=x.2}∧Ext h x.1 (dH be bt ba bw bh mp mb) (dH be bt ba bw bh mp mb)∧HpG n 1000000000000 x.2∧∀v∈E.q.row,v∈x.2.row∨v∈E.T.lits.map aq) (λx=>x.2.row.length) (h,E.q) ?_ ⟨L,Ext.refl _ _,g,λv z=>.inl z⟩ ?_
 exact av.keep (by simp) rfl;clear L i a g;rintro⟨H,q⟩ ⟨p,K,k,hin⟩;dsimp only at p K k hin;obtain⟨i,a⟩:=Vp.1 p.e;have hz:=iR (q:=q) p.q 2;have O:=p.lt.2;have kL:=Hj q (by rw[k.sl];omega);simp[a,i,cE,hz];refine ay.introP kL ?_ (by simp[O]) (by simp);by_cases c:q.row=[];simp[c];refine⟨{E with q:=q},?_,p,K⟩;rw[N];exact .inr ⟨y,j,q,k,.inr ⟨rfl,rfl,c,λv z=>(hin v z).resolve_left (by rw[c];simp)⟩⟩;have c':0<q.row.length:=WJ.2 c;have G:cU q≠0:=λe=>c (k.peek_zero.1 e);have I:=k.peek_mem G;obtain⟨u,hu⟩:∃u:Nat,cU q=u:=⟨(cU q).toNat,by have:=k.inr _ I;omega⟩;have V:=k.inr _ I;rw[hu]at V;obtain⟨t1,_,t3,t4,_⟩:=Jj k;have t4:=t4 G;have Y:=Na H bh q p.q k hn;rw[t3]at Y;have C:=p.heap (gp q).1;have X2:=K.trans (Ext.set bh (aH (gp q).1) (.inr (.inl rfl)));generalize(gp q).1=o at*;rw[hu]at Y t4;have m:∀v∈E.q.row,v∈o.row∨v∈E.T.lits.map aq∨v=u:=λv z=>by
  rcases hin v z with e|e;rcases VU.1 (t4.subset e)with e|e;exact .inr (.inr e);exact .inl e;exact .inr (.inl e)
 have s:o.row.length<q.row.length:=by have:=t4.length_eq;simp at this;omega
 have U:u<E.ph.length:=by omega
 simp[c',a,i,cE];refine ay.intro Y ?_;rintro _ _ ⟨rfl,rfl⟩;clear i a hz kL;generalize H.set bh (aH o)=Z at*;obtain⟨i,a⟩:=Vp.1 C.e;have R:dF u=true:=(bO _).2 (by omega);have kM:=MX u E.ph[u];have P:MW u E.ph[u]=if E.ph[u]=true then(u:Int)else-u:=by unfold MW;rw[Vs (by simp[R];omega)]
 have hx:∃x:Int,MW u E.ph[u]=x∧aQ x n=0∧aq x=u:=by
  have M:aQ (u:Int) n=0:=(d5 (by omega)).2 (by omega);have J:=(cC hn M).2.2.2.2.2.1;have e3:aq (u:Int)=u:=by rw[J];unfold gr;rw[Vs (by omega)]
  rw[P];split;exact⟨_,rfl,M,e3⟩;exact⟨_,rfl,tA hn M,by rw[eC];exact e3⟩
 obtain⟨x,W,A,B⟩:=hx;rw[W]at kM;simp[a,i,cE,U];refine ap.intro kM ?_;have X:=dR C.w.t 2;have ht:=(Vp.1 C.w.t).1;have kV:=gM E.T x l.okT;simp[a,i,cE,X];refine ay.introP kV ?_ (by simp[ht]) (by simp);by_cases d:df E.T x=0;have hm:gZ E.T x=0:=(l.may x).2 ⟨A,(l.val0 A).1 d⟩;have L3:=C.eng {E with q:=o,calm:=false} rfl rfl rfl rfl;have X3:=X2.trans (Ext.set be (cE bt ba bw bh {E with q:=o,calm:=false}) (.inl rfl));generalize D:Z.set be (cE bt ba bw bh {E with q:=o,calm:=false})=H3 at*;simp only[cE]at D;have kD:=D7 H3 bt E.T L3.w.t x l.okT (by omega) (by have:=l.deep;omega);rw[hm]at kD;have L4:=L3.trail (jt E.T x);have X4:=X3.trans (Ext.set bt (iI (jt E.T x)) (.inr (.inr (.inr (.inr (.inl rfl))))));simp[d,a,i,cE,D];clear i a;obtain⟨i,a⟩:=Vp.1 L3.e;simp[a,i,cE];refine ay.intro kD ?_;rintro _ _ ⟨rfl,rfl⟩;simp;refine⟨_,?_,L4,X4⟩;rw[N];exact .inr ⟨y,j,o,t1,.inl ⟨rfl,x,hm,rfl,by rw[B];exact m⟩⟩;have Q:(u:Int)∈E.T.lits.map aq:=by
  have:=mt (l.val0 A).2 d;by_cases e:x∈E.T.lits;exact B▸WV e;by_cases J:-x∈E.T.lits;have:=WV (f:=aq) J
  rwa [eC,B]at this
  exact absurd ⟨e,J⟩ this
 simp[d];exact⟨(Z,o),s,⟨C,X2,t1,λv z=>by have:=(m v z).imp id λe=>e.elim id λe=>e▸Q;simpa using this⟩,av.keep (by simp) rfl⟩
end
open Go.Proofs Go.Proofs.Tryz
section
def kY(l:af)(n:Nat):dC:=(List.range n).map λ(i:Nat)=>decide ((i:Int)+1∈l)
def Av(l:af)(n i:Nat):dC:=kY l i++List.replicate (n -i) false
theorem NC(l:af)(n i:Nat)(h:i<=n):(Av l n i).length=n:=by unfold Av kY;simp;omega
theorem ND(l:af)(n i:Nat)(h:i<n):(Av l n i).set i (decide ((i:Int)+1∈l))=Av l n (i+1):=by
 unfold Av kY;have e:n -i=(n -(i+1))+1:=by omega
 rw[e,Yv,XG _ _ (by simp)];simp[Y5]
theorem NE(l:af)(n:Nat):Av l n n=kY l n:=by unfold Av;simp
theorem NF(l:af)(x:Int):(mX l x=1)=(x∈l):=by
 unfold mX;split;rename_i h;simp[h];rename_i h;split<;>simp[h]
theorem Jy(l:af)(n:Nat)(g:l.length<=1000000)(hn:n<=100000):aw prog 57 [.seq false 1 (am l),ak n] (λr=>r=.pv (.seq true 1 (fM (kY l n)))):=by
 refine aw.wk (R:=λr=>∃x,r=.pv x∧cr x (.seq true 1 (fM (kY l n)))) ?_ (λr ⟨x,e,h⟩=>⟨x,_,e,h,rfl⟩);refine iF [] [.tmp 4] aP func57 ?_;have j:=λh=>sJ h l g;have c1:¬(n:Int)<0:=by omega
 have c2:¬(100000:Int)<n:=by omega
 simp[c1,c2];refine ap.introM (j _) ?_;rintro _ _ ⟨rfl,rfl⟩;simp[pw];refine⟨by omega,?_⟩;refine aM.intro (S:=λ(i:Nat)=>⟨[(5,.pv (pw 0)),(6,.own true 1 (fM (Av l n i))),(19,.pv (ak n)),(20,.pv (ak i))],[[.omap true (aL fI (cZ l l.length))]]⟩) (λi=>i<=n) (λi=>n -i) 0 ?_ (VH _) ?_;exact av.keep (by simp[pw,Av,kY,fM]) rfl;intro i hi;have a:=NC l n i hi;by_cases c:i<n;have f:=dU i;have hs:=ND l n i c;have d:=qw l ((i:Int)+1);have h1:=NF l ((i:Int)+1);simp[c,f,pw,bE];refine ay.introP d ?_;simp[a,c,h1,Bl,hs];exact⟨i+1,by(try dsimp only);omega,by(try dsimp only);omega,av.keep (by simp[f,pw,hs]) rfl⟩;have b:i=n:=by omega
 subst b;simp[NE,cr,bX]
section
variable {h : ao} {be bt ba bw bh : Nat} {mp : cg} {mb : List (Int × By)} {E : ES}
def CV(E:ES)(n:Nat):Bool:=!E.over&&(decide (E.con<0)&&(decide (E.T.lits.length=n)&&decide (∀c∈E.cs,dP c (kY E.T.lits n)=true)))
theorem Jz(L:LayE h be bt ba bw bh mp mb E){n:Nat}(j:TOk n E.T)(m:E.vars=n)(x:E.cs.length<=1000000)(q:∀c∈E.cs,c.length<=1000000):
 aI prog 15 [.ptr be 0] h (λr h'=>h'=h∧r=.pv (.tup [if CV E n=true then .seq true 1 (fM (kY E.T.lits n))else .lit (.slice none 0 0),BL (CV E n)])):=by
 refine fJ [] [.tmp 2,.tmp 3] aP func15 ?_;have v:=j.few;have hn:=j.hn;have a:CV E n=(!E.over&&(decide (E.con<0)&&(decide (E.T.lits.length=n)&&decide (∀c∈E.cs,dP c (kY E.T.lits n)=true)))):=rfl;generalize CV E n=M at*;obtain⟨f,b⟩:=Vp.1 L.e;have hz:=dR L.w.t 2;have ht:=(Vp.1 L.w.t).1;have p:=Cq E.T (by rw[j.len];omega) (by omega);have s:=ik E.T (by omega);have u:=Jy E.T.lits n (by omega) hn;have o:=NB E.vars E.cs (kY E.T.lits n) (by omega) q;simp;refine ay.intro (ip L.e) ?_;rintro _ h ⟨rfl,rfl⟩;cases ho:E.over;rotate_left;have a:M=false:=by rw[a,ho];rfl
 subst a;simp[b,f,cE,ho,cr,bX];by_cases c1:0<=E.con;have a:M=false:=by rw[a,W7 (by omega:¬E.con<0)];simp
 subst a;simp[b,f,cE,ho,c1,cr,bX];have k:E.con<0:=by omega
 rw[ho,WP k]at a;simp[b,f,cE,ho,c1,hz];rw[j.len]at p;refine ay.introP p ?_ (by simp[ht]) (by simp);by_cases c2:E.T.lits.length=n;rotate_left;have g:E.T.lits.length<n:=by omega
 have i:¬n<=E.T.lits.length:=by omega
 have a:M=false:=by rw[a,W7 c2];simp
 subst a;simp[g,i,cr,bX];rw[WP c2]at a;have g:¬E.T.lits.length<n:=by omega
 have i:n<=E.T.lits.length:=by omega
 simp[g,i,b,f,cE,ho,c1,hz];refine bW.intro s ?_;simp[b,f,cE,m];refine bW.intro u ?_;simp[b,f,cE,m];rw[m]at o;have l:(kY E.T.lits n).length=n:=by simp[kY]
 rw[l,WP rfl]at o;refine ap.intro o ?_;by_cases d:∀c∈E.cs,dP c (kY E.T.lits n)=true;rw[WP d]at a;subst a;simp[d,cr,bX];exact d;rw[W7 d]at a;subst a;simp[d,cr,bX]
end
end
theorem sX(A:Ar)(T:Tr){B:Nat}(a:∀q,(aJ A q).length<=B)(all:af):∀(n:Nat)(p:PS),(dA A T all n p).lits.length<=p.lits.length+n*B
 |0,p=>by simp[dA]
 |n+1,p=>by
  rw[dA,Xm];split;omega;split;have h:=sX A T a all n (qs A T p (all.getD n 0));have h1:=lZ T (aq (all.getD n 0)) (aJ A (em T (aq (all.getD n 0))).1.rea) ⟨pt p.seen (aq (all.getD n 0)) 0,p.lits,p.many -1⟩;have c:=a (em T (aq (all.getD n 0))).1.rea;have b:qs A T p (all.getD n 0)=ej T (aq (all.getD n 0)) (aJ A (em T (aq (all.getD n 0))).1.rea) ⟨pt p.seen (aq (all.getD n 0)) 0,p.lits,p.many -1⟩:=rfl;rw[b]at h⊢;dsimp only at h1;omega;have h:=sX A T a all n p;omega
theorem Fx(A:Ar)(T:Tr)(con:Int)(ht:T.ok)(h0:A.hd≠[])(hk:lX A)(w:A.row.length<=1000000)(o:∀q,(aJ A q).length<=1000)(v:T.lits.length<=400):
 aw Tryz.prog 92 [mj A,cD T,ak con] (λr=>r=.pv (.tup [.seq true 1 (am (sH A T con)),ak (mV A T con)])):=by
 refine aw.wk (R:=λr=>∃x,r=.pv x∧cr x (.tup [.seq true 1 (am (sH A T con)),ak (mV A T con)])) ?_ (λr ⟨x,e,h⟩=>⟨x,_,e,h,rfl⟩);refine iF [] [.tmp 6,.tmp 7] aP Tryz.func92 ?_;have j:=uh A h0 hk (by omega) con;have s:=lY A h0 hk (by omega) con;have hcl:=gP A hk con;have l:=IJ T (aJ A con) ht (by omega);have d:=IM A T con 0 ht h0 hk (by omega);have g:ej T 0 (aJ A con) ⟨[],[],0⟩=ju A T con:=rfl;rw[g]at d;have a:=lZ T 0 (aJ A con) ⟨[],[],0⟩;rw[g]at a;dsimp only[List.length_nil]at a;have m:=ik T (by omega);have n:=Lo A T (ju A T con) T.lits ht h0 hk (by omega) (by omega) (by omega) (by omega);have k:fin A T T.lits (ju A T con)=⟨(dA A T T.lits T.lits.length (ju A T con)).seen,tO T T.lits (dA A T T.lits T.lits.length (ju A T con)),(dA A T T.lits T.lits.length (ju A T con)).many⟩:=rfl;have b:mV A T con=if iv A con=0 then 20 else if qv T (aJ A con)=false then 30 else 0:=rfl;have f:sH A T con=if mV A T con=0 then ed A T con else[]:=rfl;have t:ed A T con=Lj T (tO T T.lits (dA A T T.lits T.lits.length (ju A T con))):=rfl;have i:(tO T T.lits (dA A T T.lits T.lits.length (ju A T con))).length<=1000000:=by
  have u:=BN T T.lits (dA A T T.lits T.lits.length (ju A T con)) T.lits.length (Vu _);rw[xU]at u;have y:=sX A T o T.lits T.lits.length (ju A T con);have z:=o con;omega
 generalize sH A T con=R at*;generalize mV A T con=E at*;generalize ed A T con=S at*;generalize aJ A con=c at*;rw[k]at n;generalize dA A T T.lits T.lits.length (ju A T con)=W at*;generalize ju A T con=B at*;simp;refine ap.intro j ?_;by_cases c1:iv A con=0;rw[Vt c1]at b;subst b;rw[Vs (by omega)]at f;subst f;simp[c1,cr,bX,am];rw[Vs c1]at b;simp[c1];refine ap.intro s ?_;simp;refine ap.intro l ?_;cases c2:qv T c;rw[Vt c2]at b;subst b;rw[Vs (by omega)]at f;subst f;simp[c2,cr,bX,am];rw[Vs (by simp[c2])]at b;subst b;rw[Vt rfl]at f;subst f;simp[c2];simp only[QN,kw]at d n;refine ay.intro d ?_;rintro _ _ ⟨rfl,rfl⟩;simp;refine ap.intro m ?_;simp;refine ay.intro (n.args (xs:=[.ptr 0 0,.seq true 1 (am T.lits)]) (by simp[bX,cr])) ?_;rintro _ _ ⟨rfl,rfl⟩;have p:=IL T (tO T T.lits W) ht i;rw[←t]at p;simp;refine ap.intro p ?_;simp[cr,bX]
end Go.AX
