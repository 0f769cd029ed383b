/-
  Contracts: engines: a literal decided.
  Contracts: engines: a model.
  Contracts: what a conflict teaches, of more variables.
-/
import Derived.Test.YtepodadinenmnaaGreatS14AxEgF
import Derived.Test.YtepodadinenmnaaGreatS14AxEgD
import Derived.Test.YtepodadinenmnaaGreatS14AxRnX
import Derived.Test.YtepodadinenmnaaGreatS14AxDfD
namespace Go.AX
open Go.Proofs
set_option linter.unusedSimpArgs false
section
variable {h : List (List SV)} {be bt ba bw bh : Nat} {mp : List (Int × Nat)} {mb : List (Int × By)} {E : ES}
def Au(n:Nat)(E a:ES)(b:Bool):Prop:=
  ((E.over=true∨E.calm=false)∧a=E∧b=false)∨
  (E.over = false ∧ E.calm = true ∧ ∃ q, HpG n 1000000000000 q ∧
    ((b = true ∧ ∃ x, fE E.T x = 0 ∧ a = { E with T := gQ E.T x, calm := false, q := q } ∧ ∀ v ∈ E.q.row, v ∈ q.row ∨ v ∈ E.T.lits.map ah ∨ v = ah x) ∨
     (b=false∧a={E with q:=q}∧q.row=[]∧∀v∈E.q.row,v∈E.T.lits.map ah)))
set_option maxRecDepth 16000 in
theorem CA(L:LayE h be bt ba bw bh mp mb E){n:Nat}(l:TOk n E.T)(g:HpG n 1000000000000 E.q)(hp:E.ph.length=n+1):
 aB Tryz.prog 46 [.ptr be 0] h (λr h'=>∃C b,r=.pv (BL b)∧Au n E C b∧LayE h' be bt ba bw bh mp mb C∧Ext h h' (df be bt ba bw bh mp mb) (df be bt ba bw bh mp mb)):=by
 refine cR [] [.tmp 2] aE Tryz.func46 ?_;have hf:=l.few;have hn:=l.hn;have O:Au n E=λC b=>((E.over=true∨E.calm=false)∧C=E∧b=false)∨(E.over=false∧E.calm=true∧∃q,HpG n 1000000000000 q∧((b=true∧∃x,fE E.T x=0∧C={E with T:=gQ E.T x,calm:=false,q:=q}∧∀v∈E.q.row,v∈q.row∨v∈E.T.lits.map ah∨v=ah x)∨(b=false∧C={E with q:=q}∧q.row=[]∧∀v∈E.q.row,v∈E.T.lits.map ah))):=rfl;generalize Au n E=DT at*;obtain⟨i,a⟩:=RE.1 L.e;simp;refine aj.intro (dM L.e) ?_;rintro _ h ⟨rfl,rfl⟩
 by_cases ho:E.over=true∨E.calm=false
 .have G:DT E false:=by rw[O];exact .inl ⟨ho,rfl,rfl⟩
  rcases ho with ho|ho
  .simp[a,i,bQ,ho];exact⟨E,G,L,Ext.refl _ _⟩
  .cases j:E.over<;>simp[a,i,bQ,ho,j]<;>exact⟨E,G,L,Ext.refl _ _⟩
 have y:E.over=false:=by cases e:E.over<;>simp_all
 have j:E.calm=true:=by cases e:E.calm<;>simp_all
 simp[a,i,bQ,y,j];refine av.intro (S:=λ(x:List (List SV)×HS)=>⟨[(0,.pv (.ptr be 0)),(2,.pv (BL false))],x.1⟩)
  (λx=>LayE x.1 be bt ba bw bh mp mb {E with q:=x.2}∧Ext h x.1 (df be bt ba bw bh mp mb) (df be bt ba bw bh mp mb)∧HpG n 1000000000000 x.2∧∀v∈E.q.row,v∈x.2.row∨v∈E.T.lits.map ah) (λx=>x.2.row.length) (h,E.q) ?_ ⟨L,Ext.refl _ _,g,λv z=>.inl z⟩ ?_
 .exact af.keep (by simp) rfl
 clear L i a g;rintro⟨H,q⟩ ⟨p,M,k,hin⟩;dsimp only at p M k hin;obtain⟨i,a⟩:=RE.1 p.e;have hz:=gF (q:=q) p.q 2;have P:=p.lt.2;have kL:=DZ q (by rw[k.sl];omega);simp[a,i,bQ,hz];refine aj.introP kL ?_ (by simp[P]) (by simp)
 by_cases c:q.row=[]
 .simp[c];refine⟨{E with q:=q},?_,p,M⟩;rw[O];exact .inr ⟨y,j,q,k,.inr ⟨rfl,rfl,c,λv z=>(hin v z).resolve_left (by rw[c];simp)⟩⟩
 have c':0<q.row.length:=To.2 c;have I:cb q≠0:=λe=>c (k.peek_zero.1 e);have J:=k.peek_mem I;obtain⟨u,hu⟩:∃u:Nat,cb q=u:=⟨(cb q).toNat,by have:=k.inr _ J;omega⟩;have W:=k.inr _ J;rw[hu]at W;obtain⟨t1,_,t3,t4,_⟩:=FP k;have t4:=t4 I;have Z:=Jp H bh q p.q k hn;rw[t3]at Z;have D:=p.heap (fq q).1;have X2:=M.trans (Ext.set bh (au (fq q).1) (.inr (.inl rfl)));generalize(fq q).1=o at*;rw[hu]at Z t4;have m:∀v∈E.q.row,v∈o.row∨v∈E.T.lits.map ah∨v=u:=λv z=>by
  rcases hin v z with e|e
  .rcases R9.1 (t4.subset e)with e|e
   .exact .inr (.inr e)
   .exact .inl e
  .exact .inr (.inl e)
 have s:o.row.length<q.row.length:=by have:=t4.length_eq;simp at this;omega
 have V:u<E.ph.length:=by omega
 simp[c',a,i,bQ];refine aj.intro Z ?_;rintro _ _ ⟨rfl,rfl⟩;clear i a hz kL;generalize H.set bh (au o)=H2 at*;obtain⟨i,a⟩:=RE.1 D.e;have U:cF u=true:=(aY _).2 (by omega);have kM:=Jc u E.ph[u];have Q:Jb u E.ph[u]=if E.ph[u]=true then(u:Int)else-u:=by unfold Jb;rw[RH (by simp[U];omega)]
 have hx:∃x:Int,Jb u E.ph[u]=x∧ax x n=0∧ah x=u:=by
  have N:ax (u:Int) n=0:=(dw (by omega)).2 (by omega);have K:=(bA hn N).2.2.2.2.2.1;have e3:ah (u:Int)=u:=by rw[K];unfold dr;rw[RH (by omega)]
  rw[Q];split
  .exact⟨_,rfl,N,e3⟩
  .exact⟨_,rfl,qT hn N,by rw[dJ];exact e3⟩
 obtain⟨x,X,A,B⟩:=hx;rw[X]at kM;simp[a,i,bQ,V];refine ai.intro kM ?_;have Y:=cI D.w.t 2;have ht:=(RE.1 D.w.t).1;have kV:=fO E.T x l.okT;simp[a,i,bQ,Y];refine aj.introP kV ?_ (by simp[ht]) (by simp)
 by_cases d:cu E.T x=0
 .have hm:fE E.T x=0:=(l.may x).2 ⟨A,(l.val0 A).1 d⟩;have L3:=D.eng {E with q:=o,calm:=false} rfl rfl rfl rfl;have X3:=X2.trans (Ext.set be (bQ bt ba bw bh {E with q:=o,calm:=false}) (.inl rfl));generalize F:H2.set be (bQ bt ba bw bh {E with q:=o,calm:=false})=H3 at*;simp only[bQ]at F;have kD:=BD H3 bt E.T L3.w.t x l.okT (by omega) (by have:=l.deep;omega);rw[hm]at kD;have L4:=L3.trail (gQ E.T x);have X4:=X3.trans (Ext.set bt (gv (gQ E.T x)) (.inr (.inr (.inr (.inr (.inl rfl))))));simp[d,a,i,bQ,F];clear i a;obtain⟨i,a⟩:=RE.1 L3.e;simp[a,i,bQ];refine aj.intro kD ?_;rintro _ _ ⟨rfl,rfl⟩;simp;refine⟨_,?_,L4,X4⟩;rw[O];exact .inr ⟨y,j,o,t1,.inl ⟨rfl,x,hm,rfl,by rw[B];exact m⟩⟩
 .have R:(u:Int)∈E.T.lits.map ah:=by
   have:=mt (l.val0 A).2 d
   by_cases e:x∈E.T.lits
   .exact B▸TI e
   .by_cases K:-x∈E.T.lits
    .have:=TI (f:=ah) K
     rwa [dJ,B]at this
    .exact absurd ⟨e,K⟩ this
  simp[d];exact⟨(H2,o),s,⟨D,X2,t1,λv z=>by have:=(m v z).imp id λe=>e.elim id λe=>e▸R;simpa using this⟩,af.keep (by simp) rfl⟩
end
end Go.AX
namespace Go.AX
set_option maxRecDepth 16000
open Go.Proofs
set_option linter.unusedSimpArgs false
def iX(l:List Int)(n:Nat):List Bool:=(List.range n).map λ(i:Nat)=>decide ((i:Int)+1∈l)
def xQ(l:List Int)(n i:Nat):List Bool:=iX l i++List.replicate (n -i) false
theorem JV(l:List Int)(n i:Nat)(h:i<=n):(xQ l n i).length=n:=by unfold xQ iX;simp;omega
theorem JW(l:List Int)(n i:Nat)(h:i<n):(xQ l n i).set i (decide ((i:Int)+1∈l))=xQ l n (i+1):=by
 unfold xQ iX;have e:n -i=(n -(i+1))+1:=by omega
 rw[e,Vf,UJ _ _ (by simp)];simp[Uq]
theorem JX(l:List Int)(n:Nat):xQ l n n=iX l n:=by unfold xQ;simp
theorem JY(l:List Int)(x:Int):(La l x=1)=(x∈l):=by
 unfold La;split
 .rename_i h;simp[h]
 .rename_i h;split<;>simp[h]
theorem F6(l:List Int)(n:Nat)(g:l.length<=1000000)(hn:n<=100000):am Tryz.prog 57 [.seq false 1 (aa l),ae n] (λr=>r=.pv (.seq true 1 (cM (iX l n)))):=by
 refine am.wk (R:=λr=>∃x,r=.pv x∧bu x (.seq true 1 (cM (iX l n)))) ?_ (λr ⟨x,e,h⟩=>⟨x,_,e,h,rfl⟩);refine mu [] [.tmp 4] aE Tryz.func57 ?_;have j:=λh=>Fw h l g;have c1:¬(n:Int)<0:=by omega
 have c2:¬(100000:Int)<n:=by omega
 simp[c1,c2];refine ai.introM (j _) ?_;rintro _ _ ⟨rfl,rfl⟩;simp[BV];refine⟨by omega,?_⟩;refine av.intro (S:=λ(i:Nat)=>⟨[(5,.pv (BV 0)),(6,.own true 1 (cM (xQ l n i))),(19,.pv (ae n)),(20,.pv (ae i))],[[.omap true (a8 fI (cK l l.length))]]⟩) (λi=>i<=n) (λi=>n -i) 0 ?_ (RW _) ?_
 .exact af.keep (by simp[BV,xQ,iX,cM]) rfl
 intro i hi;have a:=JV l n i hi
 by_cases c:i<n
 .have f:=dq i;have hs:=JW l n i c;have d:=BW l ((i:Int)+1);have h1:=JY l ((i:Int)+1);simp[c,f,BV,bG];refine aj.introP d ?_;simp[a,c,h1,yP,hs];exact⟨i+1,by(try dsimp only);omega,by(try dsimp only);omega,af.keep (by simp[f,BV,hs]) rfl⟩
 .have b:i=n:=by omega
  subst b;simp[JX,bu,bd]
section
variable {h : List (List SV)} {be bt ba bw bh : Nat} {mp : List (Int × Nat)} {mb : List (Int × By)} {E : ES}
def Av(E:ES)(n:Nat):Bool:=!E.over&&(decide (E.con<0)&&(decide (E.T.lits.length=n)&&decide (∀c∈E.cs,cO c (iX E.T.lits n)=true)))
theorem v8(L:LayE h be bt ba bw bh mp mb E){n:Nat}(j:TOk n E.T)(m:E.vars=n)(x:E.cs.length<=1000000)(q:∀c∈E.cs,c.length<=1000000):
 aB Tryz.prog 15 [.ptr be 0] h (λr h'=>h'=h∧r=.pv (.tup [if Av E n=true then .seq true 1 (cM (iX E.T.lits n))else .lit (.slice none 0 0),BL (Av E n)])):=by
 refine dV [] [.tmp 2,.tmp 3] aE Tryz.func15 ?_;have v:=j.few;have hn:=j.hn;have a:Av E n=(!E.over&&(decide (E.con<0)&&(decide (E.T.lits.length=n)&&decide (∀c∈E.cs,cO c (iX E.T.lits n)=true)))):=rfl;generalize Av E n=M at*;obtain⟨f,b⟩:=RE.1 L.e;have hz:=cI L.w.t 2;have ht:=(RE.1 L.w.t).1;have p:=zO E.T (by rw[j.len];omega) (by omega);have s:=ft E.T (by omega);have u:=F6 E.T.lits n (by omega) hn;have o:=JU E.vars E.cs (iX E.T.lits n) (by omega) q;simp;refine aj.intro (dM L.e) ?_;rintro _ h ⟨rfl,rfl⟩;cases ho:E.over
 rotate_left
 .have a:M=false:=by rw[a,ho];rfl
  subst a;simp[b,f,bQ,ho,bu,bd]
 by_cases c1:0<=E.con
 .have a:M=false:=by rw[a,TB (by omega:¬E.con<0)];simp
  subst a;simp[b,f,bQ,ho,c1,bu,bd]
 have k:E.con<0:=by omega
 rw[ho,Tk k]at a;simp[b,f,bQ,ho,c1,hz];rw[j.len]at p;refine aj.introP p ?_ (by simp[ht]) (by simp)
 by_cases c2:E.T.lits.length=n
 rotate_left
 .have g:E.T.lits.length<n:=by omega
  have i:¬n<=E.T.lits.length:=by omega
  have a:M=false:=by rw[a,TB c2];simp
  subst a;simp[g,i,bu,bd]
 rw[Tk c2]at a;have g:¬E.T.lits.length<n:=by omega
 have i:n<=E.T.lits.length:=by omega
 simp[g,i,b,f,bQ,ho,c1,hz];refine br.intro s ?_;simp[b,f,bQ,m];refine br.intro u ?_;simp[b,f,bQ,m];rw[m]at o;have l:(iX E.T.lits n).length=n:=by simp[iX]
 rw[l,Tk rfl]at o;refine ai.intro o ?_
 by_cases d:∀c∈E.cs,cO c (iX E.T.lits n)=true
 .rw[Tk d]at a;subst a;simp[d,bu,bd];exact d
 .rw[TB d]at a;subst a;simp[d,bu,bd]
end
end Go.AX
namespace Go.AX
open Go.Proofs
set_option linter.unusedSimpArgs false
theorem qC(A:Ar)(T:Tr){B:Nat}(a:∀q,(aw A q).length<=B)(all:List Int):∀(n:Nat)(p:PS),(cP A T all n p).lits.length<=p.lits.length+n*B
 |0,p=>by simp[cP]
 |n+1,p=>by
  rw[cP,TD];split
  .omega
  split
  .have h:=qC A T a all n (ox A T p (all.getD n 0));have h1:=j0 T (ah (all.getD n 0)) (aw A (dH T (ah (all.getD n 0))).1.rea) ⟨pt p.seen (ah (all.getD n 0)) 0,p.lits,p.many -1⟩;have c:=a (dH T (ah (all.getD n 0))).1.rea;have b:ox A T p (all.getD n 0)=dA T (ah (all.getD n 0)) (aw A (dH T (ah (all.getD n 0))).1.rea) ⟨pt p.seen (ah (all.getD n 0)) 0,p.lits,p.many -1⟩:=rfl;rw[b]at h⊢;dsimp only at h1;omega
  .have h:=qC A T a all n p;omega
set_option maxRecDepth 16000 in
theorem CB(A:Ar)(T:Tr)(con:Int)(ht:T.ok)(h0:A.hd≠[])(hk:lw A)(y:A.row.length<=1000000)(o:∀q,(aw A q).length<=1000)(w:T.lits.length<=400):
 am Tryz.prog 92 [lY A,bM T,ae con] (λr=>r=.pv (.tup [.seq true 1 (aa (qj A T con)),ae (lA A T con)])):=by
 refine am.wk (R:=λr=>∃x,r=.pv x∧bu x (.tup [.seq true 1 (aa (qj A T con)),ae (lA A T con)])) ?_ (λr ⟨x,e,h⟩=>⟨x,_,e,h,rfl⟩);refine mu [] [.tmp 6,.tmp 7] aE Tryz.func92 ?_;have j:=xh A h0 hk (by omega) con;have s:=jY A h0 hk (by omega) con;have u:=fQ A hk con;have l:=Fo T (aw A con) ht (by omega);have d:=Fs A T con 0 ht h0 hk (by omega);have g:dA T 0 (aw A con) ⟨[],[],0⟩=g8 A T con:=rfl;rw[g]at d;have a:=j0 T 0 (aw A con) ⟨[],[],0⟩;rw[g]at a;dsimp only[List.length_nil]at a;have m:=ft T (by omega);have n:=Ic A T (g8 A T con) T.lits ht h0 hk (by omega) (by omega) (by omega) (by omega);have k:fin A T T.lits (g8 A T con)=⟨(cP A T T.lits T.lits.length (g8 A T con)).seen,rb T T.lits (cP A T T.lits T.lits.length (g8 A T con)),(cP A T T.lits T.lits.length (g8 A T con)).many⟩:=rfl;have b:lA A T con=if i7 A con=0 then 20 else if oA T (aw A con)=false then 30 else 0:=rfl;have f:qj A T con=if lA A T con=0 then dz A T con else[]:=rfl;have t:dz A T con=HZ T (rb T T.lits (cP A T T.lits T.lits.length (g8 A T con))):=rfl;have i:(rb T T.lits (cP A T T.lits T.lits.length (g8 A T con))).length<=1000000:=by
  have v:=zh T T.lits (cP A T T.lits T.lits.length (g8 A T con)) T.lits.length (RJ _);rw[vm]at v;have z:=qC A T o T.lits T.lits.length (g8 A T con);have C:=o con;omega
 generalize qj A T con=R at*;generalize lA A T con=E at*;generalize dz A T con=S at*;generalize aw A con=c at*;rw[k]at n;generalize cP A T T.lits T.lits.length (g8 A T con)=W at*;generalize g8 A T con=B at*;simp;refine ai.intro j ?_
 by_cases c1:i7 A con=0
 .rw[RI c1]at b;subst b;rw[RH (by omega)]at f;subst f;simp[c1,bu,bd,aa]
 rw[RH c1]at b;simp[c1];refine ai.intro s ?_;simp;refine ai.intro l ?_;cases c2:oA T c
 .rw[RI c2]at b;subst b;rw[RH (by omega)]at f;subst f;simp[c2,bu,bd,aa]
 rw[RH (by simp[c2])]at b;subst b;rw[RI rfl]at f;subst f;simp[c2];simp only[M7,iZ]at d n;refine aj.intro d ?_;rintro _ _ ⟨rfl,rfl⟩;simp;refine ai.intro m ?_;simp;refine aj.intro (n.args (xs:=[.ptr 0 0,.seq true 1 (aa T.lits)]) (by simp[bd,bu])) ?_;rintro _ _ ⟨rfl,rfl⟩;have p:=Fq T (rb T T.lits W) ht i;rw[←t]at p;simp;refine ai.intro p ?_;simp[bu,bd]
end Go.AX