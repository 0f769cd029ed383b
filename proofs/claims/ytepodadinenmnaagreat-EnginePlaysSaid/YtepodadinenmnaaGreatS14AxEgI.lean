/-
  Contracts: engines: a literal decided.
  Contracts: engines: a model.
  Contracts: what a conflict teaches, of more variables.
-/
import Derived.Test.YtepodadinenmnaaGreatS14AxEgF
import Derived.Test.YtepodadinenmnaaGreatS14AxEgD
import Derived.Test.YtepodadinenmnaaGreatS14AxRnX
import Derived.Test.YtepodadinenmnaaGreatS14AxDfD
namespace Go.AX
open Go.Proofs
set_option linter.unusedSimpArgs false
section
variable {h : List (List SV)} {be bt ba bw bh : Nat} {mp : List (Int × Nat)} {mb : List (Int × By)} {E : ES}
def Al(n:Nat)(E a:ES)(b:Bool):Prop:=
  ((E.over=true∨E.calm=false)∧a=E∧b=false)∨
  (E.over = false ∧ E.calm = true ∧ ∃ q, HpG n 1000000000000 q ∧
    ((b = true ∧ ∃ x, fD E.T x = 0 ∧ a = { E with T := gP E.T x, calm := false, q := q } ∧ ∀ v ∈ E.q.row, v ∈ q.row ∨ v ∈ E.T.lits.map af ∨ v = af x) ∨
     (b=false∧a={E with q:=q}∧q.row=[]∧∀v∈E.q.row,v∈E.T.lits.map af)))
set_option maxRecDepth 16000 in
theorem Cr(L:LayE h be bt ba bw bh mp mb E){n:Nat}(l:TOk n E.T)(g:HpG n 1000000000000 E.q)(hp:E.ph.length=n+1):
 aB Tryz.prog 46 [.ptr be 0] h (λr h'=>∃C b,r=.pv (BL b)∧Al n E C b∧LayE h' be bt ba bw bh mp mb C∧Ext h h' (da be bt ba bw bh mp mb) (da be bt ba bw bh mp mb)):=by
 refine cO [] [.tmp 2] aE Tryz.func46 ?_;have hf:=l.few;have hn:=l.hn;have O:Al n E=λC b=>((E.over=true∨E.calm=false)∧C=E∧b=false)∨(E.over=false∧E.calm=true∧∃q,HpG n 1000000000000 q∧((b=true∧∃x,fD E.T x=0∧C={E with T:=gP E.T x,calm:=false,q:=q}∧∀v∈E.q.row,v∈q.row∨v∈E.T.lits.map af∨v=af x)∨(b=false∧C={E with q:=q}∧q.row=[]∧∀v∈E.q.row,v∈E.T.lits.map af))):=rfl;generalize Al n E=DT at*;obtain⟨i,a⟩:=Rt.1 L.e;simp;refine aj.intro (dI L.e) ?_;rintro _ h ⟨rfl,rfl⟩
 by_cases ho:E.over=true∨E.calm=false
 .have G:DT E false:=by rw[O];exact .inl ⟨ho,rfl,rfl⟩
  rcases ho with ho|ho
  .simp[a,i,bQ,ho];exact⟨E,G,L,Ext.refl _ _⟩
  .cases j:E.over<;>simp[a,i,bQ,ho,j]<;>exact⟨E,G,L,Ext.refl _ _⟩
 have y:E.over=false:=by cases e:E.over<;>simp_all
 have j:E.calm=true:=by cases e:E.calm<;>simp_all
 simp[a,i,bQ,y,j];refine aw.intro (S:=λ(x:List (List SV)×HS)=>⟨[(0,.pv (.ptr be 0)),(2,.pv (BL false))],x.1⟩)
  (λx=>LayE x.1 be bt ba bw bh mp mb {E with q:=x.2}∧Ext h x.1 (da be bt ba bw bh mp mb) (da be bt ba bw bh mp mb)∧HpG n 1000000000000 x.2∧∀v∈E.q.row,v∈x.2.row∨v∈E.T.lits.map af) (λx=>x.2.row.length) (h,E.q) ?_ ⟨L,Ext.refl _ _,g,λv z=>.inl z⟩ ?_
 .exact ah.keep (by simp) rfl
 clear L i a g;rintro⟨H,q⟩ ⟨p,M,k,hin⟩;dsimp only at p M k hin;obtain⟨i,a⟩:=Rt.1 p.e;have hz:=gC (q:=q) p.q 2;have P:=p.lt.2;have kL:=DP q (by rw[k.sl];omega);simp[a,i,bQ,hz];refine aj.introP kL ?_ (by simp[P]) (by simp)
 by_cases c:q.row=[]
 .simp[c];refine⟨{E with q:=q},?_,p,M⟩;rw[O];exact .inr ⟨y,j,q,k,.inr ⟨rfl,rfl,c,λv z=>(hin v z).resolve_left (by rw[c];simp)⟩⟩
 have c':0<q.row.length:=Td.2 c;have I:b9 q≠0:=λe=>c (k.peek_zero.1 e);have J:=k.peek_mem I;obtain⟨u,hu⟩:∃u:Nat,b9 q=u:=⟨(b9 q).toNat,by have:=k.inr _ J;omega⟩;have W:=k.inr _ J;rw[hu]at W;obtain⟨t1,_,t3,t4,_⟩:=FE k;have t4:=t4 I;have Z:=Jg H bh q p.q k hn;rw[t3]at Z;have D:=p.heap (fl q).1;have X2:=M.trans (Ext.set bh (au (fl q).1) (.inr (.inl rfl)));generalize(fl q).1=o at*;rw[hu]at Z t4;have m:∀v∈E.q.row,v∈o.row∨v∈E.T.lits.map af∨v=u:=λv z=>by
  rcases hin v z with e|e
  .rcases RZ.1 (t4.subset e)with e|e
   .exact .inr (.inr e)
   .exact .inl e
  .exact .inr (.inl e)
 have s:o.row.length<q.row.length:=by have:=t4.length_eq;simp at this;omega
 have V:u<E.ph.length:=by omega
 simp[c',a,i,bQ];refine aj.intro Z ?_;rintro _ _ ⟨rfl,rfl⟩;clear i a hz kL;generalize H.set bh (au o)=H2 at*;obtain⟨i,a⟩:=Rt.1 D.e;have U:cE u=true:=(aY _).2 (by omega);have kM:=I0 u E.ph[u];have Q:IZ u E.ph[u]=if E.ph[u]=true then(u:Int)else-u:=by unfold IZ;rw[Rw (by simp[U];omega)]
 have hx:∃x:Int,IZ u E.ph[u]=x∧ax x n=0∧af x=u:=by
  have N:ax (u:Int) n=0:=(dt (by omega)).2 (by omega);have K:=(bA hn N).2.2.2.2.2.1;have e3:af (u:Int)=u:=by rw[K];unfold dg;rw[Rw (by omega)]
  rw[Q];split
  .exact⟨_,rfl,N,e3⟩
  .exact⟨_,rfl,qO hn N,by rw[dG];exact e3⟩
 obtain⟨x,X,A,B⟩:=hx;rw[X]at kM;simp[a,i,bQ,V];refine ai.intro kM ?_;have Y:=cH D.w.t 2;have ht:=(Rt.1 D.w.t).1;have kV:=fN E.T x l.okT;simp[a,i,bQ,Y];refine aj.introP kV ?_ (by simp[ht]) (by simp)
 by_cases d:cr E.T x=0
 .have hm:fD E.T x=0:=(l.may x).2 ⟨A,(l.val0 A).1 d⟩;have L3:=D.eng {E with q:=o,calm:=false} rfl rfl rfl rfl;have X3:=X2.trans (Ext.set be (bQ bt ba bw bh {E with q:=o,calm:=false}) (.inl rfl));generalize F:H2.set be (bQ bt ba bw bh {E with q:=o,calm:=false})=H3 at*;simp only[bQ]at F;have kD:=Br H3 bt E.T L3.w.t x l.okT (by omega) (by have:=l.deep;omega);rw[hm]at kD;have L4:=L3.trail (gP E.T x);have X4:=X3.trans (Ext.set bt (gr (gP E.T x)) (.inr (.inr (.inr (.inr (.inl rfl))))));simp[d,a,i,bQ,F];clear i a;obtain⟨i,a⟩:=Rt.1 L3.e;simp[a,i,bQ];refine aj.intro kD ?_;rintro _ _ ⟨rfl,rfl⟩;simp;refine⟨_,?_,L4,X4⟩;rw[O];exact .inr ⟨y,j,o,t1,.inl ⟨rfl,x,hm,rfl,by rw[B];exact m⟩⟩
 .have R:(u:Int)∈E.T.lits.map af:=by
   have:=mt (l.val0 A).2 d
   by_cases e:x∈E.T.lits
   .exact B▸Ty e
   .by_cases K:-x∈E.T.lits
    .have:=Ty (f:=af) K
     rwa [dG,B]at this
    .exact absurd ⟨e,K⟩ this
  simp[d];exact⟨(H2,o),s,⟨D,X2,t1,λv z=>by have:=(m v z).imp id λe=>e.elim id λe=>e▸R;simpa using this⟩,ah.keep (by simp) rfl⟩
end
end Go.AX
namespace Go.AX
set_option maxRecDepth 16000
open Go.Proofs
set_option linter.unusedSimpArgs false
def nm(l:List Int)(n:Nat):List Bool:=(List.range n).map λ(i:Nat)=>decide ((i:Int)+1∈l)
def xL(l:List Int)(n i:Nat):List Bool:=nm l i++List.replicate (n -i) false
theorem JJ(l:List Int)(n i:Nat)(h:i<=n):(xL l n i).length=n:=by unfold xL nm;simp;omega
theorem JK(l:List Int)(n i:Nat)(h:i<n):(xL l n i).set i (decide ((i:Int)+1∈l))=xL l n (i+1):=by
 unfold xL nm;have e:n -i=(n -(i+1))+1:=by omega
 rw[e,U4,Uz _ _ (by simp)];simp[Ur]
theorem JM(l:List Int)(n:Nat):xL l n n=nm l n:=by unfold xL;simp
theorem JN(l:List Int)(x:Int):(KW l x=1)=(x∈l):=by
 unfold KW;split
 .rename_i h;simp[h]
 .rename_i h;split<;>simp[h]
theorem FY(l:List Int)(n:Nat)(g:l.length<=1000000)(hn:n<=100000):am Tryz.prog 57 [.seq false 1 (aa l),ae n] (λr=>r=.pv (.seq true 1 (eF (nm l n)))):=by
 refine am.wk (R:=λr=>∃x,r=.pv x∧bu x (.seq true 1 (eF (nm l n)))) ?_ (λr ⟨x,e,h⟩=>⟨x,_,e,h,rfl⟩);refine mq [] [.tmp 4] aE Tryz.func57 ?_;have j:=λh=>Fl h l g;have c1:¬(n:Int)<0:=by omega
 have c2:¬(100000:Int)<n:=by omega
 simp[c1,c2];refine ai.introM (j _) ?_;rintro _ _ ⟨rfl,rfl⟩;simp[BJ];refine⟨by omega,?_⟩;refine aw.intro (S:=λ(i:Nat)=>⟨[(5,.pv (BJ 0)),(6,.own true 1 (eF (xL l n i))),(19,.pv (ae n)),(20,.pv (ae i))],[[.omap true (a8 fI (cJ l l.length))]]⟩) (λi=>i<=n) (λi=>n -i) 0 ?_ (RL _) ?_
 .exact ah.keep (by simp[BJ,xL,nm,eF]) rfl
 intro i hi;have a:=JJ l n i hi
 by_cases c:i<n
 .have f:=dr i;have hs:=JK l n i c;have d:=BK l ((i:Int)+1);have h1:=JN l ((i:Int)+1);simp[c,f,BJ,bG];refine aj.introP d ?_;simp[a,c,h1,yJ,hs];exact⟨i+1,by(try dsimp only);omega,by(try dsimp only);omega,ah.keep (by simp[f,BJ,hs]) rfl⟩
 .have b:i=n:=by omega
  subst b;simp[JM,bu,bd]
section
variable {h : List (List SV)} {be bt ba bw bh : Nat} {mp : List (Int × Nat)} {mb : List (Int × By)} {E : ES}
def FZ(E:ES)(n:Nat):Bool:=!E.over&&(decide (E.con<0)&&(decide (E.T.lits.length=n)&&decide (∀c∈E.cs,eh c (nm E.T.lits n)=true)))
theorem F0(L:LayE h be bt ba bw bh mp mb E){n:Nat}(j:TOk n E.T)(m:E.vars=n)(x:E.cs.length<=1000000)(q:∀c∈E.cs,c.length<=1000000):
 aB Tryz.prog 15 [.ptr be 0] h (λr h'=>h'=h∧r=.pv (.tup [if FZ E n=true then .seq true 1 (eF (nm E.T.lits n))else .lit (.slice none 0 0),BL (FZ E n)])):=by
 refine dQ [] [.tmp 2,.tmp 3] aE Tryz.func15 ?_;have v:=j.few;have hn:=j.hn;have a:FZ E n=(!E.over&&(decide (E.con<0)&&(decide (E.T.lits.length=n)&&decide (∀c∈E.cs,eh c (nm E.T.lits n)=true)))):=rfl;generalize FZ E n=M at*;obtain⟨f,b⟩:=Rt.1 L.e;have hz:=cH L.w.t 2;have ht:=(Rt.1 L.w.t).1;have p:=zI E.T (by rw[j.len];omega) (by omega);have s:=fo E.T (by omega);have u:=FY E.T.lits n (by omega) hn;have o:=JI E.vars E.cs (nm E.T.lits n) (by omega) q;simp;refine aj.intro (dI L.e) ?_;rintro _ h ⟨rfl,rfl⟩;cases ho:E.over
 rotate_left
 .have a:M=false:=by rw[a,ho];rfl
  subst a;simp[b,f,bQ,ho,bu,bd]
 by_cases c1:0<=E.con
 .have a:M=false:=by rw[a,Tq (by omega:¬E.con<0)];simp
  subst a;simp[b,f,bQ,ho,c1,bu,bd]
 have k:E.con<0:=by omega
 rw[ho,S9 k]at a;simp[b,f,bQ,ho,c1,hz];rw[j.len]at p;refine aj.introP p ?_ (by simp[ht]) (by simp)
 by_cases c2:E.T.lits.length=n
 rotate_left
 .have g:E.T.lits.length<n:=by omega
  have i:¬n<=E.T.lits.length:=by omega
  have a:M=false:=by rw[a,Tq c2];simp
  subst a;simp[g,i,bu,bd]
 rw[S9 c2]at a;have g:¬E.T.lits.length<n:=by omega
 have i:n<=E.T.lits.length:=by omega
 simp[g,i,b,f,bQ,ho,c1,hz];refine br.intro s ?_;simp[b,f,bQ,m];refine br.intro u ?_;simp[b,f,bQ,m];rw[m]at o;have l:(nm E.T.lits n).length=n:=by simp[nm]
 rw[l,S9 rfl]at o;refine ai.intro o ?_
 by_cases d:∀c∈E.cs,eh c (nm E.T.lits n)=true
 .rw[S9 d]at a;subst a;simp[d,bu,bd];exact d
 .rw[Tq d]at a;subst a;simp[d,bu,bd]
end
end Go.AX
namespace Go.AX
open Go.Proofs
set_option linter.unusedSimpArgs false
theorem qw(A:Ar)(T:Tr){B:Nat}(a:∀q,(av A q).length<=B)(all:List Int):∀(n:Nat)(p:PS),(cL A T all n p).lits.length<=p.lits.length+n*B
 |0,p=>by simp[cL]
 |n+1,p=>by
  rw[cL,Tt];split
  .omega
  split
  .have h:=qw A T a all n (oq A T p (all.getD n 0));have h1:=jX T (af (all.getD n 0)) (av A (dE T (af (all.getD n 0))).1.rea) ⟨pt p.seen (af (all.getD n 0)) 0,p.lits,p.many -1⟩;have c:=a (dE T (af (all.getD n 0))).1.rea;have b:oq A T p (all.getD n 0)=dx T (af (all.getD n 0)) (av A (dE T (af (all.getD n 0))).1.rea) ⟨pt p.seen (af (all.getD n 0)) 0,p.lits,p.many -1⟩:=rfl;rw[b]at h⊢;dsimp only at h1;omega
  .have h:=qw A T a all n p;omega
set_option maxRecDepth 16000 in
theorem Cs(A:Ar)(T:Tr)(con:Int)(ht:T.ok)(h0:A.hd≠[])(hk:lr A)(y:A.row.length<=1000000)(o:∀q,(av A q).length<=1000)(w:T.lits.length<=400):
 am Tryz.prog 92 [lW A,bM T,ae con] (λr=>r=.pv (.tup [.seq true 1 (aa (qd A T con)),ae (lw A T con)])):=by
 refine am.wk (R:=λr=>∃x,r=.pv x∧bu x (.tup [.seq true 1 (aa (qd A T con)),ae (lw A T con)])) ?_ (λr ⟨x,e,h⟩=>⟨x,_,e,h,rfl⟩);refine mq [] [.tmp 6,.tmp 7] aE Tryz.func92 ?_;have j:=xb A h0 hk (by omega) con;have s:=jV A h0 hk (by omega) con;have u:=fO A hk con;have l:=Fe T (av A con) ht (by omega);have d:=Fh A T con 0 ht h0 hk (by omega);have g:dx T 0 (av A con) ⟨[],[],0⟩=gZ A T con:=rfl;rw[g]at d;have a:=jX T 0 (av A con) ⟨[],[],0⟩;rw[g]at a;dsimp only[List.length_nil]at a;have m:=fo T (by omega);have n:=HW A T (gZ A T con) T.lits ht h0 hk (by omega) (by omega) (by omega) (by omega);have k:fin A T T.lits (gZ A T con)=⟨(cL A T T.lits T.lits.length (gZ A T con)).seen,q6 T T.lits (cL A T T.lits T.lits.length (gZ A T con)),(cL A T T.lits T.lits.length (gZ A T con)).many⟩:=rfl;have b:lw A T con=if iW A con=0 then 20 else if ow T (av A con)=false then 30 else 0:=rfl;have f:qd A T con=if lw A T con=0 then dw A T con else[]:=rfl;have t:dw A T con=HQ T (q6 T T.lits (cL A T T.lits T.lits.length (gZ A T con))):=rfl;have i:(q6 T T.lits (cL A T T.lits T.lits.length (gZ A T con))).length<=1000000:=by
  have v:=zb T T.lits (cL A T T.lits T.lits.length (gZ A T con)) T.lits.length (Ry _);rw[vh]at v;have z:=qw A T o T.lits T.lits.length (gZ A T con);have C:=o con;omega
 generalize qd A T con=R at*;generalize lw A T con=E at*;generalize dw A T con=S at*;generalize av A con=c at*;rw[k]at n;generalize cL A T T.lits T.lits.length (gZ A T con)=W at*;generalize gZ A T con=B at*;simp;refine ai.intro j ?_
 by_cases c1:iW A con=0
 .rw[Rx c1]at b;subst b;rw[Rw (by omega)]at f;subst f;simp[c1,bu,bd,aa]
 rw[Rw c1]at b;simp[c1];refine ai.intro s ?_;simp;refine ai.intro l ?_;cases c2:ow T c
 .rw[Rx c2]at b;subst b;rw[Rw (by omega)]at f;subst f;simp[c2,bu,bd,aa]
 rw[Rw (by simp[c2])]at b;subst b;rw[Rx rfl]at f;subst f;simp[c2];simp only[MU,iV]at d n;refine aj.intro d ?_;rintro _ _ ⟨rfl,rfl⟩;simp;refine ai.intro m ?_;simp;refine aj.intro (n.args (xs:=[.ptr 0 0,.seq true 1 (aa T.lits)]) (by simp[bd,bu])) ?_;rintro _ _ ⟨rfl,rfl⟩;have p:=Fg T (q6 T T.lits W) ht i;rw[←t]at p;simp;refine ai.intro p ?_;simp[bu,bd]
end Go.AX