/-
  Contracts: engines: a literal decided.
  Contracts: engines: a model.
  Contracts: what a conflict teaches, of more variables.
-/
import Derived.Test.YtepodadinenmnaaGreatS14AxEgF
import Derived.Test.YtepodadinenmnaaGreatS14AxEgD
import Derived.Test.YtepodadinenmnaaGreatS14AxLuA
import Derived.Test.YtepodadinenmnaaGreatS14AxDfD
namespace Go.AX
open Go.Proofs
set_option linter.unusedSimpArgs false
section
variable {h : List (List SV)} {be bt ba bw bh : Nat} {mp : List (Int × Nat)} {mb : List (Int × By)} {E : ES}
def xm(n:Nat)(E E':ES)(b:Bool):Prop:=
  ((E.over=true∨E.calm=false)∧E'=E∧b=false)∨
  (E.over = false ∧ E.calm = true ∧ ∃ q, HpG n 1000000000000 q ∧
    ((b = true ∧ ∃ x, eV E.T x = 0 ∧ E' = { E with T := fH E.T x, calm := false, q := q } ∧ ∀ v ∈ E.q.row, v ∈ q.row ∨ v ∈ E.T.lits.map ab ∨ v = ab x) ∨
     (b=false∧E'={E with q:=q}∧q.row=[]∧∀v∈E.q.row,v∈E.T.lits.map ab)))
set_option maxRecDepth 16000 in
theorem zi(L:LayE h be bt ba bw bh mp mb E){n:Nat}(l:TOk n E.T)(g:HpG n 1000000000000 E.q)(hp:E.ph.length=n+1):
 aB Tryz.prog 46 [.ptr be 0] h (λr h'=>∃E' b,r=.pv (BL b)∧xm n E E' b∧LayE h' be bt ba bw bh mp mb E'∧Ext h h' (cZ be bt ba bw bh mp mb) (cZ be bt ba bw bh mp mb)):=by
 refine cL [] [.tmp 2] aG Tryz.func46 ?_;have hf:=l.few;have hn:=l.hn;have N:xm n E=λE' b=>((E.over=true∨E.calm=false)∧E'=E∧b=false)∨(E.over=false∧E.calm=true∧∃q,HpG n 1000000000000 q∧((b=true∧∃x,eV E.T x=0∧E'={E with T:=fH E.T x,calm:=false,q:=q}∧∀v∈E.q.row,v∈q.row∨v∈E.T.lits.map ab∨v=ab x)∨(b=false∧E'={E with q:=q}∧q.row=[]∧∀v∈E.q.row,v∈E.T.lits.map ab))):=rfl;generalize xm n E=DT at*;obtain⟨i,a⟩:=N5.1 L.e;simp;refine am.intro (fk L.e) ?_;rintro _ h ⟨rfl,rfl⟩
 by_cases ho:E.over=true∨E.calm=false
 .have F:DT E false:=by rw[N];exact .inl ⟨ho,rfl,rfl⟩
  rcases ho with ho|ho
  .simp[a,i,bV,ho];exact⟨E,F,L,Ext.refl _ _⟩
  .cases j:E.over<;>simp[a,i,bV,ho,j]<;>exact⟨E,F,L,Ext.refl _ _⟩
 have y:E.over=false:=by cases e:E.over<;>simp_all
 have j:E.calm=true:=by cases e:E.calm<;>simp_all
 simp[a,i,bV,y,j];refine aJ.intro (S:=λ(x:List (List SV)×HS)=>⟨[(0,.pv (.ptr be 0)),(2,.pv (BL false))],x.1⟩)
  (λx=>LayE x.1 be bt ba bw bh mp mb {E with q:=x.2}∧Ext h x.1 (cZ be bt ba bw bh mp mb) (cZ be bt ba bw bh mp mb)∧HpG n 1000000000000 x.2∧∀v∈E.q.row,v∈x.2.row∨v∈E.T.lits.map ab) (λx=>x.2.row.length) (h,E.q) ?_ ⟨L,Ext.refl _ _,g,λv z=>.inl z⟩ ?_
 .exact ai.keep (by simp) rfl
 clear L i a g;rintro⟨H,q⟩ ⟨p,K,k,hin⟩;dsimp only at p K k hin;obtain⟨i,a⟩:=N5.1 p.e;have hz:=fN (q:=q) p.q 2;have O:=p.lt.2;have kL:=AR q (by rw[k.sl];omega);simp[a,i,bV,hz];refine am.introP kL ?_ (by simp[O]) (by simp)
 by_cases c:q.row=[]
 .simp[c];refine⟨{E with q:=q},?_,p,K⟩;rw[N];exact .inr ⟨y,j,q,k,.inr ⟨rfl,rfl,c,λv z=>(hin v z).resolve_left (by rw[c];simp)⟩⟩
 have c':0<q.row.length:=PF.2 c;have G:bP q≠0:=λe=>c (k.peek_zero.1 e);have I:=k.peek_mem G;obtain⟨u,hu⟩:∃u:Nat,bP q=u:=⟨(bP q).toNat,by have:=k.inr _ I;omega⟩;have V:=k.inr _ I;rw[hu]at V;obtain⟨t1,_,t3,t4,_⟩:=Cd k;have t4:=t4 G;have Y:=Fp H bh q p.q k hn;rw[t3]at Y;have C:=p.heap (eh q).1;have X2:=K.trans (Ext.set bh (ao (eh q).1) (.inr (.inl rfl)));generalize(eh q).1=o at*;rw[hu]at Y t4;have m:∀v∈E.q.row,v∈o.row∨v∈E.T.lits.map ab∨v=u:=λv z=>by
  rcases hin v z with e|e
  .rcases OB.1 (t4.subset e)with e|e
   .exact .inr (.inr e)
   .exact .inl e
  .exact .inr (.inl e)
 have s:o.row.length<q.row.length:=by have:=t4.length_eq;simp at this;omega
 have U:u<E.ph.length:=by omega
 simp[c',a,i,bV];refine am.intro Y ?_;rintro _ _ ⟨rfl,rfl⟩;clear i a hz kL;generalize H.set bh (ao o)=Z at*;obtain⟨i,a⟩:=N5.1 C.e;have R:da u=true:=(bk _).2 (by omega);have kM:=Fc u E.ph[u];have P:Fb u E.ph[u]=if E.ph[u]=true then(u:Int)else-u:=by unfold Fb;rw[N8 (by simp[R];omega)]
 have hx:∃x:Int,Fb u E.ph[u]=x∧au x n=0∧ab x=u:=by
  have M:au (u:Int) n=0:=(cR (by omega)).2 (by omega);have J:=(bm hn M).2.2.2.2.2.1;have e3:ab (u:Int)=u:=by rw[J];unfold eG;rw[N8 (by omega)]
  rw[P];split
  .exact⟨_,rfl,M,e3⟩
  .exact⟨_,rfl,pc hn M,by rw[dr];exact e3⟩
 obtain⟨x,W,A,B⟩:=hx;rw[W]at kM;simp[a,i,bV,U];refine aj.intro kM ?_;have X:=cJ C.w.t 2;have ht:=(N5.1 C.w.t).1;have kV:=eP E.T x l.okT;simp[a,i,bV,X];refine am.introP kV ?_ (by simp[ht]) (by simp)
 by_cases d:bZ E.T x=0
 .have hm:eV E.T x=0:=(l.may x).2 ⟨A,(l.val0 A).1 d⟩;have L3:=C.eng {E with q:=o,calm:=false} rfl rfl rfl rfl;have X3:=X2.trans (Ext.set be (bV bt ba bw bh {E with q:=o,calm:=false}) (.inl rfl));generalize D:Z.set be (bV bt ba bw bh {E with q:=o,calm:=false})=H3 at*;simp only[bV]at D;have kD:=yp H3 bt E.T L3.w.t x l.okT (by omega) (by have:=l.deep;omega);rw[hm]at kD;have L4:=L3.trail (fH E.T x);have X4:=X3.trans (Ext.set bt (fD (fH E.T x)) (.inr (.inr (.inr (.inr (.inl rfl))))));simp[d,a,i,bV,D];clear i a;obtain⟨i,a⟩:=N5.1 L3.e;simp[a,i,bV];refine am.intro kD ?_;rintro _ _ ⟨rfl,rfl⟩;simp;refine⟨_,?_,L4,X4⟩;rw[N];exact .inr ⟨y,j,o,t1,.inl ⟨rfl,x,hm,rfl,by rw[B];exact m⟩⟩
 .have Q:(u:Int)∈E.T.lits.map ab:=by
   have:=mt (l.val0 A).2 d
   by_cases e:x∈E.T.lits
   .exact B▸Qh e
   .by_cases J:-x∈E.T.lits
    .have:=Qh (f:=ab) J
     rwa [dr,B]at this
    .exact absurd ⟨e,J⟩ this
  simp[d];exact⟨(Z,o),s,⟨C,X2,t1,λv z=>by have:=(m v z).imp id λe=>e.elim id λe=>e▸Q;simpa using this⟩,ai.keep (by simp) rfl⟩
end
end Go.AX
namespace Go.AX
set_option maxRecDepth 16000
open Go.Proofs
set_option linter.unusedSimpArgs false
def il(l:List Int)(n:Nat):List Bool:=(List.range n).map λ(i:Nat)=>decide ((i:Int)+1∈l)
def u6(l:List Int)(n i:Nat):List Bool:=il l i++List.replicate (n -i) false
theorem FW(l:List Int)(n i:Nat)(h:i<=n):(u6 l n i).length=n:=by unfold u6 il;simp;omega
theorem FX(l:List Int)(n i:Nat)(h:i<n):(u6 l n i).set i (decide ((i:Int)+1∈l))=u6 l n (i+1):=by
 unfold u6 il;have e:n -i=(n -(i+1))+1:=by omega
 rw[e,Rq,QL _ _ (by simp)];simp[QV]
theorem FY(l:List Int)(n:Nat):u6 l n n=il l n:=by unfold u6;simp
theorem FZ(l:List Int)(x:Int):(He l x=1)=(x∈l):=by
 unfold He;split
 .rename_i h;simp[h]
 .rename_i h;split<;>simp[h]
theorem Cu(l:List Int)(n:Nat)(g:l.length<=1000000)(hn:n<=100000):an Tryz.prog 57 [.seq false 1 (af l),ae n] (λr=>r=.pv (.seq true 1 (cz (il l n)))):=by
 refine an.wk (R:=λr=>∃x,r=.pv x∧cw x (.seq true 1 (cz (il l n)))) ?_ (λr ⟨x,e,h⟩=>⟨x,_,e,h,rfl⟩);refine iL [] [.tmp 4] aG Tryz.func57 ?_;have j:=λh=>B4 h l g;have c1:¬(n:Int)<0:=by omega
 have c2:¬(100000:Int)<n:=by omega
 simp[c1,c2];refine aj.introM (j _) ?_;rintro _ _ ⟨rfl,rfl⟩;simp[yG];refine⟨by omega,?_⟩;refine aJ.intro (S:=λ(i:Nat)=>⟨[(5,.pv (yG 0)),(6,.own true 1 (cz (u6 l n i))),(19,.pv (ae n)),(20,.pv (ae i))],[[.omap true (aS fI (cv l l.length))]]⟩) (λi=>i<=n) (λi=>n -i) 0 ?_ (Oz _) ?_
 .exact ai.keep (by simp[yG,u6,il,cz]) rfl
 intro i hi;have a:=FW l n i hi
 by_cases c:i<n
 .have f:=fQ i;have hs:=FX l n i c;have d:=yH l ((i:Int)+1);have h1:=FZ l ((i:Int)+1);simp[c,f,yG,br];refine am.introP d ?_;simp[a,c,h1,v7,hs];exact⟨i+1,by(try dsimp only);omega,by(try dsimp only);omega,ai.keep (by simp[f,yG,hs]) rfl⟩
 .have b:i=n:=by omega
  subst b;simp[FY,cw,cE]
section
variable {h : List (List SV)} {be bt ba bw bh : Nat} {mp : List (Int × Nat)} {mb : List (Int × By)} {E : ES}
def xn(E:ES)(n:Nat):Bool:=!E.over&&(decide (E.con<0)&&(decide (E.T.lits.length=n)&&decide (∀c∈E.cs,b5 c (il E.T.lits n)=true)))
theorem Cv(L:LayE h be bt ba bw bh mp mb E){n:Nat}(j:TOk n E.T)(m:E.vars=n)(x:E.cs.length<=1000000)(q:∀c∈E.cs,c.length<=1000000):
 aB Tryz.prog 15 [.ptr be 0] h (λr h'=>h'=h∧r=.pv (.tup [if xn E n=true then .seq true 1 (cz (il E.T.lits n))else .lit (.slice none 0 0),BL (xn E n)])):=by
 refine lj [] [.tmp 2,.tmp 3] aG Tryz.func15 ?_;have v:=j.few;have hn:=j.hn;have a:xn E n=(!E.over&&(decide (E.con<0)&&(decide (E.T.lits.length=n)&&decide (∀c∈E.cs,b5 c (il E.T.lits n)=true)))):=rfl;generalize xn E n=M at*;obtain⟨f,b⟩:=N5.1 L.e;have hz:=cJ L.w.t 2;have ht:=(N5.1 L.w.t).1;have p:=wL E.T (by rw[j.len];omega) (by omega);have s:=ff E.T (by omega);have u:=Cu E.T.lits n (by omega) hn;have o:=FV E.vars E.cs (il E.T.lits n) (by omega) q;simp;refine am.intro (fk L.e) ?_;rintro _ h ⟨rfl,rfl⟩;cases ho:E.over
 rotate_left
 .have a:M=false:=by rw[a,ho];rfl
  subst a;simp[b,f,bV,ho,cw,cE]
 by_cases c1:0<=E.con
 .have a:M=false:=by rw[a,PE (by omega:¬E.con<0)];simp
  subst a;simp[b,f,bV,ho,c1,cw,cE]
 have k:E.con<0:=by omega
 rw[ho,PG k]at a;simp[b,f,bV,ho,c1,hz];rw[j.len]at p;refine am.introP p ?_ (by simp[ht]) (by simp)
 by_cases c2:E.T.lits.length=n
 rotate_left
 .have g:E.T.lits.length<n:=by omega
  have i:¬n<=E.T.lits.length:=by omega
  have a:M=false:=by rw[a,PE c2];simp
  subst a;simp[g,i,cw,cE]
 rw[PG c2]at a;have g:¬E.T.lits.length<n:=by omega
 have i:n<=E.T.lits.length:=by omega
 simp[g,i,b,f,bV,ho,c1,hz];refine bA.intro s ?_;simp[b,f,bV,m];refine bA.intro u ?_;simp[b,f,bV,m];rw[m]at o;have l:(il E.T.lits n).length=n:=by simp[il]
 rw[l,PG rfl]at o;refine aj.intro o ?_
 by_cases d:∀c∈E.cs,b5 c (il E.T.lits n)=true
 .rw[PG d]at a;subst a;simp[d,cw,cE];exact d
 .rw[PE d]at a;subst a;simp[d,cw,cE]
end
end Go.AX
namespace Go.AX
open Go.Proofs
set_option linter.unusedSimpArgs false
theorem oR(A:Ar)(T:Tr){B:Nat}(a:∀q,(aq A q).length<=B)(all:List Int):∀(n:Nat)(p:PS),(cA A T all n p).lits.length<=p.lits.length+n*B
 |0,p=>by simp[cA]
 |n+1,p=>by
  rw[cA,PO];split
  .omega
  split
  .have h:=oR A T a all n (mZ A T p (all.getD n 0));have h1:=i8 T (ab (all.getD n 0)) (aq A (dm T (ab (all.getD n 0))).1.rea) ⟨pt p.seen (ab (all.getD n 0)) 0,p.lits,p.many -1⟩;have c:=a (dm T (ab (all.getD n 0))).1.rea;have b:mZ A T p (all.getD n 0)=c9 T (ab (all.getD n 0)) (aq A (dm T (ab (all.getD n 0))).1.rea) ⟨pt p.seen (ab (all.getD n 0)) 0,p.lits,p.many -1⟩:=rfl;rw[b]at h⊢;dsimp only at h1;omega
  .have h:=oR A T a all n p;omega
set_option maxRecDepth 16000 in
theorem zj(A:Ar)(T:Tr)(con:Int)(ht:T.ok)(h0:A.hd≠[])(hk:jI A)(y:A.row.length<=1000000)(o:∀q,(aq A q).length<=1000)(w:T.lits.length<=400):
 an Tryz.prog 92 [ke A,bB T,ae con] (λr=>r=.pv (.tup [.seq true 1 (af (oI A T con)),ae (jK A T con)])):=by
 refine an.wk (R:=λr=>∃x,r=.pv x∧cw x (.tup [.seq true 1 (af (oI A T con)),ae (jK A T con)])) ?_ (λr ⟨x,e,h⟩=>⟨x,_,e,h,rfl⟩);refine iL [] [.tmp 6,.tmp 7] aG Tryz.func92 ?_;have j:=uH A h0 hk (by omega) con;have s:=iZ A h0 hk (by omega) con;have u:=eQ A hk con;have l:=BZ T (aq A con) ht (by omega);have d:=B2 A T con 0 ht h0 hk (by omega);have g:c9 T 0 (aq A con) ⟨[],[],0⟩=gn A T con:=rfl;rw[g]at d;have a:=i8 T 0 (aq A con) ⟨[],[],0⟩;rw[g]at a;dsimp only[List.length_nil]at a;have m:=ff T (by omega);have n:=Eg A T (gn A T con) T.lits ht h0 hk (by omega) (by omega) (by omega) (by omega);have k:fin A T T.lits (gn A T con)=⟨(cA A T T.lits T.lits.length (gn A T con)).seen,pB T T.lits (cA A T T.lits T.lits.length (gn A T con)),(cA A T T.lits T.lits.length (gn A T con)).many⟩:=rfl;have b:jK A T con=if lY A con=0 then 20 else if m8 T (aq A con)=false then 30 else 0:=rfl;have f:oI A T con=if jK A T con=0 then cY A T con else[]:=rfl;have t:cY A T con=Eb T (pB T T.lits (cA A T T.lits T.lits.length (gn A T con))):=rfl;have i:(pB T T.lits (cA A T T.lits T.lits.length (gn A T con))).length<=1000000:=by
  have v:=wy T T.lits (cA A T T.lits T.lits.length (gn A T con)) T.lits.length (Oc _);rw[sW]at v;have z:=oR A T o T.lits T.lits.length (gn A T con);have C:=o con;omega
 generalize oI A T con=R at*;generalize jK A T con=E at*;generalize cY A T con=S at*;generalize aq A con=c at*;rw[k]at n;generalize cA A T T.lits T.lits.length (gn A T con)=W at*;generalize gn A T con=B at*;simp;refine aj.intro j ?_
 by_cases c1:lY A con=0
 .rw[N9 c1]at b;subst b;rw[N8 (by omega)]at f;subst f;simp[c1,cw,cE,af]
 rw[N8 c1]at b;simp[c1];refine aj.intro s ?_;simp;refine aj.intro l ?_;cases c2:m8 T c
 .rw[N9 c2]at b;subst b;rw[N8 (by omega)]at f;subst f;simp[c2,cw,cE,af]
 rw[N8 (by simp[c2])]at b;subst b;rw[N9 rfl]at f;subst f;simp[c2];simp only[I9,ic]at d n;refine am.intro d ?_;rintro _ _ ⟨rfl,rfl⟩;simp;refine aj.intro m ?_;simp;refine am.intro (n.args (xs:=[.ptr 0 0,.seq true 1 (af T.lits)]) (by simp[cE,cw])) ?_;rintro _ _ ⟨rfl,rfl⟩;have p:=B1 T (pB T T.lits W) ht i;rw[←t]at p;simp;refine aj.intro p ?_;simp[cw,cE]
end Go.AX