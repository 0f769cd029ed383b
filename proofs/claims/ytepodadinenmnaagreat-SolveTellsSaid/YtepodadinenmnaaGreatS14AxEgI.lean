/-
  Contracts: engines: a literal decided; and what follows.
-/
import Derived.Test.YtepodadinenmnaaGreatS14AxEgF
import Derived.Test.YtepodadinenmnaaGreatS14AxEgR
import Derived.Test.YtepodadinenmnaaGreatS14AxLuA
import Derived.Test.YtepodadinenmnaaGreatS14AxDfD
set_option linter.unusedSimpArgs false
namespace Go.AX
open Go.Proofs
section
variable {h : List (List SV)} {be bt ba bw bh : Nat} {mp : List (Int × Nat)} {mb : List (Int × By)} {E : ES}
def EZ(n:Nat)(E E':ES)(b:Bool):Prop:=
  ((E.over=true∨E.calm=false)∧E'=E∧b=false)∨
  (E.over = false ∧ E.calm = true ∧ ∃ q, HpG n 1000000000000 q ∧
    ((b = true ∧ ∃ x, fP E.T x = 0 ∧ E' = { E with T := ig E.T x, calm := false, q := q } ∧ ∀ v ∈ E.q.row, v ∈ q.row ∨ v ∈ E.T.lits.map af ∨ v = af x) ∨
     (b=false∧E'={E with q:=q}∧q.row=[]∧∀v∈E.q.row,v∈E.T.lits.map af)))
set_option maxRecDepth 16000 in
theorem C2(L:LayE h be bt ba bw bh mp mb E){n:Nat}(l:TOk n E.T)(g:HpG n 1000000000000 E.q)(hp:E.ph.length=n+1):
 aA Tryz.prog 46 [.ptr be 0] h (λr h'=>∃E' b,r=.pv (BL b)∧EZ n E E' b∧LayE h' be bt ba bw bh mp mb E'∧Ext h h' (cO be bt ba bw bh mp mb) (cO be bt ba bw bh mp mb)):=by
 refine cQ [] [.tmp 2] aD Tryz.func46 ?_;have hf:=l.few;have hn:=l.hn;have N:EZ n E=λE' b=>((E.over=true∨E.calm=false)∧E'=E∧b=false)∨(E.over=false∧E.calm=true∧∃q,HpG n 1000000000000 q∧((b=true∧∃x,fP E.T x=0∧E'={E with T:=ig E.T x,calm:=false,q:=q}∧∀v∈E.q.row,v∈q.row∨v∈E.T.lits.map af∨v=af x)∨(b=false∧E'={E with q:=q}∧q.row=[]∧∀v∈E.q.row,v∈E.T.lits.map af))):=rfl;generalize EZ n E=DT at*;obtain⟨i,a⟩:=SQ.1 L.e;simp;refine am.intro (gg L.e) ?_;rintro _ h ⟨rfl,rfl⟩
 by_cases ho:E.over=true∨E.calm=false
 .have F:DT E false:=by rw[N];exact .inl ⟨ho,rfl,rfl⟩
  rcases ho with ho|ho
  .simp[a,i,bO,ho];exact⟨E,F,L,Ext.refl _ _⟩
  .cases j:E.over<;>simp[a,i,bO,ho,j]<;>exact⟨E,F,L,Ext.refl _ _⟩
 have y:E.over=false:=by cases e:E.over<;>simp_all
 have j:E.calm=true:=by cases e:E.calm<;>simp_all
 simp[a,i,bO,y,j];refine ax.intro (S:=λ(x:List (List SV)×HS)=>⟨[(0,.pv (.ptr be 0)),(2,.pv (BL false))],x.1⟩)
  (λx=>LayE x.1 be bt ba bw bh mp mb {E with q:=x.2}∧Ext h x.1 (cO be bt ba bw bh mp mb) (cO be bt ba bw bh mp mb)∧HpG n 1000000000000 x.2∧∀v∈E.q.row,v∈x.2.row∨v∈E.T.lits.map af) (λx=>x.2.row.length) (h,E.q) ?_ ⟨L,Ext.refl _ _,g,λv z=>.inl z⟩ ?_
 .exact ah.keep (by simp) rfl
 clear L i a g;rintro⟨H,q⟩ ⟨p,K,k,hin⟩;dsimp only at p K k hin;obtain⟨i,a⟩:=SQ.1 p.e;have hz:=gG (q:=q) p.q 2;have O:=p.lt.2;have kL:=EH q (by rw[k.sl];omega);simp[a,i,bO,hz];refine am.introP kL ?_ (by simp[O]) (by simp)
 by_cases c:q.row=[]
 .simp[c];refine⟨{E with q:=q},?_,p,K⟩;rw[N];exact .inr ⟨y,j,q,k,.inr ⟨rfl,rfl,c,λv z=>(hin v z).resolve_left (by rw[c];simp)⟩⟩
 have c':0<q.row.length:=UG.2 c;have G:b7 q≠0:=λe=>c (k.peek_zero.1 e);have I:=k.peek_mem G;obtain⟨u,hu⟩:∃u:Nat,b7 q=u:=⟨(b7 q).toNat,by have:=k.inr _ I;omega⟩;have V:=k.inr _ I;rw[hu]at V;obtain⟨t1,_,t3,t4,_⟩:=GB k;have t4:=t4 G;have Y:=Kh H bh q p.q k hn;rw[t3]at Y;have C:=p.heap (fk q).1;have X2:=K.trans (Ext.set bh (au (fk q).1) (.inr (.inl rfl)));generalize(fk q).1=o at*;rw[hu]at Y t4;have m:∀v∈E.q.row,v∈o.row∨v∈E.T.lits.map af∨v=u:=λv z=>by
  rcases hin v z with e|e
  .rcases Tx.1 (t4.subset e)with e|e
   .exact .inr (.inr e)
   .exact .inl e
  .exact .inr (.inl e)
 have s:o.row.length<q.row.length:=by have:=t4.length_eq;simp at this;omega
 have U:u<E.ph.length:=by omega
 simp[c',a,i,bO];refine am.intro Y ?_;rintro _ _ ⟨rfl,rfl⟩;clear i a hz kL;generalize H.set bh (au o)=Z at*;obtain⟨i,a⟩:=SQ.1 C.e;have R:cF u=true:=(aY _).2 (by omega);have kM:=J5 u E.ph[u];have P:J4 u E.ph[u]=if E.ph[u]=true then(u:Int)else-u:=by unfold J4;rw[SU (by simp[R];omega)]
 have hx:∃x:Int,J4 u E.ph[u]=x∧aw x n=0∧af x=u:=by
  have M:aw (u:Int) n=0:=(df (by omega)).2 (by omega);have J:=(br hn M).2.2.2.2.2.1;have e3:af (u:Int)=u:=by rw[J];unfold c9;rw[SU (by omega)]
  rw[P];split
  .exact⟨_,rfl,M,e3⟩
  .exact⟨_,rfl,ro hn M,by rw[dD];exact e3⟩
 obtain⟨x,W,A,B⟩:=hx;rw[W]at kM;simp[a,i,bO,U];refine ai.intro kM ?_;have X:=cW C.w.t 2;have ht:=(SQ.1 C.w.t).1;have kV:=fJ E.T x l.okT;simp[a,i,bO,X];refine am.introP kV ?_ (by simp[ht]) (by simp)
 by_cases d:cm E.T x=0
 .have hm:fP E.T x=0:=(l.may x).2 ⟨A,(l.val0 A).1 d⟩;have L3:=C.eng {E with q:=o,calm:=false} rfl rfl rfl rfl;have X3:=X2.trans (Ext.set be (bO bt ba bw bh {E with q:=o,calm:=false}) (.inl rfl));generalize D:Z.set be (bO bt ba bw bh {E with q:=o,calm:=false})=H3 at*;simp only[bO]at D;have kD:=B7 H3 bt E.T L3.w.t x l.okT (by omega) (by have:=l.deep;omega);rw[hm]at kD;have L4:=L3.trail (ig E.T x);have X4:=X3.trans (Ext.set bt (gA (ig E.T x)) (.inr (.inr (.inr (.inr (.inl rfl))))));simp[d,a,i,bO,D];clear i a;obtain⟨i,a⟩:=SQ.1 L3.e;simp[a,i,bO];refine am.intro kD ?_;rintro _ _ ⟨rfl,rfl⟩;simp;refine⟨_,?_,L4,X4⟩;rw[N];exact .inr ⟨y,j,o,t1,.inl ⟨rfl,x,hm,rfl,by rw[B];exact m⟩⟩
 .have Q:(u:Int)∈E.T.lits.map af:=by
   have:=mt (l.val0 A).2 d
   by_cases e:x∈E.T.lits
   .exact B▸UX e
   .by_cases J:-x∈E.T.lits
    .have:=UX (f:=af) J
     rwa [dD,B]at this
    .exact absurd ⟨e,J⟩ this
  simp[d];exact⟨(Z,o),s,⟨C,X2,t1,λv z=>by have:=(m v z).imp id λe=>e.elim id λe=>e▸Q;simpa using this⟩,ah.keep (by simp) rfl⟩
end
end Go.AX
namespace Go.AX
set_option maxRecDepth 16000
open Go.Proofs
def jd(l:List Int)(n:Nat):List Bool:=(List.range n).map λ(i:Nat)=>decide ((i:Int)+1∈l)
def yl(l:List Int)(n i:Nat):List Bool:=jd l i++List.replicate (n -i) false
theorem KJ(l:List Int)(n i:Nat)(h:i<=n):(yl l n i).length=n:=by unfold yl jd;simp;omega
theorem KK(l:List Int)(n i:Nat)(h:i<n):(yl l n i).set i (decide ((i:Int)+1∈l))=yl l n (i+1):=by
 unfold yl jd;have e:n -i=(n -(i+1))+1:=by omega
 rw[e,Wr,VR _ _ (by simp)];simp[VX]
theorem KL(l:List Int)(n:Nat):yl l n n=jd l n:=by unfold yl;simp
theorem KM(l:List Int)(x:Int):(Md l x=1)=(x∈l):=by
 unfold Md;split
 .rename_i h;simp[h]
 .rename_i h;split<;>simp[h]
theorem GR(l:List Int)(n:Nat)(g:l.length<=1000000)(hn:n<=100000):aj Tryz.prog 57 [.seq false 1 (ae l),ab n] (λr=>r=.pv (.seq true 1 (de (jd l n)))):=by
 refine aj.wk (R:=λr=>∃x,r=.pv x∧bB x (.seq true 1 (de (jd l n)))) ?_ (λr ⟨x,e,h⟩=>⟨x,_,e,h,rfl⟩);refine iO [] [.tmp 4] aD Tryz.func57 ?_;have j:=λh=>Gf h l g;have c1:¬(n:Int)<0:=by omega
 have c2:¬(100000:Int)<n:=by omega
 simp[c1,c2];refine ai.introM (j _) ?_;rintro _ _ ⟨rfl,rfl⟩;simp[Cr];refine⟨by omega,?_⟩;refine ax.intro (S:=λ(i:Nat)=>⟨[(5,.pv (Cr 0)),(6,.own true 1 (de (yl l n i))),(19,.pv (ab n)),(20,.pv (ab i))],[[.omap true (aZ fI (cC l l.length))]]⟩) (λi=>i<=n) (λi=>n -i) 0 ?_ (Tf _) ?_
 .exact ah.keep (by simp[Cr,yl,jd,de]) rfl
 intro i hi;have a:=KJ l n i hi
 by_cases c:i<n
 .have f:=dv i;have hs:=KK l n i c;have d:=Cs l ((i:Int)+1);have h1:=KM l ((i:Int)+1);simp[c,f,Cr,bA];refine am.introP d ?_;simp[a,c,h1,zj,hs];exact⟨i+1,by(try dsimp only);omega,by(try dsimp only);omega,ah.keep (by simp[f,Cr,hs]) rfl⟩
 .have b:i=n:=by omega
  subst b;simp[KL,bB,bc]
section
variable {h : List (List SV)} {be bt ba bw bh : Nat} {mp : List (Int × Nat)} {mb : List (Int × By)} {E : ES}
def AZ(E:ES)(n:Nat):Bool:=!E.over&&(decide (E.con<0)&&(decide (E.T.lits.length=n)&&decide (∀c∈E.cs,cI c (jd E.T.lits n)=true)))
theorem GS(L:LayE h be bt ba bw bh mp mb E){n:Nat}(j:TOk n E.T)(m:E.vars=n)(x:E.cs.length<=1000000)(q:∀c∈E.cs,c.length<=1000000):
 aA Tryz.prog 15 [.ptr be 0] h (λr h'=>h'=h∧r=.pv (.tup [if AZ E n=true then .seq true 1 (de (jd E.T.lits n))else .lit (.slice none 0 0),BL (AZ E n)])):=by
 refine d7 [] [.tmp 2,.tmp 3] aD Tryz.func15 ?_;have v:=j.few;have hn:=j.hn;have a:AZ E n=(!E.over&&(decide (E.con<0)&&(decide (E.T.lits.length=n)&&decide (∀c∈E.cs,cI c (jd E.T.lits n)=true)))):=rfl;generalize AZ E n=M at*;obtain⟨f,b⟩:=SQ.1 L.e;have hz:=cW L.w.t 2;have ht:=(SQ.1 L.w.t).1;have p:=Ao E.T (by rw[j.len];omega) (by omega);have s:=fZ E.T (by omega);have u:=GR E.T.lits n (by omega) hn;have o:=KI E.vars E.cs (jd E.T.lits n) (by omega) q;simp;refine am.intro (gg L.e) ?_;rintro _ h ⟨rfl,rfl⟩;cases ho:E.over
 rotate_left
 .have a:M=false:=by rw[a,ho];rfl
  subst a;simp[b,f,bO,ho,bB,bc]
 by_cases c1:0<=E.con
 .have a:M=false:=by rw[a,UP (by omega:¬E.con<0)];simp
  subst a;simp[b,f,bO,ho,c1,bB,bc]
 have k:E.con<0:=by omega
 rw[ho,Uv k]at a;simp[b,f,bO,ho,c1,hz];rw[j.len]at p;refine am.introP p ?_ (by simp[ht]) (by simp)
 by_cases c2:E.T.lits.length=n
 rotate_left
 .have g:E.T.lits.length<n:=by omega
  have i:¬n<=E.T.lits.length:=by omega
  have a:M=false:=by rw[a,UP c2];simp
  subst a;simp[g,i,bB,bc]
 rw[Uv c2]at a;have g:¬E.T.lits.length<n:=by omega
 have i:n<=E.T.lits.length:=by omega
 simp[g,i,b,f,bO,ho,c1,hz];refine bz.intro s ?_;simp[b,f,bO,m];refine bz.intro u ?_;simp[b,f,bO,m];rw[m]at o;have l:(jd E.T.lits n).length=n:=by simp[jd]
 rw[l,Uv rfl]at o;refine ai.intro o ?_
 by_cases d:∀c∈E.cs,cI c (jd E.T.lits n)=true
 .rw[Uv d]at a;subst a;simp[d,bB,bc];exact d
 .rw[UP d]at a;subst a;simp[d,bB,bc]
end
end Go.AX
namespace Go.AX
open Go.Proofs
theorem qU(A:Ar)(T:Tr){B:Nat}(a:∀q,(av A q).length<=B)(all:List Int):∀(n:Nat)(p:PS),(cE A T all n p).lits.length<=p.lits.length+n*B
 |0,p=>by simp[cE]
 |n+1,p=>by
  rw[cE,UR];split
  .omega
  split
  .have h:=qU A T a all n (oP A T p (all.getD n 0));have h1:=j9 T (af (all.getD n 0)) (av A (dw T (af (all.getD n 0))).1.rea) ⟨pt p.seen (af (all.getD n 0)) 0,p.lits,p.many -1⟩;have c:=a (dw T (af (all.getD n 0))).1.rea;have b:oP A T p (all.getD n 0)=dt T (af (all.getD n 0)) (av A (dw T (af (all.getD n 0))).1.rea) ⟨pt p.seen (af (all.getD n 0)) 0,p.lits,p.many -1⟩:=rfl;rw[b]at h⊢;dsimp only at h1;omega
  .have h:=qU A T a all n p;omega
set_option maxRecDepth 16000 in
theorem C3(A:Ar)(T:Tr)(con:Int)(ht:T.ok)(h0:A.hd≠[])(hk:j0 A)(w:A.row.length<=1000000)(o:∀q,(av A q).length<=1000)(v:T.lits.length<=400):
 aj Tryz.prog 92 [kw A,bN T,ab con] (λr=>r=.pv (.tup [.seq true 1 (ae (qC A T con)),ab (lH A T con)])):=by
 refine aj.wk (R:=λr=>∃x,r=.pv x∧bB x (.tup [.seq true 1 (ae (qC A T con)),ab (lH A T con)])) ?_ (λr ⟨x,e,h⟩=>⟨x,_,e,h,rfl⟩);refine iO [] [.tmp 6,.tmp 7] aD Tryz.func92 ?_;have j:=sb A h0 hk (by omega) con;have s:=j7 A h0 hk (by omega) con;have hcl:=fM A hk con;have l:=F7 T (av A con) ht (by omega);have d:=Ga A T con 0 ht h0 hk (by omega);have g:dt T 0 (av A con) ⟨[],[],0⟩=ii A T con:=rfl;rw[g]at d;have a:=j9 T 0 (av A con) ⟨[],[],0⟩;rw[g]at a;dsimp only[List.length_nil]at a;have m:=fZ T (by omega);have n:=IZ A T (ii A T con) T.lits ht h0 hk (by omega) (by omega) (by omega) (by omega);have k:fin A T T.lits (ii A T con)=⟨(cE A T T.lits T.lits.length (ii A T con)).seen,rF T T.lits (cE A T T.lits T.lits.length (ii A T con)),(cE A T T.lits T.lits.length (ii A T con)).many⟩:=rfl;have b:lH A T con=if gn A con=0 then 20 else if oT T (av A con)=false then 30 else 0:=rfl;have f:qC A T con=if lH A T con=0 then dr A T con else[]:=rfl;have t:dr A T con=IU T (rF T T.lits (cE A T T.lits T.lits.length (ii A T con))):=rfl;have i:(rF T T.lits (cE A T T.lits T.lits.length (ii A T con))).length<=1000000:=by
  have u:=zN T T.lits (cE A T T.lits T.lits.length (ii A T con)) T.lits.length (SY _);rw[vT]at u;have y:=qU A T o T.lits T.lits.length (ii A T con);have z:=o con;omega
 generalize qC A T con=R at*;generalize lH A T con=E at*;generalize dr A T con=S at*;generalize av A con=c at*;rw[k]at n;generalize cE A T T.lits T.lits.length (ii A T con)=W at*;generalize ii A T con=B at*;simp;refine ai.intro j ?_
 by_cases c1:gn A con=0
 .rw[SX c1]at b;subst b;rw[SU (by omega)]at f;subst f;simp[c1,bB,bc,ae]
 rw[SU c1]at b;simp[c1];refine ai.intro s ?_;simp;refine ai.intro l ?_;cases c2:oT T c
 .rw[SX c2]at b;subst b;rw[SU (by omega)]at f;subst f;simp[c2,bB,bc,ae]
 rw[SU (by simp[c2])]at b;subst b;rw[SX rfl]at f;subst f;simp[c2];simp only[N5,i7]at d n;refine am.intro d ?_;rintro _ _ ⟨rfl,rfl⟩;simp;refine ai.intro m ?_;simp;refine am.intro (n.args (xs:=[.ptr 0 0,.seq true 1 (ae T.lits)]) (by simp[bc,bB])) ?_;rintro _ _ ⟨rfl,rfl⟩;have p:=F9 T (rF T T.lits W) ht i;rw[←t]at p;simp;refine ai.intro p ?_;simp[bB,bc]
end Go.AX