/-
  Contracts: engines: a literal decided; and what follows.
-/
import Derived.Test.YtepodadinenmnaaGreatS14AxEgF
import Derived.Test.YtepodadinenmnaaGreatS14AxEgR
import Derived.Test.YtepodadinenmnaaGreatS14AxLuA
import Derived.Test.YtepodadinenmnaaGreatS14AxDfD
namespace Go.AX
open Go.Proofs
set_option linter.unusedSimpArgs false
section
variable {h : List (List SV)} {be bt ba bw bh : Nat} {mp : List (Int × Nat)} {mb : List (Int × By)} {E : ES}
def EB(n:Nat)(E E':ES)(b:Bool):Prop:=
  ((E.over=true∨E.calm=false)∧E'=E∧b=false)∨
  (E.over = false ∧ E.calm = true ∧ ∃ q, HpG n 1000000000000 q ∧
    ((b = true ∧ ∃ x, fX E.T x = 0 ∧ E' = { E with T := ip E.T x, calm := false, q := q } ∧ ∀ v ∈ E.q.row, v ∈ q.row ∨ v ∈ E.T.lits.map af ∨ v = af x) ∨
     (b=false∧E'={E with q:=q}∧q.row=[]∧∀v∈E.q.row,v∈E.T.lits.map af)))
set_option maxRecDepth 16000 in
theorem CQ(L:LayE h be bt ba bw bh mp mb E){n:Nat}(l:TOk n E.T)(g:HpG n 1000000000000 E.q)(hp:E.ph.length=n+1):
 ax Tryz.prog 46 [.ptr be 0] h (λr h'=>∃E' b,r=.pv (BL b)∧EB n E E' b∧LayE h' be bt ba bw bh mp mb E'∧Ext h h' (cV be bt ba bw bh mp mb) (cV be bt ba bw bh mp mb)):=by
 refine cI [] [.tmp 2] aC Tryz.func46 ?_;have hf:=l.few;have hn:=l.hn;have N:EB n E=λE' b=>((E.over=true∨E.calm=false)∧E'=E∧b=false)∨(E.over=false∧E.calm=true∧∃q,HpG n 1000000000000 q∧((b=true∧∃x,fX E.T x=0∧E'={E with T:=ip E.T x,calm:=false,q:=q}∧∀v∈E.q.row,v∈q.row∨v∈E.T.lits.map af∨v=af x)∨(b=false∧E'={E with q:=q}∧q.row=[]∧∀v∈E.q.row,v∈E.T.lits.map af))):=rfl;generalize EB n E=DT at*;obtain⟨i,a⟩:=SG.1 L.e;simp;refine am.intro (gj L.e) ?_;rintro _ h ⟨rfl,rfl⟩
 by_cases ho:E.over=true∨E.calm=false
 .have F:DT E false:=by rw[N];exact .inl ⟨ho,rfl,rfl⟩
  rcases ho with ho|ho
  .simp[a,i,bN,ho];exact⟨E,F,L,Ext.refl _ _⟩
  .cases j:E.over<;>simp[a,i,bN,ho,j]<;>exact⟨E,F,L,Ext.refl _ _⟩
 have y:E.over=false:=by cases e:E.over<;>simp_all
 have j:E.calm=true:=by cases e:E.calm<;>simp_all
 simp[a,i,bN,y,j];refine aF.intro (S:=λ(x:List (List SV)×HS)=>⟨[(0,.pv (.ptr be 0)),(2,.pv (BL false))],x.1⟩)
  (λx=>LayE x.1 be bt ba bw bh mp mb {E with q:=x.2}∧Ext h x.1 (cV be bt ba bw bh mp mb) (cV be bt ba bw bh mp mb)∧HpG n 1000000000000 x.2∧∀v∈E.q.row,v∈x.2.row∨v∈E.T.lits.map af) (λx=>x.2.row.length) (h,E.q) ?_ ⟨L,Ext.refl _ _,g,λv z=>.inl z⟩ ?_
 .exact ai.keep (by simp) rfl
 clear L i a g;rintro⟨H,q⟩ ⟨p,K,k,hin⟩;dsimp only at p K k hin;obtain⟨i,a⟩:=SG.1 p.e;have hz:=gM (q:=q) p.q 2;have O:=p.lt.2;have kL:=Em q (by rw[k.sl];omega);simp[a,i,bN,hz];refine am.introP kL ?_ (by simp[O]) (by simp)
 by_cases c:q.row=[]
 .simp[c];refine⟨{E with q:=q},?_,p,K⟩;rw[N];exact .inr ⟨y,j,q,k,.inr ⟨rfl,rfl,c,λv z=>(hin v z).resolve_left (by rw[c];simp)⟩⟩
 have c':0<q.row.length:=Up.2 c;have G:b8 q≠0:=λe=>c (k.peek_zero.1 e);have I:=k.peek_mem G;obtain⟨u,hu⟩:∃u:Nat,b8 q=u:=⟨(b8 q).toNat,by have:=k.inr _ I;omega⟩;have V:=k.inr _ I;rw[hu]at V;obtain⟨t1,_,t3,t4,_⟩:=Gj k;have t4:=t4 G;have Y:=J5 H bh q p.q k hn;rw[t3]at Y;have C:=p.heap (fl q).1;have X2:=K.trans (Ext.set bh (aq (fl q).1) (.inr (.inl rfl)));generalize(fl q).1=o at*;rw[hu]at Y t4;have m:∀v∈E.q.row,v∈o.row∨v∈E.T.lits.map af∨v=u:=λv z=>by
  rcases hin v z with e|e
  .rcases Tp.1 (t4.subset e)with e|e
   .exact .inr (.inr e)
   .exact .inl e
  .exact .inr (.inl e)
 have s:o.row.length<q.row.length:=by have:=t4.length_eq;simp at this;omega
 have U:u<E.ph.length:=by omega
 simp[c',a,i,bN];refine am.intro Y ?_;rintro _ _ ⟨rfl,rfl⟩;clear i a hz kL;generalize H.set bh (aq o)=Z at*;obtain⟨i,a⟩:=SG.1 C.e;have R:cX u=true:=(a8 _).2 (by omega);have kM:=JR u E.ph[u];have P:JQ u E.ph[u]=if E.ph[u]=true then(u:Int)else-u:=by unfold JQ;rw[SM (by simp[R];omega)]
 have hx:∃x:Int,JQ u E.ph[u]=x∧ay x n=0∧af x=u:=by
  have M:ay (u:Int) n=0:=(dm (by omega)).2 (by omega);have J:=(bA hn M).2.2.2.2.2.1;have e3:af (u:Int)=u:=by rw[J];unfold fp;rw[SM (by omega)]
  rw[P];split
  .exact⟨_,rfl,M,e3⟩
  .exact⟨_,rfl,rx hn M,by rw[dF];exact e3⟩
 obtain⟨x,W,A,B⟩:=hx;rw[W]at kM;simp[a,i,bN,U];refine ah.intro kM ?_;have X:=db C.w.t 2;have ht:=(SG.1 C.w.t).1;have kV:=fP E.T x l.okT;simp[a,i,bN,X];refine am.introP kV ?_ (by simp[ht]) (by simp)
 by_cases d:cz E.T x=0
 .have hm:fX E.T x=0:=(l.may x).2 ⟨A,(l.val0 A).1 d⟩;have L3:=C.eng {E with q:=o,calm:=false} rfl rfl rfl rfl;have X3:=X2.trans (Ext.set be (bN bt ba bw bh {E with q:=o,calm:=false}) (.inl rfl));generalize D:Z.set be (bN bt ba bw bh {E with q:=o,calm:=false})=H3 at*;simp only[bN]at D;have kD:=BY H3 bt E.T L3.w.t x l.okT (by omega) (by have:=l.deep;omega);rw[hm]at kD;have L4:=L3.trail (ip E.T x);have X4:=X3.trans (Ext.set bt (gD (ip E.T x)) (.inr (.inr (.inr (.inr (.inl rfl))))));simp[d,a,i,bN,D];clear i a;obtain⟨i,a⟩:=SG.1 L3.e;simp[a,i,bN];refine am.intro kD ?_;rintro _ _ ⟨rfl,rfl⟩;simp;refine⟨_,?_,L4,X4⟩;rw[N];exact .inr ⟨y,j,o,t1,.inl ⟨rfl,x,hm,rfl,by rw[B];exact m⟩⟩
 .have Q:(u:Int)∈E.T.lits.map af:=by
   have:=mt (l.val0 A).2 d
   by_cases e:x∈E.T.lits
   .exact B▸UQ e
   .by_cases J:-x∈E.T.lits
    .have:=UQ (f:=af) J
     rwa [dF,B]at this
    .exact absurd ⟨e,J⟩ this
  simp[d];exact⟨(Z,o),s,⟨C,X2,t1,λv z=>by have:=(m v z).imp id λe=>e.elim id λe=>e▸Q;simpa using this⟩,ai.keep (by simp) rfl⟩
end
end Go.AX
namespace Go.AX
set_option maxRecDepth 16000
open Go.Proofs
set_option linter.unusedSimpArgs false
def jm(l:List Int)(n:Nat):List Bool:=(List.range n).map λ(i:Nat)=>decide ((i:Int)+1∈l)
def yd(l:List Int)(n i:Nat):List Bool:=jm l i++List.replicate (n -i) false
theorem Kx(l:List Int)(n i:Nat)(h:i<=n):(yd l n i).length=n:=by unfold yd jm;simp;omega
theorem Ky(l:List Int)(n i:Nat)(h:i<n):(yd l n i).set i (decide ((i:Int)+1∈l))=yd l n (i+1):=by
 unfold yd jm;have e:n -i=(n -(i+1))+1:=by omega
 rw[e,Wu,Vj _ _ (by simp)];simp[VT]
theorem Kz(l:List Int)(n:Nat):yd l n n=jm l n:=by unfold yd;simp
theorem KA(l:List Int)(x:Int):(lI l x=1)=(x∈l):=by
 unfold lI;split
 .rename_i h;simp[h]
 .rename_i h;split<;>simp[h]
theorem GA(l:List Int)(n:Nat)(g:l.length<=1000000)(hn:n<=100000):ak Tryz.prog 57 [.seq false 1 (ae l),ab n] (λr=>r=.pv (.seq true 1 (cT (jm l n)))):=by
 refine ak.wk (R:=λr=>∃x,r=.pv x∧bO x (.seq true 1 (cT (jm l n)))) ?_ (λr ⟨x,e,h⟩=>⟨x,_,e,h,rfl⟩);refine iX [] [.tmp 4] aC Tryz.func57 ?_;have j:=λh=>qM h l g;have c1:¬(n:Int)<0:=by omega
 have c2:¬(100000:Int)<n:=by omega
 simp[c1,c2];refine ah.introM (j _) ?_;rintro _ _ ⟨rfl,rfl⟩;simp[nH];refine⟨by omega,?_⟩;refine aF.intro (S:=λ(i:Nat)=>⟨[(5,.pv (nH 0)),(6,.own true 1 (cT (yd l n i))),(19,.pv (ab n)),(20,.pv (ab i))],[[.omap true (aG fI (cr l l.length))]]⟩) (λi=>i<=n) (λi=>n -i) 0 ?_ (Te _) ?_
 .exact ai.keep (by simp[nH,yd,jm,cT]) rfl
 intro i hi;have a:=Kx l n i hi
 by_cases c:i<n
 .have f:=dZ i;have hs:=Ky l n i c;have d:=oT l ((i:Int)+1);have h1:=KA l ((i:Int)+1);simp[c,f,nH,aZ];refine am.introP d ?_;simp[a,c,h1,zc,hs];exact⟨i+1,by(try dsimp only);omega,by(try dsimp only);omega,ai.keep (by simp[f,nH,hs]) rfl⟩
 .have b:i=n:=by omega
  subst b;simp[Kz,bO,bK]
section
variable {h : List (List SV)} {be bt ba bw bh : Nat} {mp : List (Int × Nat)} {mb : List (Int × By)} {E : ES}
def AN(E:ES)(n:Nat):Bool:=!E.over&&(decide (E.con<0)&&(decide (E.T.lits.length=n)&&decide (∀c∈E.cs,cd c (jm E.T.lits n)=true)))
theorem GB(L:LayE h be bt ba bw bh mp mb E){n:Nat}(j:TOk n E.T)(m:E.vars=n)(x:E.cs.length<=1000000)(q:∀c∈E.cs,c.length<=1000000):
 ax Tryz.prog 15 [.ptr be 0] h (λr h'=>h'=h∧r=.pv (.tup [if AN E n=true then .seq true 1 (cT (jm E.T.lits n))else .lit (.slice none 0 0),BL (AN E n)])):=by
 refine fk [] [.tmp 2,.tmp 3] aC Tryz.func15 ?_;have v:=j.few;have hn:=j.hn;have a:AN E n=(!E.over&&(decide (E.con<0)&&(decide (E.T.lits.length=n)&&decide (∀c∈E.cs,cd c (jm E.T.lits n)=true)))):=rfl;generalize AN E n=M at*;obtain⟨f,b⟩:=SG.1 L.e;have hz:=db L.w.t 2;have ht:=(SG.1 L.w.t).1;have p:=Ae E.T (by rw[j.len];omega) (by omega);have s:=ge E.T (by omega);have u:=GA E.T.lits n (by omega) hn;have o:=Kw E.vars E.cs (jm E.T.lits n) (by omega) q;simp;refine am.intro (gj L.e) ?_;rintro _ h ⟨rfl,rfl⟩;cases ho:E.over
 rotate_left
 .have a:M=false:=by rw[a,ho];rfl
  subst a;simp[b,f,bN,ho,bO,bK]
 by_cases c1:0<=E.con
 .have a:M=false:=by rw[a,UH (by omega:¬E.con<0)];simp
  subst a;simp[b,f,bN,ho,c1,bO,bK]
 have k:E.con<0:=by omega
 rw[ho,Uq k]at a;simp[b,f,bN,ho,c1,hz];rw[j.len]at p;refine am.introP p ?_ (by simp[ht]) (by simp)
 by_cases c2:E.T.lits.length=n
 rotate_left
 .have g:E.T.lits.length<n:=by omega
  have i:¬n<=E.T.lits.length:=by omega
  have a:M=false:=by rw[a,UH c2];simp
  subst a;simp[g,i,bO,bK]
 rw[Uq c2]at a;have g:¬E.T.lits.length<n:=by omega
 have i:n<=E.T.lits.length:=by omega
 simp[g,i,b,f,bN,ho,c1,hz];refine bE.intro s ?_;simp[b,f,bN,m];refine bE.intro u ?_;simp[b,f,bN,m];rw[m]at o;have l:(jm E.T.lits n).length=n:=by simp[jm]
 rw[l,Uq rfl]at o;refine ah.intro o ?_
 by_cases d:∀c∈E.cs,cd c (jm E.T.lits n)=true
 .rw[Uq d]at a;subst a;simp[d,bO,bK];exact d
 .rw[UH d]at a;subst a;simp[d,bO,bK]
end
end Go.AX
namespace Go.AX
open Go.Proofs
set_option linter.unusedSimpArgs false
theorem qY(A:Ar)(T:Tr){B:Nat}(a:∀q,(au A q).length<=B)(all:List Int):∀(n:Nat)(p:PS),(cO A T all n p).lits.length<=p.lits.length+n*B
 |0,p=>by simp[cO]
 |n+1,p=>by
  rw[cO,UK];split
  .omega
  split
  .have h:=qY A T a all n (oO A T p (all.getD n 0));have h1:=kb T (af (all.getD n 0)) (au A (dA T (af (all.getD n 0))).1.rea) ⟨pt p.seen (af (all.getD n 0)) 0,p.lits,p.many -1⟩;have c:=a (dA T (af (all.getD n 0))).1.rea;have b:oO A T p (all.getD n 0)=dz T (af (all.getD n 0)) (au A (dA T (af (all.getD n 0))).1.rea) ⟨pt p.seen (af (all.getD n 0)) 0,p.lits,p.many -1⟩:=rfl;rw[b]at h⊢;dsimp only at h1;omega
  .have h:=qY A T a all n p;omega
set_option maxRecDepth 16000 in
theorem CR(A:Ar)(T:Tr)(con:Int)(ht:T.ok)(h0:A.hd≠[])(hk:j9 A)(w:A.row.length<=1000000)(o:∀q,(au A q).length<=1000)(v:T.lits.length<=400):
 ak Tryz.prog 92 [kw A,bM T,ab con] (λr=>r=.pv (.tup [.seq true 1 (ae (qK A T con)),ab (lH A T con)])):=by
 refine ak.wk (R:=λr=>∃x,r=.pv x∧bO x (.tup [.seq true 1 (ae (qK A T con)),ab (lH A T con)])) ?_ (λr ⟨x,e,h⟩=>⟨x,_,e,h,rfl⟩);refine iX [] [.tmp 6,.tmp 7] aC Tryz.func92 ?_;have j:=sq A h0 hk (by omega) con;have s:=ka A h0 hk (by omega) con;have hcl:=fT A hk con;have l:=FP T (au A con) ht (by omega);have d:=FT A T con 0 ht h0 hk (by omega);have g:dz T 0 (au A con) ⟨[],[],0⟩=iq A T con:=rfl;rw[g]at d;have a:=kb T 0 (au A con) ⟨[],[],0⟩;rw[g]at a;dsimp only[List.length_nil]at a;have m:=ge T (by omega);have n:=IB A T (iq A T con) T.lits ht h0 hk (by omega) (by omega) (by omega) (by omega);have k:fin A T T.lits (iq A T con)=⟨(cO A T T.lits T.lits.length (iq A T con)).seen,rM T T.lits (cO A T T.lits T.lits.length (iq A T con)),(cO A T T.lits T.lits.length (iq A T con)).many⟩:=rfl;have b:lH A T con=if gt A con=0 then 20 else if oR T (au A con)=false then 30 else 0:=rfl;have f:qK A T con=if lH A T con=0 then dy A T con else[]:=rfl;have t:dy A T con=Iw T (rM T T.lits (cO A T T.lits T.lits.length (iq A T con))):=rfl;have i:(rM T T.lits (cO A T T.lits T.lits.length (iq A T con))).length<=1000000:=by
  have u:=zG T T.lits (cO A T T.lits T.lits.length (iq A T con)) T.lits.length (SQ _);rw[vS]at u;have y:=qY A T o T.lits T.lits.length (iq A T con);have z:=o con;omega
 generalize qK A T con=R at*;generalize lH A T con=E at*;generalize dy A T con=S at*;generalize au A con=c at*;rw[k]at n;generalize cO A T T.lits T.lits.length (iq A T con)=W at*;generalize iq A T con=B at*;simp;refine ah.intro j ?_
 by_cases c1:gt A con=0
 .rw[SN c1]at b;subst b;rw[SM (by omega)]at f;subst f;simp[c1,bO,bK,ae]
 rw[SM c1]at b;simp[c1];refine ah.intro s ?_;simp;refine ah.intro l ?_;cases c2:oR T c
 .rw[SN c2]at b;subst b;rw[SM (by omega)]at f;subst f;simp[c2,bO,bK,ae]
 rw[SM (by simp[c2])]at b;subst b;rw[SN rfl]at f;subst f;simp[c2];simp only[NY,jg]at d n;refine am.intro d ?_;rintro _ _ ⟨rfl,rfl⟩;simp;refine ah.intro m ?_;simp;refine am.intro (n.args (xs:=[.ptr 0 0,.seq true 1 (ae T.lits)]) (by simp[bK,bO])) ?_;rintro _ _ ⟨rfl,rfl⟩;have p:=FR T (rM T T.lits W) ht i;rw[←t]at p;simp;refine ah.intro p ?_;simp[bO,bK]
end Go.AX