/-
  Contracts: engines: clauses are forgotten; and what follows.
-/
import Derived.Test.YtepodadinenmnaaGreatS14AxRdB
import Derived.Test.YtepodadinenmnaaGreatAxOw
import Derived.Test.YtepodadinenmnaaGreatS14AxEjA
import Derived.Test.YtepodadinenmnaaGreatS14AxTyA
import Derived.Test.YtepodadinenmnaaGreatS14AxTxC
set_option linter.unusedSimpArgs false
namespace Go.AX
set_option maxRecDepth 16000
open Go.Proofs
def KZ:Sch:=
 let j:Sch:=.fork [(17,.done)]
 let e:Sch:=.fork [(14,.take 15 (.take 16 j))]
 let f:Sch:=.fork [(13,e)]
 let d:Sch:=.fork [(12,f)]
 let g:Sch:=.fork [(11,d)]
 let h:Sch:=.fork [(8,d)]
 let k:Sch:=.fork [(8,g),(11,h)]
 let l:Sch:=.fork [(4,e)]
 let m:Sch:=.fork [(4,f),(13,l)]
 let i:Sch:=.fork [(4,d),(12,m)]
 let a:Sch:=.fork [(4,g),(11,i)]
 let b:Sch:=.fork [(4,h),(8,i)]
 let c:Sch:=.fork [(4,k),(8,a),(11,b)]
 .take 0 (.take 1 (.take 2 (.take 3 (.take 5 (.take 6 (.take 7 (.take 9 (.take 10 c))))))))
section
variable {h : List (List SV)} {be bt ba bw bh : Nat} {mp : List (Int × Nat)} {mb : List (Int × By)} {E : ES} {n r s : Nat} {F : List (List Int)} {l : List Rc}
def Sz(r:Nat->Nat->PV)(bt ba bw bh:Nat)(E:ES):PV:=.iptr 17 [(bO bt ba bw bh E).map (frzC r)] 0 0
theorem MU(a:h[be]?=some (bO bt ba bw bh E))(m:Nat):bA h (m+1) be 0=Sz (bA h m) bt ba bw bh E:=by
 rw[bA,SS,a];rfl
theorem K2(rd:Nat->Nat->PV)(d:rd ba 0=kw E.A)(h0:E.A.hd≠[])(hk:j0 E.A)(g:E.A.row.length<=1000000)(ks:List Int)(j:ks.length<=1000000):aj Tryz.prog 95 [Sz rd bt ba bw bh E,.seq false 1 (ae ks)] (λr=>r=.pv (.seq true 1 (ae (ks.map (gn E.A))))):=by
 refine aj.wk (R:=λr=>∃x,r=.pv x∧bB x (.seq true 1 (ae (ks.map (gn E.A))))) ?_ (λr ⟨x,e,h⟩=>⟨x,_,e,h,rfl⟩);refine iO [] [.tmp 4] aD Tryz.func95 ?_;have m:=λk=>sb E.A h0 hk g k;obtain⟨V,f⟩:∃V,V=kw E.A:=⟨_,rfl⟩;rw[←f]at d;simp[Sz,bO,d];refine⟨by omega,?_⟩;rw[f]at d⊢;refine ax.intro (S:=λ(i:Nat)=>⟨[(5,.pv (.fn (.func 158) [kw E.A] [])),(6,.own true 1 (ae (uw (gn E.A) ks i))),(17,.pv (.seq false 1 (ae ks))),(18,.pv (ab ks.length)),(19,.pv (ab i))],[]⟩) (λi=>i<=ks.length) (λi=>ks.length -i) 0 ?_ (Tf _) ?_
 .exact ah.keep (by simp[uw,ae]) rfl
 intro i hi;have a:=AN (gn E.A) ks i hi
 by_cases c:i<ks.length
 .have l:=dv i;have hs:=AO (gn E.A) ks i c;simp[c];refine ai.intro (m ks[i]) ?_;simp[a,c];exact⟨i+1,by(try dsimp only);omega,by(try dsimp only);omega,ah.keep (by simp[l,gZ,hs]) rfl⟩
 .have b:i=ks.length:=by omega
  subst b;simp[AP,bB,bc]
theorem wI{x y:List PV}(h:bc x y):∀a:List (List PV),tq (a++[x]) (a++[y])
 |[]=>⟨h,trivial⟩
 |z::a=>⟨jS z,wI h a⟩
theorem ah.pf{k0:Nat}{t:List (Nat×SV)}{rows a:List (List PV)}{d e f g i j l m n o z0 p q z3 z4 r:SV}(c:be<h.length)(s:tq rows a):ah k0 ⟨t,h.set be [d,e,f,g,i,j,l,m,n,o,z0,p,q,z3,z4,.own true 4 rows,r]⟩ ⟨t,h.set be [d,e,f,g,i,j,l,m,n,o,z0,p,q,z3,z4,.own true 4 a,r]⟩:=by
 have:=ah.rows (k0:=k0) (st:=⟨t,h.set be [d,e,f,g,i,j,l,m,n,o,z0,p,q,z3,z4,.own true 4 rows,r]⟩) (b:=be) (k:=15) (TH c) rfl s;rw[Wy]at this;exact this
def Q8(h:List (List SV))(be bt ba bw bh:Nat)(mp:List (Int×Nat))(mb:List (Int×By))(n:Nat)(F:List (List Int))(r s:Nat)(l:List Rc)(E:ES)(h':List (List SV)):Prop:=∃ks mp' mb',RedOk l E ks∧LayE h' be bt ba bw bh mp' mb' (nc E ks)∧Ext h h' (cO be bt ba bw bh mp mb) (cO be bt ba bw bh mp' mb')∧EI n F r s (mh l ks) (nc E ks)
set_option maxHeartbeats 1000000 in
theorem Db(L:LayE h be bt ba bw bh mp mb E)(I:EI n F r s l E)(ay:E.pf.length<=1000000)(aw:(rA l).length<=100000):
 aA Tryz.prog 53 [.ptr be 0] h (λy h'=>(∃z:Int,y=.pv (ab z))∧Q8 h be bt ba bw bh mp mb n F r s l E h'):=by
 refine cQ [3,7] [.tmp 2] aD Tryz.func53 ?_;obtain⟨b,f⟩:=SQ.1 L.e;have av:=I.rsz;have kE:=A6 L I.ari (by omega) I.tok.okT;have kF:=Da (nK E (rA l)) (by have:=A5 E (rA l);omega) E.keep;obtain⟨M,v⟩:=MT (E:=E) I.ari 1000;have g:Q8 h be bt ba bw bh mp mb n F r s l E h:=⟨[],mp,mb,⟨Xh,by simp,by simp,λ_=>rfl,by simp⟩,L,Ext.refl _ _,I⟩;have ag:(((rA l).filter (oZ E.A)).length:Int)<=E.keep->jZ (nK E (rA l)) E.keep=[]:=λh=>SX (by unfold nK;rw[S7];exact h);generalize jZ (nK E (rA l)) E.keep=m at*;simp;refine am.intro (gg L.e) ?_;rintro _ h ⟨rfl,rfl⟩;cases ho:E.over
 rotate_left
 .simp[f,b,bO,ho];exact g
 by_cases c:0<=E.con
 .simp[f,b,bO,ho,c];exact g
 simp[f,b,bO,ho,c];refine aT.meet Nq ⟨[(0,.pv (.ptr be 0)),(2,.pv (ab 0)),(3,.pv (.seq true 1 (ae m)))],h⟩ (by kernel_rfl) ?_ ?_
 .simp[Nq,f,b,bO]
  repeat' first
   |trivial
   |refine And.intro ?_ ?_
   |(refine am.intro kE ?_;rintro _ h ⟨rfl,rfl⟩;simp[f,b,bO])
   |(refine ai.intro kF ?_;simp;exact(ah.frz (s:=3) (e:=1) (nw:=true) (rows:=ae m) (by simp)).trans (ah.keep (by simp) rfl))
 by_cases X:m.length=0
 .simp[X];exact g
 have N:m≠[]:=λe=>X (by rw[e];rfl);obtain⟨ks,K⟩:∃ks,m.take 1000=ks:=⟨_,rfl⟩;have t:ks.length=min 1000 m.length:=by rw[←K,S6]
 have ad:(if(1000:Int)<m.length then(1000:Int)else m.length)=(ks.length:Int):=by split<;>omega
 have ao:(ae m).take ks.length=ae ks:=by
  have e:m.take ks.length=ks:=by
   rw[t,←K]
   by_cases d:1000<=m.length
   .rw[Uw d]
   .rw[Nat.min_eq_right (by omega),TT (SY _),TT (by omega)]
  conv=>rhs;rw[←e]
  simp[ae,UB]
 have af:ks.length<=m.length:=by omega
 rw[K]at M v;have P:dX ⟨2,E.id,[],ks.map (gn E.A)⟩=[ab 2,ab E.id,.seq false 1 [],.seq false 1 (ae (ks.map (gn E.A)))]:=rfl;have h0:E.A.hd≠[]:=by
  obtain⟨k,hk⟩:=List.exists_mem_of_ne_nil ks (λe=>by rw[e]at t;simp at t;omega);obtain⟨y,hy,_⟩:=v k hk;exact Cm ((I.ari.isA y.at').2 ⟨y,hy,rfl⟩)
 have kI:=(K2 (bt:=bt) (bw:=bw) (bh:=bh) (E:=E) (bA h 2) (Ee L.w.a 1) h0 I.arok (by omega) ks (by omega));have hz:=MU L.e 2;obtain⟨stp,G⟩:∃x:Stp,x=⟨2,E.id,[],ks.map (gn E.A)⟩:=⟨_,rfl⟩;rw[←G]at P;have an:tq (E.pf.map dX++[[ab 2,ab E.id,.lit (.slice none 0 0),.seq true 1 (ae (ks.map (gn E.A)))]]) (E.pf.map dX++[dX stp]):=by
  rw[P];exact wI (by simp[bc,bB,iu]) _
 have L1:=L.eng {E with pf:=E.pf++[stp]} rfl rfl rfl rfl;have X1:=Ext.set (D:=cO be bt ba bw bh mp mb) (h:=h) be (bO bt ba bw bh {E with pf:=E.pf++[stp]}) (.inl rfl);simp[X,N,ad,ao];refine⟨af,?_⟩;refine aT.meet KZ ⟨[(0,.pv (.ptr be 0)),(2,.pv (ab 0)),(3,.pv (.seq true 1 (ae ks)))],h.set be (bO bt ba bw bh {E with pf:=E.pf++[stp]})⟩ (by kernel_rfl) ?_ ?_
 .simp[KZ,f,b,bO,hz]
  repeat' first
   |trivial
   |refine And.intro ?_ ?_
   |(refine am.introP kI ?_ (by simp) (by simp);simp[f,b,bO])
  all_goals first
   |omega
   |(refine ah.trans ?_ (ah.pf b an);exact ah.keep (by simp) (by simp[ho]))
 have aj:ks≠[]:=λe=>by rw[e]at t;simp at t;omega
 have C:nc E ks=ks.foldl iz {E with pf:=E.pf++[stp]}:=by rw[nc,SU aj,G]
 obtain⟨o,j⟩:∃x:ES,x={E with pf:=E.pf++[stp]}:=⟨_,rfl⟩;have I1:EI n F r s l o:=by rw[j];exact{I with}
 have o1:o.over=false:=by rw[j];exact ho
 have c1:o.con=E.con:=by rw[j]
 have t1:o.T=E.T:=by rw[j]
 rw[←j]at L1 X1 C⊢;clear j;simp;refine ax.intro (S:=λ(x:Nat×List (List SV))=>⟨[(0,.pv (.ptr be 0)),(3,.pv (.seq true 1 (ae ks))),(54,.pv (.seq true 1 (ae ks))),(55,.pv (ab ks.length)),(56,.pv (ab x.1))],x.2⟩)
  (λx=>x.1<=ks.length∧∃mp' mb',LayE x.2 be bt ba bw bh mp' mb' ((ks.take x.1).foldl iz o)∧Ext h x.2 (cO be bt ba bw bh mp mb) (cO be bt ba bw bh mp' mb')∧EI n F r s (mh l (ks.take x.1)) ((ks.take x.1).foldl iz o)) (λx=>ks.length -x.1) (0,h.set be (bO bt ba bw bh o)) ?_ ⟨Tf _,mp,mb,L1,X1,I1⟩ ?_
 .exact ah.keep (by simp) rfl
 rintro⟨i,H⟩ ⟨hi,U,R,J,W,p⟩;dsimp only at hi J W p
 by_cases O:i<ks.length
 .obtain⟨k,hk⟩:∃k,ks[i]=k:=⟨_,rfl⟩;have hw:=dv i;have q:(ks.take (i+1)).foldl iz o=iz ((ks.take i).foldl iz o) k:=by rw[kr O,VW,hk];rfl
  have Y:mh l (ks.take (i+1))=eu k 0 (mh l (ks.take i)):=by unfold mh;rw[kr O,VW,hk];rfl
  obtain⟨y,hy,B,aq,_⟩:=v k (hk▸S5 O);obtain⟨q1,q2,q3,_⟩:=qf (ks.take i) o;have ak:k∉ks.take i:=λhm=>by
   have h2:(ks.take (i+1)).Nodup:=M.sublist (Vl _ _);rw[kr O,hk]at h2;exact(VY.1 h2).2.2 k hm k (TA.2 rfl) rfl
  have Q:y∈aP 0 (mh l (ks.take i)):=uC.2 ⟨hy,by rw[B];exact ak⟩;generalize(ks.take i).foldl iz o=u at*;have ID:=p.drop1 (q2.trans o1) (by rw[q3,c1];omega) Q (by rw[q1,t1,B];exact aq);rw[B,←Y,←q]at ID;have Z:=gM _ 0 y Q;rw[←p.ari.row,B]at Z;have az:=p.rsz;obtain⟨e1,e2⟩:=SQ.1 J.e;have kD:=CN H bw ba bt U R u.A u.T u.S J.w p.wok.nd k (p.wok.toWch.hx k) (p.wok.toWch.hz p.wok.few);simp[O,hk,e1,e2,bO];refine am.intro kD ?_;rintro _ H2 ⟨rfl,au,ar,W2,X2⟩;have V:=J.watch W2 X2;obtain⟨e3,e4⟩:=SQ.1 V.e;have kA:=J3 H2 ba u.A V.w.a k (λ_=>by omega) (by omega);simp[e3,e4,bO];refine am.intro kA ?_;rintro _ _ ⟨rfl,rfl⟩;have L3:=V.arena (rN u.A k);obtain⟨e5,e6⟩:=SQ.1 L3.e;have L4:=L3.eng (iz u k) rfl rfl rfl rfl;have X4:=W.trans (((Ext.eng (be:=be) (bh:=bh) (ba:=ba) X2).trans (Ext.set ba (ja (rN u.A k)) (.inr (.inr (.inl rfl))))).trans (Ext.set be (bO bt ba bw bh (iz u k)) (.inl rfl)));simp at e5;simp[e3,e5,e6,bO];exact⟨(i+1,(H2.set ba (ja (rN u.A k))).set be (bO bt ba bw bh (iz u k))),by(try dsimp only);omega,⟨by(try dsimp only);omega,au,ar,by dsimp only;rw[q];exact L4,X4,ID⟩,ah.keep (by simp[hw]) (by simp[bO,iz])⟩
 .have aa:i=ks.length:=by omega
  subst aa;rw[Tw]at J p;rw[←C]at J p;simp;exact⟨ks,U,R,⟨M,by omega,v,λe=>absurd (ag e) N,λ_=>⟨ho,by omega⟩⟩,J,W,p⟩
end
end Go.AX
namespace Go.AX
open Go.Proofs
structure CkF (F:List (List Int)) (l:List Rc) (E:ES) (c:Ck):Prop where
  run:m8 (lK F) E.pf c
  m:c.m=(aP 0 l).map λx=>(x.id,x.lits)
  last:c.last=E.id
  dn:c.done=E.over
  g:CkG c
  may:∀s∈E.pf,fQ s=true
theorem Fe{α:Type}:∀{m:List (Int×α)},rL m->∀k,dl m k=m.filter λq=>decide (q.1≠k)
 |[],_,_=>rfl
 |(j,x)::m,h,k=>by
  replace h:=U6.1 h;rw[dl,TO]
  by_cases e:j=k
  .rw[SX e,SU (by simp[e]),Uz.2];intro q a;have:=h.1 q a;simp only at this;simp;omega
  .rw[SU e,SX (by simp[e]),Fe h.2]
theorem A7{α:Type}:∀(ids:List Int){m:List (Int×α)},rL m->ids.foldl dl m=m.filter λq=>decide (q.1∉ids)
 |[],m,_=>(Uz.2 λ_ _=>rfl).symm
 |k::ids,m,h=>by
  rw[Vw,Fe h,A7 ids (h.sublist VI),List.filter_filter];refine Xo λq _=>?_;simp[Xy,Bool.and_comm]
theorem wJ:∀(ks:List Int)(l:List Rc),aP 0 (mh l ks)=(aP 0 l).filter λy=>decide (y.at'∉ks)
 |[],l=>(Uz.2 λ_ _=>rfl).symm
 |k::ks,l=>by
  have a:=wJ ks (eu k 0 l);show aP 0 (mh (eu k 0 l) ks)=_;rw[a,m7,List.filter_filter];refine Xo λq _=>?_;simp[Xy,Bool.and_comm]
theorem A8:∀(ks:List Int)(l:List Rc),(mh l ks).length=l.length
 |[],_=>rfl
 |k::ks,l=>(A8 ks (eu k 0 l)).trans (AK l 0 k).1
section
variable {n r s : Nat} {F : List (List Int)} {l : List Rc} {E : ES} {c : Ck}
theorem CkE.to(K:CkE F l E c)(h:EI n F r s l E):CkF F l E c:=⟨K.run,by rw[K.m,sr l 0 K.al],K.last,K.over h,K.g,K.may⟩
theorem CkF.mem(K:CkF F l E c){y:Ro}(hy:y∈aP 0 l):(y.id,y.lits)∈c.m:=by
 rw[K.m];exact S8.2 ⟨y,hy,rfl⟩
theorem CkF.one(K:CkF F l E c){x y:Ro}(hx:x∈aP 0 l)(hy:y∈aP 0 l)(e:x.id=y.id):x=y:=by
 have hp:=K.g.rs;rw[K.m]at hp;have hp:=TB.1 (Ux.1 hp);obtain⟨i,hi,rfl⟩:=Tc hx;obtain⟨j,hj,rfl⟩:=Tc hy;rcases UD i j with c|c|c
 .have:=hp i j hi hj c;simp only at this;omega
 .subst c;rfl
 .have:=hp j i hj hi c;simp only at this;omega
theorem CkF.res(K:CkF F l E c)(h:EI n F r s l E)(N:0<=E.con)(nh:E.id+1<=10000000)(q:HS)(p:List Bool)(k:Int):
 CkF F (l++[⟨E.id+1,1,aH E⟩]) (rO E q p k) (qE c (E.id+1) (aH E)):=by
 have R:=h.res N;have O:=h.n9;have G:=h.idz;have e:∀y∈aH E,cF y=true:=λy hy=>V.okL_chk (v:=n) (by omega) (R.chk y hy);have i:∀z∈fB E,∃y∈aP 0 l,gn E.A z=y.id∧av E.A z=y.lits∧1<=y.id∧lk c.m y.id=some y.lits:=λz hz=>by
  obtain⟨y,hy,rfl⟩:=R.hin.2 z hz;obtain⟨H,I⟩:=h.ari.at hy;exact⟨y,hy,I,H,h.ari.ids y hy,rL.lk K.g.rs (K.mem hy)⟩
 have j:eY (aH E)=false:=by
  unfold eY;rw[UE];intro x hx;simp only[fA,S9,Th];rintro⟨⟨_,_⟩,_,w⟩;have h1:=R.neg x hx;have f:=R.neg (-x) w;rw[Vc]at f;exact h.one (e x hx) ⟨f,h1⟩
 have d:∀z∈(fB E).map (gn E.A),1<=z∧z<=10000000∧(lk c.m z).isSome=true:=λz hz=>by
  obtain⟨u,P,rfl⟩:=S8.1 hz;obtain⟨y,hy,o,_,L,t⟩:=i u P;have:=K.g.hi _ (K.mem hy);rw[K.last]at this;rw[o,t];exact⟨L,by dsimp only at this;omega,rfl⟩
 have B:bZ c ((fB E).map (gn E.A))=(fB E).map (av E.A):=by
  unfold bZ;rw[TX];refine UW λz hz=>?_;obtain⟨y,hy,o,J,_,t⟩:=i z hz;simp only[Function.comp,o,t,J,TC]
 have b:fQ ⟨1,E.id+1,aH E,(fB E).map (gn E.A)⟩=true:=by
  unfold fQ;rw[SX rfl];have h1:fj (aH E) 100000=0:=wD (by have:=R.len;omega) e R.nd;have f:gp ((fB E).map (gn E.A)) (-10000000)=true:=by
   unfold gp;rw[Uv (by rw[S7];have:=R.hle;omega),Vu];rw[TU,UE];intro z hz;have:=d z hz;simp only[uO,Um,Th];omega
  simp only[h1,f,decide_true,Bool.and_true,S9,Th];omega
 have D:jK c ((fB E).map (gn E.A))=true:=by
  unfold jK;rw[TE];intro z hz;obtain⟨h1,f,w⟩:=d z hz;have:Cw z=z:=by
   unfold Cw;rw[ao (by omega) (by omega),SU (by omega)]
  rw[this];exact w
 have C:xU c (aH E) ((fB E).map (gn E.A))=0:=by
  have a:mf (aH E)=0:=by
   unfold mf I8;rw[SU,SU (by rw[j];simp)];rw[VL,UE];intro x hx;have ho:=e x hx;have S:=(aY x).1 ho;have:¬aV x<0:=by
    unfold aV c9;rw[SX ho];split<;>omega
   simpa using this
  have Q:(rJ (aH E) ((fB E).map (av E.A))).2=0:=by
   unfold rJ;rw[SX a];exact R.shw
  unfold xU;rw[CD λx hx=>by have:=d x hx;omega];dsimp only;rw[B,Q];simp
 have a:=Gl (s:=⟨1,E.id+1,aH E,(fB E).map (gn E.A)⟩) b rfl (by rw[K.last];dsimp only;omega) j D C;dsimp only at a;obtain⟨M,g2⟩:=K.g.put (id:=E.id+1) (l:=aH E) (by rw[K.last];omega) (by omega);exact{
  run:=by
   have:=K.run.snoc (s:=⟨1,E.id+1,aH E,(fB E).map (gn E.A)⟩) (by rw[a]);rw[a]at this;exact this
  m:=by
   rw[M,K.m,ia,Tu,T4];rfl
  last:=rfl
  dn:=by
   show(c.done||decide ((aH E).length=0))=(E.over||decide ((aH E).length=0));rw[K.dn]
  g:=g2
  may:=λs hs=>by
   rcases Te.1 hs with hs|hs
   .exact K.may s hs
   .rw[TA]at hs;subst hs;exact b}
theorem CkF.red(K:CkF F l E c)(h:EI n F r s l E){ks:List Int}(R:RedOk l E ks)(nh:E.id<=10000000):∃c',CkF F (mh l ks) (nc E ks) c':=by
 by_cases e:ks=[]
 .subst e;exact⟨c,by rw[nc,SX rfl];exact K⟩
 obtain⟨ids,a⟩:∃x,x=ks.map (gn E.A):=⟨_,rfl⟩;have b:∀k∈ks,∃y∈aP 0 l,y.at'=k∧gn E.A k=y.id:=λk hk=>by
  obtain⟨y,hy,e,_⟩:=R.is k hk;exact⟨y,hy,e,by rw[←e];exact(h.ari.at hy).2⟩
 have o:∀y∈aP 0 l,(y.id∈ids↔y.at'∈ks):=λy hy=>by
  rw[a,S8];constructor
  .rintro⟨k,hk,e⟩;obtain⟨z,hz,D,q⟩:=b k hk;have:=K.one hz hy (by rw[←q,e]);rw[←this,D];exact hk
  .intro hk;exact⟨_,hk,(h.ari.at hy).2⟩
 have hin:∀x∈ids,1<=x∧x<=10000000∧(lk c.m x).isSome=true:=λx hx=>by
  rw[a]at hx;obtain⟨k,hk,rfl⟩:=S8.1 hx;obtain⟨y,hy,_,q⟩:=b k hk;have t:=K.mem hy;have h1:=K.g.lo _ t;have f:=K.g.hi _ t;rw[K.last]at f;dsimp only at h1 f;rw[q,rL.lk K.g.rs t];exact⟨h1,by omega,rfl⟩
 have u:ids.Nodup:=by
  rw[a];refine Ux.2 (R.nd.imp_of_mem λ{H I} h1 f v e=>v ?_);obtain⟨N,G,B,b1⟩:=b H h1;obtain⟨O,g2,C,b2⟩:=b I f;rw[←B,←C,K.one G g2 (by rw[←b1,←b2,e])]
 have i:dropB c ids=false:=(Am λx hx=>by have:=hin x hx;omega).2 ⟨u,λx hx=>(hin x hx).2.2⟩;have j:=h.idz;have d:fQ ⟨2,E.id,[],ids⟩=true:=by
  unfold fQ;rw[SU (by dsimp only;decide),SX rfl];have f:gp ids 1=true:=by
   unfold gp;rw[Uv (by rw[a,S7];exact R.few),Vu];rw[TU,UE];intro z hz;have:=hin z hz;simp only[uO,Um,Th];omega
  simp only[f,Bool.and_true,S9,Th];exact⟨j.1,nh,rfl⟩
 have p:dY c ⟨2,E.id,[],ids⟩=(⟨ids.foldl dl c.m,c.last,c.done⟩,0):=by
  unfold dY;rw[SU (by rw[mS,SX d];simp),SX rfl];unfold tO v8 tN;dsimp only;rw[SU (by rw[i];simp),SU (by rw[i];simp),Tw]
 obtain⟨_,J,_,w,_,_,_,L,_⟩:=qf ks {E with pf:=E.pf++[⟨2,E.id,[],ids⟩]};refine⟨⟨ids.foldl dl c.m,c.last,c.done⟩,?_⟩;rw[nc,SU e,←a];generalize List.foldl iz _ ks=M at*;exact{
  run:=by
   have:=K.run.snoc (s:=⟨2,E.id,[],ids⟩) (by rw[p]);rw[p]at this;rw[w];exact this
  m:=by
   dsimp only;rw[A7 ids K.g.rs,wJ,K.m,List.filter_map];congr 1;refine Xo λy hy=>?_;simp only[Function.comp,decide_eq_decide];exact not_congr (o y hy)
  last:=by rw[L];exact K.last
  dn:=by rw[J];exact K.dn
  g:=K.g.drop ids
  may:=λs hs=>by
   rw[w]at hs;rcases Te.1 hs with hs|hs
   .exact K.may s hs
   .rw[TA]at hs;subst hs;exact d}
end
structure Alk (E E':ES):Prop where
  pf:E'.pf=E.pf
  mn:E'.many=E.many
  vr:E'.vars=E.vars
  cs:E'.cs=E.cs
  kp:E'.keep=E.keep
  id:E'.id=E.id
  ov:E'.over=E.over
structure SP (n M:Nat) (F:List (List Int)) (bg:Int) (E:ES) (l:List Rc) (c:Nat):Prop where
  I:EI n F (M+1 -c) ((M+1 -c)*(n+3)) l E
  mn:E.many=c
  cap:c<=M
  cb:(c:Int)<=bg
  vr:E.vars=n
  fm:E.cs=F
  pfs:∀x∈E.pf,x.lits.length<=1000000∧x.hints.length<=1000000
  lz:l.length<=F.length+c
  idz:E.id=F.length+c
  cl:∀d∈F,∃y∈aP 0 l,y.lits=d∧y.id<=F.length
  sd:∀x∈l,x.side=1->(F.length:Int)<x.id
  lf:(l.filter λx=>decide (x.side=1)).length<=c
  kp:100<=E.keep
  pe:c<=100->E.pf.length=c
  ck:∃k,CkF F l E k
  ov:E.over=true->c=0->[]∈F
  zz:O9 n F->c=0∨E.over=true
section
variable {n M c : Nat} {F : List (List Int)} {bg : Int} {E E' : ES} {l : List Rc}
theorem SP.hcl(P:SP n M F bg E l c):∀d∈F,d∈rC l:=λd hd=>by
 obtain⟨y,hy,e,_⟩:=P.cl d hd;rw[←e];exact UX hy
theorem CkF.same{k:Ck}(K:CkF F l E k)(A:Alk E E'):CkF F l E' k:=⟨by rw[A.pf];exact K.run,K.m,by rw[A.id];exact K.last,by rw[A.ov];exact K.dn,K.g,by rw[A.pf];exact K.may⟩
theorem SP.to(P:SP n M F bg E l c)(A:Alk E E')(I:EI n F (M+1 -c) ((M+1 -c)*(n+3)) l E'):SP n M F bg E' l c:=
 {P with
  I:=I
  mn:=A.mn.trans P.mn,vr:=A.vr.trans P.vr,fm:=A.cs.trans P.fm
  pfs:=by rw[A.pf];exact P.pfs
  idz:=A.id.trans P.idz
  kp:=by rw[A.kp];exact P.kp
  pe:=by rw[A.pf];exact P.pe
  ck:=by obtain⟨k,K⟩:=P.ck;exact⟨k,K.same A⟩
  ov:=by rw[A.ov];exact P.ov
  zz:=by rw[A.ov];exact P.zz}
theorem SP.res(P:SP n M F bg E l c){q:HS}{p:List Bool}{k:Int}(i:F.length<=1000000)(j:M<=1000000)(a:0<=E.con)(m:(c:Int)<bg)(f:c+1<=M)(I:EI n F (M+1 -(c+1)) ((M+1 -(c+1))*(n+3)) (l++[⟨E.id+1,1,aH E⟩]) (rO E q p k)):SP n M F bg (rO E q p k) (l++[⟨E.id+1,1,aH E⟩]) (c+1):=by
 have R:=P.I.res a;have b:=R.len;have hle:=R.hle;have g:=P.I.n9;have nh:=P.idz;exact{
  I:=I
  mn:=by show E.many+1=_;rw[P.mn];omega
  cap:=f
  cb:=by omega
  vr:=P.vr
  fm:=P.fm
  pfs:=λx hx=>by
   rcases Te.1 hx with hx|hx
   .exact P.pfs x hx
   .simp at hx;subst hx;exact⟨by show(aH E).length<=_;omega,by simp;omega⟩
  lz:=by have:=P.lz;simp;omega
  idz:=by show E.id+1=_;omega
  cl:=λd hd=>by
   obtain⟨y,hy,h⟩:=P.cl d hd;refine⟨y,?_,h⟩;rw[ia];exact Up _ hy
  sd:=λx hx=>by
   rcases Te.1 hx with hx|hx
   .exact P.sd x hx
   .simp at hx;subst hx;intro _;dsimp only;omega
  lf:=by
   have:=P.lf;rw[Uu];simp;omega
  kp:=P.kp
  pe:=λh=>by
   have:=P.pe (by omega);show(E.pf++[_]).length=_;simp;omega
  ck:=by
   obtain⟨o,K⟩:=P.ck;exact⟨_,K.res P.I a (by omega) q p k⟩
  ov:=λ_ e=>by omega
  zz:=λz=>by
   right;show(E.over||decide ((aH E).length=0))=true;rw[Fc P.I P.hcl a z];simp}
theorem MV(E:ES)(ks:List Int):(nc E ks).T=E.T∧Alk {E with pf:=(nc E ks).pf} (nc E ks)∧((nc E ks).pf=E.pf∨(ks≠[]∧(nc E ks).pf=E.pf++[⟨2,E.id,[],ks.map (gn E.A)⟩])):=by
 unfold nc
 by_cases e:ks=[]
 .rw[SX e];exact⟨rfl,⟨rfl,rfl,rfl,rfl,rfl,rfl,rfl⟩,.inl rfl⟩
 .rw[SU e];obtain⟨a,b,j,c,d,f,g,h,i⟩:=qf ks {E with pf:=E.pf++[⟨2,E.id,[],ks.map (gn E.A)⟩]};exact⟨a,⟨rfl,d,f,g,i,h,b⟩,.inr ⟨e,c⟩⟩
theorem uD:∀(l:List Rc)(p:Nat)(k:Int),(∀x∈eu k p l,x.side=1->x∈l)∧((eu k p l).filter λx=>decide (x.side=1)).length<=(l.filter λx=>decide (x.side=1)).length
 |[],_,_=>⟨λx hx=>absurd hx V6,SY _⟩
 |z::l,p,k=>by
  obtain⟨h1,a⟩:=uD l (p+z.sz) k;rw[eu];constructor
  .intro x hx hs;rcases Tx.1 hx with rfl|hx
   .split at hs
    .cases hs
    .rename_i e;rw[SU e];exact To
   .exact Tl _ (h1 x hx hs)
  .rw[TO,TO]
   by_cases e:(p:Int)=k
   .rw[SX e,SU (by simp)];split
    .simp;omega
    .exact a
   .rw[SU e];split
    .simp;omega
    .exact a
theorem uE:∀(ks:List Int)(l:List Rc),(∀x∈mh l ks,x.side=1->x∈l)∧((mh l ks).filter λx=>decide (x.side=1)).length<=(l.filter λx=>decide (x.side=1)).length
 |[],l=>⟨λx hx _=>hx,SY _⟩
 |k::ks,l=>by
  obtain⟨h1,a⟩:=uE ks (eu k 0 l);obtain⟨b,c⟩:=uD l 0 k;exact⟨λx hx hs=>b x (h1 x hx hs) hs,TD a c⟩
theorem SP.red(P:SP n M F bg E l c)(u:F.length<=1000000)(v:M<=1000000){ks:List Int}(R:RedOk l E ks)(I:EI n F (M+1 -c) ((M+1 -c)*(n+3)) (mh l ks) (nc E ks)):SP n M F bg (nc E ks) (mh l ks) c∧(nc E ks).pf.length<=E.pf.length+1:=by
 obtain⟨_,A,hp⟩:=MV E ks;obtain⟨r,s⟩:=uE ks l;have nh:=P.idz;refine⟨?_,by rcases hp with e|⟨_,e⟩<;>rw[e]<;>simp⟩;exact{
  I:=I
  mn:=A.mn.trans P.mn
  cap:=P.cap
  cb:=P.cb
  vr:=A.vr.trans P.vr
  fm:=A.cs.trans P.fm
  pfs:=λx hx=>by
   rcases hp with e|⟨_,e⟩
   .rw[e]at hx;exact P.pfs x hx
   .rw[e]at hx;rcases Te.1 hx with hx|hx
    .exact P.pfs x hx
    .simp at hx;subst hx;have:=R.few;exact⟨by simp,by simp;omega⟩
  lz:=by rw[A8];exact P.lz
  idz:=A.id.trans P.idz
  cl:=λd hd=>by
   obtain⟨y,hy,e,hi⟩:=P.cl d hd;refine⟨y,uC.2 ⟨hy,λq=>?_⟩,e,hi⟩;obtain⟨z,hz,p,_,i⟩:=R.is _ q;have j:=Kw hz hy p;subst j;obtain⟨a,x,b,m,_,o⟩:=nE l 0 z hz;have hs:x.side=1:=by
    unfold oZ at i;simp only[S9,Th]at i;have f:=i.2;rw[P.I.ari.row,o]at f;have g:=(sm a x b).2.2.1;rw[←m]at g;dsimp only at f;rw[T4,Uc,g]at f;exact f
   have:=P.sd x (by rw[m];simp) hs;rw[o]at hi;dsimp only at hi;omega
  sd:=λx hx hs=>P.sd x (r x hx hs) hs
  lf:=TD s P.lf
  kp:=by rw[A.kp];exact P.kp
  pe:=λh=>by
   have h1:=E8 (A:=E.A) l [] (by rw[TI];exact P.I.ari.row);have f:=P.lf;have g:(((rA l).filter (oZ E.A)).length)<=(l.filter λx=>decide (x.side=1)).length:=h1;have t:=P.kp;have:=R.kp (by omega);rcases hp with e|⟨e,_⟩
   .rw[e];exact P.pe h
   .exact absurd this e
  ck:=by
   obtain⟨k,K⟩:=P.ck;exact K.red P.I R (by have:=P.cap;omega)
  ov:=by rw[A.ov];exact P.ov
  zz:=by rw[A.ov];exact P.zz}
abbrev GX(n:Nat)(F:List (List Int))(budget:Int)(k:Int)(c:Nat)(m:PV)(pf:List Stp):Prop:=c<=budget∧(c<=100->pf.length=c)∧
  ((k = 1 ∧ ∃ a : List Bool, m = .seq true 1 (de a) ∧ a.length = n ∧ ∀ d ∈ F, cI d a = true) ∨
   (k=2∧m=.lit (.slice none 0 0)∧O7 F []∧(c=0->[]∈F)∧pf.length<=4001∧∃e,m8 (lK F) pf e∧e.done=true∧∀s∈pf,fQ s=true)∨
   (k=3∧m=.lit (.slice none 0 0)∧budget<=c∧(O9 n F->c=0∧O7 F [])))
def Q9(n:Nat)(F:List (List Int))(budget:Int)(y:SV):Prop:=∃(k:Int)(c:Nat)(m:PV)(pf:List Stp),y=.pv (fq k c m pf)∧GX n F budget k c m pf
end
section
variable {n M : Nat} {F : List (List Int)} {h : List (List SV)} {be bt ba bw bh : Nat} {mp : List (Int × Nat)} {mb : List (Int × By)} {E : ES} {l : List Rc}
set_option maxRecDepth 16000 in
set_option maxHeartbeats 1000000 in
theorem A9(unit budget:Int)(L:LayE h be bt ba bw bh mp mb E)(P:SP n M F budget E l 0)(ao:E.pf=[])(hM:M<=2000)(hu:1<=unit∧unit<=1000000)(hB:budget<=M)(aL:F.length<=100)(aw:∀c∈F,c.length<=1000000):
 aA Tryz.prog 72 [.ptr be 0,ab unit,ab budget] h (λy h'=>Q9 n F budget y∧Ext h h' (cO be bt ba bw bh mp mb) (λb=>cO be bt ba bw bh mp mb b∨h.length<=b)):=by
 refine cQ [] [.cell 6 _] aD Tryz.func72 ?_;have kN:=Fa 0 unit (by omega) hu;obtain⟨rb,Q⟩:∃x:List SV,x=[.pv (.lit (.int .i64 0)),.pv (.lit (.int .i64 0)),.pv (.lit (.slice none 0 0)),.pv (.lit (.slice none 0 0))]:=⟨_,rfl⟩;simp;refine am.intro (C6 _ be) ?_;rintro _ _ ⟨rfl,rfl⟩;simp;refine ai.introR kN ?_;rintro _ ⟨a0,rfl,aM⟩;refine⟨by simp,?_⟩;simp;have m:=λb (hd:cO be bt ba bw bh mp mb b)=>L.dlt hd;obtain⟨V,s⟩:∃V:List (List SV),V=h++[rb,[.pv (.ptr be 0)]]:=⟨_,rfl⟩;have ar:V[h.length]?=some rb:=by rw[s];simp
 have au:V[h.length+1]?=some [.pv (.ptr be 0)]:=by rw[s];simp
 have aG:V.length=h.length+2:=by rw[s];simp
 have v:∀(H:List (List SV))(mp':List (Int×Nat))(mb':List (Int×By))(y:List SV),Ext V H (cO be bt ba bw bh mp mb) (cO be bt ba bw bh mp' mb')->Ext h (H.set h.length y) (cO be bt ba bw bh mp mb) (λb=>cO be bt ba bw bh mp mb b∨h.length<=b):=λH mp' mb' y X=>by
  have:=X.len;refine⟨by rw[Tt];omega,λb hb d=>?_,λb hb d=>d.resolve_right (by omega)⟩;rw[Tj (by omega),X.same b (by omega) d,s,SZ hb]
 refine ax.intro (S:=λ(x:List (List SV)×List (Int×Nat)×List (Int×By)×ES×List Rc×Int×Nat)=>⟨[(0,.pv (.ptr be 0)),(1,.pv (ab unit)),(2,.pv (ab budget)),(6,.pv (.ptr h.length 0)),(7,.pv (.fn (.func 213) [] [.ptr (h.length+1) 0])),(8,.pv (ab x.2.2.2.2.2.1))],x.1⟩)
  (λx=>LayE x.1 be bt ba bw bh x.2.1 x.2.2.1 x.2.2.2.1∧SP n M F budget x.2.2.2.1 x.2.2.2.2.1 x.2.2.2.2.2.2∧Ext V x.1 (cO be bt ba bw bh mp mb) (cO be bt ba bw bh x.2.1 x.2.2.1)∧x.2.2.2.1.pf.length+(if x.2.2.2.2.2.1<=x.2.2.2.2.2.2 then 1 else 0)<=2*x.2.2.2.2.2.2+1)
  (λx=>(M+1 -x.2.2.2.2.2.2)*(2*n+5)+(if x.2.2.2.2.2.1<=x.2.2.2.2.2.2 then n+2 else 0)+(n -x.2.2.2.1.T.lits.length))
  (V,mp,mb,E,l,a0,0) ?_ ⟨by rw[s];exact L.app _,P,Ext.refl _ _,by dsimp only;rw[ao,SU (by omega)];simp⟩ ?_
 .rw[s,Q];exact ah.keep (by simp) rfl
 clear P L ao;rintro⟨H,mp',mb',E,l,a,c⟩ ⟨L,P,X,A⟩;dsimp only at L P X A;have Y:=P.I;have aP:=Y.n9;have aO:=Y.tok.few;have ae:H[h.length]?=some rb:=(X.same _ (by omega) (λd=>by have:=m _ d;omega)).trans ar;have G:H[h.length+1]?=some [.pv (.ptr be 0)]:=(X.same _ (by omega) (λd=>by have:=m _ d;omega)).trans au;obtain⟨N,O⟩:=SQ.1 ae;have aI:=P.cap;have u:E.pf.length<=1000000:=by omega
 have az:=P.mn;simp;refine am.intro (Ky L.e) ?_;rintro _ H ⟨rfl,rfl⟩;cases ho:E.over
 rotate_left
 .simp;refine am.intro (m9 L.e G 2 (.lit (.slice none 0 0)) (.inl rfl) u P.pfs) ?_;rintro _ H ⟨rfl,rfl⟩;obtain⟨ck,K⟩:=P.ck;simp[fq,N,O,Q];refine⟨⟨2,c,_,E.pf,?_,P.cb,P.pe,.inr (.inl ⟨rfl,rfl,Y.ended ho,P.ov ho,by omega,ck,K.run,K.dn.trans ho,K.may⟩)⟩,v H mp' mb' _ X⟩;simp[fq,az]
 simp;refine am.intro (Kz L Y.wok Y.tok) ?_;rintro _ C ⟨rfl,U,D,X1⟩;have t:o5 E={E with S:=(fo E.S E.T).1,T:=(fo E.S E.T).2.1,con:=(fo E.S E.T).2.2,calm:=decide ((fo E.S E.T).2.2<0)}:=by unfold o5;rw[SU (by simp[ho])]
 have aq:=(JW Y.wok Y.tok).grow.pre.1.length_le;have i:SP n M F budget (o5 E) l c:=P.to (by rw[t];exact⟨rfl,rfl,rfl,rfl,rfl,rfl,rfl⟩) Y.prps;have af:(o5 E).T=(fo E.S E.T).2.1:=by rw[t]
 have ad:(o5 E).pf=E.pf:=by rw[t]
 have w:(o5 E).over=false:=by rw[t];exact ho
 have aj:(o5 E).calm=decide ((o5 E).con<0):=by rw[t]
 replace X:=X.trans X1;rw[←af]at aq;rw[←ad]at A u;clear t af ad;generalize aK:o5 E=f at*;have g:=i.I;have aJ:=g.tok.few;have aa:=i.mn;have ae:C[h.length]?=some rb:=(X.same _ (by omega) (λd=>by have:=m _ d;omega)).trans ar;have G:C[h.length+1]?=some [.pv (.ptr be 0)]:=(X.same _ (by omega) (λd=>by have:=m _ d;omega)).trans au;obtain⟨N,O⟩:=SQ.1 ae
 by_cases Z:f.con<0
 rotate_left
 .have j:f.calm=false:=by rw[aj];exact UP Z
  simp[ho,j];refine am.intro (nF D.e) ?_;rintro _ C ⟨rfl,rfl⟩
  by_cases ag:budget<=f.many
  .simp[ag];refine am.intro (m9 D.e G 3 (.lit (.slice none 0 0)) (.inl rfl) u i.pfs) ?_;rintro _ C ⟨rfl,rfl⟩;simp[fq,N,O,Q];refine⟨⟨3,c,_,f.pf,?_,P.cb,i.pe,.inr (.inr ⟨rfl,rfl,by omega,λz=>⟨(i.zz z).resolve_right (by simp[w]),by have:=(g.res (by omega)).ent;rwa [Fc g i.hcl (by omega) z]at this⟩⟩)⟩,v C mp' U _ X⟩;simp[fq,aa]
  .simp[ag];have an:c+1<=M:=by omega
   have B:M+1 -c=(M+1 -(c+1))+1:=by omega
   have J:=g;rw[B,UR]at J;refine am.intro (A0 D J w (by omega) u (by omega)) ?_;rintro _ H2 ⟨rfl,aE,q,p,k,L2,X2,I2⟩;have W:=i.res (by omega) (by omega) (by omega) (by omega) an I2;have aB:(rO f q p k).pf.length=f.pf.length+1:=by show(f.pf++[_]).length=_;simp
   have o:=W.I.tok.few;generalize rO f q p k=E2 at*;simp;refine⟨(H2,aE,U,E2,l++[⟨f.id+1,1,aH f⟩],a,c+1),?_,⟨L2,W,X.trans X2,?_⟩,ah.keep (by simp) rfl⟩
   .dsimp only;have ak:(M+1 -c)*(2*n+5)=(M+1 -(c+1))*(2*n+5)+(2*n+5):=by rw[B,UR]
    rw[ak];generalize(M+1 -(c+1))*(2*n+5)=K;split<;>split<;>omega
   .dsimp only;rw[aB];split at A<;>split<;>omega
 .have j:f.calm=true:=by rw[aj];exact Uv Z
  simp[ho,j];refine am.intro (nF D.e) ?_;rintro _ C ⟨rfl,rfl⟩
  by_cases ha:a<=f.many
  .simp[ha];refine am.intro (nF D.e) ?_;rintro _ C ⟨rfl,rfl⟩;simp;refine ai.introR (Fa f.many unit (by omega) hu) ?_;rintro _ ⟨a2,rfl,aN⟩;refine⟨by simp,?_⟩;simp;refine am.intro (AT D g.tok g.hp g.ph) ?_;rintro _ H2 ⟨rfl,⟨e,_⟩|⟨_,q,p,L2,X2,hq,hp,hin⟩⟩
   .rw[w]at e;cases e
   have W := i.to (E' := { f with T := eW f.T 0, q := q, ph := p, con := -1, calm := false }) ⟨rfl, rfl, rfl, rfl, rfl, rfl, rfl⟩ (g.again q hq p hp hin); have r : ({ f with T := eW f.T 0, q := q, ph := p, con := -1, calm := false } : ES).pf = f.pf := rfl; generalize ({ f with T := eW f.T 0, q := q, ph := p, con := -1, calm := false } : ES) = E2 at *; have J := W.I; have k4 := Db L2 J (by rw [r]; exact u) (by
    have h1:=p9 l 0;have h2:=W.lz;unfold rA;rw[S7];omega)
   simp;refine am.intro k4 ?_;rintro _ H3 ⟨⟨z,rfl⟩,ks,aF,aC,R,L3,X3,I3⟩;obtain⟨P3,h3⟩:=W.red (by omega) (by omega) R I3;simp;refine⟨(H3,aF,aC,nc E2 ks,mh l ks,a2,c),?_,⟨L3,P3,(X.trans X2).trans X3,?_⟩,ah.keep (by simp) rfl⟩
   .dsimp only;rw[SU (by omega),SX (by omega)];omega
   .dsimp only;rw[r]at h3;rw[SX (by omega)]at A;rw[SU (by omega)];omega
  .simp[ha];have kM:=GS D g.tok i.vr (by rw[i.fm];omega) (by rw[i.fm];exact aw);refine am.intro kM ?_;rintro _ C ⟨rfl,rfl⟩;cases hm:AZ f n
   rotate_left
   .simp;refine am.intro (m9 D.e G 1 (.seq true 1 (de (jd f.T.lits n))) (.inr ⟨_,rfl⟩) u i.pfs) ?_;rintro _ C ⟨rfl,rfl⟩;simp[fq,N,O,Q];refine⟨⟨1,c,_,f.pf,?_,P.cb,i.pe,.inl ⟨rfl,jd f.T.lits n,rfl,by simp[jd],?_⟩⟩,v C mp' U _ X⟩
    .simp[fq,aa]
    .unfold AZ at hm;rw[i.fm]at hm;simp only[S9,Th]at hm;exact hm.2.2.2
   .simp;refine am.intro (C2 D g.tok g.hp g.ph) ?_;rintro _ H2 ⟨E2,b,rfl,hd,L2,X2⟩;have I2:=g.decs hd;rcases hd with⟨hx,_,_⟩|⟨_,hcl,q,hq,⟨rfl,x,hx,rfl,hin⟩|⟨rfl,rfl,hr,hin⟩⟩
    .rcases hx with hx|hx
     .rw[w]at hx;cases hx
     .rw[j]at hx;cases hx
    .have W:=i.to (E':={f with T:=ig f.T x,calm:=false,q:=q}) ⟨rfl,rfl,rfl,rfl,rfl,rfl,rfl⟩ I2;have av:(ig f.T x).lits=f.T.lits++[x]:=by
      unfold ig;rw[SX hx];rfl
     have o:=I2.tok.few;dsimp only at o;rw[av,Ta]at o;simp only[Ty,List.length_nil]at o;have r:({f with T:=ig f.T x,calm:=false,q:=q}:ES).pf=f.pf:=rfl;have ay:({f with T:=ig f.T x,calm:=false,q:=q}:ES).T.lits.length=f.T.lits.length+1:=by dsimp only;rw[av];simp
     generalize({f with T:=ig f.T x,calm:=false,q:=q}:ES)=E2 at*;simp;refine⟨(H2,mp',U,E2,l,a,c),?_,⟨L2,W,X.trans X2,by dsimp only;rw[r];exact A⟩,ah.keep (by simp) rfl⟩;dsimp only;rw[ay];generalize(M+1 -c)*(2*n+5)=K;split<;>omega
    .have:=g.model w j (g.full hin) (by rw[i.fm];exact i.hcl);rw[hm]at this;cases this
end
theorem SP.new{n M:Nat}{cs:List (List Int)}{kp budget:Int}{E:ES}{l:List Rc}(I:EI n cs (M+1) ((M+1)*(n+3)) l E)(N:NewOk n cs kp E l cs)(k:cs.length<=100000)(j:0<=budget):SP n M cs budget E l 0:=by
 have a:(aP 0 l).map (λy=>(y.id,y.lits))=cs.mapIdx λi c=>(((i+1:Nat):Int),c):=(sr l 0 λx hx=>by rw[N.side x hx];decide).trans N.num;have b:∀x∈l,x.side≠1:=λx hx=>by rw[N.side x hx];decide
 have m:(l.filter λx=>decide (x.side=1))=[]:=by
  rw[US];intro x hx;simp[N.side x hx]
 exact{
  I:=I
  mn:=N.many
  cap:=Tf _
  cb:=j
  vr:=N.vars
  fm:=N.cs
  pfs:=by rw[N.pf];simp
  lz:=by have:=Vm List.length N.num;simp at this;omega
  idz:=by rw[N.id];simp
  cl:=λd hd=>by
   obtain⟨i,hi,rfl⟩:=Tc hd;have:(((i+1:Nat):Int),cs[i])∈(aP 0 l).map λy=>(y.id,y.lits):=by
    rw[a,List.mem_mapIdx];exact⟨i,hi,rfl⟩
   obtain⟨y,hy,e⟩:=S8.1 this;obtain⟨f,g⟩:=XW e;exact⟨y,hy,g,by rw[f];omega⟩
  sd:=λx hx h=>absurd h (b x hx)
  lf:=by rw[m];exact Tf _
  kp:=by rw[N.keep];exact KN kp
  pe:=λ_=>by rw[N.pf];rfl
  ck:=⟨_,(CkE.new k N.num N.side N.id N.pf).to I⟩
  ov:=λh _=>by
   obtain⟨x,hx,e⟩:=I.ovr.1 h;rw[←e,←N.rc];exact UX hx
  zz:=λ_=>.inl rfl}
end Go.AX
namespace Go.AX
set_option maxRecDepth 16000
open Go.Proofs
set_option maxHeartbeats 1000000 in
theorem Dc(h:List (List SV))(n:Nat)(cs:List (List Int))(rs kp o budget:Int)(hn:n<=12)(A:cs.length<=100)(hcl:∀c∈cs,c.length<=50)(hk:(cH n cs).2=0)(f:0<=budget∧budget<=2000):
 aA Tryz.prog 28 [.agg [ab n,.seq false 1 (cs.map aq)],.agg [ab rs,ab kp,ab o],ab budget] h (λy h'=>(∃r,y=.pv (.tup [r,ab 0])∧Q9 n cs budget (.pv r))∧Ext h h' (λ_=>False) (λb=>h.length<=b)):=by
 refine cQ [] [.cell 6 _,.tmp 7] aD Tryz.func28 ?_;have a:∀c∈cs,c.length<=1000000:=λc S=>by have:=hcl c S;omega
 have x:¬budget<0:=by omega
 have z:¬1000000<budget:=by omega
 obtain⟨M,Z⟩:=Uo f.1;have T:(M+1)*(n+3)<=2001*15:=XJ (by omega) (by omega);obtain⟨G,i⟩:∃G:List (List SV),G=h++[[.pv (ab n),.pv (.seq false 1 (cs.map aq))],[.pv (ab rs),.pv (ab kp),.pv (ab o)],[.pv (.lit (.int .i64 0)),.pv (.lit (.int .i64 0)),.pv (.lit (.slice none 0 0)),.pv (.lit (.slice none 0 0))]]:=⟨_,rfl⟩;have P:=MO G n (by omega) cs rs kp o (by omega) a hk (r:=M+1) (s:=(M+1)*(n+3)) (by omega) (by omega);have R:G.length=h.length+3:=by rw[i];simp
 have g0:G[h.length]?=some [.pv (ab n),.pv (.seq false 1 (cs.map aq))]:=by rw[i];simp
 have F:G[h.length+1]?=some [.pv (ab rs),.pv (ab kp),.pv (ab o)]:=by rw[i];simp
 have g2:G[h.length+2]?=some [.pv (.lit (.int .i64 0)),.pv (.lit (.int .i64 0)),.pv (.lit (.slice none 0 0)),.pv (.lit (.slice none 0 0))]:=by rw[i];simp
 simp[x,z];rw[←i];obtain⟨l0,u⟩:=SQ.1 g0;obtain⟨l1,v⟩:=SQ.1 F;refine ai.introM P ?_;clear P;rintro _ H ⟨be,bt,ba,bw,bh,mp,E,l,rfl,L,X,I,N⟩;have K:=X.len;have h0:=(X.same h.length (by omega) (λe=>e)).trans g0;have h1:=(X.same (h.length+1) (by omega) (λe=>e)).trans F;have J:=(X.same (h.length+2) (by omega) (λe=>e)).trans g2;obtain⟨k0,u⟩:=SQ.1 h0;obtain⟨O,v⟩:=SQ.1 h1;obtain⟨j,g⟩:=SQ.1 J;have p:∀b,b<G.length->¬cO be bt ba bw bh mp [] b:=λb f d=>X.sub b f d;simp[k0,O,j,u,v,g];refine ai.intro (qa rs kp o) ?_;simp[k0,O,j,u,v,g];refine am.intro (A9 (h:=H) (ku rs) budget L (SP.new I N (by omega) f.1) N.pf (by omega) (KO rs) (by omega) A a) ?_;rintro r Q ⟨⟨k,c,m,pf,rfl,C,D,W⟩,t⟩;have B:=t.len;have U:=(t.same (h.length+2) (by omega) (p _ (by omega))).trans J;obtain⟨j,g⟩:=SQ.1 U;have w:∀y,Ext h (Q.set (h.length+2) y) (λ_=>False) (λb=>h.length<=b):=λy=>by
  refine⟨by rw[Tt];omega,λb f _=>?_,λb f d=>by omega⟩;rw[Tj (by omega),t.same b (by omega) (p b (by omega)),X.same b (by omega) (λe=>e),i,SZ f]
 rcases W with⟨rfl,V,rfl,q,Y⟩|⟨rfl,rfl,q⟩|⟨rfl,rfl,q⟩
 .simp[fq,j,g];exact⟨⟨1,c,_,pf,rfl,C,D,.inl ⟨rfl,V,rfl,q,Y⟩⟩,w _⟩
 .simp[fq,j,g];exact⟨⟨2,c,_,pf,rfl,C,D,.inr (.inl ⟨rfl,rfl,q⟩)⟩,w _⟩
 .simp[fq,j,g];exact⟨⟨3,c,_,pf,rfl,C,D,.inr (.inr ⟨rfl,rfl,q⟩)⟩,w _⟩
theorem jE(n:Nat)(cs:List (List Int))(rs kp b budget:Int)(hn:n<=12)(a:cs.length<=100)(hcl:∀c∈cs,c.length<=50)(hk:(cH n cs).2=0)(d:0<=budget∧budget<=2000):
 aj Tryz.prog 28 [.agg [ab n,.seq false 1 (cs.map aq)],.agg [ab rs,ab kp,ab b],ab budget] (λy=>∃(k:Int)(c:Nat)(m:PV)(pf:List Stp),y=.pv (.tup [fq k c m pf,ab 0])∧GX n cs budget k c m pf):=by
 refine aA.pure ((Dc [] n cs rs kp b budget hn a hcl hk d).mono ?_);rintro _ _ ⟨⟨_,rfl,k,c,m,pf,e,h⟩,_⟩;cases e
 exact⟨_,rfl,k,c,m,pf,rfl,h⟩
def SA(n:Nat)(cs:List (List Int))(budget:Int)(y:SV):Prop:=∃(k:Int)(c:Nat)(m:PV)(pf:List Stp),GX n cs budget k c m pf∧y=.pv (.tup [BL (decide (k=1)),ab (if k=3 then 50 else 0)])
theorem Dd(n:Nat)(cs:List (List Int))(budget:Int)(hn:n<=12)(b:cs.length<=100)(hcl:∀c∈cs,c.length<=50)(hk:(cH n cs).2=0)(d:0<=budget∧budget<=2000):
 aj Tryz.prog 38 [.agg [ab n,.seq false 1 (cs.map aq)],ab budget] (SA n cs budget):=by
 refine iO [] [.tmp 4,.tmp 5] aD Tryz.func38 ?_;have f:=jE n cs 50 500 5 budget hn b hcl hk d;simp;refine ai.introR f ?_;rintro _ ⟨k,c,m,pf,rfl,h⟩;rcases h.2.2 with⟨e,g,a,_⟩|⟨e,a,_⟩|⟨e,a,_⟩
 .subst e a;refine⟨by simp[fq],?_⟩;simp[fq];exact⟨1,c,_,pf,h,rfl⟩
 .subst e a;refine⟨by simp[fq,tZ],?_⟩;simp[fq];exact⟨2,c,_,pf,h,rfl⟩
 .subst e a;refine⟨by simp[fq],?_⟩;simp[fq];exact⟨3,c,_,pf,h,rfl⟩
section
variable {c : Nat} {k b : Int} {m : PV} {pf : List Stp}
theorem Nr(h:GX 1 [[1],[-1]] 0 k c m pf):k=3∧m=.lit (.slice none 0 0):=by
 obtain⟨d,_,⟨_,b,_,h1,a⟩|⟨_,_,_,h1,_⟩|⟨h1,a,_⟩⟩:=h
 .exact absurd ⟨b,h1,a⟩ KR
 .exact absurd (h1 (by omega)) (by simp)
 .exact⟨h1,a⟩
theorem Ns(h:GX 1 [[1],[-1]] b k c m pf)(j:0<b):k=2∧m=.lit (.slice none 0 0)∧0<c∧(c:Int)<=b∧(c<=100->pf.length=c):=by
 obtain⟨i,d,⟨_,l,_,h1,a⟩|⟨g,f,_,h1,_⟩|⟨_,_,h1,a⟩⟩:=h
 .exact absurd ⟨l,h1,a⟩ KR
 .refine⟨g,f,Nat.pos_of_ne_zero λe=>absurd (h1 e) (by simp),i,d⟩
 .have:=(a Sw).1;omega
theorem Ra(h:GX 2 [[1,2],[-1]] 0 k c m pf):k=1∧m=.seq true 1 (de [false,true]):=by
 obtain⟨b,_,⟨h0,d,e,h1,a⟩|⟨_,_,_,h1,_⟩|⟨_,_,_,h1⟩⟩:=h
 .rw[MR h1 a]at e;exact⟨h0,e⟩
 .exact absurd (h1 (by omega)) (by simp)
 .have:=(h1 Sx).2 [false,true] (by decide);cases this
end
set_option maxHeartbeats 1000000 in
theorem fO:aj Tryz.prog 27 [] (λr=>r=.pv (BL true)):=by
 refine ap aD Tryz.func27 ?_;have f:=λ(b:Int) (d:0<=b∧b<=2000)=>jE 1 [[1],[-1]] 0 0 0 b (by decide) (by decide) (by decide) (by decide) d;have i:=jE 2 [[1,2],[-1]] 0 0 0 0 (by decide) (by decide) (by decide) (by decide) (by decide);have j:=rv 1 [[1],[-1]] 0 0 0 (-1) (by decide) (.inr (.inl (by decide)));have g:=λ(b:Int) (d:0<=b∧b<=2000)=>Dd 1 [[1],[-1]] b (by decide) (by decide) (by decide) (by decide) d;simp;refine ai.intro qb ?_;simp;refine ai.introR (f 0 (by decide)) ?_;rintro _ ⟨k,c,m,o,rfl,h⟩;obtain⟨rfl,rfl⟩:=Nr h;refine⟨by simp[fq],?_⟩;simp[fq];refine ai.intro qb ?_;simp;refine ai.introR (f 1 (by decide)) ?_;rintro _ ⟨k,c1,m,e,rfl,h⟩;obtain⟨rfl,rfl,h1,t,a⟩:=Ns h (by decide);have a:e.length=1:=by have:=a (by omega);omega
 refine⟨by simp[fq,tZ],?_⟩;simp[fq];refine ai.introR i ?_;rintro _ ⟨k,c2,m,p,rfl,h⟩;obtain⟨rfl,rfl⟩:=Ra h;refine⟨by simp[fq],?_⟩;simp[fq];refine ai.intro qb ?_;simp;refine ai.intro j ?_;simp;refine ai.intro qb ?_;simp;refine ai.introR (g 5 (by decide)) ?_;rintro _ ⟨k,c3,m,q,h,rfl⟩;obtain⟨rfl,rfl,_⟩:=Ns h (by decide);refine⟨by simp,?_⟩;simp;refine ai.intro qb ?_;simp;refine ai.introR (g 0 (by decide)) ?_;rintro _ ⟨k,c4,m,s,h,rfl⟩;obtain⟨rfl,rfl⟩:=Nr h;refine⟨by simp,?_⟩;have l:=qa (-3) 0 0;have n:=qa 7 0 0;simp[a];refine bf.intro (λ_=>l) ?_;simp[ku,a];refine bf.intro (λ_=>n) ?_;simp[ku,a]
end Go.AX
namespace Go.AX
open Go.Proofs
theorem Ff:∀{ss:List Stp}{c e:Ck}(i:Nat),m8 c ss e->e.done=true->tU c ss i=(((i+ss.length:Nat):Int),0)
 |[],c,e,i,h,hd=>by
  cases h
  rw[tU,SX hd];rfl
 |s::ss,c,e,i,h,hd=>by
  rw[tU,SU (by simp[h.1]),Ff (i+1) h.2 hd];simp[U4,WP 1]
theorem MW{n:Int}{F:List (List Int)}{ss:List Stp}{e:Ck}(hk:(cH n F).2=0)(h:m8 (lK F) ss e)(hd:e.done=true):Mi n F ss=((ss.length:Int),0):=by
 unfold Mi;rw[SU (by simp[hk]),Ff 0 h hd];simp
theorem MX{s:Stp}(h:fQ s=true):s.lits.length<=100000∧s.hints.length<=1000:=by
 have a:∀lo,gp s.hints lo=true->s.hints.length<=1000:=λlo q=>by
  unfold gp at q;rw[S9,Th]at q;exact q.1
 unfold fQ at h
 by_cases b:s.kind=1
 .rw[SX b]at h;simp only[S9,Th]at h;refine⟨?_,a _ h.2.2.2⟩;have:=h.2.2.1;unfold fj at this;split at this
  .cases this
  split at this
  .cases this
  omega
 .rw[SU b]at h
  by_cases c:s.kind=2
  .rw[SX c]at h;simp only[S9,Th]at h;exact⟨by omega,a _ h.2.2.2⟩
  .rw[SU c]at h;cases h
end Go.AX
namespace Go.AX
set_option maxRecDepth 16000
open Go.Proofs
def MY(v:Int)(cs:List (List Int))(budget:Int):Int:=if budget<0∨1000000<budget then 2 else if(cH v cs).2=0∧900<v then 3 else(cH v cs).2
theorem GY(v:Int)(cs:List (List Int))(budget:Int)(hcl:∀c∈cs,c.length<=1000000):aj Tryz.prog 29 [.agg [ab v,.seq false 1 (cs.map aq)],ab budget] (λr=>r=.pv (ab (MY v cs budget))):=by
 refine ap aD Tryz.func29 ?_;have b:=wd v cs hcl;unfold MY;generalize cH v cs=C at*;obtain⟨a,e⟩:=C;dsimp only at*
 by_cases b1:budget<0
 .simp[b1]
 by_cases b2:1000000<budget
 .simp[b1,b2]
 simp[b1,b2];refine ai.intro b ?_
 by_cases c1:e=0
 .by_cases c2:900<v
  .simp[c1,c2]
  .simp[c1,c2]
 .simp[c1]
section
variable (n : Nat) (cs : List (List Int)) (budget : Int) (c : Nat)
theorem De(a:List Bool)(i:cs.length<=100)(hcl:∀c∈cs,c.length<=50)(k:(c:Int)<=budget)(e:a.length=n)(b:∀d∈cs,cI d a=true):
 aj Tryz.prog 31 [.agg [ab n,.seq false 1 (cs.map aq)],ab budget,.agg [ab 1,ab c,.seq false 1 (de a),.lit (.slice none 0 0)]] (λr=>r=.pv (BL true)):=by
 refine ap aD Tryz.func31 ?_;have f:=GT n cs a (by omega) (λc g=>by have:=hcl c g;omega);have j:jL cs a=-1:=by
  have h:=(t8 cs a).2 b;unfold jL iP at*;split at h
  .omega
  .rfl
 rw[e,j]at f;simp[k];refine ai.intro f ?_;simp
theorem Df(pf:List Stp)(f:cs.length<=100)(hcl:∀c∈cs,c.length<=50)(hk:(cH n cs).2=0)(i:(c:Int)<=budget)(g:pf.length<=4001){e:Ck}(h:m8 (lK cs) pf e)(hd:e.done=true)(a:∀s∈pf,fQ s=true):
 aj Tryz.prog 31 [.agg [ab n,.seq false 1 (cs.map aq)],ab budget,.agg [ab 2,ab c,.lit (.slice none 0 0),.seq false 4 (pf.map dX)]] (λr=>r=.pv (BL true)):=by
 refine ap aD Tryz.func31 ?_;have b:=Gu n cs pf (by omega) (λc d=>by have:=hcl c d;omega) (λs hs=>MX (a s hs));rw[JN n (by omega) pf,MW hk h hd]at b;simp[i];refine ai.intro b ?_;simp
theorem Dg(a:(c:Int)=budget):
 aj Tryz.prog 31 [.agg [ab n,.seq false 1 (cs.map aq)],ab budget,.agg [ab 3,ab c,.lit (.slice none 0 0),.lit (.slice none 0 0)]] (λr=>r=.pv (BL true)):=by
 refine ap aD Tryz.func31 ?_;have b:0<=budget:=by omega
 simp[a,b]
end
set_option maxHeartbeats 1000000 in
theorem uW(v:Int)(cs:List (List Int))(rs kp j budget:Int):
 aj Tryz.prog 6 [.agg [ab v,.seq false 1 (cs.map aq)],.agg [ab rs,ab kp,ab j],ab budget] (λr=>r=.pv (BL true)):=by
 refine ap aD Tryz.func6 ?_;simp;refine ai.intro (KQ v cs) ?_;cases E:A1 v cs
 .simp;refine ai.intro fO ?_;simp
 obtain⟨K,l,g⟩:=KS E;have f:=GY v cs budget λc D=>by have:=g c D;omega
 by_cases h:2000<budget∧budget<=1000000
 .simp[h];refine ai.intro fO ?_;simp
 have A:MY v cs budget=if budget<0∨1000000<budget then 2 else(cH v cs).2:=by
  unfold MY;rw[SU (c:=(cH v cs).2=0∧900<v) (by omega)]
 rw[A]at f;simp[h];intro B
 by_cases hk:(cH v cs).2≠0∨budget<0∨1000000<budget
 .have H:=rv v cs rs kp j budget g hk;have w:(if budget<0∨1000000<budget then 2 else(cH v cs).2)≠0:=by
   split
   .decide
   .rename_i q;exact hk.resolve_right q
  generalize(if budget<0∨1000000<budget then 2 else(cH v cs).2)=e at*;refine ai.intro H ?_;simp;refine ai.intro f ?_;simp[w];refine bf.introK (λ_=>?_) (λe=>absurd trivial e);refine ai.intro fO ?_;simp
 rw[Xy,Xy]at hk;obtain⟨hk,L,C⟩:=hk;replace hk:(cH v cs).2=0:=Ts hk;rw[SU (by omega),hk]at f;have G:0<=v:=by
  apply Ts;intro hn;unfold cH at hk;rw[SX (.inl (by omega))]at hk;cases hk
 obtain⟨n,rfl⟩:=Uo G;have I:=jE n cs rs kp j budget (by omega) l g hk (by omega);have y:=qa rs kp j;have o:(rs<1∧rs<1∧rs<1∧ku rs=1)∨(¬rs<1∧1000000<rs∧¬rs<1∧ku rs=1000000)∨(¬rs<1∧¬1000000<rs∧(1<=rs∧rs<=1000000)∧ku rs=rs):=by
  unfold ku;split<;>split at*<;>omega
 generalize ku rs=u at*;refine ai.introR I ?_;rintro _ ⟨k,c,m,pf,rfl,z,_,⟨rfl,J,rfl,s,p⟩|⟨rfl,rfl,_,_,x,e,F,hd,t⟩|⟨rfl,rfl,M,_⟩⟩
 .have i:=De n cs budget c J l g z s p;refine⟨by simp[fq],?_⟩;simp[fq];refine ai.intro f ?_;simp;refine ai.intro y ?_;simp;refine ai.intro i ?_;rcases o with⟨a,b,d,rfl⟩|⟨a,b,d,rfl⟩|⟨a,b,d,rfl⟩
  all_goals
   simp[a,b,d];refine bf.introK (λ_=>?_) (λe=>absurd trivial e);refine ai.intro fO ?_;simp
 .have i:=Df n cs budget c pf l g hk z x F hd t;refine⟨by simp[fq,tZ],?_⟩;simp[fq];refine ai.intro f ?_;simp;refine ai.intro y ?_;simp;refine ai.intro i ?_;rcases o with⟨a,b,d,rfl⟩|⟨a,b,d,rfl⟩|⟨a,b,d,rfl⟩
  all_goals
   simp[a,b,d];refine bf.introK (λ_=>?_) (λe=>absurd trivial e);refine ai.intro fO ?_;simp
 .have i:=Dg n cs budget c (by omega);refine⟨by simp[fq],?_⟩;simp[fq];refine ai.intro f ?_;simp;refine ai.intro y ?_;simp;refine ai.intro i ?_;rcases o with⟨a,b,d,rfl⟩|⟨a,b,d,rfl⟩|⟨a,b,d,rfl⟩
  all_goals
   simp[a,b,d];refine bf.introK (λ_=>?_) (λe=>absurd trivial e);refine ai.intro fO ?_;simp
end Go.AX