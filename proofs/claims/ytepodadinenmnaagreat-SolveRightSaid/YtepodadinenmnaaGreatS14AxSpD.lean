/-
  Contracts: engines: clauses are forgotten; and what follows.
-/
import Derived.Test.YtepodadinenmnaaGreatS14AxRdB
import Derived.Test.YtepodadinenmnaaGreatAxOw
import Derived.Test.YtepodadinenmnaaGreatS14AxEhC
import Derived.Test.YtepodadinenmnaaGreatS14AxTyA
namespace Go.AX
set_option maxRecDepth 16000
open Go.Proofs
set_option linter.unusedSimpArgs false
def KN:Sch:=
 let j:Sch:=.fork [(17,.done)]
 let e:Sch:=.fork [(14,.take 15 (.take 16 j))]
 let f:Sch:=.fork [(13,e)]
 let d:Sch:=.fork [(12,f)]
 let g:Sch:=.fork [(11,d)]
 let h:Sch:=.fork [(8,d)]
 let k:Sch:=.fork [(8,g),(11,h)]
 let l:Sch:=.fork [(4,e)]
 let m:Sch:=.fork [(4,f),(13,l)]
 let i:Sch:=.fork [(4,d),(12,m)]
 let a:Sch:=.fork [(4,g),(11,i)]
 let b:Sch:=.fork [(4,h),(8,i)]
 let c:Sch:=.fork [(4,k),(8,a),(11,b)]
 .take 0 (.take 1 (.take 2 (.take 3 (.take 5 (.take 6 (.take 7 (.take 9 (.take 10 c))))))))
section
variable {h : List (List SV)} {be bt ba bw bh : Nat} {mp : List (Int × Nat)} {mb : List (Int × By)} {E : ES} {n r s : Nat} {F : List (List Int)} {l : List Rc}
def Sr(r:Nat->Nat->PV)(bt ba bw bh:Nat)(E:ES):PV:=.iptr 17 [(bN bt ba bw bh E).map (frzC r)] 0 0
theorem MQ(a:h[be]?=some (bN bt ba bw bh E))(m:Nat):aZ h (m+1) be 0=Sr (aZ h m) bt ba bw bh E:=by
 rw[aZ,SI,a];rfl
theorem KO(rd:Nat->Nat->PV)(d:rd ba 0=kw E.A)(h0:E.A.hd≠[])(hk:j9 E.A)(g:E.A.row.length<=1000000)(ks:List Int)(j:ks.length<=1000000):ak Tryz.prog 95 [Sr rd bt ba bw bh E,.seq false 1 (ae ks)] (λr=>r=.pv (.seq true 1 (ae (ks.map (gt E.A))))):=by
 refine ak.wk (R:=λr=>∃x,r=.pv x∧bO x (.seq true 1 (ae (ks.map (gt E.A))))) ?_ (λr ⟨x,e,h⟩=>⟨x,_,e,h,rfl⟩);refine iX [] [.tmp 4] aC Tryz.func95 ?_;have m:=λk=>sq E.A h0 hk g k;obtain⟨V,f⟩:∃V,V=kw E.A:=⟨_,rfl⟩;rw[←f]at d;simp[Sr,bN,d];refine⟨by omega,?_⟩;rw[f]at d⊢;refine aF.intro (S:=λ(i:Nat)=>⟨[(5,.pv (.fn (.func 158) [kw E.A] [])),(6,.own true 1 (ae (uz (gt E.A) ks i))),(17,.pv (.seq false 1 (ae ks))),(18,.pv (ab ks.length)),(19,.pv (ab i))],[]⟩) (λi=>i<=ks.length) (λi=>ks.length -i) 0 ?_ (Te _) ?_
 .exact ai.keep (by simp[uz,ae]) rfl
 intro i hi;have a:=AA (gt E.A) ks i hi
 by_cases c:i<ks.length
 .have l:=dZ i;have hs:=AB (gt E.A) ks i c;simp[c];refine ah.intro (m ks[i]) ?_;simp[a,c];exact⟨i+1,by(try dsimp only);omega,by(try dsimp only);omega,ai.keep (by simp[l,ij,hs]) rfl⟩
 .have b:i=ks.length:=by omega
  subst b;simp[AD,bO,bK]
theorem wH{x y:List PV}(h:bK x y):∀a:List (List PV),tw (a++[x]) (a++[y])
 |[]=>⟨h,trivial⟩
 |z::a=>⟨jV z,wH h a⟩
theorem ai.pf{k0:Nat}{t:List (Nat×SV)}{rows a:List (List PV)}{y0 d e f g i j l m n z0 o p z3 z4 q:SV}(c:be<h.length)(r:tw rows a):ai k0 ⟨t,h.set be [y0,d,e,f,g,i,j,l,m,n,z0,o,p,z3,z4,.own true 4 rows,q]⟩ ⟨t,h.set be [y0,d,e,f,g,i,j,l,m,n,z0,o,p,z3,z4,.own true 4 a,q]⟩:=by
 have:=ai.rows (k0:=k0) (st:=⟨t,h.set be [y0,d,e,f,g,i,j,l,m,n,z0,o,p,z3,z4,.own true 4 rows,q]⟩) (b:=be) (k:=15) (Tu c) rfl r;rw[Wb]at this;exact this
def Q0(h:List (List SV))(be bt ba bw bh:Nat)(mp:List (Int×Nat))(mb:List (Int×By))(n:Nat)(F:List (List Int))(r s:Nat)(l:List Rc)(E:ES)(h':List (List SV)):Prop:=∃ks mp' mb',RedOk l E ks∧LayE h' be bt ba bw bh mp' mb' (mZ E ks)∧Ext h h' (cV be bt ba bw bh mp mb) (cV be bt ba bw bh mp' mb')∧EI n F r s (mg l ks) (mZ E ks)
set_option maxHeartbeats 1000000 in
theorem C1(L:LayE h be bt ba bw bh mp mb E)(I:EI n F r s l E)(ay:E.pf.length<=1000000)(aw:(rA l).length<=100000):
 ax Tryz.prog 53 [.ptr be 0] h (λy h'=>(∃z:Int,y=.pv (ab z))∧Q0 h be bt ba bw bh mp mb n F r s l E h'):=by
 refine cI [3,7] [.tmp 2] aC Tryz.func53 ?_;obtain⟨b,f⟩:=SG.1 L.e;have av:=I.rsz;have kE:=AW L I.ari (by omega) I.tok.okT;have kF:=C0 (nJ E (rA l)) (by have:=AV E (rA l);omega) E.keep;obtain⟨M,v⟩:=MP (E:=E) I.ari 1000;have g:Q0 h be bt ba bw bh mp mb n F r s l E h:=⟨[],mp,mb,⟨XG,by simp,by simp,λ_=>rfl,by simp⟩,L,Ext.refl _ _,I⟩;have ag:(((rA l).filter (o6 E.A)).length:Int)<=E.keep->j8 (nJ E (rA l)) E.keep=[]:=λh=>SN (by unfold nJ;rw[SZ];exact h);generalize j8 (nJ E (rA l)) E.keep=m at*;simp;refine am.intro (gj L.e) ?_;rintro _ h ⟨rfl,rfl⟩;cases ho:E.over
 rotate_left
 .simp[f,b,bN,ho];exact g
 by_cases c:0<=E.con
 .simp[f,b,bN,ho,c];exact g
 simp[f,b,bN,ho,c];refine bc.meet Nl ⟨[(0,.pv (.ptr be 0)),(2,.pv (ab 0)),(3,.pv (.seq true 1 (ae m)))],h⟩ (by kernel_rfl) ?_ ?_
 .simp[Nl,f,b,bN]
  repeat' first
   |trivial
   |refine And.intro ?_ ?_
   |(refine am.intro kE ?_;rintro _ h ⟨rfl,rfl⟩;simp[f,b,bN])
   |(refine ah.intro kF ?_;simp;exact(ai.frz (s:=3) (e:=1) (nw:=true) (rows:=ae m) (by simp)).trans (ai.keep (by simp) rfl))
 by_cases X:m.length=0
 .simp[X];exact g
 have N:m≠[]:=λe=>X (by rw[e];rfl);obtain⟨ks,K⟩:∃ks,m.take 1000=ks:=⟨_,rfl⟩;have t:ks.length=min 1000 m.length:=by rw[←K,SU]
 have ad:(if(1000:Int)<m.length then(1000:Int)else m.length)=(ks.length:Int):=by split<;>omega
 have ao:(ae m).take ks.length=ae ks:=by
  have e:m.take ks.length=ks:=by
   rw[t,←K]
   by_cases d:1000<=m.length
   .rw[Ud d]
   .rw[Nat.min_eq_right (by omega),Tm (SQ _),Tm (by omega)]
  conv=>rhs;rw[←e]
  simp[ae,U3]
 have af:ks.length<=m.length:=by omega
 rw[K]at M v;have P:dq ⟨2,E.id,[],ks.map (gt E.A)⟩=[ab 2,ab E.id,.seq false 1 [],.seq false 1 (ae (ks.map (gt E.A)))]:=rfl;have h0:E.A.hd≠[]:=by
  obtain⟨k,hk⟩:=List.exists_mem_of_ne_nil ks (λe=>by rw[e]at t;simp at t;omega);obtain⟨y,hy,_⟩:=v k hk;exact Cb ((I.ari.isA y.at').2 ⟨y,hy,rfl⟩)
 have kI:=(KO (bt:=bt) (bw:=bw) (bh:=bh) (E:=E) (aZ h 2) (DY L.w.a 1) h0 I.arok (by omega) ks (by omega));have hz:=MQ L.e 2;obtain⟨stp,G⟩:∃x:Stp,x=⟨2,E.id,[],ks.map (gt E.A)⟩:=⟨_,rfl⟩;rw[←G]at P;have an:tw (E.pf.map dq++[[ab 2,ab E.id,.lit (.slice none 0 0),.seq true 1 (ae (ks.map (gt E.A)))]]) (E.pf.map dq++[dq stp]):=by
  rw[P];exact wH (by simp[bK,bO,jn]) _
 have L1:=L.eng {E with pf:=E.pf++[stp]} rfl rfl rfl rfl;have X1:=Ext.set (D:=cV be bt ba bw bh mp mb) (h:=h) be (bN bt ba bw bh {E with pf:=E.pf++[stp]}) (.inl rfl);simp[X,N,ad,ao];refine⟨af,?_⟩;refine bc.meet KN ⟨[(0,.pv (.ptr be 0)),(2,.pv (ab 0)),(3,.pv (.seq true 1 (ae ks)))],h.set be (bN bt ba bw bh {E with pf:=E.pf++[stp]})⟩ (by kernel_rfl) ?_ ?_
 .simp[KN,f,b,bN,hz]
  repeat' first
   |trivial
   |refine And.intro ?_ ?_
   |(refine am.introP kI ?_ (by simp) (by simp);simp[f,b,bN])
  all_goals first
   |omega
   |(refine ai.trans ?_ (ai.pf b an);exact ai.keep (by simp) (by simp[ho]))
 have aj:ks≠[]:=λe=>by rw[e]at t;simp at t;omega
 have C:mZ E ks=ks.foldl iG {E with pf:=E.pf++[stp]}:=by rw[mZ,SM aj,G]
 obtain⟨o,j⟩:∃x:ES,x={E with pf:=E.pf++[stp]}:=⟨_,rfl⟩;have I1:EI n F r s l o:=by rw[j];exact{I with}
 have o1:o.over=false:=by rw[j];exact ho
 have c1:o.con=E.con:=by rw[j]
 have t1:o.T=E.T:=by rw[j]
 rw[←j]at L1 X1 C⊢;clear j;simp;refine aF.intro (S:=λ(x:Nat×List (List SV))=>⟨[(0,.pv (.ptr be 0)),(3,.pv (.seq true 1 (ae ks))),(54,.pv (.seq true 1 (ae ks))),(55,.pv (ab ks.length)),(56,.pv (ab x.1))],x.2⟩)
  (λx=>x.1<=ks.length∧∃mp' mb',LayE x.2 be bt ba bw bh mp' mb' ((ks.take x.1).foldl iG o)∧Ext h x.2 (cV be bt ba bw bh mp mb) (cV be bt ba bw bh mp' mb')∧EI n F r s (mg l (ks.take x.1)) ((ks.take x.1).foldl iG o)) (λx=>ks.length -x.1) (0,h.set be (bN bt ba bw bh o)) ?_ ⟨Te _,mp,mb,L1,X1,I1⟩ ?_
 .exact ai.keep (by simp) rfl
 rintro⟨i,H⟩ ⟨hi,U,R,J,W,p⟩;dsimp only at hi J W p
 by_cases O:i<ks.length
 .obtain⟨k,hk⟩:∃k,ks[i]=k:=⟨_,rfl⟩;have hw:=dZ i;have q:(ks.take (i+1)).foldl iG o=iG ((ks.take i).foldl iG o) k:=by rw[ku O,Wh,hk];rfl
  have Y:mg l (ks.take (i+1))=er k 0 (mg l (ks.take i)):=by unfold mg;rw[ku O,Wh,hk];rfl
  obtain⟨y,hy,B,aq,_⟩:=v k (hk▸SS O);obtain⟨q1,q2,q3,_⟩:=ql (ks.take i) o;have ak:k∉ks.take i:=λhm=>by
   have h2:(ks.take (i+1)).Nodup:=M.sublist (Vi _ _);rw[ku O,hk]at h2;exact(VU.1 h2).2.2 k hm k (Tt.2 rfl) rfl
  have Q:y∈aQ 0 (mg l (ks.take i)):=uG.2 ⟨hy,by rw[B];exact ak⟩;generalize(ks.take i).foldl iG o=u at*;have ID:=p.drop1 (q2.trans o1) (by rw[q3,c1];omega) Q (by rw[q1,t1,B];exact aq);rw[B,←Y,←q]at ID;have Z:=gT _ 0 y Q;rw[←p.ari.row,B]at Z;have az:=p.rsz;obtain⟨e1,e2⟩:=SG.1 J.e;have kD:=CC H bw ba bt U R u.A u.T u.S J.w p.wok.nd k (p.wok.toWch.hx k) (p.wok.toWch.hz p.wok.few);simp[O,hk,e1,e2,bN];refine am.intro kD ?_;rintro _ H2 ⟨rfl,au,ar,W2,X2⟩;have V:=J.watch W2 X2;obtain⟨e3,e4⟩:=SG.1 V.e;have kA:=JO H2 ba u.A V.w.a k (λ_=>by omega) (by omega);simp[e3,e4,bN];refine am.intro kA ?_;rintro _ _ ⟨rfl,rfl⟩;have L3:=V.arena (rS u.A k);obtain⟨e5,e6⟩:=SG.1 L3.e;have L4:=L3.eng (iG u k) rfl rfl rfl rfl;have X4:=W.trans (((Ext.eng (be:=be) (bh:=bh) (ba:=ba) X2).trans (Ext.set ba (ji (rS u.A k)) (.inr (.inr (.inl rfl))))).trans (Ext.set be (bN bt ba bw bh (iG u k)) (.inl rfl)));simp at e5;simp[e3,e5,e6,bN];exact⟨(i+1,(H2.set ba (ji (rS u.A k))).set be (bN bt ba bw bh (iG u k))),by(try dsimp only);omega,⟨by(try dsimp only);omega,au,ar,by dsimp only;rw[q];exact L4,X4,ID⟩,ai.keep (by simp[hw]) (by simp[bN,iG])⟩
 .have aa:i=ks.length:=by omega
  subst aa;rw[Tw]at J p;rw[←C]at J p;simp;exact⟨ks,U,R,⟨M,by omega,v,λe=>absurd (ag e) N,λ_=>⟨ho,by omega⟩⟩,J,W,p⟩
end
end Go.AX
namespace Go.AX
open Go.Proofs
set_option linter.unusedSimpArgs false
structure CkF (F:List (List Int)) (l:List Rc) (E:ES) (c:Ck):Prop where
  run:og (t7 F) E.pf c
  m:c.m=(aQ 0 l).map λx=>(x.id,x.lits)
  last:c.last=E.id
  dn:c.done=E.over
  g:CkG c
  may:∀s∈E.pf,ir s=true
theorem EM{α:Type}:∀{m:List (Int×α)},xS m->∀k,dl m k=m.filter λq=>decide (q.1≠k)
 |[],_,_=>rfl
 |(j,x)::m,h,k=>by
  replace h:=Vm.1 h;rw[dl,TQ]
  by_cases e:j=k
  .rw[SN e,SM (by simp[e]),Uw.2];intro q a;have:=h.1 q a;simp only at this;simp;omega
  .rw[SM e,SN (by simp[e]),EM h.2]
theorem AY{α:Type}:∀(ids:List Int){m:List (Int×α)},xS m->ids.foldl dl m=m.filter λq=>decide (q.1∉ids)
 |[],m,_=>(Uw.2 λ_ _=>rfl).symm
 |k::ids,m,h=>by
  rw[V8,EM h,AY ids (h.sublist VD),List.filter_filter];refine Xl λq _=>?_;simp[XF,Bool.and_comm]
theorem wI:∀(ks:List Int)(l:List Rc),aQ 0 (mg l ks)=(aQ 0 l).filter λy=>decide (y.at'∉ks)
 |[],l=>(Uw.2 λ_ _=>rfl).symm
 |k::ks,l=>by
  have a:=wI ks (er k 0 l);show aQ 0 (mg (er k 0 l) ks)=_;rw[a,mX,List.filter_filter];refine Xl λq _=>?_;simp[XF,Bool.and_comm]
theorem AZ:∀(ks:List Int)(l:List Rc),(mg l ks).length=l.length
 |[],_=>rfl
 |k::ks,l=>(AZ ks (er k 0 l)).trans (Ax l 0 k).1
section
variable {n r s : Nat} {F : List (List Int)} {l : List Rc} {E : ES} {c : Ck}
theorem CkE.to(K:CkE F l E c)(h:EI n F r s l E):CkF F l E c:=⟨K.run,by rw[K.m,sC l 0 K.al],K.last,K.over h,K.g,K.may⟩
theorem CkF.mem(K:CkF F l E c){y:Ro}(hy:y∈aQ 0 l):(y.id,y.lits)∈c.m:=by
 rw[K.m];exact SY.2 ⟨y,hy,rfl⟩
theorem CkF.one(K:CkF F l E c){x y:Ro}(hx:x∈aQ 0 l)(hy:y∈aQ 0 l)(e:x.id=y.id):x=y:=by
 have hp:=K.g.rs;rw[K.m]at hp;have hp:=Tv.1 (UC.1 hp);obtain⟨i,hi,rfl⟩:=S6 hx;obtain⟨j,hj,rfl⟩:=S6 hy;rcases UB i j with c|c|c
 .have:=hp i j hi hj c;simp only at this;omega
 .subst c;rfl
 .have:=hp j i hj hi c;simp only at this;omega
theorem CkF.res(K:CkF F l E c)(h:EI n F r s l E)(N:0<=E.con)(pd:E.id+1<=10000000)(q:HS)(p:List Bool)(k:Int):
 CkF F (l++[⟨E.id+1,1,aJ E⟩]) (rT E q p k) (oV c (E.id+1) (aJ E)):=by
 have R:=h.res N;have O:=h.n9;have G:=h.idz;have e:∀y∈aJ E,cX y=true:=λy hy=>V.okL_chk (v:=n) (by omega) (R.chk y hy);have i:∀z∈fE E,∃y∈aQ 0 l,gt E.A z=y.id∧au E.A z=y.lits∧1<=y.id∧lk c.m y.id=some y.lits:=λz hz=>by
  obtain⟨y,hy,rfl⟩:=R.hin.2 z hz;obtain⟨H,I⟩:=h.ari.at hy;exact⟨y,hy,I,H,h.ari.ids y hy,xS.lk K.g.rs (K.mem hy)⟩
 have j:i8 (aJ E)=false:=by
  unfold i8;rw[UJ];intro x hx;simp only[lA,S4,S9];rintro⟨⟨_,_⟩,_,w⟩;have h1:=R.neg x hx;have f:=R.neg (-x) w;rw[UZ]at f;exact h.one (e x hx) ⟨f,h1⟩
 have d:∀z∈(fE E).map (gt E.A),1<=z∧z<=10000000∧(lk c.m z).isSome=true:=λz hz=>by
  obtain⟨u,P,rfl⟩:=SY.1 hz;obtain⟨y,hy,o,_,L,t⟩:=i u P;have:=K.g.hi _ (K.mem hy);rw[K.last]at this;rw[o,t];exact⟨L,by dsimp only at this;omega,rfl⟩
 have B:cM c ((fE E).map (gt E.A))=(fE E).map (au E.A):=by
  unfold cM;rw[TT];refine Vb λz hz=>?_;obtain⟨y,hy,o,J,_,t⟩:=i z hz;simp only[Function.comp,o,t,J,Tx]
 have b:ir ⟨1,E.id+1,aJ E,(fE E).map (gt E.A)⟩=true:=by
  unfold ir;rw[SN rfl];have h1:iD (aJ E) 100000=0:=wC (by have:=R.len;omega) e R.nd;have f:nY ((fE E).map (gt E.A)) (-10000000)=true:=by
   unfold nY;rw[Uq (by rw[SZ];have:=R.hle;omega),Vs];rw[TN,UJ];intro z hz;have:=d z hz;simp only[FW,Uj,S9];omega
  simp only[h1,f,decide_true,Bool.and_true,S4,S9];omega
 have D:gJ c ((fE E).map (gt E.A))=true:=by
  unfold gJ;rw[TG];intro z hz;obtain⟨h1,f,w⟩:=d z hz;have:xP z=z:=by
   unfold xP;rw[ao (by omega) (by omega),SM (by omega)]
  rw[this];exact w
 have C:tZ c (aJ E) ((fE E).map (gt E.A))=0:=by
  have a:mN (aJ E)=0:=by
   unfold mN IJ;rw[SM,SM (by rw[j];simp)];rw[V4,UJ];intro x hx;have ho:=e x hx;have S:=(a8 x).1 ho;have:¬aX x<0:=by
    unfold aX fp;rw[SN ho];split<;>omega
   simpa using this
  have Q:(rQ (aJ E) ((fE E).map (au E.A))).2=0:=by
   unfold rQ;rw[SN a];exact R.shw
  unfold tZ;rw[Cu λx hx=>by have:=d x hx;omega];dsimp only;rw[B,Q];simp
 have a:=Gc (s:=⟨1,E.id+1,aJ E,(fE E).map (gt E.A)⟩) b rfl (by rw[K.last];dsimp only;omega) j D C;dsimp only at a;obtain⟨M,g2⟩:=K.g.put (id:=E.id+1) (l:=aJ E) (by rw[K.last];omega) (by omega);exact{
  run:=by
   have:=K.run.snoc (s:=⟨1,E.id+1,aJ E,(fE E).map (gt E.A)⟩) (by rw[a]);rw[a]at this;exact this
  m:=by
   rw[M,K.m,il,TA,TP];rfl
  last:=rfl
  dn:=by
   show(c.done||decide ((aJ E).length=0))=(E.over||decide ((aJ E).length=0));rw[K.dn]
  g:=g2
  may:=λs hs=>by
   rcases S7.1 hs with hs|hs
   .exact K.may s hs
   .rw[Tt]at hs;subst hs;exact b}
theorem CkF.red(K:CkF F l E c)(h:EI n F r s l E){ks:List Int}(R:RedOk l E ks)(pd:E.id<=10000000):∃c',CkF F (mg l ks) (mZ E ks) c':=by
 by_cases e:ks=[]
 .subst e;exact⟨c,by rw[mZ,SN rfl];exact K⟩
 obtain⟨ids,a⟩:∃x,x=ks.map (gt E.A):=⟨_,rfl⟩;have b:∀k∈ks,∃y∈aQ 0 l,y.at'=k∧gt E.A k=y.id:=λk hk=>by
  obtain⟨y,hy,e,_⟩:=R.is k hk;exact⟨y,hy,e,by rw[←e];exact(h.ari.at hy).2⟩
 have o:∀y∈aQ 0 l,(y.id∈ids↔y.at'∈ks):=λy hy=>by
  rw[a,SY];constructor
  .rintro⟨k,hk,e⟩;obtain⟨z,hz,D,q⟩:=b k hk;have:=K.one hz hy (by rw[←q,e]);rw[←this,D];exact hk
  .intro hk;exact⟨_,hk,(h.ari.at hy).2⟩
 have hin:∀x∈ids,1<=x∧x<=10000000∧(lk c.m x).isSome=true:=λx hx=>by
  rw[a]at hx;obtain⟨k,hk,rfl⟩:=SY.1 hx;obtain⟨y,hy,_,q⟩:=b k hk;have t:=K.mem hy;have h1:=K.g.lo _ t;have f:=K.g.hi _ t;rw[K.last]at f;dsimp only at h1 f;rw[q,xS.lk K.g.rs t];exact⟨h1,by omega,rfl⟩
 have u:ids.Nodup:=by
  rw[a];refine UC.2 (R.nd.imp_of_mem λ{H I} h1 f v e=>v ?_);obtain⟨N,G,B,b1⟩:=b H h1;obtain⟨O,g2,C,b2⟩:=b I f;rw[←B,←C,K.one G g2 (by rw[←b1,←b2,e])]
 have i:dropB c ids=false:=(Jx λx hx=>by have:=hin x hx;omega).2 ⟨u,λx hx=>(hin x hx).2.2⟩;have j:=h.idz;have d:ir ⟨2,E.id,[],ids⟩=true:=by
  unfold ir;rw[SM (by dsimp only;decide),SN rfl];have f:nY ids 1=true:=by
   unfold nY;rw[Uq (by rw[a,SZ];exact R.few),Vs];rw[TN,UJ];intro z hz;have:=hin z hz;simp only[FW,Uj,S9];omega
  simp only[f,Bool.and_true,S4,S9];exact⟨j.1,pd,rfl⟩
 have p:fc c ⟨2,E.id,[],ids⟩=(⟨ids.foldl dl c.m,c.last,c.done⟩,0):=by
  unfold fc;rw[SM (by rw[ua,SN d];simp),SN rfl];unfold pY wc jM;dsimp only;rw[SM (by rw[i];simp),SM (by rw[i];simp),Tw]
 obtain⟨_,J,_,w,_,_,_,L,_⟩:=ql ks {E with pf:=E.pf++[⟨2,E.id,[],ids⟩]};refine⟨⟨ids.foldl dl c.m,c.last,c.done⟩,?_⟩;rw[mZ,SM e,←a];generalize List.foldl iG _ ks=M at*;exact{
  run:=by
   have:=K.run.snoc (s:=⟨2,E.id,[],ids⟩) (by rw[p]);rw[p]at this;rw[w];exact this
  m:=by
   dsimp only;rw[AY ids K.g.rs,wI,K.m,List.filter_map];congr 1;refine Xl λy hy=>?_;simp only[Function.comp,Xp];exact not_congr (o y hy)
  last:=by rw[L];exact K.last
  dn:=by rw[J];exact K.dn
  g:=K.g.drop ids
  may:=λs hs=>by
   rw[w]at hs;rcases S7.1 hs with hs|hs
   .exact K.may s hs
   .rw[Tt]at hs;subst hs;exact d}
end
structure Alk (E E':ES):Prop where
  pf:E'.pf=E.pf
  mn:E'.many=E.many
  vr:E'.vars=E.vars
  cs:E'.cs=E.cs
  kp:E'.keep=E.keep
  id:E'.id=E.id
  ov:E'.over=E.over
structure SP (n M:Nat) (F:List (List Int)) (bg:Int) (E:ES) (l:List Rc) (c:Nat):Prop where
  I:EI n F (M+1 -c) ((M+1 -c)*(n+3)) l E
  mn:E.many=c
  cap:c<=M
  cb:(c:Int)<=bg
  vr:E.vars=n
  fm:E.cs=F
  pfs:∀x∈E.pf,x.lits.length<=1000000∧x.hints.length<=1000000
  lz:l.length<=F.length+c
  idz:E.id=F.length+c
  cl:∀d∈F,∃y∈aQ 0 l,y.lits=d∧y.id<=F.length
  sd:∀x∈l,x.side=1->(F.length:Int)<x.id
  lf:(l.filter λx=>decide (x.side=1)).length<=c
  kp:100<=E.keep
  pe:c<=100->E.pf.length=c
  ck:∃k,CkF F l E k
  ov:E.over=true->c=0->[]∈F
  zz:O2 n F->c=0∨E.over=true
section
variable {n M c : Nat} {F : List (List Int)} {bg : Int} {E E' : ES} {l : List Rc}
theorem SP.hcl(P:SP n M F bg E l c):∀d∈F,d∈rC l:=λd hd=>by
 obtain⟨y,hy,e,_⟩:=P.cl d hd;rw[←e];exact UQ hy
theorem CkF.same{k:Ck}(K:CkF F l E k)(A:Alk E E'):CkF F l E' k:=⟨by rw[A.pf];exact K.run,K.m,by rw[A.id];exact K.last,by rw[A.ov];exact K.dn,K.g,by rw[A.pf];exact K.may⟩
theorem SP.to(P:SP n M F bg E l c)(A:Alk E E')(I:EI n F (M+1 -c) ((M+1 -c)*(n+3)) l E'):SP n M F bg E' l c:=
 {P with
  I:=I
  mn:=A.mn.trans P.mn,vr:=A.vr.trans P.vr,fm:=A.cs.trans P.fm
  pfs:=by rw[A.pf];exact P.pfs
  idz:=A.id.trans P.idz
  kp:=by rw[A.kp];exact P.kp
  pe:=by rw[A.pf];exact P.pe
  ck:=by obtain⟨k,K⟩:=P.ck;exact⟨k,K.same A⟩
  ov:=by rw[A.ov];exact P.ov
  zz:=by rw[A.ov];exact P.zz}
theorem SP.res(P:SP n M F bg E l c){q:HS}{p:List Bool}{k:Int}(i:F.length<=1000000)(j:M<=1000000)(a:0<=E.con)(m:(c:Int)<bg)(f:c+1<=M)(I:EI n F (M+1 -(c+1)) ((M+1 -(c+1))*(n+3)) (l++[⟨E.id+1,1,aJ E⟩]) (rT E q p k)):SP n M F bg (rT E q p k) (l++[⟨E.id+1,1,aJ E⟩]) (c+1):=by
 have R:=P.I.res a;have b:=R.len;have hle:=R.hle;have g:=P.I.n9;have pd:=P.idz;exact{
  I:=I
  mn:=by show E.many+1=_;rw[P.mn];omega
  cap:=f
  cb:=by omega
  vr:=P.vr
  fm:=P.fm
  pfs:=λx hx=>by
   rcases S7.1 hx with hx|hx
   .exact P.pfs x hx
   .simp at hx;subst hx;exact⟨by show(aJ E).length<=_;omega,by simp;omega⟩
  lz:=by have:=P.lz;simp;omega
  idz:=by show E.id+1=_;omega
  cl:=λd hd=>by
   obtain⟨y,hy,h⟩:=P.cl d hd;refine⟨y,?_,h⟩;rw[il];exact Um _ hy
  sd:=λx hx=>by
   rcases S7.1 hx with hx|hx
   .exact P.sd x hx
   .simp at hx;subst hx;intro _;dsimp only;omega
  lf:=by
   have:=P.lf;rw[Uv];simp;omega
  kp:=P.kp
  pe:=λh=>by
   have:=P.pe (by omega);show(E.pf++[_]).length=_;simp;omega
  ck:=by
   obtain⟨o,K⟩:=P.ck;exact⟨_,K.res P.I a (by omega) q p k⟩
  ov:=λ_ e=>by omega
  zz:=λz=>by
   right;show(E.over||decide ((aJ E).length=0))=true;rw[EK P.I P.hcl a z];simp}
theorem MR(E:ES)(ks:List Int):(mZ E ks).T=E.T∧Alk {E with pf:=(mZ E ks).pf} (mZ E ks)∧((mZ E ks).pf=E.pf∨(ks≠[]∧(mZ E ks).pf=E.pf++[⟨2,E.id,[],ks.map (gt E.A)⟩])):=by
 unfold mZ
 by_cases e:ks=[]
 .rw[SN e];exact⟨rfl,⟨rfl,rfl,rfl,rfl,rfl,rfl,rfl⟩,.inl rfl⟩
 .rw[SM e];obtain⟨a,b,j,c,d,f,g,h,i⟩:=ql ks {E with pf:=E.pf++[⟨2,E.id,[],ks.map (gt E.A)⟩]};exact⟨a,⟨rfl,d,f,g,i,h,b⟩,.inr ⟨e,c⟩⟩
theorem uH:∀(l:List Rc)(p:Nat)(k:Int),(∀x∈er k p l,x.side=1->x∈l)∧((er k p l).filter λx=>decide (x.side=1)).length<=(l.filter λx=>decide (x.side=1)).length
 |[],_,_=>⟨λx hx=>absurd hx Xq,SQ _⟩
 |z::l,p,k=>by
  obtain⟨h1,a⟩:=uH l (p+z.sz) k;rw[er];constructor
  .intro x hx hs;rcases Tp.1 hx with rfl|hx
   .split at hs
    .cases hs
    .rename_i e;rw[SM e];exact Tj
   .exact Tf _ (h1 x hx hs)
  .rw[TQ,TQ]
   by_cases e:(p:Int)=k
   .rw[SN e,SM (by simp)];split
    .simp;omega
    .exact a
   .rw[SM e];split
    .simp;omega
    .exact a
theorem uI:∀(ks:List Int)(l:List Rc),(∀x∈mg l ks,x.side=1->x∈l)∧((mg l ks).filter λx=>decide (x.side=1)).length<=(l.filter λx=>decide (x.side=1)).length
 |[],l=>⟨λx hx _=>hx,SQ _⟩
 |k::ks,l=>by
  obtain⟨h1,a⟩:=uI ks (er k 0 l);obtain⟨b,c⟩:=uH l 0 k;exact⟨λx hx hs=>b x (h1 x hx hs) hs,TD a c⟩
theorem SP.red(P:SP n M F bg E l c)(u:F.length<=1000000)(v:M<=1000000){ks:List Int}(R:RedOk l E ks)(I:EI n F (M+1 -c) ((M+1 -c)*(n+3)) (mg l ks) (mZ E ks)):SP n M F bg (mZ E ks) (mg l ks) c∧(mZ E ks).pf.length<=E.pf.length+1:=by
 obtain⟨_,A,hp⟩:=MR E ks;obtain⟨r,s⟩:=uI ks l;have pd:=P.idz;refine⟨?_,by rcases hp with e|⟨_,e⟩<;>rw[e]<;>simp⟩;exact{
  I:=I
  mn:=A.mn.trans P.mn
  cap:=P.cap
  cb:=P.cb
  vr:=A.vr.trans P.vr
  fm:=A.cs.trans P.fm
  pfs:=λx hx=>by
   rcases hp with e|⟨_,e⟩
   .rw[e]at hx;exact P.pfs x hx
   .rw[e]at hx;rcases S7.1 hx with hx|hx
    .exact P.pfs x hx
    .simp at hx;subst hx;have:=R.few;exact⟨by simp,by simp;omega⟩
  lz:=by rw[AZ];exact P.lz
  idz:=A.id.trans P.idz
  cl:=λd hd=>by
   obtain⟨y,hy,e,hi⟩:=P.cl d hd;refine⟨y,uG.2 ⟨hy,λq=>?_⟩,e,hi⟩;obtain⟨z,hz,p,_,i⟩:=R.is _ q;have j:=Kj hz hy p;subst j;obtain⟨a,x,b,m,_,o⟩:=nC l 0 z hz;have hs:x.side=1:=by
    unfold o6 at i;simp only[S4,S9]at i;have f:=i.2;rw[P.I.ari.row,o]at f;have g:=(sA a x b).2.2.1;rw[←m]at g;dsimp only at f;rw[TP,Ub,g]at f;exact f
   have:=P.sd x (by rw[m];simp) hs;rw[o]at hi;dsimp only at hi;omega
  sd:=λx hx hs=>P.sd x (r x hx hs) hs
  lf:=TD s P.lf
  kp:=by rw[A.kp];exact P.kp
  pe:=λh=>by
   have h1:=EC (A:=E.A) l [] (by rw[Tz];exact P.I.ari.row);have f:=P.lf;have g:(((rA l).filter (o6 E.A)).length)<=(l.filter λx=>decide (x.side=1)).length:=h1;have t:=P.kp;have:=R.kp (by omega);rcases hp with e|⟨e,_⟩
   .rw[e];exact P.pe h
   .exact absurd this e
  ck:=by
   obtain⟨k,K⟩:=P.ck;exact K.red P.I R (by have:=P.cap;omega)
  ov:=by rw[A.ov];exact P.ov
  zz:=by rw[A.ov];exact P.zz}
abbrev GF(n:Nat)(F:List (List Int))(a:Int)(k:Int)(c:Nat)(m:PV)(pf:List Stp):Prop:=c<=a∧(c<=100->pf.length=c)∧
  ((k = 1 ∧ ∃ b : List Bool, m = .seq true 1 (cT b) ∧ b.length = n ∧ ∀ d ∈ F, cd d b = true) ∨
   (k=2∧m=.lit (.slice none 0 0)∧Of F []∧(c=0->[]∈F)∧pf.length<=4001∧∃e,og (t7 F) pf e∧e.done=true∧∀s∈pf,ir s=true)∨
   (k=3∧m=.lit (.slice none 0 0)∧a<=c∧(O2 n F->c=0∧Of F [])))
def Q1(n:Nat)(F:List (List Int))(a:Int)(y:SV):Prop:=∃(k:Int)(c:Nat)(m:PV)(pf:List Stp),y=.pv (fv k c m pf)∧GF n F a k c m pf
end
section
variable {n M : Nat} {F : List (List Int)} {h : List (List SV)} {be bt ba bw bh : Nat} {mp : List (Int × Nat)} {mb : List (Int × By)} {E : ES} {l : List Rc}
set_option maxRecDepth 16000 in
set_option maxHeartbeats 1000000 in
theorem A0(unit f:Int)(L:LayE h be bt ba bw bh mp mb E)(P:SP n M F f E l 0)(aq:E.pf=[])(hM:M<=2000)(hu:1<=unit∧unit<=1000000)(hB:f<=M)(aM:F.length<=100)(ay:∀c∈F,c.length<=1000000):
 ax Tryz.prog 72 [.ptr be 0,ab unit,ab f] h (λy h'=>Q1 n F f y∧Ext h h' (cV be bt ba bw bh mp mb) (λb=>cV be bt ba bw bh mp mb b∨h.length<=b)):=by
 refine cI [] [.cell 6 _] aC Tryz.func72 ?_;have kN:=EE 0 unit (by omega) hu;obtain⟨rb,U⟩:∃x:List SV,x=[.pv (.lit (.int .i64 0)),.pv (.lit (.int .i64 0)),.pv (.lit (.slice none 0 0)),.pv (.lit (.slice none 0 0))]:=⟨_,rfl⟩;simp;refine am.intro (CU _ be) ?_;rintro _ _ ⟨rfl,rfl⟩;simp;refine ah.introR kN ?_;rintro _ ⟨a0,rfl,aN⟩;refine⟨by simp,?_⟩;simp;have o:=λb (hd:cV be bt ba bw bh mp mb b)=>L.dlt hd;obtain⟨W,t⟩:∃W:List (List SV),W=h++[rb,[.pv (.ptr be 0)]]:=⟨_,rfl⟩;have au:W[h.length]?=some rb:=by rw[t];simp
 have av:W[h.length+1]?=some [.pv (.ptr be 0)]:=by rw[t];simp
 have aH:W.length=h.length+2:=by rw[t];simp
 have w:∀(H:List (List SV))(mp':List (Int×Nat))(mb':List (Int×By))(y:List SV),Ext W H (cV be bt ba bw bh mp mb) (cV be bt ba bw bh mp' mb')->Ext h (H.set h.length y) (cV be bt ba bw bh mp mb) (λb=>cV be bt ba bw bh mp mb b∨h.length<=b):=λH mp' mb' y X=>by
  have:=X.len;refine⟨by rw[Ti];omega,λb hb d=>?_,λb hb d=>d.resolve_right (by omega)⟩;rw[Tc (by omega),X.same b (by omega) d,t,SO hb]
 refine aF.intro (S:=λ(x:List (List SV)×List (Int×Nat)×List (Int×By)×ES×List Rc×Int×Nat)=>⟨[(0,.pv (.ptr be 0)),(1,.pv (ab unit)),(2,.pv (ab f)),(6,.pv (.ptr h.length 0)),(7,.pv (.fn (.func 213) [] [.ptr (h.length+1) 0])),(8,.pv (ab x.2.2.2.2.2.1))],x.1⟩)
  (λx=>LayE x.1 be bt ba bw bh x.2.1 x.2.2.1 x.2.2.2.1∧SP n M F f x.2.2.2.1 x.2.2.2.2.1 x.2.2.2.2.2.2∧Ext W x.1 (cV be bt ba bw bh mp mb) (cV be bt ba bw bh x.2.1 x.2.2.1)∧x.2.2.2.1.pf.length+(if x.2.2.2.2.2.1<=x.2.2.2.2.2.2 then 1 else 0)<=2*x.2.2.2.2.2.2+1)
  (λx=>(M+1 -x.2.2.2.2.2.2)*(2*n+5)+(if x.2.2.2.2.2.1<=x.2.2.2.2.2.2 then n+2 else 0)+(n -x.2.2.2.1.T.lits.length))
  (W,mp,mb,E,l,a0,0) ?_ ⟨by rw[t];exact L.app _,P,Ext.refl _ _,by dsimp only;rw[aq,SM (by omega)];simp⟩ ?_
 .rw[t,U];exact ai.keep (by simp) rfl
 clear P L aq;rintro⟨H,mp',mb',E,l,a,c⟩ ⟨L,P,X,B⟩;dsimp only at L P X B;have Z:=P.I;have aQ:=Z.n9;have aP:=Z.tok.few;have af:H[h.length]?=some rb:=(X.same _ (by omega) (λd=>by have:=o _ d;omega)).trans au;have J:H[h.length+1]?=some [.pv (.ptr be 0)]:=(X.same _ (by omega) (λd=>by have:=o _ d;omega)).trans av;obtain⟨O,Q⟩:=SG.1 af;have aI:=P.cap;have v:E.pf.length<=1000000:=by omega
 have aA:=P.mn;simp;refine am.intro (Kl L.e) ?_;rintro _ H ⟨rfl,rfl⟩;cases ho:E.over
 rotate_left
 .simp;refine am.intro (mY L.e J 2 (.lit (.slice none 0 0)) (.inl rfl) v P.pfs) ?_;rintro _ H ⟨rfl,rfl⟩;obtain⟨ck,K⟩:=P.ck;simp[fv,O,Q,U];refine⟨⟨2,c,_,E.pf,?_,P.cb,P.pe,.inr (.inl ⟨rfl,rfl,Z.ended ho,P.ov ho,by omega,ck,K.run,K.dn.trans ho,K.may⟩)⟩,w H mp' mb' _ X⟩;simp[fv,aA]
 simp;refine am.intro (Km L Z.wok Z.tok) ?_;rintro _ D ⟨rfl,V,G,X1⟩;have u:o8 E={E with S:=(ft E.S E.T).1,T:=(ft E.S E.T).2.1,con:=(ft E.S E.T).2.2,calm:=decide ((ft E.S E.T).2.2<0)}:=by unfold o8;rw[SM (by simp[ho])]
 have ar:=(JI Z.wok Z.tok).grow.pre.1.length_le;have j:SP n M F f (o8 E) l c:=P.to (by rw[u];exact⟨rfl,rfl,rfl,rfl,rfl,rfl,rfl⟩) Z.prps;have ag:(o8 E).T=(ft E.S E.T).2.1:=by rw[u]
 have ae:(o8 E).pf=E.pf:=by rw[u]
 have A:(o8 E).over=false:=by rw[u];exact ho
 have ak:(o8 E).calm=decide ((o8 E).con<0):=by rw[u]
 replace X:=X.trans X1;rw[←ag]at ar;rw[←ae]at B v;clear u ag ae;generalize aL:o8 E=g at*;have i:=j.I;have aK:=i.tok.few;have ad:=j.mn;have af:D[h.length]?=some rb:=(X.same _ (by omega) (λd=>by have:=o _ d;omega)).trans au;have J:D[h.length+1]?=some [.pv (.ptr be 0)]:=(X.same _ (by omega) (λd=>by have:=o _ d;omega)).trans av;obtain⟨O,Q⟩:=SG.1 af
 by_cases aa:g.con<0
 rotate_left
 .have m:g.calm=false:=by rw[ak];exact UH aa
  simp[ho,m];refine am.intro (nD G.e) ?_;rintro _ D ⟨rfl,rfl⟩
  by_cases aj:f<=g.many
  .simp[aj];refine am.intro (mY G.e J 3 (.lit (.slice none 0 0)) (.inl rfl) v j.pfs) ?_;rintro _ D ⟨rfl,rfl⟩;simp[fv,O,Q,U];refine⟨⟨3,c,_,g.pf,?_,P.cb,j.pe,.inr (.inr ⟨rfl,rfl,by omega,λz=>⟨(j.zz z).resolve_right (by simp[A]),by have:=(i.res (by omega)).ent;rwa [EK i j.hcl (by omega) z]at this⟩⟩)⟩,w D mp' V _ X⟩;simp[fv,ad]
  .simp[aj];have ao:c+1<=M:=by omega
   have C:M+1 -c=(M+1 -(c+1))+1:=by omega
   have N:=i;rw[C,UK]at N;refine am.intro (AO G N A (by omega) v (by omega)) ?_;rintro _ H2 ⟨rfl,aE,q,p,k,L2,X2,I2⟩;have Y:=j.res (by omega) (by omega) (by omega) (by omega) ao I2;have aB:(rT g q p k).pf.length=g.pf.length+1:=by show(g.pf++[_]).length=_;simp
   have r:=Y.I.tok.few;generalize rT g q p k=E2 at*;simp;refine⟨(H2,aE,V,E2,l++[⟨g.id+1,1,aJ g⟩],a,c+1),?_,⟨L2,Y,X.trans X2,?_⟩,ai.keep (by simp) rfl⟩
   .dsimp only;have an:(M+1 -c)*(2*n+5)=(M+1 -(c+1))*(2*n+5)+(2*n+5):=by rw[C,UK]
    rw[an];generalize(M+1 -(c+1))*(2*n+5)=K;split<;>split<;>omega
   .dsimp only;rw[aB];split at B<;>split<;>omega
 .have m:g.calm=true:=by rw[ak];exact Uq aa
  simp[ho,m];refine am.intro (nD G.e) ?_;rintro _ D ⟨rfl,rfl⟩
  by_cases ha:a<=g.many
  .simp[ha];refine am.intro (nD G.e) ?_;rintro _ D ⟨rfl,rfl⟩;simp;refine ah.introR (EE g.many unit (by omega) hu) ?_;rintro _ ⟨a2,rfl,aO⟩;refine⟨by simp,?_⟩;simp;refine am.intro (AI G i.tok i.hp i.ph) ?_;rintro _ H2 ⟨rfl,⟨e,_⟩|⟨_,q,p,L2,X2,hq,hp,hin⟩⟩
   .rw[A]at e;cases e
   have Y := j.to (E' := { g with T := eY g.T 0, q := q, ph := p, con := -1, calm := false }) ⟨rfl, rfl, rfl, rfl, rfl, rfl, rfl⟩ (i.again q hq p hp hin); have s : ({ g with T := eY g.T 0, q := q, ph := p, con := -1, calm := false } : ES).pf = g.pf := rfl; generalize ({ g with T := eY g.T 0, q := q, ph := p, con := -1, calm := false } : ES) = E2 at *; have N := Y.I; have k4 := C1 L2 N (by rw [s]; exact v) (by
    have h1:=qh l 0;have h2:=Y.lz;unfold rA;rw[SZ];omega)
   simp;refine am.intro k4 ?_;rintro _ H3 ⟨⟨z,rfl⟩,ks,aG,aD,R,L3,X3,I3⟩;obtain⟨P3,h3⟩:=Y.red (by omega) (by omega) R I3;simp;refine⟨(H3,aG,aD,mZ E2 ks,mg l ks,a2,c),?_,⟨L3,P3,(X.trans X2).trans X3,?_⟩,ai.keep (by simp) rfl⟩
   .dsimp only;rw[SM (by omega),SN (by omega)];omega
   .dsimp only;rw[s]at h3;rw[SN (by omega)]at B;rw[SM (by omega)];omega
  .simp[ha];have kM:=GB G i.tok j.vr (by rw[j.fm];omega) (by rw[j.fm];exact ay);refine am.intro kM ?_;rintro _ D ⟨rfl,rfl⟩;cases hm:AN g n
   rotate_left
   .simp;refine am.intro (mY G.e J 1 (.seq true 1 (cT (jm g.T.lits n))) (.inr ⟨_,rfl⟩) v j.pfs) ?_;rintro _ D ⟨rfl,rfl⟩;simp[fv,O,Q,U];refine⟨⟨1,c,_,g.pf,?_,P.cb,j.pe,.inl ⟨rfl,jm g.T.lits n,rfl,by simp[jm],?_⟩⟩,w D mp' V _ X⟩
    .simp[fv,ad]
    .unfold AN at hm;rw[j.fm]at hm;simp only[S4,S9]at hm;exact hm.2.2.2
   .simp;refine am.intro (CQ G i.tok i.hp i.ph) ?_;rintro _ H2 ⟨E2,b,rfl,hd,L2,X2⟩;have I2:=i.decs hd;rcases hd with⟨hx,_,_⟩|⟨_,hcl,q,hq,⟨rfl,x,hx,rfl,hin⟩|⟨rfl,rfl,hr,hin⟩⟩
    .rcases hx with hx|hx
     .rw[A]at hx;cases hx
     .rw[m]at hx;cases hx
    .have Y:=j.to (E':={g with T:=ip g.T x,calm:=false,q:=q}) ⟨rfl,rfl,rfl,rfl,rfl,rfl,rfl⟩ I2;have aw:(ip g.T x).lits=g.T.lits++[x]:=by
      unfold ip;rw[SN hx];rfl
     have r:=I2.tok.few;dsimp only at r;rw[aw,SX]at r;simp only[To,List.length_nil]at r;have s:({g with T:=ip g.T x,calm:=false,q:=q}:ES).pf=g.pf:=rfl;have az:({g with T:=ip g.T x,calm:=false,q:=q}:ES).T.lits.length=g.T.lits.length+1:=by dsimp only;rw[aw];simp
     generalize({g with T:=ip g.T x,calm:=false,q:=q}:ES)=E2 at*;simp;refine⟨(H2,mp',V,E2,l,a,c),?_,⟨L2,Y,X.trans X2,by dsimp only;rw[s];exact B⟩,ai.keep (by simp) rfl⟩;dsimp only;rw[az];generalize(M+1 -c)*(2*n+5)=K;split<;>omega
    .have:=i.model A m (i.full hin) (by rw[j.fm];exact j.hcl);rw[hm]at this;cases this
end
theorem SP.new{n M:Nat}{cs:List (List Int)}{kp a:Int}{E:ES}{l:List Rc}(I:EI n cs (M+1) ((M+1)*(n+3)) l E)(N:NewOk n cs kp E l cs)(m:cs.length<=100000)(k:0<=a):SP n M cs a E l 0:=by
 have b:(aQ 0 l).map (λy=>(y.id,y.lits))=cs.mapIdx λi c=>(((i+1:Nat):Int),c):=(sC l 0 λx hx=>by rw[N.side x hx];decide).trans N.num;have f:∀x∈l,x.side≠1:=λx hx=>by rw[N.side x hx];decide
 have o:(l.filter λx=>decide (x.side=1))=[]:=by
  rw[Uz];intro x hx;simp[N.side x hx]
 exact{
  I:=I
  mn:=N.many
  cap:=Te _
  cb:=k
  vr:=N.vars
  fm:=N.cs
  pfs:=by rw[N.pf];simp
  lz:=by have:=Vk List.length N.num;simp at this;omega
  idz:=by rw[N.id];simp
  cl:=λd hd=>by
   obtain⟨i,hi,rfl⟩:=S6 hd;have:(((i+1:Nat):Int),cs[i])∈(aQ 0 l).map λy=>(y.id,y.lits):=by
    rw[b,List.mem_mapIdx];exact⟨i,hi,rfl⟩
   obtain⟨y,hy,e⟩:=SY.1 this;obtain⟨g,j⟩:=XQ e;exact⟨y,hy,j,by rw[g];omega⟩
  sd:=λx hx h=>absurd h (f x hx)
  lf:=by rw[o];exact Te _
  kp:=by rw[N.keep];exact KB kp
  pe:=λ_=>by rw[N.pf];rfl
  ck:=⟨_,(CkE.new m N.num N.side N.id N.pf).to I⟩
  ov:=λh _=>by
   obtain⟨x,hx,e⟩:=I.ovr.1 h;rw[←e,←N.rc];exact UQ hx
  zz:=λ_=>.inl rfl}
end Go.AX
namespace Go.AX
set_option maxRecDepth 16000
open Go.Proofs
set_option linter.unusedSimpArgs false
set_option maxHeartbeats 1000000 in
theorem C2(h:List (List SV))(n:Nat)(cs:List (List Int))(rs kp p a:Int)(hn:n<=12)(B:cs.length<=100)(hcl:∀c∈cs,c.length<=50)(hk:(d7 n cs).2=0)(g:0<=a∧a<=2000):
 ax Tryz.prog 28 [.agg [ab n,.seq false 1 (cs.map aw)],.agg [ab rs,ab kp,ab p],ab a] h (λy h'=>(∃r,y=.pv (.tup [r,ab 0])∧Q1 n cs a (.pv r))∧Ext h h' (λ_=>False) (λb=>h.length<=b)):=by
 refine cI [] [.cell 6 _,.tmp 7] aC Tryz.func28 ?_;have f:∀c∈cs,c.length<=1000000:=λc T=>by have:=hcl c T;omega
 have z:¬a<0:=by omega
 have A:¬1000000<a:=by omega
 obtain⟨M,hM⟩:=Uk g.1;have U:(M+1)*(n+3)<=2001*15:=Nat.mul_le_mul (by omega) (by omega);obtain⟨G,j⟩:∃G:List (List SV),G=h++[[.pv (ab n),.pv (.seq false 1 (cs.map aw))],[.pv (ab rs),.pv (ab kp),.pv (ab p)],[.pv (.lit (.int .i64 0)),.pv (.lit (.int .i64 0)),.pv (.lit (.slice none 0 0)),.pv (.lit (.slice none 0 0))]]:=⟨_,rfl⟩;have Q:=MJ G n (by omega) cs rs kp p (by omega) f hk (r:=M+1) (s:=(M+1)*(n+3)) (by omega) (by omega);have S:G.length=h.length+3:=by rw[j];simp
 have g0:G[h.length]?=some [.pv (ab n),.pv (.seq false 1 (cs.map aw))]:=by rw[j];simp
 have J:G[h.length+1]?=some [.pv (ab rs),.pv (ab kp),.pv (ab p)]:=by rw[j];simp
 have g2:G[h.length+2]?=some [.pv (.lit (.int .i64 0)),.pv (.lit (.int .i64 0)),.pv (.lit (.slice none 0 0)),.pv (.lit (.slice none 0 0))]:=by rw[j];simp
 simp[z,A];rw[←j];obtain⟨l0,v⟩:=SG.1 g0;obtain⟨l1,w⟩:=SG.1 J;refine ah.introM Q ?_;clear Q;rintro _ H ⟨be,bt,ba,bw,bh,mp,E,l,rfl,L,X,I,N⟩;have O:=X.len;have h0:=(X.same h.length (by omega) (λe=>e)).trans g0;have h1:=(X.same (h.length+1) (by omega) (λe=>e)).trans J;have K:=(X.same (h.length+2) (by omega) (λe=>e)).trans g2;obtain⟨k0,v⟩:=SG.1 h0;obtain⟨P,w⟩:=SG.1 h1;obtain⟨o,i⟩:=SG.1 K;have q:∀b,b<G.length->¬cV be bt ba bw bh mp [] b:=λb g d=>X.sub b g d;simp[k0,P,o,v,w,i];refine ah.intro (uB rs kp p) ?_;simp[k0,P,o,v,w,i];refine am.intro (A0 (h:=H) (rE rs) a L (SP.new I N (by omega) g.1) N.pf (by omega) (KC rs) (by omega) B f) ?_;rintro r R ⟨⟨k,c,m,pf,rfl,D,F,Y⟩,u⟩;have C:=u.len;have V:=(u.same (h.length+2) (by omega) (q _ (by omega))).trans K;obtain⟨o,i⟩:=SG.1 V;have x:∀y,Ext h (R.set (h.length+2) y) (λ_=>False) (λb=>h.length<=b):=λy=>by
  refine⟨by rw[Ti];omega,λb g _=>?_,λb g d=>by omega⟩;rw[Tc (by omega),u.same b (by omega) (q b (by omega)),X.same b (by omega) (λe=>e),j,SO g]
 rcases Y with⟨rfl,W,rfl,t,Z⟩|⟨rfl,rfl,t⟩|⟨rfl,rfl,t⟩
 .simp[fv,o,i];exact⟨⟨1,c,_,pf,rfl,D,F,.inl ⟨rfl,W,rfl,t,Z⟩⟩,x _⟩
 .simp[fv,o,i];exact⟨⟨2,c,_,pf,rfl,D,F,.inr (.inl ⟨rfl,rfl,t⟩)⟩,x _⟩
 .simp[fv,o,i];exact⟨⟨3,c,_,pf,rfl,D,F,.inr (.inr ⟨rfl,rfl,t⟩)⟩,x _⟩
theorem jG(n:Nat)(cs:List (List Int))(rs kp d a:Int)(hn:n<=12)(b:cs.length<=100)(hcl:∀c∈cs,c.length<=50)(hk:(d7 n cs).2=0)(f:0<=a∧a<=2000):
 ak Tryz.prog 28 [.agg [ab n,.seq false 1 (cs.map aw)],.agg [ab rs,ab kp,ab d],ab a] (λy=>∃(k:Int)(c:Nat)(m:PV)(pf:List Stp),y=.pv (.tup [fv k c m pf,ab 0])∧GF n cs a k c m pf):=by
 refine ax.pure ((C2 [] n cs rs kp d a hn b hcl hk f).mono ?_);rintro _ _ ⟨⟨_,rfl,k,c,m,pf,e,h⟩,_⟩;cases e
 exact⟨_,rfl,k,c,m,pf,rfl,h⟩
def Ss(n:Nat)(cs:List (List Int))(a:Int)(y:SV):Prop:=∃(k:Int)(c:Nat)(m:PV)(pf:List Stp),GF n cs a k c m pf∧y=.pv (.tup [BL (decide (k=1)),ab (if k=3 then 50 else 0)])
theorem uJ(n:Nat)(cs:List (List Int))(a:Int)(hn:n<=12)(d:cs.length<=100)(hcl:∀c∈cs,c.length<=50)(hk:(d7 n cs).2=0)(f:0<=a∧a<=2000):
 ak Tryz.prog 38 [.agg [ab n,.seq false 1 (cs.map aw)],ab a] (Ss n cs a):=by
 refine iX [] [.tmp 4,.tmp 5] aC Tryz.func38 ?_;have g:=jG n cs 50 500 5 a hn d hcl hk f;simp;refine ah.introR g ?_;rintro _ ⟨k,c,m,pf,rfl,h⟩;rcases h.2.2 with⟨e,i,b,_⟩|⟨e,b,_⟩|⟨e,b,_⟩
 .subst e b;refine⟨by simp[fv],?_⟩;simp[fv];exact⟨1,c,_,pf,h,rfl⟩
 .subst e b;refine⟨by simp[fv,ub],?_⟩;simp[fv];exact⟨2,c,_,pf,h,rfl⟩
 .subst e b;refine⟨by simp[fv],?_⟩;simp[fv];exact⟨3,c,_,pf,h,rfl⟩
section
variable {c : Nat} {k b : Int} {m : PV} {pf : List Stp}
theorem Nm(h:GF 1 [[1],[-1]] 0 k c m pf):k=3∧m=.lit (.slice none 0 0):=by
 obtain⟨d,_,⟨_,b,_,h1,a⟩|⟨_,_,_,h1,_⟩|⟨h1,a,_⟩⟩:=h
 .exact absurd ⟨b,h1,a⟩ KF
 .exact absurd (h1 (by omega)) (by simp)
 .exact⟨h1,a⟩
theorem Nn(h:GF 1 [[1],[-1]] b k c m pf)(j:0<b):k=2∧m=.lit (.slice none 0 0)∧0<c∧(c:Int)<=b∧(c<=100->pf.length=c):=by
 obtain⟨i,d,⟨_,l,_,h1,a⟩|⟨g,f,_,h1,_⟩|⟨_,_,h1,a⟩⟩:=h
 .exact absurd ⟨l,h1,a⟩ KF
 .refine⟨g,f,Nat.pos_of_ne_zero λe=>absurd (h1 e) (by simp),i,d⟩
 .have:=(a So).1;omega
theorem Q2(h:GF 2 [[1,2],[-1]] 0 k c m pf):k=1∧m=.seq true 1 (cT [false,true]):=by
 obtain⟨b,_,⟨h0,d,e,h1,a⟩|⟨_,_,_,h1,_⟩|⟨_,_,_,h1⟩⟩:=h
 .rw[MN h1 a]at e;exact⟨h0,e⟩
 .exact absurd (h1 (by omega)) (by simp)
 .have:=(h1 Sp).2 [false,true] (by decide);cases this
end
set_option maxHeartbeats 1000000 in
theorem cG:ak Tryz.prog 27 [] (λr=>r=.pv (BL true)):=by
 refine ap aC Tryz.func27 ?_;have f:=λ(b:Int) (d:0<=b∧b<=2000)=>jG 1 [[1],[-1]] 0 0 0 b (by decide) (by decide) (by decide) (by decide) d;have i:=jG 2 [[1,2],[-1]] 0 0 0 0 (by decide) (by decide) (by decide) (by decide) (by decide);have j:=rF 1 [[1],[-1]] 0 0 0 (-1) (by decide) (.inr (.inl (by decide)));have g:=λ(b:Int) (d:0<=b∧b<=2000)=>uJ 1 [[1],[-1]] b (by decide) (by decide) (by decide) (by decide) d;simp;refine ah.intro qi ?_;simp;refine ah.introR (f 0 (by decide)) ?_;rintro _ ⟨k,c,m,o,rfl,h⟩;obtain⟨rfl,rfl⟩:=Nm h;refine⟨by simp[fv],?_⟩;simp[fv];refine ah.intro qi ?_;simp;refine ah.introR (f 1 (by decide)) ?_;rintro _ ⟨k,c1,m,e,rfl,h⟩;obtain⟨rfl,rfl,h1,t,a⟩:=Nn h (by decide);have a:e.length=1:=by have:=a (by omega);omega
 refine⟨by simp[fv,ub],?_⟩;simp[fv];refine ah.introR i ?_;rintro _ ⟨k,c2,m,p,rfl,h⟩;obtain⟨rfl,rfl⟩:=Q2 h;refine⟨by simp[fv],?_⟩;simp[fv];refine ah.intro qi ?_;simp;refine ah.intro j ?_;simp;refine ah.intro qi ?_;simp;refine ah.introR (g 5 (by decide)) ?_;rintro _ ⟨k,c3,m,q,h,rfl⟩;obtain⟨rfl,rfl,_⟩:=Nn h (by decide);refine⟨by simp,?_⟩;simp;refine ah.intro qi ?_;simp;refine ah.introR (g 0 (by decide)) ?_;rintro _ ⟨k,c4,m,s,h,rfl⟩;obtain⟨rfl,rfl⟩:=Nm h;refine⟨by simp,?_⟩;have l:=uB (-3) 0 0;have n:=uB 7 0 0;simp[a];refine aV.intro (λ_=>l) ?_;simp[rE,a];refine aV.intro (λ_=>n) ?_;simp[rE,a]
end Go.AX
namespace Go.AX
open Go.Proofs
set_option linter.unusedSimpArgs false
theorem EO:∀{ss:List Stp}{c e:Ck}(i:Nat),og c ss e->e.done=true->pZ c ss i=(((i+ss.length:Nat):Int),0)
 |[],c,e,i,h,hd=>by
  cases h
  rw[pZ,SN hd];rfl
 |s::ss,c,e,i,h,hd=>by
  rw[pZ,SM (by simp[h.1]),EO (i+1) h.2 hd];simp[UN,WM 1]
theorem MS{n:Int}{F:List (List Int)}{ss:List Stp}{e:Ck}(hk:(d7 n F).2=0)(h:og (t7 F) ss e)(hd:e.done=true):F9 n F ss=((ss.length:Int),0):=by
 unfold F9;rw[SM (by simp[hk]),EO 0 h hd];simp
theorem MT{s:Stp}(h:ir s=true):s.lits.length<=100000∧s.hints.length<=1000:=by
 have a:∀lo,nY s.hints lo=true->s.hints.length<=1000:=λlo q=>by
  unfold nY at q;rw[S4,S9]at q;exact q.1
 unfold ir at h
 by_cases b:s.kind=1
 .rw[SN b]at h;simp only[S4,S9]at h;refine⟨?_,a _ h.2.2.2⟩;have:=h.2.2.1;unfold iD at this;split at this
  .cases this
  split at this
  .cases this
  omega
 .rw[SM b]at h
  by_cases c:s.kind=2
  .rw[SN c]at h;simp only[S4,S9]at h;exact⟨by omega,a _ h.2.2.2⟩
  .rw[SM c]at h;cases h
set_option maxRecDepth 16000 in
set_option maxHeartbeats 1000000 in
theorem uX(v:Int)(cs:List (List Int))(rs kp t a:Int):
 ak Tryz.prog 9 [.agg [ab v,.seq false 1 (cs.map aw)],.agg [ab rs,ab kp,ab t],ab a] (λr=>r=.pv (BL true)):=by
 refine ap aC Tryz.func9 ?_;simp;refine ah.intro (KE v cs) ?_;cases J:AR v cs
 .simp;refine ah.intro cG ?_;simp
 obtain⟨P,E,l⟩:=KG J;simp;refine⟨λ_=>?_,λc1 c2=>?_⟩
 .refine ah.intro cG ?_;simp
 by_cases hk:(d7 v cs).2≠0∨a<0
 .have N:=rF v cs rs kp t a l (hk.imp id .inl);have A:(if a<0∨1000000<a then 2 else(d7 v cs).2)≠0:=by
   split
   .decide
   .rename_i q;exact hk.resolve_right λe=>q (.inl e)
  generalize(if a<0∨1000000<a then 2 else(d7 v cs).2)=e at*;refine ah.intro N ?_;simp[A];refine ah.intro cG ?_;simp
 obtain⟨hk,Q⟩:=XF.1 hk;replace hk:(d7 v cs).2=0:=Tl hk;obtain⟨n,rfl⟩:=Uk (show 0<=v by omega);have O:=jG n cs rs kp t a (by omega) E l hk (by omega);have C:=CX n n (by omega) cs (by omega) (λc u=>by have:=l c u;omega);have o:=uJ n cs a (by omega) E l hk (by omega);have b:∀j:List Bool,(∀c∈cs,cd c j=true)->¬Of cs []:=λj h1 H=>by
  have:=H j h1;cases this
 refine ah.introR O ?_;rintro _ ⟨k,c,m,pf,rfl,R,S,g⟩;rcases g with⟨rfl,p,rfl,x,w⟩|⟨rfl,rfl,F,_,L,e,M,hd,z⟩|⟨rfl,rfl,_⟩
 .refine⟨by simp[fv],?_⟩;simp[fv];refine ah.introR C ?_;rintro _ ⟨many,y,rfl,⟨_,_,hn⟩|⟨h1,j,rfl,K,d⟩⟩
  .exact absurd w (hn p x)
  have h:many≠0:=by omega
  refine⟨by simp,?_⟩;simp[h1,h];refine ah.introR o ?_;rintro _ ⟨B,c3,D,i,⟨_,_,⟨rfl,_⟩|⟨_,_,f,_⟩|⟨rfl,_⟩⟩,rfl⟩
  .refine⟨by simp,?_⟩;simp[h1];refine ah.intro cG ?_;simp
  .exact absurd f (b _ d)
  .refine⟨by simp,?_⟩;simp[h1];refine ah.intro cG ?_;simp
 .have G:=Ga n cs pf (by omega) (λc u=>by have:=l c u;omega) (λs hs=>by have:=MT (z s hs);omega);rw[MS hk M hd]at G;refine⟨by simp[fv,ub],?_⟩;simp[fv];refine ah.introR C ?_;rintro _ ⟨many,y,rfl,⟨rfl,rfl,_⟩|⟨_,j,_,_,d⟩⟩;rotate_left
  .exact absurd F (b _ d)
  refine⟨by simp,?_⟩;simp;refine ah.intro G ?_;simp;refine ah.introR o ?_;rintro _ ⟨B,c3,D,i,⟨_,_,⟨_,p,_,_,f⟩|⟨rfl,_⟩|⟨rfl,_⟩⟩,rfl⟩
  .exact absurd F (b _ f)
  .refine⟨by simp,?_⟩;simp;refine ah.intro cG ?_;simp
  .refine⟨by simp,?_⟩;simp;refine ah.intro cG ?_;simp
 .refine⟨by simp[fv],?_⟩;simp[fv];refine ah.introR C ?_;rintro _ ⟨many,y,rfl,⟨rfl,rfl,h1⟩|⟨h1,j,rfl,_,d⟩⟩
  .refine⟨by simp,?_⟩;simp;refine ah.introR o ?_;rintro _ ⟨B,c3,D,i,⟨_,_,⟨_,p,_,I,f⟩|⟨rfl,_⟩|⟨rfl,_⟩⟩,rfl⟩
   .exact absurd f (h1 p I)
   .refine⟨by simp,?_⟩;simp;refine ah.intro cG ?_;simp
   .refine⟨by simp,?_⟩;simp;refine ah.intro cG ?_;simp
  .have h:many≠0:=by omega
   refine⟨by simp,?_⟩;simp[h1,h];refine ah.introR o ?_;rintro _ ⟨B,c3,D,i,⟨_,_,⟨rfl,_⟩|⟨_,_,f,_⟩|⟨rfl,_⟩⟩,rfl⟩
   .refine⟨by simp,?_⟩;simp[h1];refine ah.intro cG ?_;simp
   .exact absurd f (b _ d)
   .refine⟨by simp,?_⟩;simp[h1];refine ah.intro cG ?_;simp
end Go.AX