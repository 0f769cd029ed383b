/-
  Contracts: engines: clauses are forgotten; and what follows.
-/
import Derived.Test.YtepodadinenmnaaGreatZN
set_option linter.unusedSimpArgs false
set_option maxRecDepth 16000
namespace Go.AX
open Go.Proofs Go.Proofs.Tryz
section
def NR:Sch:=
 let j:Sch:=.fork [(17,.done)]
 let e:Sch:=.fork [(14,.take 15 (.take 16 j))]
 let f:Sch:=.fork [(13,e)]
 let d:Sch:=.fork [(12,f)]
 let g:Sch:=.fork [(11,d)]
 let h:Sch:=.fork [(8,d)]
 let k:Sch:=.fork [(8,g),(11,h)]
 let l:Sch:=.fork [(4,e)]
 let m:Sch:=.fork [(4,f),(13,l)]
 let i:Sch:=.fork [(4,d),(12,m)]
 let a:Sch:=.fork [(4,g),(11,i)]
 let b:Sch:=.fork [(4,h),(8,i)]
 let c:Sch:=.fork [(4,k),(8,a),(11,b)]
 .take 0 (.take 1 (.take 2 (.take 3 (.take 5 (.take 6 (.take 7 (.take 9 (.take 10 c))))))))
section
variable {h : ao} {be bt ba bw bh : Nat} {mp : cg} {mb : List (Int × By)} {E : ES} {n r s : Nat} {F : au} {l : List Rc}
def Vc(r:Nat->Nat->PV)(bt ba bw bh:Nat)(E:ES):PV:=.iptr 17 [(cE bt ba bw bh E).map (frzC r)] 0 0
theorem PI(a:h[be]?=some (cE bt ba bw bh E))(m:Nat):bE h (m+1) be 0=Vc (bE h m) bt ba bw bh E:=by
 rw[bE,Vr,a];rfl
theorem NT(rd:Nat->Nat->PV)(d:rd ba 0=mj E.A)(h0:E.A.hd≠[])(hk:lX E.A)(g:E.A.row.length<=1000000)(ks:af)(j:ks.length<=1000000):aw prog 95 [Vc rd bt ba bw bh E,.seq false 1 (am ks)] (λr=>r=.pv (.seq true 1 (am (ks.map (iv E.A))))):=by
 refine aw.wk (R:=λr=>∃x,r=.pv x∧cr x (.seq true 1 (am (ks.map (iv E.A))))) ?_ (λr ⟨x,e,h⟩=>⟨x,_,e,h,rfl⟩);refine iF [] [.tmp 4] aP func95 ?_;have m:=λk=>uh E.A h0 hk g k;obtain⟨V,f⟩:∃V,V=mj E.A:=⟨_,rfl⟩;rw[←f]at d;simp[Vc,cE,d];refine⟨by omega,?_⟩;rw[f]at d⊢;refine aM.intro (S:=λ(i:Nat)=>⟨[(5,.pv (.fn (.func 158) [mj E.A] [])),(6,.own true 1 (am (wE (iv E.A) ks i))),(17,.pv (.seq false 1 (am ks))),(18,.pv (ak ks.length)),(19,.pv (ak i))],[]⟩) (λi=>i<=ks.length) (λi=>ks.length -i) 0 ?_ (VH _) ?_;exact av.keep (by simp[wE,am]) rfl;intro i hi;have a:=CL (iv E.A) ks i hi;by_cases c:i<ks.length;have l:=dU i;have hs:=CM (iv E.A) ks i c;simp[c];refine ap.intro (m ks[i]) ?_;simp[a,c];exact⟨i+1,by(try dsimp only);omega,by(try dsimp only);omega,av.keep (by simp[l,jn,hs]) rfl⟩;have b:i=ks.length:=by omega
 subst b;simp[CN,cr,bX]
theorem yL{x y:aD}(h:bX x y):∀a:aT,pq (a++[x]) (a++[y])
 |[]=>⟨h,trivial⟩
 |z::a=>⟨lP z,yL h a⟩
theorem av.pf{k0:Nat}{t:List (Nat×SV)}{rows a:aT}{y0 d e f g i j l m n z0 o p z3 z4 q:SV}(c:be<h.length)(r:pq rows a):av k0 ⟨t,h.set be [y0,d,e,f,g,i,j,l,m,n,z0,o,p,z3,z4,.own true 4 rows,q]⟩ ⟨t,h.set be [y0,d,e,f,g,i,j,l,m,n,z0,o,p,z3,z4,.own true 4 a,q]⟩:=by
 have:=av.rows (k0:=k0) (st:=⟨t,h.set be [y0,d,e,f,g,i,j,l,m,n,z0,o,p,z3,z4,.own true 4 rows,q]⟩) (b:=be) (k:=15) (VZ c) rfl r;rw[YD]at this;exact this
def TV(h:ao)(be bt ba bw bh:Nat)(mp:cg)(mb:List (Int×By))(n:Nat)(F:au)(r s:Nat)(l:List Rc)(E:ES)(h':ao):Prop:=∃ks mp' mb',RedOk l E ks∧LayE h' be bt ba bw bh mp' mb' (oG E ks)∧Ext h h' (dH be bt ba bw bh mp mb) (dH be bt ba bw bh mp' mb')∧EI n F r s (nF l ks) (oG E ks)
set_option maxHeartbeats 1000000 in
theorem FF(L:LayE h be bt ba bw bh mp mb E)(I:EI n F r s l E)(aw:E.pf.length<=1000000)(au:(rA l).length<=100000):
 aI prog 53 [.ptr be 0] h (λy h'=>(∃z:Int,y=.pv (ak z))∧TV h be bt ba bw bh mp mb n F r s l E h'):=by
 refine dh [3,7] [.tmp 2] aP func53 ?_;obtain⟨b,f⟩:=Vp.1 L.e;have ar:=I.rsz;have kE:=C3 L I.ari (by omega) I.tok.okT;have kF:=FE (pB E (rA l)) (by have:=C2 E (rA l);omega) E.keep;obtain⟨M,v⟩:=PH (E:=E) I.ari 1000;have g:TV h be bt ba bw bh mp mb n F r s l E h:=⟨[],mp,mb,⟨aan,by simp,by simp,λ_=>rfl,by simp⟩,L,Ext.refl _ _,I⟩;have ae:(((rA l).filter (qJ E.A)).length:Int)<=E.keep->lW (pB E (rA l)) E.keep=[]:=λh=>Vt (by unfold pB;rw[VA];exact h);generalize lW (pB E (rA l)) E.keep=m at*;simp;refine ay.intro (ip L.e) ?_;rintro _ h ⟨rfl,rfl⟩;cases ho:E.over;rotate_left;simp[f,b,cE,ho];exact g;by_cases c:0<=E.con;simp[f,b,cE,ho,c];exact g;simp[f,b,cE,ho,c];refine bP.meet Qd ⟨[(0,.pv (.ptr be 0)),(2,.pv (ak 0)),(3,.pv (.seq true 1 (am m)))],h⟩ (by kernel_rfl) ?_ ?_
 .simp[Qd,f,b,cE]
  repeat' first
   |trivial
   |refine And.intro ?_ ?_
   |(refine ay.intro kE ?_;rintro _ h ⟨rfl,rfl⟩;simp[f,b,cE])
   |(refine ap.intro kF ?_;simp;exact(av.frz (s:=3) (e:=1) (nw:=true) (rows:=am m) (by simp)).trans (av.keep (by simp) rfl))
 by_cases X:m.length=0;simp[X];exact g;have N:m≠[]:=λe=>X (by rw[e];rfl);obtain⟨ks,K⟩:∃ks,m.take 1000=ks:=⟨_,rfl⟩;have t:ks.length=min 1000 m.length:=by rw[←K,Vy]
 have ab:(if(1000:Int)<m.length then(1000:Int)else m.length)=(ks.length:Int):=by split<;>omega
 have ai:(am m).take ks.length=am ks:=by
  have e:m.take ks.length=ks:=by
   rw[t,←K];by_cases d:1000<=m.length;rw[WL d];rw[Nat.min_eq_right (by omega),VT (Vu _),VT (by omega)]
  conv=>rhs;rw[←e]
  simp[am,Xn]
 have ad:ks.length<=m.length:=by omega
 rw[K]at M v;have P:bd ⟨2,E.id,[],ks.map (iv E.A)⟩=[ak 2,ak E.id,.seq false 1 [],.seq false 1 (am (ks.map (iv E.A)))]:=rfl;have h0:E.A.hd≠[]:=by
  obtain⟨k,hk⟩:=ZV ks (λe=>by rw[e]at t;simp at t;omega);obtain⟨y,hy,_⟩:=v k hk;exact Ek ((I.ari.isA y.at').2 ⟨y,hy,rfl⟩)
 have kI:=(NT (bt:=bt) (bw:=bw) (bh:=bh) (E:=E) (bE h 2) (GE L.w.a 1) h0 I.arok (by omega) ks (by omega));have hz:=PI L.e 2;obtain⟨stp,G⟩:∃x:Stp,x=⟨2,E.id,[],ks.map (iv E.A)⟩:=⟨_,rfl⟩;rw[←G]at P;have ah:pq (E.pf.map bd++[[ak 2,ak E.id,.lit (.slice none 0 0),.seq true 1 (am (ks.map (iv E.A)))]]) (E.pf.map bd++[bd stp]):=by
  rw[P];exact yL (by simp[bX,cr,ic]) _
 have L1:=L.eng {E with pf:=E.pf++[stp]} rfl rfl rfl rfl;have X1:=Ext.set (D:=dH be bt ba bw bh mp mb) (h:=h) be (cE bt ba bw bh {E with pf:=E.pf++[stp]}) (.inl rfl);simp[X,N,ab,ai];refine⟨ad,?_⟩;refine bP.meet NR ⟨[(0,.pv (.ptr be 0)),(2,.pv (ak 0)),(3,.pv (.seq true 1 (am ks)))],h.set be (cE bt ba bw bh {E with pf:=E.pf++[stp]})⟩ (by kernel_rfl) ?_ ?_
 .simp[NR,f,b,cE,hz]
  repeat' first
   |trivial
   |refine And.intro ?_ ?_
   |(refine ay.introP kI ?_ (by simp) (by simp);simp[f,b,cE])
  all_goals first
   |omega
   |(refine av.trans ?_ (av.pf b ah);exact av.keep (by simp) (by simp[ho]))
 have af:ks≠[]:=λe=>by rw[e]at t;simp at t;omega
 have C:oG E ks=ks.foldl jK {E with pf:=E.pf++[stp]}:=by rw[oG,Vs af,G]
 obtain⟨o,j⟩:∃x:ES,x={E with pf:=E.pf++[stp]}:=⟨_,rfl⟩;have I1:EI n F r s l o:=by rw[j];exact{I with}
 have o1:o.over=false:=by rw[j];exact ho
 have c1:o.con=E.con:=by rw[j]
 have t1:o.T=E.T:=by rw[j]
 rw[←j]at L1 X1 C⊢;clear j;simp;refine aM.intro (S:=λ(x:Nat×ao)=>⟨[(0,.pv (.ptr be 0)),(3,.pv (.seq true 1 (am ks))),(54,.pv (.seq true 1 (am ks))),(55,.pv (ak ks.length)),(56,.pv (ak x.1))],x.2⟩)
  (λx=>x.1<=ks.length∧∃mp' mb',LayE x.2 be bt ba bw bh mp' mb' ((ks.take x.1).foldl jK o)∧Ext h x.2 (dH be bt ba bw bh mp mb) (dH be bt ba bw bh mp' mb')∧EI n F r s (nF l (ks.take x.1)) ((ks.take x.1).foldl jK o)) (λx=>ks.length -x.1) (0,h.set be (cE bt ba bw bh o)) ?_ ⟨VH _,mp,mb,L1,X1,I1⟩ ?_
 exact av.keep (by simp) rfl;rintro⟨i,H⟩ ⟨hi,U,R,J,W,p⟩;dsimp only at hi J W p;by_cases O:i<ks.length;obtain⟨k,hk⟩:∃k,ks[i]=k:=⟨_,rfl⟩;have hw:=dU i;have q:(ks.take (i+1)).foldl jK o=jK ((ks.take i).foldl jK o) k:=by rw[mi O,Y7,hk];rfl
 have Y:nF l (ks.take (i+1))=fv k 0 (nF l (ks.take i)):=by unfold nF;rw[mi O,Y7,hk];rfl
 obtain⟨y,hy,B,aj,_⟩:=v k (hk▸Vx O);obtain⟨q1,q2,q3,_⟩:=r9 (ks.take i) o;have ag:k∉ks.take i:=λhm=>by
  have h2:(ks.take (i+1)).Nodup:=M.sublist (XZ _ _);rw[mi O,hk]at h2;exact(YN.1 h2).2.2 k hm k (VY.2 rfl) rfl
 have Q:y∈bs 0 (nF l (ks.take i)):=wK.2 ⟨hy,by rw[B];exact ag⟩;generalize(ks.take i).foldl jK o=u at*;have ID:=p.drop1 (q2.trans o1) (by rw[q3,c1];omega) Q (by rw[q1,t1,B];exact aj);rw[B,←Y,←q]at ID;have Z:=iX _ 0 y Q;rw[←p.ari.row,B]at Z;have ax:=p.rsz;obtain⟨e1,e2⟩:=Vp.1 J.e;have kD:=Ff H bw ba bt U R u.A u.T u.S J.w p.wok.nd k (p.wok.toWch.hx k) (p.wok.toWch.hz p.wok.few);simp[O,hk,e1,e2,cE];refine ay.intro kD ?_;rintro _ H2 ⟨rfl,aq,an,W2,X2⟩;have V:=J.watch W2 X2;obtain⟨e3,e4⟩:=Vp.1 V.e;have kA:=MV H2 ba u.A V.w.a k (λ_=>by omega) (by omega);simp[e3,e4,cE];refine ay.intro kA ?_;rintro _ _ ⟨rfl,rfl⟩;have L3:=V.arena (tV u.A k);obtain⟨e5,e6⟩:=Vp.1 L3.e;have L4:=L3.eng (jK u k) rfl rfl rfl rfl;have X4:=W.trans (((Ext.eng (be:=be) (bh:=bh) (ba:=ba) X2).trans (Ext.set ba (kJ (tV u.A k)) (.inr (.inr (.inl rfl))))).trans (Ext.set be (cE bt ba bw bh (jK u k)) (.inl rfl)));simp at e5;simp[e3,e5,e6,cE];exact⟨(i+1,(H2.set ba (kJ (tV u.A k))).set be (cE bt ba bw bh (jK u k))),by dsimp only;omega,⟨by dsimp only;omega,aq,an,by dsimp only;rw[q];exact L4,X4,ID⟩,av.keep (by simp[hw]) (by simp[cE,jK])⟩;have aa:i=ks.length:=by omega
 subst aa;rw[VX]at J p;rw[←C]at J p;simp;exact⟨ks,U,R,⟨M,by omega,v,λe=>absurd (ae e) N,λ_=>⟨ho,by omega⟩⟩,J,W,p⟩
end
end
def wL:Ck->List Stp->Prop
 |_,[]=>True
 |c,s::r=>(s.kind=1->qB c s=true)∧wL (cB c s).1 r
theorem wL.snoc:∀{l:List Stp}{c d:Ck}{s:Stp},nu c l d->wL c l->(s.kind=1->qB d s=true)->wL c (l++[s])
 |[],_,_,_,h,_,a=>by cases h;exact⟨a,trivial⟩
 |_::l,_,_,_,h,k,a=>⟨k.1,wL.snoc (l:=l) h.2 k.2 a⟩
structure CkF (F:au) (l:List Rc) (E:ES) (c:Ck):Prop where
  run:nu (jG F) E.pf c
  m:c.m=(bs 0 l).map λx=>(x.id,x.lits)
  last:c.last=E.id
  dn:c.done=E.over
  g:CkG c
  may:∀s∈E.pf,g8 s=true
  sh:wL (jG F) E.pf
theorem HH{α:Type}:∀{m:List (Int×α)},Ag m->∀k,dl m k=m.filter λq=>decide (q.1≠k)
 |[],_,_=>rfl
 |(j,x)::m,h,k=>by
  replace h:=XP.1 h;rw[dl,Wl];by_cases e:j=k;rw[Vt e,Vs (by simp[e]),WU.2];intro q a;have:=h.1 q a;simp only at this;simp;omega;rw[Vs e,Vt (by simp[e]),HH h.2]
theorem C4{α:Type}:∀(ids:af){m:List (Int×α)},Ag m->ids.foldl dl m=m.filter λq=>decide (q.1∉ids)
 |[],m,_=>(WU.2 λ_ _=>rfl).symm
 |k::ids,m,h=>by
  rw[Yl,HH h,C4 ids (h.sublist Yx),List.filter_filter];refine Z1 λq _=>?_;simp[aac,Bool.and_comm]
theorem yM:∀(ks:af)(l:List Rc),bs 0 (nF l ks)=(bs 0 l).filter λy=>decide (y.at'∉ks)
 |[],l=>(WU.2 λ_ _=>rfl).symm
 |k::ks,l=>by
  have a:=yM ks (fv k 0 l);show bs 0 (nF (fv k 0 l) ks)=_;rw[a,oE,List.filter_filter];refine Z1 λq _=>?_;simp[aac,Bool.and_comm]
theorem C5:∀(ks:af)(l:List Rc),(nF l ks).length=l.length
 |[],_=>rfl
 |k::ks,l=>(C5 ks (fv k 0 l)).trans (CI l 0 k).1
section
variable {n r s : Nat} {F : au} {l : List Rc} {E : ES} {c : Ck}
theorem CkE.to(K:CkE F l E c)(h:EI n F r s l E)(hs:wL (jG F) E.pf):CkF F l E c:=⟨K.run,by rw[K.m,uq l 0 K.al],K.last,K.over h,K.g,K.may,hs⟩
theorem CkF.mem(K:CkF F l E c){y:Ro}(hy:y∈bs 0 l):(y.id,y.lits)∈c.m:=by
 rw[K.m];exact VB.2 ⟨y,hy,rfl⟩
theorem CkF.one(K:CkF F l E c){x y:Ro}(hx:x∈bs 0 l)(hy:y∈bs 0 l)(e:x.id=y.id):x=y:=by
 have hp:=K.g.rs;rw[K.m]at hp;have hp:=V5.1 (Xe.1 hp);obtain⟨i,hi,rfl⟩:=VE hx;obtain⟨j,hj,rfl⟩:=VE hy;rcases Xd i j with c|c|c;have:=hp i j hi hj c;simp only at this;omega;subst c;rfl;have:=hp j i hj hi c;simp only at this;omega
theorem CkF.res(K:CkF F l E c)(h:EI n F r s l E)(P:0<=E.con)(oL:E.id+1<=10000000)(q:HS)(p:dC)(k:Int):
 CkF F (l++[⟨E.id+1,1,aY E⟩]) (tW E q p k) (px c (E.id+1) (aY E)):=by
 have R:=h.res P;have Q:=h.n9;have H:=h.idz;have e:∀y∈aY E,dF y=true:=λy hy=>V.okL_chk (v:=n) (by omega) (R.chk y hy);have i:∀z∈gy E,∃y∈bs 0 l,iv E.A z=y.id∧aJ E.A z=y.lits∧1<=y.id∧lk c.m y.id=some y.lits:=λz hz=>by
  obtain⟨y,hy,rfl⟩:=R.hin.2 z hz;obtain⟨J,L⟩:=h.ari.at hy;exact⟨y,hy,L,J,h.ari.ids y hy,Ag.lk K.g.rs (K.mem hy)⟩
 have o:gN (aY E)=false:=by
  unfold gN;rw[Xo];intro x hx;simp only[mP,VC,VI];rintro⟨⟨_,_⟩,_,B⟩;have h1:=R.neg x hx;have f:=R.neg (-x) B;rw[XI]at f;exact h.one (e x hx) ⟨f,h1⟩
 have b:∀z∈(gy E).map (iv E.A),1<=z∧z<=10000000∧(lk c.m z).isSome=true:=λz hz=>by
  obtain⟨u,S,rfl⟩:=VB.1 hz;obtain⟨y,hy,t,_,N,w⟩:=i u S;have:=K.g.hi _ (K.mem hy);rw[K.last]at this;rw[t,w];exact⟨N,by dsimp only at this;omega,rfl⟩
 have j:ct c ((gy E).map (iv E.A))=(gy E).map (aJ E.A):=by
  unfold ct;rw[Wo];refine XE λz hz=>?_;obtain⟨y,hy,t,M,_,w⟩:=i z hz;simp only[Function.comp,t,w,M,V7]
 have d:g8 ⟨1,E.id+1,aY E,(gy E).map (iv E.A)⟩=true:=by
  unfold g8;rw[Vt rfl];have h1:iM (aY E) 100000=0:=yF (by have:=R.len;omega) e R.nd;have f:pR ((gy E).map (iv E.A)) (-10000000)=true:=by
   unfold pR;rw[WP (by rw[VA];have:=R.hle;omega),Yd];rw[Wp,Xo];intro z hz;have:=b z hz;simp only[IQ,WI,VI];omega
  simp only[h1,f,decide_true,Bool.and_true,VC,VI];omega
 have G:gF c ((gy E).map (iv E.A))=true:=by
  unfold gF;rw[Wa];intro z hz;obtain⟨h1,f,B⟩:=b z hz;have:zZ z=z:=by
   unfold zZ;rw[aC (by omega) (by omega),Vs (by omega)]
  rw[this];exact B
 have a:mW (aY E)=0:=by
  unfold mW Lu;rw[Vs,Vs (by rw[o];simp)];rw[YA,Xo];intro x hx;have ho:=e x hx;have T:=(bO x).1 ho;have:¬bH x<0:=by
   unfold bH gr;rw[Vt ho];split<;>omega
  simpa using this
 have I:(pu (aY E) ((gy E).map (aJ E.A))).2=0:=by
  unfold pu;rw[Vt a];exact R.shw
 have C:sO c (aY E) ((gy E).map (iv E.A))=0:=by
  unfold sO;rw[EY λx hx=>by have:=b x hx;omega];dsimp only;rw[j,I];simp
 have D:qB c ⟨1,E.id+1,aY E,(gy E).map (iv E.A)⟩=true:=by
  unfold qB;rw[VC,Wa];exact⟨λz hz=>(b z hz).2.2,WP (by dsimp only;rw[j];exact I)⟩
 have a:=Jc (s:=⟨1,E.id+1,aY E,(gy E).map (iv E.A)⟩) d rfl (by rw[K.last];dsimp only;omega) o G C;dsimp only at a;obtain⟨O,g2⟩:=K.g.put (id:=E.id+1) (l:=aY E) (by rw[K.last];omega) (by omega);exact{
  run:=by
   have:=K.run.snoc (s:=⟨1,E.id+1,aY E,(gy E).map (iv E.A)⟩) (by rw[a]);rw[a]at this;exact this
  m:=by
   rw[O,K.m,jp,V1,Wr];rfl
  last:=rfl
  dn:=by
   show(c.done||decide ((aY E).length=0))=(E.over||decide ((aY E).length=0));rw[K.dn]
  g:=g2
  may:=λs hs=>by
   rcases VF.1 hs with hs|hs;exact K.may s hs;rw[VY]at hs;subst hs;exact d
  sh:=wL.snoc K.run K.sh λ_=>D}
theorem CkF.red(K:CkF F l E c)(h:EI n F r s l E){ks:af}(R:RedOk l E ks)(oL:E.id<=10000000):∃c',CkF F (nF l ks) (oG E ks) c':=by
 by_cases e:ks=[];subst e;exact⟨c,by rw[oG,Vt rfl];exact K⟩;obtain⟨ids,a⟩:∃x,x=ks.map (iv E.A):=⟨_,rfl⟩;have b:∀k∈ks,∃y∈bs 0 l,y.at'=k∧iv E.A k=y.id:=λk hk=>by
  obtain⟨y,hy,e,_⟩:=R.is k hk;exact⟨y,hy,e,by rw[←e];exact(h.ari.at hy).2⟩
 have o:∀y∈bs 0 l,(y.id∈ids↔y.at'∈ks):=λy hy=>by
  rw[a,VB];constructor;rintro⟨k,hk,e⟩;obtain⟨z,hz,D,q⟩:=b k hk;have:=K.one hz hy (by rw[←q,e]);rw[←this,D];exact hk;intro hk;exact⟨_,hk,(h.ari.at hy).2⟩
 have hin:∀x∈ids,1<=x∧x<=10000000∧(lk c.m x).isSome=true:=λx hx=>by
  rw[a]at hx;obtain⟨k,hk,rfl⟩:=VB.1 hx;obtain⟨y,hy,_,q⟩:=b k hk;have t:=K.mem hy;have h1:=K.g.lo _ t;have f:=K.g.hi _ t;rw[K.last]at f;dsimp only at h1 f;rw[q,Ag.lk K.g.rs t];exact⟨h1,by omega,rfl⟩
 have u:ids.Nodup:=by
  rw[a];refine Xe.2 (R.nd.imp_of_mem λ{H I} h1 f v e=>v ?_);obtain⟨N,G,B,b1⟩:=b H h1;obtain⟨O,g2,C,b2⟩:=b I f;rw[←B,←C,K.one G g2 (by rw[←b1,←b2,e])]
 have i:dropB c ids=false:=(MH λx hx=>by have:=hin x hx;omega).2 ⟨u,λx hx=>(hin x hx).2.2⟩;have j:=h.idz;have d:g8 ⟨2,E.id,[],ids⟩=true:=by
  unfold g8;rw[Vs (by dsimp only;decide),Vt rfl];have f:pR ids 1=true:=by
   unfold pR;rw[WP (by rw[a,VA];exact R.few),Yd];rw[Wp,Xo];intro z hz;have:=hin z hz;simp only[IQ,WI,VI];omega
  simp only[f,Bool.and_true,VC,VI];exact⟨j.1,oL,rfl⟩
 have p:cB c ⟨2,E.id,[],ids⟩=(⟨ids.foldl dl c.m,c.last,c.done⟩,0):=by
  unfold cB;rw[Vs (by rw[rM,Vt d];simp),Vt rfl];unfold oq rK ki;dsimp only;rw[Vs (by rw[i];simp),Vs (by rw[i];simp),VX]
 obtain⟨_,J,_,w,_,_,_,L,_⟩:=r9 ks {E with pf:=E.pf++[⟨2,E.id,[],ids⟩]};refine⟨⟨ids.foldl dl c.m,c.last,c.done⟩,?_⟩;rw[oG,Vs e,←a];generalize List.foldl jK _ ks=M at*;exact{
  run:=by
   have:=K.run.snoc (s:=⟨2,E.id,[],ids⟩) (by rw[p]);rw[p]at this;rw[w];exact this
  m:=by
   dsimp only;rw[C4 ids K.g.rs,yM,K.m,List.filter_map];congr 1;refine Z1 λy hy=>?_;simp only[Function.comp,Z5];exact not_congr (o y hy)
  last:=by rw[L];exact K.last
  dn:=by rw[J];exact K.dn
  g:=K.g.drop ids
  may:=λs hs=>by
   rw[w]at hs;rcases VF.1 hs with hs|hs;exact K.may s hs;rw[VY]at hs;subst hs;exact d
  sh:=by
   rw[w];exact wL.snoc K.run K.sh λe=>by cases e}
end
structure Alk (E E':ES):Prop where
  pf:E'.pf=E.pf
  mn:E'.many=E.many
  vr:E'.vars=E.vars
  cs:E'.cs=E.cs
  kp:E'.keep=E.keep
  id:E'.id=E.id
  ov:E'.over=E.over
structure SP (n M:Nat) (F:au) (bg:Int) (E:ES) (l:List Rc) (c:Nat):Prop where
  I:EI n F (M+1 -c) ((M+1 -c)*(n+3)) l E
  mn:E.many=c
  cap:c<=M
  cb:(c:Int)<=bg
  vr:E.vars=n
  fm:E.cs=F
  pfs:∀x∈E.pf,x.lits.length<=1000000∧x.hints.length<=1000000
  lz:l.length<=F.length+c
  idz:E.id=F.length+c
  cl:∀d∈F,∃y∈bs 0 l,y.lits=d∧y.id<=F.length
  sd:∀x∈l,x.side=1->(F.length:Int)<x.id
  lf:(l.filter λx=>decide (x.side=1)).length<=c
  kp:100<=E.keep
  pe:c<=100->E.pf.length=c
  ck:∃k,CkF F l E k
  ov:E.over=true->c=0->[]∈F
  zz:UQ n F->c=0∨E.over=true
section
variable {n M c : Nat} {F : au} {bg : Int} {E E' : ES} {l : List Rc}
theorem SP.hcl(P:SP n M F bg E l c):∀d∈F,d∈rC l:=λd hd=>by
 obtain⟨y,hy,e,_⟩:=P.cl d hd;rw[←e];exact WV hy
theorem CkF.same{k:Ck}(K:CkF F l E k)(A:Alk E E'):CkF F l E' k:=⟨by rw[A.pf];exact K.run,K.m,by rw[A.id];exact K.last,by rw[A.ov];exact K.dn,K.g,by rw[A.pf];exact K.may,by rw[A.pf];exact K.sh⟩
theorem SP.to(P:SP n M F bg E l c)(A:Alk E E')(I:EI n F (M+1 -c) ((M+1 -c)*(n+3)) l E'):SP n M F bg E' l c:=
 {P with
  I:=I
  mn:=A.mn.trans P.mn,vr:=A.vr.trans P.vr,fm:=A.cs.trans P.fm
  pfs:=by rw[A.pf];exact P.pfs
  idz:=A.id.trans P.idz
  kp:=by rw[A.kp];exact P.kp
  pe:=by rw[A.pf];exact P.pe
  ck:=by obtain⟨k,K⟩:=P.ck;exact⟨k,K.same A⟩
  ov:=by rw[A.ov];exact P.ov
  zz:=by rw[A.ov];exact P.zz}
theorem SP.res(P:SP n M F bg E l c){q:HS}{p:dC}{k:Int}(i:F.length<=1000000)(j:M<=1000000)(a:0<=E.con)(m:(c:Int)<bg)(f:c+1<=M)(I:EI n F (M+1 -(c+1)) ((M+1 -(c+1))*(n+3)) (l++[⟨E.id+1,1,aY E⟩]) (tW E q p k)):SP n M F bg (tW E q p k) (l++[⟨E.id+1,1,aY E⟩]) (c+1):=by
 have R:=P.I.res a;have b:=R.len;have hle:=R.hle;have g:=P.I.n9;have oL:=P.idz;exact{
  I:=I
  mn:=by show E.many+1=_;rw[P.mn];omega
  cap:=f
  cb:=by omega
  vr:=P.vr
  fm:=P.fm
  pfs:=λx hx=>by
   rcases VF.1 hx with hx|hx;exact P.pfs x hx;simp at hx;subst hx;exact⟨by show(aY E).length<=_;omega,by simp;omega⟩
  lz:=by have:=P.lz;simp;omega
  idz:=by show E.id+1=_;omega
  cl:=λd hd=>by
   obtain⟨y,hy,h⟩:=P.cl d hd;refine⟨y,?_,h⟩;rw[jp];exact WG _ hy
  sd:=λx hx=>by
   rcases VF.1 hx with hx|hx;exact P.sd x hx;simp at hx;subst hx;intro _;dsimp only;omega
  lf:=by
   have:=P.lf;rw[WT];simp;omega
  kp:=P.kp
  pe:=λh=>by
   have:=P.pe (by omega);show(E.pf++[_]).length=_;simp;omega
  ck:=by
   obtain⟨o,K⟩:=P.ck;exact⟨_,K.res P.I a (by omega) q p k⟩
  ov:=λ_ e=>by omega
  zz:=λz=>by
   right;show(E.over||decide ((aY E).length=0))=true;rw[HE P.I P.hcl a z];simp}
theorem PJ(E:ES)(ks:af):(oG E ks).T=E.T∧Alk {E with pf:=(oG E ks).pf} (oG E ks)∧((oG E ks).pf=E.pf∨(ks≠[]∧(oG E ks).pf=E.pf++[⟨2,E.id,[],ks.map (iv E.A)⟩])):=by
 unfold oG;by_cases e:ks=[];rw[Vt e];exact⟨rfl,⟨rfl,rfl,rfl,rfl,rfl,rfl,rfl⟩,.inl rfl⟩;rw[Vs e];obtain⟨a,b,j,c,d,f,g,h,i⟩:=r9 ks {E with pf:=E.pf++[⟨2,E.id,[],ks.map (iv E.A)⟩]};exact⟨a,⟨rfl,d,f,g,i,h,b⟩,.inr ⟨e,c⟩⟩
theorem wM:∀(l:List Rc)(p:Nat)(k:Int),(∀x∈fv k p l,x.side=1->x∈l)∧((fv k p l).filter λx=>decide (x.side=1)).length<=(l.filter λx=>decide (x.side=1)).length
 |[],_,_=>⟨λx hx=>absurd hx Ys,Vu _⟩
 |z::l,p,k=>by
  obtain⟨h1,a⟩:=wM l (p+z.sz) k;rw[fv];constructor;intro x hx hs;rcases VU.1 hx with rfl|hx;split at hs;cases hs;rename_i e;rw[Vs e];exact VN;exact VG _ (h1 x hx hs);rw[Wl,Wl];by_cases e:(p:Int)=k;rw[Vt e,Vs (by simp)];split;simp;omega;exact a;rw[Vs e];split;simp;omega;exact a
theorem wN:∀(ks:af)(l:List Rc),(∀x∈nF l ks,x.side=1->x∈l)∧((nF l ks).filter λx=>decide (x.side=1)).length<=(l.filter λx=>decide (x.side=1)).length
 |[],l=>⟨λx hx _=>hx,Vu _⟩
 |k::ks,l=>by
  obtain⟨h1,a⟩:=wN ks (fv k 0 l);obtain⟨b,c⟩:=wM l 0 k;exact⟨λx hx hs=>b x (h1 x hx hs) hs,Wb a c⟩
theorem SP.red(P:SP n M F bg E l c)(u:F.length<=1000000)(v:M<=1000000){ks:af}(R:RedOk l E ks)(I:EI n F (M+1 -c) ((M+1 -c)*(n+3)) (nF l ks) (oG E ks)):SP n M F bg (oG E ks) (nF l ks) c∧(oG E ks).pf.length<=E.pf.length+1:=by
 obtain⟨_,A,hp⟩:=PJ E ks;obtain⟨r,s⟩:=wN ks l;have oL:=P.idz;refine⟨?_,by rcases hp with e|⟨_,e⟩<;>rw[e]<;>simp⟩;exact{
  I:=I
  mn:=A.mn.trans P.mn
  cap:=P.cap
  cb:=P.cb
  vr:=A.vr.trans P.vr
  fm:=A.cs.trans P.fm
  pfs:=λx hx=>by
   rcases hp with e|⟨_,e⟩;rw[e]at hx;exact P.pfs x hx;rw[e]at hx;rcases VF.1 hx with hx|hx;exact P.pfs x hx;simp at hx;subst hx;have:=R.few;exact⟨by simp,by simp;omega⟩
  lz:=by rw[C5];exact P.lz
  idz:=A.id.trans P.idz
  cl:=λd hd=>by
   obtain⟨y,hy,e,hi⟩:=P.cl d hd;refine⟨y,wK.2 ⟨hy,λq=>?_⟩,e,hi⟩;obtain⟨z,hz,p,_,i⟩:=R.is _ q;have j:=Np hz hy p;subst j;obtain⟨a,x,b,m,_,o⟩:=pj l 0 z hz;have hs:x.side=1:=by
    unfold qJ at i;simp only[VC,VI]at i;have f:=i.2;rw[P.I.ari.row,o]at f;have g:=(uo a x b).2.2.1;rw[←m]at g;dsimp only at f;rw[Wr,WH,g]at f;exact f
   have:=P.sd x (by rw[m];simp) hs;rw[o]at hi;dsimp only at hi;omega
  sd:=λx hx hs=>P.sd x (r x hx hs) hs
  lf:=Wb s P.lf
  kp:=by rw[A.kp];exact P.kp
  pe:=λh=>by
   have h1:=HA (A:=E.A) l [] (by rw[V8];exact P.I.ari.row);have f:=P.lf;have g:(((rA l).filter (qJ E.A)).length)<=(l.filter λx=>decide (x.side=1)).length:=h1;have t:=P.kp;have:=R.kp (by omega);rcases hp with e|⟨e,_⟩;rw[e];exact P.pe h;exact absurd this e
  ck:=by
   obtain⟨k,K⟩:=P.ck;exact K.red P.I R (by have:=P.cap;omega)
  ov:=by rw[A.ov];exact P.ov
  zz:=by rw[A.ov];exact P.zz}
abbrev TW(n:Nat)(F:au)(a:Int)(k:Int)(c:Nat)(m:PV)(pf:List Stp):Prop:=c<=a∧(c<=100->pf.length=c)∧
  ((k = 1 ∧ ∃ b : dC, m = .seq true 1 (fM b) ∧ b.length = n ∧ ∀ d ∈ F, dP d b = true) ∨
   (k=2∧m=.lit (.slice none 0 0)∧RU F []∧(c=0->[]∈F)∧pf.length<=2*c+1∧∃e,nu (jG F) pf e∧e.done=true∧(∀s∈pf,g8 s=true)∧wL (jG F) pf)∨
   (k=3∧m=.lit (.slice none 0 0)∧a<=c∧(UQ n F->c=0∧RU F [])))
def TX(n:Nat)(F:au)(a:Int)(y:SV):Prop:=∃(k:Int)(c:Nat)(m:PV)(pf:List Stp),y=.pv (kZ k c m pf)∧TW n F a k c m pf
end
section
variable {n M : Nat} {F : au} {h : ao} {be bt ba bw bh : Nat} {mp : cg} {mb : List (Int × By)} {E : ES} {l : List Rc}
set_option maxHeartbeats 1000000 in
theorem C6(unit f:Int)(L:LayE h be bt ba bw bh mp mb E)(P:SP n M F f E l 0)(an:E.pf=[])(hM:M<=2000)(hu:1<=unit∧unit<=1000000)(hB:f<=M)(aK:F.length<=100)(ax:∀c∈F,c.length<=1000000):
 aI Tryz.prog 72 [.ptr be 0,ak unit,ak f] h (λy h'=>TX n F f y∧Ext h h' (dH be bt ba bw bh mp mb) (λb=>dH be bt ba bw bh mp mb b∨h.length<=b)):=by
 refine dh [] [.cell 6 _] aP Tryz.func72 ?_;have kN:=HC 0 unit (by omega) hu;obtain⟨rb,U⟩:∃x:bj,x=[.pv (.lit (.int .i64 0)),.pv (.lit (.int .i64 0)),.pv (.lit (.slice none 0 0)),.pv (.lit (.slice none 0 0))]:=⟨_,rfl⟩;simp;refine ay.intro (FA _ be) ?_;rintro _ _ ⟨rfl,rfl⟩;simp;refine ap.introR kN ?_;rintro _ ⟨a0,rfl,aL⟩;refine⟨by simp,?_⟩;simp;have o:=λb (hd:dH be bt ba bw bh mp mb b)=>L.dlt hd;obtain⟨W,t⟩:∃W:ao,W=h++[rb,[.pv (.ptr be 0)]]:=⟨_,rfl⟩;have ar:W[h.length]?=some rb:=by rw[t];simp
 have au:W[h.length+1]?=some [.pv (.ptr be 0)]:=by rw[t];simp
 have aF:W.length=h.length+2:=by rw[t];simp
 have w:∀(H:ao)(mp':cg)(mb':List (Int×By))(y:bj),Ext W H (dH be bt ba bw bh mp mb) (dH be bt ba bw bh mp' mb')->Ext h (H.set h.length y) (dH be bt ba bw bh mp mb) (λb=>dH be bt ba bw bh mp mb b∨h.length<=b):=λH mp' mb' y X=>by
  have:=X.len;refine⟨by rw[VQ];omega,λb hb d=>?_,λb hb d=>d.resolve_right (by omega)⟩;rw[VL (by omega),X.same b (by omega) d,t,Vv hb]
 refine aM.intro (S:=λ(x:ao×cg×List (Int×By)×ES×List Rc×Int×Nat)=>⟨[(0,.pv (.ptr be 0)),(1,.pv (ak unit)),(2,.pv (ak f)),(6,.pv (.ptr h.length 0)),(7,.pv (.fn (.func 213) [] [.ptr (h.length+1) 0])),(8,.pv (ak x.2.2.2.2.2.1))],x.1⟩)
  (λx=>LayE x.1 be bt ba bw bh x.2.1 x.2.2.1 x.2.2.2.1∧SP n M F f x.2.2.2.1 x.2.2.2.2.1 x.2.2.2.2.2.2∧Ext W x.1 (dH be bt ba bw bh mp mb) (dH be bt ba bw bh x.2.1 x.2.2.1)∧x.2.2.2.1.pf.length+(if x.2.2.2.2.2.1<=x.2.2.2.2.2.2 then 1 else 0)<=2*x.2.2.2.2.2.2+1)
  (λx=>(M+1 -x.2.2.2.2.2.2)*(2*n+5)+(if x.2.2.2.2.2.1<=x.2.2.2.2.2.2 then n+2 else 0)+(n -x.2.2.2.1.T.lits.length))
  (W,mp,mb,E,l,a0,0) ?_ ⟨by rw[t];exact L.app _,P,Ext.refl _ _,by dsimp only;rw[an,Vs (by omega)];simp⟩ ?_
 rw[t,U];exact av.keep (by simp) rfl;clear P L an;rintro⟨H,mp',mb',E,l,a,c⟩ ⟨L,P,X,B⟩;dsimp only at L P X B;have Z:=P.I;have aQ:=Z.n9;have aO:=Z.tok.few;have ae:H[h.length]?=some rb:=(X.same _ (by omega) (λd=>by have:=o _ d;omega)).trans ar;have J:H[h.length+1]?=some [.pv (.ptr be 0)]:=(X.same _ (by omega) (λd=>by have:=o _ d;omega)).trans au;obtain⟨O,Q⟩:=Vp.1 ae;have aG:=P.cap;have v:E.pf.length<=1000000:=by omega
 have aA:=P.mn;simp;refine ay.intro (Nr L.e) ?_;rintro _ H ⟨rfl,rfl⟩;cases ho:E.over;rotate_left;simp;refine ay.intro (oF L.e J 2 (.lit (.slice none 0 0)) (.inl rfl) v P.pfs) ?_;rintro _ H ⟨rfl,rfl⟩;obtain⟨ck,K⟩:=P.ck;simp[kZ,O,Q,U];refine⟨⟨2,c,_,E.pf,?_,P.cb,P.pe,.inr (.inl ⟨rfl,rfl,Z.ended ho,P.ov ho,by omega,ck,K.run,K.dn.trans ho,K.may,K.sh⟩)⟩,w H mp' mb' _ X⟩;simp[kZ,aA];simp;refine ay.intro (Ns L Z.wok Z.tok) ?_;rintro _ D ⟨rfl,V,G,X1⟩;have u:qL E={E with S:=(gv E.S E.T).1,T:=(gv E.S E.T).2.1,con:=(gv E.S E.T).2.2,calm:=decide ((gv E.S E.T).2.2<0)}:=by unfold qL;rw[Vs (by simp[ho])]
 have aq:=(MP Z.wok Z.tok).grow.pre.1.length_le;have j:SP n M F f (qL E) l c:=P.to (by rw[u];exact⟨rfl,rfl,rfl,rfl,rfl,rfl,rfl⟩) Z.prps;have af:(qL E).T=(gv E.S E.T).2.1:=by rw[u]
 have ad:(qL E).pf=E.pf:=by rw[u]
 have A:(qL E).over=false:=by rw[u];exact ho
 have ah:(qL E).calm=decide ((qL E).con<0):=by rw[u]
 replace X:=X.trans X1;rw[←af]at aq;rw[←ad]at B v;clear u af ad;generalize aJ:qL E=g at*;have i:=j.I;have aH:=i.tok.few;have ab:=j.mn;have ae:D[h.length]?=some rb:=(X.same _ (by omega) (λd=>by have:=o _ d;omega)).trans ar;have J:D[h.length+1]?=some [.pv (.ptr be 0)]:=(X.same _ (by omega) (λd=>by have:=o _ d;omega)).trans au;obtain⟨O,Q⟩:=Vp.1 ae;by_cases aa:g.con<0;rotate_left;have m:g.calm=false:=by rw[ah];exact W7 aa
 simp[ho,m];refine ay.intro (pm G.e) ?_;rintro _ D ⟨rfl,rfl⟩;by_cases ag:f<=g.many;simp[ag];refine ay.intro (oF G.e J 3 (.lit (.slice none 0 0)) (.inl rfl) v j.pfs) ?_;rintro _ D ⟨rfl,rfl⟩;simp[kZ,O,Q,U];refine⟨⟨3,c,_,g.pf,?_,P.cb,j.pe,.inr (.inr ⟨rfl,rfl,by omega,λz=>⟨(j.zz z).resolve_right (by simp[A]),by have:=(i.res (by omega)).ent;rwa [HE i j.hcl (by omega) z]at this⟩⟩)⟩,w D mp' V _ X⟩;simp[kZ,ab];simp[ag];have aj:c+1<=M:=by omega
 have C:M+1 -c=(M+1 -(c+1))+1:=by omega
 have N:=i;rw[C,Xm]at N;refine ay.intro (CX G N A (by omega) v (by omega)) ?_;rintro _ H2 ⟨rfl,aD,q,p,k,L2,X2,I2⟩;have Y:=j.res (by omega) (by omega) (by omega) (by omega) aj I2;have aB:(tW g q p k).pf.length=g.pf.length+1:=by show(g.pf++[_]).length=_;simp
 have r:=Y.I.tok.few;generalize tW g q p k=E2 at*;simp;refine⟨(H2,aD,V,E2,l++[⟨g.id+1,1,aY g⟩],a,c+1),?_,⟨L2,Y,X.trans X2,?_⟩,av.keep (by simp) rfl⟩;dsimp only;have ai:(M+1 -c)*(2*n+5)=(M+1 -(c+1))*(2*n+5)+(2*n+5):=by rw[C,Xm]
 rw[ai];generalize(M+1 -(c+1))*(2*n+5)=K;split<;>split<;>omega;dsimp only;rw[aB];split at B<;>split<;>omega;have m:g.calm=true:=by rw[ah];exact WP aa
 simp [ho, m]; refine ay.intro (pm G.e) ?_; rintro _ D ⟨rfl, rfl⟩; by_cases ha : a <= g.many; simp [ha]; refine ay.intro (pm G.e) ?_; rintro _ D ⟨rfl, rfl⟩; simp; refine ap.introR (HC g.many unit (by omega) hu) ?_; rintro _ ⟨a2, rfl, aN⟩; refine ⟨by simp, ?_⟩; simp; refine ay.intro (CQ G i.tok i.hp i.ph) ?_; rintro _ H2 ⟨rfl, ⟨e, _⟩ | ⟨_, q, p, L2, X2, hq, hp, hin⟩⟩; rw [A] at e; cases e; have Y := j.to (E' := { g with T := gh g.T 0, q := q, ph := p, con := -1, calm := false }) ⟨rfl, rfl, rfl, rfl, rfl, rfl, rfl⟩ (i.again q hq p hp hin); have s : ({ g with T := gh g.T 0, q := q, ph := p, con := -1, calm := false } : ES).pf = g.pf := rfl; generalize ({ g with T := gh g.T 0, q := q, ph := p, con := -1, calm := false } : ES) = E2 at *; have N := Y.I; have k4 := FF L2 N (by rw [s]; exact v) (by
  have h1:=rZ l 0;have h2:=Y.lz;unfold rA;rw[VA];omega)
 simp;refine ay.intro k4 ?_;rintro _ H3 ⟨⟨z,rfl⟩,ks,aE,aC,R,L3,X3,I3⟩;obtain⟨P3,h3⟩:=Y.red (by omega) (by omega) R I3;simp;refine⟨(H3,aE,aC,oG E2 ks,nF l ks,a2,c),?_,⟨L3,P3,(X.trans X2).trans X3,?_⟩,av.keep (by simp) rfl⟩;dsimp only;rw[Vs (by omega),Vt (by omega)];omega;dsimp only;rw[s]at h3;rw[Vt (by omega)]at B;rw[Vs (by omega)];omega
 .simp[ha];have kM:=Jz G i.tok j.vr (by rw[j.fm];omega) (by rw[j.fm];exact ax);refine ay.intro kM ?_;rintro _ D ⟨rfl,rfl⟩;cases hm:CV g n;rotate_left;simp;refine ay.intro (oF G.e J 1 (.seq true 1 (fM (kY g.T.lits n))) (.inr ⟨_,rfl⟩) v j.pfs) ?_;rintro _ D ⟨rfl,rfl⟩;simp[kZ,O,Q,U];refine⟨⟨1,c,_,g.pf,?_,P.cb,j.pe,.inl ⟨rfl,kY g.T.lits n,rfl,by simp[kY],?_⟩⟩,w D mp' V _ X⟩;simp[kZ,ab];unfold CV at hm;rw[j.fm]at hm;simp only[VC,VI]at hm;exact hm.2.2.2;simp;refine ay.intro (Fw G i.tok i.hp i.ph) ?_;rintro _ H2 ⟨E2,b,rfl,hd,L2,X2⟩;have I2:=i.decs hd;rcases hd with⟨hx,_,_⟩|⟨_,hcl,q,hq,⟨rfl,x,hx,rfl,hin⟩|⟨rfl,rfl,hr,hin⟩⟩;rcases hx with hx|hx;rw[A]at hx;cases hx;rw[m]at hx;cases hx;have Y:=j.to (E':={g with T:=jt g.T x,calm:=false,q:=q}) ⟨rfl,rfl,rfl,rfl,rfl,rfl,rfl⟩ I2;have aw:(jt g.T x).lits=g.T.lits++[x]:=by
   unfold jt;rw[Vt hx];rfl
  have r:=I2.tok.few;dsimp only at r;rw[aw,Vz]at r;simp only[VR,List.length_nil]at r;have s:({g with T:=jt g.T x,calm:=false,q:=q}:ES).pf=g.pf:=rfl;have az:({g with T:=jt g.T x,calm:=false,q:=q}:ES).T.lits.length=g.T.lits.length+1:=by dsimp only;rw[aw];simp
  generalize({g with T:=jt g.T x,calm:=false,q:=q}:ES)=E2 at*;simp;refine⟨(H2,mp',V,E2,l,a,c),?_,⟨L2,Y,X.trans X2,by dsimp only;rw[s];exact B⟩,av.keep (by simp) rfl⟩;dsimp only;rw[az];generalize(M+1 -c)*(2*n+5)=K;split<;>omega;have:=i.model A m (i.full hin) (by rw[j.fm];exact j.hcl);rw[hm]at this;cases this
end
theorem SP.new{n M:Nat}{cs:au}{kp a:Int}{E:ES}{l:List Rc}(I:EI n cs (M+1) ((M+1)*(n+3)) l E)(N:NewOk n cs kp E l cs)(m:cs.length<=100000)(k:0<=a):SP n M cs a E l 0:=by
 have b:(bs 0 l).map (λy=>(y.id,y.lits))=cs.mapIdx λi c=>(((i+1:Nat):Int),c):=(uq l 0 λx hx=>by rw[N.side x hx];decide).trans N.num;have f:∀x∈l,x.side≠1:=λx hx=>by rw[N.side x hx];decide
 have o:(l.filter λx=>decide (x.side=1))=[]:=by
  rw[Xa];intro x hx;simp[N.side x hx]
 exact{
  I:=I
  mn:=N.many
  cap:=VH _
  cb:=k
  vr:=N.vars
  fm:=N.cs
  pfs:=by rw[N.pf];simp
  lz:=by have:=Xp List.length N.num;simp at this;omega
  idz:=by rw[N.id];simp
  cl:=λd hd=>by
   obtain⟨i,hi,rfl⟩:=VE hd;have:(((i+1:Nat):Int),cs[i])∈(bs 0 l).map λy=>(y.id,y.lits):=by
    rw[b,List.mem_mapIdx];exact⟨i,hi,rfl⟩
   obtain⟨y,hy,e⟩:=VB.1 this;obtain⟨g,j⟩:=aaz e;exact⟨y,hy,j,by rw[g];omega⟩
  sd:=λx hx h=>absurd h (f x hx)
  lf:=by rw[o];exact VH _
  kp:=by rw[N.keep];exact NG kp
  pe:=λ_=>by rw[N.pf];rfl
  ck:=⟨_,(CkE.new m N.num N.side N.id N.pf).to I (by rw[N.pf];trivial)⟩
  ov:=λh _=>by
   obtain⟨x,hx,e⟩:=I.ovr.1 h;rw[←e,←N.rc];exact WV hx
  zz:=λ_=>.inl rfl}
section
set_option maxHeartbeats 1000000 in
theorem FH(h:ao)(n:Nat)(cs:au)(rs kp p a:Int)(hn:n<=12)(B:cs.length<=100)(hcl:∀c∈cs,c.length<=50)(hk:(d6 n cs).2=0)(g:0<=a∧a<=2000):
 aI Tryz.prog 28 [.agg [ak n,.seq false 1 (cs.map aF)],.agg [ak rs,ak kp,ak p],ak a] h (λy h'=>(∃r,y=.pv (.tup [r,ak 0])∧TX n cs a (.pv r))∧Ext h h' (λ_=>False) (λb=>h.length<=b)):=by
 refine dh [] [.cell 6 _,.tmp 7] aP Tryz.func28 ?_;have f:∀c∈cs,c.length<=1000000:=λc T=>by have:=hcl c T;omega
 have z:¬a<0:=by omega
 have A:¬1000000<a:=by omega
 obtain⟨M,hM⟩:=WY g.1;have U:(M+1)*(n+3)<=2001*15:=Nat.mul_le_mul (by omega) (by omega);obtain⟨G,j⟩:∃G:ao,G=h++[[.pv (ak n),.pv (.seq false 1 (cs.map aF))],[.pv (ak rs),.pv (ak kp),.pv (ak p)],[.pv (.lit (.int .i64 0)),.pv (.lit (.int .i64 0)),.pv (.lit (.slice none 0 0)),.pv (.lit (.slice none 0 0))]]:=⟨_,rfl⟩;have Q:=PD G n (by omega) cs rs kp p (by omega) f hk (r:=M+1) (s:=(M+1)*(n+3)) (by omega) (by omega);have S:G.length=h.length+3:=by rw[j];simp
 have g0:G[h.length]?=some [.pv (ak n),.pv (.seq false 1 (cs.map aF))]:=by rw[j];simp
 have J:G[h.length+1]?=some [.pv (ak rs),.pv (ak kp),.pv (ak p)]:=by rw[j];simp
 have g2:G[h.length+2]?=some [.pv (.lit (.int .i64 0)),.pv (.lit (.int .i64 0)),.pv (.lit (.slice none 0 0)),.pv (.lit (.slice none 0 0))]:=by rw[j];simp
 simp[z,A];rw[←j];obtain⟨l0,v⟩:=Vp.1 g0;obtain⟨l1,w⟩:=Vp.1 J;refine ap.introM Q ?_;clear Q;rintro _ H ⟨be,bt,ba,bw,bh,mp,E,l,rfl,L,X,I,N⟩;have O:=X.len;have h0:=(X.same h.length (by omega) (λe=>e)).trans g0;have h1:=(X.same (h.length+1) (by omega) (λe=>e)).trans J;have K:=(X.same (h.length+2) (by omega) (λe=>e)).trans g2;obtain⟨k0,v⟩:=Vp.1 h0;obtain⟨P,w⟩:=Vp.1 h1;obtain⟨o,i⟩:=Vp.1 K;have q:∀b,b<G.length->¬dH be bt ba bw bh mp [] b:=λb g d=>X.sub b g d;simp[k0,P,o,v,w,i];refine ap.intro (NJ rs kp p) ?_;simp[k0,P,o,v,w,i];refine ay.intro (C6 (h:=H) (yJ rs) a L (SP.new I N (by omega) g.1) N.pf (by omega) (NH rs) (by omega) B f) ?_;rintro r R ⟨⟨k,c,m,pf,rfl,D,F,Y⟩,u⟩;have C:=u.len;have V:=(u.same (h.length+2) (by omega) (q _ (by omega))).trans K;obtain⟨o,i⟩:=Vp.1 V;have x:∀y,Ext h (R.set (h.length+2) y) (λ_=>False) (λb=>h.length<=b):=λy=>by
  refine⟨by rw[VQ];omega,λb g _=>?_,λb g d=>by omega⟩;rw[VL (by omega),u.same b (by omega) (q b (by omega)),X.same b (by omega) (λe=>e),j,Vv g]
 rcases Y with⟨rfl,W,rfl,t,Z⟩|⟨rfl,rfl,t⟩|⟨rfl,rfl,t⟩;simp[kZ,o,i];exact⟨⟨1,c,_,pf,rfl,D,F,.inl ⟨rfl,W,rfl,t,Z⟩⟩,x _⟩;simp[kZ,o,i];exact⟨⟨2,c,_,pf,rfl,D,F,.inr (.inl ⟨rfl,rfl,t⟩)⟩,x _⟩;simp[kZ,o,i];exact⟨⟨3,c,_,pf,rfl,D,F,.inr (.inr ⟨rfl,rfl,t⟩)⟩,x _⟩
theorem tG(n:Nat)(cs:au)(rs kp d a:Int)(hn:n<=12)(b:cs.length<=100)(hcl:∀c∈cs,c.length<=50)(hk:(d6 n cs).2=0)(f:0<=a∧a<=2000):
 aw Tryz.prog 28 [.agg [ak n,.seq false 1 (cs.map aF)],.agg [ak rs,ak kp,ak d],ak a] (λy=>∃(k:Int)(c:Nat)(m:PV)(pf:List Stp),y=.pv (.tup [kZ k c m pf,ak 0])∧TW n cs a k c m pf):=by
 refine aI.pure ((FH [] n cs rs kp d a hn b hcl hk f).mono ?_);rintro _ _ ⟨⟨_,rfl,k,c,m,pf,e,h⟩,_⟩;cases e;exact⟨_,rfl,k,c,m,pf,rfl,h⟩
section
variable {c : Nat} {k b : Int} {m : PV} {pf : List Stp}
end
end
theorem HI:∀{ss:List Stp}{c e:Ck},nu c ss e->wL c ss->e.done=true->ji c ss=true
 |[],c,e,h,_,hd=>by cases h;exact hd
 |s::ss,c,e,h,hs,hd=>by
  rw[ji,Vs];exact HI h.2 hs.2 hd;rintro(⟨k,h1⟩|h1);rw[hs.1 k]at h1;cases h1;exact h1 h.1
theorem JH{m:dC}{c:Ck}(d:∀q∈c.m,q.2.length<=1000000){s:Stp}(h:qB c s=true)(f:∀x∈s.hints,∀y,lk c.m x=some y->dP y m=true):dP s.lits m=true:=by
 unfold qB at h;rw[VC,Wa]at h;have b:∀r∈ct c s.hints,∃x∈s.hints,lk c.m x=some r:=λr b=>by
  obtain⟨x,hx,rfl⟩:=VB.1 b;obtain⟨y,hy⟩:=XV.1 (h.1 x hx);exact⟨x,hx,by rw[hy];rfl⟩
 have a:=Zy h.2;unfold pu at a;split at a;rename_i h0;refine V.show_sound (JG h0) (λr q=>?_) a λr q=>?_;obtain⟨x,_,e⟩:=b r q;exact d _ (vP e);obtain⟨x,hx,e⟩:=b r q;exact f x hx r e;rename_i h0;exact absurd a h0
theorem FJ{F:Int->Prop}{m:dC}:∀(ss:List Stp)(c:Ck),CkG c->(∀q∈c.m,q.2.length<=1000000)->(∀s∈ss,s.lits.length<=1000000)->ji c ss=true->(∀s∈ss,s.kind=1->F s.id->∀x∈s.hints,F x)->(∀q∈c.m,F q.1->dP q.2 m=true)->¬∃s∈ss,s.kind=1∧s.lits=[]∧F s.id
 |[],_,_,_,_,_,_,_=>λ⟨_,h,_⟩=>absurd h Ys
 |s::ss,c,B,p,hs,hp,A,r=>by
  obtain⟨h1,z,o⟩:=m7 hp;obtain⟨n,_⟩:=m6 B z;obtain⟨g,G⟩:=kn z;have j:∀t∈ss,t.lits.length<=1000000:=λt ht=>hs t (VG _ ht);have d:∀s∈ss,s.kind=1->F s.id->∀x∈s.hints,F x:=λt ht=>A t (VG _ ht);have D:s.kind=1->F s.id->dP s.lits m=true:=λk f=>JH p (h1 k) λx hx y hy=>r _ (vP hy) (A s VN k f x hx);rintro⟨t,ht,u,v,w⟩;rcases VU.1 ht with rfl|ht;have:=D u w;rw[v]at this;cases this;rcases G with⟨_,_,e⟩|⟨k,E,_,_,_,e⟩;rw[e]at o n;have b:=lG s.hints c.m;exact FJ (m:=m) ss _ n (λq a=>p q (b.subset a)) j o d (λq a=>r q (b.subset a)) ⟨t,ht,u,v,w⟩;rw[e]at o n;have oL:=(ui g).2.2;have i:=(B.put (l:=s.lits) E (by omega)).1;refine FJ (m:=m) ss _ n (λq a=>?_) j o d (λq a C=>?_) ⟨t,ht,u,v,w⟩;rw[i]at a;rcases VF.1 a with a|a;exact p q a;rw[VY]at a;subst a;exact hs s VN;rw[i]at a;rcases VF.1 a with a|a;exact r q a C;rw[VY]at a;subst a;exact D k C
theorem PK{v:Int}{L:au}{ss:List Stp}{m:dC}(n:L.length<=100000)(E:∀c∈L,c.length<=1000000)(hs:ss.length<=100000)(r:∀s∈ss,s.lits.length<=1000000)(hn:1+gT ss<=1000000)(h:(fc v L ss).2=0)(hp:lF v L ss=true):¬∀c∈(jH v L ss).map (jB L),dP c m=true:=by
 intro C;have w:=GX n hs hn h;obtain⟨c1,c2,c3⟩:=MB w;obtain⟨h1,B⟩:=yn h;rw[B]at h;have o:eI v L ss=ot L ss:=by unfold eI;rw[Vt hp]
 have j:ji (jG L) ss=true:=by unfold lF at hp;rw[Vs (by simp[h1])]at hp;exact hp
 have b:1+gT ss<=1000000000:=by omega
 have z:=(CkG.new L n L.length (Vu _)).1;have hcl:=tv (Cl (fQ L ss)) ss b (yk z j);have g:∀x,QZ L ss x->x<=L.length->x∈jH v L ss:=λx hx t=>by
  rw[c2,w.mem,o];refine⟨?_,t⟩;unfold QZ yh at hx;cases e:lk (ot L ss) x with
  |none=>rw[e]at hx;cases hx
  |some y=>exact WV (f:=(·.1)) (vP e)
 have a:∀i (hi:i<L.length),QZ L ss ((i+1:Nat):Int)->dP L[i] m=true:=λi hi hx=>by
  have:=C _ (WV (g _ hx (by omega)));unfold jB at this;rw[Vr,show(((i+1:Nat):Int) -1).toNat=i by omega,Vq hi]at this;exact this
 obtain⟨_,A⟩:=GZ L n L.length (Vu _);rcases yr h with⟨k,l,u,d⟩|⟨_,s,l,u,d,G⟩;have:=a k l (by rw[←u];exact yo b);rw[Vq l]at d;injection d with d;rw[d]at this;cases this;refine FJ (F:=QZ L ss) (m:=m) ss (jG L) z (λq p=>?_) r j hcl (λq p D=>?_) ⟨s,l,u,d,by rw[G];exact yo b⟩;obtain⟨i,hi,rfl⟩:=A q p;exact E _ (Vx hi);obtain⟨i,hi,rfl⟩:=A q p;exact a i hi D
theorem HJ:∀{ss:List Stp}{c e:Ck}(i:Nat),nu c ss e->e.done=true->jh c ss i=(((i+ss.length:Nat):Int),0)
 |[],c,e,i,h,hd=>by
  cases h;rw[jh,Vt hd];rfl
 |s::ss,c,e,i,h,hd=>by
  rw[jh,Vs (by simp[h.1]),HJ (i+1) h.2 hd];simp[Xf,Zz 1]
theorem PM{n:Int}{F:au}{ss:List Stp}{e:Ck}(hk:(d6 n F).2=0)(h:nu (jG F) ss e)(hd:e.done=true):fc n F ss=((ss.length:Int),0):=by
 unfold fc;rw[Vs (by simp[hk]),HJ 0 h hd];simp
theorem PN{s:Stp}(h:g8 s=true):s.lits.length<=100000∧s.hints.length<=1000:=by
 have a:∀lo,pR s.hints lo=true->s.hints.length<=1000:=λlo q=>by
  unfold pR at q;rw[VC,VI]at q;exact q.1
 unfold g8 at h;by_cases b:s.kind=1;rw[Vt b]at h;simp only[VC,VI]at h;refine⟨?_,a _ h.2.2.2⟩;have:=h.2.2.1;unfold iM at this;split at this;cases this;split at this;cases this;omega;rw[Vs b]at h;by_cases c:s.kind=2;rw[Vt c]at h;simp only[VC,VI]at h;exact⟨by omega,a _ h.2.2.2⟩;rw[Vs c]at h;cases h
section
set_option maxHeartbeats 1000000 in
theorem w7(v:Int)(cs:au)(rs kp l a:Int):
 aw Tryz.prog 10 [.agg [ak v,.seq false 1 (cs.map aF)],.agg [ak rs,ak kp,ak l],ak a] (λr=>r=.pv (BL true)):=by
 refine aB aP Tryz.func10 ?_;simp;refine ap.intro (I9 v cs) ?_;cases t:EW cs;simp;refine ap.intro iP ?_;simp;have i:∀c∈cs,c.length<=50:=by
  unfold EW at t;simp only[VC,VI,Wa]at t;exact t.2
 simp;refine⟨λ_=>?_,λV U N=>?_⟩;refine ap.intro iP ?_;simp;by_cases hk:(d6 v cs).2≠0∨a<0;have Q:=CY v cs rs kp l a i (hk.imp id .inl);have A:(if a<0∨1000000<a then 2 else(d6 v cs).2)≠0:=by
  split;decide;rename_i q;exact hk.resolve_right λe=>q (.inl e)
 generalize(if a<0∨1000000<a then 2 else(d6 v cs).2)=e at*;refine ap.intro Q ?_;simp[A];refine ap.intro iP ?_;simp;obtain⟨hk,W⟩:=aac.1 hk;replace hk:(d6 v cs).2=0:=V0 hk;have P:0<=v:=by
  apply V0;intro hn;unfold d6 at hk;rw[Vt (.inl (by omega))]at hk;cases hk
 obtain⟨n,rfl⟩:=WY P;have R:=tG n cs rs kp l a (by omega) (by omega) i hk (by omega);refine ap.introR R ?_;rintro _ ⟨k,c,m,pf,rfl,Z,w2,⟨rfl,J,rfl,_⟩|⟨rfl,rfl,_,_,O,e,F,hd,z,C⟩|⟨rfl,rfl,_⟩⟩;refine⟨by simp[kZ],?_⟩;simp[kZ];refine ap.intro iP ?_;simp;rotate_left;refine⟨by simp[kZ],?_⟩;simp[kZ];refine ap.intro iP ?_;simp;have o:=λs hs=>PN (z s hs);have E:1+gT pf<=1000000:=by
  have h1:=Mu (b:=1000) (ss:=pf) (λs hs=>(o s hs).2);have:pf.length*1000<=601*1000:=Xc _ (by omega);omega
 have p:=PM hk F hd;have hp:lF n cs pf=true:=by
  unfold lF;rw[Vs (by simp[hk]),HI F C hd]
 have d:=GX (v:=n) (L:=cs) (ss:=pf) (by omega) (by omega) E (by rw[p]);obtain⟨c1,c2,c3⟩:=MB d;have I:=tu n cs pf (by omega) (λc f=>by have:=i c f;omega) (λs hs=>by have:=o s hs;omega) (λ_=>⟨d.w,d.n,d.ne,d.len⟩) (λ_ _=>c3);have H:=l4 n cs pf (by omega) (λc f=>by have:=i c f;omega) (λs hs=>by have:=o s hs;omega);have B:=λm=>PK (m:=m) (by omega) (λc f=>by have:=i c f;omega) (by omega) (λs hs=>by have:=o s hs;omega) E (show(fc n cs pf).2=0 by rw[p]) hp;have g:∀c∈(jH n cs pf).map (jB cs),c∈cs:=λc f=>by
  obtain⟨x,hx,rfl⟩:=VB.1 f;have:=c3 x hx;unfold jB;rw[Vr,Vq (show(x -1).toNat<cs.length by omega)];exact Vx _
 have K:((jH n cs pf).map (jB cs)).length<=60:=by
  rw[VA];rcases C7 _ 1 cs.length c1 c3 with h|h;omega;rw[h];exact VH _
 have u:=NU (v:=n) g (by omega) hk;have M:EV n cs pf=.tup [.agg [ak n,.seq true 1 (((jH n cs pf).map (jB cs)).map f9)],.seq true 4 ((wV (jH n cs pf) (sQ n cs pf) (sQ n cs pf).length).map fT),ak 0]:=by
  unfold EV;rw[Vs (by rw[p];simp),Vs (by rw[hp];simp),Wo];rfl
 have j:(wV (jH n cs pf) (sQ n cs pf) (sQ n cs pf).length).length<=pf.length:=by
  rw[vX _ _ _ (Vu _)];exact WR _ _
 rw[M]at I;rw[hp]at H;generalize wV (jH n cs pf) (sQ n cs pf) (sQ n cs pf).length=T at*;generalize(jH n cs pf).map (jB cs)=G at*;have D:=tG n G rs kp l a (by omega) (by omega) (λc f=>i c (g c f)) u (by omega);refine⟨by simp[kZ,l7],?_⟩;simp[kZ];refine ap.intro I ?_ (by simp[l7]);simp[j];refine bz.intro (λ_=>H) ?_;simp[j];refine ap.introR D ?_;rintro _ ⟨X,c5,Y,S,rfl,_,_,⟨_,J,_,_,y⟩|⟨rfl,rfl,_⟩|⟨rfl,rfl,_⟩⟩;exact absurd y (B J)
 all_goals
  refine⟨by simp[kZ,l7],?_⟩;simp[kZ];refine bz.intro (λ_=>iP) ?_;simp
end
end Go.AX
