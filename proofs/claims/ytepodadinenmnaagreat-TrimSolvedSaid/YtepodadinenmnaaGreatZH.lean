/-
  Engines: a conflict is resolved (plain law); and what follows.
-/
import Derived.Test.YtepodadinenmnaaGreatZF
import Derived.Test.YtepodadinenmnaaGreatZG
set_option linter.unusedSimpArgs false
set_option maxRecDepth 16000
namespace Go.AX
open Go.Proofs
def mh(E:ES):Tr:=if aY E=[]then E.T else gh E.T (gi E.T (aY E))
def tW(E:ES)(q:HS)(p:dC)(k:Int):ES:={E with
 pf:=E.pf++[⟨1,E.id+1,aY E,(gy E).map (iv E.A)⟩],many:=E.many+1,q:=q,inc:=k,ph:=p,con:=-1,calm:=false,id:=E.id+1,A:=d7 E.A (E.id+1) (aY E) true
 over:=E.over||decide ((aY E).length=0),S:=qI (d7 E.A (E.id+1) (aY E) true) (mh E) E.S E.A.row.length
 T:=if aY E=[]then E.T else mN (mh E) ((aY E).headD 0) E.A.row.length,gl:=pt E.gl E.A.row.length (OM E.T (aY E))}
section
variable {n r s : Nat} {F : au} {l : List Rc} {E : ES}
theorem ArI.arok{A:Ar}(h:ArI A l):lX A:=λq c=>by
 obtain⟨x,hx,e⟩:=h.rel.is q c;obtain⟨p,a,b,_⟩:=h.rel.rows x hx;exact⟨p,_,by rw[←e,a],b⟩
theorem EI.arok(h:EI n F r s l E):lX E.A:=h.ari.arok
theorem EI.resd(h:EI n F (r+1) (s+(n+3)) l E)(U:0<=E.con)(q:HS)(m:HpTo n E.q q)(p:dC)(hp:p.length=n+1)(k:Int)(hk:0<=k∧k<=1000000000)(hin:∀z∈E.T.lits,z∉(mh E).lits->aq z∈q.row):
 lp (E.id+1) (aY E)=0∧EI n F r s (l++[⟨E.id+1,1,aY E⟩]) (tW E q p k):=by
 have R:=h.res U;have hs:s+(3+(aY E).length)<=s+(n+3):=by have:=R.len;omega
 have h0:=(h.upd q m.hp m.mem k hk (E.pf++[⟨1,E.id+1,aY E,(gy E).map (iv E.A)⟩]) (E.many+1) E.gl).mono (Vu _) hs;have X:=h.n9;have f:(aY E).length<=1000:=by have:=R.len;omega
 have b:mh E=if aY E=[]then E.T else gh E.T (gi E.T (aY E)):=rfl;rcases R.lev with⟨c,e⟩|⟨u,w,e,b0,b1,b2,b3,b4⟩;have h1:EI n F (r+1) (s+(3+(aY E).length)) l {E with q:=q,inc:=k,pf:=E.pf++[⟨1,E.id+1,aY E,(gy E).map (iv E.A)⟩],many:=E.many+1,con:=-1,calm:=false,ph:=p}:={h0.rest with ph:=hp};obtain⟨H,_,a3⟩:=h1.add (c:=aY E) true f R.nd R.chk R.ent (λk k0 kd=>by have kd:k<=(E.T.beg.length:Int):=kd;omega) rfl (show(-1:Int)<0 by decide) q m.hp (λ_ d=>d);refine⟨H,?_⟩;have:=a3.upd q m.hp (λ_ d=>d) k hk (E.pf++[⟨1,E.id+1,aY E,(gy E).map (iv E.A)⟩]) (E.many+1) (pt E.gl E.A.row.length (OM E.T (aY E)));unfold tW;rw[b,Vt e,Vt e];exact this;have C:aY E≠[]:=λG=>by rw[e]at G;cases G
 rw[Vs C]at b;obtain⟨j,hj⟩:∃j:Nat,gi E.T (aY E)=j:=⟨(gi E.T (aY E)).toNat,by omega⟩;have a:j<E.T.beg.length:=by omega
 have S:gh E.T (gi E.T (aY E))=dt E.T j:=by
  have O:(if(j:Int)<0 then(0:Int)else j)=j:=Vs (by omega);unfold gh;rw[hj,O,Vt (by omega)];rfl
 rw[S]at b;rw[b]at hin;have h1:=h0.back a q m.hp (λ_ d=>d) hin p hp;have N:∀y∈aY E,-y∈E.T.lits:=R.neg;have L:∀y∈w,eU E.T y<=j:=λy hy=>by have:=b3 y hy;omega
 have o:(gV (dt E.T j)).dep=j:=by show((dt E.T j).beg.length:Int)=j;rw[(h.tok.back a).2.2,Vy];omega
 have B := R.nd; rw [e, Xj] at B; obtain ⟨H, _, a3⟩ := h1.add (c := aY E) true f R.nd R.chk R.ent (λ k k0 kd => by
  have kd:k<=(gV (dt E.T j)).dep:=kd;rw[o]at kd;rcases b4 with b4|⟨y,hy,b4⟩;omega;have i:∀z,z∈bel (gV (dt E.T j)) k->z∈bel (gV E.T) k:=λz hz=>by
   rw[CH h.tok a]at hz;obtain⟨x,hx,rfl⟩:=VB.1 hz;obtain⟨J,K⟩:=V9.1 hx;exact VB.2 ⟨x,V9.2 ⟨Wn J,K⟩,rfl⟩
  refine .inr ⟨u,y,by rw[e];simp,by rw[e];simp[hy],λG=>B.1 (G▸hy),λg=>?_,λg=>?_⟩;have:=Hv h.tok (i _ g);omega;have:=Hv h.tok (i _ g);omega) rfl (show(-1:Int)<0 by decide) q m.hp (λ_ d=>d)
 refine⟨H,?_⟩;have P:=a3.upd q m.hp (λ_ d=>d) k hk (E.pf++[⟨1,E.id+1,aY E,(gy E).map (iv E.A)⟩]) (E.many+1) (pt E.gl E.A.row.length (OM E.T (aY E)));have I:(⟨E.A.row.length,E.id+1,aY E⟩:Ro)∈bs 0 (l++[⟨E.id+1,gj true,aY E⟩]):=by
  rw[jp,Wr,←h.ari.row];simp[bs,gj]
 have W:eU E.T u=E.T.beg.length:=b2;have v:-u∈E.T.lits:=N u (by rw[e];simp);have t:gZ (dt E.T j) u=0:=by
  obtain⟨t1,Y,_⟩:=h.tok.back a;refine(t1.may u).2 ⟨R.chk u (by rw[e];simp),λg=>?_,λg=>?_⟩;rw[Y]at g;exact h.tok.one (Wn g) v;have:=(Hu h.tok a v).1 g;omega
 have Q := P.imp I (u := u) (by rw [e]; simp) t (λ y hy D => by
  have hy:y∈aY E:=hy;have M:y∈w:=by rw[e]at hy;exact(VU.1 hy).resolve_left D
  exact(Hu h.tok a (N y hy)).2 (L y M)) rfl (show(-1:Int)<0 by decide)
 have V:(aY E).headD 0=u:=by rw[e];rfl
 unfold tW;rw[Vs C,b,V];exact Q
end
theorem mi{α:Type}{l:List α}{i:Nat}(h:i<l.length):l.take (i+1)=l.take i++[l[i]]:=Ws h
theorem Nu:∀(l:List Rc)(p:Nat)(x:Rc),(bs p (l++[x])).map (·.at')=(bs p l).map (·.at')++(if x.side=2 then[]else[((p+(bY l).length:Nat):Int)]):=λl p x=>by
 rw[jp,V1];congr 1;show((if x.side=2 then[]else[_]):List Ro).map _=_;split<;>rfl
theorem rZ:∀(l:List Rc)(p:Nat),(bs p l).length<=l.length
 |[],_=>Vu _
 |x::l,p=>by
  have:=rZ l (p+x.sz);rw[bs];split<;>simp<;>omega
theorem wF:∀(l:List Rc),l.length<=(bY l).length
 |[]=>Vu _
 |x::l=>by
  have:=wF l;simp[bY];omega
theorem PA(h:ao)(b:Nat)(A:Ar)(C:h[b]?=some (kJ A))(l:List Rc)(D:A.row=bY l)(U:A.row.length<=1000000):aI Tryz.prog 192 [.ptr b 0] h (λr h'=>h'=h∧r=.pv (.seq true 1 (am (rA l)))):=by
 refine fJ [] [.tmp 2] aP Tryz.func192 ?_;obtain⟨k,j⟩:=Vp.1 C;simp;refine ay.intro (rv h b A C) ?_;rintro _ h ⟨rfl,rfl⟩;simp;refine aM.intro (S:=λ(i:Nat)=>⟨[(0,.pv (.ptr b 0)),(3,.own true 1 (am (rA (l.take i)))),(4,.pv (ak (bY (l.take i)).length))],h⟩) (λi=>i<=l.length) (λi=>l.length -i) 0 ?_ (VH _) ?_;exact(av.nilOwn (s:=3) 1 true (by simp)).trans (av.keep (by simp[rA,bs,bY,am]) rfl);intro i hi;by_cases c:i<l.length;obtain⟨a,q⟩:∃a,l.take i=a:=⟨_,rfl⟩;obtain⟨x,hx⟩:∃x,l[i]=x:=⟨_,rfl⟩;have v:l=a++x::l.drop (i+1):=by rw[←q,←hx,←V3 c,Wz]
 obtain⟨Q,w,y,R,T⟩:=uo a x (l.drop (i+1));rw[←v,←D]at Q w y R T;have z:l.take (i+1)=a++[x]:=by rw[mi c,q,hx]
 have B:(bY (a++[x])).length=(bY a).length+(3+x.lits.length):=by rw[mg];simp[bY];omega
 have g:=Nu a 0 x;have g:rA (a++[x])=rA a++(if x.side=2 then[]else[((bY a).length:Int)]):=by rw[Wr]at g;exact g
 generalize hp:(bY a).length=p at*;have o:p<A.row.length:=by omega
 have e:p+1<A.row.length:=by omega
 have f:p+2<A.row.length:=by omega
 have t:A.row[p+1]=x.lits.length:=by rw[Vr,Vq e]at w;exact w
 have g2:A.row[p+2]=x.side:=by rw[Vr,Vq f]at y;exact y
 have J:=dU p;have K:bG ((p:Int)+2)=((p+2:Nat):Int):=by rw[aC (by omega) (by omega)];omega
 have L:bG ((3:Int)+x.lits.length)=((3+x.lits.length:Nat):Int):=by rw[aC (by omega) (by omega)];omega
 have M:bG ((p:Int)+(3+x.lits.length))=((p+(3+x.lits.length):Nat):Int):=by rw[aC (by omega) (by omega)];omega
 have t1:((p:Int)+1).toNat=p+1:=by omega
 have I:((p:Int)+2).toNat=p+2:=by omega
 have m:A.row[p+1]?=some (x.lits.length:Int):=by rw[Vq e,t]
 have n:A.row[p+2]?=some x.side:=by rw[Vq f,g2]
 have E:(p:Int)+1<A.row.length:=by omega
 have F:(p:Int)+2<A.row.length:=by omega
 have G:(0:Int)<=(p:Int)+1:=by omega
 have H:(0:Int)<=(p:Int)+2:=by omega
 have P:(rA a).length<=a.length:=by unfold rA;rw[VA];exact rZ a 0
 have N:a.length<=A.row.length:=by have:=wF a;omega
 by_cases d:x.side=2;rw[Vt d,WF]at g;simp[q,hp,j,k,kJ,o,t,g2,K,I,n,F,H,d,J,t1,m,E,G,e,f,L,M];exact⟨i+1,by(try dsimp only);omega,by(try dsimp only);omega,av.keep (by simp[z,B,g]) rfl⟩;rw[Vs d]at g;simp[q,hp,j,k,kJ,o,t,g2,K,I,n,F,H,d,J,t1,m,E,G,e,f,L,M];exact⟨by omega,i+1,by(try dsimp only);omega,by(try dsimp only);omega,av.keep (by simp[z,B,g,am]) rfl⟩;have u:i=l.length:=by omega
 subst u;have O:¬(bY l).length<A.row.length:=by rw[D];omega
 simp[j,k,kJ,O,cr,bX]
section
variable {h : ao} {be bt ba bw bh : Nat} {mp : cg} {mb : List (Int × By)} {E : ES}
def Qd:Sch:=
 let a:Sch:=.fork [(6,.take 7 .done)]
 let b:Sch:=.fork [(5,a)]
 let c:Sch:=.fork [(1,a)]
 .take 0 (.take 2 (.take 3 (.take 4 (.fork [(1,b),(5,c)]))))
end
theorem qM(q r:Pos->Bool)(t:List (Nat×SV))(s:Nat):look (t.map ((λp=>(p.1,dq q p.2))∘λp=>(p.1,dq r p.2))) s=dq q (dq r (look t s)):=by
 rw[←Wo,cQ,cQ]
theorem yG:∀L:au,pq (L.map f9) (L.map aF)
 |[]=>trivial
 |c::L=>⟨by simp[f9,aF,bX,cr],yG L⟩
theorem Sim.leF{g:Gh}{st st':St}{a:Act}{w:ab}(h:Sim g st a w)(hp:∀p,aj st' p=aj st p∨∃x y,aj st p=.pv x∧aj st' p=.pv y∧∀g v,Fit g x v->Fit g y v)(H:st'.h.length=st.h.length)(M:∀b,(st'.h.getD b []).length=(st.h.getD b []).length):Sim g st' a w:=by
 obtain⟨bl,ho⟩:=h.own;have J:∀p,(aj st' p).isOwn=(aj st p).isOwn:=λp=>by
  rcases hp p with e|⟨x,y,m,f,_⟩;rw[e];rw[m,f];rfl
 have l:∀p nw e rows,aj st' p=.own nw e rows->aj st p=.own nw e rows:=λp nw e rows q=>by
  rcases hp p with m|⟨x,y,_,f,_⟩;rw[←m];exact q;rw[f]at q;cases q
 have D:∀{sv:SV}{v:an},cL g st a w sv v->cL g st' a w sv v:=by
  intro sv
  induction sv with
  |al p=>intro v d t;exact d (by rw[←J];exact t)
  |loc p lo hi=>intro v d nw e rows q;exact d nw e rows (l _ _ _ _ q)
  |sptr p i k=>intro v d nw e rows q;exact d nw e rows (l _ _ _ _ q)
  |agl xs=>intro v d k x p hk t;exact d k x p hk (by rw[←J];exact t)
  |opt c x O=>intro v d N;exact O (d N)
  |_=>intro v _;trivial
 have A:∀p v o,aO g w (aj st p) v o->aO g w (aj st' p) v o:=λp v o hs=>by
  rcases hp p with e|⟨x,y,m,f,A⟩;rw[e];exact hs;rw[m]at hs;rw[f];exact⟨hs.1,A _ _ hs.2⟩
 refine{
  size:=h.size,defs:=h.defs,env:=h.env,n:=by rw[H];exact h.n,n0:=h.n0,B:=h.B,I:=h.I,F:=h.F,μI:=h.μI,μinj:=h.μinj,
  own:=⟨bl,{slots:=λs=>A (.slot s) _ _ (ho.slots s),blocks:=λb E hx=>?_,inj:=ho.inj,free:=ho.free}⟩,al:=λs=>?_}
 have r:b<st.h.length:=by rw[←H];exact(Vp.1 hx).1
 have j:E.length=(st.h[b]).length:=by
  have:=M b;rw[Vr,Vr,hx,Vq r]at this;simpa using this
 obtain⟨arr,T,m,f,K⟩:=ho.blocks b _ (Vq r);refine⟨arr,T,m,⟨by rw[j];exact f.1,f.2⟩,λk x hk=>?_⟩;have z:k<(st.h[b]).length:=by rw[←j];exact(Vp.1 hk).1
 have C:aj st' (.cell b k)=x:=by simp only[aj,Vr,hx,V7,hk]
 have g2:aj st (.cell b k)=(st.h[b])[k]:=by simp only[aj,Vr,Vq r,V7,Vq z]
 obtain⟨c1,c2⟩:=K k _ (Vq z);have G:=A (.cell b k) (arr.getD k undef) (bl (.cell b k)) (by rw[g2];exact c2);rw[C]at G;refine⟨?_,G⟩;rcases hp (.cell b k)with e|⟨u,v,_,e,_⟩;rw[←C,e,g2];exact c1;rw[←C,e];rfl;have L:=h.al s;rcases hp (.slot s)with e|⟨x,y,_,e,_⟩;simp only[aj]at e;rw[e];exact D L;simp only[aj]at e;rw[e];trivial
theorem av.fitC{k0:Nat}{st:St}{b k:Nat}{xs:bj}{x y:PV}(hx:st.h[b]?=some xs)(hk:xs[k]?=some (.pv x))(n:∀g v,Fit g x v->Fit g y v):av k0 st ⟨st.t,st.h.set b (xs.set k (.pv y))⟩:=λg a w _ hs=>by
 obtain⟨m,r⟩:=Vp.1 hx;obtain⟨d,o⟩:=Vp.1 hk;have i:st.h.getD b []=xs:=by rw[Vr,hx];rfl
 have l:∀c,(st.h.set b (xs.set k (.pv y))).getD c []=if c=b then xs.set k (.pv y)else st.h.getD c []:=λc=>by
  simp only[Vr,V2];by_cases e:c=b;subst e;rw[Vt rfl,Vt m,Vt rfl];rfl;rw[Vs (λq=>e q.symm),Vs e]
 refine⟨g,hs.refl_to,hs.leF (λp=>?_) (by simp) (λc=>?_)⟩;cases p with
 |slot s=>exact .inl rfl
 |cell c j=>
  simp only[aj];rw[l];by_cases e:c=b;subst e;rw[Vt rfl,i];by_cases f:j=k;subst f;exact .inr ⟨x,y,by rw[Vr,hk];rfl,by rw[Vr,VZ d];rfl,n⟩;left;simp only[Vr];rw[VL (λq=>f q.symm)];rw[Vs e];exact .inl rfl
 rw[l];split;rename_i e;subst e;rw[i];simp;rfl
def pX(k:Int):Int:=if 100<(if 1000000<k then 1000000 else k)then(if 1000000<k then 1000000 else k)else 100
def tE(k:Int):Int:=if 0<(if 100<k then 100 else k)then(if 100<k then 100 else k)else 0
def iq(n:Nat)(cs:au)(kp a:Int):ES:=⟨nz n,⟨[],[]⟩,⟨[],[],[],0,[]⟩,pA n,n,cs,List.replicate (n+1) false,pX kp,tE a,64,0,-1,false,0,false,[],[]⟩
def Nv(ba bt:Nat):bj:=[.pv (.ptr ba 0),.pv (.ptr bt 0),.omap true [],.omap true [],.omap true [],.pv (ak 0),.pv (.lit (.slice none 0 0))]
def NZ(bt ba bw bh n:Nat)(cs:au)(kp a:Int):bj:=[.pv (.ptr bt 0),.pv (ak n),.pv (.seq true 1 (cs.map f9)),.pv (.ptr ba 0),.pv (.ptr bw 0),.pv (.ptr bh 0),.own true 1 (List.replicate (n+1) [BL false]),.pv (ak (pX kp)),.pv (ak (tE a)),.pv (ak 64),.pv (ak 0),.pv (ak (-1)),.pv (BL false),.pv (ak 0),.pv (BL false),.pv (.lit (.slice none 0 0)),.omap true []]
def wY(h:ao)(x y:bj)(E:ES):ao:=h++[x,y,iI E.T,aH E.q,kJ E.A,cW (h.length+4) (h.length+2) ⟨[],[],[],0,[]⟩,cE (h.length+2) (h.length+4) (h.length+5) (h.length+3) E]
theorem Nw(h:ao)(x y:bj)(E:ES)(f:E.S=⟨[],[],[],0,[]⟩):LayE (wY h x y E) (h.length+6) (h.length+2) (h.length+4) (h.length+5) (h.length+3) [] [] E where
 w:={
  w:=by rw[f];simp[wY]
  a:=by simp[wY]
  t:=by simp[wY]
  wa:=by omega
  wt:=by omega
  at':=by omega
  keys:=by rw[f];rfl
  pr:=λk b c=>by simp[lk]at c
  pinj:=λk k' b c=>by simp[lk]at c
  by':=λl e g=>by simp[lk]at g
  byn:=λl _=>by rw[f];simp[lk]
  binj:=λl l' e e' g=>by simp[lk]at g
  pb:=λk b l e c=>by simp[lk]at c}
 e:=by simp[wY]
 q:=by simp[wY]
 ne:=by omega
 eo:=⟨λd=>by rcases d with d|d|⟨k,d⟩|⟨l,e,d,_⟩<;>first|omega|simp[lk]at d,by omega⟩
 ho:=⟨λd=>by rcases d with d|d|⟨k,d⟩|⟨l,e,d,_⟩<;>first|omega|simp[lk]at d,by omega⟩
theorem Nx(h:ao)(x y:bj)(E:ES):Ext h (wY h x y E) (λ_=>False) (dH (h.length+6) (h.length+2) (h.length+4) (h.length+5) (h.length+3) [] [])where
 len:=by simp[wY]
 same:=λb a _=>Vv a
 sub:=λb a d=>by
  rcases d with d|d|d|d|d|⟨k,d⟩|⟨l,e,d,_⟩<;>first|omega|simp[lk]at d
theorem PB{n:Nat}(hn:n<=400)(F cs:au)(kp a:Int){r s:Nat}(d:r<=1000000)(hs:s<=1000000):EI n F r s [] (iq n cs kp a)where
 n9:=hn
 tok:=TOk.new (by omega)
 wok:={nd:=by simp[iq],lits:=λk p h=>by simp[iq,lk]at h,lnd:=by simp[iq],lpr:=λk h=>by simp[iq]at h,two:=λk p h=>by simp[iq,lk]at h,bnd:=λl=>by simp[iq,bF,lk],mem:=λl k=>by simp[iq,bF,lk],few:=by simp[iq],h0:=by simp[iq],h1:=by simp[iq],sl:=by simp[iq],clr:=by simp[iq,pV]}
 prz:=by simp[iq];omega
 ari:=ArI.new
 rsz:=by simp[iq];omega
 idz:=by simp[iq];omega
 ids:=by simp
 cls:=λx hx=>by simp[bs]at hx
 att:=λk c=>by simp[CW,iq,lk,bs]
 ef:=by
  have:gV (iq n cs kp a).T=⟨n,[],0⟩:=by simp[gV,iq,nz]
  rw[this];exact EF.new _
 ent:=λx hx=>by simp[bs]at hx
 ovr:=by simp[iq,bs]
 hp:=M7 n
 inh:=λv h1 b _=>by
  simp only[iq,pA,VB,WN];exact⟨(v -1).toNat,by omega,by omega⟩
 ph:=by simp[iq]
 cal:=λh=>by simp[iq]at h
 con:=λh=>by simp[iq]at h
 dcy:=by simp only[iq,tE];split<;>split<;>omega
 inc:=by simp[iq]
theorem Q6{l:List Rc}{x:Rc}(hs:x.side≠2):rC (l++[x])=rC l++[x.lits]:=by
 unfold rC;rw[jp];simp[bs,hs]
theorem PC{c:af}{m:Int}(h:iM c m=0):c.length<=1000∧c.Nodup∧∀y∈c,aQ y m=0:=by
 unfold iM at h;split at h;omega;rename_i h0;split at h;omega;split at h;omega;split at h;rename_i h1 a b;refine⟨by omega,IF b,λy hy=>?_⟩;have:uY y m=true:=by
  have d:(c.all λx=>uY x m)=true:=by simpa using a
  exact Wa.1 d y hy
 unfold aQ;rw[Vs h0,Vt this];omega
theorem yH{v:Int}:∀{L:au}{i:Nat},(km v L i).2=0->∀c∈L,iM c v=0
 |[],_,_,_,a=>by cases a
 |d::L,i,h,c,a=>by
  rw[km]at h;by_cases h1:iM d v≠0;rw[Vt h1]at h;exact absurd h h1;rw[Vs h1]at h;rcases VU.1 a with rfl|a;simpa using h1;by_cases b:gN d=true;rw[Vt b]at h;exact absurd h (by show¬((11:Int)=0);decide);rw[Vs b]at h;exact yH h c a
theorem Q7{n:Nat}{cs:au}(h:(d6 n cs).2=0):∀c∈cs,c.length<=1000∧c.Nodup∧∀y∈c,aQ y n=0:=λc a=>by
 have h1:(km n cs 0).2=0:=by
  unfold d6 at h;split at h;cases h;split at h;cases h;exact h
 exact PC (yH h1 c a)
structure NewOk (n:Nat) (cs:au) (kp:Int) (E:ES) (l:List Rc) (L:au):Prop where
  T:E.T=nz n
  vars:E.vars=n
  cs:E.cs=cs
  keep:E.keep=pX kp
  pf:E.pf=[]
  many:E.many=0
  calm:E.calm=false
  con:E.con=-1
  rc:rC l=L
  side:∀x∈l,x.side=0
  num:l.map (λx=>(x.id,x.lits))=L.mapIdx λi c=>(((i+1:Nat):Int),c)
  id:E.id=L.length
def Va(n:Nat)(cs:au)(kp:Int)(r s:Nat)(h:ao)(y:SV)(h':ao):Prop:=∃be bt ba bw bh mp E l,y=.pv (.tup [.ptr be 0,ak 0])∧LayE h' be bt ba bw bh mp [] E∧Ext h h' (λ_=>False) (dH be bt ba bw bh mp [])∧EI n cs r s l E∧NewOk n cs kp E l cs
set_option maxHeartbeats 1000000 in
theorem PD(h:ao)(n:Nat)(hn:n<=400)(cs:au)(rs kp f:Int)(hc:cs.length<=1000000)(hcl:∀c∈cs,c.length<=1000000)(hk:(d6 n cs).2=0){r s:Nat}(hr:cs.length+r<=1000000)(hs:cs.length*1003+s<=1000000):
 aI Tryz.prog 21 [.agg [ak n,.seq false 1 (cs.map aF)],.agg [ak rs,ak kp,ak f]] h (Va n cs kp r s h):=by
 have ae:n<=900:=by omega
 refine dh [9] [.tmp 4,.tmp 5] aP Tryz.func21 ?_;have kC:=z7 n cs hcl;rw[hk]at kC;have h9:¬(900:Int)<n:=by omega
 have kT:=λg=>Ot g n (by omega);simp;refine ap.intro kC ?_;simp[h9];refine ap.introM (kT _) ?_;rintro _ _ ⟨rfl,rfl⟩;simp;have kH:=λg=>Ps g n;refine ap.introM (kH _) ?_;rintro _ _ u;rw[Vt (by omega)]at u;obtain⟨rfl,rfl⟩:=u;simp;refine ap.introM (OD _) ?_;rintro _ _ ⟨rfl,rfl⟩;simp;have kW:=GP n cs hc hcl;generalize M:h++[[.pv (ak n),.pv (.seq false 1 (cs.map aF))],[.pv (ak rs),.pv (ak kp),.pv (ak f)],[.own true 4 ((nz n).marks.map sa),.pv (.lit (.slice none 0 0)),.pv (.lit (.slice none 0 0)),.pv (BL true)],aH (pA n),RL]=H;have z:H.length=h.length+5:=by rw[←M];simp
 have B:∀u,H[h.length]'u=[.pv (ak n),.pv (.seq false 1 (cs.map aF))]:=by subst M;intro u;simp
 have C:∀u,H[h.length+1]'u=[.pv (ak rs),.pv (ak kp),.pv (ak f)]:=by subst M;intro u;simp
 have D:∀g u,(H++g)[h.length]'u=[.pv (ak n),.pv (.seq false 1 (cs.map aF))]:=λg u=>by rw[V6 (by omega)];exact B _
 have F:∀g u,(H++g)[h.length+1]'u=[.pv (ak rs),.pv (ak kp),.pv (ak f)]:=λg u=>by rw[V6 (by omega)];exact C _
 have j:H[h.length]?=some [.pv (ak n),.pv (.seq false 1 (cs.map aF))]:=by rw[Vq (by omega),B]
 have o:H[h.length+1]?=some [.pv (ak rs),.pv (ak kp),.pv (ak f)]:=by rw[Vq (by omega),C]
 have p:∀g,(H++g)[h.length]?=some [.pv (ak n),.pv (.seq false 1 (cs.map aF))]:=λg=>by rw[Vv (by omega),j]
 have w:∀g,(H++g)[h.length+1]?=some [.pv (ak rs),.pv (ak kp),.pv (ak f)]:=λg=>by rw[Vv (by omega),o]
 have L:bG ((n:Int)+1)=(n:Int)+1:=aC (by omega) (by omega);have I:((n:Int)+1).toNat=n+1:=by omega
 refine bP.tab [] ⟨[some (40,.pv (.ptr (h.length+2) 0)),some (41,.pv (.agg [ak n,.seq false 1 (cs.map aF)])),some (42,.pv (.agg [ak n,.seq true 1 (cs.map f9)])),some (43,.pv (.ptr (h.length+4) 0)),some (44,.pv (.ptr (h.length+4) 0)),some (45,.pv (.ptr (h.length+2) 0)),some (46,.pv (.ptr (h.length+5) 0)),some (47,.pv (.ptr (h.length+3) 0)),some (48,.pv (.ptr h.length 0)),some (49,.pv (ak n)),some (50,.pv (ak ((n:Int)+1))),some (51,.own true 1 (List.replicate (n+1) [BL false])),some (52,.pv (.ptr (h.length+1) 1)),some (53,.pv (ak kp)),some (54,.pv (ak (if 1000000<kp then 1000000 else kp))),some (55,.pv (ak (pX kp))),some (56,.pv (.ptr (h.length+1) 2)),some (57,.pv (ak f)),some (58,.pv (ak (if 100<f then 100 else f))),some (59,.pv (ak (tE f))),some (60,.omap true []),some (61,.agl [(.ptr (h.length+2) 0,none),(ak n,none),(.seq true 1 (cs.map f9),none),(.ptr (h.length+4) 0,none),(.ptr (h.length+5) 0,none),(.ptr (h.length+3) 0,none),(.bot,some (.slot 51)),(ak (pX kp),none),(ak (tE f),none),(ak 64,none),(ak 0,none),(ak (-1),none),(BL false,none),(ak 0,none),(BL false,none),(.lit (.slice none 0 0),none),(.bot,some (.slot 60))]),some (62,.pv (.ptr (h.length+6) 0)),some (13,.pv (.ptr (h.length+6) 0))],[(2,.pv (.ptr h.length 0)),(3,.pv (.ptr (h.length+1) 0)),(8,.pv (.ptr (h.length+2) 0)),(10,.pv (.ptr (h.length+3) 0)),(12,.pv (.ptr (h.length+4) 0))],[[],[],[1],[],[],[],[4,5],[],[],[8],[9],[10],[],[12],[13],[14],[],[16],[17],[18],[],[0,2,3,6,7,11,15,19,20],[11,20,21],[22]],[6,21,22],[[0,1],[0],[0],[0,1],[0],[0],[0],[0,1],[0,1,2,3],[0,1],[0,1],[0,1],[0,1,2,3],[0,1],[0,1],[0,1],[0,1,2,3],[0,1],[0,1],[0,1],[0,1],[1],[2],[3]],[(11,61),(20,61),(22,51),(22,60),(22,61)],λ|0=>H|1=>H++[Nv (h.length+4) (h.length+2)]|2=>H++[Nv (h.length+4) (h.length+2)]|_=>H++[Nv (h.length+4) (h.length+2),NZ (h.length+2) (h.length+4) (h.length+5) (h.length+3) n cs kp f]⟩ ⟨[(2,.pv (.ptr h.length 0)),(13,.pv (.ptr (h.length+6) 0))],H++[Nv (h.length+4) (h.length+2),NZ (h.length+2) (h.length+4) (h.length+5) (h.length+3) n cs kp f]⟩ (by kernel_rfl) (by simp[bZ]) rfl ?_ (λt h1 G=>?_) ?_
 .simp only[Tb.steps,NW,Tb.lvA,Tb.dpA,Eb,xP,Xv,XT,dB,fP,pK,lD,gB,gq,Oc,jX,mE,Wu,XK,Yr,ZJ,YQ,ZS,ZR,XJ,Yd,We,WM];and_intros
  all_goals first|trivial|(intro t h1 G;simp only[bZ,Wh,V8]at h1;simp[z,j,o,p,w,D,F,B,C,L,I,pX,tE,Nv,NZ,qM,h1,G,Tb.postL,Tb.wth,zM,xP,bZ,cQ]<;>and_intros<;>first|omega|(intro e;simp[z,j,o,p,w,D,F,B,C,L,I,pX,tE,Nv,NZ,qM,e]))|(intro t h1 G;simp only[bZ,Wh,V8]at h1;simp[z,j,o,p,w,D,F,B,C,L,I,pX,tE,Nv,NZ,qM,h1,G,Tb.postL,Tb.wth,zM,xP,bZ,cQ])
  refine ap.intro kW ?_;simp[z,j,o,p,w,D,F,h1,G,Tb.postL,Tb.wth,zM,xP,bZ,cQ]<;>and_intros<;>first|omega|(intro e;simp[e])
  refine ay.intro (Ph _ (h.length+4) (h.length+2)) ?_;rintro _ _ ⟨rfl,rfl⟩;simp[z,j,o,p,w,D,F,h1,G,Nv,Tb.postL,Tb.wth,zM,xP,bZ,cQ]<;>and_intros<;>first|omega|(intro e;simp[e])
 simp only[bZ,Wh,V8]at h1 G;simp[NX]at G;exact av.keep (by simp[h1,G]) rfl;simp[p];clear B C D F j o p w z kC kT kH kW L I h9;have U:=Q7 hk;obtain⟨bx,Q⟩:∃x:bj,[.pv (ak n),.pv (.seq false 1 (cs.map aF))]=x:=⟨_,rfl⟩;obtain⟨by',R⟩:∃x:bj,[.pv (ak rs),.pv (ak kp),.pv (ak f)]=x:=⟨_,rfl⟩;refine aM.intro (S:=λ(x:Nat×ao×cg×ES×List Rc)=>⟨[(13,.pv (.ptr (h.length+6) 0)),(64,.pv (.seq false 1 (cs.map aF))),(65,.pv (ak cs.length)),(66,.pv (ak x.1))],x.2.1⟩)
  (λx=>x.1<=cs.length∧LayE x.2.1 (h.length+6) (h.length+2) (h.length+4) (h.length+5) (h.length+3) x.2.2.1 [] x.2.2.2.1∧Ext h x.2.1 (λ_=>False) (dH (h.length+6) (h.length+2) (h.length+4) (h.length+5) (h.length+3) x.2.2.1 [])∧EI n cs (r+(cs.length -x.1)) (s+(cs.length -x.1)*1003) x.2.2.2.2 x.2.2.2.1∧NewOk n cs kp x.2.2.2.1 x.2.2.2.2 (cs.take x.1)) (λx=>cs.length -x.1)
  (0,wY h bx by' (iq n cs kp f),[],iq n cs kp f,[]) ?_ ⟨VH _,Nw _ _ _ _ rfl,Nx _ _ _ _,PB hn _ _ _ _ (by omega) (by omega),⟨rfl,rfl,rfl,rfl,rfl,rfl,rfl,rfl,rfl,by simp,rfl,rfl⟩⟩ ?_
 subst M;refine(av.keep (t1:=[(13,.pv (.ptr (h.length+6) 0)),(64,.pv (.seq false 1 (cs.map aF))),(65,.pv (ak cs.length)),(66,.pv (ak 0))]) (by simp) rfl).trans ?_;simp only[VV,Wh,V8];refine(av.nilCell (b:=h.length+2) (k:=1) (xs:=[.own true 4 ((nz n).marks.map sa),.pv (.lit (.slice none 0 0)),.pv (.lit (.slice none 0 0)),.pv (BL true)]) 1 true (by simp) (by simp)).trans ?_;refine(av.nilCell (b:=h.length+2) (k:=2) (xs:=[.own true 4 ((nz n).marks.map sa),.own true 1 [],.pv (.lit (.slice none 0 0)),.pv (BL true)]) 1 true (by simp) (by simp)).trans ?_;refine(av.nilCell (b:=h.length+4) (k:=0) (xs:=RL) 1 true (by simp) (by simp[RL])).trans ?_;refine(av.nilCell (b:=h.length+5) (k:=6) (xs:=Nv (h.length+4) (h.length+2)) 1 true (by simp) (by simp[Nv])).trans ?_;refine(av.nilCell (b:=h.length+6) (k:=15) (xs:=NZ (h.length+2) (h.length+4) (h.length+5) (h.length+3) n cs kp f) 4 true (by simp) (by simp[NZ])).trans ?_;refine(av.fitC (b:=h.length+6) (k:=2) (xs:=(NZ (h.length+2) (h.length+4) (h.length+5) (h.length+3) n cs kp f).set 15 (.own true 4 [])) (x:=.seq true 1 (cs.map f9)) (y:=.seq false 1 (cs.map aF)) (by simp) (by simp[NZ]) λg v hv=>vf (x:=.seq true 1 (cs.map f9)) ⟨λe=>(by cases e),rfl,yG cs⟩ hv).trans ?_;refine av.le (by simp) ?_;simp[wY,RL,Nv,NZ];refine vc h ?_;simp[Q,R,cE,kJ,iI,cW,iq,am,fM,nz,aL,sE];rintro⟨i,X,mp,E,l⟩ ⟨hi,N,O,J,a⟩;dsimp only at hi N O J a;by_cases d:i<cs.length;obtain⟨h1,G,h3⟩:=U _ (Vx d);have hT:=J.tok;have W:r+(cs.length -i)=(r+(cs.length -(i+1)))+1:=by omega
 have Y:s+(cs.length -(i+1))*1003+(3+cs[i].length)<=s+(cs.length -i)*1003:=by omega
 have P:=J.mono (Nat.le_of_eq W.symm) Y;have hE:∀q,HpTo n E.q q->lp (E.id+1) cs[i]=0∧rT (d7 E.A (E.id+1) cs[i] false) E.T E.S E.A.row.length=0∧EI n cs (r+(cs.length -(i+1))) (s+(cs.length -(i+1))*1003) (l++[⟨E.id+1,gj false,cs[i]⟩]) (Fv E cs[i] false q):=λq hq=>
  P.add false h1 G h3 (λm hm=>hm _ (Vx d)) (λk k1 k2=>by rw[a.T]at k2;simp[gV,nz]at k2;omega) a.calm (by rw[a.con];omega) q hq.hp hq.mem
 obtain⟨e1,_,e3⟩:=hE E.q (.refl J.hp);have ab:=J.idz;have ad:=J.rsz;have K:=e3.rsz;have kA:=Hy N hT J.hp (by omega) cs[i] false e1 e3.arok (by simp only[Fv]at K;omega) (by omega) (by omega);have L:=dU i;have V:aF cs[i]=[.seq false 1 (am cs[i])]:=rfl;simp[d,V];refine ay.intro kA ?_;rintro _ X2 ⟨rfl,aa,q,L2,Y2,G2⟩;simp;refine⟨(i+1,X2,aa,Fv E cs[i] false q,l++[⟨E.id+1,gj false,cs[i]⟩]),by dsimp only;omega,⟨by dsimp only;omega,L2,O.trans Y2,(hE q G2).2.2,⟨a.T,a.vars,a.cs,a.keep,a.pf,a.many,a.calm,a.con,?_,?_,?_,?_⟩⟩,av.keep (by simp[L]) rfl⟩;rw[Q6 (by simp[gj]),a.rc,Wj];simp[d];intro x hx;rcases VF.1 hx with hx|hx;exact a.side x hx;simp at hx;subst hx;rfl;have oL:=a.id;rw[Vy,WL hi]at oL;rw[V1,a.num,Ws d,List.mapIdx_append,Vy,WL hi];simp[oL];have oL:=a.id;rw[Vy,WL hi]at oL;show E.id+1=_;rw[oL,Vy,WL (by omega)];omega;have Z:i=cs.length:=by omega
 subst Z;simp;exact⟨_,_,_,_,_,mp,E,l,rfl,N,O,J.mono (by omega) (by omega),by rw[VX]at a;exact a⟩
open Go.Proofs Go.Proofs.Tryz
theorem Ny(h:ao)(v:Int)(cs:au)(rs kp a:Int)(hcl:∀c∈cs,c.length<=1000000)(hk:(d6 v cs).2≠0∨900<v):
 aI prog 21 [.agg [ak v,.seq false 1 (cs.map aF)],.agg [ak rs,ak kp,ak a]] h (λy h'=>y=.pv (.tup [.lit (.pointer none),ak (if(d6 v cs).2≠0 then(d6 v cs).2 else 3)])∧Ext h h' (λ_=>False) (λ_=>False)):=by
 refine dh [9] [.tmp 4,.tmp 5] aP func21 ?_;have d:=z7 v cs hcl;have hx:=λg=>Ext.app h g (λ_=>False);simp;refine ap.intro d ?_;by_cases c:(d6 v cs).2=0;have b:900<v:=hk.resolve_left (λe=>e c);simp[c,b,hx];simp[c,hx]
section
variable {h : ao} {be bt ba bw bh : Nat} {mp : cg} {mb : List (Int × By)} {E : ES}
theorem CQ(L:LayE h be bt ba bw bh mp mb E){n:Nat}(i:TOk n E.T)(g:HpG n 1000000000000 E.q)(hp:E.ph.length=n+1):
 aI prog 24 [.ptr be 0] h (λr h'=>r=.pv (.tup [])∧((E.over=true∧h'=h)∨(E.over=false∧∃q p,LayE h' be bt ba bw bh mp mb {E with T:=gh E.T 0,q:=q,ph:=p,con:=-1,calm:=false}∧Ext h h' (dH be bt ba bw bh mp mb) (dH be bt ba bw bh mp mb)∧HpTo n E.q q∧p.length=n+1∧∀z∈E.T.lits,z∉(gh E.T 0).lits->aq z∈q.row))):=by
 refine dh [] [] aP func24 ?_;have j:=CP L i g hp 0;obtain⟨b,a⟩:=Vp.1 L.e;simp;refine ay.intro (ip L.e) ?_;rintro _ _ ⟨rfl,rfl⟩;cases ho:E.over;simp[a,b,cE,ho];refine ay.intro j ?_;rintro _ k ⟨rfl,q,p,c,d⟩;have f:({E with T:=gh E.T 0,q:=q,ph:=p,con:=-1,calm:=false}:ES)={E with T:=gh E.T 0,q:=q,ph:=p,con:=-1,calm:=false,over:=false}:=by rw[←ho]
 rw[f]at c;simp;exact⟨q,p,c,d⟩;simp[a,b,cE,ho]
end
def Nz:Sch:=
 let c:Sch:=.fork [(15,.done)]
 let d:Sch:=.fork [(12,.take 13 (.take 14 c))]
 let a:Sch:=.fork [(9,.take 10 (.take 11 d))]
 let e:Sch:=.fork [(8,a)]
 let b:Sch:=.fork [(6,a)]
 let f:Sch:=.fork [(6,e),(8,b)]
 let g:Sch:=.fork [(5,b)]
 let h:Sch:=.fork [(5,f),(8,g)]
 .take 0 (.take 1 (.take 2 (.take 3 (.take 4 (.take 7 h)))))
def CR(x:Stp):aD:=[ak x.kind,ak x.id,.bot,.bot]
@[simp] theorem CS(k:Nat)(l:List Stp):bV k (l.map CR):=by
 induction l with
 |nil=>trivial
 |cons x l a=>exact⟨⟨trivial,trivial,trivial,trivial,trivial⟩,a⟩
theorem CT:∀l:List Stp,Da (l.map CR)
 |[]=>trivial
 |_::l=>⟨⟨trivial,trivial,trivial,trivial,trivial⟩,CT l⟩
theorem yI{g:Gh}:∀{l:List Stp}{vs:aG},aK g 4 (l.map bd) vs->aK g 4 (l.map CR) vs
 |[],_,h=>h
 |_::_,_,⟨t,u,h1,i,⟨p,m,a,b,q,n,c,d,r,r3,e,_,s,o,f,_,j⟩,k⟩=>⟨t,u,h1,i,⟨p,m,a,b,q,n,c,d,r,r3,e,trivial,s,o,f,trivial,j⟩,yI k⟩
theorem CU(l:List Stp)(t:l.length<=1000000):aw prog 76 [.seq false 4 (l.map bd)] (λr=>r=.own true 4 (l.map CR)):=by
 have h1:aw prog 76 [.seq false 4 (l.map bd)] (λr=>r=.own true 4 (l.map bd)∨r=.pv (.lit (.slice none 0 0))∧l=[]):=by
  refine aB aP func76 ?_;cases l with
  |nil=>simp
  |cons x l=>simp;simp at t;omega
 have f:aw prog 76 [.seq false 4 (l.map bd)] (λr=>r=.own true 4 (l.map bd)):=
  aw.own0 h1 λr h=>h.imp id λ⟨e,d⟩=>⟨e,true,4,by rw[d];rfl⟩
 refine⟨f.1,λw vs u=>(f.2 w vs u).mono λe w' ⟨v,r,g',o,g,d,i,j,z,k⟩=>?_⟩;subst d;refine⟨v,.own true 4 (l.map CR),g',o,g,rfl,i,?_,rfl,k⟩;rcases j with⟨a,b,c⟩|⟨c,s,cap,arr,T,y,m,n,p,q,f5,f6⟩;exact .inl ⟨a,by rw[Zj]at b⊢;exact b,c⟩;exact .inr ⟨c,s,cap,arr,T,y,by simpa using m,n,p,by simpa using q,yI f5,f6⟩
section
variable {h : ao} {be bt ba bw bh : Nat} {E : ES}
theorem Js(w:h[be]?=some (cE bt ba bw bh E))(x:E.pf.length<=1000000)(hs:∀s∈E.pf,s.lits.length<=1000000∧s.hints.length<=1000000):aI prog 33 [.ptr be 0] h (λr h'=>h'=h∧r=.pv (.seq true 4 (E.pf.map fT))):=by
 refine aI.below (by kernel_rfl) λz=>?_;refine ij [7] [.tmp 2] aP func33 ?_;obtain⟨a,c⟩:=Vp.1 w;obtain⟨ss,b⟩:∃ss,E.pf=ss:=⟨_,rfl⟩;rw[b]at x hs⊢;have y:=CU ss x;obtain⟨Q,f⟩:∃Q:Nat->aT,∀i,Q i=(ss.take i).map fT++(ss.drop i).map CR:=⟨_,λ_=>rfl⟩;have l:Q 0=ss.map CR:=by rw[f];rfl
 have n:Q ss.length=ss.map fT:=by rw[f];simp
 have p:∀i,i<=ss.length->(Q i).length=ss.length:=λi hi=>by rw[f];simp;omega
 simp;refine ay.intro (ip w) ?_;rintro _ h ⟨rfl,rfl⟩;simp[c,a,cE,b];refine ap.intro y ?_ (by simp[CT]);simp[c,a,cE,b];refine aM.intro (S:=λ(i:Nat)=>⟨[(0,.pv (.ptr be 0)),(3,.own true 4 (Q i)),(17,.al (.cell be 15)),(18,.pv (ak ss.length)),(19,.pv (ak i))],h⟩) (λi=>i<=ss.length) (λi=>ss.length -i) 0 ?_ (VH _) ?_;exact av.keep (by simp[l]) rfl;intro i hi;have e:=p i hi;by_cases d:i<ss.length
 .have A:=dU i;have j:ss[i]?=some ss[i]:=Vq d;have g:=hs _ (Vx d);have t:=dy ss[i].lits g.1;have u:=dy ss[i].hints g.2;have o:(Q i)[i]'(by omega)=[ak ss[i].kind,ak ss[i].id,.bot,.bot]:=by
   simp only[f];rw[Xz (by simp;omega)];simp[CR,WL hi]
  have q:(Q i).set i [ak ss[i].kind,ak ss[i].id,.seq true 1 (am ss[i].lits),.seq true 1 (am ss[i].hints)]=Q (i+1):=by
   rw[f,f,XG _ _ (by simp;omega),Ws d,V1,VV];congr 1;rw[VA,Vy,WL hi,Xr,V3 d];rfl
  have m:∀k,bV k (Q (i+1)):=λk=>by
   rw[f];exact(pJ k _ _).2 ⟨ow k _,CS k _⟩
  simp[d,j,bd,e,c,a,cE,b];refine bP.one Nz (by kernel_rfl) ?_;simp[Nz,d,j,bd,e,c,a,cE,b];and_intros
  all_goals
   refine ap.intro t ?_;simp[d,j,bd,e,c,a,cE,b];refine ap.intro u ?_;simp[d,j,bd,e,c,a,cE,b];exact⟨i+1,by(try dsimp only);omega,by(try dsimp only);omega,av.to (by simp[A,o,q,bd]) (by simp) (by simp) (by simp[m,a]) (by simp[z])⟩
 have v:i=ss.length:=by omega
 subst v;simp[n]
end
end Go.AX
