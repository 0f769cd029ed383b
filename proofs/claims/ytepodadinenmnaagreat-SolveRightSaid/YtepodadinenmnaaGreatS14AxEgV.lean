/-
  Engines: a conflict is resolved (plain law); and what follows.
-/
import Derived.Test.YtepodadinenmnaaGreatS14AxEgN
import Derived.Test.YtepodadinenmnaaGreatS14AxEgF
import Derived.Test.YtepodadinenmnaaGreatS14AxLuA
import Derived.Test.YtepodadinenmnaaGreatS14AxTyA
import Derived.Test.YtepodadinenmnaaGreatS14AxTmQ
import Derived.Test.YtepodadinenmnaaGreatAxTb
namespace Go.AX
open Go.Proofs
set_option linter.unusedSimpArgs false
def kr(E:ES):Tr:=if aJ E=[]then E.T else eY E.T (eZ E.T (aJ E))
def rT(E:ES)(q:HS)(p:List Bool)(k:Int):ES:={E with
 pf:=E.pf++[⟨1,E.id+1,aJ E,(fE E).map (gt E.A)⟩],many:=E.many+1,q:=q,inc:=k,ph:=p,con:=-1,calm:=false,id:=E.id+1,A:=dt E.A (E.id+1) (aJ E) true
 over:=E.over||decide ((aJ E).length=0),S:=o5 (dt E.A (E.id+1) (aJ E) true) (kr E) E.S E.A.row.length
 T:=if aJ E=[]then E.T else lu (kr E) ((aJ E).headD 0) E.A.row.length,gl:=pt E.gl E.A.row.length (LD E.T (aJ E))}
section
variable {n r s : Nat} {F : List (List Int)} {l : List Rc} {E : ES}
theorem ArI.arok{A:Ar}(h:ArI A l):j9 A:=λq c=>by
 obtain⟨x,hx,e⟩:=h.rel.is q c;obtain⟨p,a,b,_⟩:=h.rel.rows x hx;exact⟨p,_,by rw[←e,a],b⟩
theorem EI.arok(h:EI n F r s l E):j9 E.A:=h.ari.arok
theorem EI.resd(h:EI n F (r+1) (s+(n+3)) l E)(U:0<=E.con)(q:HS)(m:HpTo n E.q q)(p:List Bool)(hp:p.length=n+1)(k:Int)(hk:0<=k∧k<=1000000000)(hin:∀z∈E.T.lits,z∉(kr E).lits->af z∈q.row):
 jA (E.id+1) (aJ E)=0∧EI n F r s (l++[⟨E.id+1,1,aJ E⟩]) (rT E q p k):=by
 have R:=h.res U;have hs:s+(3+(aJ E).length)<=s+(n+3):=by have:=R.len;omega
 have h0:=(h.upd q m.hp m.mem k hk (E.pf++[⟨1,E.id+1,aJ E,(fE E).map (gt E.A)⟩]) (E.many+1) E.gl).mono (SQ _) hs;have X:=h.n9;have f:(aJ E).length<=1000:=by have:=R.len;omega
 have b:kr E=if aJ E=[]then E.T else eY E.T (eZ E.T (aJ E)):=rfl;rcases R.lev with⟨c,e⟩|⟨u,w,e,b0,b1,b2,b3,b4⟩
 .have h1:EI n F (r+1) (s+(3+(aJ E).length)) l {E with q:=q,inc:=k,pf:=E.pf++[⟨1,E.id+1,aJ E,(fE E).map (gt E.A)⟩],many:=E.many+1,con:=-1,calm:=false,ph:=p}:={h0.rest with ph:=hp};obtain⟨H,_,a3⟩:=h1.add (c:=aJ E) true f R.nd R.chk R.ent (λk k0 kd=>by have kd:k<=(E.T.beg.length:Int):=kd;omega) rfl (show(-1:Int)<0 by decide) q m.hp (λ_ d=>d);refine⟨H,?_⟩;have:=a3.upd q m.hp (λ_ d=>d) k hk (E.pf++[⟨1,E.id+1,aJ E,(fE E).map (gt E.A)⟩]) (E.many+1) (pt E.gl E.A.row.length (LD E.T (aJ E)));unfold rT;rw[b,SN e,SN e];exact this
 .have C:aJ E≠[]:=λG=>by rw[e]at G;cases G
  rw[SM C]at b;obtain⟨j,hj⟩:∃j:Nat,eZ E.T (aJ E)=j:=⟨(eZ E.T (aJ E)).toNat,by omega⟩;have a:j<E.T.beg.length:=by omega
  have S:eY E.T (eZ E.T (aJ E))=cF E.T j:=by
   have O:(if(j:Int)<0 then(0:Int)else j)=j:=SM (by omega);unfold eY;rw[hj,O,SN (by omega)];rfl
  rw[S]at b;rw[b]at hin;have h1:=h0.back a q m.hp (λ_ d=>d) hin p hp;have N:∀y∈aJ E,-y∈E.T.lits:=R.neg;have L:∀y∈w,dU E.T y<=j:=λy hy=>by have:=b3 y hy;omega
  have o:(fh (cF E.T j)).dep=j:=by show((cF E.T j).beg.length:Int)=j;rw[(h.tok.back a).2.2,SU];omega
  have B := R.nd; rw [e, UE] at B; obtain ⟨H, _, a3⟩ := h1.add (c := aJ E) true f R.nd R.chk R.ent (λ k k0 kd => by
   have kd:k<=(fh (cF E.T j)).dep:=kd;rw[o]at kd;rcases b4 with b4|⟨y,hy,b4⟩
   .omega
   have i:∀z,z∈bel (fh (cF E.T j)) k->z∈bel (fh E.T) k:=λz hz=>by
    rw[Aw h.tok a]at hz;obtain⟨x,hx,rfl⟩:=SY.1 hz;obtain⟨J,K⟩:=TE.1 hx;exact SY.2 ⟨x,TE.2 ⟨TL J,K⟩,rfl⟩
   refine .inr ⟨u,y,by rw[e];simp,by rw[e];simp[hy],λG=>B.1 (G▸hy),λg=>?_,λg=>?_⟩
   .have:=sB h.tok (i _ g);omega
   .have:=sB h.tok (i _ g);omega) rfl (show(-1:Int)<0 by decide) q m.hp (λ_ d=>d)
  refine⟨H,?_⟩;have P:=a3.upd q m.hp (λ_ d=>d) k hk (E.pf++[⟨1,E.id+1,aJ E,(fE E).map (gt E.A)⟩]) (E.many+1) (pt E.gl E.A.row.length (LD E.T (aJ E)));have I:(⟨E.A.row.length,E.id+1,aJ E⟩:Ro)∈aQ 0 (l++[⟨E.id+1,ff true,aJ E⟩]):=by
   rw[il,TP,←h.ari.row];simp[aQ,ff]
  have W:dU E.T u=E.T.beg.length:=b2;have v:-u∈E.T.lits:=N u (by rw[e];simp);have t:fX (cF E.T j) u=0:=by
   obtain⟨t1,Y,_⟩:=h.tok.back a;refine(t1.may u).2 ⟨R.chk u (by rw[e];simp),λg=>?_,λg=>?_⟩
   .rw[Y]at g;exact h.tok.one (TL g) v
   .have:=(Ex h.tok a v).1 g;omega
  have Q := P.imp I (u := u) (by rw [e]; simp) t (λ y hy D => by
   have hy:y∈aJ E:=hy;have M:y∈w:=by rw[e]at hy;exact(Tp.1 hy).resolve_left D
   exact(Ex h.tok a (N y hy)).2 (L y M)) rfl (show(-1:Int)<0 by decide)
  have V:(aJ E).headD 0=u:=by rw[e];rfl
  unfold rT;rw[SM C,b,V];exact Q
end
theorem ku{α:Type}{l:List α}{i:Nat}(h:i<l.length):l.take (i+1)=l.take i++[l[i]]:=T8 h
theorem Ko:∀(l:List Rc)(p:Nat)(x:Rc),(aQ p (l++[x])).map (·.at')=(aQ p l).map (·.at')++(if x.side=2 then[]else[((p+(br l).length:Nat):Int)]):=λl p x=>by
 rw[il,TA];congr 1;show((if x.side=2 then[]else[_]):List Ro).map _=_;split<;>rfl
theorem qh:∀(l:List Rc)(p:Nat),(aQ p l).length<=l.length
 |[],_=>SQ _
 |x::l,p=>by
  have:=qh l (p+x.sz);rw[aQ];split<;>simp<;>omega
theorem uA:∀(l:List Rc),l.length<=(br l).length
 |[]=>SQ _
 |x::l=>by
  have:=uA l;simp[br];omega
set_option maxRecDepth 16000 in
theorem MG(h:List (List SV))(b:Nat)(A:Ar)(C:h[b]?=some (ji A))(l:List Rc)(D:A.row=br l)(U:A.row.length<=1000000):ax Tryz.prog 192 [.ptr b 0] h (λr h'=>h'=h∧r=.pv (.seq true 1 (ae (rA l)))):=by
 refine fk [] [.tmp 2] aC Tryz.func192 ?_;obtain⟨k,j⟩:=SG.1 C;simp;refine am.intro (pL h b A C) ?_;rintro _ h ⟨rfl,rfl⟩;simp;refine aF.intro (S:=λ(i:Nat)=>⟨[(0,.pv (.ptr b 0)),(3,.own true 1 (ae (rA (l.take i)))),(4,.pv (ab (br (l.take i)).length))],h⟩) (λi=>i<=l.length) (λi=>l.length -i) 0 ?_ (Te _) ?_
 .exact(ai.nilOwn (s:=3) 1 true (by simp)).trans (ai.keep (by simp[rA,aQ,br,ae]) rfl)
 intro i hi
 by_cases c:i<l.length
 .obtain⟨a,q⟩:∃a,l.take i=a:=⟨_,rfl⟩;obtain⟨x,hx⟩:∃x,l[i]=x:=⟨_,rfl⟩;have v:l=a++x::l.drop (i+1):=by rw[←q,←hx,←TJ c,TY]
  obtain⟨Q,w,y,R,T⟩:=sA a x (l.drop (i+1));rw[←v,←D]at Q w y R T;have z:l.take (i+1)=a++[x]:=by rw[ku c,q,hx]
  have B:(br (a++[x])).length=(br a).length+(3+x.lits.length):=by rw[ko];simp[br];omega
  have g:=Ko a 0 x;have g:rA (a++[x])=rA a++(if x.side=2 then[]else[((br a).length:Int)]):=by rw[TP]at g;exact g
  generalize hp:(br a).length=p at*;have o:p<A.row.length:=by omega
  have e:p+1<A.row.length:=by omega
  have f:p+2<A.row.length:=by omega
  have t:A.row[p+1]=x.lits.length:=by rw[SI,SH e]at w;exact w
  have g2:A.row[p+2]=x.side:=by rw[SI,SH f]at y;exact y
  have J:=dZ p;have K:aY ((p:Int)+2)=((p+2:Nat):Int):=by rw[ao (by omega) (by omega)];omega
  have L:aY ((3:Int)+x.lits.length)=((3+x.lits.length:Nat):Int):=by rw[ao (by omega) (by omega)];omega
  have M:aY ((p:Int)+(3+x.lits.length))=((p+(3+x.lits.length):Nat):Int):=by rw[ao (by omega) (by omega)];omega
  have t1:((p:Int)+1).toNat=p+1:=by omega
  have I:((p:Int)+2).toNat=p+2:=by omega
  have m:A.row[p+1]?=some (x.lits.length:Int):=by rw[SH e,t]
  have n:A.row[p+2]?=some x.side:=by rw[SH f,g2]
  have E:(p:Int)+1<A.row.length:=by omega
  have F:(p:Int)+2<A.row.length:=by omega
  have G:(0:Int)<=(p:Int)+1:=by omega
  have H:(0:Int)<=(p:Int)+2:=by omega
  have P:(rA a).length<=a.length:=by unfold rA;rw[SZ];exact qh a 0
  have N:a.length<=A.row.length:=by have:=uA a;omega
  by_cases d:x.side=2
  .rw[SN d,Ui]at g;simp[q,hp,j,k,ji,o,t,g2,K,I,n,F,H,d,J,t1,m,E,G,e,f,L,M];exact⟨i+1,by(try dsimp only);omega,by(try dsimp only);omega,ai.keep (by simp[z,B,g]) rfl⟩
  .rw[SM d]at g;simp[q,hp,j,k,ji,o,t,g2,K,I,n,F,H,d,J,t1,m,E,G,e,f,L,M];exact⟨by omega,i+1,by(try dsimp only);omega,by(try dsimp only);omega,ai.keep (by simp[z,B,g,ae]) rfl⟩
 .have u:i=l.length:=by omega
  subst u;have O:¬(br l).length<A.row.length:=by rw[D];omega
  simp[j,k,ji,O,bO,bK]
section
variable {h : List (List SV)} {be bt ba bw bh : Nat} {mp : List (Int × Nat)} {mb : List (Int × By)} {E : ES}
def Nl:Sch:=
 let a:Sch:=.fork [(6,.take 7 .done)]
 let b:Sch:=.fork [(5,a)]
 let c:Sch:=.fork [(1,a)]
 .take 0 (.take 2 (.take 3 (.take 4 (.fork [(1,b),(5,c)]))))
end
theorem o9(q r:Pos->Bool)(t:List (Nat×SV))(s:Nat):look (t.map ((λp=>(p.1,cC q p.2))∘λp=>(p.1,cC r p.2))) s=cC q (cC r (look t s)):=by
 rw[←TT,b6,b6]
theorem wD:∀L:List (List Int),tw (L.map pB) (L.map aw)
 |[]=>trivial
 |c::L=>⟨by simp[pB,aw,bK,bO],wD L⟩
theorem Sim.leF{g:Gh}{st st':St}{a:Act}{w:World}(h:Sim g st a w)(hp:∀p,aa st' p=aa st p∨∃x y,aa st p=.pv x∧aa st' p=.pv y∧∀g v,Fit g x v->Fit g y v)(hl:st'.h.length=st.h.length)(hb:∀b,(st'.h.getD b []).length=(st.h.getD b []).length):Sim g st' a w:=by
  obtain⟨bl,ho⟩:=h.own
  have hw:∀p,(aa st' p).isOwn=(aa st p).isOwn:=λp=>by
    rcases hp p with e|⟨x,y,e1,e2,_⟩
    · rw[e]
    · rw[e1,e2];rfl
  have hown:∀p nw e rows,aa st' p=.own nw e rows->aa st p=.own nw e rows:=λp nw e rows he=>by
    rcases hp p with e1|⟨x,y,_,e2,_⟩
    · rw[←e1];exact he
    · rw[e2]at he;cases he
  have hal:∀{sv:SV}{v:Value},bX g st a w sv v->bX g st' a w sv v:=by
    intro sv
    induction sv with
    |al p=>intro v hv ho';exact hv (by rw[←hw];exact ho')
    |loc p lo hi=>intro v hv nw e rows he;exact hv nw e rows (hown _ _ _ _ he)
    |sptr p i k=>intro v hv nw e rows he;exact hv nw e rows (hown _ _ _ _ he)
    |agl xs=>intro v hv k x p hk ho';exact hv k x p hk (by rw[←hw];exact ho')
    |opt c x ih=>intro v hv hc;exact ih (hv hc)
    |_=>intro v _;trivial
  have hf:∀p v o,az g w (aa st p) v o->az g w (aa st' p) v o:=λp v o hs=>by
    rcases hp p with e|⟨x,y,e1,e2,hf⟩
    · rw[e];exact hs
    · rw[e1]at hs;rw[e2];exact⟨hs.1,hf _ _ hs.2⟩
  refine { size := h.size, defs := h.defs, env := h.env, n := by rw [hl]; exact h.n, n0 := h.n0, B := h.B, I := h.I, F := h.F, μI := h.μI, μinj := h.μinj,
           own:=⟨bl,{slots:=λs=>hf (.slot s) _ _ (ho.slots s),blocks:=λb xs' hx=>?_,inj:=ho.inj,free:=ho.free}⟩,al:=λs=>?_}
  · have hlt:b<st.h.length:=by rw[←hl];exact(SG.1 hx).1
    have hlen:xs'.length=(st.h[b]).length:=by
      have:=hb b
      rw[SI,SI,hx,SH hlt]at this
      simpa using this
    obtain⟨arr,T,e1,e2,e3⟩:=ho.blocks b _ (SH hlt)
    refine⟨arr,T,e1,⟨by rw[hlen];exact e2.1,e2.2⟩,λk x hk=>?_⟩
    have hkl:k<(st.h[b]).length:=by rw[←hlen];exact(SG.1 hk).1
    have g1:aa st' (.cell b k)=x:=by simp only[aa,SI,hx,Tx,hk]
    have g2:aa st (.cell b k)=(st.h[b])[k]:=by simp only[aa,SI,SH hlt,Tx,SH hkl]
    obtain⟨c1,c2⟩:=e3 k _ (SH hkl)
    have h4:=hf (.cell b k) (arr.getD k undef) (bl (.cell b k)) (by rw[g2];exact c2)
    rw[g1]at h4
    refine⟨?_,h4⟩
    rcases hp (.cell b k)with e|⟨u,v,_,e,_⟩
    · rw[←g1,e,g2];exact c1
    · rw[←g1,e];rfl
  · have h5:=h.al s
    rcases hp (.slot s)with e|⟨x,y,_,e,_⟩
    · simp only[aa]at e;rw[e];exact hal h5
    · simp only[aa]at e;rw[e];trivial
theorem ai.fitC{k0:Nat}{st:St}{b k:Nat}{xs:List SV}{x y:PV}(hx:st.h[b]?=some xs)(hk:xs[k]?=some (.pv x))(n:∀g v,Fit g x v->Fit g y v):ai k0 st ⟨st.t,st.h.set b (xs.set k (.pv y))⟩:=λg a w _ hs=>by
 obtain⟨m,r⟩:=SG.1 hx;obtain⟨d,o⟩:=SG.1 hk;have i:st.h.getD b []=xs:=by rw[SI,hx];rfl
 have l:∀c,(st.h.set b (xs.set k (.pv y))).getD c []=if c=b then xs.set k (.pv y)else st.h.getD c []:=λc=>by
  simp only[SI,Ts]
  by_cases e:c=b
  .subst e;rw[SN rfl,SN m,SN rfl];rfl
  .rw[SM (λq=>e q.symm),SM e]
 refine⟨g,hs.refl_to,hs.leF (λp=>?_) (by simp) (λc=>?_)⟩
 .cases p with
  |slot s=>exact .inl rfl
  |cell c j=>
   simp only[aa];rw[l]
   by_cases e:c=b
   .subst e;rw[SN rfl,i]
    by_cases f:j=k
    .subst f;exact .inr ⟨x,y,by rw[SI,hk];rfl,by rw[SI,Tu d];rfl,n⟩
    .left;simp only[SI];rw[Tc (λq=>f q.symm)]
   .rw[SM e];exact .inl rfl
 .rw[l];split
  .rename_i e;subst e;rw[i];simp
  .rfl
def oe(k:Int):Int:=if 100<(if 1000000<k then 1000000 else k)then(if 1000000<k then 1000000 else k)else 100
def rD(k:Int):Int:=if 0<(if 100<k then 100 else k)then(if 100<k then 100 else k)else 0
def gk(n:Nat)(cs:List (List Int))(kp a:Int):ES:=⟨l8 n,⟨[],[]⟩,⟨[],[],[],0,[]⟩,nI n,n,cs,List.replicate (n+1) false,oe kp,rD a,64,0,-1,false,0,false,[],[]⟩
def Kp(ba bt:Nat):List SV:=[.pv (.ptr ba 0),.pv (.ptr bt 0),.omap true [],.omap true [],.omap true [],.pv (ab 0),.pv (.lit (.slice none 0 0))]
def KT(bt ba bw bh n:Nat)(cs:List (List Int))(kp a:Int):List SV:=[.pv (.ptr bt 0),.pv (ab n),.pv (.seq true 1 (cs.map pB)),.pv (.ptr ba 0),.pv (.ptr bw 0),.pv (.ptr bh 0),.own true 1 (List.replicate (n+1) [BL false]),.pv (ab (oe kp)),.pv (ab (rD a)),.pv (ab 64),.pv (ab 0),.pv (ab (-1)),.pv (BL false),.pv (ab 0),.pv (BL false),.pv (.lit (.slice none 0 0)),.omap true []]
def uV(h:List (List SV))(x y:List SV)(E:ES):List (List SV):=h++[x,y,gD E.T,aq E.q,ji E.A,ce (h.length+4) (h.length+2) ⟨[],[],[],0,[]⟩,bN (h.length+2) (h.length+4) (h.length+5) (h.length+3) E]
theorem Kq(h:List (List SV))(x y:List SV)(E:ES)(f:E.S=⟨[],[],[],0,[]⟩):LayE (uV h x y E) (h.length+6) (h.length+2) (h.length+4) (h.length+5) (h.length+3) [] [] E where
 w:={
  w:=by rw[f];simp[uV]
  a:=by simp[uV]
  t:=by simp[uV]
  wa:=by omega
  wt:=by omega
  at':=by omega
  keys:=by rw[f];rfl
  pr:=λk b c=>by simp[lk]at c
  pinj:=λk k' b c=>by simp[lk]at c
  by':=λl e g=>by simp[lk]at g
  byn:=λl _=>by rw[f];simp[lk]
  binj:=λl l' e e' g=>by simp[lk]at g
  pb:=λk b l e c=>by simp[lk]at c}
 e:=by simp[uV]
 q:=by simp[uV]
 ne:=by omega
 eo:=⟨λd=>by rcases d with d|d|⟨k,d⟩|⟨l,e,d,_⟩<;>first|omega|simp[lk]at d,by omega⟩
 ho:=⟨λd=>by rcases d with d|d|⟨k,d⟩|⟨l,e,d,_⟩<;>first|omega|simp[lk]at d,by omega⟩
theorem Kr(h:List (List SV))(x y:List SV)(E:ES):Ext h (uV h x y E) (λ_=>False) (cV (h.length+6) (h.length+2) (h.length+4) (h.length+5) (h.length+3) [] [])where
 len:=by simp[uV]
 same:=λb a _=>SO a
 sub:=λb a d=>by
  rcases d with d|d|d|d|d|⟨k,d⟩|⟨l,e,d,_⟩<;>first|omega|simp[lk]at d
theorem MH{n:Nat}(hn:n<=400)(F cs:List (List Int))(kp a:Int){r s:Nat}(d:r<=1000000)(hs:s<=1000000):EI n F r s [] (gk n cs kp a)where
 n9:=hn
 tok:=TOk.new (by omega)
 wok:={nd:=by simp[gk],lits:=λk p h=>by simp[gk,lk]at h,lnd:=by simp[gk],lpr:=λk h=>by simp[gk]at h,two:=λk p h=>by simp[gk,lk]at h,bnd:=λl=>by simp[gk,bF,lk],mem:=λl k=>by simp[gk,bF,lk],few:=by simp[gk],h0:=by simp[gk],h1:=by simp[gk],sl:=by simp[gk],clr:=by simp[gk,oc]}
 prz:=by simp[gk];omega
 ari:=ArI.new
 rsz:=by simp[gk];omega
 idz:=by simp[gk];omega
 ids:=by simp
 cls:=λx hx=>by simp[aQ]at hx
 att:=λk c=>by simp[CW,gk,lk,aQ]
 ef:=by
  have:fh (gk n cs kp a).T=⟨n,[],0⟩:=by simp[fh,gk,l8]
  rw[this];exact EF.new _
 ent:=λx hx=>by simp[aQ]at hx
 ovr:=by simp[gk,aQ]
 hp:=J2 n
 inh:=λv h1 b _=>by
  simp only[gk,nI,SY,Uf];exact⟨(v -1).toNat,by omega,by omega⟩
 ph:=by simp[gk]
 cal:=λh=>by simp[gk]at h
 con:=λh=>by simp[gk]at h
 dcy:=by simp only[gk,rD];split<;>split<;>omega
 inc:=by simp[gk]
theorem Og{l:List Rc}{x:Rc}(hs:x.side≠2):rC (l++[x])=rC l++[x.lits]:=by
 unfold rC;rw[il];simp[aQ,hs]
theorem MI{c:List Int}{m:Int}(h:iD c m=0):c.length<=1000∧c.Nodup∧∀y∈c,ay y m=0:=by
 unfold iD at h;split at h
 .omega
 .rename_i h0;split at h
  .omega
  .split at h
   .omega
   .split at h
    .rename_i h1 a b;refine⟨by omega,FM b,λy hy=>?_⟩;have:sj y m=true:=by
      have d:(c.all λx=>sj x m)=true:=by simpa using a
      exact TG.1 d y hy
     unfold ay;rw[SM h0,SN this]
    .omega
theorem wE{v:Int}:∀{L:List (List Int)}{i:Nat},(lX v L i).2=0->∀c∈L,iD c v=0
 |[],_,_,_,a=>by cases a
 |d::L,i,h,c,a=>by
  rw[lX]at h
  by_cases h1:iD d v≠0
  .rw[SN h1]at h;exact absurd h h1
  rw[SM h1]at h;rcases Tp.1 a with rfl|a
  .simpa using h1
  by_cases b:i8 d=true
  .rw[SN b]at h;exact absurd h (by show¬((11:Int)=0);decide)
  .rw[SM b]at h;exact wE h c a
theorem Oh{n:Nat}{cs:List (List Int)}(h:(d7 n cs).2=0):∀c∈cs,c.length<=1000∧c.Nodup∧∀y∈c,ay y n=0:=λc a=>by
 have h1:(lX n cs 0).2=0:=by
  unfold d7 at h;split at h
  .cases h
  .split at h
   .cases h
   .exact h
 exact MI (wE h1 c a)
structure NewOk (n:Nat) (cs:List (List Int)) (kp:Int) (E:ES) (l:List Rc) (L:List (List Int)):Prop where
  T:E.T=l8 n
  vars:E.vars=n
  cs:E.cs=cs
  keep:E.keep=oe kp
  pf:E.pf=[]
  many:E.many=0
  calm:E.calm=false
  con:E.con=-1
  rc:rC l=L
  side:∀x∈l,x.side=0
  num:l.map (λx=>(x.id,x.lits))=L.mapIdx λi c=>(((i+1:Nat):Int),c)
  id:E.id=L.length
def Sm(n:Nat)(cs:List (List Int))(kp:Int)(r s:Nat)(h:List (List SV))(y:SV)(h':List (List SV)):Prop:=∃be bt ba bw bh mp E l,y=.pv (.tup [.ptr be 0,ab 0])∧LayE h' be bt ba bw bh mp [] E∧Ext h h' (λ_=>False) (cV be bt ba bw bh mp [])∧EI n cs r s l E∧NewOk n cs kp E l cs
set_option maxRecDepth 16000 in
set_option maxHeartbeats 1000000 in
theorem MJ(h:List (List SV))(n:Nat)(hn:n<=400)(cs:List (List Int))(rs kp f:Int)(hc:cs.length<=1000000)(hcl:∀c∈cs,c.length<=1000000)(hk:(d7 n cs).2=0){r s:Nat}(hr:cs.length+r<=1000000)(hs:cs.length*1003+s<=1000000):
 ax Tryz.prog 21 [.agg [ab n,.seq false 1 (cs.map aw)],.agg [ab rs,ab kp,ab f]] h (Sm n cs kp r s h):=by
 have ag:n<=900:=by omega
 refine cI [9] [.tmp 4,.tmp 5] aC Tryz.func21 ?_;have kC:=xQ n cs hcl;rw[hk]at kC;have h9:¬(900:Int)<n:=by omega
 have kT:=λg=>Ll g n (by omega);simp;refine ah.intro kC ?_;simp[h9];refine ah.introM (kT _) ?_;rintro _ _ ⟨rfl,rfl⟩;simp;have kH:=λg=>My g n;refine ah.introM (kH _) ?_;rintro _ _ u;rw[SN (by omega)]at u;obtain⟨rfl,rfl⟩:=u;simp;refine ah.introM (Lv _) ?_;rintro _ _ ⟨rfl,rfl⟩;simp;have kW:=Mj n cs hc hcl;generalize M:h++[[.pv (ab n),.pv (.seq false 1 (cs.map aw))],[.pv (ab rs),.pv (ab kp),.pv (ab f)],[.own true 4 ((l8 n).marks.map qm),.pv (.lit (.slice none 0 0)),.pv (.lit (.slice none 0 0)),.pv (BL true)],aq (nI n),OT]=H;have z:H.length=h.length+5:=by rw[←M];simp
 have B:∀u,H[h.length]'u=[.pv (ab n),.pv (.seq false 1 (cs.map aw))]:=by subst M;intro u;simp
 have C:∀u,H[h.length+1]'u=[.pv (ab rs),.pv (ab kp),.pv (ab f)]:=by subst M;intro u;simp
 have D:∀g u,(H++g)[h.length]'u=[.pv (ab n),.pv (.seq false 1 (cs.map aw))]:=λg u=>by rw[TB (by omega)];exact B _
 have F:∀g u,(H++g)[h.length+1]'u=[.pv (ab rs),.pv (ab kp),.pv (ab f)]:=λg u=>by rw[TB (by omega)];exact C _
 have j:H[h.length]?=some [.pv (ab n),.pv (.seq false 1 (cs.map aw))]:=by rw[SH (by omega),B]
 have o:H[h.length+1]?=some [.pv (ab rs),.pv (ab kp),.pv (ab f)]:=by rw[SH (by omega),C]
 have p:∀g,(H++g)[h.length]?=some [.pv (ab n),.pv (.seq false 1 (cs.map aw))]:=λg=>by rw[SO (by omega),j]
 have w:∀g,(H++g)[h.length+1]?=some [.pv (ab rs),.pv (ab kp),.pv (ab f)]:=λg=>by rw[SO (by omega),o]
 have L:aY ((n:Int)+1)=(n:Int)+1:=ao (by omega) (by omega);have I:((n:Int)+1).toNat=n+1:=by omega
 refine bc.tab [] ⟨[some (40,.pv (.ptr (h.length+2) 0)),some (41,.pv (.agg [ab n,.seq false 1 (cs.map aw)])),some (42,.pv (.agg [ab n,.seq true 1 (cs.map pB)])),some (43,.pv (.ptr (h.length+4) 0)),some (44,.pv (.ptr (h.length+4) 0)),some (45,.pv (.ptr (h.length+2) 0)),some (46,.pv (.ptr (h.length+5) 0)),some (47,.pv (.ptr (h.length+3) 0)),some (48,.pv (.ptr h.length 0)),some (49,.pv (ab n)),some (50,.pv (ab ((n:Int)+1))),some (51,.own true 1 (List.replicate (n+1) [BL false])),some (52,.pv (.ptr (h.length+1) 1)),some (53,.pv (ab kp)),some (54,.pv (ab (if 1000000<kp then 1000000 else kp))),some (55,.pv (ab (oe kp))),some (56,.pv (.ptr (h.length+1) 2)),some (57,.pv (ab f)),some (58,.pv (ab (if 100<f then 100 else f))),some (59,.pv (ab (rD f))),some (60,.omap true []),some (61,.agl [(.ptr (h.length+2) 0,none),(ab n,none),(.seq true 1 (cs.map pB),none),(.ptr (h.length+4) 0,none),(.ptr (h.length+5) 0,none),(.ptr (h.length+3) 0,none),(.bot,some (.slot 51)),(ab (oe kp),none),(ab (rD f),none),(ab 64,none),(ab 0,none),(ab (-1),none),(BL false,none),(ab 0,none),(BL false,none),(.lit (.slice none 0 0),none),(.bot,some (.slot 60))]),some (62,.pv (.ptr (h.length+6) 0)),some (13,.pv (.ptr (h.length+6) 0))],[(2,.pv (.ptr h.length 0)),(3,.pv (.ptr (h.length+1) 0)),(8,.pv (.ptr (h.length+2) 0)),(10,.pv (.ptr (h.length+3) 0)),(12,.pv (.ptr (h.length+4) 0))],[[],[],[1],[],[],[],[4,5],[],[],[8],[9],[10],[],[12],[13],[14],[],[16],[17],[18],[],[0,2,3,6,7,11,15,19,20],[11,20,21],[22]],[6,21,22],[[0,1],[0],[0],[0,1],[0],[0],[0],[0,1],[0,1,2,3],[0,1],[0,1],[0,1],[0,1,2,3],[0,1],[0,1],[0,1],[0,1,2,3],[0,1],[0,1],[0,1],[0,1],[1],[2],[3]],[(11,61),(20,61),(22,51),(22,60),(22,61)],λ|0=>H|1=>H++[Kp (h.length+4) (h.length+2)]|2=>H++[Kp (h.length+4) (h.length+2)]|_=>H++[Kp (h.length+4) (h.length+2),KT (h.length+2) (h.length+4) (h.length+5) (h.length+3) n cs kp f]⟩ ⟨[(2,.pv (.ptr h.length 0)),(13,.pv (.ptr (h.length+6) 0))],H++[Kp (h.length+4) (h.length+2),KT (h.length+2) (h.length+4) (h.length+5) (h.length+3) n cs kp f]⟩ (by kernel_rfl) (by simp[bs]) rfl ?_ (λt h1 G=>?_) ?_
 .simp only[Tb.steps,KQ,Tb.lvA,Tb.dpA,B2,vN,UP,Ve,cP,eK,nR,jK,fA,fo,K8,iT,ld,TU,U2,Vy,WX,VX,Xe,Xd,U1,Vs,TM,Uo];and_intros
  all_goals first|trivial|(intro t h1 G;simp only[bs,TH,Tz]at h1;simp[z,j,o,p,w,D,F,B,C,L,I,oe,rD,Kp,KT,o9,h1,G,Tb.postL,Tb.wth,xC,vN,bs,b6]<;>and_intros<;>first|omega|(intro e;simp[z,j,o,p,w,D,F,B,C,L,I,oe,rD,Kp,KT,o9,e]))|(intro t h1 G;simp only[bs,TH,Tz]at h1;simp[z,j,o,p,w,D,F,B,C,L,I,oe,rD,Kp,KT,o9,h1,G,Tb.postL,Tb.wth,xC,vN,bs,b6])
  .refine ah.intro kW ?_;simp[z,j,o,p,w,D,F,h1,G,Tb.postL,Tb.wth,xC,vN,bs,b6]<;>and_intros<;>first|omega|(intro e;simp[e])
  .refine am.intro (Mo _ (h.length+4) (h.length+2)) ?_;rintro _ _ ⟨rfl,rfl⟩;simp[z,j,o,p,w,D,F,h1,G,Kp,Tb.postL,Tb.wth,xC,vN,bs,b6]<;>and_intros<;>first|omega|(intro e;simp[e])
 .simp only[bs,TH,Tz]at h1 G;simp[KR]at G;exact ai.keep (by simp[h1,G]) rfl
 simp[p];clear B C D F j o p w z kC kT kH kW L I h9;have U:=Oh hk;obtain⟨bx,Q⟩:∃x:List SV,[.pv (ab n),.pv (.seq false 1 (cs.map aw))]=x:=⟨_,rfl⟩;obtain⟨by',R⟩:∃x:List SV,[.pv (ab rs),.pv (ab kp),.pv (ab f)]=x:=⟨_,rfl⟩;refine aF.intro (S:=λ(x:Nat×List (List SV)×List (Int×Nat)×ES×List Rc)=>⟨[(13,.pv (.ptr (h.length+6) 0)),(64,.pv (.seq false 1 (cs.map aw))),(65,.pv (ab cs.length)),(66,.pv (ab x.1))],x.2.1⟩)
  (λx=>x.1<=cs.length∧LayE x.2.1 (h.length+6) (h.length+2) (h.length+4) (h.length+5) (h.length+3) x.2.2.1 [] x.2.2.2.1∧Ext h x.2.1 (λ_=>False) (cV (h.length+6) (h.length+2) (h.length+4) (h.length+5) (h.length+3) x.2.2.1 [])∧EI n cs (r+(cs.length -x.1)) (s+(cs.length -x.1)*1003) x.2.2.2.2 x.2.2.2.1∧NewOk n cs kp x.2.2.2.1 x.2.2.2.2 (cs.take x.1)) (λx=>cs.length -x.1)
  (0,uV h bx by' (gk n cs kp f),[],gk n cs kp f,[]) ?_ ⟨Te _,Kq _ _ _ _ rfl,Kr _ _ _ _,MH hn _ _ _ _ (by omega) (by omega),⟨rfl,rfl,rfl,rfl,rfl,rfl,rfl,rfl,rfl,by simp,rfl,rfl⟩⟩ ?_
 .subst M;refine(ai.keep (t1:=[(13,.pv (.ptr (h.length+6) 0)),(64,.pv (.seq false 1 (cs.map aw))),(65,.pv (ab cs.length)),(66,.pv (ab 0))]) (by simp) rfl).trans ?_;simp only[Tn,TH,Tz];refine(ai.nilCell (b:=h.length+2) (k:=1) (xs:=[.own true 4 ((l8 n).marks.map qm),.pv (.lit (.slice none 0 0)),.pv (.lit (.slice none 0 0)),.pv (BL true)]) 1 true (by simp) (by simp)).trans ?_;refine(ai.nilCell (b:=h.length+2) (k:=2) (xs:=[.own true 4 ((l8 n).marks.map qm),.own true 1 [],.pv (.lit (.slice none 0 0)),.pv (BL true)]) 1 true (by simp) (by simp)).trans ?_;refine(ai.nilCell (b:=h.length+4) (k:=0) (xs:=OT) 1 true (by simp) (by simp[OT])).trans ?_;refine(ai.nilCell (b:=h.length+5) (k:=6) (xs:=Kp (h.length+4) (h.length+2)) 1 true (by simp) (by simp[Kp])).trans ?_;refine(ai.nilCell (b:=h.length+6) (k:=15) (xs:=KT (h.length+2) (h.length+4) (h.length+5) (h.length+3) n cs kp f) 4 true (by simp) (by simp[KT])).trans ?_;refine(ai.fitC (b:=h.length+6) (k:=2) (xs:=(KT (h.length+2) (h.length+4) (h.length+5) (h.length+3) n cs kp f).set 15 (.own true 4 [])) (x:=.seq true 1 (cs.map pB)) (y:=.seq false 1 (cs.map aw)) (by simp) (by simp[KT]) λg v hv=>Id (x:=.seq true 1 (cs.map pB)) ⟨λe=>(by cases e),rfl,wD cs⟩ hv).trans ?_;refine ai.le (by simp) ?_;simp[uV,OT,Kp,KT];refine tu h ?_;simp[Q,R,bN,ji,gD,ce,gk,ae,cT,l8,aG,qH]
 rintro⟨i,X,mp,E,l⟩ ⟨hi,N,O,J,a⟩;dsimp only at hi N O J a
 by_cases d:i<cs.length
 .obtain⟨h1,G,h3⟩:=U _ (SS d);have hT:=J.tok;have W:r+(cs.length -i)=(r+(cs.length -(i+1)))+1:=by omega
  have Y:s+(cs.length -(i+1))*1003+(3+cs[i].length)<=s+(cs.length -i)*1003:=by omega
  have P:=J.mono (Nat.le_of_eq W.symm) Y;have hE:∀q,HpTo n E.q q->jA (E.id+1) cs[i]=0∧qa (dt E.A (E.id+1) cs[i] false) E.T E.S E.A.row.length=0∧EI n cs (r+(cs.length -(i+1))) (s+(cs.length -(i+1))*1003) (l++[⟨E.id+1,ff false,cs[i]⟩]) (CP E cs[i] false q):=λq hq=>
   P.add false h1 G h3 (λm hm=>hm _ (SS d)) (λk k1 k2=>by rw[a.T]at k2;simp[fh,l8]at k2;omega) a.calm (by rw[a.con];omega) q hq.hp hq.mem
  obtain⟨e1,_,e3⟩:=hE E.q (.refl J.hp);have ad:=J.idz;have af:=J.rsz;have K:=e3.rsz;have kA:=EA N hT J.hp (by omega) cs[i] false e1 e3.arok (by simp only[CP]at K;omega) (by omega) (by omega);have L:=dZ i;have V:aw cs[i]=[.seq false 1 (ae cs[i])]:=rfl;simp[d,V];refine am.intro kA ?_;rintro _ X2 ⟨rfl,aa,q,L2,Y2,G2⟩;simp;refine⟨(i+1,X2,aa,CP E cs[i] false q,l++[⟨E.id+1,ff false,cs[i]⟩]),by(try dsimp only);omega,⟨by(try dsimp only);omega,L2,O.trans Y2,(hE q G2).2.2,⟨a.T,a.vars,a.cs,a.keep,a.pf,a.many,a.calm,a.con,?_,?_,?_,?_⟩⟩,ai.keep (by simp[L]) rfl⟩
  .rw[Og (by simp[ff]),a.rc,T4];simp[d]
  .intro x hx;rcases S7.1 hx with hx|hx
   .exact a.side x hx
   .simp at hx;subst hx;rfl
  .have pd:=a.id;rw[SU,Ud hi]at pd;rw[TA,a.num,T8 d,List.mapIdx_append,SU,Ud hi];simp[pd]
  .have pd:=a.id;rw[SU,Ud hi]at pd;show E.id+1=_;rw[pd,SU,Ud (by omega)];omega
 .have Z:i=cs.length:=by omega
  subst Z;simp;exact⟨_,_,_,_,_,mp,E,l,rfl,N,O,J.mono (by omega) (by omega),by rw[Tw]at a;exact a⟩
theorem Kt(h:List (List SV))(v:Int)(cs:List (List Int))(rs kp a:Int)(hcl:∀c∈cs,c.length<=1000000)(hk:(d7 v cs).2≠0∨900<v):
 ax Tryz.prog 21 [.agg [ab v,.seq false 1 (cs.map aw)],.agg [ab rs,ab kp,ab a]] h (λy h'=>y=.pv (.tup [.lit (.pointer none),ab (if(d7 v cs).2≠0 then(d7 v cs).2 else 3)])∧Ext h h' (λ_=>False) (λ_=>False)):=by
 refine cI [9] [.tmp 4,.tmp 5] aC Tryz.func21 ?_;have d:=xQ v cs hcl;have hx:=λg=>Ext.app h g (λ_=>False);simp;refine ah.intro d ?_
 by_cases c:(d7 v cs).2=0
 .have b:900<v:=hk.resolve_left (λe=>e c);simp[c,b,hx]
 .simp[c,hx]
section
variable {h : List (List SV)} {be bt ba bw bh : Nat} {mp : List (Int × Nat)} {mb : List (Int × By)} {E : ES}
theorem AI(L:LayE h be bt ba bw bh mp mb E){n:Nat}(i:TOk n E.T)(g:HpG n 1000000000000 E.q)(hp:E.ph.length=n+1):
 ax Tryz.prog 24 [.ptr be 0] h (λr h'=>r=.pv (.tup [])∧((E.over=true∧h'=h)∨(E.over=false∧∃q p,LayE h' be bt ba bw bh mp mb {E with T:=eY E.T 0,q:=q,ph:=p,con:=-1,calm:=false}∧Ext h h' (cV be bt ba bw bh mp mb) (cV be bt ba bw bh mp mb)∧HpTo n E.q q∧p.length=n+1∧∀z∈E.T.lits,z∉(eY E.T 0).lits->af z∈q.row))):=by
 refine cI [] [] aC Tryz.func24 ?_;have j:=AH L i g hp 0;obtain⟨b,a⟩:=SG.1 L.e;simp;refine am.intro (gj L.e) ?_;rintro _ _ ⟨rfl,rfl⟩;cases ho:E.over
 .simp[a,b,bN,ho];refine am.intro j ?_;rintro _ k ⟨rfl,q,p,c,d⟩;have f:({E with T:=eY E.T 0,q:=q,ph:=p,con:=-1,calm:=false}:ES)={E with T:=eY E.T 0,q:=q,ph:=p,con:=-1,calm:=false,over:=false}:=by rw[←ho]
  rw[f]at c;simp;exact⟨q,p,c,d⟩
 .simp[a,b,bN,ho]
end
def Ku:Sch:=
 let c:Sch:=.fork [(15,.done)]
 let d:Sch:=.fork [(12,.take 13 (.take 14 c))]
 let a:Sch:=.fork [(9,.take 10 (.take 11 d))]
 let e:Sch:=.fork [(8,a)]
 let b:Sch:=.fork [(6,a)]
 let f:Sch:=.fork [(6,e),(8,b)]
 let g:Sch:=.fork [(5,b)]
 let h:Sch:=.fork [(5,f),(8,g)]
 .take 0 (.take 1 (.take 2 (.take 3 (.take 4 (.take 7 h)))))
def AJ(x:Stp):List PV:=[ab x.kind,ab x.id,.bot,.bot]
@[simp] theorem AK(k:Nat)(l:List Stp):bL k (l.map AJ):=by
 induction l with
 |nil=>trivial
 |cons x l a=>exact⟨⟨trivial,trivial,trivial,trivial,trivial⟩,a⟩
theorem AL:∀l:List Stp,A3 (l.map AJ)
 |[]=>trivial
 |_::l=>⟨⟨trivial,trivial,trivial,trivial,trivial⟩,AL l⟩
theorem wF{g:Gh}:∀{l:List Stp}{vs:List Value},av g 4 (l.map dq) vs->av g 4 (l.map AJ) vs
 |[],_,h=>h
 |_::_,_,⟨t,u,h1,i,⟨p,m,a,b,q,n,c,d,r,r3,e,_,s,o,f,_,j⟩,k⟩=>⟨t,u,h1,i,⟨p,m,a,b,q,n,c,d,r,r3,e,trivial,s,o,f,trivial,j⟩,wF k⟩
theorem AM(l:List Stp)(t:l.length<=1000000):ak Tryz.prog 76 [.seq false 4 (l.map dq)] (λr=>r=.own true 4 (l.map AJ)):=by
 have h1:ak Tryz.prog 76 [.seq false 4 (l.map dq)] (λr=>r=.own true 4 (l.map dq)∨r=.pv (.lit (.slice none 0 0))∧l=[]):=by
  refine ap aC Tryz.func76 ?_;cases l with
  |nil=>simp
  |cons x l=>simp;simp at t;omega
 have f:ak Tryz.prog 76 [.seq false 4 (l.map dq)] (λr=>r=.own true 4 (l.map dq)):=
  ak.own0 h1 λr h=>h.imp id λ⟨e,d⟩=>⟨e,true,4,by rw[d];rfl⟩
 refine⟨f.1,λw vs u=>(f.2 w vs u).mono λe w' ⟨v,r,g',o,g,d,i,j,z,k⟩=>?_⟩;subst d;refine⟨v,.own true 4 (l.map AJ),g',o,g,rfl,i,?_,rfl,k⟩;rcases j with⟨a,b,c⟩|⟨c,s,cap,arr,T,y,m,n,p,q,f5,f6⟩
 .exact .inl ⟨a,by rw[W6]at b⊢;exact b,c⟩
 .exact .inr ⟨c,s,cap,arr,T,y,by simpa using m,n,p,by simpa using q,wF f5,f6⟩
section
variable {h : List (List SV)} {be bt ba bw bh : Nat} {E : ES}
set_option maxRecDepth 16000 in
theorem Gu(w:h[be]?=some (bN bt ba bw bh E))(x:E.pf.length<=1000000)(hs:∀s∈E.pf,s.lits.length<=1000000∧s.hints.length<=1000000):ax Tryz.prog 33 [.ptr be 0] h (λr h'=>h'=h∧r=.pv (.seq true 4 (E.pf.map zY))):=by
 refine ax.below (by kernel_rfl) λz=>?_;refine gC [7] [.tmp 2] aC Tryz.func33 ?_;obtain⟨a,c⟩:=SG.1 w;obtain⟨ss,b⟩:∃ss,E.pf=ss:=⟨_,rfl⟩;rw[b]at x hs⊢;have y:=AM ss x;obtain⟨Q,f⟩:∃Q:Nat->List (List PV),∀i,Q i=(ss.take i).map zY++(ss.drop i).map AJ:=⟨_,λ_=>rfl⟩;have l:Q 0=ss.map AJ:=by rw[f];rfl
 have n:Q ss.length=ss.map zY:=by rw[f];simp
 have p:∀i,i<=ss.length->(Q i).length=ss.length:=λi hi=>by rw[f];simp;omega
 simp;refine am.intro (gj w) ?_;rintro _ h ⟨rfl,rfl⟩;simp[c,a,bN,b];refine ah.intro y ?_ (by simp[AL]);simp[c,a,bN,b];refine aF.intro (S:=λ(i:Nat)=>⟨[(0,.pv (.ptr be 0)),(3,.own true 4 (Q i)),(17,.al (.cell be 15)),(18,.pv (ab ss.length)),(19,.pv (ab i))],h⟩) (λi=>i<=ss.length) (λi=>ss.length -i) 0 ?_ (Te _) ?_
 .exact ai.keep (by simp[l]) rfl
 intro i hi;have e:=p i hi
 by_cases d:i<ss.length
 .have A:=dZ i;have j:ss[i]?=some ss[i]:=SH d;have g:=hs _ (SS d);have t:=eI ss[i].lits g.1;have u:=eI ss[i].hints g.2;have o:(Q i)[i]'(by omega)=[ab ss[i].kind,ab ss[i].id,.bot,.bot]:=by
   simp only[f];rw[Vt (by simp;omega)];simp[AJ,Ud hi]
  have q:(Q i).set i [ab ss[i].kind,ab ss[i].id,.seq true 1 (ae ss[i].lits),.seq true 1 (ae ss[i].hints)]=Q (i+1):=by
   rw[f,f,Vj _ _ (by simp;omega),T8 d,TA,Tn];congr 1;rw[SZ,SU,Ud hi,UW,TJ d];rfl
  have m:∀k,bL k (Q (i+1)):=λk=>by
   rw[f];exact(uN k _ _).2 ⟨zZ k _,AK k _⟩
  simp[d,j,dq,e,c,a,bN,b];refine bc.one Ku (by kernel_rfl) ?_;simp[Ku,d,j,dq,e,c,a,bN,b];and_intros
  all_goals
   refine ah.intro t ?_;simp[d,j,dq,e,c,a,bN,b];refine ah.intro u ?_;simp[d,j,dq,e,c,a,bN,b];exact⟨i+1,by(try dsimp only);omega,by(try dsimp only);omega,ai.to (by simp[A,o,q,dq]) (by simp) (by simp) (by simp[m,a]) (by simp[z])⟩
 .have v:i=ss.length:=by omega
  subst v;simp[n]
end
end Go.AX