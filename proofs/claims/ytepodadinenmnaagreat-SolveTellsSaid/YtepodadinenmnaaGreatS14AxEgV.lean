/-
  Engines: a conflict is resolved (plain law); and what follows.
-/
import Derived.Test.YtepodadinenmnaaGreatS14AxEgN
import Derived.Test.YtepodadinenmnaaGreatS14AxEgF
import Derived.Test.YtepodadinenmnaaGreatS14AxLuA
import Derived.Test.YtepodadinenmnaaGreatS14AxTtA
import Derived.Test.YtepodadinenmnaaGreatS14AxTmQ
import Derived.Test.YtepodadinenmnaaGreatAxTb
namespace Go.AX
open Go.Proofs
set_option linter.unusedSimpArgs false
def ko(E:ES):Tr:=if aH E=[]then E.T else eW E.T (eZ E.T (aH E))
def rO(E:ES)(q:HS)(p:List Bool)(k:Int):ES:={E with
 pf:=E.pf++[⟨1,E.id+1,aH E,(fB E).map (gn E.A)⟩],many:=E.many+1,q:=q,inc:=k,ph:=p,con:=-1,calm:=false,id:=E.id+1,A:=dg E.A (E.id+1) (aH E) true
 over:=E.over||decide ((aH E).length=0),S:=oY (dg E.A (E.id+1) (aH E) true) (ko E) E.S E.A.row.length
 T:=if aH E=[]then E.T else lu (ko E) ((aH E).headD 0) E.A.row.length,gl:=pt E.gl E.A.row.length (LU E.T (aH E))}
section
variable {n r s : Nat} {F : List (List Int)} {l : List Rc} {E : ES}
theorem ArI.arok{A:Ar}(h:ArI A l):j0 A:=λq c=>by
 obtain⟨x,hx,e⟩:=h.rel.is q c;obtain⟨p,a,b,_⟩:=h.rel.rows x hx;exact⟨p,_,by rw[←e,a],b⟩
theorem EI.arok(h:EI n F r s l E):j0 E.A:=h.ari.arok
theorem EI.resd(h:EI n F (r+1) (s+(n+3)) l E)(U:0<=E.con)(q:HS)(m:HpTo n E.q q)(p:List Bool)(hp:p.length=n+1)(k:Int)(hk:0<=k∧k<=1000000000)(hin:∀z∈E.T.lits,z∉(ko E).lits->af z∈q.row):
 jt (E.id+1) (aH E)=0∧EI n F r s (l++[⟨E.id+1,1,aH E⟩]) (rO E q p k):=by
 have R:=h.res U;have hs:s+(3+(aH E).length)<=s+(n+3):=by have:=R.len;omega
 have h0:=(h.upd q m.hp m.mem k hk (E.pf++[⟨1,E.id+1,aH E,(fB E).map (gn E.A)⟩]) (E.many+1) E.gl).mono (SY _) hs;have X:=h.n9;have f:(aH E).length<=1000:=by have:=R.len;omega
 have b:ko E=if aH E=[]then E.T else eW E.T (eZ E.T (aH E)):=rfl;rcases R.lev with⟨c,e⟩|⟨u,w,e,b0,b1,b2,b3,b4⟩
 .have h1:EI n F (r+1) (s+(3+(aH E).length)) l {E with q:=q,inc:=k,pf:=E.pf++[⟨1,E.id+1,aH E,(fB E).map (gn E.A)⟩],many:=E.many+1,con:=-1,calm:=false,ph:=p}:={h0.rest with ph:=hp};obtain⟨H,_,a3⟩:=h1.add (c:=aH E) true f R.nd R.chk R.ent (λk k0 kd=>by have kd:k<=(E.T.beg.length:Int):=kd;omega) rfl (show(-1:Int)<0 by decide) q m.hp (λ_ d=>d);refine⟨H,?_⟩;have:=a3.upd q m.hp (λ_ d=>d) k hk (E.pf++[⟨1,E.id+1,aH E,(fB E).map (gn E.A)⟩]) (E.many+1) (pt E.gl E.A.row.length (LU E.T (aH E)));unfold rO;rw[b,SX e,SX e];exact this
 .have C:aH E≠[]:=λG=>by rw[e]at G;cases G
  rw[SU C]at b;obtain⟨j,hj⟩:∃j:Nat,eZ E.T (aH E)=j:=⟨(eZ E.T (aH E)).toNat,by omega⟩;have a:j<E.T.beg.length:=by omega
  have S:eW E.T (eZ E.T (aH E))=cw E.T j:=by
   have O:(if(j:Int)<0 then(0:Int)else j)=j:=SU (by omega);unfold eW;rw[hj,O,SX (by omega)];rfl
  rw[S]at b;rw[b]at hin;have h1:=h0.back a q m.hp (λ_ d=>d) hin p hp;have N:∀y∈aH E,-y∈E.T.lits:=R.neg;have L:∀y∈w,dQ E.T y<=j:=λy hy=>by have:=b3 y hy;omega
  have o:(ff (cw E.T j)).dep=j:=by show((cw E.T j).beg.length:Int)=j;rw[(h.tok.back a).2.2,S6];omega
  have B := R.nd; rw [e, UA] at B; obtain ⟨H, _, a3⟩ := h1.add (c := aH E) true f R.nd R.chk R.ent (λ k k0 kd => by
   have kd:k<=(ff (cw E.T j)).dep:=kd;rw[o]at kd;rcases b4 with b4|⟨y,hy,b4⟩
   .omega
   have i:∀z,z∈bel (ff (cw E.T j)) k->z∈bel (ff E.T) k:=λz hz=>by
    rw[AJ h.tok a]at hz;obtain⟨x,hx,rfl⟩:=S8.1 hz;obtain⟨J,K⟩:=TJ.1 hx;exact S8.2 ⟨x,TJ.2 ⟨TV J,K⟩,rfl⟩
   refine .inr ⟨u,y,by rw[e];simp,by rw[e];simp[hy],λG=>B.1 (G▸hy),λg=>?_,λg=>?_⟩
   .have:=sq h.tok (i _ g);omega
   .have:=sq h.tok (i _ g);omega) rfl (show(-1:Int)<0 by decide) q m.hp (λ_ d=>d)
  refine⟨H,?_⟩;have P:=a3.upd q m.hp (λ_ d=>d) k hk (E.pf++[⟨1,E.id+1,aH E,(fB E).map (gn E.A)⟩]) (E.many+1) (pt E.gl E.A.row.length (LU E.T (aH E)));have I:(⟨E.A.row.length,E.id+1,aH E⟩:Ro)∈aP 0 (l++[⟨E.id+1,fc true,aH E⟩]):=by
   rw[ia,T4,←h.ari.row];simp[aP,fc]
  have W:dQ E.T u=E.T.beg.length:=b2;have v:-u∈E.T.lits:=N u (by rw[e];simp);have t:fP (cw E.T j) u=0:=by
   obtain⟨t1,Y,_⟩:=h.tok.back a;refine(t1.may u).2 ⟨R.chk u (by rw[e];simp),λg=>?_,λg=>?_⟩
   .rw[Y]at g;exact h.tok.one (TV g) v
   .have:=(EV h.tok a v).1 g;omega
  have Q := P.imp I (u := u) (by rw [e]; simp) t (λ y hy D => by
   have hy:y∈aH E:=hy;have M:y∈w:=by rw[e]at hy;exact(Tx.1 hy).resolve_left D
   exact(EV h.tok a (N y hy)).2 (L y M)) rfl (show(-1:Int)<0 by decide)
  have V:(aH E).headD 0=u:=by rw[e];rfl
  unfold rO;rw[SU C,b,V];exact Q
end
theorem kr{α:Type}{l:List α}{i:Nat}(h:i<l.length):l.take (i+1)=l.take i++[l[i]]:=Us h
theorem KB:∀(l:List Rc)(p:Nat)(x:Rc),(aP p (l++[x])).map (·.at')=(aP p l).map (·.at')++(if x.side=2 then[]else[((p+(bq l).length:Nat):Int)]):=λl p x=>by
 rw[ia,Tu];congr 1;show((if x.side=2 then[]else[_]):List Ro).map _=_;split<;>rfl
theorem p9:∀(l:List Rc)(p:Nat),(aP p l).length<=l.length
 |[],_=>SY _
 |x::l,p=>by
  have:=p9 l (p+x.sz);rw[aP];split<;>simp<;>omega
theorem ux:∀(l:List Rc),l.length<=(bq l).length
 |[]=>SY _
 |x::l=>by
  have:=ux l;simp[bq];omega
set_option maxRecDepth 16000 in
theorem ML(h:List (List SV))(b:Nat)(A:Ar)(C:h[b]?=some (ja A))(l:List Rc)(D:A.row=bq l)(U:A.row.length<=1000000):aA Tryz.prog 192 [.ptr b 0] h (λr h'=>h'=h∧r=.pv (.seq true 1 (ae (rA l)))):=by
 refine d7 [] [.tmp 2] aD Tryz.func192 ?_;obtain⟨k,j⟩:=SQ.1 C;simp;refine am.intro (pH h b A C) ?_;rintro _ h ⟨rfl,rfl⟩;simp;refine ax.intro (S:=λ(i:Nat)=>⟨[(0,.pv (.ptr b 0)),(3,.own true 1 (ae (rA (l.take i)))),(4,.pv (ab (bq (l.take i)).length))],h⟩) (λi=>i<=l.length) (λi=>l.length -i) 0 ?_ (Tf _) ?_
 .exact(ah.nilOwn (s:=3) 1 true (by simp)).trans (ah.keep (by simp[rA,aP,bq,ae]) rfl)
 intro i hi
 by_cases c:i<l.length
 .obtain⟨a,q⟩:∃a,l.take i=a:=⟨_,rfl⟩;obtain⟨x,hx⟩:∃x,l[i]=x:=⟨_,rfl⟩;have v:l=a++x::l.drop (i+1):=by rw[←q,←hx,←TG c,T7]
  obtain⟨Q,w,y,R,T⟩:=sm a x (l.drop (i+1));rw[←v,←D]at Q w y R T;have z:l.take (i+1)=a++[x]:=by rw[kr c,q,hx]
  have B:(bq (a++[x])).length=(bq a).length+(3+x.lits.length):=by rw[kn];simp[bq];omega
  have g:=KB a 0 x;have g:rA (a++[x])=rA a++(if x.side=2 then[]else[((bq a).length:Int)]):=by rw[T4]at g;exact g
  generalize hp:(bq a).length=p at*;have o:p<A.row.length:=by omega
  have e:p+1<A.row.length:=by omega
  have f:p+2<A.row.length:=by omega
  have t:A.row[p+1]=x.lits.length:=by rw[SS,SR e]at w;exact w
  have g2:A.row[p+2]=x.side:=by rw[SS,SR f]at y;exact y
  have J:=dv p;have K:aX ((p:Int)+2)=((p+2:Nat):Int):=by rw[ao (by omega) (by omega)];omega
  have L:aX ((3:Int)+x.lits.length)=((3+x.lits.length:Nat):Int):=by rw[ao (by omega) (by omega)];omega
  have M:aX ((p:Int)+(3+x.lits.length))=((p+(3+x.lits.length):Nat):Int):=by rw[ao (by omega) (by omega)];omega
  have t1:((p:Int)+1).toNat=p+1:=by omega
  have I:((p:Int)+2).toNat=p+2:=by omega
  have m:A.row[p+1]?=some (x.lits.length:Int):=by rw[SR e,t]
  have n:A.row[p+2]?=some x.side:=by rw[SR f,g2]
  have E:(p:Int)+1<A.row.length:=by omega
  have F:(p:Int)+2<A.row.length:=by omega
  have G:(0:Int)<=(p:Int)+1:=by omega
  have H:(0:Int)<=(p:Int)+2:=by omega
  have P:(rA a).length<=a.length:=by unfold rA;rw[S7];exact p9 a 0
  have N:a.length<=A.row.length:=by have:=ux a;omega
  by_cases d:x.side=2
  .rw[SX d,Ut]at g;simp[q,hp,j,k,ja,o,t,g2,K,I,n,F,H,d,J,t1,m,E,G,e,f,L,M];exact⟨i+1,by(try dsimp only);omega,by(try dsimp only);omega,ah.keep (by simp[z,B,g]) rfl⟩
  .rw[SU d]at g;simp[q,hp,j,k,ja,o,t,g2,K,I,n,F,H,d,J,t1,m,E,G,e,f,L,M];exact⟨by omega,i+1,by(try dsimp only);omega,by(try dsimp only);omega,ah.keep (by simp[z,B,g,ae]) rfl⟩
 .have u:i=l.length:=by omega
  subst u;have O:¬(bq l).length<A.row.length:=by rw[D];omega
  simp[j,k,ja,O,bB,bc]
section
variable {h : List (List SV)} {be bt ba bw bh : Nat} {mp : List (Int × Nat)} {mb : List (Int × By)} {E : ES}
def Nq:Sch:=
 let a:Sch:=.fork [(6,.take 7 .done)]
 let b:Sch:=.fork [(5,a)]
 let c:Sch:=.fork [(1,a)]
 .take 0 (.take 2 (.take 3 (.take 4 (.fork [(1,b),(5,c)]))))
end
theorem o6(q r:Pos->Bool)(t:List (Nat×SV))(s:Nat):look (t.map ((λp=>(p.1,ct q p.2))∘λp=>(p.1,ct r p.2))) s=ct q (ct r (look t s)):=by
 rw[←TX,bQ,bQ]
theorem wE:∀L:List (List Int),tq (L.map pA) (L.map aq)
 |[]=>trivial
 |c::L=>⟨by simp[pA,aq,bc,bB],wE L⟩
theorem Sim.leF{g:Gh}{st st':St}{a:Act}{w:World}(h:Sim g st a w)(hp:∀p,aa st' p=aa st p∨∃x y,aa st p=.pv x∧aa st' p=.pv y∧∀g v,Fit g x v->Fit g y v)(hl:st'.h.length=st.h.length)(hb:∀b,(st'.h.getD b []).length=(st.h.getD b []).length):Sim g st' a w:=by
  obtain⟨bl,ho⟩:=h.own
  have hw:∀p,(aa st' p).isOwn=(aa st p).isOwn:=λp=>by
    rcases hp p with e|⟨x,y,e1,e2,_⟩
    · rw[e]
    · rw[e1,e2];rfl
  have hown:∀p nw e rows,aa st' p=.own nw e rows->aa st p=.own nw e rows:=λp nw e rows he=>by
    rcases hp p with e1|⟨x,y,_,e2,_⟩
    · rw[←e1];exact he
    · rw[e2]at he;cases he
  have hal:∀{sv:SV}{v:Value},bW g st a w sv v->bW g st' a w sv v:=by
    intro sv
    induction sv with
    |al p=>intro v hv ho';exact hv (by rw[←hw];exact ho')
    |loc p lo hi=>intro v hv nw e rows he;exact hv nw e rows (hown _ _ _ _ he)
    |sptr p i k=>intro v hv nw e rows he;exact hv nw e rows (hown _ _ _ _ he)
    |agl xs=>intro v hv k x p hk ho';exact hv k x p hk (by rw[←hw];exact ho')
    |opt c x ih=>intro v hv hc;exact ih (hv hc)
    |_=>intro v _;trivial
  have hf:∀p v o,az g w (aa st p) v o->az g w (aa st' p) v o:=λp v o hs=>by
    rcases hp p with e|⟨x,y,e1,e2,hf⟩
    · rw[e];exact hs
    · rw[e1]at hs;rw[e2];exact⟨hs.1,hf _ _ hs.2⟩
  refine { size := h.size, defs := h.defs, env := h.env, n := by rw [hl]; exact h.n, n0 := h.n0, B := h.B, I := h.I, F := h.F, μI := h.μI, μinj := h.μinj,
           own:=⟨bl,{slots:=λs=>hf (.slot s) _ _ (ho.slots s),blocks:=λb xs' hx=>?_,inj:=ho.inj,free:=ho.free}⟩,al:=λs=>?_}
  · have hlt:b<st.h.length:=by rw[←hl];exact(SQ.1 hx).1
    have hlen:xs'.length=(st.h[b]).length:=by
      have:=hb b
      rw[SS,SS,hx,SR hlt]at this
      simpa using this
    obtain⟨arr,T,e1,e2,e3⟩:=ho.blocks b _ (SR hlt)
    refine⟨arr,T,e1,⟨by rw[hlen];exact e2.1,e2.2⟩,λk x hk=>?_⟩
    have hkl:k<(st.h[b]).length:=by rw[←hlen];exact(SQ.1 hk).1
    have g1:aa st' (.cell b k)=x:=by simp only[aa,SS,hx,TC,hk]
    have g2:aa st (.cell b k)=(st.h[b])[k]:=by simp only[aa,SS,SR hlt,TC,SR hkl]
    obtain⟨c1,c2⟩:=e3 k _ (SR hkl)
    have h4:=hf (.cell b k) (arr.getD k undef) (bl (.cell b k)) (by rw[g2];exact c2)
    rw[g1]at h4
    refine⟨?_,h4⟩
    rcases hp (.cell b k)with e|⟨u,v,_,e,_⟩
    · rw[←g1,e,g2];exact c1
    · rw[←g1,e];rfl
  · have h5:=h.al s
    rcases hp (.slot s)with e|⟨x,y,_,e,_⟩
    · simp only[aa]at e;rw[e];exact hal h5
    · simp only[aa]at e;rw[e];trivial
theorem ah.fitC{k0:Nat}{st:St}{b k:Nat}{xs:List SV}{x y:PV}(hx:st.h[b]?=some xs)(hk:xs[k]?=some (.pv x))(n:∀g v,Fit g x v->Fit g y v):ah k0 st ⟨st.t,st.h.set b (xs.set k (.pv y))⟩:=λg a w _ hs=>by
 obtain⟨m,r⟩:=SQ.1 hx;obtain⟨d,o⟩:=SQ.1 hk;have i:st.h.getD b []=xs:=by rw[SS,hx];rfl
 have l:∀c,(st.h.set b (xs.set k (.pv y))).getD c []=if c=b then xs.set k (.pv y)else st.h.getD c []:=λc=>by
  simp only[SS,Tz]
  by_cases e:c=b
  .subst e;rw[SX rfl,SX m,SX rfl];rfl
  .rw[SU (λq=>e q.symm),SU e]
 refine⟨g,hs.refl_to,hs.leF (λp=>?_) (by simp) (λc=>?_)⟩
 .cases p with
  |slot s=>exact .inl rfl
  |cell c j=>
   simp only[aa];rw[l]
   by_cases e:c=b
   .subst e;rw[SX rfl,i]
    by_cases f:j=k
    .subst f;exact .inr ⟨x,y,by rw[SS,hk];rfl,by rw[SS,TH d];rfl,n⟩
    .left;simp only[SS];rw[Tj (λq=>f q.symm)]
   .rw[SU e];exact .inl rfl
 .rw[l];split
  .rename_i e;subst e;rw[i];simp
  .rfl
def og(k:Int):Int:=if 100<(if 1000000<k then 1000000 else k)then(if 1000000<k then 1000000 else k)else 100
def ru(k:Int):Int:=if 0<(if 100<k then 100 else k)then(if 100<k then 100 else k)else 0
def gh(n:Nat)(cs:List (List Int))(kp a:Int):ES:=⟨l9 n,⟨[],[]⟩,⟨[],[],[],0,[]⟩,nJ n,n,cs,List.replicate (n+1) false,og kp,ru a,64,0,-1,false,0,false,[],[]⟩
def KC(ba bt:Nat):List SV:=[.pv (.ptr ba 0),.pv (.ptr bt 0),.omap true [],.omap true [],.omap true [],.pv (ab 0),.pv (.lit (.slice none 0 0))]
def K5(bt ba bw bh n:Nat)(cs:List (List Int))(kp a:Int):List SV:=[.pv (.ptr bt 0),.pv (ab n),.pv (.seq true 1 (cs.map pA)),.pv (.ptr ba 0),.pv (.ptr bw 0),.pv (.ptr bh 0),.own true 1 (List.replicate (n+1) [BL false]),.pv (ab (og kp)),.pv (ab (ru a)),.pv (ab 64),.pv (ab 0),.pv (ab (-1)),.pv (BL false),.pv (ab 0),.pv (BL false),.pv (.lit (.slice none 0 0)),.omap true []]
def uU(h:List (List SV))(x y:List SV)(E:ES):List (List SV):=h++[x,y,gA E.T,au E.q,ja E.A,b9 (h.length+4) (h.length+2) ⟨[],[],[],0,[]⟩,bO (h.length+2) (h.length+4) (h.length+5) (h.length+3) E]
theorem KD(h:List (List SV))(x y:List SV)(E:ES)(f:E.S=⟨[],[],[],0,[]⟩):LayE (uU h x y E) (h.length+6) (h.length+2) (h.length+4) (h.length+5) (h.length+3) [] [] E where
 w:={
  w:=by rw[f];simp[uU]
  a:=by simp[uU]
  t:=by simp[uU]
  wa:=by omega
  wt:=by omega
  at':=by omega
  keys:=by rw[f];rfl
  pr:=λk b c=>by simp[lk]at c
  pinj:=λk k' b c=>by simp[lk]at c
  by':=λl e g=>by simp[lk]at g
  byn:=λl _=>by rw[f];simp[lk]
  binj:=λl l' e e' g=>by simp[lk]at g
  pb:=λk b l e c=>by simp[lk]at c}
 e:=by simp[uU]
 q:=by simp[uU]
 ne:=by omega
 eo:=⟨λd=>by rcases d with d|d|⟨k,d⟩|⟨l,e,d,_⟩<;>first|omega|simp[lk]at d,by omega⟩
 ho:=⟨λd=>by rcases d with d|d|⟨k,d⟩|⟨l,e,d,_⟩<;>first|omega|simp[lk]at d,by omega⟩
theorem KE(h:List (List SV))(x y:List SV)(E:ES):Ext h (uU h x y E) (λ_=>False) (cO (h.length+6) (h.length+2) (h.length+4) (h.length+5) (h.length+3) [] [])where
 len:=by simp[uU]
 same:=λb a _=>SZ a
 sub:=λb a d=>by
  rcases d with d|d|d|d|d|⟨k,d⟩|⟨l,e,d,_⟩<;>first|omega|simp[lk]at d
theorem MM{n:Nat}(hn:n<=400)(F cs:List (List Int))(kp a:Int){r s:Nat}(d:r<=1000000)(hs:s<=1000000):EI n F r s [] (gh n cs kp a)where
 n9:=hn
 tok:=TOk.new (by omega)
 wok:={nd:=by simp[gh],lits:=λk p h=>by simp[gh,lk]at h,lnd:=by simp[gh],lpr:=λk h=>by simp[gh]at h,two:=λk p h=>by simp[gh,lk]at h,bnd:=λl=>by simp[gh,bF,lk],mem:=λl k=>by simp[gh,bF,lk],few:=by simp[gh],h0:=by simp[gh],h1:=by simp[gh],sl:=by simp[gh],clr:=by simp[gh,od]}
 prz:=by simp[gh];omega
 ari:=ArI.new
 rsz:=by simp[gh];omega
 idz:=by simp[gh];omega
 ids:=by simp
 cls:=λx hx=>by simp[aP]at hx
 att:=λk c=>by simp[CW,gh,lk,aP]
 ef:=by
  have:ff (gh n cs kp a).T=⟨n,[],0⟩:=by simp[ff,gh,l9]
  rw[this];exact EF.new _
 ent:=λx hx=>by simp[aP]at hx
 ovr:=by simp[gh,aP]
 hp:=Ke n
 inh:=λv h1 b _=>by
  simp only[gh,nJ,S8,Ug];exact⟨(v -1).toNat,by omega,by omega⟩
 ph:=by simp[gh]
 cal:=λh=>by simp[gh]at h
 con:=λh=>by simp[gh]at h
 dcy:=by simp only[gh,ru];split<;>split<;>omega
 inc:=by simp[gh]
theorem Oj{l:List Rc}{x:Rc}(hs:x.side≠2):rC (l++[x])=rC l++[x.lits]:=by
 unfold rC;rw[ia];simp[aP,hs]
theorem MN{c:List Int}{m:Int}(h:fj c m=0):c.length<=1000∧c.Nodup∧∀y∈c,aw y m=0:=by
 unfold fj at h;split at h
 .omega
 .rename_i h0;split at h
  .omega
  .split at h
   .omega
   .split at h
    .rename_i h1 a b;refine⟨by omega,F4 b,λy hy=>?_⟩;have:nH y m=true:=by
      have d:(c.all λx=>nH x m)=true:=by simpa using a
      exact TE.1 d y hy
     unfold aw;rw[SU h0,SX this]
    .omega
theorem wF{v:Int}:∀{L:List (List Int)}{i:Nat},(jy v L i).2=0->∀c∈L,fj c v=0
 |[],_,_,_,a=>by cases a
 |d::L,i,h,c,a=>by
  rw[jy]at h
  by_cases h1:fj d v≠0
  .rw[SX h1]at h;exact absurd h h1
  rw[SU h1]at h;rcases Tx.1 a with rfl|a
  .simpa using h1
  by_cases b:eY d=true
  .rw[SX b]at h;exact absurd h (by show¬((11:Int)=0);decide)
  .rw[SU b]at h;exact wF h c a
theorem Ol{n:Nat}{cs:List (List Int)}(h:(cH n cs).2=0):∀c∈cs,c.length<=1000∧c.Nodup∧∀y∈c,aw y n=0:=λc a=>by
 have h1:(jy n cs 0).2=0:=by
  unfold cH at h;split at h
  .cases h
  .split at h
   .cases h
   .exact h
 exact MN (wF h1 c a)
structure NewOk (n:Nat) (cs:List (List Int)) (kp:Int) (E:ES) (l:List Rc) (L:List (List Int)):Prop where
  T:E.T=l9 n
  vars:E.vars=n
  cs:E.cs=cs
  keep:E.keep=og kp
  pf:E.pf=[]
  many:E.many=0
  calm:E.calm=false
  con:E.con=-1
  rc:rC l=L
  side:∀x∈l,x.side=0
  num:l.map (λx=>(x.id,x.lits))=L.mapIdx λi c=>(((i+1:Nat):Int),c)
  id:E.id=L.length
def Sv(n:Nat)(cs:List (List Int))(kp:Int)(r s:Nat)(h:List (List SV))(y:SV)(h':List (List SV)):Prop:=∃be bt ba bw bh mp E l,y=.pv (.tup [.ptr be 0,ab 0])∧LayE h' be bt ba bw bh mp [] E∧Ext h h' (λ_=>False) (cO be bt ba bw bh mp [])∧EI n cs r s l E∧NewOk n cs kp E l cs
set_option maxRecDepth 16000 in
set_option maxHeartbeats 1000000 in
theorem MO(h:List (List SV))(n:Nat)(hn:n<=400)(cs:List (List Int))(rs kp f:Int)(hc:cs.length<=1000000)(hcl:∀c∈cs,c.length<=1000000)(hk:(cH n cs).2=0){r s:Nat}(hr:cs.length+r<=1000000)(hs:cs.length*1003+s<=1000000):
 aA Tryz.prog 21 [.agg [ab n,.seq false 1 (cs.map aq)],.agg [ab rs,ab kp,ab f]] h (Sv n cs kp r s h):=by
 have ag:n<=900:=by omega
 refine cQ [9] [.tmp 4,.tmp 5] aD Tryz.func21 ?_;have kC:=El n cs hcl;rw[hk]at kC;have h9:¬(900:Int)<n:=by omega
 have kT:=λg=>Lw g n (by omega);simp;refine ai.intro kC ?_;simp[h9];refine ai.introM (kT _) ?_;rintro _ _ ⟨rfl,rfl⟩;simp;have kH:=λg=>MD g n;refine ai.introM (kH _) ?_;rintro _ _ u;rw[SX (by omega)]at u;obtain⟨rfl,rfl⟩:=u;simp;refine ai.introM (LL _) ?_;rintro _ _ ⟨rfl,rfl⟩;simp;have kW:=Mn n cs hc hcl;generalize M:h++[[.pv (ab n),.pv (.seq false 1 (cs.map aq))],[.pv (ab rs),.pv (ab kp),.pv (ab f)],[.own true 4 ((l9 n).marks.map qg),.pv (.lit (.slice none 0 0)),.pv (.lit (.slice none 0 0)),.pv (BL true)],au (nJ n),OX]=H;have z:H.length=h.length+5:=by rw[←M];simp
 have B:∀u,H[h.length]'u=[.pv (ab n),.pv (.seq false 1 (cs.map aq))]:=by subst M;intro u;simp
 have C:∀u,H[h.length+1]'u=[.pv (ab rs),.pv (ab kp),.pv (ab f)]:=by subst M;intro u;simp
 have D:∀g u,(H++g)[h.length]'u=[.pv (ab n),.pv (.seq false 1 (cs.map aq))]:=λg u=>by rw[T5 (by omega)];exact B _
 have F:∀g u,(H++g)[h.length+1]'u=[.pv (ab rs),.pv (ab kp),.pv (ab f)]:=λg u=>by rw[T5 (by omega)];exact C _
 have j:H[h.length]?=some [.pv (ab n),.pv (.seq false 1 (cs.map aq))]:=by rw[SR (by omega),B]
 have o:H[h.length+1]?=some [.pv (ab rs),.pv (ab kp),.pv (ab f)]:=by rw[SR (by omega),C]
 have p:∀g,(H++g)[h.length]?=some [.pv (ab n),.pv (.seq false 1 (cs.map aq))]:=λg=>by rw[SZ (by omega),j]
 have w:∀g,(H++g)[h.length+1]?=some [.pv (ab rs),.pv (ab kp),.pv (ab f)]:=λg=>by rw[SZ (by omega),o]
 have L:aX ((n:Int)+1)=(n:Int)+1:=ao (by omega) (by omega);have I:((n:Int)+1).toNat=n+1:=by omega
 refine aT.tab [] ⟨[some (40,.pv (.ptr (h.length+2) 0)),some (41,.pv (.agg [ab n,.seq false 1 (cs.map aq)])),some (42,.pv (.agg [ab n,.seq true 1 (cs.map pA)])),some (43,.pv (.ptr (h.length+4) 0)),some (44,.pv (.ptr (h.length+4) 0)),some (45,.pv (.ptr (h.length+2) 0)),some (46,.pv (.ptr (h.length+5) 0)),some (47,.pv (.ptr (h.length+3) 0)),some (48,.pv (.ptr h.length 0)),some (49,.pv (ab n)),some (50,.pv (ab ((n:Int)+1))),some (51,.own true 1 (List.replicate (n+1) [BL false])),some (52,.pv (.ptr (h.length+1) 1)),some (53,.pv (ab kp)),some (54,.pv (ab (if 1000000<kp then 1000000 else kp))),some (55,.pv (ab (og kp))),some (56,.pv (.ptr (h.length+1) 2)),some (57,.pv (ab f)),some (58,.pv (ab (if 100<f then 100 else f))),some (59,.pv (ab (ru f))),some (60,.omap true []),some (61,.agl [(.ptr (h.length+2) 0,none),(ab n,none),(.seq true 1 (cs.map pA),none),(.ptr (h.length+4) 0,none),(.ptr (h.length+5) 0,none),(.ptr (h.length+3) 0,none),(.bot,some (.slot 51)),(ab (og kp),none),(ab (ru f),none),(ab 64,none),(ab 0,none),(ab (-1),none),(BL false,none),(ab 0,none),(BL false,none),(.lit (.slice none 0 0),none),(.bot,some (.slot 60))]),some (62,.pv (.ptr (h.length+6) 0)),some (13,.pv (.ptr (h.length+6) 0))],[(2,.pv (.ptr h.length 0)),(3,.pv (.ptr (h.length+1) 0)),(8,.pv (.ptr (h.length+2) 0)),(10,.pv (.ptr (h.length+3) 0)),(12,.pv (.ptr (h.length+4) 0))],[[],[],[1],[],[],[],[4,5],[],[],[8],[9],[10],[],[12],[13],[14],[],[16],[17],[18],[],[0,2,3,6,7,11,15,19,20],[11,20,21],[22]],[6,21,22],[[0,1],[0],[0],[0,1],[0],[0],[0],[0,1],[0,1,2,3],[0,1],[0,1],[0,1],[0,1,2,3],[0,1],[0,1],[0,1],[0,1,2,3],[0,1],[0,1],[0,1],[0,1],[1],[2],[3]],[(11,61),(20,61),(22,51),(22,60),(22,61)],λ|0=>H|1=>H++[KC (h.length+4) (h.length+2)]|2=>H++[KC (h.length+4) (h.length+2)]|_=>H++[KC (h.length+4) (h.length+2),K5 (h.length+2) (h.length+4) (h.length+5) (h.length+3) n cs kp f]⟩ ⟨[(2,.pv (.ptr h.length 0)),(13,.pv (.ptr (h.length+6) 0))],H++[KC (h.length+4) (h.length+2),K5 (h.length+2) (h.length+4) (h.length+5) (h.length+3) n cs kp f]⟩ (by kernel_rfl) (by simp[a8]) rfl ?_ (λt h1 G=>?_) ?_
 .simp only[Tb.steps,Iu,Tb.lvA,Tb.dpA,Bd,uF,UQ,Vb,cA,d8,mN,iU,fi,eX,K3,io,jg,TQ,UV,Vr,WD,VN,WU,WT,U1,Vu,TM,Ul];and_intros
  all_goals first|trivial|(intro t h1 G;simp only[a8,TP,TI]at h1;simp[z,j,o,p,w,D,F,B,C,L,I,og,ru,KC,K5,o6,h1,G,Tb.postL,Tb.wth,vN,uF,a8,bQ]<;>and_intros<;>first|omega|(intro e;simp[z,j,o,p,w,D,F,B,C,L,I,og,ru,KC,K5,o6,e]))|(intro t h1 G;simp only[a8,TP,TI]at h1;simp[z,j,o,p,w,D,F,B,C,L,I,og,ru,KC,K5,o6,h1,G,Tb.postL,Tb.wth,vN,uF,a8,bQ])
  .refine ai.intro kW ?_;simp[z,j,o,p,w,D,F,h1,G,Tb.postL,Tb.wth,vN,uF,a8,bQ]<;>and_intros<;>first|omega|(intro e;simp[e])
  .refine am.intro (Mt _ (h.length+4) (h.length+2)) ?_;rintro _ _ ⟨rfl,rfl⟩;simp[z,j,o,p,w,D,F,h1,G,KC,Tb.postL,Tb.wth,vN,uF,a8,bQ]<;>and_intros<;>first|omega|(intro e;simp[e])
 .simp only[a8,TP,TI]at h1 G;simp[Iv]at G;exact ah.keep (by simp[h1,G]) rfl
 simp[p];clear B C D F j o p w z kC kT kH kW L I h9;have U:=Ol hk;obtain⟨bx,Q⟩:∃x:List SV,[.pv (ab n),.pv (.seq false 1 (cs.map aq))]=x:=⟨_,rfl⟩;obtain⟨by',R⟩:∃x:List SV,[.pv (ab rs),.pv (ab kp),.pv (ab f)]=x:=⟨_,rfl⟩;refine ax.intro (S:=λ(x:Nat×List (List SV)×List (Int×Nat)×ES×List Rc)=>⟨[(13,.pv (.ptr (h.length+6) 0)),(64,.pv (.seq false 1 (cs.map aq))),(65,.pv (ab cs.length)),(66,.pv (ab x.1))],x.2.1⟩)
  (λx=>x.1<=cs.length∧LayE x.2.1 (h.length+6) (h.length+2) (h.length+4) (h.length+5) (h.length+3) x.2.2.1 [] x.2.2.2.1∧Ext h x.2.1 (λ_=>False) (cO (h.length+6) (h.length+2) (h.length+4) (h.length+5) (h.length+3) x.2.2.1 [])∧EI n cs (r+(cs.length -x.1)) (s+(cs.length -x.1)*1003) x.2.2.2.2 x.2.2.2.1∧NewOk n cs kp x.2.2.2.1 x.2.2.2.2 (cs.take x.1)) (λx=>cs.length -x.1)
  (0,uU h bx by' (gh n cs kp f),[],gh n cs kp f,[]) ?_ ⟨Tf _,KD _ _ _ _ rfl,KE _ _ _ _,MM hn _ _ _ _ (by omega) (by omega),⟨rfl,rfl,rfl,rfl,rfl,rfl,rfl,rfl,rfl,by simp,rfl,rfl⟩⟩ ?_
 .subst M;refine(ah.keep (t1:=[(13,.pv (.ptr (h.length+6) 0)),(64,.pv (.seq false 1 (cs.map aq))),(65,.pv (ab cs.length)),(66,.pv (ab 0))]) (by simp) rfl).trans ?_;simp only[Tv,TP,TI];refine(ah.nilCell (b:=h.length+2) (k:=1) (xs:=[.own true 4 ((l9 n).marks.map qg),.pv (.lit (.slice none 0 0)),.pv (.lit (.slice none 0 0)),.pv (BL true)]) 1 true (by simp) (by simp)).trans ?_;refine(ah.nilCell (b:=h.length+2) (k:=2) (xs:=[.own true 4 ((l9 n).marks.map qg),.own true 1 [],.pv (.lit (.slice none 0 0)),.pv (BL true)]) 1 true (by simp) (by simp)).trans ?_;refine(ah.nilCell (b:=h.length+4) (k:=0) (xs:=OX) 1 true (by simp) (by simp[OX])).trans ?_;refine(ah.nilCell (b:=h.length+5) (k:=6) (xs:=KC (h.length+4) (h.length+2)) 1 true (by simp) (by simp[KC])).trans ?_;refine(ah.nilCell (b:=h.length+6) (k:=15) (xs:=K5 (h.length+2) (h.length+4) (h.length+5) (h.length+3) n cs kp f) 4 true (by simp) (by simp[K5])).trans ?_;refine(ah.fitC (b:=h.length+6) (k:=2) (xs:=(K5 (h.length+2) (h.length+4) (h.length+5) (h.length+3) n cs kp f).set 15 (.own true 4 [])) (x:=.seq true 1 (cs.map pA)) (y:=.seq false 1 (cs.map aq)) (by simp) (by simp[K5]) λg v hv=>Iy (x:=.seq true 1 (cs.map pA)) ⟨λe=>(by cases e),rfl,wE cs⟩ hv).trans ?_;refine ah.le (by simp) ?_;simp[uU,OX,KC,K5];refine tn h ?_;simp[Q,R,bO,ja,gA,b9,gh,ae,de,l9,aZ,qz]
 rintro⟨i,X,mp,E,l⟩ ⟨hi,N,O,J,a⟩;dsimp only at hi N O J a
 by_cases d:i<cs.length
 .obtain⟨h1,G,h3⟩:=U _ (S5 d);have hT:=J.tok;have W:r+(cs.length -i)=(r+(cs.length -(i+1)))+1:=by omega
  have Y:s+(cs.length -(i+1))*1003+(3+cs[i].length)<=s+(cs.length -i)*1003:=by omega
  have P:=J.mono (XS W.symm) Y;have hE:∀q,HpTo n E.q q->jt (E.id+1) cs[i]=0∧pX (dg E.A (E.id+1) cs[i] false) E.T E.S E.A.row.length=0∧EI n cs (r+(cs.length -(i+1))) (s+(cs.length -(i+1))*1003) (l++[⟨E.id+1,fc false,cs[i]⟩]) (C1 E cs[i] false q):=λq hq=>
   P.add false h1 G h3 (λm hm=>hm _ (S5 d)) (λk k1 k2=>by rw[a.T]at k2;simp[ff,l9]at k2;omega) a.calm (by rw[a.con];omega) q hq.hp hq.mem
  obtain⟨e1,_,e3⟩:=hE E.q (.refl J.hp);have ad:=J.idz;have af:=J.rsz;have K:=e3.rsz;have kA:=EY N hT J.hp (by omega) cs[i] false e1 e3.arok (by simp only[C1]at K;omega) (by omega) (by omega);have L:=dv i;have V:aq cs[i]=[.seq false 1 (ae cs[i])]:=rfl;simp[d,V];refine am.intro kA ?_;rintro _ X2 ⟨rfl,aa,q,L2,Y2,G2⟩;simp;refine⟨(i+1,X2,aa,C1 E cs[i] false q,l++[⟨E.id+1,fc false,cs[i]⟩]),by(try dsimp only);omega,⟨by(try dsimp only);omega,L2,O.trans Y2,(hE q G2).2.2,⟨a.T,a.vars,a.cs,a.keep,a.pf,a.many,a.calm,a.con,?_,?_,?_,?_⟩⟩,ah.keep (by simp[L]) rfl⟩
  .rw[Oj (by simp[fc]),a.rc,TW];simp[d]
  .intro x hx;rcases Te.1 hx with hx|hx
   .exact a.side x hx
   .simp at hx;subst hx;rfl
  .have nh:=a.id;rw[S6,Uw hi]at nh;rw[Tu,a.num,Us d,List.mapIdx_append,S6,Uw hi];simp[nh]
  .have nh:=a.id;rw[S6,Uw hi]at nh;show E.id+1=_;rw[nh,S6,Uw (by omega)];omega
 .have Z:i=cs.length:=by omega
  subst Z;simp;exact⟨_,_,_,_,_,mp,E,l,rfl,N,O,J.mono (by omega) (by omega),by rw[Tw]at a;exact a⟩
theorem KF(h:List (List SV))(v:Int)(cs:List (List Int))(rs kp a:Int)(hcl:∀c∈cs,c.length<=1000000)(hk:(cH v cs).2≠0∨900<v):
 aA Tryz.prog 21 [.agg [ab v,.seq false 1 (cs.map aq)],.agg [ab rs,ab kp,ab a]] h (λy h'=>y=.pv (.tup [.lit (.pointer none),ab (if(cH v cs).2≠0 then(cH v cs).2 else 3)])∧Ext h h' (λ_=>False) (λ_=>False)):=by
 refine cQ [9] [.tmp 4,.tmp 5] aD Tryz.func21 ?_;have d:=El v cs hcl;have hx:=λg=>Ext.app h g (λ_=>False);simp;refine ai.intro d ?_
 by_cases c:(cH v cs).2=0
 .have b:900<v:=hk.resolve_left (λe=>e c);simp[c,b,hx]
 .simp[c,hx]
section
variable {h : List (List SV)} {be bt ba bw bh : Nat} {mp : List (Int × Nat)} {mb : List (Int × By)} {E : ES}
theorem AT(L:LayE h be bt ba bw bh mp mb E){n:Nat}(i:TOk n E.T)(g:HpG n 1000000000000 E.q)(hp:E.ph.length=n+1):
 aA Tryz.prog 24 [.ptr be 0] h (λr h'=>r=.pv (.tup [])∧((E.over=true∧h'=h)∨(E.over=false∧∃q p,LayE h' be bt ba bw bh mp mb {E with T:=eW E.T 0,q:=q,ph:=p,con:=-1,calm:=false}∧Ext h h' (cO be bt ba bw bh mp mb) (cO be bt ba bw bh mp mb)∧HpTo n E.q q∧p.length=n+1∧∀z∈E.T.lits,z∉(eW E.T 0).lits->af z∈q.row))):=by
 refine cQ [] [] aD Tryz.func24 ?_;have j:=AS L i g hp 0;obtain⟨b,a⟩:=SQ.1 L.e;simp;refine am.intro (gg L.e) ?_;rintro _ _ ⟨rfl,rfl⟩;cases ho:E.over
 .simp[a,b,bO,ho];refine am.intro j ?_;rintro _ k ⟨rfl,q,p,c,d⟩;have f:({E with T:=eW E.T 0,q:=q,ph:=p,con:=-1,calm:=false}:ES)={E with T:=eW E.T 0,q:=q,ph:=p,con:=-1,calm:=false,over:=false}:=by rw[←ho]
  rw[f]at c;simp;exact⟨q,p,c,d⟩
 .simp[a,b,bO,ho]
end
def KG:Sch:=
 let c:Sch:=.fork [(15,.done)]
 let d:Sch:=.fork [(12,.take 13 (.take 14 c))]
 let a:Sch:=.fork [(9,.take 10 (.take 11 d))]
 let e:Sch:=.fork [(8,a)]
 let b:Sch:=.fork [(6,a)]
 let f:Sch:=.fork [(6,e),(8,b)]
 let g:Sch:=.fork [(5,b)]
 let h:Sch:=.fork [(5,f),(8,g)]
 .take 0 (.take 1 (.take 2 (.take 3 (.take 4 (.take 7 h)))))
def AU(x:Stp):List PV:=[ab x.kind,ab x.id,.bot,.bot]
@[simp] theorem AV(k:Nat)(l:List Stp):bI k (l.map AU):=by
 induction l with
 |nil=>trivial
 |cons x l a=>exact⟨⟨trivial,trivial,trivial,trivial,trivial⟩,a⟩
theorem AW:∀l:List Stp,Bp (l.map AU)
 |[]=>trivial
 |_::l=>⟨⟨trivial,trivial,trivial,trivial,trivial⟩,AW l⟩
theorem wG{g:Gh}:∀{l:List Stp}{vs:List Value},ay g 4 (l.map dX) vs->ay g 4 (l.map AU) vs
 |[],_,h=>h
 |_::_,_,⟨t,u,h1,i,⟨p,m,a,b,q,n,c,d,r,r3,e,_,s,o,f,_,j⟩,k⟩=>⟨t,u,h1,i,⟨p,m,a,b,q,n,c,d,r,r3,e,trivial,s,o,f,trivial,j⟩,wG k⟩
theorem AY(l:List Stp)(t:l.length<=1000000):aj Tryz.prog 76 [.seq false 4 (l.map dX)] (λr=>r=.own true 4 (l.map AU)):=by
 have h1:aj Tryz.prog 76 [.seq false 4 (l.map dX)] (λr=>r=.own true 4 (l.map dX)∨r=.pv (.lit (.slice none 0 0))∧l=[]):=by
  refine ap aD Tryz.func76 ?_;cases l with
  |nil=>simp
  |cons x l=>simp;simp at t;omega
 have f:aj Tryz.prog 76 [.seq false 4 (l.map dX)] (λr=>r=.own true 4 (l.map dX)):=
  aj.own0 h1 λr h=>h.imp id λ⟨e,d⟩=>⟨e,true,4,by rw[d];rfl⟩
 refine⟨f.1,λw vs u=>(f.2 w vs u).mono λe w' ⟨v,r,g',o,g,d,i,j,z,k⟩=>?_⟩;subst d;refine⟨v,.own true 4 (l.map AU),g',o,g,rfl,i,?_,rfl,k⟩;rcases j with⟨a,b,c⟩|⟨c,s,cap,arr,T,y,m,n,p,q,f5,f6⟩
 .exact .inl ⟨a,by rw[XO]at b⊢;exact b,c⟩
 .exact .inr ⟨c,s,cap,arr,T,y,by simpa using m,n,p,by simpa using q,wG f5,f6⟩
section
variable {h : List (List SV)} {be bt ba bw bh : Nat} {E : ES}
set_option maxRecDepth 16000 in
theorem GL(w:h[be]?=some (bO bt ba bw bh E))(x:E.pf.length<=1000000)(hs:∀s∈E.pf,s.lits.length<=1000000∧s.hints.length<=1000000):aA Tryz.prog 33 [.ptr be 0] h (λr h'=>h'=h∧r=.pv (.seq true 4 (E.pf.map Ab))):=by
 refine aA.below (by kernel_rfl) λz=>?_;refine gy [7] [.tmp 2] aD Tryz.func33 ?_;obtain⟨a,c⟩:=SQ.1 w;obtain⟨ss,b⟩:∃ss,E.pf=ss:=⟨_,rfl⟩;rw[b]at x hs⊢;have y:=AY ss x;obtain⟨Q,f⟩:∃Q:Nat->List (List PV),∀i,Q i=(ss.take i).map Ab++(ss.drop i).map AU:=⟨_,λ_=>rfl⟩;have l:Q 0=ss.map AU:=by rw[f];rfl
 have n:Q ss.length=ss.map Ab:=by rw[f];simp
 have p:∀i,i<=ss.length->(Q i).length=ss.length:=λi hi=>by rw[f];simp;omega
 simp;refine am.intro (gg w) ?_;rintro _ h ⟨rfl,rfl⟩;simp[c,a,bO,b];refine ai.intro y ?_ (by simp[AW]);simp[c,a,bO,b];refine ax.intro (S:=λ(i:Nat)=>⟨[(0,.pv (.ptr be 0)),(3,.own true 4 (Q i)),(17,.al (.cell be 15)),(18,.pv (ab ss.length)),(19,.pv (ab i))],h⟩) (λi=>i<=ss.length) (λi=>ss.length -i) 0 ?_ (Tf _) ?_
 .exact ah.keep (by simp[l]) rfl
 intro i hi;have e:=p i hi
 by_cases d:i<ss.length
 .have A:=dv i;have j:ss[i]?=some ss[i]:=SR d;have g:=hs _ (S5 d);have t:=iQ ss[i].lits g.1;have u:=iQ ss[i].hints g.2;have o:(Q i)[i]'(by omega)=[ab ss[i].kind,ab ss[i].id,.bot,.bot]:=by
   simp only[f];rw[Xi (by simp;omega)];simp[AU,Uw hi]
  have q:(Q i).set i [ab ss[i].kind,ab ss[i].id,.seq true 1 (ae ss[i].lits),.seq true 1 (ae ss[i].hints)]=Q (i+1):=by
   rw[f,f,VR _ _ (by simp;omega),Us d,Tu,Tv];congr 1;rw[S7,S6,Uw hi,U8,TG d];rfl
  have m:∀k,bI k (Q (i+1)):=λk=>by
   rw[f];exact(uJ k _ _).2 ⟨Ac k _,AV k _⟩
  simp[d,j,dX,e,c,a,bO,b];refine aT.one KG (by kernel_rfl) ?_;simp[KG,d,j,dX,e,c,a,bO,b];and_intros
  all_goals
   refine ai.intro t ?_;simp[d,j,dX,e,c,a,bO,b];refine ai.intro u ?_;simp[d,j,dX,e,c,a,bO,b];exact⟨i+1,by(try dsimp only);omega,by(try dsimp only);omega,ah.to (by simp[A,o,q,dX]) (by simp) (by simp) (by simp[m,a]) (by simp[z])⟩
 .have v:i=ss.length:=by omega
  subst v;simp[n]
end
end Go.AX