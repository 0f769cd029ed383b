/-
  AX, part Fz: a call's own blocks, let go, are read from then on and written no more.
-/
import Derived.Test.YtepodadinenmnaaGreatZ8
namespace Go.AX
section
def aN(l:af):bj:=l.map λx=>.pv (.lit (.int .i64 x))
def xY(l:af):aT:=l.map λx=>[.lit (.int .i64 x)]
mutual
def frzQ(h:ao)(k:Nat):PV->PV->Prop
  |.bsl b e off n _,y=>e=1∧k<=b∧∃l pre suf,y=.seq false 1 (xY l)∧n=l.length∧h[b]?=some (pre++aN l++suf)∧pre.length=off
  |.tup xs,y=>∃ys,y=.tup ys∧BW h k xs ys
  |.seq nw e rows,y=>∃rows',y=.seq nw e rows'∧xZ h k rows rows'
  |.bot,y=>y=.bot
  |.lit v,y=>y=.lit v
  |.agg xs,y=>y=.agg xs∧b7 k xs
  |.iptr e rows i j,y=>y=.iptr e rows i j∧bV k rows
  |.ptr b off,y=>y=.ptr b off∧b<k
  |.fn f xs ys,y=>y=.fn f xs ys∧b7 k xs∧b7 k ys
  |.amap nw es,y=>y=.amap nw es∧fB k es
  |.ifc t x,y=>y=.ifc t x∧x.bel k
def BW(h:ao)(k:Nat):aD->aD->Prop
  |[],ys=>ys=[]
  |x::xs,ys=>∃y r,ys=y::r∧frzQ h k x y∧BW h k xs r
def xZ(h:ao)(k:Nat):aT->aT->Prop
  |[],rs=>rs=[]
  |x::xs,rs=>∃y r,rs=y::r∧BW h k x y∧xZ h k xs r
end
theorem tp(h:ao)(k:Nat):∀l:af,xZ h k (xY l) (xY l)
 |[]=>rfl
 |x::l=>⟨_,_,rfl,⟨_,_,rfl,rfl,rfl⟩,tp h k l⟩
theorem vF(G:Gh):∀l:af,aK G 1 (xY l) (l.map λx=>.int .i64 x)
 |[]=>rfl
 |z::zs=>⟨[.int .i64 z],zs.map λx=>.int .i64 x,rfl,⟨rfl,λv a=>by simp at a;subst a;rfl⟩,⟨_,_,rfl,rfl,rfl⟩,vF G zs⟩
section
variable {g g2 : Gh} {w : ab} {h : ao} {k : Nat}
mutual
theorem Fit.frzQ(hle:Gh.le {g with n:=k} g2)(hB:∀b,k<=b->b<g.n->g2.I (g.μ b)=w.heap[g.μ b]?)
    (hblk:∀b xs,h[b]?=some xs->∃arr T,w.heap[g.μ b]?=some (.cells arr T (0,0))∧arr.size=xs.length∧∀(j:Nat) x,xs[j]?=some (.pv x)->Fit g x (arr.getD j undef)):∀(x y:PV)(v:an),frzQ h k x y->Fit g x v->Fit g2 y v
  |.bsl b e off n cap,y,v,⟨he,hk,l,pre,suf,hy,hn,hb,ho⟩,⟨h1,h2,h3⟩=>by
    subst he hy hn ho
    obtain⟨arr,T,a1,a2,a3⟩:=hblk b _ hb
    have hel:∀i (_:i<l.length),arr.toList[pre.length+i]?=some (.int .i64 (l[i])):=λi hi=>by
      have hx:(pre++aN l++suf)[pre.length+i]?=some (.pv (.lit (.int .i64 l[i]))):=by
        rw[VV,VM (by omega),XL,Vv (by unfold aN;simpa using hi)]
        unfold aN
        rw[VO,Vq hi]
        rfl
      have hf:arr.getD (pre.length+i) undef=.int .i64 l[i]:=a3 _ _ hx
      have hlt:pre.length+i<arr.size:=by
        rw[a2];exact(Vp.1 hx).1
      rw[Vw,VK hlt,←hf]
      simp[Array.getD,hlt]
    refine⟨_,cap,by rw[h3];simp[xY],by simpa[xY]using h2,.inr ⟨g.μ b,pre.length,arr,T,(0,0),l.map λx=>.int .i64 x,rfl,by rw[hB b hk h1,a1],λhh=>(by cases hh),vF g2 l,?_⟩⟩
    have htk:(l.map λx=>Value.int .i64 x)=(arr.toList.drop pre.length).take l.length:=by
      apply Wv
      intro i
      rw[Wg,Wk,VO]
      by_cases hi:i<l.length
      rw[Vt hi,hel i hi,Vq hi];rfl
      rw[Vs hi,V4 (by omega)];rfl
    rw[htk]
    exact Ze _ _
  |.tup xs,y,v,⟨ys,hy,hq⟩,⟨vs,h1,h2⟩=>by
    subst hy
    exact⟨vs,h1,ax.frzQ hle hB hblk xs ys _ hq h2⟩
  |.seq nw e rows,y,v,⟨rows',hy,hq⟩,⟨p,cap,h1,hc,h2⟩=>by
    subst hy
    have hlen:=x4 rows rows' hq
    refine⟨p,cap,by rw[hlen];exact h1,by rw[hlen];exact hc,?_⟩
    rcases h2 with rfl|⟨c,off,arr,T,fz,vs,a,b,n,r,q⟩
    exact .inl hq
    exact .inr ⟨c,off,arr,T,fz,vs,a,hle.I _ _ b,λhn=>Wb hle.B (n hn),aK.frzQ hle hB hblk e rows rows' vs hq r,q⟩
  |.bot,y,v,hq,_=>by
    have:y=.bot:=hq
    subst this;trivial
  |.lit u,y,v,hq,h=>by
    have:y=.lit u:=hq
    subst this;exact h
  |.agg xs,y,v,⟨hy,hb⟩,h=>by
    subst hy
    exact Fit.mono hle _ _ (Fit.below (.agg xs) v hb h)
  |.iptr e rows i j,y,v,⟨hy,hb⟩,h=>by
    subst hy
    exact Fit.mono hle _ _ (Fit.below (.iptr e rows i j) v hb h)
  |.ptr b off,y,v,⟨hy,hb⟩,h=>by
    subst hy
    exact Fit.mono hle _ _ (Fit.below (.ptr b off) v hb h)
  |.fn f xs ys,y,v,⟨hy,hb⟩,h=>by
    subst hy
    exact Fit.mono hle _ _ (Fit.below (.fn f xs ys) v hb h)
  |.amap nw es,y,v,⟨hy,hb⟩,h=>by
    subst hy
    exact Fit.mono hle _ _ (Fit.below (.amap nw es) v hb h)
  |.ifc t x,y,v,⟨hy,hb⟩,h=>by
    subst hy
    exact Fit.mono hle _ _ (Fit.below (.ifc t x) v hb h)
theorem ax.frzQ(hle:Gh.le {g with n:=k} g2)(hB:∀b,k<=b->b<g.n->g2.I (g.μ b)=w.heap[g.μ b]?)
    (hblk:∀b xs,h[b]?=some xs->∃arr T,w.heap[g.μ b]?=some (.cells arr T (0,0))∧arr.size=xs.length∧∀(j:Nat) x,xs[j]?=some (.pv x)->Fit g x (arr.getD j undef)):∀(xs ys:aD)(vs:aG),BW h k xs ys->ax g xs vs->ax g2 ys vs
  |[],ys,vs,hq,h=>by
    have:ys=[]:=hq
    subst this;exact h
  |x::xs,ys,vs,⟨y,r,hy,hq,hr⟩,⟨v,r',h1,h2,h3⟩=>by
    subst hy
    exact⟨v,r',h1,Fit.frzQ hle hB hblk x y v hq h2,ax.frzQ hle hB hblk xs r r' hr h3⟩
theorem aK.frzQ(hle:Gh.le {g with n:=k} g2)(hB:∀b,k<=b->b<g.n->g2.I (g.μ b)=w.heap[g.μ b]?)
    (hblk:∀b xs,h[b]?=some xs->∃arr T,w.heap[g.μ b]?=some (.cells arr T (0,0))∧arr.size=xs.length∧∀(j:Nat) x,xs[j]?=some (.pv x)->Fit g x (arr.getD j undef)) (e:Nat):∀(xs ys:aT)(vs:aG),xZ h k xs ys->aK g e xs vs->aK g2 e ys vs
  |[],ys,vs,hq,h=>by
    have:ys=[]:=hq
    subst this;exact h
  |x::xs,ys,vs,⟨y,r,hy,hq,hr⟩,⟨v1,v2,h1,h2,h3,h4⟩=>by
    subst hy
    exact⟨v1,v2,h1,⟨(x3 x y hq).trans h2.1,h2.2⟩,ax.frzQ hle hB hblk x y v1 hq h3,aK.frzQ hle hB hblk e xs r v2 hr h4⟩
theorem x3:∀(xs ys:aD),BW h k xs ys->ys.length=xs.length
  |[],ys,hq=>by
    have:ys=[]:=hq
    subst this;rfl
  |x::xs,ys,⟨y,r,hy,hq,hr⟩=>by
    subst hy
    rw[VR,VR,x3 xs r hr]
theorem x4:∀(xs ys:aT),xZ h k xs ys->ys.length=xs.length
  |[],ys,hq=>by
    have:ys=[]:=hq
    subst this;rfl
  |x::xs,ys,⟨y,r,hy,hq,hr⟩=>by
    subst hy
    rw[VR,VR,x4 xs r hr]
end
end
theorem Sim.moreI{g:Gh}{st:St}{a:Act}{w:ab}(hs:Sim g st a w)(D:Nat->Prop)[DecidablePred D](u:∀c,D c->g.F c=none)(z:∀b,b<g.n->¬D (g.μ b)){bl:Pos->Option Nat}(h:Owns g st a w bl)(y:∀p c,bl p=some c->¬D c):
 g.to {g with I:=λc=>if D c then w.heap[c]?else g.I c}∧Sim {g with I:=λc=>if D c then w.heap[c]?else g.I c} st a w:=by
 have hle:g.le {g with I:=λc=>if D c then w.heap[c]?else g.I c}:=⟨λc o d=>by
  show(if D c then w.heap[c]?else g.I c)=some o;split;exact hs.I c o d;exact d,Vu _,Vu _,λ_ _=>rfl⟩
 have f:∀p,(aj st p).isOwn=true->aj st p=aj st p∧aA {g with I:=λc=>if D c then w.heap[c]?else g.I c} a w p=aA g a w p:=λp _=>⟨rfl,rfl⟩;refine⟨⟨hle.I,rfl,rfl,rfl,rfl,rfl,hs.n0,λ_ _=>rfl,λc d v=>?_⟩,?_⟩;show(if D c then w.heap[c]?else g.I c)=none;split;rename_i hd;exact absurd (u c hd) d;exact v;refine{size:=hs.size,defs:=hs.defs,env:=hs.env,n:=hs.n,n0:=hs.n0,B:=hs.B,I:=λc o d=>?_,F:=hs.F,μI:=λb e=>⟨?_,(hs.μI b e).2⟩,μinj:=hs.μinj,own:=⟨bl,?_⟩,al:=λs=>cL.congr f (hs.al s)}
 change(if D c then w.heap[c]?else g.I c)=some o at d
 split at d;exact d;exact hs.I c o d;show(if D (g.μ b)then w.heap[g.μ b]?else g.I (g.μ b))=none;rw[Vs (z b e)];exact(hs.μI b e).1;refine{slots:=λs=>aO.frame hle (λ_ _=>rfl) (h.slots s),blocks:=λb xs hx=>?_,inj:=h.inj,free:=λp c hp=>?_};obtain⟨arr,T,k,l,i⟩:=h.blocks b xs hx;exact⟨arr,T,k,l,λj x hj=>⟨(i j x hj).1,aO.frame hle (λ_ _=>rfl) (i j x hj).2⟩⟩;obtain⟨m,q,r,t⟩:=h.free p c hp;refine⟨?_,q,r,t⟩;show(if D c then w.heap[c]?else g.I c)=none;rw[Vs (y p c hp)];exact m
theorem Owns.dropB{st:St}{h1:ao}(r:st.h.take h1.length=h1)(ht:mG h1.length st.t)(C:er h1.length h1){g:Gh}{a:Act}{w:ab}(hs:Sim g st a w){bl:Pos->Option Nat}(e:Owns g st a w bl):∃i,Owns {g with n:=h1.length} ⟨st.t,h1⟩ a w i∧∀p c,i p=some c->bl p=some c:=by
 have hle:h1.length<=g.n:=by rw[hs.n,←r,Vy];exact ZF _ _
 have j:∀b xs,h1[b]?=some xs->st.h[b]?=some xs:=λb xs hx=>by
  have m:=(Vp.1 hx).1;rw[←r,Wg,Vt (by exact m)]at hx;exact hx
 have d:∀p c,(match p with|.slot s=>bl (.slot s)|.cell b k=>if b<h1.length then bl (.cell b k)else none)=some c->bl p=some c:=by
  intro p c hp;cases p with
  |slot s=>exact hp
  |cell b k=>
   simp only at hp;split at hp;exact hp;cases hp
 refine⟨λp=>match p with|.slot s=>bl (.slot s)|.cell b k=>if b<h1.length then bl (.cell b k)else none,{slots:=λs=>aO.below (ld ht s) (e.slots s),blocks:=λb xs hx=>?_,inj:=λp q c hp D=>e.inj p q c (d p c hp) (d q c D),free:=λp c hp=>?_},d⟩;obtain⟨arr,T,u,v,o⟩:=e.blocks b xs (j b xs hx);refine⟨arr,T,u,v,λk x f=>?_⟩;simp only[Vt (Vp.1 hx).1];exact⟨(o k x f).1,aO.below (mH (mI C b xs hx) k x f) (o k x f).2⟩;obtain⟨y,z,A,B⟩:=e.free p c (d p c hp);exact⟨y,z,A,λb l=>B b (WK l hle)⟩
def P9(P:aa)(rs:List ResultVar)(h:ao)(R:SV->Prop)(st:St):Prop:=
 (gY P st rs).2.2∧(gY P st rs).2.1.h.take h.length=h∧∃y,frzQ (gY P st rs).2.1.h h.length (nT (gY P st rs).1) y∧R (.pv y)
theorem LC{P:aa}(bad:bJ){f:az}{fn:Func}{c:Code}{args:aD}{h:ao}{R:SV->Prop}(rs:List ResultVar)(aP:P.follows .mixedOrders=true)(Y:P.funcs[f]?=some fn)(X:AC P h.length bad c (lM (P9 P rs h R)) ⟨gX 0 args,h⟩)(d:aV P f=true:=by kernel_rfl)(A:fn.body=some c:=by rfl)(Z:fn.results=rs.toArray:=by rfl)(K:pn fn.ntmps bad c=true:=by kernel_rfl)(hn:args.length<=fn.ntmps:=by exact WC rfl):aI P f args h (λr h'=>h'=h∧R r):=by
 refine⟨d,λg st a w vs hs M hv=>?_⟩;have i:er h.length h:=by have:=hs.belH;rwa [hs.n,M]at this
 have key:=oR (R:=λr h'=>h'=h∧R r) aP Y d A K hn X λg' st' a' w' hk J s'=>?_;exact key.2 g st a w vs hs M hv;obtain⟨k1,L,y,k3,k4⟩:=hk;obtain⟨g2,O,l2,n2,s2,ab,C,V⟩:=oQ rs s' k1;obtain⟨v,E,W⟩:=i7 Z (lO rs st') C V;have q:=s2.weak (st':=⟨[],(gY P st' rs).2.1.h⟩) rfl λs=>.inr rfl;obtain⟨t4,s4⟩:=Sim.dropB (st:=⟨[],(gY P st' rs).2.1.h⟩) (h1:=h) L (ht:=trivial) i (hs:=q) (h0:=by rw[O.n0];exact J);have H:h.length<=g2.n:=by rw[q.n,←L,Vy];exact ZF _ _
 obtain⟨Q,m⟩:=q.own;obtain⟨S,F,u⟩:=Owns.dropB (st:=⟨[],(gY P st' rs).2.1.h⟩) (h1:=h) L (ht:=trivial) i q m;obtain⟨D,z⟩:∃D:Nat->Prop,∀c,D c↔∃b,h.length<=b∧b<g2.n∧g2.μ b=c:=⟨_,λ_=>Iff.rfl⟩;have:DecidablePred D:=λ_=>Classical.propDecidable _;obtain⟨t5,N⟩:=s4.moreI D
  (λ c e => by
   obtain⟨b,h1,l,t⟩:=(z c).1 e;subst t;exact(q.μI b l).2)
  (λ b A e => by
   obtain⟨b',h1,l,t⟩:=(z _).1 e;have:=q.μinj b' b l (WK A H) t;subst this;exact absurd A (Nat.not_lt.2 h1)) F
  (λ p c hp e => by
   obtain⟨b',h1,l,t⟩:=(z _).1 e;exact(m.free p c (u p c hp)).2.2.2 b' l t)
 obtain⟨B,G⟩:=N.own;refine⟨v,_,_,_,B,none,E,(O.trans t4).trans t5,N,G,⟨rfl,k4⟩,⟨rfl,?_⟩,rfl,λc e=>by cases e⟩;refine Fit.frzQ (g:=g2) (g2:={{g2 with n:=h.length}with I:=λc=>if D c then w'.heap[c]?else g2.I c}) (w:=w') (k:=h.length) (h:=(gY P st' rs).2.1.h) ⟨λc o e=>?_,Vu _,Vu _,λ_ _=>rfl⟩ (λb h1 l=>?_) (λb xs hx=>?_) _ y v k3 W;show(if D c then w'.heap[c]?else g2.I c)=some o;split;exact q.I c o e;exact e;show(if D (g2.μ b)then w'.heap[g2.μ b]?else g2.I (g2.μ b))=_;rw[Vt ((z _).2 ⟨b,h1,l,rfl⟩)];obtain⟨arr,T,U,C,E⟩:=m.blocks b xs hx;exact⟨arr,T,U,C.1,λj x hj=>(E j _ hj).2.2⟩
attribute [simp] P9
end
end Go.AX
