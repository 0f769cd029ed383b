/-
  AX, part Fz: a call's own blocks, let go, are read from then on and written no more.
-/
import Derived.Test.YtepodadinenmnaaGreatAxOw
namespace Go.AX
def aM(l:List Int):List SV:=l.map λx=>.pv (.lit (.int .i64 x))
def Ej(l:List Int):List (List PV):=l.map λx=>[.lit (.int .i64 x)]
mutual
def frzQ(h:List (List SV))(k:Nat):PV->PV->Prop
  |.bsl b e off n _,y=>e=1∧k<=b∧∃l pre suf,y=.seq false 1 (Ej l)∧n=l.length∧h[b]?=some (pre++aM l++suf)∧pre.length=off
  |.tup xs,y=>∃ys,y=.tup ys∧zU h k xs ys
  |.seq nw e rows,y=>∃rows',y=.seq nw e rows'∧Ek h k rows rows'
  |.bot,y=>y=.bot
  |.lit v,y=>y=.lit v
  |.agg xs,y=>y=.agg xs∧bR k xs
  |.iptr e rows i j,y=>y=.iptr e rows i j∧bI k rows
  |.ptr b off,y=>y=.ptr b off∧b<k
  |.fn f xs ys,y=>y=.fn f xs ys∧bR k xs∧bR k ys
  |.amap nw es,y=>y=.amap nw es∧gt k es
  |.ifc t x,y=>y=.ifc t x∧x.bel k
def zU(h:List (List SV))(k:Nat):List PV->List PV->Prop
  |[],ys=>ys=[]
  |x::xs,ys=>∃y r,ys=y::r∧frzQ h k x y∧zU h k xs r
def Ek(h:List (List SV))(k:Nat):List (List PV)->List (List PV)->Prop
  |[],rs=>rs=[]
  |x::xs,rs=>∃y r,rs=y::r∧zU h k x y∧Ek h k xs r
end
theorem tL(G:Gh):∀l:List Int,ay G 1 (Ej l) (l.map λx=>.int .i64 x)
 |[]=>rfl
 |z::zs=>⟨[.int .i64 z],zs.map λx=>.int .i64 x,rfl,⟨rfl,λv a=>by simp at a;subst a;rfl⟩,⟨_,_,rfl,rfl,rfl⟩,tL G zs⟩
section
variable {g g2 : Gh} {w : World} {h : List (List SV)} {k : Nat}
mutual
theorem Fit.frzQ(hle:Gh.le {g with n:=k} g2)(hB:∀b,k<=b->b<g.n->g2.I (g.μ b)=w.heap[g.μ b]?)
    (hblk:∀b xs,h[b]?=some xs->∃arr T,w.heap[g.μ b]?=some (.cells arr T (0,0))∧arr.size=xs.length∧∀(j:Nat) x,xs[j]?=some (.pv x)->Fit g x (arr.getD j undef)):∀(x y:PV)(v:Value),frzQ h k x y->Fit g x v->Fit g2 y v
  |.bsl b e off n cap,y,v,⟨he,hk,l,pre,suf,hy,hn,hb,ho⟩,⟨h1,h2,h3⟩=>by
    subst he hy hn ho
    obtain⟨arr,T,a1,a2,a3⟩:=hblk b _ hb
    have hel:∀i (_:i<l.length),arr.toList[pre.length+i]?=some (.int .i64 (l[i])):=λi hi=>by
      have hx:(pre++aM l++suf)[pre.length+i]?=some (.pv (.lit (.int .i64 l[i]))):=by
        rw[Tv,Tk (by omega),Vd,SZ (by unfold aM;simpa using hi)]
        unfold aM
        rw[Tm,SR hi]
        rfl
      have hf:arr.getD (pre.length+i) undef=.int .i64 l[i]:=a3 _ _ hx
      have hlt:pre.length+i<arr.size:=by
        rw[a2];exact(SQ.1 hx).1
      rw[S4,Ti hlt,←hf]
      simp[Array.getD,hlt]
    refine⟨_,cap,by rw[h3];simp[Ej],by simpa[Ej]using h2,.inr ⟨g.μ b,pre.length,arr,T,(0,0),l.map λx=>.int .i64 x,rfl,by rw[hB b hk h1,a1],λhh=>(by cases hh),tL g2 l,?_⟩⟩
    have htk:(l.map λx=>Value.int .i64 x)=(arr.toList.drop pre.length).take l.length:=by
      apply Uf
      intro i
      rw[TY,Ub,Tm]
      by_cases hi:i<l.length
      · rw[SX hi,hel i hi,SR hi];rfl
      · rw[SU hi,TL (by omega)];rfl
    rw[htk]
    exact Wm _ _
  |.tup xs,y,v,⟨ys,hy,hq⟩,⟨vs,h1,h2⟩=>by
    subst hy
    exact⟨vs,h1,ak.frzQ hle hB hblk xs ys _ hq h2⟩
  |.seq nw e rows,y,v,⟨rows',hy,hq⟩,⟨p,cap,h1,hc,h2⟩=>by
    subst hy
    have hlen:=vY rows rows' hq
    refine⟨p,cap,by rw[hlen];exact h1,by rw[hlen];exact hc,?_⟩
    rcases h2 with rfl|⟨c,off,arr,T,fz,vs,a,b,n,r,q⟩
    · exact .inl hq
    · exact .inr ⟨c,off,arr,T,fz,vs,a,hle.I _ _ b,λhn=>TD hle.B (n hn),ay.frzQ hle hB hblk e rows rows' vs hq r,q⟩
  |.bot,y,v,hq,_=>by
    have:y=.bot:=hq
    subst this;trivial
  |.lit u,y,v,hq,h=>by
    have:y=.lit u:=hq
    subst this;exact h
  |.agg xs,y,v,⟨hy,hb⟩,h=>by
    subst hy
    exact Fit.mono hle _ _ (Fit.below (.agg xs) v hb h)
  |.iptr e rows i j,y,v,⟨hy,hb⟩,h=>by
    subst hy
    exact Fit.mono hle _ _ (Fit.below (.iptr e rows i j) v hb h)
  |.ptr b off,y,v,⟨hy,hb⟩,h=>by
    subst hy
    exact Fit.mono hle _ _ (Fit.below (.ptr b off) v hb h)
  |.fn f xs ys,y,v,⟨hy,hb⟩,h=>by
    subst hy
    exact Fit.mono hle _ _ (Fit.below (.fn f xs ys) v hb h)
  |.amap nw es,y,v,⟨hy,hb⟩,h=>by
    subst hy
    exact Fit.mono hle _ _ (Fit.below (.amap nw es) v hb h)
  |.ifc t x,y,v,⟨hy,hb⟩,h=>by
    subst hy
    exact Fit.mono hle _ _ (Fit.below (.ifc t x) v hb h)
theorem ak.frzQ(hle:Gh.le {g with n:=k} g2)(hB:∀b,k<=b->b<g.n->g2.I (g.μ b)=w.heap[g.μ b]?)
    (hblk:∀b xs,h[b]?=some xs->∃arr T,w.heap[g.μ b]?=some (.cells arr T (0,0))∧arr.size=xs.length∧∀(j:Nat) x,xs[j]?=some (.pv x)->Fit g x (arr.getD j undef)):∀(xs ys:List PV)(vs:List Value),zU h k xs ys->ak g xs vs->ak g2 ys vs
  |[],ys,vs,hq,h=>by
    have:ys=[]:=hq
    subst this;exact h
  |x::xs,ys,vs,⟨y,r,hy,hq,hr⟩,⟨v,r',h1,h2,h3⟩=>by
    subst hy
    exact⟨v,r',h1,Fit.frzQ hle hB hblk x y v hq h2,ak.frzQ hle hB hblk xs r r' hr h3⟩
theorem ay.frzQ(hle:Gh.le {g with n:=k} g2)(hB:∀b,k<=b->b<g.n->g2.I (g.μ b)=w.heap[g.μ b]?)
    (hblk:∀b xs,h[b]?=some xs->∃arr T,w.heap[g.μ b]?=some (.cells arr T (0,0))∧arr.size=xs.length∧∀(j:Nat) x,xs[j]?=some (.pv x)->Fit g x (arr.getD j undef)) (e:Nat):∀(xs ys:List (List PV))(vs:List Value),Ek h k xs ys->ay g e xs vs->ay g2 e ys vs
  |[],ys,vs,hq,h=>by
    have:ys=[]:=hq
    subst this;exact h
  |x::xs,ys,vs,⟨y,r,hy,hq,hr⟩,⟨v1,v2,h1,h2,h3,h4⟩=>by
    subst hy
    exact⟨v1,v2,h1,⟨(vX x y hq).trans h2.1,h2.2⟩,ak.frzQ hle hB hblk x y v1 hq h3,ay.frzQ hle hB hblk e xs r v2 hr h4⟩
theorem vX:∀(xs ys:List PV),zU h k xs ys->ys.length=xs.length
  |[],ys,hq=>by
    have:ys=[]:=hq
    subst this;rfl
  |x::xs,ys,⟨y,r,hy,hq,hr⟩=>by
    subst hy
    rw[Ty,Ty,vX xs r hr]
theorem vY:∀(xs ys:List (List PV)),Ek h k xs ys->ys.length=xs.length
  |[],ys,hq=>by
    have:ys=[]:=hq
    subst this;rfl
  |x::xs,ys,⟨y,r,hy,hq,hr⟩=>by
    subst hy
    rw[Ty,Ty,vY xs r hr]
end
end
theorem Owns.dropB{st:St}{h1:List (List SV)}(r:st.h.take h1.length=h1)(ht:jI h1.length st.t)(C:dO h1.length h1){g:Gh}{a:Act}{w:World}(hs:Sim g st a w){bl:Pos->Option Nat}(e:Owns g st a w bl):∃i,Owns {g with n:=h1.length} ⟨st.t,h1⟩ a w i∧∀p c,i p=some c->bl p=some c:=by
 have hle:h1.length<=g.n:=by rw[hs.n,←r,S6];exact WX _ _
 have j:∀b xs,h1[b]?=some xs->st.h[b]?=some xs:=λb xs hx=>by
  have m:=(SQ.1 hx).1;rw[←r,TY,SX (by exact m)]at hx;exact hx
 have d:∀p c,(match p with|.slot s=>bl (.slot s)|.cell b k=>if b<h1.length then bl (.cell b k)else none)=some c->bl p=some c:=by
  intro p c hp;cases p with
  |slot s=>exact hp
  |cell b k=>
   simp only at hp;split at hp
   .exact hp
   .cases hp
 refine⟨λp=>match p with|.slot s=>bl (.slot s)|.cell b k=>if b<h1.length then bl (.cell b k)else none,{slots:=λs=>az.below (gP ht s) (e.slots s),blocks:=λb xs hx=>?_,inj:=λp q c hp D=>e.inj p q c (d p c hp) (d q c D),free:=λp c hp=>?_},d⟩
 .obtain⟨arr,T,u,v,o⟩:=e.blocks b xs (j b xs hx);refine⟨arr,T,u,v,λk x f=>?_⟩;simp only[SX (SQ.1 hx).1];exact⟨(o k x f).1,az.below (iL (iM C b xs hx) k x f) (o k x f).2⟩
 .obtain⟨y,z,A,B⟩:=e.free p c (d p c hp);exact⟨y,z,A,λb l=>B b (Uk l hle)⟩
def QV(P:Program)(rs:List ResultVar)(h:List (List SV))(R:SV->Prop)(st:St):Prop:=
 (gQ P st rs).2.2∧(gQ P st rs).2.1.h.take h.length=h∧∃y,frzQ (gQ P st rs).2.1.h h.length (mD (gQ P st rs).1) y∧R (.pv y)
attribute [simp] QV
end Go.AX