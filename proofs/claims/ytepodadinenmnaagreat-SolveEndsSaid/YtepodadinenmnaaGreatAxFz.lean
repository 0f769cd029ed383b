/-
  AX, part Fz: a call's own blocks, let go, are read from then on and written no more.
-/
import Derived.Test.YtepodadinenmnaaGreatAxIs
namespace Go.AX
def aH(l:List Int):List SV:=l.map λx=>.pv (.lit (.int .i64 x))
def Ax(l:List Int):List (List PV):=l.map λx=>[.lit (.int .i64 x)]
mutual
def frzQ(h:List (List SV))(k:Nat):PV->PV->Prop
  |.bsl b e off n _,y=>e=1∧k<=b∧∃l pre suf,y=.seq false 1 (Ax l)∧n=l.length∧h[b]?=some (pre++aH l++suf)∧pre.length=off
  |.tup xs,y=>∃ys,y=.tup ys∧wC h k xs ys
  |.seq nw e rows,y=>∃rows',y=.seq nw e rows'∧Ay h k rows rows'
  |.bot,y=>y=.bot
  |.lit v,y=>y=.lit v
  |.agg xs,y=>y=.agg xs∧bR k xs
  |.iptr e rows i j,y=>y=.iptr e rows i j∧bS k rows
  |.ptr b off,y=>y=.ptr b off∧b<k
  |.fn f xs ys,y=>y=.fn f xs ys∧bR k xs∧bR k ys
  |.amap nw es,y=>y=.amap nw es∧fw k es
  |.ifc t x,y=>y=.ifc t x∧x.bel k
def wC(h:List (List SV))(k:Nat):List PV->List PV->Prop
  |[],ys=>ys=[]
  |x::xs,ys=>∃y r,ys=y::r∧frzQ h k x y∧wC h k xs r
def Ay(h:List (List SV))(k:Nat):List (List PV)->List (List PV)->Prop
  |[],rs=>rs=[]
  |x::xs,rs=>∃y r,rs=y::r∧wC h k x y∧Ay h k xs r
end
theorem q9(G:Gh):∀l:List Int,av G 1 (Ax l) (l.map λx=>.int .i64 x)
 |[]=>rfl
 |z::zs=>⟨[.int .i64 z],zs.map λx=>.int .i64 x,rfl,⟨rfl,λv a=>by simp at a;subst a;rfl⟩,⟨_,_,rfl,rfl,rfl⟩,q9 G zs⟩
section
variable {g g2 : Gh} {w : World} {h : List (List SV)} {k : Nat}
mutual
theorem Fit.frzQ(hle:Gh.le {g with n:=k} g2)(hB:∀b,k<=b->b<g.n->g2.I (g.μ b)=w.heap[g.μ b]?)
    (hblk:∀b xs,h[b]?=some xs->∃arr T,w.heap[g.μ b]?=some (.cells arr T (0,0))∧arr.size=xs.length∧∀(j:Nat) x,xs[j]?=some (.pv x)->Fit g x (arr.getD j undef)):∀(x y:PV)(v:Value),frzQ h k x y->Fit g x v->Fit g2 y v
  |.bsl b e off n cap,y,v,⟨he,hk,l,pre,suf,hy,hn,hb,ho⟩,⟨h1,h2,h3⟩=>by
    subst he hy hn ho
    obtain⟨arr,T,a1,a2,a3⟩:=hblk b _ hb
    have hel:∀i (_:i<l.length),arr.toList[pre.length+i]?=some (.int .i64 (l[i])):=λi hi=>by
      have hx:(pre++aH l++suf)[pre.length+i]?=some (.pv (.lit (.int .i64 l[i]))):=by
        rw[OG,Ot (by omega),Qm,Oa (by unfold aH;simpa using hi)]
        unfold aH
        rw[Oq,N6 hi]
        rfl
      have hf:arr.getD (pre.length+i) undef=.int .i64 l[i]:=a3 _ _ hx
      have hlt:pre.length+i<arr.size:=by
        rw[a2];exact(N5.1 hx).1
      rw[Ob,Ox hlt,←hf]
      simp[Array.getD,hlt]
    refine⟨_,cap,by rw[h3];simp[Ax],by simpa[Ax]using h2,.inr ⟨g.μ b,pre.length,arr,T,(0,0),l.map λx=>.int .i64 x,rfl,by rw[hB b hk h1,a1],λhh=>(by cases hh),q9 g2 l,?_⟩⟩
    have htk:(l.map λx=>Value.int .i64 x)=(arr.toList.drop pre.length).take l.length:=by
      apply Px
      intro i
      rw[O6,Pp,Oq]
      by_cases hi:i<l.length
      · rw[N9 hi,hel i hi,N6 hi];rfl
      · rw[N8 hi,ON (by omega)];rfl
    rw[htk]
    exact Ri _ _
  |.tup xs,y,v,⟨ys,hy,hq⟩,⟨vs,h1,h2⟩=>by
    subst hy
    exact⟨vs,h1,ah.frzQ hle hB hblk xs ys _ hq h2⟩
  |.seq nw e rows,y,v,⟨rows',hy,hq⟩,⟨p,cap,h1,hc,h2⟩=>by
    subst hy
    have hlen:=tc rows rows' hq
    refine⟨p,cap,by rw[hlen];exact h1,by rw[hlen];exact hc,?_⟩
    rcases h2 with rfl|⟨c,off,arr,T,fz,vs,a,b,n,r,q⟩
    · exact .inl hq
    · exact .inr ⟨c,off,arr,T,fz,vs,a,hle.I _ _ b,λhn=>OM hle.B (n hn),av.frzQ hle hB hblk e rows rows' vs hq r,q⟩
  |.bot,y,v,hq,_=>by
    have:y=.bot:=hq
    subst this;trivial
  |.lit u,y,v,hq,h=>by
    have:y=.lit u:=hq
    subst this;exact h
  |.agg xs,y,v,⟨hy,hb⟩,h=>by
    subst hy
    exact Fit.mono hle _ _ (Fit.below (.agg xs) v hb h)
  |.iptr e rows i j,y,v,⟨hy,hb⟩,h=>by
    subst hy
    exact Fit.mono hle _ _ (Fit.below (.iptr e rows i j) v hb h)
  |.ptr b off,y,v,⟨hy,hb⟩,h=>by
    subst hy
    exact Fit.mono hle _ _ (Fit.below (.ptr b off) v hb h)
  |.fn f xs ys,y,v,⟨hy,hb⟩,h=>by
    subst hy
    exact Fit.mono hle _ _ (Fit.below (.fn f xs ys) v hb h)
  |.amap nw es,y,v,⟨hy,hb⟩,h=>by
    subst hy
    exact Fit.mono hle _ _ (Fit.below (.amap nw es) v hb h)
  |.ifc t x,y,v,⟨hy,hb⟩,h=>by
    subst hy
    exact Fit.mono hle _ _ (Fit.below (.ifc t x) v hb h)
theorem ah.frzQ(hle:Gh.le {g with n:=k} g2)(hB:∀b,k<=b->b<g.n->g2.I (g.μ b)=w.heap[g.μ b]?)
    (hblk:∀b xs,h[b]?=some xs->∃arr T,w.heap[g.μ b]?=some (.cells arr T (0,0))∧arr.size=xs.length∧∀(j:Nat) x,xs[j]?=some (.pv x)->Fit g x (arr.getD j undef)):∀(xs ys:List PV)(vs:List Value),wC h k xs ys->ah g xs vs->ah g2 ys vs
  |[],ys,vs,hq,h=>by
    have:ys=[]:=hq
    subst this;exact h
  |x::xs,ys,vs,⟨y,r,hy,hq,hr⟩,⟨v,r',h1,h2,h3⟩=>by
    subst hy
    exact⟨v,r',h1,Fit.frzQ hle hB hblk x y v hq h2,ah.frzQ hle hB hblk xs r r' hr h3⟩
theorem av.frzQ(hle:Gh.le {g with n:=k} g2)(hB:∀b,k<=b->b<g.n->g2.I (g.μ b)=w.heap[g.μ b]?)
    (hblk:∀b xs,h[b]?=some xs->∃arr T,w.heap[g.μ b]?=some (.cells arr T (0,0))∧arr.size=xs.length∧∀(j:Nat) x,xs[j]?=some (.pv x)->Fit g x (arr.getD j undef)) (e:Nat):∀(xs ys:List (List PV))(vs:List Value),Ay h k xs ys->av g e xs vs->av g2 e ys vs
  |[],ys,vs,hq,h=>by
    have:ys=[]:=hq
    subst this;exact h
  |x::xs,ys,vs,⟨y,r,hy,hq,hr⟩,⟨v1,v2,h1,h2,h3,h4⟩=>by
    subst hy
    exact⟨v1,v2,h1,⟨(tb x y hq).trans h2.1,h2.2⟩,ah.frzQ hle hB hblk x y v1 hq h3,av.frzQ hle hB hblk e xs r v2 hr h4⟩
theorem tb:∀(xs ys:List PV),wC h k xs ys->ys.length=xs.length
  |[],ys,hq=>by
    have:ys=[]:=hq
    subst this;rfl
  |x::xs,ys,⟨y,r,hy,hq,hr⟩=>by
    subst hy
    rw[OC,OC,tb xs r hr]
theorem tc:∀(xs ys:List (List PV)),Ay h k xs ys->ys.length=xs.length
  |[],ys,hq=>by
    have:ys=[]:=hq
    subst this;rfl
  |x::xs,ys,⟨y,r,hy,hq,hr⟩=>by
    subst hy
    rw[OC,OC,tc xs r hr]
end
end
theorem Owns.dropB{st:St}{h1:List (List SV)}(r:st.h.take h1.length=h1)(ht:iK h1.length st.t)(C:dy h1.length h1){g:Gh}{a:Act}{w:World}(hs:Sim g st a w){bl:Pos->Option Nat}(e:Owns g st a w bl):∃i,Owns {g with n:=h1.length} ⟨st.t,h1⟩ a w i∧∀p c,i p=some c->bl p=some c:=by
 have hle:h1.length<=g.n:=by rw[hs.n,←r,Oe];exact Sr _ _
 have j:∀b xs,h1[b]?=some xs->st.h[b]?=some xs:=λb xs hx=>by
  have m:=(N5.1 hx).1;rw[←r,O6,N9 (by exact m)]at hx;exact hx
 have d:∀p c,(match p with|.slot s=>bl (.slot s)|.cell b k=>if b<h1.length then bl (.cell b k)else none)=some c->bl p=some c:=by
  intro p c hp;cases p with
  |slot s=>exact hp
  |cell b k=>
   simp only at hp;split at hp
   .exact hp
   .cases hp
 refine⟨λp=>match p with|.slot s=>bl (.slot s)|.cell b k=>if b<h1.length then bl (.cell b k)else none,{slots:=λs=>aw.below (fX ht s) (e.slots s),blocks:=λb xs hx=>?_,inj:=λp q c hp D=>e.inj p q c (d p c hp) (d q c D),free:=λp c hp=>?_},d⟩
 .obtain⟨arr,T,u,v,o⟩:=e.blocks b xs (j b xs hx);refine⟨arr,T,u,v,λk x f=>?_⟩;simp only[N9 (N5.1 hx).1];exact⟨(o k x f).1,aw.below (gN (gO C b xs hx) k x f) (o k x f).2⟩
 .obtain⟨y,z,A,B⟩:=e.free p c (d p c hp);exact⟨y,z,A,λb l=>B b (Ph l hle)⟩
def LM(P:Program)(rs:List ResultVar)(h:List (List SV))(R:SV->Prop)(st:St):Prop:=
 (fY P st rs).2.2∧(fY P st rs).2.1.h.take h.length=h∧∃y,frzQ (fY P st rs).2.1.h h.length (la (fY P st rs).1) y∧R (.pv y)
attribute [simp] LM
end Go.AX