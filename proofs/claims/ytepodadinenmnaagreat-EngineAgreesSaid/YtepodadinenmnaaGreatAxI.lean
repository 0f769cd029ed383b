/-
  AX, part A: what a state of a walk is, said of plain data; what it says of the machine's state.
  AX, part B: operations that only read: what they yield, of plain data.
  AX, part C: operations that read memory.
  AX, part D: the other operations that only read; what any of them yields.
  AX, part E: what changes a walk's state.
  AX, part V: operations that only read, more of them: structs that are built, indexes, functions that are made, the least and the greatest, maps that are looked into.
  AX, part F: what any operation that only reads yields; slots and blocks in a run of operations.
  AX, part G: operations that make memory, or write it.
  AX, part H: slices that are made, and grow.
  AX, part I: calls of functions that change nothing.
-/
import Derived.WalkKit
import Derived.MapKept
import Derived.ChangeKeysEq
import Derived.WalkSpells
namespace Go.AX
inductive PV where
  |bot
  |lit (v:Value)
  |agg (xs:List PV)
  |tup (xs:List PV)
  |seq (nw:Bool) (e:Nat) (rows:List (List PV))
  |iptr (e:Nat) (rows:List (List PV)) (i k:Nat)
  |ptr (b off:Nat)
  |bsl (b e off n cap:Nat)
  |fn (f:Fn) (first cap:List PV)
  |amap (nw:Bool) (es:List (Int×PV))
  |ifc (t:TypeId) (x:PV)
inductive Pos where
  |slot (s:Nat)
  |cell (b k:Nat)
  deriving DecidableEq
inductive SV where
  |pv (x:PV)
  |own (nw:Bool) (e:Nat) (rows:List (List PV))
  |omap (nw:Bool) (es:List (Int×PV))
  |al (p:Pos)
  |loc (p:Pos) (lo hi:Nat)
  |sptr (p:Pos) (i k:Nat)
  |agl (xs:List (PV×Option Pos))
  |opt (c:Prop) (x:SV)
structure St where
  t:List (Nat×SV)
  h:List (List SV)
def bX(w:World):Os×(Nat→Question→Nat)×Array (Nat×ByteArray):=(w.os,w.tape,w.output)
structure Gh where
  I:Nat→Option Obj
  F:Nat→Option Obj
  B:Nat
  μ:Nat→Nat
  n:Nat
  n0:Nat
  N:Nat
  env:Os×(Nat→Question→Nat)×Array (Nat×ByteArray)
mutual
def Fit(g:Gh):PV→Value→Prop
  |.bot,_=>True
  |.lit x,v=>v=x
  |.agg xs,v=>∃vs:Array Value,v=.agg vs∧ai g xs vs.toList
  |.tup xs,v=>∃vs:Array Value,v=.tuple vs∧ai g xs vs.toList
  |.seq nw e rows,v=>∃p cap,v=.slice p rows.length cap∧rows.length≤cap∧(rows=[]∨∃c off arr T fz vs,p=some ⟨c,off,none⟩∧g.I c=some (.cells arr T fz)∧(nw=true→g.B≤c)∧au g e rows vs∧vs<+:arr.toList.drop off)
  |.iptr e rows i k,v=>∃c off arr T fz vs,v=.pointer (some ⟨c,off+i*e+k,none⟩)∧g.I c=some (.cells arr T fz)∧au g e rows vs∧vs<+:arr.toList.drop off
  |.ptr b off,v=>b<g.n∧v=.pointer (some ⟨g.μ b,off,none⟩)
  |.bsl b _ off n cap,v=>b<g.n∧n≤cap∧v=.slice (some ⟨g.μ b,off,none⟩) n cap
  |.fn f first cap,v=>∃a b:Array Value,v=.func f a b∧ai g first a.toList∧ai g cap b.toList
  |.amap nw es,v=>∃r entries clock,v=.map (some r)∧g.I r=some (.map entries clock)∧(nw=true→g.B≤r)∧bm g es entries.toList∧MapKept.Stamped entries clock
  |.ifc t x,v=>∃y,v=.iface t y∧Fit g x y
def ai(g:Gh):List PV→List Value→Prop
  |[],vs=>vs=[]
  |x::xs,vs=>∃v r,vs=v::r∧Fit g x v∧ai g xs r
def au(g:Gh)(e:Nat):List (List PV)→List Value→Prop
  |[],vs=>vs=[]
  |row::rows,vs=>∃v1 v2,vs=v1++v2∧(row.length=e∧∀v∈v1,v.oneCell'=true)∧ai g row v1∧au g e rows v2
def bm(g:Gh):List (Int×PV)→List MapEntry→Prop
  |[],es=>es=[]
  |(k,x)::xs,es=>∃m r,es=m::r∧m.key=.int .i64 k∧Fit g x m.val∧bm g xs r
end
structure Gh.le (g g':Gh):Prop where
  I:∀c o,g.I c=some o→g'.I c=some o
  B:g'.B≤g.B
  n:g.n≤g'.n
  μ:∀b,b<g.n→g'.μ b=g.μ b
theorem Gh.le.refl(g:Gh):g.le g:=⟨fun _ _ h=>h,Nat.le_refl _,Nat.le_refl _,fun _ _=>rfl⟩
mutual
theorem Fit.mono{g g':Gh}(hl:g.le g'):∀(x:PV)(v:Value),Fit g x v→Fit g' x v
  |.bot,_,_=>trivial
  |.lit _,_,h=>h
  |.agg xs,v,⟨vs,h1,h2⟩=>⟨vs,h1,ai.mono hl xs _ h2⟩
  |.tup xs,v,⟨vs,h1,h2⟩=>⟨vs,h1,ai.mono hl xs _ h2⟩
  |.seq nw e rows,v,⟨p,cap,h1,hc,h2⟩=>⟨p,cap,h1,hc,h2.imp id fun⟨c,off,arr,T,fz,vs,a,b,n,r,q⟩=>⟨c,off,arr,T,fz,vs,a,hl.I _ _ b,fun hn=>Nat.le_trans hl.B (n hn),au.mono hl e rows vs r,q⟩⟩
  |.iptr e rows i k,v,⟨c,off,arr,T,fz,vs,a,b,r,q⟩=>⟨c,off,arr,T,fz,vs,a,hl.I _ _ b,au.mono hl e rows vs r,q⟩
  |.ptr b off,v,⟨h1,h2⟩=>⟨Nat.lt_of_lt_of_le h1 hl.n,by rw[hl.μ b h1];exact h2⟩
  |.bsl b _ off _ _,v,⟨h1,h2⟩=>⟨Nat.lt_of_lt_of_le h1 hl.n,by rw[hl.μ b h1];exact h2⟩
  |.fn f first cap,v,⟨a,b,h1,h2,h3⟩=>⟨a,b,h1,ai.mono hl first _ h2,ai.mono hl cap _ h3⟩
  |.amap nw es,v,⟨r,en,ck,a,b,n,q⟩=>⟨r,en,ck,a,hl.I _ _ b,fun hn=>Nat.le_trans hl.B (n hn),bm.mono hl es _ q.1,q.2⟩
  |.ifc t x,v,⟨y,h1,h2⟩=>⟨y,h1,Fit.mono hl x y h2⟩
theorem ai.mono{g g':Gh}(hl:g.le g'):∀(xs:List PV)(vs:List Value),ai g xs vs→ai g' xs vs
  |[],_,h=>h
  |x::xs,vs,⟨v,r,h1,h2,h3⟩=>⟨v,r,h1,Fit.mono hl x v h2,ai.mono hl xs r h3⟩
theorem au.mono{g g':Gh}(hl:g.le g')(e:Nat):∀(rows:List (List PV))(vs:List Value),au g e rows vs→au g' e rows vs
  |[],_,h=>h
  |row::rows,vs,⟨v1,v2,h1,h2,h3,h4⟩=>⟨v1,v2,h1,h2,ai.mono hl row v1 h3,au.mono hl e rows v2 h4⟩
theorem bm.mono{g g':Gh}(hl:g.le g'):∀(es:List (Int×PV))(en:List MapEntry),bm g es en→bm g' es en
  |[],_,h=>h
  |(k,x)::es,en,⟨m,r,h1,h2,h3,h4⟩=>⟨m,r,h1,h2,Fit.mono hl x m.val h3,bm.mono hl es r h4⟩
end
theorem ai.length{g:Gh}:∀{xs:List PV}{vs:List Value},ai g xs vs→vs.length=xs.length
 |[],_,h=>by simp only[ai]at h;simp[h]
 |_::_,_,⟨_,_,h1,_,h3⟩=>by simp[h1,ai.length h3]
theorem ai.get{g:Gh}:∀{xs:List PV}{vs:List Value}(_:ai g xs vs)(i:Nat)(x:PV),xs[i]?=some x→∃v,vs[i]?=some v∧Fit g x v
 |[],_,_,i,x,h=>by simp at h
 |y::xs,_,⟨v,r,h1,h2,h3⟩,0,x,h=>by simp at h;subst h;exact⟨v,by simp[h1],h2⟩
 |y::xs,_,⟨v,r,h1,h2,h3⟩,i+1,x,h=>by
  simp at h;obtain⟨v',e1,e2⟩:=ai.get h3 i x h;exact⟨v',by simp[h1,e1],e2⟩
theorem ai.append{g:Gh}:∀{xs ys:List PV}{vs us:List Value},ai g xs vs→ai g ys us→ai g (xs++ys) (vs++us)
 |[],_,_,_,h,h'=>by simp only[ai]at h;subst h;exact h'
 |_::_,_,_,_,⟨v,r,h1,h2,h3⟩,h'=>⟨v,_,by simp[h1],h2,ai.append h3 h'⟩
theorem ai.split{g:Gh}:∀{xs ys:List PV}{vs:List Value},ai g (xs++ys) vs→∃v1 v2,vs=v1++v2∧ai g xs v1∧ai g ys v2
 |[],_,vs,h=>⟨[],vs,rfl,rfl,h⟩
 |_::_,_,_,⟨v,r,h1,h2,h3⟩=>by
  obtain⟨v1,v2,e,a,b⟩:=ai.split h3;exact⟨v::v1,v2,by simp[h1,e],⟨v,v1,rfl,h2,a⟩,b⟩
theorem au.length{g:Gh}{e:Nat}:∀{rows:List (List PV)}{vs:List Value},au g e rows vs→vs.length=rows.length*e
 |[],_,h=>by simp only[au]at h;simp[h]
 |row::rows,_,⟨v1,v2,h1,h2,h3,h4⟩=>by
  rw[h1,List.length_append,h3.length,h2.1,au.length h4,List.length_cons,Nat.succ_mul];omega
theorem au.get{g:Gh}{e:Nat}:∀{rows:List (List PV)}{vs:List Value}(_:au g e rows vs)(i:Nat)(row:List PV),rows[i]?=some row→
 row.length=e∧∃a b c,vs=a++b++c∧a.length=i*e∧ai g row b
 |[],_,_,i,row,h=>by simp at h
 |r0::rows,_,⟨v1,v2,h1,h2,h3,h4⟩,0,row,h=>by
  simp at h;subst h;exact⟨h2.1,[],v1,v2,by simp[h1],by simp,h3⟩
 |r0::rows,_,⟨v1,v2,h1,h2,h3,h4⟩,i+1,row,h=>by
  simp at h;obtain⟨he,a,b,c,e1,e2,e3⟩:=au.get h4 i row h;exact⟨he,v1++a,b,c,by simp[h1,e1],by rw[List.length_append,h3.length,h2.1,e2,Nat.succ_mul];omega,e3⟩
theorem au.append{g:Gh}{e:Nat}:∀{xs ys:List (List PV)}{vs us:List Value},au g e xs vs→au g e ys us→au g e (xs++ys) (vs++us)
 |[],_,_,_,h,h'=>by simp only[au]at h;subst h;exact h'
 |_::_,_,_,_,⟨v1,v2,h1,h2,h3,h4⟩,h'=>⟨v1,_,by simp[h1],h2,h3,au.append h4 h'⟩
theorem au.split{g:Gh}{e:Nat}:∀{xs ys:List (List PV)}{vs:List Value},au g e (xs++ys) vs→∃v1 v2,vs=v1++v2∧au g e xs v1∧au g e ys v2
 |[],_,vs,h=>⟨[],vs,rfl,rfl,h⟩
 |_::_,_,_,⟨v1,v2,h1,h2,h3,h4⟩=>by
  obtain⟨u1,u2,e1,a,b⟩:=au.split h4;exact⟨v1++u1,u2,by simp[h1,e1],⟨v1,u1,rfl,h2,h3,a⟩,b⟩
theorem au.one{g:Gh}{e:Nat}:∀{rows:List (List PV)}{vs:List Value},au g e rows vs→∀v∈vs,v.oneCell'=true
 |[],_,h=>by simp only[au]at h;subst h;simp
 |_::_,_,⟨v1,v2,h1,h2,_,h4⟩=>by
  subst h1;intro v hv;rcases List.mem_append.1 hv with hv|hv
  ·exact h2.2 v hv
  ·exact au.one h4 v hv
theorem pV{xs ys:List Value}{k:Nat}(h:∀v∈xs,v.oneCell'=true)(h':∀v∈ys,v.oneCell'=true)(n:Nat):∀v∈xs.take k++ys++xs.drop n,v.oneCell'=true:=by
 intro v hv;simp only[List.mem_append]at hv;rcases hv with(hv|hv)|hv
 ·exact h v (List.mem_of_mem_take hv)
 ·exact h' v hv
 ·exact h v (List.mem_of_mem_drop hv)
theorem ez{xs ys:List Value}(h:∀v∈xs,v.oneCell'=true)(h':∀v∈ys,v.oneCell'=true):∀v∈xs++ys,v.oneCell'=true:=fun v hv=>(List.mem_append.1 hv).elim (h v) (h' v)
theorem bm.length{g:Gh}:∀{es:List (Int×PV)}{en:List MapEntry},bm g es en→en.length=es.length
 |[],_,h=>by simp only[bm]at h;simp[h]
 |_::_,_,⟨_,_,h1,_,_,h4⟩=>by simp[h1,bm.length h4]
/-! ### Slots -/
def look:List (Nat×SV)→Nat→SV
 |[],_=>.pv .bot
 |(j,v)::r,k=>if j=k then v else look r k
def aa(st:St):Pos→SV
 |.slot s=>look st.t s
 |.cell b k=>(st.h.getD b []).getD k (.pv .bot)
def JB(g:Gh)(w:World)(nw:Bool)(e:Nat)(rows:List (List PV))(v:Value)(c:Nat):Prop:=
 ∃cap arr T vs,v=.slice (some ⟨c,0,none⟩) rows.length cap∧w.heap[c]?=some (.cells arr T (0,0))∧arr.size=cap*e∧(rows.length≤cap∧cap≤maxLen∧∀v∈arr.toList,v.oneCell'=true)∧au g e rows vs∧vs<+:arr.toList∧(nw=true→g.B≤c)
def JD(g:Gh)(w:World)(nw:Bool)(es:List (Int×PV))(v:Value)(c:Nat):Prop:=
 ∃entries clock,v=.map (some c)∧w.heap[c]?=some (.map entries clock)∧bm g es entries.toList∧(nw=true→g.B≤c)∧MapKept.Stamped entries clock
def av(g:Gh)(w:World):SV→Value→Option Nat→Prop
 |.pv x,v,bl=>bl=none∧Fit g x v
 |.own nw e rows,v,bl=>(bl=none∧rows=[]∧v=.slice none 0 0)∨∃c,bl=some c∧JB g w nw e rows v c
 |.omap nw es,v,bl=>∃c,bl=some c∧JD g w nw es v c
 |.opt c x,v,bl=>bl=none∧(¬c→v=undef)∧(c→av g w x v none)
 |.al _,_,bl=>bl=none
 |.loc _ _ _,_,bl=>bl=none
 |.sptr _ _ _,_,bl=>bl=none
 |.agl xs,v,bl=>bl=none∧∃vs:Array Value,v=.agg vs∧ai g (xs.map (·.1)) vs.toList
def SV.isOwn:SV→Bool
 |.own .. =>true
 |.omap .. =>true
 |_=>false
def SV.inCell:SV→Bool
 |.pv _=>true
 |.own .. =>true
 |.omap .. =>true
 |_=>false
def an(g:Gh)(a:Act)(w:World):Pos→Value
 |.slot s=>a.tmps.getD s undef
 |.cell b k=>match w.heap[g.μ b]?with
  |some (.cells arr _ _)=>arr.getD k undef
  |_=>undef
def bN(g:Gh)(st:St)(a:Act)(w:World):SV→Value→Prop
 |.al p,v=>(aa st p).isOwn=true→v=an g a w p
 |.loc p lo hi,v=>∀nw e rows,aa st p=.own nw e rows→lo≤hi∧hi≤rows.length∧∃q cap,v=.slice q (hi -lo) cap∧hi -lo≤cap∧(lo=hi∨∃c n cp,an g a w p=.slice (some ⟨c,0,none⟩) n cp∧q=some ⟨c,lo*e,none⟩)∧(lo=0→∃n0,an g a w p=.slice q n0 cap)
 |.sptr p i k,v=>∀nw e rows,aa st p=.own nw e rows→∃c n cp,an g a w p=.slice (some ⟨c,0,none⟩) n cp∧v=.pointer (some ⟨c,i*e+k,none⟩)
 |.agl xs,v=>∀(k:Nat)(x:PV)(p:Pos),xs[k]?=some (x,some p)→(aa st p).isOwn=true→∃vs:Array Value,v=.agg vs∧vs[k]?=some (an g a w p)
 |.opt c x,v=>c→bN g st a w x v
 |_,_=>True
structure Owns (g:Gh) (st:St) (a:Act) (w:World) (bl:Pos→Option Nat):Prop where
  slots:∀s,av g w (look st.t s) (a.tmps.getD s undef) (bl (.slot s))
  blocks:∀b xs,st.h[b]?=some xs→∃arr T,w.heap[g.μ b]?=some (.cells arr T (0,0))∧(arr.size=xs.length∧∀v∈arr.toList,v.oneCell'=true)∧
    ∀k x,xs[k]?=some x→x.inCell=true∧av g w x (arr.getD k undef) (bl (.cell b k))
  inj:∀p q c,bl p=some c→bl q=some c→p=q
  free:∀p c,bl p=some c→g.I c=none∧g.F c=none∧c<w.heap.size∧∀b,b<g.n→g.μ b≠c
structure Sim (g:Gh) (st:St) (a:Act) (w:World):Prop where
  size:a.tmps.size=g.N
  defs:a.defers=[]
  env:bX w=g.env
  n:g.n=st.h.length
  n0:g.n0≤g.n
  B:g.B≤w.heap.size
  I:∀c o,g.I c=some o→w.heap[c]?=some o
  F:∀c o,g.F c=some o→w.heap[c]?=some o
  μI:∀b,b<g.n→g.I (g.μ b)=none∧g.F (g.μ b)=none
  μinj:∀b b',b<g.n→b'<g.n→g.μ b=g.μ b'→b=b'
  own:∃bl,Owns g st a w bl
  al:∀s,bN g st a w (look st.t s) (a.tmps.getD s undef)
structure Gh.to (g g':Gh):Prop where
  I:∀c o,g.I c=some o→g'.I c=some o
  F:g'.F=g.F
  B:g'.B=g.B
  n0:g'.n0=g.n0
  N:g'.N=g.N
  env:g'.env=g.env
  n:g.n0≤g'.n
  μ:∀b,b<g.n0→g'.μ b=g.μ b
  FI:∀c,g.F c≠none→g.I c=none→g'.I c=none
theorem Gh.to.trans{a b c:Gh}(h:a.to b)(h':b.to c):a.to c:=
  ⟨fun k o x=>h'.I _ _ (h.I _ _ x),h'.F.trans h.F,h'.B.trans h.B,h'.n0.trans h.n0,h'.N.trans h.N,h'.env.trans h.env,by have:=h'.n;rw[h.n0]at this;exact this,
   fun b hb=>by rw[h'.μ b (by rw[h.n0];exact hb),h.μ b hb],fun c hF hI=>h'.FI c (by rw[h.F];exact hF) (h.FI c hF hI)⟩
end Go.AX
namespace Go.AX
def ev(st:St):Operand→SV
 |.tmp k=>look st.t k
 |.const v=>.pv (.lit v)
 |.func f=>.pv (.lit (.func (.func f) #[] #[]))
 |.global _=>.pv .bot
def Mi(x:Operand):SV→SV
 |.own _ _ _=>match x with|.tmp s=>.al (.slot s)|_=>.pv .bot
 |.omap _ _=>match x with|.tmp s=>.al (.slot s)|_=>.pv .bot
 |.opt _ y=>y
 |.pv p=>.pv p
 |.al p=>.al p
 |.loc p i k=>.loc p i k
 |.sptr p i k=>.sptr p i k
 |.agl xs=>.agl xs
def mv(st:St)(x:Operand):SV:=Mi x (ev st x)
def Mj:SV→Prop
 |.opt c _=>c
 |.own _ _ _=>True
 |.omap _ _=>True
 |.pv _=>True
 |.al _=>True
 |.loc _ _ _=>True
 |.sptr _ _ _=>True
 |.agl _=>True
def gc(st:St)(x:Operand):Prop:=Mj (ev st x)
theorem Sim.slot{g:Gh}{st:St}{a:Act}{w:World}(h:Sim g st a w)(k:Nat):∃b,av g w (look st.t k) (a.tmps.getD k undef) b:=by
 obtain⟨bl,hb⟩:=h.own;exact⟨_,hb.slots k⟩
theorem aL{g:Gh}{st:St}{a:Act}{w:World}(h:Sim g st a w)(x:Operand)(hg:gc st x):
 av g w (mv st x) (a.eval x) none∧bN g st a w (mv st x) (a.eval x):=by
 cases x with
 |const v=>exact⟨⟨rfl,rfl⟩,trivial⟩
 |func f=>exact⟨⟨rfl,rfl⟩,trivial⟩
 |global n=>exact⟨⟨rfl,trivial⟩,trivial⟩
 |tmp k=>
  obtain⟨b,hs⟩:=h.slot k;have ha:=h.al k;simp only[mv,ev,Act.eval,gc]at*;cases hl:look st.t k with
  |pv p=>rw[hl]at hs ha;obtain⟨rfl,hf⟩:=hs;exact⟨⟨rfl,hf⟩,trivial⟩
  |own nw e rows=>rw[hl]at hs;exact⟨rfl,fun _=>rfl⟩
  |omap nw es=>rw[hl]at hs;exact⟨rfl,fun _=>rfl⟩
  |al p=>rw[hl]at hs ha;exact⟨rfl,ha⟩
  |loc p i j=>rw[hl]at hs ha;exact⟨rfl,ha⟩
  |sptr p i j=>rw[hl]at hs ha;exact⟨rfl,ha⟩
  |agl xs=>rw[hl]at hs ha;exact⟨⟨rfl,hs.2⟩,ha⟩
  |opt c y=>rw[hl]at hs ha hg;exact⟨hs.2.2 hg,ha hg⟩
def F0(P:Program)(st:St)(o:Oper)(r:SV×Prop):Prop:=
 ∀g a w,Sim g st a w→r.2→∃v,(execOp a.eval o).run P w=.ok (.value v) w∧av g w r.1 v none∧bN g st a w r.1 v
def g8(P:Program)(st:St)(o:Oper)(r:SV×Prop):Prop:=
 ∀g a w,Sim g st a w→r.2→∃v,(∀w':World,(execOp a.eval o).run P w'=.ok (.value v) w')∧av g w r.1 v none∧bN g st a w r.1 v
theorem g8.pop{P:Program}{st:St}{o:Oper}{r:SV×Prop}(h:g8 P st o r):F0 P st o r:=fun g a w hs hr=>by
 obtain⟨v,h1,h2⟩:=h g a w hs hr;exact⟨v,h1 w,h2⟩
/-! ### Numbers, truths, texts -/
def fk:SV→IntKind
 |.pv (.lit (.int k _))=>k
 |_=>.i64
def aQ:SV→Int
 |.pv (.lit (.int _ n))=>n
 |_=>0
def fl:SV→Prop
 |.pv (.lit (.int _ _))=>True
 |_=>False
def pD:SV→Bool
 |.pv (.lit (.bool b))=>b
 |_=>false
def xo:SV→Prop
 |.pv (.lit (.bool _))=>True
 |_=>False
def jK:SV→ByteArray
 |.pv (.lit (.string s))=>s
 |_=>ByteArray.empty
def pE:SV→Prop
 |.pv (.lit (.string _))=>True
 |_=>False
theorem xq{x:SV}(h:fl x):x=.pv (.lit (.int (fk x) (aQ x))):=by
 unfold fl at h;split at h
 ·rfl
 ·cases h
theorem HU{x:SV}(h:xo x):x=.pv (.lit (.bool (pD x))):=by
 unfold xo at h;split at h
 ·rfl
 ·cases h
theorem HV{x:SV}(h:pE x):x=.pv (.lit (.string (jK x))):=by
 unfold pE at h;split at h
 ·rfl
 ·cases h
theorem bD{g:Gh}{st:St}{a:Act}{w:World}(h:Sim g st a w){x:Operand}(hg:gc st x)(hi:fl (mv st x)):
 a.eval x=.int (fk (mv st x)) (aQ (mv st x)):=by
 have:=(aL h x hg).1;rw[xq hi]at this;exact this.2
theorem jd{g:Gh}{st:St}{a:Act}{w:World}(h:Sim g st a w){x:Operand}(hg:gc st x)(hi:xo (mv st x)):
 a.eval x=.bool (pD (mv st x)):=by
 have:=(aL h x hg).1;rw[HU hi]at this;exact this.2
theorem nW{g:Gh}{st:St}{a:Act}{w:World}(h:Sim g st a w){x:Operand}(hg:gc st x)(hi:pE (mv st x)):
 a.eval x=.string (jK (mv st x)):=by
 have:=(aL h x hg).1;rw[HV hi]at this;exact this.2
abbrev SV.int(k:IntKind)(n:Int):SV:=.pv (.lit (.int k n))
abbrev SV.bool(b:Bool):SV:=.pv (.lit (.bool b))
inductive TK where
  |int|bool|string|ptr|slice|map|func|other
  |flat (n:Nat)
def je(P:Program):List Field→Nat→Bool
 |[],_=>true
 |f::fs,n=>f.offset==n&&f.name != "_" &&(match P.underlying f.type with|some (.int _)=>true|_=>false)&&(match P.info? f.type with|some i=>i.size==1|none=>false)&&je P fs (n+1)
def JG(P:Program)(e:TypeId):Bool:=(match P.underlying e with|some (.int _)=>true|_=>false)&&P.cellsOf e==1&&(P.info? e).isSome
def tk(P:Program)(t:TypeId):TK:=
 match P.underlying t with
 |some (.int _)=>.int
 |some .bool=>.bool
 |some .string=>.string
 |some (.pointer _)=>.ptr
 |some (.slice _)=>.slice
 |some (.map _ _)=>.map
 |some (.func _ _ _)=>.func
 |some (.struct fs)=>if je P fs.toList 0&&!P.stoodInHeld t&&!P.eqGuardType P.depth t then .flat fs.size else .other
 |some (.array n e)=>if JG P e&&!P.eqGuardType P.depth t then .flat n else .other
 |_=>.other
/-! ### Binary operators -/
def Cx(op:BinOp)(x y:SV):SV×Prop:=
 match op with
 |.add=>(.int (fk x) ((fk x).wrap (aQ x+aQ y)),fl x∧fl y∧fk x=fk y∧True)
 |.sub=>(.int (fk x) ((fk x).wrap (aQ x -aQ y)),fl x∧fl y∧fk x=fk y∧True)
 |.mul=>(.int (fk x) ((fk x).wrap (aQ x*aQ y)),fl x∧fl y∧fk x=fk y∧True)
 |.quo=>(.int (fk x) ((fk x).wrap ((aQ x).tdiv (aQ y))),fl x∧fl y∧fk x=fk y∧aQ y≠0)
 |.rem=>(.int (fk x) ((aQ x).tmod (aQ y)),fl x∧fl y∧fk x=fk y∧aQ y≠0)
 |.lss=>(.bool (decide (aQ x<aQ y)),fl x∧fl y∧fk x=fk y∧True)
 |.leq=>(.bool (decide (aQ x≤aQ y)),fl x∧fl y∧fk x=fk y∧True)
 |.gtr=>(.bool (decide (aQ y<aQ x)),fl x∧fl y∧fk x=fk y∧True)
 |.geq=>(.bool (decide (aQ y≤aQ x)),fl x∧fl y∧fk x=fk y∧True)
 |.eql=>(.bool (decide (aQ x=aQ y)),fl x∧fl y∧fk x=fk y∧True)
 |.neq=>(.bool (!decide (aQ x=aQ y)),fl x∧fl y∧fk x=fk y∧True)
 |.and=>(.int (fk x) (bits .and (fk x) (aQ x) (aQ y)),fl x∧fl y∧fk x=fk y∧True)
 |.shr=>(.int (fk x) ((aQ x).fdiv (2^min (aQ y).toNat (fk x).bits)),fl x∧fl y∧0≤aQ y)
 |.shl=>(.int (fk x) ((fk x).wrap (aQ x*2^min (aQ y).toNat (fk x).bits)),fl x∧fl y∧0≤aQ y)
 |_=>(.pv .bot,False)
def Cy(op:BinOp)(x y:SV):SV×Prop:=
 match op with
 |.eql=>(.bool (pD x==pD y),xo x∧xo y)
 |.neq=>(.bool (pD x !=pD y),xo x∧xo y)
 |_=>(.pv .bot,False)
def Cz(op:BinOp)(x y:SV):SV×Prop:=
 match op with
 |.add=>(.pv (.lit (.string (jK x++jK y))),pE x∧pE y∧((jK x).size+(jK y).size:Nat)≤9223372036854775807)
 |.eql=>(.bool (decide (jK x=jK y)),pE x∧pE y)
 |.neq=>(.bool (!decide (jK x=jK y)),pE x∧pE y)
 |.lss=>(.bool (Op.bytesLess (jK x).toList (jK y).toList),pE x∧pE y)
 |.gtr=>(.bool (!(Op.bytesLess (jK x).toList (jK y).toList||decide (jK x=jK y))),pE x∧pE y)
 |.leq=>(.bool (Op.bytesLess (jK x).toList (jK y).toList||decide (jK x=jK y)),pE x∧pE y)
 |.geq=>(.bool (!Op.bytesLess (jK x).toList (jK y).toList),pE x∧pE y)
 |_=>(.pv .bot,False)
def jf:SV→Option Bool
 |.pv (.lit (.pointer none))=>some true
 |.pv (.lit (.pointer (some _)))=>some false
 |.pv (.ptr _ _)=>some false
 |.pv (.iptr _ _ _ _)=>some false
 |.sptr _ _ _=>none
 |.pv (.lit (.slice none 0 0))=>some true
 |.pv (.lit (.map none))=>some true
 |_=>none
def gB:SV→Bool
 |.pv (.lit (.pointer none))=>true
 |_=>false
def AY(op:BinOp)(x y:SV):SV×Prop:=
 match op with
 |.eql=>(.bool (jf x==some true),gB y=true∧(jf x).isSome=true)
 |.neq=>(.bool (jf x==some false),gB y=true∧(jf x).isSome=true)
 |_=>(.pv .bot,False)
def j7:SV→List Int
 |.pv (.agg xs)=>xs.map fun x=>aQ (.pv x)
 |.pv (.lit (.agg vs))=>vs.toList.map fun v=>aQ (.pv (.lit v))
 |_=>[]
def eJ:SV→List IntKind
 |.pv (.agg xs)=>xs.map fun x=>fk (.pv x)
 |.pv (.lit (.agg vs))=>vs.toList.map fun v=>fk (.pv (.lit v))
 |_=>[]
def ms(n:Nat):SV→Prop
 |.pv (.agg xs)=>xs.length=n∧∀x∈xs,fl (.pv x)
 |.pv (.lit (.agg vs))=>vs.size=n∧∀v∈vs.toList,fl (.pv (.lit v))
 |_=>False
def AZ(n:Nat)(op:BinOp)(x y:SV):SV×Prop:=
 match op with
 |.eql=>(.bool (decide (j7 x=j7 y)),ms n x∧ms n y∧eJ x=eJ y)
 |.neq=>(.bool (!decide (j7 x=j7 y)),ms n x∧ms n y∧eJ x=eJ y)
 |_=>(.pv .bot,False)
theorem zg{P:Program}{st:St}(o:Oper)(op:BinOp)(t u:TypeId)(x y:Operand)(ho:o.op=.binOp op t x y u):
 g8 P st o ((Cx op (mv st x) (mv st y)).1,gc st x∧gc st y∧(Cx op (mv st x) (mv st y)).2):=by
 intro g a w h ⟨hx,hy,hd⟩;have ex:=fun hi=>bD h hx hi;have ey:=fun hi=>bD h hy hi;unfold Cx at hd⊢;simp only[execOp,ho];cases op<;>simp only at hd⊢
 case quo|rem=>
  obtain⟨h1,h2,h3,h4⟩:=hd;rw[ex h1,ey h2,h3];simp only[go_sem,Sem.run_bind,Sem.run_pure,Result.andThen_ok,Op.intDiv,if_neg h4];exact⟨_,fun _=>rfl,⟨rfl,by first|rfl|rw[h3]⟩,trivial⟩
 case and|add|sub|mul|lss|leq|gtr|geq|eql|neq=>
  obtain⟨h1,h2,h3,h4⟩:=hd;rw[ex h1,ey h2,h3];simp only[go_sem,Sem.run_bind,Sem.run_pure,Result.andThen_ok,Op.intArith];exact⟨_,fun _=>rfl,⟨rfl,by first|rfl|rw[h3]⟩,trivial⟩
 case shr|shl=>
  obtain⟨h1,h2,h3⟩:=hd;rw[ex h1,ey h2];simp only[go_sem,Sem.run_bind,Sem.run_pure,Result.andThen_ok,Op.shift,if_neg (Int.not_lt.2 h3)];exact⟨_,fun _=>rfl,⟨rfl,rfl⟩,trivial⟩
 all_goals exact hd.elim
theorem zh{P:Program}{st:St}(o:Oper)(op:BinOp)(t u:TypeId)(x y:Operand)(ho:o.op=.binOp op t x y u)(ht:P.underlying t=some .bool):
 g8 P st o ((Cy op (mv st x) (mv st y)).1,gc st x∧gc st y∧(Cy op (mv st x) (mv st y)).2):=by
 intro g a w h ⟨hx,hy,hd⟩;have ex:=fun hi=>jd h hx hi;have ey:=fun hi=>jd h hy hi;unfold Cy at hd⊢;simp only[execOp,ho];cases op<;>simp only at hd⊢
 case eql|neq=>
  obtain⟨h1,h2⟩:=hd;rw[ex h1,ey h2];simp only[eqGuard_at_bool,Sem.run_bind,Sem.run_pure,Result.andThen_ok,run_eql_bool _ t _ _ ht,run_neq_bool _ t _ _ ht];exact⟨_,fun _=>rfl,⟨rfl,rfl⟩,trivial⟩
 all_goals exact hd.elim
theorem ByteArray.toList_inj{a b:ByteArray}:(a.toList==b.toList)=decide (a=b):=by
 rw[Bool.eq_iff_iff,beq_iff_eq,decide_eq_true_iff];constructor
 ·intro h;rw[ByteArray.toList_eq,ByteArray.toList_eq]at h;cases a;cases b;simp at h;simp[h]
 ·intro h;rw[h]
theorem zi{P:Program}{st:St}(o:Oper)(op:BinOp)(t u:TypeId)(x y:Operand)(ho:o.op=.binOp op t x y u):
 g8 P st o ((Cz op (mv st x) (mv st y)).1,gc st x∧gc st y∧(Cz op (mv st x) (mv st y)).2):=by
 intro g a w h ⟨hx,hy,hd⟩;have ex:=fun hi=>nW h hx hi;have ey:=fun hi=>nW h hy hi;unfold Cz at hd⊢;simp only[execOp,ho];cases op<;>simp only at hd⊢
 case add=>
  obtain⟨h1,h2,h3⟩:=hd;rw[ex h1,ey h2];simp only[eqGuard_at_string,Sem.run_bind,Sem.run_pure,Result.andThen_ok,binOp,Op.stringOp];rw[if_neg (by simp only[IntKind.max_i64];omega)];exact⟨_,fun _=>rfl,⟨rfl,rfl⟩,trivial⟩
 case eql|neq|lss|leq|gtr|geq=>
  obtain⟨h1,h2⟩:=hd;rw[ex h1,ey h2];simp only[eqGuard_at_string,Sem.run_bind,Sem.run_pure,Result.andThen_ok,binOp,Op.stringOp,ByteArray.toList_inj];exact⟨_,fun _=>rfl,⟨rfl,rfl⟩,trivial⟩
 all_goals exact hd.elim
theorem xt{g:Gh}{w:World}{x:SV}{v:Value}{b:Bool}(h:av g w x v none)(hn:jf x=some b)(hp:∃p,v=.pointer p):v=.pointer none∧b=true∨(∃q,v=.pointer (some q))∧b=false:=by
 unfold jf at hn;split at hn
 ·cases hn;obtain⟨_,rfl⟩:=h;exact .inl ⟨rfl,rfl⟩
 ·cases hn;obtain⟨_,rfl⟩:=h;exact .inr ⟨⟨_,rfl⟩,rfl⟩
 ·cases hn;obtain⟨_,_,rfl⟩:=h;exact .inr ⟨⟨_,rfl⟩,rfl⟩
 ·cases hn;obtain⟨_,_,_,_,_,_,_,rfl,_⟩:=h;exact .inr ⟨⟨_,rfl⟩,rfl⟩
 ·cases hn
 ·obtain⟨_,rfl⟩:=h;obtain⟨p,hp⟩:=hp;cases hp
 ·obtain⟨_,rfl⟩:=h;obtain⟨p,hp⟩:=hp;cases hp
 ·cases hn
def uZ:SV→Prop
 |.pv (.lit (.pointer _))=>True
 |.pv (.ptr _ _)=>True
 |.pv (.iptr _ _ _ _)=>True
 |_=>False
theorem CA{g:Gh}{w:World}{x:SV}{v:Value}(h:av g w x v none)(hp:uZ x):∃p,v=.pointer p:=by
 unfold uZ at hp;split at hp
 ·obtain⟨_,rfl⟩:=h;exact⟨_,rfl⟩
 ·obtain⟨_,_,rfl⟩:=h;exact⟨_,rfl⟩
 ·obtain⟨_,_,_,_,_,_,_,rfl,_⟩:=h;exact⟨_,rfl⟩
 ·cases hp
theorem xu{P:Program}{t e:TypeId}(h:P.underlying t=some (.pointer e)):P.underlying t=some (.pointer (P.pointee t)):=by
 simp[Program.pointee,h]
theorem zj{P:Program}{st:St}(o:Oper)(op:BinOp)(t u e:TypeId)(x y:Operand)(ho:o.op=.binOp op t x y u)(ht:P.underlying t=some (.pointer e)):
 g8 P st o ((AY op (mv st x) (mv st y)).1,gc st x∧gc st y∧uZ (mv st x)∧(AY op (mv st x) (mv st y)).2):=by
 intro g a w h ⟨hx,hy,hp,hd⟩;obtain⟨fx,_⟩:=aL h x hx;obtain⟨fy,_⟩:=aL h y hy;obtain⟨p,hp⟩:=CA fx hp;have ht':=xu ht;have nil_y:gB (mv st y)=true→a.eval y=.pointer none:=by
  intro hn;unfold gB at hn;split at hn
  ·rename_i e;rw[e]at fy;exact fy.2
  ·cases hn
 unfold AY at hd⊢;simp only[execOp,ho];cases op<;>simp only at hd⊢
 case eql|neq=>
  obtain⟨h1,h2⟩:=hd;obtain⟨b,hb⟩:=Option.isSome_iff_exists.mp h2;rw[nil_y h1,hp];simp only[eqGuard_at_pointer,Sem.run_bind,Sem.run_pure,Result.andThen_ok,run_eql_pointer_nil _ t _ ht',run_neq_pointer_nil _ t _ ht'];refine⟨_,fun _=>rfl,⟨rfl,?_⟩,trivial⟩;rcases xt fx hb ⟨_,hp⟩with⟨e1,rfl⟩|⟨⟨q,e1⟩,rfl⟩<;>(rw[hp]at e1;cases e1;simp[Fit,hb])
 all_goals exact hd.elim
/-! ### Flat structs -/
theorem fM{P:Program}(w:World){t:TypeId}{k:IntKind}(ht:P.underlying t=some (.int k))(cs:Array Value)(off:Nat)(v:Value)(h:cs[off]?=some v):
 (part t cs off).run P w=.ok v w:=by
 simp[part,isAgg,run_underlying ht,h]
theorem pW{P:Program}(w:World)(d:Nat)(xs ys:Array Value):∀(fs:List Field)(n:Nat)(A B:List (IntKind×Int)),je P fs n=true→
 A.length=fs.length→A.map (·.1)=B.map (·.1)→(∀i p,A[i]?=some p→xs[n+i]?=some (.int p.1 p.2))→(∀i p,B[i]?=some p→ys[n+i]?=some (.int p.1 p.2))→
 (Op.eqFields (d+1) xs ys fs).run P w=.ok (decide (A.map (·.2)=B.map (·.2))) w
 |[],n,A,B,_,hA,hAB,_,_=>by
  have:A=[]:=List.length_eq_zero_iff.1 hA;subst this;have:B=[]:=by simpa using hAB.symm
  subst this;simp[Op.eqFields]
 |f::fs,n,A,B,hf,hA,hAB,hx,hy=>by
  cases A with
  |nil=>simp at hA
  |cons p A=>
  cases B with
  |nil=>simp at hAB
  |cons q B=>
  simp only[je,Bool.and_eq_true,beq_iff_eq,bne_iff_ne]at hf;obtain⟨⟨⟨⟨ho,hn⟩,hu⟩,_⟩,hr⟩:=hf;split at hu
  case h_2=>cases hu
  rename_i k hk;simp only[List.map_cons,List.cons.injEq]at hAB;have hx0:=hx 0 p rfl;have hy0:=hy 0 q rfl;simp only[Nat.add_zero]at hx0 hy0;rw[Op.eqFields,if_pos hn,ho];simp only[Sem.run_bind,fM w hk xs n _ hx0,fM w hk ys n _ hy0,Result.andThen_ok,hAB.1,run_equalIn_int w d f.type q.1 k p.2 q.2 hk]
  by_cases he:p.2=q.2
  ·simp only[he,beq_self_eq_true,Bool.not_true,Bool.false_eq_true,if_false];rw[pW w d xs ys fs (n+1) A B hr (by simpa using hA) hAB.2 (fun i p hp=>by have:=hx (i+1) p (by simpa using hp);rw[←this];congr 1;omega) (fun i p hp=>by have:=hy (i+1) p (by simpa using hp);rw[←this];congr 1;omega)];simp[he]
  ·simp[he]
theorem rX{P:Program}(w:World)(d:Nat)(xs ys:Array Value){e:TypeId}{k:IntKind}(he:P.underlying e=some (.int k)):∀(A B:List (IntKind×Int))(n:Nat),
 A.map (·.1)=B.map (·.1)→(∀i p,A[i]?=some p→xs[n+i]?=some (.int p.1 p.2))→(∀i p,B[i]?=some p→ys[n+i]?=some (.int p.1 p.2))→
 (Op.eqItems (d+1) e 1 xs ys (List.range' n A.length)).run P w=.ok (decide (A.map (·.2)=B.map (·.2))) w
 |[],B,n,hAB,_,_=>by
  have:B=[]:=by simpa using hAB.symm
  subst this;simp[Op.eqItems]
 |p::A,[],n,hAB,_,_=>by simp at hAB
 |p::A,q::B,n,hAB,hx,hy=>by
  simp only[List.map_cons,List.cons.injEq]at hAB;have hx0:=hx 0 p rfl;have hy0:=hy 0 q rfl;simp only[Nat.add_zero]at hx0 hy0;simp only[List.length_cons,List.range'_succ,Op.eqItems,Nat.mul_one,Sem.run_bind,fM w he xs n _ hx0,fM w he ys n _ hy0,Result.andThen_ok,hAB.1,run_equalIn_int w d e q.1 k p.2 q.2 he]
  by_cases hpq:p.2=q.2
  ·simp only[hpq,beq_self_eq_true,Bool.not_true,Bool.false_eq_true,if_false];rw[rX w d xs ys he A B (n+1) hAB.2 (fun i p hp=>by have:=hx (i+1) p (by simpa using hp);rw[←this];congr 1;omega) (fun i p hp=>by have:=hy (i+1) p (by simpa using hp);rw[←this];congr 1;omega)];simp[hpq]
  ·simp[hpq]
def em:SV→List (IntKind×Int)
 |.pv (.agg xs)=>xs.map fun x=>(fk (.pv x),aQ (.pv x))
 |.pv (.lit (.agg vs))=>vs.toList.map fun v=>(fk (.pv (.lit v)),aQ (.pv (.lit v)))
 |_=>[]
theorem pF{g:Gh}{w:World}{x:SV}{v:Value}{n:Nat}(h:av g w x v none)(hf:ms n x):
 ∃vs,v=.agg vs∧(em x).length=n∧(em x).map (·.1)=eJ x∧(em x).map (·.2)=j7 x∧∀(i:Nat)(p:IntKind×Int),(em x)[i]?=some p→vs[i]?=some (Value.int p.1 p.2):=by
 unfold ms at hf;split at hf
 ·rename_i xs;obtain⟨_,vs,rfl,hl⟩:=h;refine⟨vs,rfl,by simp[em,hf.1],by simp[em,eJ],by simp[em,j7],fun i p hp=>?_⟩;simp only[em,List.getElem?_map,Option.map_eq_some_iff]at hp;obtain⟨y,hy,rfl⟩:=hp;obtain⟨u,hu,hfy⟩:=hl.get i y hy;have:=hf.2 y (List.mem_of_getElem? hy);have e:=xq this;simp only[SV.pv.injEq]at e;rw[e]at hfy;rw[←Array.getElem?_toList,hu,hfy]
 ·rename_i vs;obtain⟨_,rfl⟩:=h;refine⟨vs,rfl,by simp[em,hf.1],by simp[em,eJ],by simp[em,j7],fun i p hp=>?_⟩;simp only[em,List.getElem?_map,Option.map_eq_some_iff]at hp;obtain⟨y,hy,rfl⟩:=hp;have:=hf.2 y (List.mem_of_getElem? hy);have e:=xq this;simp only[SV.pv.injEq,PV.lit.injEq]at e;rw[←Array.getElem?_toList,hy,←e]
 ·cases hf
theorem F1{P:Program}{st:St}(o:Oper)(op:BinOp)(t u:TypeId)(x y:Operand)(n:Nat)(ho:o.op=.binOp op t x y u)(ht:tk P t=.flat n):
 F0 P st o ((AZ n op (mv st x) (mv st y)).1,gc st x∧gc st y∧(AZ n op (mv st x) (mv st y)).2):=by
 intro g a w h ⟨hx,hy,hd⟩;obtain⟨fx,_⟩:=aL h x hx;obtain⟨fy,_⟩:=aL h y hy;unfold tk at ht;split at ht
 case h_8=>
  rename_i fs hu;split at ht
  case isFalse=>cases ht
  rename_i hc;cases ht
  simp only[Bool.and_eq_true,Bool.not_eq_true']at hc;obtain⟨⟨hfl,hst⟩,heq⟩:=hc;have hfo:P.fieldsOf t=fs:=by simp[Program.fieldsOf,hu]
  have hu':P.underlying t=some (.struct (P.fieldsOf t)):=by rw[hfo];exact hu
  unfold AZ at hd⊢;simp only[execOp,ho];cases op<;>simp only at hd⊢
  case eql|neq=>
   obtain⟨h1,h2,h3⟩:=hd;obtain⟨xs,ex,lx,kx,ix,cx⟩:=pF fx h1;obtain⟨ys,ey,ly,ky,iy,cy⟩:=pF fy h2;rw[ex,ey];simp only[Sem.run_bind,run_eqGuard_agg w _ t _ _ _ _ heq,Result.andThen_ok,run_eql_struct,run_neq_struct,run_equalIn_agg w 9999 t xs ys hu' hst,hfo,
    pW w 9998 xs ys fs.toList 0 (em (mv st x)) (em (mv st y)) hfl (by simpa using lx) (by rw[kx,ky,h3]) (by simpa using cx) (by simpa using cy),ix,iy,Sem.run_pure]
   exact⟨_,rfl,⟨rfl,rfl⟩,trivial⟩
  all_goals exact hd.elim
 case h_9=>
  rename_i m e hu;split at ht
  case isFalse=>cases ht
  rename_i hc;cases ht
  simp only[JG,Bool.and_eq_true,Bool.not_eq_true',beq_iff_eq]at hc;obtain⟨⟨⟨hk,hce⟩,hi⟩,heq⟩:=hc;split at hk
  case h_2=>cases hk
  rename_i k hk2;obtain⟨inf,hinf⟩:=Option.isSome_iff_exists.1 hi;unfold AZ at hd⊢;simp only[execOp,ho];cases op<;>simp only at hd⊢
  case eql|neq=>
   obtain⟨h1,h2,h3⟩:=hd;obtain⟨xs,ex,lx,kx,ix,cx⟩:=pF fx h1;obtain⟨ys,ey,ly,ky,iy,cy⟩:=pF fy h2;rw[ex,ey];have hE:=rX w 9998 xs ys hk2 (em (mv st x)) (em (mv st y)) 0 (by rw[kx,ky,h3]) (by simpa using cx) (by simpa using cy);rw[lx,←List.range_eq_range']at hE;simp only[Sem.run_bind,run_eqGuard_agg w _ t _ _ _ _ heq,Result.andThen_ok,run_eql_struct,run_neq_struct,run_equalIn_array w 9999 xs ys hu hinf,hce,hE,ix,iy,Sem.run_pure];exact⟨_,rfl,⟨rfl,rfl⟩,trivial⟩
  all_goals exact hd.elim
 all_goals (first|cases ht|(split at ht<;>cases ht))
end Go.AX
namespace Go.AX
/-! ### What the types say -/
def bE(P:Program)(t:TypeId)(f:Nat):Option Nat:=
 match P.underlying t with
 |some (.struct fs)=>match fs[f]?with
  |some x=>match P.info? x.type with
   |some i=>if i.size=0 then none else some x.offset
   |none=>none
  |none=>none
 |_=>none
def bg(P:Program)(t:TypeId):Option Nat:=
 match P.underlying t with
 |some (.slice e)=>(P.info? e).map (·.size)
 |_=>none
def mu(P:Program)(t:TypeId):Option (Nat×Nat):=
 match P.underlying t with
 |some (.array n e)=>(P.info? e).map fun i=>(n,i.size)
 |_=>none
def aJ(P:Program)(t:TypeId):Option (Bool×Nat):=
 match P.underlying t with
 |some (.struct _)=>(P.info? t).map fun i=>(true,i.size)
 |some (.array _ _)=>(P.info? t).map fun i=>(true,i.size)
 |some _=>(P.info? t).map fun i=>(false,i.size)
 |none=>none
theorem run_sizeOf{P:Program}{t:TypeId}{i:TypeInfo}(h:P.info? t=some i)(w:World):(sizeOf t).run P w=.ok i.size w:=by
 simp[sizeOf,typeInfo,h]
theorem gt{P:Program}{t:TypeId}{b:Bool}{n:Nat}(h:aJ P t=some (b,n))(w:World):(isAgg t).run P w=.ok b w∧(sizeOf t).run P w=.ok n w:=by
 unfold aJ at h;split at h
 case h_4=>cases h
 all_goals (
  rename_i hu;simp only[Option.map_eq_some_iff,Prod.mk.injEq]at h;obtain⟨i,hi,rfl,rfl⟩:=h;refine⟨?_,run_sizeOf hi w⟩;simp only[isAgg,Sem.run_bind,run_underlying hu,Result.andThen_ok])
 ·rfl
 ·rfl
 ·rfl
/-! ### Cells -/
theorem cell_of{w:World}{c:Nat}{arr:Array Value}{T:TypeId}{fz:Nat×Nat}(h:w.heap[c]?=some (.cells arr T fz))(o:Nat):w.cell? ⟨c,o,none⟩=arr[o]?:=by
 simp[World.cell?,h]
theorem fp{l m:List Value}(h:l<+:m){i:Nat}{v:Value}(hi:l[i]?=some v):m[i]?=some v:=by
 obtain⟨r,rfl⟩:=h;rw[List.getElem?_append_left]
 ·exact hi
 ·exact(List.getElem?_eq_some_iff.1 hi).1
theorem A0{g:Gh}{e:Nat}{rows:List (List PV)}{vs:List Value}{arr:Array Value}{off:Nat}(h:au g e rows vs)(hp:vs<+:arr.toList.drop off){i:Nat}{row:List PV}(hi:rows[i]?=some row):
 row.length=e∧∃b,ai g row b∧∀j v,b[j]?=some v→arr[off+i*e+j]?=some v:=by
 obtain⟨he,a,b,c,e1,e2,e3⟩:=h.get i row hi;refine⟨he,b,e3,fun j v hj=>?_⟩;have hb:j<b.length:=(List.getElem?_eq_some_iff.1 hj).1;have:vs[i*e+j]?=some v:=by
  rw[e1,List.getElem?_append_left (by simp[e2];omega),List.getElem?_append_right (by omega),e2];rw[←hj];congr 1;omega
 have:=fp hp this;rw[List.getElem?_drop,Array.getElem?_toList]at this;rw[←this];congr 1;omega
theorem ai.drop{g:Gh}:∀{xs:List PV}{vs:List Value}(_:ai g xs vs)(k:Nat),ai g (xs.drop k) (vs.drop k)
 |_,_,h,0=>by simpa using h
 |[],_,h,k+1=>by simp only[ai]at h;subst h;simp[ai]
 |_::_,_,⟨_,_,h1,_,h3⟩,k+1=>by subst h1;simpa using ai.drop h3 k
theorem ai.take{g:Gh}:∀{xs:List PV}{vs:List Value}(_:ai g xs vs)(k:Nat),ai g (xs.take k) (vs.take k)
 |_,_,_,0=>by simp[ai]
 |[],_,h,k+1=>by simp only[ai]at h;subst h;simp[ai]
 |_::_,_,⟨_,_,h1,h2,h3⟩,k+1=>by subst h1;exact⟨_,_,rfl,h2,ai.take h3 k⟩
/-! ### Places that own -/
theorem aX{g:Gh}{st:St}{a:Act}{w:World}{bl:Pos→Option Nat}(hb:Owns g st a w bl){p:Pos}(ho:(aa st p).isOwn=true):av g w (aa st p) (an g a w p) (bl p):=by
 cases p with
 |slot s=>exact hb.slots s
 |cell b k=>
  simp only[aa]at ho⊢;cases hx:st.h[b]?with
  |none=>simp[List.getD,hx]at ho;cases ho
  |some xs=>
   simp only[List.getD,hx,Option.getD_some]at ho⊢;cases hk:xs[k]?with
   |none=>simp[hk]at ho;cases ho
   |some x=>
    obtain⟨arr,T,h1,⟨h2,_⟩,h3⟩:=hb.blocks b xs hx;simp only[Option.getD_some,an,h1];exact(h3 k x hk).2
/-! ### Slices -/
def ig:Value→Bool
 |.slice none 0 0=>true
 |_=>false
theorem fq{v:Value}(h:ig v=true):v=.slice none 0 0:=by
 unfold ig at h;split at h
 ·rfl
 ·cases h
def rowsOf(st:St):SV→List (List PV)
 |.pv (.seq _ _ rows)=>rows
 |.al p=>match aa st p with
  |.own _ _ rows=>rows
  |_=>[]
 |.loc p lo hi=>match aa st p with
  |.own _ _ rows=>(rows.take hi).drop lo
  |_=>[]
 |_=>[]
def ia(st:St)(e:Nat):SV→Prop
 |.pv (.seq _ e' _)=>e'=e
 |.pv (.lit v)=>ig v=true
 |.al p=>match aa st p with
  |.own _ e' _=>e'=e
  |_=>False
 |.loc p _ _=>match aa st p with
  |.own _ e' _=>e'=e
  |_=>False
 |_=>False
theorem lz{g:Gh}{st:St}{a:Act}{w:World}(h:Sim g st a w){x:Operand}{e:Nat}(hg:gc st x)(hs:ia st e (mv st x)):
 ∃q cap,a.eval x=.slice q (rowsOf st (mv st x)).length cap∧(rowsOf st (mv st x)).length≤cap:=by
 obtain⟨hf,ha⟩:=aL h x hg;unfold ia at hs;split at hs
 ·rename_i nw e' rows hm;rw[hm]at hf⊢;obtain⟨_,q,cap,hv,hc,_⟩:=hf;exact⟨q,cap,hv,hc⟩
 ·rename_i v hm;rw[hm]at hf⊢;obtain⟨_,hv⟩:=hf;exact⟨none,0,by rw[hv,fq hs];rfl,by simp[rowsOf]⟩
 ·rename_i p hm;rw[hm]at ha⊢;split at hs
  ·rename_i nw e' rows hp;obtain⟨bl,hb⟩:=h.own;have hv:=ha (by rw[hp];rfl);have:=aX hb (p:=p) (by rw[hp];rfl);rw[hp]at this;simp only[rowsOf,hp];rcases this with⟨_,rfl,e1⟩|⟨c,_,cap,arr,T,vs,e1,_,_,e4,_⟩
   ·exact⟨none,0,by rw[hv,e1];rfl,by simp⟩
   ·exact⟨_,cap,by rw[hv,e1],e4.1⟩
  ·cases hs
 ·rename_i p lo hi hm;rw[hm]at ha⊢;split at hs
  ·rename_i nw e' rows hp;obtain⟨h1,h2,q,cap,hv,hc,_⟩:=ha nw e' rows hp;have:(rowsOf st (.loc p lo hi)).length=hi -lo:=by simp only[rowsOf,hp,List.length_drop,List.length_take];omega
   exact⟨q,cap,by rw[hv,this],by rw[this];exact hc⟩
  ·cases hs
 ·cases hs
def rY(P:Program)(st:St)(t:TypeId)(x:SV):SV×Prop:=
 match bg P t with
 |some e=>match x with
  |.pv (.bsl _ e' _ n _)=>(.int .i64 n,e'=e)
  |.pv (.lit (.slice _ 0 _))=>(.int .i64 0,True)
  |x=>(.int .i64 (rowsOf st x).length,ia st e x)
 |none=>(.pv .bot,False)
theorem u6{P:Program}{st:St}(o:Oper)(t:TypeId)(x:Operand)(ho:o.op=.call {callee:=.builtin .len,args:=#[x],argTypes:=#[t]}):
 g8 P st o ((rY P st t (mv st x)).1,gc st x∧(rY P st t (mv st x)).2):=by
 intro g a w h ⟨hx,hd⟩;unfold rY at hd⊢;cases hs:bg P t with
 |none=>rw[hs]at hd;cases hd
 |some e=>
  rw[hs]at hd;simp only at hd⊢;unfold bg at hs;split at hs
  case h_2=>cases hs
  rename_i el hu;split at hd
  ·rename_i b e' off n cap hm;obtain⟨hf,_⟩:=aL h x hx;rw[hm]at hf;obtain⟨_,_,_,hv⟩:=hf;refine⟨_,?_,⟨rfl,rfl⟩,trivial⟩;intro w';simp[execOp,ho,resolve,invoke,builtin,hv,Builtin.len_,run_underlying hu,goInt]
  ·rename_i p cap hm;obtain⟨hf,_⟩:=aL h x hx;rw[hm]at hf;have hv:a.eval x=_:=hf.2;refine⟨_,?_,⟨rfl,rfl⟩,trivial⟩;intro w';simp[execOp,ho,resolve,invoke,builtin,hv,Builtin.len_,run_underlying hu,goInt]
  ·obtain⟨q,cap,hv,_⟩:=lz h hx hd;refine⟨_,?_,⟨rfl,rfl⟩,trivial⟩;intro w';simp[execOp,ho,resolve,invoke,builtin,hv,Builtin.len_,run_underlying hu,goInt]
def pX(x:SV):SV×Prop:=(.int .i64 (jK x).size,pE x)
theorem rZ{P:Program}{st:St}(o:Oper)(t:TypeId)(x:Operand)(ho:o.op=.call {callee:=.builtin .len,args:=#[x],argTypes:=#[t]}) (hu:P.underlying t=some .string):
 g8 P st o ((pX (mv st x)).1,gc st x∧(pX (mv st x)).2):=by
 intro g a w h ⟨hx,hd⟩;have ex:=nW h hx hd;refine⟨_,?_,⟨rfl,rfl⟩,trivial⟩;intro w';simp[execOp,ho,resolve,invoke,builtin,ex,Builtin.len_,run_underlying hu,goInt]
/-! ### Addresses -/
def o8(off:Nat):SV→SV×Prop
 |.pv (.ptr b o)=>(.pv (.ptr b (o+off)),True)
 |.pv (.iptr e rows i k)=>(.pv (.iptr e rows i (k+off)),True)
 |.sptr p i k=>(.sptr p i (k+off),True)
 |_=>(.pv .bot,False)
theorem F2{g:Gh}{st:St}{a:Act}{w:World}{off:Nat}{x:SV}{v:Value}(hf:av g w x v none)(ha:bN g st a w x v)(hd:(o8 off x).2):
 ((∃ q : Addr, v = .pointer (some q) ∧ av g w (o8 off x).1 (.pointer (some (q.add off))) none ∧ bN g st a w (o8 off x).1 (.pointer (some (q.add off)))) ∨
  (∃p i k,x=.sptr p i k∧∀nw e rows,aa st p≠.own nw e rows)):=by
 unfold o8 at hd⊢;split at hd
 ·obtain⟨_,h1,rfl⟩:=hf;exact .inl ⟨_,rfl,⟨rfl,h1,by rw[Addr.add_lit]⟩,trivial⟩
 ·obtain⟨_,c,o',arr,T,fz,vs,rfl,h2,h3,h4⟩:=hf;exact .inl ⟨_,rfl,⟨rfl,c,o',arr,T,fz,vs,by rw[Addr.add_lit,Nat.add_assoc],h2,h3,h4⟩,trivial⟩
 ·rename_i p i k
  by_cases hp:∃nw e rows,aa st p=.own nw e rows
  ·obtain⟨nw,e,rows,hp⟩:=hp;obtain⟨c,n,cp,h1,rfl⟩:=ha nw e rows hp;refine .inl ⟨_,rfl,rfl,fun nw' e' rows' hp'=>?_⟩;rw[hp]at hp';cases hp';exact⟨c,n,cp,h1,by rw[Addr.add_lit,Nat.add_assoc]⟩
  ·exact .inr ⟨p,i,k,rfl,fun nw e rows hh=>hp ⟨nw,e,rows,hh⟩⟩
 ·cases hd
def live(st:St):SV→Prop
 |.sptr p _ _=>match aa st p with
  |.own _ _ _=>True
  |_=>False
 |_=>True
theorem r8{g:Gh}{st:St}{a:Act}{w:World}{off:Nat}{x:SV}{v:Value}(hf:av g w x v none)(ha:bN g st a w x v)(hd:(o8 off x).2)(hl:live st x):
 ∃q:Addr,v=.pointer (some q)∧av g w (o8 off x).1 (.pointer (some (q.add off))) none∧bN g st a w (o8 off x).1 (.pointer (some (q.add off))):=by
 rcases F2 hf ha hd with h|⟨p,i,k,rfl,hn⟩
 ·exact h
 ·unfold live at hl;cases hps:aa st p<;>simp only[hps]at hl
  exact absurd hps (hn _ _ _)
def nX(P:Program)(st:St)(t:TypeId)(f:Nat)(x:SV):SV×Prop:=
 match bE P t f with
 |some off=>((o8 off x).1,(o8 off x).2∧live st x)
 |none=>(.pv .bot,False)
theorem r9{P:Program}{st:St}(o:Oper)(t:TypeId)(f:Nat)(x:Operand)(ho:o.op=.fieldAddr t x f):
 g8 P st o ((nX P st t f (mv st x)).1,gc st x∧(nX P st t f (mv st x)).2):=by
 intro g a w h ⟨hx,hd⟩;obtain⟨hf,ha⟩:=aL h x hx;unfold nX at hd⊢;cases hs:bE P t f with
 |none=>rw[hs]at hd;cases hd
 |some off=>
  rw[hs]at hd;simp only at hd⊢;obtain⟨q,hv,h1,h2⟩:=r8 hf ha hd.1 hd.2;refine⟨_,?_,h1,h2⟩;unfold bE at hs;split at hs
  case h_2=>cases hs
  rename_i fs hu;split at hs
  case h_2=>cases hs
  rename_i fd hfd;split at hs
  case h_2=>cases hs
  rename_i i hi;split at hs
  case isTrue=>cases hs
  rename_i hne;cases hs
  intro w';simp[execOp,ho,hv,Instr.fieldAt,run_underlying hu,hfd,Instr.sureAddr,fieldPlace,run_sizeOf hi,hne]
def zk(i:Nat):SV→SV
 |.pv (.seq _ e rows)=>.pv (.iptr e rows i 0)
 |.al p=>.sptr p i 0
 |.loc p lo _=>.sptr p (lo+i) 0
 |_=>.pv .bot
theorem CB{g:Gh}{st:St}{a:Act}{w:World}(h:Sim g st a w){x:Operand}{e i:Nat}(hg:gc st x)(hs:ia st e (mv st x))(hi:i<(rowsOf st (mv st x)).length):
 ∃(q:Addr)(cap:Nat),a.eval x=.slice (some q) (rowsOf st (mv st x)).length cap∧av g w (zk i (mv st x)) (.pointer (some (q.add (i*e)))) none∧bN g st a w (zk i (mv st x)) (.pointer (some (q.add (i*e)))):=by
 obtain⟨hf,ha⟩:=aL h x hg;unfold ia at hs;split at hs
 ·rename_i nw e' rows hm;subst hs;rw[hm]at hf hi⊢;obtain⟨_,q,cap,hv,_,hr⟩:=hf;rcases hr with rfl|⟨c,off,arr,T,fz,vs,rfl,h2,_,h3,h4⟩
  ·simp[rowsOf]at hi
  ·exact⟨_,cap,hv,⟨rfl,c,off,arr,T,fz,vs,by rw[Addr.add_lit];simp,h2,h3,h4⟩,trivial⟩
 ·rename_i v hm;rw[hm]at hi;simp[rowsOf]at hi
 ·rename_i p hm;rw[hm]at ha hi⊢;split at hs
  ·rename_i nw e' rows hp;subst hs;obtain⟨bl,hb⟩:=h.own;have hv:=ha (by rw[hp];rfl);have:=aX hb (p:=p) (by rw[hp];rfl);rw[hp]at this;simp only[rowsOf,hp]at hi⊢;rcases this with⟨_,rfl,e1⟩|⟨c,_,cap,arr,T,vs,e1,_⟩
   ·simp at hi
   ·refine⟨_,cap,by rw[hv,e1],rfl,fun nw' e' rows' hp'=>?_⟩;rw[hp]at hp';cases hp';exact⟨c,_,cap,e1,by rw[Addr.add_lit];simp⟩
  ·cases hs
 ·rename_i p lo hi' hm;rw[hm]at ha hi⊢;split at hs
  ·rename_i nw e' rows hp;subst hs;simp only[rowsOf,hp,List.length_drop,List.length_take]at hi⊢;obtain⟨h1,h2,q,cap,hv,_,hq,_⟩:=ha nw e' rows hp;rcases hq with rfl|⟨c,n,cp,hpv,rfl⟩
   ·omega
   ·refine⟨_,cap,by rw[hv];congr 1;omega,rfl,fun nw' e' rows' hp'=>?_⟩;rw[hp]at hp';cases hp';exact⟨c,n,cp,hpv,by rw[Addr.add_lit,←Nat.add_mul];simp⟩
  ·cases hs
 ·cases hs
def A1(P:Program)(st:St)(t:TypeId)(x i:SV):SV×Prop:=
 match bg P t with
 |some e=>match x with
  |.pv (.bsl b e' off n _)=>(.pv (.ptr b (off+(aQ i).toNat*e)),e'=e∧fl i∧0≤aQ i∧aQ i<(n:Int))
  |x=>(zk (aQ i).toNat x,ia st e x∧fl i∧0≤aQ i∧aQ i<(rowsOf st x).length)
 |none=>match mu P t with
  |some (n,e)=>((o8 ((aQ i).toNat*e) x).1,(o8 ((aQ i).toNat*e) x).2∧live st x∧fl i∧0≤aQ i∧aQ i<(n:Int))
  |none=>(.pv .bot,False)
theorem zm{P:Program}{st:St}(o:Oper)(t:TypeId)(x i:Operand)(ho:o.op=.indexAddr t x i):
 g8 P st o ((A1 P st t (mv st x) (mv st i)).1,gc st x∧gc st i∧(A1 P st t (mv st x) (mv st i)).2):=by
 intro g a w h ⟨hx,hgi,hd⟩;unfold A1 at hd⊢;cases hs:bg P t with
 |some e=>
  rw[hs]at hd;simp only at hd⊢;split at hd
  ·rename_i b e' off n cap hm;obtain⟨rfl,h2,h3,h4⟩:=hd;have ei:=bD h hgi h2;obtain⟨hf,_⟩:=aL h x hx;rw[hm]at hf;obtain⟨_,hb,_,hv⟩:=hf;refine⟨.pointer (some ((⟨g.μ b,off,none⟩:Addr).add ((aQ (mv st i)).toNat*e'))),?_,⟨rfl,hb,by rw[Addr.add_lit]⟩,trivial⟩;unfold bg at hs;split at hs
   case h_2=>cases hs
   rename_i el hu;simp only[Option.map_eq_some_iff]at hs;obtain⟨inf,hinf,rfl⟩:=hs;intro w';simp only[execOp,ho,hv,ei,Instr.indexAt,asIntOf,Sem.run_bind,Sem.run_pure,Result.andThen_ok,run_underlying hu,if_pos (And.intro h3 h4),run_sizeOf hinf]
  rename_i hnb;obtain⟨h1,h2,h3,h4⟩:=hd;have ei:=bD h hgi h2;obtain⟨q,cap,hv,h5,h6⟩:=CB h hx h1 (i:=(aQ (mv st i)).toNat) (by omega);refine⟨_,?_,h5,h6⟩;unfold bg at hs;split at hs
  case h_2=>cases hs
  rename_i el hu;simp only[Option.map_eq_some_iff]at hs;obtain⟨inf,hinf,rfl⟩:=hs;intro w';simp only[execOp,ho,hv,ei,Instr.indexAt,asIntOf,Sem.run_bind,Sem.run_pure,Result.andThen_ok,run_underlying hu,if_pos (And.intro h3 h4),run_sizeOf hinf]
 |none=>
  rw[hs]at hd;simp only at hd⊢;cases hs':mu P t with
  |none=>rw[hs']at hd;cases hd
  |some p=>
   obtain⟨n,e⟩:=p;rw[hs']at hd;simp only at hd⊢;obtain⟨h1,h2,h3,h4,h5⟩:=hd;have ei:=bD h hgi h3;obtain⟨hf,ha⟩:=aL h x hx;obtain⟨q,hv,h6,h7⟩:=r8 hf ha h1 h2;refine⟨_,?_,h6,h7⟩;unfold mu at hs';split at hs'
   case h_2=>cases hs'
   rename_i n' el hu;simp only[Option.map_eq_some_iff,Prod.mk.injEq]at hs';obtain⟨inf,hinf,rfl,rfl⟩:=hs';intro w';simp only[execOp,ho,hv,ei,Instr.indexAt,Instr.sureAddr,asIntOf,Sem.run_bind,Sem.run_pure,Result.andThen_ok,run_underlying hu,if_pos (And.intro h4 h5),run_sizeOf hinf]
/-! ### Loads -/
def xv(st:St)(b k:Nat):SV:=
 match aa st (.cell b k)with
 |.pv x=>.pv x
 |.own _ _ _=>.al (.cell b k)
 |.omap _ _=>.al (.cell b k)
 |_=>.pv .bot
def ld1(st:St):SV→SV×Prop
 |.pv (.ptr b o)=>(xv st b o,o<(st.h.getD b []).length)
 |.pv (.iptr e rows i k)=>(.pv ((rows.getD i []).getD k .bot),i<rows.length∧k<e)
 |.sptr p i k=>match aa st p with
  |.own _ e rows=>(.pv ((rows.getD i []).getD k .bot),i<rows.length∧k<e)
  |_=>(.pv .bot,False)
 |_=>(.pv .bot,False)
def tD:SV→Prop
 |.pv _=>True
 |_=>False
def j8:SV→PV
 |.pv x=>x
 |_=>.bot
def Ml(st:St)(n:Nat):SV→SV×Prop
 |.pv (.ptr b o)=>(.pv (.agg (((st.h.getD b []).drop o).take n|>.map j8)),o+n≤(st.h.getD b []).length∧∀x∈((st.h.getD b []).drop o).take n,tD x)
 |.pv (.iptr e rows i k)=>(.pv (.agg (((rows.getD i []).drop k).take n)),i<rows.length∧k+n≤e)
 |.sptr p i k=>match aa st p with
  |.own _ e rows=>(.pv (.agg (((rows.getD i []).drop k).take n)),i<rows.length∧k+n≤e)
  |_=>(.pv .bot,False)
 |_=>(.pv .bot,False)
def zn(P:Program)(st:St)(t:TypeId)(x:SV):SV×Prop:=
 match aJ P t with
 |some (false,_)=>ld1 st x
 |some (true,n)=>Ml st n x
 |none=>(.pv .bot,False)
theorem lA{x:SV}(h:tD x):x=.pv (j8 x):=by
 unfold tD at h;split at h
 ·rfl
 ·cases h
theorem oJ{P:Program}{t:TypeId}{n:Nat}(w:World)(a:Addr)(vs:List Value)(h:aJ P t=some (true,n))(hn:vs.length=n)(hc:∀j v,vs[j]?=some v→w.cell? (a.add j)=some v):
 (loadVar t a).run P w=.ok (.agg vs.toArray) w:=by
 obtain⟨h1,h2⟩:=gt h w;simp only[loadVar,Sem.run_bind,h1,Result.andThen_ok,if_true,h2];rw[←hn,run_loadCells_list w a vs hc];rfl
theorem nc{P:Program}{t:TypeId}{n:Nat}(w:World)(a:Addr)(v:Value)(h:aJ P t=some (false,n))(hc:w.cell? a=some v):
 (loadVar t a).run P w=.ok v w:=by
 obtain⟨h1,_⟩:=gt h w;simp only[loadVar,Sem.run_bind,h1,Result.andThen_ok,Bool.false_eq_true,if_false,run_load,hc]
theorem zo{g:Gh}{w:World}{e:Nat}{rows:List (List PV)}{vs:List Value}{arr:Array Value}{off c:Nat}{T:TypeId}{fz:Nat×Nat}(hc:w.heap[c]?=some (.cells arr T fz))
 (h:au g e rows vs) (hp:vs<+:arr.toList.drop off) {i:Nat} (hi:i<rows.length):
 (rows.getD i []).length=e∧∃b,b.length=e∧ai g (rows.getD i []) b∧∀j v,b[j]?=some v→w.cell? ⟨c,off+i*e+j,none⟩=some v:=by
 have hr:rows[i]?=some (rows.getD i []):=by simp[List.getD,List.getElem?_eq_getElem hi]
 obtain⟨he,b,hb,hj⟩:=A0 h hp hr;exact⟨he,b,by rw[hb.length,he],hb,fun j v hv=>by rw[cell_of hc];exact hj j v hv⟩
theorem JH{P:Program}{g:Gh}{w:World}{t:TypeId}{m e:Nat}{rows:List (List PV)}{vs:List Value}{arr:Array Value}{off c:Nat}{T:TypeId}{fz:Nat×Nat}(hl:aJ P t=some (false,m))
 (hc:w.heap[c]?=some (.cells arr T fz)) (h:au g e rows vs) (hp:vs<+:arr.toList.drop off) {i k:Nat} (hi:i<rows.length) (hk:k<e):
 ∃v,(loadVar t ⟨c,off+i*e+k,none⟩).run P w=.ok v w∧Fit g ((rows.getD i []).getD k .bot) v:=by
 obtain⟨he,b,hbl,hb,hj⟩:=zo hc h hp hi;have hk':k<(rows.getD i []).length:=by omega
 obtain⟨v,hv,hf⟩:=hb.get k ((rows.getD i []).getD k .bot) (by simp only[List.getD_eq_getElem?_getD];rw[List.getElem?_eq_getElem (by simpa only[List.getD_eq_getElem?_getD]using hk')];rfl);exact⟨v,nc w _ v hl (hj k v hv),hf⟩
theorem JI{P:Program}{g:Gh}{w:World}{t:TypeId}{n e:Nat}{rows:List (List PV)}{vs:List Value}{arr:Array Value}{off c:Nat}{T:TypeId}{fz:Nat×Nat}(hl:aJ P t=some (true,n))
 (hc:w.heap[c]?=some (.cells arr T fz)) (h:au g e rows vs) (hp:vs<+:arr.toList.drop off) {i k:Nat} (hi:i<rows.length) (hk:k+n≤e):
 ∃v,(loadVar t ⟨c,off+i*e+k,none⟩).run P w=.ok v w∧Fit g (.agg (((rows.getD i []).drop k).take n)) v:=by
 obtain⟨he,b,hbl,hb,hj⟩:=zo hc h hp hi;refine⟨_,oJ w _ ((b.drop k).take n) hl (by simp;omega) (fun j v hv=>?_),_,rfl,by simpa using(hb.drop k).take n⟩;rw[List.getElem?_take]at hv;split at hv
 ·rw[List.getElem?_drop]at hv;rw[Addr.add_lit,Nat.add_assoc];exact hj _ v hv
 ·cases hv
theorem CC{P:Program}{st:St}(o:Oper)(t:TypeId)(x:Operand)(ho:o.op=.load t x):
 F0 P st o ((zn P st t (mv st x)).1,gc st x∧(zn P st t (mv st x)).2):=by
 intro g a w h ⟨hx,hd⟩;obtain⟨hf,ha⟩:=aL h x hx;obtain⟨bl,hb⟩:=h.own;have hrun:∀(q:Addr)(v:Value),a.eval x=.pointer (some q)→(loadVar t q).run P w=.ok v w→(execOp a.eval o).run P w=.ok (.value v) w:=by
  intro q v he hv;simp only[execOp,ho,he,Instr.loadAt,Instr.sureAddr,Sem.run_bind,Sem.run_pure,Result.andThen_ok,hv]
 unfold zn at hd⊢;cases hl:aJ P t with
 |none=>rw[hl]at hd;cases hd
 |some p=>
  obtain⟨bb,n⟩:=p;rw[hl]at hd;cases bb with
  |false=>
   simp only at hd⊢;unfold ld1 at hd⊢;split at hd
   ·rename_i b k hm;rw[hm]at hf;simp only[hm]at hd⊢;obtain⟨_,hbn,hv⟩:=hf;have hbl:b<st.h.length:=h.n▸hbn;obtain⟨arr,T,h1,⟨h2,_⟩,h3⟩:=hb.blocks b (st.h[b]) (List.getElem?_eq_getElem hbl);simp only[List.getD,List.getElem?_eq_getElem hbl,Option.getD_some]at hd;obtain⟨hin,hs⟩:=h3 k ((st.h[b])[k]) (List.getElem?_eq_getElem hd);have hval:an g a w (.cell b k)=arr.getD k undef:=by simp[an,h1]
    have hrun':=hrun _ (arr.getD k undef) hv (nc w _ _ hl (by rw[cell_of h1];simp[Array.getD,h2,hd]));have hpg:aa st (.cell b k)=(st.h[b])[k]:=by simp[aa,List.getElem?_eq_getElem hbl,List.getElem?_eq_getElem hd]
    refine⟨_,hrun',?_⟩;unfold xv;rw[hpg];cases hsv:(st.h[b])[k]with
    |pv y=>rw[hsv]at hs;exact⟨⟨rfl,hs.2⟩,trivial⟩
    |own nw e rows=>exact⟨rfl,fun _=>hval.symm⟩
    |omap nw es=>exact⟨rfl,fun _=>hval.symm⟩
    |al p=>rw[hsv]at hin;cases hin
    |loc p i j=>rw[hsv]at hin;cases hin
    |sptr p i j=>rw[hsv]at hin;cases hin
    |agl xs=>rw[hsv]at hin;cases hin
    |opt c y=>rw[hsv]at hin;cases hin
   ·rename_i e rows i k hm;rw[hm]at hf;simp only[hm]at hd⊢;obtain⟨_,c,off,arr,T,fz,vs,hv,h2,h3,h4⟩:=hf;obtain⟨v,hr,hfv⟩:=JH hl (h.I _ _ h2) h3 h4 hd.1 hd.2;exact⟨v,hrun _ v hv hr,⟨rfl,hfv⟩,trivial⟩
   ·rename_i p i k hm;rw[hm]at ha;split at hd
    ·rename_i nw e rows hp;simp only[hp];obtain⟨c,n',cp,hpv,hv⟩:=ha nw e rows hp;have:=aX hb (p:=p) (by rw[hp];rfl);rw[hp]at this;rcases this with⟨_,rfl,_⟩|⟨c',_,cap,arr,T,vs,e1,e2,_,_,e5,e6,_⟩
     ·simp at hd
     ·rw[e1]at hpv;cases hpv;obtain⟨v,hr,hfv⟩:=JH (off:=0) hl e2 e5 (by simpa using e6) hd.1 hd.2;refine⟨v,hrun _ v hv (by simpa using hr),⟨rfl,hfv⟩,trivial⟩
    ·cases hd
   ·cases hd
  |true=>
   simp only at hd⊢;unfold Ml at hd⊢;split at hd
   ·rename_i b k hm;rw[hm]at hf;simp only[hm]at hd⊢;obtain⟨_,hbn,hv⟩:=hf;have hbl:b<st.h.length:=h.n▸hbn;obtain⟨arr,T,h1,⟨h2,_⟩,h3⟩:=hb.blocks b (st.h[b]) (List.getElem?_eq_getElem hbl);simp only[List.getD,List.getElem?_eq_getElem hbl,Option.getD_some]at hd⊢;have hlen:(((arr.toList).drop k).take n).length=n:=by simp;omega
    refine⟨_,hrun _ _ hv (oJ w _ (((arr.toList).drop k).take n) hl hlen (fun j v hv=>?_)),⟨rfl,_,rfl,?_⟩,trivial⟩
    ·rw[List.getElem?_take]at hv;split at hv
     ·rw[List.getElem?_drop,Array.getElem?_toList]at hv;rw[Addr.add_lit,cell_of h1];exact hv
     ·cases hv
    ·have key:∀(xs:List SV)(us:List Value),xs.length=us.length→(∀x∈xs,tD x)→(∀(j:Nat)(x:SV)(u:Value),xs[j]?=some x→us[j]?=some u→∃b':Option Nat,av g w x u b')→ai g (xs.map j8) us:=by
      intro xs
      induction xs with
      |nil=>intro us hl _ _;cases us with
       |nil=>simp[ai]
       |cons _ _=>simp at hl
      |cons x xs ih=>
       intro us hl hp hs;cases us with
       |nil=>simp at hl
       |cons u us=>
        refine⟨u,us,rfl,?_,ih us (by simpa using hl) (fun y hy=>hp y (List.mem_cons_of_mem _ hy)) (fun j y v hy hv=>hs (j+1) y v (by simpa using hy) (by simpa using hv))⟩;obtain⟨b',hx⟩:=hs 0 x u rfl rfl;rw[lA (hp x (List.mem_cons_self ..))]at hx;exact hx.2
     refine key _ _ (by simp;omega) hd.2 (fun j x u hx hu=>?_);rw[List.getElem?_take]at hx hu;split at hx
     ·rename_i hj;rw[if_pos hj]at hu;rw[List.getElem?_drop]at hx hu;obtain⟨_,hs⟩:=h3 (k+j) x hx;refine⟨bl (.cell b (k+j)),?_⟩;have:arr.getD (k+j) undef=u:=by
       rw[Array.getElem?_toList]at hu;simp[Array.getD_eq_getD_getElem?,hu]
      rw[←this];exact hs
     ·cases hx
   ·rename_i e rows i k hm;rw[hm]at hf;simp only[hm]at hd⊢;obtain⟨_,c,off,arr,T,fz,vs,hv,h2,h3,h4⟩:=hf;obtain⟨v,hr,hfv⟩:=JI hl (h.I _ _ h2) h3 h4 hd.1 hd.2;exact⟨v,hrun _ v hv hr,⟨rfl,hfv⟩,trivial⟩
   ·rename_i p i k hm;rw[hm]at ha;split at hd
    ·rename_i nw e rows hp;simp only[hp];obtain⟨c,n',cp,hpv,hv⟩:=ha nw e rows hp;have:=aX hb (p:=p) (by rw[hp];rfl);rw[hp]at this;rcases this with⟨_,rfl,_⟩|⟨c',_,cap,arr,T,vs,e1,e2,_,_,e5,e6,_⟩
     ·simp at hd
     ·rw[e1]at hpv;cases hpv;obtain⟨v,hr,hfv⟩:=JI (off:=0) hl e2 e5 (by simpa using e6) hd.1 hd.2;refine⟨v,hrun _ v hv (by simpa using hr),⟨rfl,hfv⟩,trivial⟩
    ·cases hd
   ·cases hd
end Go.AX
namespace Go.AX
/-! ### Small ones -/
def IX(op:UnOp)(x:SV):SV×Prop:=
 match op with
 |.not=>(.bool (!pD x),xo x)
 |.neg=>(.int (fk x) ((fk x).wrap (0 -aQ x)),fl x)
 |_=>(.pv .bot,False)
theorem CD{P:Program}{st:St}(o:Oper)(op:UnOp)(t:TypeId)(x:Operand)(ho:o.op=.unOp op t x):
 g8 P st o ((IX op (mv st x)).1,gc st x∧(IX op (mv st x)).2):=by
 intro g a w h ⟨hx,hd⟩;unfold IX at hd⊢;simp only[execOp,ho];cases op<;>simp only at hd⊢
 case not=>
  rw[jd h hx hd];simp only[Op.unary,Sem.run_bind,Sem.run_pure,Result.andThen_ok];exact⟨_,fun _=>rfl,⟨rfl,rfl⟩,trivial⟩
 case neg=>
  rw[bD h hx hd];simp only[Op.unary,Op.intArith,Sem.run_bind,Sem.run_pure,Result.andThen_ok];exact⟨_,fun _=>rfl,⟨rfl,rfl⟩,trivial⟩
 all_goals exact hd.elim
theorem tE{P:Program}{st:St}(o:Oper)(x:Operand)(ho:o.op=.move x∨o.op=.assign x):
 g8 P st o (mv st x,gc st x):=by
 intro g a w h hx;obtain⟨hf,ha⟩:=aL h x hx;exact⟨a.eval x,fun _=>by rcases ho with ho|ho<;>simp[execOp,ho],hf,ha⟩
def u7(c x y:SV):SV×Prop:=
 (.bool (bif pD c then pD x else pD y),xo c∧(pD c=true→xo x)∧(pD c=false→xo y))
theorem u9{P:Program}{st:St}(o:Oper)(c x y:Operand)(ho:o.op=.pick c x y):
 g8 P st o ((u7 (mv st c) (mv st x) (mv st y)).1,gc st c∧(pD (mv st c)=true→gc st x)∧(pD (mv st c)=false→gc st y)∧(u7 (mv st c) (mv st x) (mv st y)).2):=by
 intro g a w h ⟨hc,hx,hy,hd⟩;obtain⟨h1,h2,h3⟩:=hd;simp only[execOp,ho];rw[jd h hc h1];simp only[asBool,Sem.run_bind,Sem.run_pure,Result.andThen_ok];cases hb:pD (mv st c)with
 |true=>
  refine⟨_,fun _=>rfl,⟨rfl,?_⟩,trivial⟩;simp only[if_true,jd h (hx hb) (h2 hb),hb,cond_true];rfl
 |false=>
  refine⟨_,fun _=>rfl,⟨rfl,?_⟩,trivial⟩;simp only[Bool.false_eq_true,if_false,jd h (hy hb) (h3 hb),hb,cond_false];rfl
def A2(i:Nat)(x:SV):SV×Prop:=
 match x with
 |.pv (.tup xs)=>(.pv (xs.getD i .bot),i<xs.length)
 |_=>(.pv .bot,False)
theorem zp{P:Program}{st:St}(o:Oper)(x:Operand)(i:Nat)(ho:o.op=.extract x i):
 g8 P st o ((A2 i (mv st x)).1,gc st x∧(A2 i (mv st x)).2):=by
 intro g a w h ⟨hx,hd⟩;obtain⟨hf,_⟩:=aL h x hx;unfold A2 at hd⊢;split at hd
 ·rename_i xs hm;rw[hm]at hf;simp only[hm]at hd⊢;obtain⟨_,vs,hv,hl⟩:=hf;obtain⟨v,hv',hf'⟩:=hl.get i _ (List.getElem?_eq_getElem hd);refine⟨v,?_,⟨rfl,by simpa[List.getD,List.getElem?_eq_getElem hd]using hf'⟩,trivial⟩;have:vs[i]?=some v:=by rw[←Array.getElem?_toList];exact hv'
  intro w';simp[execOp,ho,hv,Instr.extract,this]
 ·cases hd
def aK:PV→List PV
 |.agg xs=>xs
 |.lit (.agg vs)=>vs.toList.map .lit
 |x=>[x]
def tF(P:Program)(t:TypeId)(f:Nat):Option (Nat×Bool×Nat):=
 match P.underlying t with
 |some (.struct fs)=>match fs[f]?with
  |some x=>(aJ P x.type).map fun p=>(x.offset,p)
  |none=>none
 |_=>none
def cY:SV→Prop
 |.pv (.agg _)=>True
 |.pv (.lit (.agg _))=>True
 |_=>False
def sa(P:Program)(t:TypeId)(f:Nat)(x:SV):SV×Prop:=
 match tF P t f with
 |some (off,false,_)=>(.pv ((aK (j8 x)).getD off .bot),cY x∧off<(aK (j8 x)).length)
 |some (off,true,n)=>(.pv (.agg (((aK (j8 x)).drop off).take n)),cY x∧off+n≤(aK (j8 x)).length)
 |none=>(.pv .bot,False)
theorem pY{g:Gh}{w:World}{x:SV}{v:Value}(h:av g w x v none)(hs:cY x):∃vs:Array Value,v=.agg vs∧ai g (aK (j8 x)) vs.toList:=by
 unfold cY at hs;split at hs
 ·obtain⟨_,vs,rfl,hl⟩:=h;exact⟨vs,rfl,hl⟩
 ·rename_i vs;have h2:v=.agg vs:=h.2;subst h2;refine⟨vs,rfl,?_⟩;show ai g (vs.toList.map PV.lit) vs.toList
  induction vs.toList with
  |nil=>simp[ai]
  |cons u us ih=>exact⟨u,us,rfl,rfl,ih⟩
 ·cases hs
theorem vb{P:Program}{t:TypeId}{n:Nat}(w:World)(cs:Array Value)(off:Nat)(h:aJ P t=some (true,n)):
 (part t cs off).run P w=.ok (.agg (cs.extract off (off+n))) w:=by
 obtain⟨h1,h2⟩:=gt h w;simp[part,h1,h2]
theorem sb{P:Program}{t:TypeId}{n:Nat}(w:World)(cs:Array Value)(off:Nat)(v:Value)(h:aJ P t=some (false,n))(hv:cs[off]?=some v):
 (part t cs off).run P w=.ok v w:=by
 obtain⟨h1,_⟩:=gt h w;simp[part,h1,hv]
theorem vc{P:Program}{st:St}(o:Oper)(t:TypeId)(x:Operand)(f:Nat)(ho:o.op=.field t x f):
 g8 P st o ((sa P t f (mv st x)).1,gc st x∧(sa P t f (mv st x)).2):=by
 intro g a w h ⟨hx,hd⟩;obtain⟨hf,_⟩:=aL h x hx;unfold sa at hd⊢;cases hi:tF P t f with
 |none=>rw[hi]at hd;cases hd
 |some q=>
  obtain⟨off,b,n⟩:=q;rw[hi]at hd;unfold tF at hi;split at hi
  case h_2=>cases hi
  rename_i fs hu;split at hi
  case h_2=>cases hi
  rename_i fd hfd;simp only[Option.map_eq_some_iff,Prod.mk.injEq]at hi;obtain⟨q,hl,rfl,hq⟩:=hi;rw[hq]at hl;clear hq;cases b with
  |false=>
   simp only at hd⊢;obtain⟨vs,hv,hfl⟩:=pY hf hd.1;obtain⟨v,hv',hf'⟩:=hfl.get _ _ (List.getElem?_eq_getElem hd.2);refine⟨v,?_,⟨rfl,by simpa[List.getD,List.getElem?_eq_getElem hd.2]using hf'⟩,trivial⟩;intro w';simp[execOp,ho,hv,Instr.field,run_underlying hu,hfd,asAgg,sb w' vs fd.offset v hl (by rw[←Array.getElem?_toList];exact hv')]
  |true=>
   simp only at hd⊢;obtain⟨vs,hv,hfl⟩:=pY hf hd.1;refine⟨.agg (vs.extract fd.offset (fd.offset+n)),?_,⟨rfl,_,rfl,?_⟩,trivial⟩
   ·intro w';simp[execOp,ho,hv,Instr.field,run_underlying hu,hfd,asAgg,vb w' vs fd.offset hl]
   ·have:=(hfl.drop fd.offset).take n;rw[Array.toList_extract];simpa[List.extract]using this
def CE(P:Program)(t:TypeId):Option IntKind:=
 match P.underlying t with
 |some (.int k)=>some k
 |_=>none
def A3(P:Program)(src dst:TypeId)(x:SV):SV×Prop:=
 match CE P src,CE P dst with
 |some _,some k=>(.int k (k.wrap (aQ x)),fl x)
 |_,_=>match P.underlying src,P.underlying dst with
  |some .string,some .string=>(.pv (.lit (.string (jK x))),pE x)
  |_,_=>(.pv .bot,False)
theorem zr{P:Program}{st:St}(o:Oper)(src dst:TypeId)(x:Operand)(ho:o.op=.convert src dst x):
 g8 P st o ((A3 P src dst (mv st x)).1,gc st x∧(A3 P src dst (mv st x)).2):=by
 intro g a w h ⟨hx,hd⟩;unfold A3 at hd⊢;split at hd
 ·rename_i k1 k h1 h2;simp only[h1,h2]at hd⊢;unfold CE at h1 h2;split at h1
  case h_2=>cases h1
  rename_i hu1;split at h2
  case h_2=>cases h2
  rename_i hu2;cases h2
  refine⟨_,?_,⟨rfl,rfl⟩,trivial⟩;intro w';simp[execOp,ho,bD h hx hd,convert,run_underlying hu1,run_underlying hu2,Conv.intToInt]
 ·split at hd
  ·rename_i h1 h2;refine⟨.string (jK (mv st x)),?_,?_,?_⟩
   ·intro w';simp[execOp,ho,nW h hx hd,convert,run_underlying h1,run_underlying h2]
   ·exact⟨rfl,rfl⟩
   ·trivial
  ·cases hd
def IY(st:St)(x:SV):SV×Prop:=
 match x with
 |.pv (.ptr b o)=>(.pv (.ptr b o),True)
 |.pv (.iptr e r i k)=>(.pv (.iptr e r i k),True)
 |.pv (.fn (.func f) a b)=>(.pv (.fn (.func f) a b),True)
 |.pv (.lit (.func (.func f) a b))=>(.pv (.lit (.func (.func f) a b)),True)
 |.sptr p i k=>(.sptr p i k,live st (.sptr p i k))
 |_=>(.pv .bot,False)
theorem CF{P:Program}{st:St}(o:Oper)(x:Operand)(ho:o.op=.nilCheck x):
 g8 P st o ((IY st (mv st x)).1,gc st x∧(IY st (mv st x)).2):=by
 intro g a w h ⟨hx,hd⟩;obtain⟨hf,_⟩:=aL h x hx;unfold IY at hd⊢;split at hd
 ·rename_i hm;rw[hm]at hf;simp only[hm];obtain⟨_,h1,hv⟩:=hf;exact⟨_,fun _=>by simp[execOp,ho,hv],⟨rfl,h1,rfl⟩,trivial⟩
 ·rename_i hm;rw[hm]at hf;simp only[hm];obtain⟨_,c,off,arr,T,fz,vs,hv,hr⟩:=hf;exact⟨_,fun _=>by simp[execOp,ho,hv],⟨rfl,c,off,arr,T,fz,vs,rfl,hr⟩,trivial⟩
 ·rename_i hm;rw[hm]at hf;simp only[hm];obtain⟨_,p,q,hv,hr⟩:=hf;exact⟨_,fun _=>by simp[execOp,ho,hv],⟨rfl,p,q,rfl,hr⟩,trivial⟩
 ·rename_i hm;rw[hm]at hf;simp only[hm];have hv:a.eval x=_:=hf.2;exact⟨_,fun _=>by simp[execOp,ho,hv],⟨rfl,rfl⟩,trivial⟩
 ·rename_i p i k hm;obtain⟨_,ha⟩:=aL h x hx;rw[hm]at ha;simp only[hm];unfold live at hd;cases hps:aa st p<;>simp only[hps]at hd
  obtain⟨c,n,cp,h1,hv⟩:=ha _ _ _ hps;exact⟨_,fun _=>by simp[execOp,ho,hv];rfl,rfl,fun nw' e' rows' hp'=>⟨c,n,cp,h1,by rw[hps]at hp';cases hp';rfl⟩⟩
 ·cases hd
/-! ### Slice expressions -/
def Hs(l h:Nat):SV→SV
 |.pv (.seq nw e rows)=>.pv (.seq nw e ((rows.take h).drop l))
 |.pv (.lit v)=>.pv (.lit v)
 |.al p=>.loc p l h
 |.loc p lo _=>.loc p (lo+l) (lo+h)
 |_=>.pv .bot
def bnd(st:St)(d:Nat):Option Operand→Int
 |none=>d
 |some x=>aQ (mv st x)
def cH(st:St):Option Operand→Prop
 |none=>True
 |some x=>gc st x∧fl (mv st x)
def A4(P:Program)(st:St)(t:TypeId)(x:SV)(lo hi:Option Operand):SV×Prop:=
 match bg P t with
 |some e=>match x with
  | .pv (.bsl b e' off n cap) => (.pv (.bsl b e (off + (bnd st 0 lo).toNat * e) ((bnd st n hi).toNat - (bnd st 0 lo).toNat) (cap - (bnd st 0 lo).toNat)),
   e'=e∧cH st lo∧cH st hi∧0≤bnd st 0 lo∧bnd st 0 lo≤bnd st n hi∧bnd st n hi≤n∧bnd st 0 lo<cap)
  | x => (Hs (bnd st 0 lo).toNat (bnd st (rowsOf st x).length hi).toNat x,
   ia st e x∧cH st lo∧cH st hi∧0≤bnd st 0 lo∧bnd st 0 lo≤bnd st (rowsOf st x).length hi∧bnd st (rowsOf st x).length hi≤(rowsOf st x).length)
 |none=>match P.underlying t with
  | some .string => (.pv (.lit (.string ((jK x).extract (bnd st 0 lo).toNat (bnd st (jK x).size hi).toNat))),
   pE x∧cH st lo∧cH st hi∧0≤bnd st 0 lo∧bnd st 0 lo≤bnd st (jK x).size hi∧bnd st (jK x).size hi≤(jK x).size)
  |_=>(.pv .bot,False)
theorem jg{P:Program}{st:St}{g:Gh}{a:Act}{w:World}(h:Sim g st a w)(pE:Bool)(len cap:Nat)(lo hi:Option Operand)(hlo:cH st lo)(hhi:cH st hi)
 (h0:0≤bnd st 0 lo) (h1:bnd st 0 lo≤bnd st len hi) (h2:bnd st len hi≤len) (hc:len≤cap):
 ∀w':World,(Instr.sliceBounds pE len cap (lo.map a.eval) (hi.map a.eval) none).run P w'=.ok ((bnd st 0 lo).toNat,(bnd st len hi).toNat,cap) w':=by
 intro w';cases hi with
 |none=>
  cases lo with
  |none=>simp[Instr.sliceBounds,bnd]
  |some l=>
   simp only[bnd,cH]at*;simp only[Instr.sliceBounds,Option.map_none,Option.map_some,bD h hlo.1 hlo.2,Sem.run_bind,Sem.run_pure,Result.andThen_ok,run_sliceBound w' _ _ _ _ h0 h1];simp
 |some u=>
  cases lo with
  |none=>
   simp only[bnd,cH]at*;simp only[Instr.sliceBounds,Option.map_none,Option.map_some,bD h hhi.1 hhi.2,Sem.run_bind,Sem.run_pure,Result.andThen_ok,run_sliceBound w' _ _ cap _ h1 (by omega)];simp
  |some l=>
   simp only[bnd,cH]at*;have e1:((aQ (mv st u)).toNat:Int)=aQ (mv st u):=Int.toNat_of_nonneg (by omega);simp only[Instr.sliceBounds,Option.map_some,bD h hhi.1 hhi.2,bD h hlo.1 hlo.2,Sem.run_bind,Sem.run_pure,Result.andThen_ok,run_sliceBound w' _ _ cap _ (by omega:(0:Int)≤aQ (mv st u)) (by omega),
    run_sliceBound w' _ _ _ _ h0 (by rw[e1];exact h1)]
theorem au.cut{g:Gh}{e:Nat}{rows:List (List PV)}{vs:List Value}(h:au g e rows vs)(l u:Nat)(hl:l≤u)(hu:u≤rows.length):
 au g e ((rows.take u).drop l) ((vs.take (u*e)).drop (l*e)):=by
 obtain⟨v1,v2,e1,h1,h2⟩:=au.split (xs:=rows.take u) (ys:=rows.drop u) (by rw[List.take_append_drop];exact h);have l1:v1.length=u*e:=by rw[h1.length,List.length_take];congr 1;omega
 have:vs.take (u*e)=v1:=by rw[e1,←l1,List.take_left'];rfl
 rw[this];obtain⟨u1,u2,e2,h3,h4⟩:=au.split (xs:=(rows.take u).take l) (ys:=(rows.take u).drop l) (by rw[List.take_append_drop];exact h1);have l2:u1.length=l*e:=by rw[h3.length,List.length_take,List.length_take];congr 1;omega
 rw[e2,←l2,List.drop_left']
 ·exact h4
 ·rfl
theorem gC{vs m:List Value}(h:vs<+:m)(l u:Nat):(vs.take u).drop l<+:m.drop l:=by
 obtain⟨r,hr⟩:=(List.take_prefix u vs).trans h
 by_cases hl:l≤(vs.take u).length
 ·exact⟨r,by rw[←hr,List.drop_append_of_le_length hl]⟩
 ·rw[List.drop_eq_nil_of_le (by omega)];exact List.nil_prefix
theorem zt{P:Program}{st:St}(o:Oper)(t:TypeId)(x:Operand)(lo hi:Option Operand)(ho:o.op=.slice t x lo hi none):
 g8 P st o ((A4 P st t (mv st x) lo hi).1,gc st x∧(A4 P st t (mv st x) lo hi).2):=by
 intro g a w h ⟨hx,hd⟩;unfold A4 at hd⊢;cases hs:bg P t with
 |some e=>
  rw[hs]at hd;simp only at hd⊢;split at hd
  ·rename_i b e' off n cap hm;obtain⟨rfl,h2,h3,h4,h5,h6,h7⟩:=hd;obtain⟨hf,_⟩:=aL h x hx;rw[hm]at hf;obtain⟨_,hb,hcap,hv⟩:=hf;unfold bg at hs;split at hs
   case h_2=>cases hs
   rename_i el hu;simp only[Option.map_eq_some_iff]at hs;obtain⟨inf,hinf,rfl⟩:=hs;refine⟨sliced (some ⟨g.μ b,off,none⟩) (bnd st 0 lo).toNat (bnd st n hi).toNat cap inf.size,?_,⟨rfl,hb,by omega,?_⟩,trivial⟩
   ·intro w';simp only[execOp,ho,hv,Option.map_none];simp only[Instr.sliceAt,Sem.run_bind,run_underlying hu,Result.andThen_ok,Instr.slice,jg h true _ cap lo hi h2 h3 h4 h5 h6 hcap,run_sizeOf hinf,Sem.run_pure,sliced]
   ·rw[sliced,if_neg (by omega)];simp[Addr.add_lit]
  rename_i hnb;obtain⟨h1,h2,h3,h4,h5,h6⟩:=hd;obtain⟨q,cap,hv,hcap⟩:=lz h hx h1;obtain⟨hf,ha⟩:=aL h x hx;unfold bg at hs;split at hs
  case h_2=>cases hs
  rename_i el hu;simp only[Option.map_eq_some_iff]at hs;obtain⟨inf,hinf,rfl⟩:=hs;generalize hL:(bnd st 0 lo).toNat=L at*;generalize hU:(bnd st (rowsOf st (mv st x)).length hi).toNat=U at*;have hLU:L≤U:=by omega
  have hUn:U≤(rowsOf st (mv st x)).length:=by omega
  refine⟨sliced q L U cap inf.size,?_,?_⟩
  ·intro w';simp only[execOp,ho,hv,Option.map_none];simp only[Instr.sliceAt,Sem.run_bind,run_underlying hu,Result.andThen_ok,Instr.slice,jg h true _ cap lo hi h2 h3 h4 h5 h6 hcap,run_sizeOf hinf,Sem.run_pure,hL,hU,sliced]
  ·unfold ia at h1;split at h1
   ·rename_i nw e' rows hm;subst h1;rw[hm]at hf hv hcap hUn⊢;simp only[rowsOf]at hUn hcap hv;refine⟨⟨rfl,?_⟩,trivial⟩;obtain⟨_,q',cap',hv',_,hr⟩:=hf;rw[hv']at hv;cases hv;refine⟨_,_,by rw[sliced,List.length_drop,List.length_take,Nat.min_eq_left hUn],by simp;omega,?_⟩;rcases hr with rfl|⟨c,off,arr,T,fz,vs,rfl,i2,i3,i4,i5⟩
    ·left;simp
    ·by_cases hc:cap=L
     ·left;simp;omega
     ·right;refine⟨c,off+L*inf.size,arr,T,fz,(vs.take (U*inf.size)).drop (L*inf.size),by rw[if_neg hc];simp[Addr.add_lit],i2,i3,i4.cut L U hLU hUn,?_⟩;have:=gC i5 (L*inf.size) (U*inf.size)
      rwa [List.drop_drop]at this
   ·rename_i v hm;rw[hm]at hf hv hUn⊢;obtain⟨_,hv'⟩:=hf;rw[fq h1]at hv';simp only[rowsOf,List.length_nil]at hUn;rw[hv']at hv;cases hv;have hU0:U=0:=by omega
    have hL0:L=0:=by omega
    refine⟨⟨rfl,?_⟩,trivial⟩;show sliced none _ _ 0 inf.size=v;rw[fq h1,hU0,hL0];simp[sliced]
   ·rename_i p hm;rw[hm]at ha hUn hv hcap⊢;split at h1
    ·rename_i nw e' rows hp;subst h1;obtain⟨bl,hb⟩:=h.own;have hv':=ha (by rw[hp];rfl);simp only[rowsOf,hp]at hUn hv hcap;refine⟨rfl,fun nw' e' rows' hp'=>?_⟩;rw[hp]at hp';cases hp';refine⟨hLU,hUn,_,_,rfl,by omega,?_,fun hL0=>?_⟩;rotate_left
     ·subst hL0;refine⟨rows.length,?_⟩;have hv2:=hv;rw[hv']at hv2;rw[hv2];have hfp:=aX hb (p:=p) (by rw[hp];rfl);rw[hp,hv2]at hfp;have hq0:q.map (·.add (0*inf.size))=q:=by
       rcases hfp with⟨_,_,e1⟩|⟨c,_,cap',arr,T,vs,e1,_⟩
       ·simp only[Value.slice.injEq]at e1;rw[e1.1];rfl
       ·simp only[Value.slice.injEq]at e1;rw[e1.1];simp[Addr.add_lit]
      rw[hq0];simp
     by_cases hlu:L=U
     ·exact .inl hlu
     ·right;have:=aX hb (p:=p) (by rw[hp];rfl);rw[hp]at this;rcases this with⟨_,rfl,e1⟩|⟨c,_,cap',arr,T,vs,e1,_⟩
      ·simp at hUn;omega
      ·rw[hv',e1]at hv;cases hv;refine⟨c,_,_,e1,?_⟩;rw[if_neg (by omega)];simp[Addr.add_lit]
    ·cases h1
   ·rename_i p lo' hi' hm;rw[hm]at ha hUn hv hcap⊢;split at h1
    ·rename_i nw e' rows hp;subst h1;obtain⟨j1,j2,q',cap',hv',jc,hq,hz⟩:=ha _ _ _ hp;simp only[rowsOf,hp,List.length_drop,List.length_take]at hUn hv hcap;rw[hv']at hv;simp only[Value.slice.injEq]at hv;obtain⟨rfl,_,rfl⟩:=hv;refine⟨rfl,fun nw' e' rows' hp'=>?_⟩;rw[hp]at hp';cases hp';refine⟨by omega,by omega,_,_,by rw[sliced];congr 1;omega,by omega,?_,fun hL0=>?_⟩;rotate_left
     ·have h0:lo'=0:=by omega
      have hL:L=0:=by omega
      obtain⟨n0,hz⟩:=hz h0;refine⟨n0,?_⟩;rw[hz];subst hL;have hfp:=aX (Classical.choose_spec h.own) (p:=p) (by rw[hp];rfl);rw[hp,hz]at hfp;have hq0:q'.map (·.add (0*inf.size))=q':=by
       rcases hfp with⟨_,_,e1⟩|⟨c,_,cap',arr,T,vs,e1,_⟩
       ·simp only[Value.slice.injEq]at e1;rw[e1.1];rfl
       ·simp only[Value.slice.injEq]at e1;rw[e1.1];simp[Addr.add_lit]
      rw[hq0];simp
     by_cases hlu:L=U
     ·left;omega
     ·right;rcases hq with rfl|⟨c,n,cp,hpv,rfl⟩
      ·omega
      ·refine⟨c,n,cp,hpv,?_⟩;rw[if_neg (by omega)];simp[Addr.add_lit,Nat.add_mul]
    ·cases h1
   ·cases h1
 |none=>
  rw[hs]at hd;simp only at hd⊢;split at hd
  ·rename_i hu;obtain⟨h1,h2,h3,h4,h5,h6⟩:=hd;refine⟨.string ((jK (mv st x)).extract (bnd st 0 lo).toNat (bnd st (jK (mv st x)).size hi).toNat),?_,⟨rfl,rfl⟩,trivial⟩;intro w';simp only[execOp,ho,nW h hx h1,Option.map_none];simp only[Instr.sliceAt,Sem.run_bind,run_underlying hu,Result.andThen_ok,Instr.slice,Option.isSome_none,Bool.false_eq_true,if_false,jg h false _ _ lo hi h2 h3 h4 h5 h6 (Nat.le_refl _),Sem.run_pure]
  ·cases hd
/-! ### A slice of one's own, cut at both ends and no longer than that -/
theorem oL{P:Program}{st:St}{g:Gh}{a:Act}{w:World}(h:Sim g st a w)(len cap:Nat)(lo hi m:Operand)(hlo:cH st (some lo))(hhi:cH st (some hi))(hm:cH st (some m))(he:aQ (mv st m)=aQ (mv st hi))
 (h0:0≤aQ (mv st lo)) (h1:aQ (mv st lo)≤aQ (mv st hi)) (h2:aQ (mv st hi)≤len) (hc:len≤cap):
 ∀w':World,(Instr.sliceBounds true len cap (some (a.eval lo)) (some (a.eval hi)) (some (a.eval m))).run P w'=.ok ((aQ (mv st lo)).toNat,(aQ (mv st hi)).toNat,(aQ (mv st hi)).toNat) w':=by
 intro w';simp only[cH]at*;have e1:((aQ (mv st hi)).toNat:Int)=aQ (mv st hi):=Int.toNat_of_nonneg (by omega);simp only[Instr.sliceBounds,bD h hhi.1 hhi.2,bD h hlo.1 hlo.2,bD h hm.1 hm.2,he,Sem.run_bind,Sem.run_pure,Result.andThen_ok,run_sliceBound w' _ _ cap _ (by omega:(0:Int)≤aQ (mv st hi)) (by omega),
  run_sliceBound w' _ _ (aQ (mv st hi)).toNat _ (by omega:(0:Int)≤aQ (mv st hi)) (by omega),run_sliceBound w' _ _ (aQ (mv st hi)).toNat _ h0 (by rw[e1];exact h1)]
def se(P:Program)(st:St)(t:TypeId)(x:SV)(lo hi m:Operand):SV×Prop:=
 match bg P t,x with
 |some e,.al p=>(.loc p (aQ (mv st lo)).toNat (aQ (mv st hi)).toNat,ia st e x∧cH st (some lo)∧cH st (some hi)∧cH st (some m)∧aQ (mv st m)=aQ (mv st hi)∧0<aQ (mv st lo)∧aQ (mv st lo)≤aQ (mv st hi)∧aQ (mv st hi)≤(rowsOf st x).length)
 |some e,.pv (.seq nw e' rows)=>(.pv (.seq nw e' ((rows.take (aQ (mv st hi)).toNat).drop (aQ (mv st lo)).toNat)),e'=e∧cH st (some lo)∧cH st (some hi)∧cH st (some m)∧aQ (mv st m)=aQ (mv st hi)∧0≤aQ (mv st lo)∧aQ (mv st lo)≤aQ (mv st hi)∧aQ (mv st hi)≤rows.length)
 |_,_=>(.pv .bot,False)
theorem CG{P:Program}{st:St}(o:Oper)(t:TypeId)(x lo hi m:Operand)(ho:o.op=.slice t x (some lo) (some hi) (some m)):
 g8 P st o ((se P st t (mv st x) lo hi m).1,gc st x∧(se P st t (mv st x) lo hi m).2):=by
 intro g a w h ⟨hx,hd⟩;unfold se at hd⊢;split at hd
 case h_3=>exact hd.elim
 case h_2=>
  rename_i e nw e' rows hs hm;obtain⟨rfl,h2,h3,h4,h5,h6,h7,h8⟩:=hd;obtain⟨q,cap,hv,hcap⟩:=lz (e:=e') h hx (by rw[hm];rfl);obtain⟨hf,ha⟩:=aL h x hx;unfold bg at hs;split at hs
  case h_2=>cases hs
  rename_i el hu;simp only[Option.map_eq_some_iff]at hs;obtain⟨inf,hinf,rfl⟩:=hs;rw[hm]at hf hv hcap;simp only[rowsOf]at hcap hv;generalize hL:(aQ (mv st lo)).toNat=L at*;generalize hU:(aQ (mv st hi)).toNat=U at*;have hLU:L≤U:=by omega
  have hUn:U≤rows.length:=by omega
  refine⟨sliced q L U U inf.size,?_,⟨rfl,?_⟩,trivial⟩
  ·intro w';simp only[execOp,ho,hv,Option.map_some];simp only[Instr.sliceAt,Sem.run_bind,run_underlying hu,Result.andThen_ok,Instr.slice,oL h rows.length cap lo hi m h2 h3 h4 h5 h6 h7 h8 hcap,run_sizeOf hinf,Sem.run_pure,hL,hU,sliced]
  ·obtain⟨_,q',cap',hv',_,hr⟩:=hf;rw[hv']at hv;cases hv;refine⟨_,_,by rw[sliced,List.length_drop,List.length_take,Nat.min_eq_left hUn],by simp;omega,?_⟩;rcases hr with rfl|⟨c,off,arr,T,fz,vs,rfl,i2,i3,i4,i5⟩
   ·left;simp
   ·by_cases hc:U=L
    ·left;simp;omega
    ·right;refine⟨c,off+L*inf.size,arr,T,fz,(vs.take (U*inf.size)).drop (L*inf.size),by rw[if_neg hc];simp[Addr.add_lit],i2,i3,i4.cut L U hLU hUn,?_⟩;have:=gC i5 (L*inf.size) (U*inf.size)
     rwa [List.drop_drop]at this
 rename_i e p hs hm;obtain⟨h1,h2,h3,h4,h5,h6,h7,h8⟩:=hd;obtain⟨q,cap,hv,hcap⟩:=lz h hx h1;obtain⟨hf,ha⟩:=aL h x hx;unfold bg at hs;split at hs
 case h_2=>cases hs
 rename_i el hu;simp only[Option.map_eq_some_iff]at hs;obtain⟨inf,hinf,rfl⟩:=hs;generalize hL:(aQ (mv st lo)).toNat=L at*;generalize hU:(aQ (mv st hi)).toNat=U at*;have hLU:L≤U:=by omega
 have hL0:0<L:=by omega
 have hUn:U≤(rowsOf st (mv st x)).length:=by omega
 refine⟨sliced q L U U inf.size,?_,?_⟩
 ·intro w';simp only[execOp,ho,hv,Option.map_some];simp only[Instr.sliceAt,Sem.run_bind,run_underlying hu,Result.andThen_ok,Instr.slice,oL h _ cap lo hi m h2 h3 h4 h5 (by omega) h7 h8 hcap,run_sizeOf hinf,Sem.run_pure,hL,hU,sliced]
 ·rw[hm]at ha hUn hv hcap h1⊢;unfold ia at h1;simp only at h1;split at h1
  ·rename_i nw e' rows hp;subst h1;obtain⟨bl,hb⟩:=h.own;have hv':=ha (by rw[hp];rfl);simp only[rowsOf,hp]at hUn hv hcap;refine⟨rfl,fun nw' e' rows' hp'=>?_⟩;rw[hp]at hp';cases hp';refine⟨hLU,hUn,_,U -L,rfl,Nat.le_refl _,?_,fun hz=>by omega⟩
   by_cases hUL:L=U
   ·exact .inl hUL
   ·right;have hfp:=aX hb (p:=p) (by rw[hp];rfl);rw[hp]at hfp;rcases hfp with⟨_,rfl,_⟩|⟨c,_,cap',arr,T,vs,e1,_⟩
    ·simp at hUn;omega
    ·refine⟨c,_,cap',e1,?_⟩;have hv2:=hv;rw[hv',e1]at hv2;cases hv2
     rw[if_neg (fun e=>hUL e.symm)];simp[Addr.add_lit]
  ·exact h1.elim
end Go.AX
namespace Go.AX
theorem av.frame{g g':Gh}{w w':World}(hl:g.le g'):∀{sv:SV}{v:Value}{b:Option Nat},(∀c,b=some c→w'.heap[c]?=w.heap[c]?)→av g w sv v b→av g' w' sv v b
 |.pv _,_,_,_,h=>⟨h.1,Fit.mono hl _ _ h.2⟩
 |.own _ _ _,_,_,hw,h=>h.imp id fun⟨c,h1,cap,arr,T,vs,a1,a2,a3,a4,a5,a6,a7⟩=>
  ⟨c,h1,cap,arr,T,vs,a1,by rw[hw c h1];exact a2,a3,a4,au.mono hl _ _ _ a5,a6,fun hn=>Nat.le_trans hl.B (a7 hn)⟩
 |.omap _ _,_,_,hw,⟨c,h1,en,ck,a1,a2,a3,a4⟩=>⟨c,h1,en,ck,a1,by rw[hw c h1];exact a2,bm.mono hl _ _ a3,fun hn=>Nat.le_trans hl.B (a4.1 hn),a4.2⟩
 |.opt _ _,_,_,_,h=>⟨h.1,h.2.1,fun hc=>av.frame hl (fun _ hb=>by cases hb) (h.2.2 hc)⟩
 |.al _,_,_,_,h=>h
 |.loc _ _ _,_,_,_,h=>h
 |.sptr _ _ _,_,_,_,h=>h
 |.agl _,_,_,_,⟨h,vs,h1,h2⟩=>⟨h,vs,h1,ai.mono hl _ _ h2⟩
theorem bN.congr{g g':Gh}{st st':St}{a a':Act}{w w':World}(hp:∀p,(aa st' p).isOwn=true→aa st' p=aa st p∧an g' a' w' p=an g a w p):
 ∀{sv:SV}{v:Value},bN g st a w sv v→bN g' st' a' w' sv v
 |.pv _,_,_=>trivial
 |.own _ _ _,_,_=>trivial
 |.omap _ _,_,_=>trivial
 |.al p,v,h=>fun ho=>by obtain⟨h1,h2⟩:=hp p ho;rw[h2];exact h (by rw[←h1];exact ho)
 |.loc p lo hi,v,h=>fun nw e rows he=>by
  obtain⟨h1,h2⟩:=hp p (by rw[he];rfl);rw[h2];exact h nw e rows (by rw[←h1];exact he)
 |.sptr p i k,v,h=>fun nw e rows he=>by
  obtain⟨h1,h2⟩:=hp p (by rw[he];rfl);rw[h2];exact h nw e rows (by rw[←h1];exact he)
 |.agl xs,v,h=>fun k x p hx ho=>by obtain⟨h1,h2⟩:=hp p ho;rw[h2];exact h k x p hx (by rw[←h1];exact ho)
 |.opt c x,v,h=>fun hc=>bN.congr hp (h hc)
theorem gD{a:Act}{d:Nat}{v:Value}(hd:d<a.tmps.size)(s:Nat):(a.put (some d) v).tmps.getD s undef=if d=s then v else a.tmps.getD s undef:=by
 simp only[Act.put,Array.getD_eq_getD_getElem?]
 by_cases h:d=s
 ·subst h;simp[hd]
 ·simp[h]
def St.put(st:St)(d:Nat)(sv:SV):St:=⟨(d,sv)::st.t,st.h⟩
theorem pZ(st:St)(d:Nat)(sv:SV)(s:Nat):look (st.put d sv).t s=if d=s then sv else look st.t s:=rfl
theorem Sim.put{g:Gh}{st:St}{a:Act}{w:World}(h:Sim g st a w){d:Nat}(hd:d<g.N){sv:SV}{v:Value}(hs:av g w sv v none)(ha:bN g st a w sv v)(ho:sv.isOwn=false):
 Sim g (st.put d sv) (a.put (some d) v) w:=by
 have hd':d<a.tmps.size:=by rw[h.size];exact hd
 obtain⟨bl,hb⟩:=h.own;have hpos:∀p,(aa (st.put d sv) p).isOwn=true→aa (st.put d sv) p=aa st p∧an g (a.put (some d) v) w p=an g a w p:=by
  intro p hp;cases p with
  |cell b k=>exact⟨rfl,rfl⟩
  |slot s=>
   simp only[aa,pZ]at hp⊢;split at hp
   ·rw[ho]at hp;cases hp
   ·rename_i hne;simp only[if_neg hne,an,gD hd',true_and]
 refine{size:=?_,defs:=h.defs,env:=h.env,n:=h.n,n0:=h.n0,B:=h.B,I:=h.I,F:=h.F,μI:=h.μI,μinj:=h.μinj,own:=⟨fun p=>if p=.slot d then none else bl p,?_⟩,al:=fun s=>?_}
 ·simp[Act.put,h.size]
 ·refine{slots:=fun s=>?_,blocks:=fun b xs hx=>?_,inj:=fun p q c hp hq=>?_,free:=fun p c hp=>?_}
  ·rw[pZ,gD hd']
   by_cases he:d=s
   ·subst he;simpa using hs
   ·simp only[if_neg he];rw[if_neg (by intro e;cases e;exact he rfl)];exact hb.slots s
  ·obtain⟨arr,T,h1,h2,h3⟩:=hb.blocks b xs hx;refine⟨arr,T,h1,h2,fun k x hk=>?_⟩;rw[if_neg (by intro e;cases e)];exact h3 k x hk
  ·split at hp
   ·cases hp
   ·split at hq
    ·cases hq
    ·exact hb.inj p q c hp hq
  ·split at hp
   ·cases hp
   ·exact hb.free p c hp
 ·rw[pZ,gD hd']
  by_cases he:d=s
  ·simp only[if_pos he];exact bN.congr hpos ha
  ·simp only[if_neg he];exact bN.congr hpos (h.al s)
def jh(q:Pos→Bool):List (PV×Option Pos)→Bool
 |[]=>false
 |(_,some p)::r=>q p||jh q r
 |(_,none)::r=>jh q r
theorem ji{q:Pos→Bool}:∀{xs:List (PV×Option Pos)},jh q xs=false→∀(k:Nat)(x:PV)(p:Pos),xs[k]?=some (x,some p)→q p=false
 |[],_,k,x,p,h=>by simp at h
 |(y,some p')::r,hq,0,x,p,h=>by simp only[jh,Bool.or_eq_false_iff]at hq;simp at h;rw[←h.2];exact hq.1
 |(y,none)::r,hq,0,x,p,h=>by simp at h
 |(y,some p')::r,hq,k+1,x,p,h=>by simp only[jh,Bool.or_eq_false_iff]at hq;exact ji hq.2 k x p (by simpa using h)
 |(y,none)::r,hq,k+1,x,p,h=>ji (xs:=r) hq k x p (by simpa using h)
def cb(q:Pos→Bool):SV→SV
 |.al p=>if q p=true then .pv .bot else .al p
 |.loc p lo hi=>if q p=true then .pv .bot else .loc p lo hi
 |.sptr p i k=>if q p=true then .pv .bot else .sptr p i k
 |.agl xs=>if jh q xs=true then .pv .bot else .agl xs
 |.opt c x=>match cb q x with
  |.pv .bot=>.pv .bot
  |y=>.opt c y
 |.pv x=>.pv x
 |.own a b c=>.own a b c
 |.omap a b=>.omap a b
def aA(q:Pos→Bool)(t:List (Nat×SV)):List (Nat×SV):=t.map fun p=>(p.1,cb q p.2)
theorem aS(q:Pos→Bool):∀(t:List (Nat×SV))(s:Nat),look (aA q t) s=cb q (look t s)
 |[],_=>rfl
 |(j,v)::r,s=>by
  simp only[aA,List.map_cons,look];split
  ·rfl
  ·exact aS q r s
def SV.avoids(q:Pos→Bool):SV→Prop
 |.al p=>q p=false
 |.loc p _ _=>q p=false
 |.sptr p _ _=>q p=false
 |.agl xs=>jh q xs=false
 |.opt _ x=>x.avoids q
 |_=>True
theorem a8(q:Pos→Bool):∀x:SV,cb q x=.pv .bot∨(cb q x=x∧x.avoids q)
 |.pv _=>.inr ⟨rfl,trivial⟩
 |.own _ _ _=>.inr ⟨rfl,trivial⟩
 |.omap _ _=>.inr ⟨rfl,trivial⟩
 |.al p=>by cases h:q p<;>simp[cb,h,SV.avoids]
 |.loc p lo hi=>by cases h:q p<;>simp[cb,h,SV.avoids]
 |.sptr p lo hi=>by cases h:q p<;>simp[cb,h,SV.avoids]
 |.agl xs=>by cases h:jh q xs<;>simp[cb,h,SV.avoids]
 |.opt c x=>by
  rcases a8 q x with h|⟨h1,h2⟩
  ·left;simp[cb,h]
  ·rw[cb,h1];cases x with
   |pv y=>cases y<;>first|(left;rfl)|(right;exact⟨rfl,h2⟩)
   |_=>right;exact⟨rfl,h2⟩
theorem bN.congrA{g g':Gh}{st st':St}{a a':Act}{w w':World}{q:Pos→Bool}(hp:∀p,q p=false→(aa st' p).isOwn=true→aa st' p=aa st p∧an g' a' w' p=an g a w p):
 ∀{sv:SV}{v:Value},sv.avoids q→bN g st a w sv v→bN g' st' a' w' sv v
 |.pv _,_,_,_=>trivial
 |.own _ _ _,_,_,_=>trivial
 |.omap _ _,_,_,_=>trivial
 |.al p,v,hq,h=>fun ho=>by obtain⟨h1,h2⟩:=hp p hq ho;rw[h2];exact h (by rw[←h1];exact ho)
 |.loc p lo hi,v,hq,h=>fun nw e rows he=>by
  obtain⟨h1,h2⟩:=hp p hq (by rw[he];rfl);rw[h2];exact h nw e rows (by rw[←h1];exact he)
 |.sptr p i k,v,hq,h=>fun nw e rows he=>by
  obtain⟨h1,h2⟩:=hp p hq (by rw[he];rfl);rw[h2];exact h nw e rows (by rw[←h1];exact he)
 |.agl xs,v,hq,h=>fun k x p hx ho=>by obtain⟨h1,h2⟩:=hp p (ji hq k x p hx) ho;rw[h2];exact h k x p hx (by rw[←h1];exact ho)
 |.opt c x,v,hq,h=>fun hc=>bN.congrA hp hq (h hc)
theorem dH{q:Pos→Bool}:∀{x:SV},(cb q x).isOwn=true→cb q x=x
 |.pv _,_=>rfl
 |.own _ _ _,_=>rfl
 |.omap _ _,_=>rfl
 |.al p,h=>by simp only[cb]at h;split at h<;>cases h
 |.loc p _ _,h=>by simp only[cb]at h;split at h<;>cases h
 |.sptr p _ _,h=>by simp only[cb]at h;split at h<;>cases h
 |.agl xs,h=>by simp only[cb]at h;split at h<;>cases h
 |.opt c x,h=>by simp only[cb]at h;split at h<;>cases h
theorem av.kill{g:Gh}{w:World}(q:Pos→Bool){x:SV}{v:Value}{b:Option Nat}(h:av g w x v b):av g w (cb q x) v b:=by
 rcases a8 q x with e|⟨e,_⟩
 ·rw[e];cases x with
  |pv y=>simp only[cb]at e;cases e;exact h
  |own _ _ _=>cases e
  |omap _ _=>cases e
  |al _=>exact⟨h,trivial⟩
  |loc _ _ _=>exact⟨h,trivial⟩
  |sptr _ _ _=>exact⟨h,trivial⟩
  |agl _=>exact⟨h.1,trivial⟩
  |opt _ _=>exact⟨h.1,trivial⟩
 ·rw[e];exact h
structure FreeAt (g:Gh) (bl:Pos→Option Nat) (c:Nat):Prop where
  I:g.I c=none
  F:g.F c=none
  μ:∀b,b<g.n→g.μ b≠c
  own:∀p,bl p≠some c
theorem Sim.fresh{g:Gh}{st:St}{a:Act}{w:World}(h:Sim g st a w){bl:Pos→Option Nat}(hb:Owns g st a w bl){c:Nat}(hc:w.heap.size≤c):FreeAt g bl c:=by
 have hn:w.heap[c]?=none:=Array.getElem?_eq_none hc;refine⟨?_,?_,fun b hbn e=>?_,fun p hp=>?_⟩
 ·cases hh:g.I c with
  |none=>rfl
  |some ob=>have:=h.I c ob hh;rw[hn]at this;cases this
 ·cases hh:g.F c with
  |none=>rfl
  |some ob=>have:=h.F c ob hh;rw[hn]at this;cases this
 ·have hbl:b<st.h.length:=h.n▸hbn;obtain⟨arr,T,h3,_⟩:=hb.blocks b _ (List.getElem?_eq_getElem hbl);rw[e,hn]at h3;cases h3
 ·have:=(hb.free p c hp).2.2.1;omega
def cN(d:Nat):Pos→Bool
 |.slot s=>d==s
 |.cell _ _=>false
theorem Sim.putOwn{g:Gh}{st:St}{a:Act}{w w':World}(h:Sim g st a w){bl:Pos→Option Nat}(hb:Owns g st a w bl){d:Nat}(hd:d<g.N){sv:SV}{v:Value}{o:Option Nat}
 (hen:bX w'=bX w) (hsz:w.heap.size≤w'.heap.size) (hw:∀c,c<w.heap.size→o≠some c→w'.heap[c]?=w.heap[c]?) (hs:av g w' sv v o) (ho:sv.isOwn=true) (hc:∀c,o=some c→c<w'.heap.size∧FreeAt g bl c):
 Sim g ⟨(d,sv)::aA (cN d) st.t,st.h⟩ (a.put (some d) v) w':=by
 have hd':d<a.tmps.size:=by rw[h.size];exact hd
 have hlt:∀{c o},w.heap[c]?=some o→c<w.heap.size:=fun hh=>(Array.getElem?_eq_some_iff.1 hh).1;have hfr:∀{b:Option Nat}{p},bl p=b→∀c,b=some c→w'.heap[c]?=w.heap[c]?:=fun{b p} hp c hcb=>
  hw c (hb.free _ c (hp.trans hcb)).2.2.1 (fun e=>(hc c e).2.own p (hp.trans hcb))
 have hblk:∀b,b<g.n→∀ob,w.heap[g.μ b]?=some ob→w'.heap[g.μ b]?=w.heap[g.μ b]?:=fun b hbn ob hh=>hw _ (hlt hh) (fun e=>(hc _ e).2.μ b hbn rfl);have hbn:∀{b xs},st.h[b]?=some xs→b<g.n:=fun hx=>by rw[h.n];exact(List.getElem?_eq_some_iff.1 hx).1
 have hpos:∀p,cN d p=false→(aa ⟨(d,sv)::aA (cN d) st.t,st.h⟩ p).isOwn=true→aa ⟨(d,sv)::aA (cN d) st.t,st.h⟩ p=aa st p∧an g (a.put (some d) v) w' p=an g a w p:=by
  intro p hqp hp;cases p with
  |cell b k=>
   refine⟨rfl,?_⟩;simp only[aa]at hp;cases hx:st.h[b]?with
   |none=>simp[List.getD,hx,SV.isOwn]at hp
   |some xs=>
    obtain⟨arr,T,h1,h2,h3⟩:=hb.blocks b xs hx;simp only[an,hblk b (hbn hx) _ h1]
  |slot s=>
   have hne:d≠s:=by simpa[cN]using hqp
   simp only[aa,look,if_neg hne,aS]at hp⊢;refine⟨dH hp,?_⟩;simp only[an,gD hd',if_neg hne]
 refine{size:=?_,defs:=h.defs,env:=hen.trans h.env,n:=h.n,n0:=h.n0,B:=Nat.le_trans h.B hsz,I:=fun c o' hc'=>?_,F:=fun c o' hc'=>?_,μI:=h.μI,μinj:=h.μinj,own:=⟨fun p=>if p=.slot d then o else bl p,?_⟩,al:=fun s=>?_}
 ·simp[Act.put,h.size]
 ·have:=h.I c o' hc';rw[hw c (hlt this) (fun e=>by have:=(hc c e).2.I;rw[hc']at this;cases this)];exact this
 ·have:=h.F c o' hc';rw[hw c (hlt this) (fun e=>by have:=(hc c e).2.F;rw[hc']at this;cases this)];exact this
 ·refine{slots:=fun s=>?_,blocks:=fun b xs hx=>?_,inj:=fun p r c hp hr=>?_,free:=fun p c hp=>?_}
  ·simp only[look,aS];rw[gD hd']
   by_cases he:d=s
   ·subst he;simpa using hs
   ·simp only[if_neg he];rw[if_neg (by intro e;cases e;exact he rfl)];exact av.frame (Gh.le.refl g) (hfr rfl) (av.kill _ (hb.slots s))
  ·obtain⟨arr,T,h1,h2,h3⟩:=hb.blocks b xs hx;refine⟨arr,T,by rw[hblk b (hbn hx) _ h1];exact h1,h2,fun k x hk=>?_⟩;rw[if_neg (by intro e;cases e)];exact⟨(h3 k x hk).1,av.frame (Gh.le.refl g) (hfr rfl) (h3 k x hk).2⟩
  ·split at hp
   ·rename_i e1;split at hr
    ·rename_i e2;rw[e1,e2]
    ·exact absurd hr ((hc c hp).2.own r)
   ·split at hr
    ·exact absurd hp ((hc c hr).2.own p)
    ·exact hb.inj p r c hp hr
  ·split at hp
   ·obtain⟨h1,h2⟩:=hc c hp;exact⟨h2.I,h2.F,h1,h2.μ⟩
   ·obtain⟨h1,h2,h3,h4⟩:=hb.free p c hp;exact⟨h1,h2,by omega,h4⟩
 ·simp only[look,aS];rw[gD hd']
  by_cases he:d=s
  ·simp only[if_pos he];cases sv<;>first|trivial|cases ho
  ·simp only[if_neg he];rcases a8 (cN d) (look st.t s)with e|⟨e,hav⟩
   ·rw[e];trivial
   ·rw[e];exact bN.congrA hpos hav (h.al s)
/-! ### A place is set anew -/
def setPos(st:St)(p:Pos)(sv:SV):St:=
 match p with
 |.slot s=>⟨(s,sv)::st.t,st.h⟩
 |.cell b k=>⟨st.t,st.h.set b ((st.h.getD b []).set k sv)⟩
theorem cE(st:St)(p r:Pos)(sv:SV)(h:p≠r):aa (setPos st p sv) r=aa st r:=by
 cases p with
 |slot s=>
  cases r with
  |slot u=>simp only[setPos,aa,look];rw[if_neg (fun e=>h (by rw[e]))]
  |cell b k=>rfl
 |cell b k=>
  cases r with
  |slot u=>rfl
  |cell b' k'=>
   simp only[setPos,aa]
   by_cases hb:b=b'
   ·subst hb;have hk:k≠k':=fun e=>h (by rw[e]);simp only[List.getD_eq_getElem?_getD]
    by_cases hl:b<st.h.length
    ·simp[hl,hk]
    ·rw[List.set_eq_of_length_le (Nat.le_of_not_lt hl)]
   ·simp[List.getD_eq_getElem?_getD,hb]
theorem Sim.drop{g:Gh}{st:St}{a:Act}{w:World}(h:Sim g st a w){bl:Pos→Option Nat}(hb:Owns g st a w bl)(p:Pos):
 Sim g (setPos st p (.pv .bot)) a w∧∃bl',Owns g (setPos st p (.pv .bot)) a w bl'∧(∀r,r≠p→bl' r=bl r)∧bl' p=none∧∀c,bl p=some c→FreeAt g bl' c:=by
 have hown:Owns g (setPos st p (.pv .bot)) a w (fun r=>if r=p then none else bl r):=by
  refine{slots:=fun s=>?_,blocks:=fun b xs hx=>?_,inj:=fun r q c hr hq=>?_,free:=fun r c hr=>?_}
  ·by_cases he:(.slot s:Pos)=p
   ·subst he;simp only[setPos,look,if_true];exact⟨rfl,trivial⟩
   ·rw[if_neg he];have:=cE st p (.slot s) (.pv .bot) (Ne.symm he);simp only[aa]at this;rw[this];exact hb.slots s
  ·cases p with
   |slot s=>
    obtain⟨arr,T,h1,h2,h3⟩:=hb.blocks b xs hx;refine⟨arr,T,h1,h2,fun k x hk=>?_⟩;rw[if_neg (by intro e;cases e)];exact h3 k x hk
   |cell b0 k0=>
    simp only[setPos]at hx;rw[List.getElem?_set]at hx;split at hx
    ·rename_i hbb;subst hbb;split at hx
     ·rename_i hlt;simp only[Option.some.injEq]at hx;subst hx;simp only[List.getD_eq_getElem?_getD,List.getElem?_eq_getElem hlt,Option.getD_some];obtain⟨arr,T,h1,h2,h3⟩:=hb.blocks b0 _ (List.getElem?_eq_getElem hlt);refine⟨arr,T,h1,⟨by simpa using h2.1,h2.2⟩,fun k x hk=>?_⟩;rw[List.getElem?_set]at hk;split at hk
      ·rename_i hkk;subst hkk;split at hk
       ·cases hk;rw[if_pos rfl];exact⟨rfl,rfl,trivial⟩
       ·cases hk
      ·rename_i hkk;rw[if_neg (by intro e;cases e;exact hkk rfl)];exact h3 k x hk
     ·cases hx
    ·rename_i hbb;obtain⟨arr,T,h1,h2,h3⟩:=hb.blocks b xs hx;refine⟨arr,T,h1,h2,fun k x hk=>?_⟩;rw[if_neg (by intro e;cases e;exact hbb rfl)];exact h3 k x hk
  ·split at hr
   ·cases hr
   ·split at hq
    ·cases hq
    ·exact hb.inj r q c hr hq
  ·split at hr
   ·cases hr
   ·exact hb.free r c hr
 refine⟨{size:=h.size,defs:=h.defs,env:=h.env,n:=?_,n0:=h.n0,B:=h.B,I:=h.I,F:=h.F,μI:=h.μI,μinj:=h.μinj,own:=⟨_,hown⟩,al:=fun s=>?_},_,hown,fun r hr=>if_neg hr,if_pos rfl,fun c hc=>?_⟩
 ·cases p with
  |slot s=>exact h.n
  |cell b k=>simp only[setPos,List.length_set];exact h.n
 ·have hpos:∀r,(aa (setPos st p (.pv .bot)) r).isOwn=true→aa (setPos st p (.pv .bot)) r=aa st r∧an g a w r=an g a w r:=by
   intro r hr
   by_cases he:p=r
   ·subst he;exfalso;cases p with
    |slot u=>simp[setPos,aa,look,SV.isOwn]at hr
    |cell b k=>
     simp only[setPos,aa,List.getD_eq_getElem?_getD]at hr
     by_cases hl:b<st.h.length
     ·simp only[List.getElem?_set,hl,if_true,Option.getD_some]at hr
      by_cases hk:k<(st.h[b]?.getD []).length
      ·simp[hk,SV.isOwn]at hr
      ·simp[hk,SV.isOwn]at hr
     ·rw[List.set_eq_of_length_le (Nat.le_of_not_lt hl),List.getElem?_eq_none (Nat.le_of_not_lt hl)]at hr;simp[SV.isOwn]at hr
   ·exact⟨cE st p r _ he,rfl⟩
  by_cases he:(.slot s:Pos)=p
  ·subst he;simp only[setPos,look,if_true];trivial
  ·have:=cE st p (.slot s) (.pv .bot) (Ne.symm he);simp only[aa]at this;rw[this];exact bN.congr hpos (h.al s)
 ·obtain⟨h1,h2,h3,h4⟩:=hb.free p c hc;refine⟨h1,h2,h4,fun r hr=>?_⟩;split at hr
  ·cases hr
  ·rename_i hne;exact hne (hb.inj r p c hr hc)
theorem bS{st:St}{p:Pos}{sv:SV}(h:(aa st p).isOwn=true):aa (setPos st p sv) p=sv:=by
 cases p with
 |slot s=>simp[setPos,aa,look]
 |cell b k=>
  simp only[aa,List.getD_eq_getElem?_getD]at h
  by_cases hl:b<st.h.length
  ·by_cases hk:k<(st.h[b]?.getD []).length
   ·simp only[setPos,aa,List.getD_eq_getElem?_getD,List.getElem?_set,hl,if_true,Option.getD_some,hk]
   ·rw[List.getElem?_eq_none (Nat.le_of_not_lt hk)]at h;cases h
  ·rw[List.getElem?_eq_none (Nat.le_of_not_lt hl)]at h;cases h
theorem bN.write{g:Gh}{st st':St}{a:Act}{w w':World}{p:Pos}{sv':SV}(hne:∀r,r≠p→aa st' r=aa st r)(hp:aa st' p=sv')(hown:(aa st p).isOwn=true)
 (hv:∀r,(aa st r).isOwn=true→an g a w' r=an g a w r) (hsame:∀nw' e' rows',sv'=.own nw' e' rows'→∃nw rows,aa st p=.own nw e' rows∧rows.length=rows'.length):
 ∀{sv:SV}{v:Value},bN g st a w sv v→bN g st' a w' sv v
 |.pv _,_,_=>trivial
 |.own _ _ _,_,_=>trivial
 |.omap _ _,_,_=>trivial
 |.al r,v,h=>fun ho=>by
  by_cases hr:r=p
  ·subst hr;rw[hv r hown];exact h hown
  ·rw[hne r hr]at ho;rw[hv r ho];exact h ho
 |.loc r lo hi,v,h=>fun nw e rows he=>by
  by_cases hr:r=p
  ·subst hr;obtain⟨nw2,rows2,h1,h2⟩:=hsame nw e rows (by rw[←hp,he]);rw[hv r hown];obtain⟨a1,a2,a3⟩:=h nw2 e rows2 h1;exact⟨a1,by omega,a3⟩
  ·rw[hne r hr]at he;rw[hv r (by rw[he];rfl)];exact h nw e rows he
 |.sptr r i k,v,h=>fun nw e rows he=>by
  by_cases hr:r=p
  ·subst hr;obtain⟨nw2,rows2,h1,h2⟩:=hsame nw e rows (by rw[←hp,he]);rw[hv r hown];exact h nw2 e rows2 h1
  ·rw[hne r hr]at he;rw[hv r (by rw[he];rfl)];exact h nw e rows he
 |.agl xs,v,h=>fun k x r hx ho=>by
  by_cases hr:r=p
  ·subst hr;rw[hv r hown];exact h k x r hx hown
  ·rw[hne r hr]at ho;rw[hv r ho];exact h k x r hx ho
 |.opt c x,v,h=>fun hc=>bN.write hne hp hown hv hsame (h hc)
theorem Sim.ownWrite{g:Gh}{st:St}{a:Act}{w w':World}(h:Sim g st a w){bl:Pos→Option Nat}(hb:Owns g st a w bl){p:Pos}{sv':SV}{c:Nat}(hown:(aa st p).isOwn=true)(hc:bl p=some c)
 (hen:bX w'=bX w) (hsz:w'.heap.size=w.heap.size) (hw:∀k,k≠c→w'.heap[k]?=w.heap[k]?) (hs:av g w' sv' (an g a w p) (some c)) (ho:sv'.isOwn=true)
 (hsame:∀nw' e' rows',sv'=.own nw' e' rows'→∃nw rows,aa st p=.own nw e' rows∧rows.length=rows'.length):
 Sim g (setPos st p sv') a w':=by
 obtain⟨f1,f2,f3,f4⟩:=hb.free p c hc;have hblk:∀b,b<g.n→w'.heap[g.μ b]?=w.heap[g.μ b]?:=fun b hbn=>hw _ (f4 b hbn);have hbn:∀{b:Nat}{xs:List SV},st.h[b]?=some xs→b<g.n:=fun hx=>by rw[h.n];exact(List.getElem?_eq_some_iff.1 hx).1
 have hfr:∀r,r≠p→∀k,bl r=some k→w'.heap[k]?=w.heap[k]?:=fun r hr k hk=>hw k (fun e=>hr (hb.inj r p c (by rw[hk,e]) hc));have hpv:∀r,(aa st r).isOwn=true→an g a w' r=an g a w r:=by
  intro r hr;cases r with
  |slot s=>rfl
  |cell b k=>
   simp only[aa]at hr;cases hx:st.h[b]?with
   |none=>simp[List.getD,hx,SV.isOwn]at hr
   |some xs=>simp only[an,hblk b (hbn hx)]
 have hne:=fun r (hr:r≠p)=>cE st p r sv' (Ne.symm hr);have hsame':=bS (sv:=sv') hown;refine{size:=h.size,defs:=h.defs,env:=hen.trans h.env,n:=?_,n0:=h.n0,B:=by rw[hsz];exact h.B,I:=fun k o hk=>?_,F:=fun k o hk=>?_,μI:=h.μI,μinj:=h.μinj,own:=⟨bl,?_⟩,al:=fun s=>?_}
 ·cases p with
  |slot s=>exact h.n
  |cell b k=>simp only[setPos,List.length_set];exact h.n
 ·rw[hw k (fun e=>by rw[e,f1]at hk;cases hk)];exact h.I k o hk
 ·rw[hw k (fun e=>by rw[e,f2]at hk;cases hk)];exact h.F k o hk
 ·refine{slots:=fun s=>?_,blocks:=fun b xs hx=>?_,inj:=hb.inj,free:=fun r k hr=>?_}
  ·by_cases he:(.slot s:Pos)=p
   ·subst he;simp only[aa]at hsame';rw[hsame',hc];exact hs
   ·have:=hne _ he;simp only[aa]at this;rw[this];exact av.frame (Gh.le.refl g) (hfr _ he) (hb.slots s)
  ·cases p with
   |slot s=>
    obtain⟨arr,T,h1,h2,h3⟩:=hb.blocks b xs hx;exact⟨arr,T,by rw[hblk b (hbn (show st.h[b]?=some xs from hx))];exact h1,h2,fun k x hk=>⟨(h3 k x hk).1,av.frame (Gh.le.refl g) (hfr _ (by intro e;cases e)) (h3 k x hk).2⟩⟩
   |cell b0 k0=>
    simp only[setPos]at hx;rw[List.getElem?_set]at hx;split at hx
    ·rename_i hbb;subst hbb;split at hx
     ·rename_i hlt;simp only[Option.some.injEq]at hx;subst hx;simp only[List.getD_eq_getElem?_getD,List.getElem?_eq_getElem hlt,Option.getD_some];obtain⟨arr,T,h1,h2,h3⟩:=hb.blocks b0 _ (List.getElem?_eq_getElem hlt);refine⟨arr,T,by rw[hblk b0 (hbn (List.getElem?_eq_getElem hlt))];exact h1,⟨by simpa using h2.1,h2.2⟩,fun k x hk=>?_⟩;rw[List.getElem?_set]at hk;split at hk
      ·rename_i hkk;subst hkk;split at hk
       ·cases hk
        refine⟨(by cases sv'<;>first|rfl|cases ho),?_⟩;rw[hc];simpa[an,h1]using hs
       ·cases hk
      ·rename_i hkk;exact⟨(h3 k x hk).1,av.frame (Gh.le.refl g) (hfr _ (by intro e;cases e;exact hkk rfl)) (h3 k x hk).2⟩
     ·cases hx
    ·rename_i hbb;obtain⟨arr,T,h1,h2,h3⟩:=hb.blocks b xs hx;exact⟨arr,T,by rw[hblk b (hbn hx)];exact h1,h2,fun k x hk=>⟨(h3 k x hk).1,av.frame (Gh.le.refl g) (hfr _ (by intro e;cases e;exact hbb rfl)) (h3 k x hk).2⟩⟩
  ·obtain⟨a1,a2,a3,a4⟩:=hb.free r k hr;exact⟨a1,a2,by rw[hsz];exact a3,a4⟩
 ·by_cases he:(.slot s:Pos)=p
  ·subst he;simp only[aa]at hsame';rw[hsame'];cases sv'<;>first|trivial|cases ho
  ·have:=hne _ he;simp only[aa]at this;rw[this];exact bN.write hne hsame' hown hpv hsame (h.al s)
/-! ### A new block of the walk's own -/
def St.grow(st:St)(xs:List SV):St:=⟨st.t,st.h++[xs]⟩
theorem Sim.blockNew{g:Gh}{st:St}{a:Act}{w:World}(h:Sim g st a w)(xs:List PV)(arr:Array Value)(T:TypeId)(hf:ai g xs arr.toList)(h1c:∀v∈arr.toList,v.oneCell'=true):
 ∃g',g.to g'∧g.le g'∧g'.n=g.n+1∧g'.μ g.n=w.heap.size∧Sim g' (st.grow (xs.map .pv)) a (w.alloc (.cells arr T)):=by
 obtain⟨bl,hb⟩:=h.own;have hlt:∀{c o},w.heap[c]?=some o→c<w.heap.size:=fun hh=>(Array.getElem?_eq_some_iff.1 hh).1;have hnew:(w.alloc (.cells arr T)).heap[w.heap.size]?=some (.cells arr T (0,0)):=heap_alloc_new w _;have hold:∀k,k<w.heap.size→(w.alloc (.cells arr T)).heap[k]?=w.heap[k]?:=fun k hk=>heap_alloc_old w _ hk;have hμ:∀b,b<g.n→g.μ b<w.heap.size:=fun b hbn=>by
  obtain⟨_,_,h3,_⟩:=hb.blocks b _ (List.getElem?_eq_getElem (h.n▸hbn));exact hlt h3
 let g':Gh:={g with n:=g.n+1,μ:=fun b=>if b=g.n then w.heap.size else g.μ b}
 have hle:g.le g':=⟨fun _ _ h=>h,Nat.le_refl _,Nat.le_succ _,fun b hbn=>by show(if b=g.n then _ else _)=_;rw[if_neg (by omega)]⟩;have hIn:g.I w.heap.size=none:=(h.fresh hb (Nat.le_refl _)).I;have hFn:g.F w.heap.size=none:=(h.fresh hb (Nat.le_refl _)).F;refine⟨g',⟨fun _ _ h=>h,rfl,rfl,rfl,rfl,rfl,Nat.le_trans h.n0 (Nat.le_succ _),fun b hbn=>hle.μ b (Nat.lt_of_lt_of_le hbn h.n0),fun _ _ h=>h⟩,hle,rfl,by show(if g.n=g.n then _ else _)=_;rw[if_pos rfl],?_⟩;have hfr:∀p c,bl p=some c→(w.alloc (.cells arr T)).heap[c]?=w.heap[c]?:=fun p c hc=>hold c (hb.free p c hc).2.2.1;have hpg:∀p,(aa (st.grow (xs.map .pv)) p).isOwn=true→aa (st.grow (xs.map .pv)) p=aa st p∧an g' a (w.alloc (.cells arr T)) p=an g a w p:=by
  intro p hp;cases p with
  |slot s=>exact⟨rfl,rfl⟩
  |cell b k=>
   simp only[aa,St.grow,List.getD_eq_getElem?_getD]at hp⊢;rcases Nat.lt_trichotomy b st.h.length with hl|hl|hl
   ·rw[List.getElem?_append_left hl]at hp⊢;refine⟨rfl,?_⟩;have hbn:b<g.n:=by rw[h.n];exact hl
    simp only[an];rw[hle.μ b hbn,hold _ (hμ b hbn)]
   ·exfalso;rw[hl,List.getElem?_append_right (Nat.le_refl _)]at hp;simp only[Nat.sub_self,List.getElem?_cons_zero,Option.getD_some,List.getElem?_map]at hp;cases hx:xs[k]?with
    |none=>simp[hx,SV.isOwn]at hp
    |some y=>simp[hx,SV.isOwn]at hp
   ·exfalso;have hz:(st.h++[xs.map SV.pv])[b]?=none:=List.getElem?_eq_none (by simp only[List.length_append,List.length_cons,List.length_nil];omega);rw[hz]at hp;simp[SV.isOwn]at hp
 have hbl':∀p c,(match p with|.cell b _=>if b=g.n then none else bl p|.slot _=>bl p)=some c→bl p=some c:=by
  intro p c hp;cases p with
  |slot s=>exact hp
  |cell b k=>
   have hp2:(if b=g.n then none else bl (.cell b k))=some c:=hp;split at hp2
   ·cases hp2
   ·exact hp2
 refine{size:=h.size,defs:=h.defs,env:=h.env,n:=?_,n0:=Nat.le_trans h.n0 (Nat.le_succ _),B:=?_,I:=fun c o hc=>?_,F:=fun c o hc=>?_,μI:=fun b hbn=>?_,μinj:=fun b b' hbn hbn' he=>?_,own:=⟨fun p=>match p with|.cell b _=>if b=g.n then none else bl p|.slot _=>bl p,?_⟩,al:=fun s=>bN.congr hpg (h.al s)}
 ·show g.n+1=_;rw[h.n];simp[St.grow]
 ·have:=h.B;simp only[World.size_alloc];exact Nat.le_succ_of_le this
 ·have:=h.I c o hc;rw[hold c (hlt this)];exact this
 ·have:=h.F c o hc;rw[hold c (hlt this)];exact this
 ·by_cases hbe:b=g.n
  ·show g.I (if b=g.n then _ else _)=none∧g.F (if b=g.n then _ else _)=none;rw[if_pos hbe];exact⟨hIn,hFn⟩
  ·show g.I (if b=g.n then _ else _)=none∧g.F (if b=g.n then _ else _)=none;rw[if_neg hbe];exact h.μI b (by have:b<g.n+1:=hbn;omega)
 ·change(if b=g.n then w.heap.size else g.μ b)=(if b'=g.n then w.heap.size else g.μ b')at he
  have h1:b<g.n+1:=hbn;have h2:b'<g.n+1:=hbn'
  by_cases e1:b=g.n
  ·by_cases e2:b'=g.n
   ·omega
   ·rw[if_pos e1,if_neg e2]at he;have:=hμ b' (by omega);omega
  ·by_cases e2:b'=g.n
   ·rw[if_neg e1,if_pos e2]at he;have:=hμ b (by omega);omega
   ·rw[if_neg e1,if_neg e2]at he;exact h.μinj b b' (by omega) (by omega) he
 ·refine{slots:=fun s=>av.frame hle (hfr (.slot s)) (hb.slots s),blocks:=fun b ys hy=>?_,inj:=fun p q c hp hq=>hb.inj p q c (hbl' p c hp) (hbl' q c hq),free:=fun p c hp=>?_}
  ·simp only[St.grow]at hy
   by_cases hl:b<st.h.length
   ·rw[List.getElem?_append_left hl]at hy;have hbn:b<g.n:=by rw[h.n];exact hl
    obtain⟨arr',T',h1,h2,h3⟩:=hb.blocks b ys hy;refine⟨arr',T',by rw[hle.μ b hbn,hold _ (hμ b hbn)];exact h1,h2,fun k x hk=>?_⟩;simp only[if_neg (Nat.ne_of_lt hbn)];exact⟨(h3 k x hk).1,av.frame hle (hfr (.cell b k)) (h3 k x hk).2⟩
   ·have hbe:b=st.h.length:=by
     have:=(List.getElem?_eq_some_iff.1 hy).1;simp at this;omega
    rw[hbe,List.getElem?_append_right (Nat.le_refl _)]at hy;simp only[Nat.sub_self,List.getElem?_cons_zero,Option.some.injEq]at hy;subst hy;have hbn:b=g.n:=by rw[hbe,h.n]
    refine⟨arr,T,by show(w.alloc _).heap[if b=g.n then _ else _]?=_;rw[if_pos hbn];exact hnew,⟨by have:=hf.length;simpa using this,h1c⟩,fun k x hk=>?_⟩;rw[List.getElem?_map,Option.map_eq_some_iff]at hk;obtain⟨y,hy,rfl⟩:=hk;obtain⟨v,hv,hfv⟩:=hf.get k y hy;simp only[if_pos hbn];refine⟨rfl,rfl,?_⟩;have:arr.getD k undef=v:=by
     rw[Array.getElem?_toList]at hv;simp[Array.getD_eq_getD_getElem?,hv]
    rw[this];exact Fit.mono hle _ _ hfv
  ·have hp':=hbl' p c hp;obtain⟨a1,a2,a3,a4⟩:=hb.free p c hp';refine⟨a1,a2,by simp only[World.size_alloc];omega,fun b hbn=>?_⟩;show(if b=g.n then w.heap.size else g.μ b)≠c
   by_cases hbe:b=g.n
   ·rw[if_pos hbe];omega
   ·rw[if_neg hbe];exact a4 b (by have:b<g.n+1:=hbn;omega)
end Go.AX
namespace Go.AX
def splice{α:Type}(xs:List α)(k:Nat)(ys:List α):List α:=xs.take k++ys++xs.drop (k+ys.length)
theorem bB{α:Type}{xs:List α}{k:Nat}{ys:List α}(h:k+ys.length≤xs.length):(splice xs k ys).length=xs.length:=by
 simp[splice];omega
theorem dW{α:Type}{xs:List α}{k:Nat}{ys:List α}(h:k+ys.length≤xs.length)(i:Nat):
 (splice xs k ys)[i]?=if k≤i∧i<k+ys.length then ys[i -k]?else xs[i]?:=by
 unfold splice
 by_cases h1:i<k
 ·rw[if_neg (by omega),List.append_assoc,List.getElem?_append_left (by simp;omega),List.getElem?_take,if_pos h1]
 ·by_cases h2:i<k+ys.length
  ·rw[if_pos ⟨by omega,h2⟩,List.append_assoc,List.getElem?_append_right (by simp;omega),List.getElem?_append_left (by simp;omega)];congr 1;simp;omega
  ·rw[if_neg (by omega),List.getElem?_append_right (by simp;omega),List.getElem?_drop];congr 1;simp;omega
def aC(b k n:Nat):Pos→Bool
 |.slot _=>false
 |.cell b' k'=>b==b'&&decide (k≤k')&&decide (k'<k+n)
theorem Sim.blockWriteO{g:Gh}{st:St}{a:Act}{w w':World}(h:Sim g st a w){bl:Pos→Option Nat}(hb:Owns g st a w bl){b k0:Nat}{xs:List SV}{arr arr':Array Value}{T:TypeId}{ys:List PV}{vs:List Value}
 (hx:st.h[b]?=some xs) (hk:k0+ys.length≤xs.length) (ha:w.heap[g.μ b]?=some (.cells arr T (0,0))) (hf:ai g ys vs) (h1c:∀v∈vs,v.oneCell'=true)
 (hen:bX w'=bX w) (hsz:w'.heap.size=w.heap.size) (hw:∀c,c≠g.μ b→w'.heap[c]?=w.heap[c]?) (hb':∃T',w'.heap[g.μ b]?=some (.cells arr' T' (0,0))) (harr:arr'.toList=splice arr.toList k0 vs):
 Sim g ⟨aA (aC b k0 ys.length) st.t,st.h.set b (splice xs k0 (ys.map .pv))⟩ a w'∧Owns g ⟨aA (aC b k0 ys.length) st.t,st.h.set b (splice xs k0 (ys.map .pv))⟩ a w' (fun p=>if aC b k0 ys.length p=true then none else bl p):=by
 obtain⟨T',hb'⟩:=hb';have hbn:b<g.n:=by rw[h.n];exact(List.getElem?_eq_some_iff.1 hx).1
 have hbl:b<st.h.length:=(List.getElem?_eq_some_iff.1 hx).1;obtain⟨arr0,T0,b1,b2,b3⟩:=hb.blocks b xs hx;rw[ha]at b1;cases b1;obtain⟨b2,b2c⟩:=b2;have hvl:vs.length=ys.length:=hf.length;have hvk:k0+vs.length≤arr.toList.length:=by simp[b2,hvl];exact hk
 have hbn':∀{b':Nat}{xs':List SV},st.h[b']?=some xs'→b'<g.n:=fun hx'=>by rw[h.n];exact(List.getElem?_eq_some_iff.1 hx').1
 have hoth:∀b',b'<g.n→b'≠b→w'.heap[g.μ b']?=w.heap[g.μ b']?:=fun b' hn hne=>hw _ (fun e=>hne (h.μinj b' b hn hbn e));have hfr:∀p c,bl p=some c→w'.heap[c]?=w.heap[c]?:=fun p c hc=>hw c (fun e=>(hb.free p c hc).2.2.2 b hbn e.symm);have hnew:∀k,arr'.getD k undef=if k0≤k∧k<k0+ys.length then(vs[k -k0]?).getD undef else arr.getD k undef:=fun k=>by
  rw[Array.getD_eq_getD_getElem?,←Array.getElem?_toList,harr,dW hvk,hvl];split
  ·rfl
  ·rw[Array.getD_eq_getD_getElem?,Array.getElem?_toList]
 have hxk:k0+(ys.map SV.pv).length≤xs.length:=by simpa using hk
 have hget:∀k,(splice xs k0 (ys.map SV.pv))[k]?=if k0≤k∧k<k0+ys.length then(ys[k -k0]?).map SV.pv else xs[k]?:=fun k=>by
  rw[dW hxk];simp only[List.length_map,List.getElem?_map]
 have hpos:∀p,aC b k0 ys.length p=false→(aa ⟨aA (aC b k0 ys.length) st.t,st.h.set b (splice xs k0 (ys.map .pv))⟩ p).isOwn=true→
  aa ⟨aA (aC b k0 ys.length) st.t,st.h.set b (splice xs k0 (ys.map .pv))⟩ p=aa st p∧an g a w' p=an g a w p:=by
  intro p hqp hp;cases p with
  |slot s=>simp only[aa,aS]at hp⊢;exact⟨dH hp,by first|rfl|trivial⟩
  |cell b' k=>
   by_cases hbb:b'=b
   ·subst hbb;have hnr:¬(k0≤k∧k<k0+ys.length):=by
     intro hh;simp[aC,hh.1,hh.2]at hqp
    refine⟨?_,?_⟩
    ·simp only[aa,List.getD_eq_getElem?_getD,List.getElem?_set,hbl,if_true,Option.getD_some,hget,if_neg hnr,hx]
    ·simp only[an,hb',ha,hnew,if_neg hnr]
   ·simp only[aa,List.getD_eq_getElem?_getD,List.getElem?_set,if_neg (Ne.symm hbb)]at hp⊢;refine⟨by first|rfl|trivial,?_⟩;cases hy:st.h[b']?with
    |none=>simp[hy,SV.isOwn]at hp
    |some xs'=>simp only[an,hoth b' (hbn' hy) hbb]
 have hown:Owns g ⟨aA (aC b k0 ys.length) st.t,st.h.set b (splice xs k0 (ys.map .pv))⟩ a w' (fun p=>if aC b k0 ys.length p=true then none else bl p):=by
  refine{slots:=fun s=>?_,blocks:=fun b' xs' hx'=>?_,inj:=fun p q c hp hq=>?_,free:=fun p c hp=>?_}
  ·rw[if_neg (by simp[aC]),aS];exact av.frame (Gh.le.refl g) (hfr _) (av.kill _ (hb.slots s))
  ·rw[List.getElem?_set]at hx';split at hx'
   ·rename_i hbb;subst hbb
    try rw[if_pos hbl]at hx'
    cases hx'
    refine⟨arr',T',hb',⟨?_,fun v hv=>?_⟩,fun k x hk'=>?_⟩
    ·rw[←Array.length_toList,harr,bB hvk,bB hxk,Array.length_toList];exact b2
    ·rw[harr]at hv;simp only[splice,List.mem_append]at hv;rcases hv with(hv|hv)|hv
     ·exact b2c v (List.mem_of_mem_take hv)
     ·exact h1c v hv
     ·exact b2c v (List.mem_of_mem_drop hv)
    ·rw[hget]at hk';split at hk'
     ·rename_i hin;rw[Option.map_eq_some_iff]at hk';obtain⟨y,hy,rfl⟩:=hk';obtain⟨v,hv,hfv⟩:=hf.get _ y hy;rw[if_pos (by simp[aC,hin.1,hin.2]),hnew,if_pos hin,hv];exact⟨rfl,rfl,hfv⟩
     ·rename_i hin;rw[if_neg (by simp[aC];intro h1;omega),hnew,if_neg hin];exact⟨(b3 k x hk').1,av.frame (Gh.le.refl g) (hfr _) (b3 k x hk').2⟩
   ·rename_i hbb;obtain⟨arr1,T1,c1,c2,c3⟩:=hb.blocks b' xs' hx';refine⟨arr1,T1,by rw[hoth b' (hbn' hx') (Ne.symm hbb)];exact c1,c2,fun k x hk'=>?_⟩;rw[if_neg (by simp[aC,hbb])];exact⟨(c3 k x hk').1,av.frame (Gh.le.refl g) (hfr _) (c3 k x hk').2⟩
  ·split at hp
   ·cases hp
   ·split at hq
    ·cases hq
    ·exact hb.inj p q c hp hq
  ·split at hp
   ·cases hp
   ·obtain⟨f1,f2,f3,f4⟩:=hb.free p c hp;exact⟨f1,f2,by rw[hsz];exact f3,f4⟩
 refine⟨{size:=h.size,defs:=h.defs,env:=hen.trans h.env,n:=by simp only[List.length_set];exact h.n,n0:=h.n0,B:=by rw[hsz];exact h.B,I:=fun c o hc=>?_,F:=fun c o hc=>?_,μI:=h.μI,μinj:=h.μinj,own:=⟨_,hown⟩,al:=fun s=>?_},hown⟩
 ·rw[hw c (fun e=>by have:=(h.μI b hbn).1;rw[←e,hc]at this;cases this)];exact h.I c o hc
 ·rw[hw c (fun e=>by have:=(h.μI b hbn).2;rw[←e,hc]at this;cases this)];exact h.F c o hc
 ·rw[aS];rcases a8 (aC b k0 ys.length) (look st.t s)with e|⟨e,hav⟩
  ·rw[e];trivial
  ·rw[e];exact bN.congrA hpos hav (h.al s)
theorem Sim.blockWrite{g:Gh}{st:St}{a:Act}{w w':World}(h:Sim g st a w){b k0:Nat}{xs:List SV}{arr arr':Array Value}{T:TypeId}{ys:List PV}{vs:List Value}
 (hx:st.h[b]?=some xs) (hk:k0+ys.length≤xs.length) (ha:w.heap[g.μ b]?=some (.cells arr T (0,0))) (hf:ai g ys vs) (h1c:∀v∈vs,v.oneCell'=true)
 (hen:bX w'=bX w) (hsz:w'.heap.size=w.heap.size) (hw:∀c,c≠g.μ b→w'.heap[c]?=w.heap[c]?) (hb':∃T',w'.heap[g.μ b]?=some (.cells arr' T' (0,0))) (harr:arr'.toList=splice arr.toList k0 vs):
 Sim g ⟨aA (aC b k0 ys.length) st.t,st.h.set b (splice xs k0 (ys.map .pv))⟩ a w':=by
 obtain⟨bl,hb⟩:=h.own;exact(h.blockWriteO hb hx hk ha hf h1c hen hsz hw hb' harr).1
/-! ### Freezing -/
def j9:SV→PV
 |.own nw e rows=>.seq nw e rows
 |.omap nw es=>.amap nw es
 |.pv x=>x
 |_=>.bot
theorem Sim.freeze{g:Gh}{st:St}{a:Act}{w:World}(h:Sim g st a w){p:Pos}(hown:(aa st p).isOwn=true):
 ∃g',g.to g'∧g.le g'∧g'.n=g.n∧Fit g' (j9 (aa st p)) (an g a w p)∧Sim g' (setPos st p (.pv (j9 (aa st p)))) a w∧∀r,an g' a w r=an g a w r:=by
 obtain⟨bl,hb⟩:=h.own;have hfit:=aX hb hown
 let g':Gh:={g with I:=fun c=>if bl p=some c then w.heap[c]?else g.I c}
 have hle:g.le g':=⟨fun c o hc=>by
  show(if bl p=some c then w.heap[c]?else g.I c)=some o;split
  ·rename_i e;rw[(hb.free p c e).1]at hc;cases hc
  ·exact hc,Nat.le_refl _,Nat.le_refl _,fun _ _=>rfl⟩
 have hto:g.to g':=⟨hle.I,rfl,rfl,rfl,rfl,rfl,h.n0,fun _ _=>rfl,fun c hF hI=>by
  show(if bl p=some c then w.heap[c]?else g.I c)=none;rw[if_neg (fun e=>hF (hb.free p c e).2.1)];exact hI⟩
 have hff:Fit g' (j9 (aa st p)) (an g a w p):=by
  cases hs:aa st p with
  |own nw e rows=>
   rw[hs]at hfit;rcases hfit with⟨_,rfl,e1⟩|⟨c,hc,cap,arr,T,vs,e1,e2,e3,e4,e5,e6,e7⟩
   ·exact⟨none,0,e1,Nat.le_refl _,.inl rfl⟩
   ·exact⟨_,cap,e1,e4.1,.inr ⟨c,0,arr,T,(0,0),vs,rfl,by show(if bl p=some c then w.heap[c]?else g.I c)=_;rw[if_pos hc];exact e2,e7,au.mono hle _ _ _ e5,by simpa using e6⟩⟩
  |omap nw es=>
   rw[hs]at hfit;obtain⟨c,hc,en,ck,e1,e2,e3,e4⟩:=hfit;exact⟨c,en,ck,e1,by show(if bl p=some c then w.heap[c]?else g.I c)=_;rw[if_pos hc];exact e2,e4.1,bm.mono hle _ _ e3,e4.2⟩
  |_=>rw[hs]at hown;cases hown
 generalize j9 (aa st p)=fz at*;refine⟨g',hto,hle,rfl,hff,?_,fun r=>rfl⟩;obtain⟨_,bl',hb',h1,h2,h3⟩:=h.drop hb p;have hne:=fun r (hr:r≠p)=>cE st p r (.pv fz) (Ne.symm hr);have hsame:=bS (sv:=.pv fz) hown;have hposA:∀r,(aa (setPos st p (.pv fz)) r).isOwn=true→aa (setPos st p (.pv fz)) r=aa st r∧an g' a w r=an g a w r:=by
  intro r hr
  by_cases he:r=p
  ·subst he;rw[hsame]at hr;cases hr
  ·exact⟨hne r he,rfl⟩
 refine{size:=h.size,defs:=h.defs,env:=h.env,n:=?_,n0:=h.n0,B:=h.B,I:=fun c o hc=>?_,F:=h.F,μI:=fun b hbn=>?_,μinj:=h.μinj,own:=⟨fun r=>if r=p then none else bl r,?_⟩,al:=fun s=>?_}
 ·cases p with
  |slot s=>exact h.n
  |cell b k=>simp only[setPos,List.length_set];exact h.n
 ·change(if bl p=some c then w.heap[c]?else g.I c)=some o at hc
  split at hc
  ·exact hc
  ·exact h.I c o hc
 ·refine⟨?_,(h.μI b hbn).2⟩;show(if bl p=some (g.μ b)then w.heap[g.μ b]?else g.I (g.μ b))=none;rw[if_neg (fun e=>(hb.free p _ e).2.2.2 b hbn rfl)];exact(h.μI b hbn).1
 ·refine{slots:=fun s=>?_,blocks:=fun b xs hx=>?_,inj:=fun r q c hr hq=>?_,free:=fun r c hr=>?_}
  ·by_cases he:(.slot s:Pos)=p
   ·subst he;rw[if_pos rfl];simp only[aa]at hsame;rw[hsame];exact⟨rfl,hff⟩
   ·rw[if_neg he];have:=hne _ he;simp only[aa]at this;rw[this];exact av.frame hle (fun _ _=>rfl) (hb.slots s)
  ·cases p with
   |slot s=>
    obtain⟨arr,T,c1,c2,c3⟩:=hb.blocks b xs hx;refine⟨arr,T,c1,c2,fun k x hk=>?_⟩;rw[if_neg (by intro e;cases e)];exact⟨(c3 k x hk).1,av.frame hle (fun _ _=>rfl) (c3 k x hk).2⟩
   |cell b0 k0=>
    simp only[setPos]at hx;rw[List.getElem?_set]at hx;split at hx
    ·rename_i hbb;subst hbb;split at hx
     ·rename_i hlt;simp only[Option.some.injEq]at hx;subst hx;obtain⟨arr,T,c1,c2,c3⟩:=hb.blocks b0 _ (List.getElem?_eq_getElem hlt);simp only[List.getD_eq_getElem?_getD,List.getElem?_eq_getElem hlt,Option.getD_some];refine⟨arr,T,c1,⟨by simpa using c2.1,c2.2⟩,fun k x hk=>?_⟩;rw[List.getElem?_set]at hk;split at hk
      ·rename_i hkk;subst hkk;split at hk
       ·cases hk
        rw[if_pos rfl];refine⟨rfl,rfl,?_⟩;have:an g a w (.cell b0 k0)=arr.getD k0 undef:=by simp[an,c1]
        rw[←this];exact hff
       ·cases hk
      ·rename_i hkk;rw[if_neg (by intro e;cases e;exact hkk rfl)];exact⟨(c3 k x hk).1,av.frame hle (fun _ _=>rfl) (c3 k x hk).2⟩
     ·cases hx
    ·rename_i hbb;obtain⟨arr,T,c1,c2,c3⟩:=hb.blocks b xs hx;refine⟨arr,T,c1,c2,fun k x hk=>?_⟩;rw[if_neg (by intro e;cases e;exact hbb rfl)];exact⟨(c3 k x hk).1,av.frame hle (fun _ _=>rfl) (c3 k x hk).2⟩
  ·split at hr
   ·cases hr
   ·split at hq
    ·cases hq
    ·exact hb.inj r q c hr hq
  ·split at hr
   ·cases hr
   ·rename_i hne';obtain⟨f1,f2,f3,f4⟩:=hb.free r c hr;refine⟨?_,f2,f3,f4⟩;show(if bl p=some c then w.heap[c]?else g.I c)=none;rw[if_neg (fun e=>hne' (hb.inj r p c hr e))];exact f1
 ·by_cases he:(.slot s:Pos)=p
  ·subst he;simp only[aa]at hsame;rw[hsame];trivial
  ·have:=hne _ he;simp only[aa]at this;rw[this];exact bN.congr hposA (h.al s)
end Go.AX
namespace Go.AX
/-! ### One-cell values -/
def PV.one:PV→Bool
 |.bot=>false
 |.lit v=>v.oneCell'
 |.agg _=>false
 |.tup _=>false
 |.ifc _ _=>true
 |.seq _ _ _=>true
 |.iptr _ _ _ _=>true
 |.ptr _ _=>true
 |.bsl _ _ _ _ _=>true
 |.fn _ _ _=>true
 |.amap _ _=>true
theorem tG{g:Gh}:∀{x:PV}{v:Value},x.one=true→Fit g x v→v.oneCell'=true
 |.bot,_,h,_=>by cases h
 |.lit _,_,h,hf=>by cases hf;exact h
 |.agg _,_,h,_=>by cases h
 |.tup _,_,h,_=>by cases h
 |.ifc _ _,_,_,⟨_,h,_⟩=>by rw[h];rfl
 |.seq _ _ _,_,_,⟨_,_,h,_⟩=>by rw[h];rfl
 |.iptr _ _ _ _,_,_,⟨_,_,_,_,_,_,h,_⟩=>by rw[h];rfl
 |.ptr _ _,_,_,⟨_,h⟩=>by rw[h];rfl
 |.bsl _ _ _ _ _,_,_,⟨_,_,h⟩=>by rw[h];rfl
 |.fn _ _ _,_,_,⟨_,_,h,_⟩=>by rw[h];rfl
 |.amap _ _,_,_,⟨_,_,_,h,_⟩=>by rw[h];rfl
def bn:List PV→Bool
 |[]=>true
 |x::xs=>x.one&&bn xs
theorem db{g:Gh}:∀{xs:List PV}{vs:List Value},bn xs=true→ai g xs vs→∀v∈vs,v.oneCell'=true
 |[],_,_,h=>by simp only[ai]at h;subst h;simp
 |_::_,_,ha,⟨_,_,h1,h2,h3⟩=>by
  simp only[bn,Bool.and_eq_true]at ha;subst h1;intro u hu;rcases List.mem_cons.1 hu with rfl|hu
  ·exact tG ha.1 h2
  ·exact db ha.2 h3 u hu
theorem gu{g:Gh}{x:PV}{v:Value}(h:Fit g x v)(hx:x.one=true∨cY (.pv x)):ai g (aK x) v.cells.toList:=by
 rcases hx with hx|hx
 ·have h1:=tG hx h;have hc:v.cells=#[v]:=by cases v<;>first|rfl|(simp[Value.oneCell']at h1)
  rw[hc];have:aK x=[x]:=by
   cases x with
   |lit u=>cases u<;>first|rfl|(simp[PV.one,Value.oneCell']at hx)
   |agg _=>cases hx
   |_=>rfl
  rw[this];exact⟨v,[],rfl,h,rfl⟩
 ·obtain⟨vs,rfl,hl⟩:=pY (w:=default) (x:=.pv x) (v:=v) ⟨rfl,h⟩ hx;exact hl
theorem vd{α:Type}(xs:List α)(o:Nat)(x:α)(l:List α)(h:o+(x::l).length≤xs.length):splice xs o (x::l)=splice (xs.set o x) (o+1) l:=by
 apply List.ext_getElem?;intro i;rw[dW h,dW (by simp at h⊢;omega)];simp only[List.length_cons]at h⊢
 by_cases h1:o≤i∧i<o+(l.length+1)
 ·rw[if_pos h1]
  by_cases h2:i=o
  ·subst h2;rw[if_neg (by omega)];simp only[Nat.sub_self,List.getElem?_cons_zero];rw[List.getElem?_set];simp;omega
  ·rw[if_pos (by omega)];have:i -o=(i -(o+1))+1:=by omega
   rw[this,List.getElem?_cons_succ]
 ·rw[if_neg h1,if_neg (by omega),List.getElem?_set,if_neg (by omega)]
theorem xw{α:Type}(xs:List α)(o:Nat):splice xs o []=xs:=by simp[splice]
theorem sg(off:Nat):∀(l:List Value)(k:Nat)(cells:Array Value),off+k+l.length≤cells.size→
 ((l.zipIdx k).foldl (fun cs (p:Value×Nat)=>cs.setIfInBounds (off+p.2) p.1) cells).toList=splice cells.toList (off+k) l
 |[],k,cells,_=>by simp[xw]
 |x::l,k,cells,h=>by
  simp only[List.zipIdx_cons,List.foldl_cons];simp only[List.length_cons]at h;rw[sg off l (k+1) _ (by simp;omega),vd _ _ _ _ (by simp;omega)];simp[Nat.add_assoc]
theorem nY(place:Nat→Option (Nat×Nat))(cells:Array Value)(i off size:Nat)(v:Value)(rest:List (Nat×Value))(hp:place i=some (off,size))(hv:v.cells.size=size)(hfit:off+size≤cells.size):
 Instr.fill place cells ((i,v)::rest)=Instr.fill place (splice cells.toList off v.cells.toList).toArray rest:=by
 simp only[Instr.fill,hp,hv,ne_eq,not_true,decide_false,Bool.false_or,decide_eq_true_eq];rw[if_neg (by omega)];congr 1;have:=sg off v.cells.toList 0 cells (by simp[hv];omega);simp only[Nat.add_zero]at this;rw[←this];simp only[Array.toArray_toList];rw[←Array.foldl_toList,Array.toList_zipIdx]
theorem ai.splice{g:Gh}{xs ys:List PV}{vs us:List Value}(h:ai g xs vs)(h':ai g ys us)(k:Nat):ai g (splice xs k ys) (splice vs k us):=by
 have hl:=h'.length;simp only[Go.AX.splice,hl];exact((h.take k).append h').append (h.drop _)
/-! ### A struct or an array is built -/
def bInfo(P:Program)(t:TypeId):Option (List (Nat×Nat)):=
 match P.underlying t with
 |some (.struct fs)=>fs.toList.mapM fun f=>(P.info? f.type).map fun i=>(f.offset,i.size)
 |some (.array n e)=>(P.info? e).map fun i=>(List.range n).map fun k=>(k*i.size,i.size)
 |_=>none
def zeroV(P:Program)(t:TypeId):Option (List PV):=
 match P.info? t with
 |some i=>i.zero.map fun z=>z.cells.toList.map PV.lit
 |none=>none
def oM(pl:List (Nat×Nat))(cells:List PV):List (Nat×PV)→List PV×Prop
 |[]=>(cells,True)
 |(i,y)::rest=>match pl[i]?with
  |some (off,n)=>((oM pl (splice cells off (aK y)) rest).1,(aK y).length=n∧off+n≤cells.length∧(y.one=true∨cY (.pv y))∧(oM pl (splice cells off (aK y)) rest).2)
  |none=>(cells,False)
def pG(st:St):List (Nat×Operand)→Prop
 |[]=>True
 |(_,x)::r=>gc st x∧tD (mv st x)∧pG st r
def mw(st:St):List (Nat×Operand)→List (Nat×PV)
 |[]=>[]
 |(i,x)::r=>(i,j8 (mv st x))::mw st r
def tH(P:Program)(st:St)(t:TypeId)(parts:Array (Nat×Operand)):SV×Prop:=
 match bInfo P t,zeroV P t with
 |some pl,some zs=>(.pv (.agg (oM pl zs (mw st parts.toList)).1),pG st parts.toList∧(oM pl zs (mw st parts.toList)).2)
 |_,_=>(.pv .bot,False)
theorem my(p q:Nat→Option (Nat×Nat))(h:∀i x,q i=some x→p i=some x):∀(l:List (Nat×Value))(cells out:Array Value),Instr.fill q cells l=some out→Instr.fill p cells l=some out
 |[],cells,out,ho=>by simpa[Instr.fill]using ho
 |(i,v)::rest,cells,out,ho=>by
  simp only[Instr.fill]at ho⊢;cases hq:q i with
  |none=>rw[hq]at ho;cases ho
  |some x=>
   rw[hq]at ho;rw[h i x hq];obtain⟨off,size⟩:=x;simp only at ho⊢;split
   ·rename_i hc;rw[if_pos hc]at ho;cases ho
   ·rename_i hc;rw[if_neg hc]at ho;exact my p q h rest _ _ ho
theorem ve{g:Gh}(pl:List (Nat×Nat)):∀(l:List (Nat×PV))(l':List (Nat×Value))(cs:List PV)(cells:Array Value),ai g cs cells.toList→l.map (·.1)=l'.map (·.1)→ai g (l.map (·.2)) (l'.map (·.2))→(oM pl cs l).2→
 ∃out,Instr.fill (pl[·]?) cells l'=some out∧ai g (oM pl cs l).1 out.toList
 |[],l',cs,cells,hc,hl,hf,hd=>by
  cases l' with
  |nil=>exact⟨cells,rfl,hc⟩
  |cons _ _=>cases hl
 |(i,y)::rest,l',cs,cells,hc,hl,hf,hd=>by
  cases l' with
  |nil=>cases hl
  |cons p l'=>
   obtain⟨i',v⟩:=p;simp only[List.map_cons,List.cons.injEq]at hl;obtain⟨rfl,hl⟩:=hl;obtain⟨v',r,e1,hv,hr⟩:=hf;simp only[List.map_cons,List.cons.injEq]at e1;obtain⟨rfl,rfl⟩:=e1;simp only[oM]at hd⊢;cases hp:pl[i]?with
   |none=>rw[hp]at hd;exact hd.elim
   |some x=>
    obtain⟨off,n⟩:=x;rw[hp]at hd;obtain⟨h1,h2,h3,h4⟩:=hd;have hpc:=gu hv h3;have hsz:v.cells.size=n:=by have:=hpc.length;rw[h1]at this;simpa using this
    have hcl:=hc.length;rw[nY (pl[·]?) cells i off n v l' hp hsz (by rw[←Array.length_toList,hcl];exact h2)];exact ve pl rest l' _ _ (by simpa using hc.splice hpc off) hl hr h4
theorem si{g:Gh}{st:St}{a:Act}{w:World}(h:Sim g st a w):∀(l:List (Nat×Operand)),pG st l→(mw st l).map (·.1)=(l.map fun p=>(p.1,a.eval p.2)).map (·.1)∧ai g ((mw st l).map (·.2)) ((l.map fun p=>(p.1,a.eval p.2)).map (·.2))
 |[],_=>⟨rfl,rfl⟩
 |(i,x)::r,hd=>by
  obtain⟨h1,h2,h3⟩:=hd;obtain⟨a1,a2⟩:=si h r h3;obtain⟨hf,_⟩:=aL h x h1;rw[lA h2]at hf;exact⟨by simp only[mw,List.map_cons];rw[a1],_,_,rfl,hf.2,a2⟩
theorem A5{P:Program}{st:St}(o:Oper)(t:TypeId)(parts:Array (Nat×Operand))(ho:o.op=.build t parts):F0 P st o (tH P st t parts):=by
 intro g a w h hd;unfold tH at hd⊢;split at hd
 ·rename_i pl zs hb hz;obtain⟨hp,hd⟩:=hd;obtain⟨e1,e2⟩:=si h parts.toList hp;unfold zeroV at hz;cases hi:P.info? t with
  |none=>rw[hi]at hz;cases hz
  |some it=>
   rw[hi]at hz;simp only[Option.map_eq_some_iff]at hz;obtain⟨z,hz,rfl⟩:=hz;have hlits:∀vs:List Value,ai g (vs.map PV.lit) vs:=fun vs=>by
    induction vs with
    |nil=>rfl
    |cons u us ih=>exact⟨u,us,rfl,rfl,ih⟩
   obtain⟨out,ho1,ho2⟩:=ve pl _ _ _ z.cells (hlits _) e1 e2 hd;have hbuilt:P.built t (parts.toList.map fun p=>(p.1,a.eval p.2))=some out:=by
    unfold bInfo at hb;unfold Program.built;rw[hi];split at hb
    ·rename_i fs hu;rw[hu];simp only[hz,hb];simpa using ho1
    ·rename_i n e hu;simp only[Option.map_eq_some_iff]at hb;obtain⟨ie,hie,rfl⟩:=hb;rw[hu];simp only[hz,hie];refine my _ _ (fun i x hx=>?_) _ _ _ ho1;simp only[List.getElem?_map,Option.map_eq_some_iff]at hx;obtain⟨k,hk,rfl⟩:=hx;have:=List.getElem?_eq_some_iff.1 hk;obtain⟨hlt,he⟩:=this;simp at he;subst he;rfl
    ·cases hb
   refine⟨.agg out,?_,⟨rfl,out,rfl,ho2⟩,trivial⟩;simp only[execOp,ho,Sem.run_bind];rw[run_build w t _ out (by rw[←hbuilt];simp)];simp
 ·exact hd.elim
/-! ### An index into an array's value, or a text -/
def tI(P:Program)(t:TypeId):Option (Nat×Bool×Nat):=
 match P.underlying t with
 |some (.array n e)=>(aJ P e).map fun p=>(n,p)
 |_=>none
def nZ(P:Program)(t:TypeId)(x i:SV):SV×Prop:=
 match tI P t with
 |some (n,false,e)=>(.pv ((aK (j8 x)).getD ((aQ i).toNat*e) .bot),cY x∧fl i∧0≤aQ i∧aQ i<n∧(aQ i).toNat*e<(aK (j8 x)).length)
 |some (n,true,e)=>(.pv (.agg (((aK (j8 x)).drop ((aQ i).toNat*e)).take e)),cY x∧fl i∧0≤aQ i∧aQ i<n)
 |none=>match P.underlying t with
  |some .string=>(.pv (.lit (.int .u8 ((jK x)[(aQ i).toNat]?.getD 0).toNat)),pE x∧fl i∧0≤aQ i∧aQ i<(jK x).size)
  |_=>(.pv .bot,False)
theorem A6{P:Program}{st:St}(o:Oper)(t:TypeId)(x i:Operand)(ho:o.op=.index t x i):F0 P st o ((nZ P t (mv st x) (mv st i)).1,gc st x∧gc st i∧(nZ P t (mv st x) (mv st i)).2):=by
 intro g a w h ⟨hx,hi,hd⟩;obtain⟨hf,_⟩:=aL h x hx;unfold nZ at hd⊢;cases ha:tI P t with
 |some q=>
  obtain⟨n,b,e⟩:=q;rw[ha]at hd;unfold tI at ha;split at ha
  case h_2=>cases ha
  rename_i n' el hu;simp only[Option.map_eq_some_iff,Prod.mk.injEq]at ha;obtain⟨q,hl,rfl,hq⟩:=ha;rw[hq]at hl;clear hq;have hsz:=(gt hl w).2;cases b with
  |false=>
   simp only at hd⊢;obtain⟨h1,h2,h3,h4,h5⟩:=hd;obtain⟨vs,hv,hfl⟩:=pY hf h1;obtain⟨v,hv',hf'⟩:=hfl.get _ _ (List.getElem?_eq_getElem h5);refine⟨v,?_,⟨rfl,by simpa[List.getD,List.getElem?_eq_getElem h5]using hf'⟩,trivial⟩;simp[execOp,ho,hv,bD h hi h2,Instr.index,run_underlying hu,asIntOf,h3,h4,hsz,sb w vs _ v hl (by rw[←Array.getElem?_toList];exact hv')]
  |true=>
   simp only at hd⊢;obtain⟨h1,h2,h3,h4⟩:=hd;obtain⟨vs,hv,hfl⟩:=pY hf h1;refine⟨.agg (vs.extract ((aQ (mv st i)).toNat*e) ((aQ (mv st i)).toNat*e+e)),?_,⟨rfl,_,rfl,?_⟩,trivial⟩
   ·simp[execOp,ho,hv,bD h hi h2,Instr.index,run_underlying hu,asIntOf,h3,h4,hsz,vb w vs _ hl]
   ·have:=(hfl.drop ((aQ (mv st i)).toNat*e)).take e;rw[Array.toList_extract];simpa[List.extract]using this
 |none=>
  rw[ha]at hd;simp only at hd⊢;split at hd
  ·rename_i hu;obtain⟨h1,h2,h3,h4⟩:=hd;have hlt:(aQ (mv st i)).toNat<(jK (mv st x)).size:=by omega
   refine⟨_,?_,⟨rfl,rfl⟩,trivial⟩;simp only[execOp,ho,nW h hx h1,bD h hi h2,Instr.index,asIntOf,Sem.run_bind,Sem.run_pure,Result.andThen_ok,run_underlying hu,if_pos h3];have:(jK (mv st x))[(aQ (mv st i)).toNat]?=some ((jK (mv st x))[(aQ (mv st i)).toNat]):=by simp[hlt]
   rw[this];simp
  ·exact hd.elim
/-! ### A function is made -/
def lZ(st:St):List Operand→Prop
 |[]=>True
 |x::r=>gc st x∧tD (mv st x)∧lZ st r
def ii(st:St):List Operand→List PV
 |[]=>[]
 |x::r=>j8 (mv st x)::ii st r
theorem ka{g:Gh}{st:St}{a:Act}{w:World}(h:Sim g st a w):∀(l:List Operand),lZ st l→ai g (ii st l) (l.map a.eval)
 |[],_=>rfl
 |x::r,⟨h1,h2,h3⟩=>by
  obtain⟨hf,_⟩:=aL h x h1;rw[lA h2]at hf;exact⟨_,_,rfl,hf.2,ka h r h3⟩
def xx(st:St)(f:Fn)(first cap:Array Operand):SV×Prop:=(.pv (.fn f (ii st first.toList) (ii st cap.toList)),lZ st first.toList∧lZ st cap.toList)
theorem A7{P:Program}{st:St}(o:Oper)(f:Fn)(first cap:Array Operand)(ho:o.op=.makeFunc f first cap):F0 P st o (xx st f first cap):=by
 intro g a w h ⟨h1,h2⟩;refine⟨.func f (first.map a.eval) (cap.map a.eval),by simp[execOp,ho,Instr.makeFunc],⟨rfl,_,_,rfl,?_,?_⟩,trivial⟩
 ·simpa using ka h _ h1
 ·simpa using ka h _ h2
/-! ### Maps -/
def de:List (Int×PV)→Int→Option PV
 |[],_=>none
 |(k,x)::r,n=>if k=n then some x else de r n
def entriesOf(st:St):SV→List (Int×PV)
 |.pv (.amap _ es)=>es
 |.al p=>match aa st p with
  |.omap _ es=>es
  |_=>[]
 |_=>[]
def isMap(st:St):SV→Prop
 |.pv (.amap _ _)=>True
 |.pv (.lit (.map none))=>True
 |.al p=>match aa st p with
  |.omap _ _=>True
  |_=>False
 |_=>False
def oa(P:Program)(t:TypeId):Option PV:=
 match P.underlying t with
 |some (.map k e)=>match P.underlying k with
  |some (.int _)=>match P.info? e with
   |some i=>match i.zero with
    |some (.agg vs)=>some (.agg (vs.toList.map .lit))
    |some z=>some (.lit z)
    |none=>none
   |none=>none
  |_=>none
 |_=>none
def sj(P:Program)(st:St)(t:TypeId)(x k:SV)(ok:Bool):SV×Prop:=
 match oa P t with
 |some z=>(.pv (if ok=true then .tup [(de (entriesOf st x) (aQ k)).getD z,.lit (.bool (de (entriesOf st x) (aQ k)).isSome)]else(de (entriesOf st x) (aQ k)).getD z),isMap st x∧fl k∧fk k=.i64)
 |none=>(.pv .bot,False)
theorem p6{g:Gh}{kk:IntKind}{n:Int}:∀{es:List (Int×PV)}{en:List MapEntry}(_:bm g es en)(j:Nat),
 ∃r,Instr.findNow (.int kk) (.int .i64 n) en j=some r∧(r=none∧de es n=none∨∃i m x,r=some (j+i,m.val)∧en[i]?=some m∧m.key=.int .i64 n∧de es n=some x∧Fit g x m.val)
 |[],en,h,j=>by simp only[bm]at h;subst h;exact⟨none,rfl,.inl ⟨rfl,rfl⟩⟩
 |(k,x)::es,en,⟨m,r,h1,h2,h3,h4⟩,j=>by
  subst h1;simp only[Instr.findNow,h2,Instr.sameNow,if_true,de]
  by_cases hk:k=n
  ·subst hk;simp only[beq_self_eq_true,if_true];exact⟨_,rfl,.inr ⟨0,m,x,rfl,rfl,h2,rfl,h3⟩⟩
  ·have hb:(n==k)=false:=by simp;exact fun e=>hk e.symm
   simp only[hb,if_neg hk];obtain⟨r',e1,e2⟩:=p6 (n:=n) h4 (j+1);refine⟨r',e1,?_⟩;rcases e2 with⟨rfl,e2⟩|⟨i,m',x',rfl,e3,e4,e5,e6⟩
   ·exact .inl ⟨rfl,e2⟩
   ·exact .inr ⟨i+1,m',x',by rw[Nat.add_assoc,Nat.add_comm 1 i],by simpa using e3,e4,e5,e6⟩
theorem bT{P:Program}(w:World)(b:Bool)(t:TypeId)(kk k:IntKind)(n:Int)(h:P.underlying t=some (.int kk)):(Instr.checkKey b 10000 t (.int k n)).run P w=.ok () w:=by
 show(Instr.checkKey b (9999+1) t (.int k n)).run P w=_;rw[Instr.checkKey];simp only[Sem.run_bind,run_underlying h,Result.andThen_ok,Sem.run_pure]
theorem CH{g:Gh}{st:St}{a:Act}{w:World}(h:Sim g st a w){x:Operand}(hg:gc st x)(hm:isMap st (mv st x)):
 (a.eval x=.map none∧entriesOf st (mv st x)=[])∨∃r en ck,a.eval x=.map (some r)∧w.heap[r]?=some (.map en ck)∧bm g (entriesOf st (mv st x)) en.toList:=by
 obtain⟨hf,ha⟩:=aL h x hg;unfold isMap at hm;split at hm
 ·rename_i nw es hx;rw[hx]at hf⊢;obtain⟨r,en,ck,e1,e2,_,e3⟩:=hf.2;exact .inr ⟨r,en,ck,e1,h.I _ _ e2,e3.1⟩
 ·rename_i hx;rw[hx]at hf⊢;exact .inl ⟨hf.2,rfl⟩
 ·rename_i p hx;rw[hx]at ha⊢;split at hm
  ·rename_i nw es hp;obtain⟨bl,hb⟩:=h.own;have hv:=ha (by rw[hp];rfl);have hfp:=aX hb (p:=p) (by rw[hp];rfl);rw[hp]at hfp;obtain⟨c,_,en,ck,e1,e2,e3,_⟩:=hfp;exact .inr ⟨c,en,ck,hv.trans e1,e2,by simp only[entriesOf,hp];exact e3⟩
  ·exact hm.elim
 ·exact hm.elim
theorem run_findKey{P:Program}{g:Gh}(w:World)(kt:TypeId)(kk:IntKind)(n:Int)(hu:P.underlying kt=some (.int kk)){es:List (Int×PV)}{en:List MapEntry}(h:bm g es en):
 ∃r,(Instr.findKey kt (.int .i64 n) en).run P w=.ok r w∧(r=none∧de es n=none∨∃i m x,r=some (i,m.val)∧en[i]?=some m∧m.key=.int .i64 n∧de es n=some x∧Fit g x m.val):=by
 obtain⟨r,e1,e2⟩:=p6 (kk:=kk) (n:=n) h 0;refine⟨r,?_,?_⟩
 ·simp only[Instr.findKey,Sem.run_bind,run_underlying hu,Result.andThen_ok,e1,Sem.run_pure]
 ·simpa using e2
theorem CI{P:Program}{st:St}(o:Oper)(t:TypeId)(x k:Operand)(ok:Bool)(ho:o.op=.lookup t x k ok):F0 P st o ((sj P st t (mv st x) (mv st k) ok).1,gc st x∧gc st k∧(sj P st t (mv st x) (mv st k) ok).2):=by
 intro g a w h ⟨hx,hk,hd⟩;unfold sj at hd⊢;cases hi:oa P t with
 |none=>rw[hi]at hd;exact hd.elim
 |some z=>
  rw[hi]at hd;simp only at hd⊢;obtain⟨h1,h2,h3⟩:=hd;unfold oa at hi;split at hi
  case h_2=>cases hi
  rename_i kt et hu;split at hi
  case h_2=>cases hi
  rename_i kk hku;cases hinf:P.info? et with
  |none=>rw[hinf]at hi;cases hi
  |some inf=>
   rw[hinf]at hi;simp only at hi;cases hz:inf.zero with
   |none=>rw[hz]at hi;cases hi
   |some zv=>
    rw[hz]at hi;have hzf:Fit g z zv:=by
     have hlits:∀vs:List Value,ai g (vs.map PV.lit) vs:=fun vs=>by
      induction vs with
      |nil=>rfl
      |cons u us ih=>exact⟨u,us,rfl,rfl,ih⟩
     split at hi
     ·rename_i vs he;cases hi;cases he;exact⟨vs,rfl,hlits _⟩
     ·rename_i z' _ he;cases hi;cases he;rfl
     ·cases hi
    have hzr:(zeroValue et).run P w=.ok zv w:=by simp[zeroValue,typeInfo,hinf,hz]
    have hkv:=bD h hk h2;rw[h3]at hkv;have fin:∀(v:Value)(b:Bool),Fit g ((de (entriesOf st (mv st x)) (aQ (mv st k))).getD z) v→b=(de (entriesOf st (mv st x)) (aQ (mv st k))).isSome→
     Fit g (if ok=true then .tup [(de (entriesOf st (mv st x)) (aQ (mv st k))).getD z,.lit (.bool (de (entriesOf st (mv st x)) (aQ (mv st k))).isSome)]else(de (entriesOf st (mv st x)) (aQ (mv st k))).getD z) (if ok=true then .tuple #[v,.bool b]else v):=by
     intro v b f1 f2;subst f2;cases ok with
     |true=>exact⟨_,rfl,v,_,rfl,f1,_,_,rfl,rfl,rfl⟩
     |false=>exact f1
    rcases CH h hx h1 with⟨e1,e2⟩|⟨r,en,ck,e1,e2,e3⟩
    ·refine⟨if ok=true then .tuple #[zv,.bool false]else zv,?_,⟨rfl,fin zv false (by rw[e2];exact hzf) (by rw[e2];rfl)⟩,trivial⟩;have hfk:(Instr.findKey kt (.int .i64 (aQ (mv st k))) (#[]:Array MapEntry).toList).run P w=.ok none w:=by
      simp[Instr.findKey,run_underlying hku,Instr.findNow]
     simp only[execOp,ho,e1,hkv,Instr.lookup,Sem.run_bind,run_underlying hu,Result.andThen_ok,Sem.run_pure,bT w _ kt kk .i64 _ hku,hfk,hzr]
    ·obtain⟨q,k1,k2⟩:=run_findKey (P:=P) w kt kk (aQ (mv st k)) hku e3;have hobj:(getObj r).run P w=.ok (.map en ck) w:=by simp[getObj,Sem.run,e2]
     rcases k2 with⟨rfl,k2⟩|⟨i,m,x',rfl,_,_,k3,k4⟩
     ·refine⟨if ok=true then .tuple #[zv,.bool false]else zv,?_,⟨rfl,fin zv false (by rw[k2];exact hzf) (by rw[k2];rfl)⟩,trivial⟩;simp only[execOp,ho,e1,hkv,Instr.lookup,Sem.run_bind,run_underlying hu,Result.andThen_ok,Sem.run_pure,hobj,bT w _ kt kk .i64 _ hku,k1,hzr]
     ·refine⟨if ok=true then .tuple #[m.val,.bool true]else m.val,?_,⟨rfl,fin m.val true (by rw[k3];exact k4) (by rw[k3];rfl)⟩,trivial⟩;simp only[execOp,ho,e1,hkv,Instr.lookup,Sem.run_bind,run_underlying hu,Result.andThen_ok,Sem.run_pure,hobj,bT w _ kt kk .i64 _ hku,k1]
end Go.AX
namespace Go.AX
def zu(P:Program)(st:St)(c:Call):SV×Prop:=
 match c.callee,c.args.toList,c.argTypes.toList with
 |.builtin .len,[x],[t]=>match tk P t with
  |.slice=>((rY P st t (mv st x)).1,gc st x∧(rY P st t (mv st x)).2)
  |.string=>((pX (mv st x)).1,gc st x∧(pX (mv st x)).2)
  |.map=>(.int .i64 (entriesOf st (mv st x)).length,gc st x∧isMap st (mv st x))
  |_=>(.pv .bot,False)
 |.builtin .min,[x,y],_=>(.int (fk (mv st x)) (if aQ (mv st y)<aQ (mv st x)then aQ (mv st y)else aQ (mv st x)),gc st x∧gc st y∧fl (mv st x)∧fl (mv st y))
 |.builtin .max,[x,y],_=>(.int (fk (mv st x)) (if aQ (mv st x)<aQ (mv st y)then aQ (mv st y)else aQ (mv st x)),gc st x∧gc st y∧fl (mv st x)∧fl (mv st y))
 |_,_,_=>(.pv .bot,False)
def CJ(P:Program)(op:BinOp)(t:TypeId)(x y:SV):SV×Prop:=
 match tk P t with
 |.int=>Cx op x y
 |.bool=>Cy op x y
 |.string=>Cz op x y
 |.ptr=>((AY op x y).1,uZ x∧(AY op x y).2)
 |.flat n=>AZ n op x y
 |_=>(.pv .bot,False)
def tJ(st:St)(op:BinOp)(x y:Operand):Option Bool:=
 match y,mv st x with
 |.const (.map none),.al p=>match aa st p,op with
  |.omap _ _,.eql=>some false
  |.omap _ _,.neq=>some true
  |_,_=>none
 |.const (.map none),.pv (.amap _ _)=>match op with
  |.eql=>some false
  |.neq=>some true
  |_=>none
 |_,_=>none
def pop(P:Program)(st:St)(o:Op):SV×Prop:=
 match o with
 |.move x=>(mv st x,gc st x)
 |.assign x=>(mv st x,gc st x)
 |.pick c x y=>((u7 (mv st c) (mv st x) (mv st y)).1,gc st c∧(pD (mv st c)=true→gc st x)∧(pD (mv st c)=false→gc st y)∧(u7 (mv st c) (mv st x) (mv st y)).2)
 |.unOp op _ x=>((IX op (mv st x)).1,gc st x∧(IX op (mv st x)).2)
 |.binOp op t x y _=>match tJ st op x y with
  |some b=>(.bool b,gc st x∧tk P t=.map)
  |none=>((CJ P op t (mv st x) (mv st y)).1,gc st x∧gc st y∧(CJ P op t (mv st x) (mv st y)).2)
 |.fieldAddr t x f=>((nX P st t f (mv st x)).1,gc st x∧(nX P st t f (mv st x)).2)
 |.indexAddr t x i=>((A1 P st t (mv st x) (mv st i)).1,gc st x∧gc st i∧(A1 P st t (mv st x) (mv st i)).2)
 |.load t x=>((zn P st t (mv st x)).1,gc st x∧(zn P st t (mv st x)).2)
 |.extract x i=>((A2 i (mv st x)).1,gc st x∧(A2 i (mv st x)).2)
 |.field t x f=>((sa P t f (mv st x)).1,gc st x∧(sa P t f (mv st x)).2)
 |.convert s d x=>((A3 P s d (mv st x)).1,gc st x∧(A3 P s d (mv st x)).2)
 |.nilCheck x=>((IY st (mv st x)).1,gc st x∧(IY st (mv st x)).2)
 |.slice t x lo hi none=>((A4 P st t (mv st x) lo hi).1,gc st x∧(A4 P st t (mv st x) lo hi).2)
 |.slice t x (some lo) (some hi) (some m)=>((se P st t (mv st x) lo hi m).1,gc st x∧(se P st t (mv st x) lo hi m).2)
 |.call c=>zu P st c
 |.build t ps=>tH P st t ps
 |.index t x i=>((nZ P t (mv st x) (mv st i)).1,gc st x∧gc st i∧(nZ P t (mv st x) (mv st i)).2)
 |.makeFunc f first cap=>xx st f first cap
 |.lookup t x k ok=>((sj P st t (mv st x) (mv st k) ok).1,gc st x∧gc st k∧(sj P st t (mv st x) (mv st k) ok).2)
 |_=>(.pv .bot,False)
theorem zw{P:Program}{t:TypeId}(h:tk P t=.bool):P.underlying t=some .bool:=by
 unfold tk at h;split at h<;>first|assumption|(cases h;done)|(split at h<;>cases h)
theorem sk{P:Program}{t:TypeId}(h:tk P t=.string):P.underlying t=some .string:=by
 unfold tk at h;split at h<;>first|assumption|(cases h;done)|(split at h<;>cases h)
theorem CK{P:Program}{t:TypeId}(h:tk P t=.map):∃k e,P.underlying t=some (.map k e):=by
 unfold tk at h;split at h<;>first|exact⟨_,_,by assumption⟩|(cases h;done)|(split at h<;>cases h)
theorem CL{P:Program}{t:TypeId}(h:tk P t=.ptr):∃e,P.underlying t=some (.pointer e):=by
 unfold tk at h;split at h<;>first|exact⟨_,by assumption⟩|(cases h;done)|(split at h<;>cases h)
theorem CM{P:Program}{st:St}(o:Oper):F0 P st o (pop P st o.op):=by
 cases hop:o.op
 case move x=>exact(tE o x (.inl hop)).pop
 case assign x=>exact(tE o x (.inr hop)).pop
 case pick c x y=>exact(u9 o c x y hop).pop
 case unOp op t x=>exact(CD o op t x hop).pop
 case fieldAddr t x f=>exact(r9 o t f x hop).pop
 case indexAddr t x i=>exact(zm o t x i hop).pop
 case load t x=>exact CC o t x hop
 case extract x i=>exact(zp o x i hop).pop
 case field t x f=>exact(vc o t x f hop).pop
 case convert s d x=>exact(zr o s d x hop).pop
 case nilCheck x=>exact(CF o x hop).pop
 case slice t x lo hi mx=>
  cases mx with
  |none=>exact(zt o t x lo hi hop).pop
  |some m=>
   cases lo with
   |none=>exact fun _ _ _ _ h=>h.elim
   |some lo=>
    cases hi with
    |none=>exact fun _ _ _ _ h=>h.elim
    |some hi=>exact(CG o t x lo hi m hop).pop
 case binOp op t x y u=>
  simp only[pop,CJ];split
  ·rename_i b hmn;intro g a w h ⟨hx,htk⟩;obtain⟨k,e,hu⟩:=CK htk;unfold tJ at hmn;split at hmn
   case h_3=>cases hmn
   case h_2=>
    rename_i nw es hm;obtain⟨hf,_⟩:=aL h x hx;rw[hm]at hf;have hy:a.eval (.const (.map none))=.map none:=rfl;obtain⟨c,en,ck,hc,_⟩:=hf.2;split at hmn
    ·cases hmn
     refine⟨.bool false,?_,⟨rfl,rfl⟩,trivial⟩;simp only[execOp,hop,hc,hy,eqGuard_at_map,Sem.run_bind,Sem.run_pure,Result.andThen_ok,Go.run_eql_map_nil w t k e (some c) hu];rfl
    ·cases hmn
     refine⟨.bool true,?_,⟨rfl,rfl⟩,trivial⟩;simp only[execOp,hop,hc,hy,eqGuard_at_map,Sem.run_bind,Sem.run_pure,Result.andThen_ok,Go.run_neq_map_nil w t k e (some c) hu];rfl
    ·cases hmn
   rename_i p hm;obtain⟨_,ha⟩:=aL h x hx;rw[hm]at ha;obtain⟨bl,hb⟩:=h.own;have key:∀(nw:Bool)(es:List (Int×PV)),aa st p=.omap nw es→∃c,a.eval x=.map (some c):=fun nw es hp=>by
    have hv:=ha (by rw[hp];rfl);have hf:=aX hb (p:=p) (by rw[hp];rfl);rw[hp]at hf;obtain⟨c,_,en,ck,e1,_⟩:=hf;exact⟨c,by rw[hv,e1]⟩
   have hy:a.eval (.const (.map none))=.map none:=rfl;split at hmn
   ·rename_i nw es hp;cases hmn
    obtain⟨c,hc⟩:=key nw es hp;refine⟨.bool false,?_,⟨rfl,rfl⟩,trivial⟩;simp only[execOp,hop,hc,hy,eqGuard_at_map,Sem.run_bind,Sem.run_pure,Result.andThen_ok,Go.run_eql_map_nil w t k e (some c) hu];rfl
   ·rename_i nw es hp;cases hmn
    obtain⟨c,hc⟩:=key nw es hp;refine⟨.bool true,?_,⟨rfl,rfl⟩,trivial⟩;simp only[execOp,hop,hc,hy,eqGuard_at_map,Sem.run_bind,Sem.run_pure,Result.andThen_ok,Go.run_neq_map_nil w t k e (some c) hu];rfl
   ·cases hmn
  cases ht:tk P t with
  |int=>exact(zg o op t u x y hop).pop
  |bool=>exact(zh o op t u x y hop (zw ht)).pop
  |string=>exact(zi o op t u x y hop).pop
  |ptr=>obtain⟨e,he⟩:=CL ht;exact(zj o op t u e x y hop he).pop
  |flat n=>exact F1 o op t u x y n hop ht
  |_=>exact fun _ _ _ _ h=>h.2.2.elim
 case build t ps=>exact A5 o t ps hop
 case index t x i=>exact A6 o t x i hop
 case makeFunc f first cap=>exact A7 o f first cap hop
 case lookup t x k ok=>exact CI o t x k ok hop
 case call c=>
  simp only[pop,zu];split
  ·rename_i x t h1 h2 h3;have hc:c={callee:=.builtin .len,args:=#[x],argTypes:=#[t]}:=by
    cases c with
    |mk a b d=>
     simp only at h1 h2 h3;rw[h1,show b=#[x]from by rw[←Array.toArray_toList (xs:=b),h2],show d=#[t]from by rw[←Array.toArray_toList (xs:=d),h3]]
   rw[hc]at hop;cases ht:tk P t with
   |slice=>exact(u6 o t x hop).pop
   |string=>exact(rZ o t x hop (sk ht)).pop
   |map=>
    intro g a w h ⟨hx,hd⟩;obtain⟨k,e,hu⟩:=CK ht;refine⟨_,?_,⟨rfl,rfl⟩,trivial⟩;rcases CH h hx hd with⟨e1,e2⟩|⟨r,en,ck,e1,e2,e3⟩
    ·simp[execOp,hop,resolve,invoke,builtin,e1,e2,Builtin.len_,run_underlying hu,goInt]
    ·have hl:=e3.length;have hobj:(getObj r).run P w=.ok (.map en ck) w:=by simp[getObj,Sem.run,e2]
     simp[execOp,hop,resolve,invoke,builtin,e1,Builtin.len_,run_underlying hu,goInt,hobj,←hl]
   |_=>exact fun _ _ _ _ h=>h.elim
  ·rename_i x y h1 h2;intro g a w h ⟨g1,g2,i1,i2⟩;have e2:c.args=#[x,y]:=by rw[←Array.toArray_toList (xs:=c.args),h2]
   refine⟨_,?_,⟨rfl,rfl⟩,trivial⟩;have ex:=bD h g1 i1;have ey:=bD h g2 i2;simp[execOp,hop,resolve,h1,e2,ex,ey,invoke,builtin,Builtin.min_,Builtin.min2]
  ·rename_i x y h1 h2;intro g a w h ⟨g1,g2,i1,i2⟩;have e2:c.args=#[x,y]:=by rw[←Array.toArray_toList (xs:=c.args),h2]
   refine⟨_,?_,⟨rfl,rfl⟩,trivial⟩;have ex:=bD h g1 i1;have ey:=bD h g2 i2;simp[execOp,hop,resolve,h1,e2,ex,ey,invoke,builtin,Builtin.max_,Builtin.max2]
  ·exact fun _ _ _ _ h=>h.elim
 all_goals exact fun _ _ _ _ h=>h.elim
/-! ### What is laid into memory is frozen -/
def mz(st:St)(p:Pos):PV×St×Prop:=
 match aa st p with
 |.own nw e rows=>(.seq nw e rows,setPos st p (.pv (.seq nw e rows)),True)
 |.omap nw es=>(.amap nw es,setPos st p (.pv (.amap nw es)),True)
 |_=>(.bot,st,False)
def bL(st:St)(x:Operand):PV×St×Prop:=
 match mv st x with
 |.pv y=>(y,st,gc st x)
 |.al p=>((mz st p).1,(mz st p).2.1,gc st x∧(mz st p).2.2)
 |.loc p lo hi=>match aa st p with
  |.own nw e rows=>(.seq nw e ((rows.take hi).drop lo),setPos st p (.pv (.seq nw e rows)),gc st x)
  |_=>(.bot,st,False)
 |_=>(.bot,st,False)
theorem kb{g:Gh}{st:St}{a:Act}{w:World}(h:Sim g st a w)(x:Operand)(hd:(bL st x).2.2):
 ∃g',g.to g'∧g.le g'∧g'.n=g.n∧Sim g' (bL st x).2.1 a w∧Fit g' (bL st x).1 (a.eval x):=by
 have hrefl:g.to g:=⟨fun _ _ h=>h,rfl,rfl,rfl,rfl,rfl,h.n0,fun _ _=>rfl,fun _ _ h=>h⟩;unfold bL at hd⊢;split at hd
 ·rename_i y hm;obtain⟨hf,_⟩:=aL h x hd;rw[hm]at hf;exact⟨g,hrefl,Gh.le.refl g,rfl,h,hf.2⟩
 ·rename_i p hm;obtain⟨hf,ha⟩:=aL h x hd.1;rw[hm]at ha;have hd2:=hd.2;unfold mz at hd2⊢;split at hd2
  ·rename_i nw e rows hp;obtain⟨g',t1,t2,t3,t4,t5,_⟩:=h.freeze (p:=p) (by rw[hp];rfl);rw[hp]at t4 t5;exact⟨g',t1,t2,t3,t5,by rw[ha (by rw[hp];rfl)];exact t4⟩
  ·rename_i nw es hp;obtain⟨g',t1,t2,t3,t4,t5,_⟩:=h.freeze (p:=p) (by rw[hp];rfl);rw[hp]at t4 t5;exact⟨g',t1,t2,t3,t5,by rw[ha (by rw[hp];rfl)];exact t4⟩
  ·exact hd2.elim
 ·rename_i p lo hi hm;split at hd
  ·rename_i nw e rows hp;obtain⟨hf,ha⟩:=aL h x hd;rw[hm]at ha;obtain⟨g',t1,t2,t3,t4,t5,_⟩:=h.freeze (p:=p) (by rw[hp];rfl);rw[hp]at t4 t5;refine⟨g',t1,t2,t3,t5,?_⟩;obtain⟨j1,j2,q,cap,hv,jc,hq,_⟩:=ha _ _ _ hp;refine⟨q,cap,by rw[hv,List.length_drop,List.length_take];congr 1;omega,by simp;omega,?_⟩
   by_cases hlh:lo=hi
   ·left;subst hlh;simp
   ·right;rcases hq with hq|⟨c,n,cp,hpv,rfl⟩
    ·exact absurd hq hlh
    ·obtain⟨q',cap',e1,_,hr⟩:=t4;rw[hpv]at e1;cases e1;rcases hr with rfl|⟨c',off,arr,T,fz,vs,e1,e2,e3,e4,e5⟩
     ·simp at j2;omega
     ·cases e1
      refine⟨c,lo*e,arr,T,fz,(vs.take (hi*e)).drop (lo*e),rfl,e2,e3,e4.cut lo hi j1 j2,?_⟩;have:=gC e5 (lo*e) (hi*e)
      rwa [List.drop_drop,Nat.zero_add]at this
  ·cases hd
 ·exact hd.elim
def cT(st:St):List Operand→List PV×St×Prop
 |[]=>([],st,True)
 |x::xs=>((bL st x).1::(cT (bL st x).2.1 xs).1,(cT (bL st x).2.1 xs).2.1,(bL st x).2.2∧(cT (bL st x).2.1 xs).2.2)
theorem lB:∀(xs:List Operand){g:Gh}{st:St}{a:Act}{w:World},Sim g st a w→(cT st xs).2.2→
 ∃g',g.to g'∧g.le g'∧g'.n=g.n∧Sim g' (cT st xs).2.1 a w∧ai g' (cT st xs).1 (xs.map a.eval)
 |[],g,st,a,w,h,_=>⟨g,⟨fun _ _ h=>h,rfl,rfl,rfl,rfl,rfl,h.n0,fun _ _=>rfl,fun _ _ h=>h⟩,Gh.le.refl g,rfl,h,rfl⟩
 |x::xs,g,st,a,w,h,hd=>by
  obtain⟨g1,t1,l1,n1,s1,f1⟩:=kb h x hd.1;obtain⟨g2,t2,l2,n2,s2,f2⟩:=lB xs s1 hd.2;refine⟨g2,t1.trans t2,⟨fun c o hc=>l2.I _ _ (l1.I _ _ hc),Nat.le_trans l2.B l1.B,by rw[n2,n1];exact Nat.le_refl _,fun b hb=>by rw[l2.μ b (by rw[n1];exact hb),l1.μ b hb]⟩,n2.trans n1,s2,_,_,rfl,Fit.mono l2 _ _ f1,f2⟩
end Go.AX
namespace Go.AX
theorem Sim.refl_to{g:Gh}{st:St}{a:Act}{w:World}(h:Sim g st a w):g.to g:=⟨fun _ _ h=>h,rfl,rfl,rfl,rfl,rfl,h.n0,fun _ _=>rfl,fun _ _ h=>h⟩
/-! ### Reading -/
def putD(d:Option Tmp)(sv:SV)(st:St):St:=
 match d with
 |some d=>st.put d sv
 |none=>st
def bR(N:Nat)(d:Option Tmp):Prop:=
 match d with
 |some d=>d<N
 |none=>True
theorem Sim.putD{g:Gh}{st:St}{a:Act}{w:World}(h:Sim g st a w){d:Option Tmp}(hd:bR g.N d){sv:SV}{v:Value}(hs:av g w sv v none)(ha:bN g st a w sv v)(ho:sv.isOwn=false):
 Sim g (putD d sv st) (a.put d v) w:=by
 cases d with
 |none=>exact h
 |some d=>exact h.put hd hs ha ho
/-! ### An owned value moves -/
def zx(st:St)(s d:Nat):St:=⟨(d,look st.t s)::aA (cN d) ((s,.pv .bot)::st.t),st.h⟩
theorem Sim.take{g:Gh}{st:St}{a:Act}{w:World}(h:Sim g st a w){s d:Nat}(hd:d<g.N)(ho:(look st.t s).isOwn=true):Sim g (zx st s d) (a.put (some d) (a.tmps.getD s undef)) w:=by
 obtain⟨bl,hb⟩:=h.own;obtain⟨h1,bl',hb',h2,h3,h4⟩:=h.drop hb (.slot s);have hs:=hb.slots s;refine h1.putOwn hb' hd rfl (Nat.le_refl _) (fun _ _ _=>rfl) hs ho (fun c hc=>⟨(hb.free _ c hc).2.2.1,h4 c hc⟩)
theorem xy{P:Program}{st:St}(o:Oper)(s d:Nat)(ho:o.op=.assign (.tmp s))(hd:o.dst=some d)(hown:(look st.t s).isOwn=true){N:Nat}(hN:d<N):
 ∀g a w,g.N=N→Sim g st a w→∃v w' g',(execOp a.eval o).run P w=.ok (.value v) w'∧g.to g'∧Sim g' (zx st s d) (a.put o.dst v) w':=by
 intro g a w hg h;refine⟨a.tmps.getD s undef,w,g,by simp[execOp,ho,Act.eval],h.refl_to,?_⟩;rw[hd];exact h.take (hg▸hN) hown
/-! ### New blocks of the walk's own -/
def dX(P:Program)(t:TypeId):Option (List PV):=
 match P.info? t with
 |some i=>i.zero.map fun z=>z.cells.toList.map PV.lit
 |none=>none
theorem dI(g:Gh):∀vs:List Value,ai g (vs.map PV.lit) vs
 |[]=>rfl
 |v::vs=>⟨v,vs,rfl,rfl,dI g vs⟩
theorem CN{P:Program}{st:St}(o:Oper)(t:TypeId)(d:Nat)(zs:List PV)(ho:o.op=.alloc t)(hd:o.dst=some d)(hz:dX P t=some zs)(hz1:bn zs=true){N:Nat}(hN:d<N):
 ∀g a w,g.N=N→Sim g st a w→∃v w' g',(execOp a.eval o).run P w=.ok (.value v) w'∧g.to g'∧Sim g' ((st.grow (zs.map .pv)).put d (.pv (.ptr st.h.length 0))) (a.put o.dst v) w':=by
 intro g a w hg h;unfold dX at hz;split at hz
 case h_2=>cases hz
 rename_i i hi;simp only[Option.map_eq_some_iff]at hz;obtain⟨z,hz,rfl⟩:=hz;obtain⟨g',t1,l1,n1,m1,s1⟩:=h.blockNew (z.cells.toList.map PV.lit) z.cells t (dI g _) (db hz1 (dI g _));refine⟨.pointer (some ⟨w.heap.size,0,none⟩),w.alloc (.cells z.cells t),g',?_,t1,?_⟩
 ·simp only[execOp,ho,Instr.alloc,zeroValue,typeInfo,Sem.run_bind,run_program,Result.andThen_ok,hi,Sem.run_pure,hz];simp[newVar,newRow]
 ·rw[hd];refine s1.put (by rw[t1.N,hg];exact hN) ⟨rfl,?_,?_⟩ trivial rfl
  ·rw[n1,←h.n];omega
  ·rw[←h.n,m1]
theorem HW{P:Program}{st:St}(o:Oper)(t:TypeId)(x:Operand)(d:Nat)(ho:o.op=.box t x)(hd:o.dst=some d)(he:(bL st x).2.2)(hx:(bL st x).1.one=true∨cY (.pv (bL st x).1))(hx1:bn (aK (bL st x).1)=true){N:Nat}(hN:d<N):
 ∀g a w,g.N=N→Sim g st a w→∃v w' g',(execOp a.eval o).run P w=.ok (.value v) w'∧g.to g'∧Sim g' (((bL st x).2.1.grow ((aK (bL st x).1).map .pv)).put d (.pv (.ptr (bL st x).2.1.h.length 0))) (a.put o.dst v) w':=by
 intro g a w hg h;obtain⟨g1,t1,l1,n1,s1,f1⟩:=kb h x he;have hc:=gu f1 hx;obtain⟨g2,t2,l2,n2,m2,s2⟩:=s1.blockNew _ (a.eval x).cells t hc (db hx1 hc);refine⟨.pointer (some ⟨w.heap.size,0,none⟩),w.alloc (.cells (a.eval x).cells t),g2,?_,t1.trans t2,?_⟩
 ·simp[execOp,ho,Instr.box,newVar,newRow]
 ·rw[hd];refine s2.put (by rw[t2.N,t1.N,hg];exact hN) ⟨rfl,?_,?_⟩ trivial rfl
  ·rw[n2,←s1.n];omega
  ·rw[←s1.n,m2]
/-! ### Stores -/
theorem dF{P:Program}{t:TypeId}{ag:Bool}{n:Nat}(w:World)(hl:aJ P t=some (ag,n))(v:Value)(hv:v.cells.size=n)(c off:Nat)(T:TypeId)(arr:Array Value)
 (hc:w.heap[c]?=some (.cells arr T (0,0))) (hfit:off+n≤arr.size) (h1:∀u∈v.cells.toList,u.oneCell'=true):
 (storeVar t ⟨c,off,none⟩ v).run P w=.ok () (w.setRow c (splice arr.toList off v.cells.toList).toArray):=by
 obtain⟨_,h2⟩:=gt hl w;have:=run_storeCells_at P c off T v.cells.toList 0 arr w hc (by simp[hv];omega) h1;simp only[Nat.add_zero]at this;simp only[storeVar,Sem.run_bind,h2,Result.andThen_ok,hv,ne_eq,not_true,if_false,Sem.run_ite];simpa[splice]using this
theorem A8{P:Program}{st:St}(o:Oper)(t:TypeId)(x y:Operand)(b off n:Nat)(ag:Bool)(ho:o.op=.store t x y)(hd:o.dst=none)(hl:aJ P t=some (ag,n))
 (he:(bL st y).2.2) (hone:bn (aK (bL st y).1)=true) (hy:(bL st y).1.one=true∨cY (.pv (bL st y).1)) (hn:(aK (bL st y).1).length=n)
 (hx:mv (bL st y).2.1 x=.pv (.ptr b off)) (hgx:gc (bL st y).2.1 x) (hfit:off+n≤((bL st y).2.1.h.getD b []).length):
 ∀g a w,Sim g st a w→∃w' g',(execOp a.eval o).run P w=.ok .skip w'∧g.to g'∧
  Sim g' ⟨aA (aC b off n) (bL st y).2.1.t,(bL st y).2.1.h.set b (splice ((bL st y).2.1.h.getD b []) off ((aK (bL st y).1).map .pv))⟩ a w':=by
 intro g a w h;obtain⟨g1,t1,l1,n1,s1,f1⟩:=kb h y he;obtain⟨hfx,_⟩:=aL s1 x hgx;rw[hx]at hfx;obtain⟨_,hb1,hvx⟩:=hfx;have hbl:b<(bL st y).2.1.h.length:=s1.n▸hb1;have hbe:(bL st y).2.1.h[b]?=some ((bL st y).2.1.h.getD b []):=by simp[List.getD,List.getElem?_eq_getElem hbl]
 obtain⟨bl,hbo⟩:=s1.own;obtain⟨arr,T,a1,⟨a2,_⟩,_⟩:=hbo.blocks b _ hbe;have hc:=gu f1 hy;have hcn:(a.eval y).cells.size=n:=by have:=hc.length;rw[hn]at this;simpa using this
 have hr:=dF w hl (a.eval y) hcn (g1.μ b) off T arr a1 (by rw[a2];exact hfit) (db hone hc);refine⟨w.setRow (g1.μ b) (splice arr.toList off (a.eval y).cells.toList).toArray,g1,?_,t1,?_⟩
 ·simp only[execOp,ho,hvx,Instr.storeAt,Instr.sureAddr,Sem.run_bind,Sem.run_pure,Result.andThen_ok,hr]
 ·have:=s1.blockWrite (w':=w.setRow (g1.μ b) (splice arr.toList off (a.eval y).cells.toList).toArray) hbe (by rw[hn];exact hfit) a1 hc (db hone hc) rfl (size_setRow _ _ _) (fun c hc=>setRow_other w _ c _ hc) ⟨T,setRow_heap w _ arr _ T _ a1⟩ (by simp);rw[hn]at this;exact this
theorem au.splice{g:Gh}{e:Nat}:∀{rows:List (List PV)}{vs:List Value}(_:au g e rows vs)(i k:Nat)(ys:List PV)(us:List Value),i<rows.length→k+ys.length≤e→(∀u∈us,u.oneCell'=true)→ai g ys us→
 au g e (rows.set i (AX.splice (rows.getD i []) k ys)) (AX.splice vs (i*e+k) us)
 |[],_,_,i,k,ys,us,h,_,_,_=>by simp at h
 |r0::rows,_,⟨v1,v2,h1,h2,h3,h4⟩,0,k,ys,us,_,hk,ho,hy=>by
  have hl:=h3.length;have hu:=hy.length;refine⟨AX.splice v1 k us,v2,?_,⟨?_,fun v hv=>?_⟩,?_,h4⟩
  ·rw[h1];simp only[AX.splice,Nat.zero_mul,Nat.zero_add];rw[List.take_append_of_le_length (by omega),List.drop_append_of_le_length (by omega),List.append_assoc,List.append_assoc,List.append_assoc]
  ·simp only[List.getD_eq_getElem?_getD,List.getElem?_cons_zero,Option.getD_some];rw[bB (by omega)];exact h2.1
  ·simp only[AX.splice,List.mem_append]at hv;rcases hv with(hv|hv)|hv
   ·exact h2.2 v (List.mem_of_mem_take hv)
   ·exact ho v hv
   ·exact h2.2 v (List.mem_of_mem_drop hv)
  ·simp only[List.getD_eq_getElem?_getD,List.getElem?_cons_zero,Option.getD_some,AX.splice];rw[←hu];exact((h3.take k).append hy).append (h3.drop _)
 |r0::rows,_,⟨v1,v2,h1,h2,h3,h4⟩,i+1,k,ys,us,h,hk,ho,hy=>by
  have hl:=h3.length;have h2l:=h4.length;have hlt:i<rows.length:=by simpa using h
  have hmul:i*e+e≤rows.length*e:=by rw[←Nat.succ_mul];exact Nat.mul_le_mul_right _ hlt
  have hu:=hy.length;refine⟨v1,AX.splice v2 (i*e+k) us,?_,h2,h3,?_⟩
  ·rw[h1];simp only[AX.splice];have e1:(i+1)*e+k=v1.length+(i*e+k):=by rw[hl,h2.1,Nat.succ_mul];omega
   rw[e1,List.take_length_add_append,Nat.add_assoc,List.drop_length_add_append];simp[List.append_assoc]
  ·have:=au.splice h4 i k ys us hlt hk ho hy;simpa using this
theorem xz{P:Program}{st:St}(o:Oper)(t:TypeId)(x y:Operand)(p:Pos)(i k n e:Nat)(nw:Bool)(rows:List (List PV))(ag:Bool)(ho:o.op=.store t x y)(hl:aJ P t=some (ag,n))
 (he:(bL st y).2.2) (hone:bn (aK (bL st y).1)=true) (hy:(bL st y).1.one=true∨cY (.pv (bL st y).1)) (hn:(aK (bL st y).1).length=n)
 (hx:mv (bL st y).2.1 x=.sptr p i k) (hgx:gc (bL st y).2.1 x) (hp:aa (bL st y).2.1 p=.own nw e rows) (hi:i<rows.length) (hk:k+n≤e):
 ∀g a w,Sim g st a w→∃w' g',(execOp a.eval o).run P w=.ok .skip w'∧g.to g'∧
  Sim g' (setPos (bL st y).2.1 p (.own nw e (rows.set i (splice (rows.getD i []) k (aK (bL st y).1))))) a w':=by
 intro g a w h;obtain⟨g1,t1,l1,n1,s1,f1⟩:=kb h y he;obtain⟨hfx,hax⟩:=aL s1 x hgx;rw[hx]at hax;obtain⟨c,m,cp,hpv,hvx⟩:=hax _ _ _ hp;obtain⟨bl,hbo⟩:=s1.own;have hown:(aa (bL st y).2.1 p).isOwn=true:=by rw[hp];rfl
 have hfp:=aX hbo hown;rw[hp]at hfp;have hc:=gu f1 hy;have hcn:(a.eval y).cells.size=n:=by have:=hc.length;rw[hn]at this;simpa using this
 rcases hfp with⟨_,rfl,_⟩|⟨c',hbc,cap,arr,T,vs,e1,e2,e3,e4,e5,e6,e7⟩
 ·simp at hi
 ·rw[e1]at hpv;cases hpv;have hmul:i*e+e≤cp*e:=by rw[←Nat.succ_mul];exact Nat.mul_le_mul_right _ (by omega)
  have hr:=dF w hl (a.eval y) hcn c (i*e+k) T arr e2 (by rw[e3];omega) (db hone hc);refine⟨_,g1,?_,t1,s1.ownWrite (w':=w.setRow c (splice arr.toList (i*e+k) (a.eval y).cells.toList).toArray) hbo hown hbc rfl (size_setRow _ _ _) (fun q hq=>setRow_other w _ q _ hq) (.inr ⟨c,rfl,cp,_,T,splice vs (i*e+k) (a.eval y).cells.toList,?_,setRow_heap w _ arr _ T _ e2,?_,⟨by simpa using e4.1,e4.2.1,pV e4.2.2 (db hone hc) _⟩,?_,?_,e7⟩) rfl ?_⟩
  ·simp only[execOp,ho,hvx,Instr.storeAt,Instr.sureAddr,Sem.run_bind,Sem.run_pure,Result.andThen_ok,hr]
  ·rw[e1];simp
  ·have:i*e+k+(a.eval y).cells.toList.length≤arr.toList.length:=by simp[hcn,e3];omega
   simp only[List.size_toArray];rw[bB this];simp[e3]
  ·exact e5.splice i k _ _ hi (by rw[hn];exact hk) (db hone hc) hc
  ·obtain⟨r,hr'⟩:=e6;have hvl:=e5.length;have hmul2:i*e+e≤rows.length*e:=by rw[←Nat.succ_mul];exact Nat.mul_le_mul_right _ hi
   refine⟨r,?_⟩;simp only[splice];have hcl:(a.eval y).cells.toList.length=n:=by simp[hcn]
   rw[←hr',List.take_append_of_le_length (by omega),List.drop_append_of_le_length (by rw[hcl];omega)];simp[List.append_assoc]
  ·intro nw' e' rows' hh;cases hh
   exact⟨nw,rows,hp,by simp⟩
end Go.AX
namespace Go.AX
theorem vf(size:Nat):∀(vs:List Value)(j:Nat)(cells:Array Value),(∀v∈vs,v.cells.size=size)→cells.size=(j+vs.length)*size→
 ∃out,Instr.fill (fun i=>some (i*size,size)) cells ((vs.zipIdx j).map fun p=>(p.2,p.1))=some out∧out.toList=cells.toList.take (j*size)++(vs.map fun v=>v.cells.toList).flatten
 |[],j,cells,_,hc=>⟨cells,by simp[Instr.fill],by simp at hc;rw[←hc,←Array.length_toList,List.take_length];simp⟩
 |v::vs,j,cells,hv,hc=>by
  have h1:=hv v (List.mem_cons_self ..);simp only[List.length_cons]at hc;have hle:j*size+size≤cells.size:=by rw[hc,←Nat.succ_mul];exact Nat.mul_le_mul_right _ (by omega)
  simp only[List.zipIdx_cons,List.map_cons];rw[nY _ cells j (j*size) size v _ rfl h1 hle];have hsl:(splice cells.toList (j*size) v.cells.toList).length=cells.size:=by rw[bB (by simp[h1];exact hle)];simp
  obtain⟨out,ho,hl⟩:=vf size vs (j+1) (splice cells.toList (j*size) v.cells.toList).toArray (fun u hu=>hv u (List.mem_cons_of_mem _ hu)) (by simp only[List.size_toArray,hsl,hc];congr 1;omega);refine⟨out,ho,?_⟩;rw[hl];simp only[List.map_cons,List.flatten_cons];rw[←List.append_assoc];congr 1;simp only[splice];rw[List.append_assoc,←List.append_assoc];have e1:((cells.toList.take (j*size))++v.cells.toList).length=(j+1)*size:=by simp[h1,Nat.succ_mul];omega
  rw[←e1,List.take_left'];rfl
theorem sm{g:Gh}{e:Nat}:∀{ys:List PV}{vs:List Value},ai g ys vs→(∀y∈ys,(aK y).length=e∧bn (aK y)=true∧(y.one=true∨cY (.pv y)))→
 au g e (ys.map aK) ((vs.map fun v=>v.cells.toList).flatten)∧∀v∈vs,v.cells.size=e
 |[],_,h,_=>by simp only[ai]at h;subst h;simp[au]
 |y::ys,_,⟨v,r,h1,h2,h3⟩,hy=>by
  subst h1;obtain⟨a1,a2,a3⟩:=hy y (List.mem_cons_self ..);have hc:=gu h2 a3;obtain⟨b1,b2⟩:=sm h3 (fun z hz=>hy z (List.mem_cons_of_mem _ hz));refine⟨⟨v.cells.toList,_,by simp,⟨a1,db a2 hc⟩,hc,b1⟩,fun u hu=>?_⟩;rcases List.mem_cons.1 hu with rfl|hu
  ·have:=hc.length;rw[a1]at this;simpa using this
  ·exact b2 u hu
def df(P:Program)(t:TypeId):Option (List PV):=
 match P.underlying t with
 |some (.slice e)=>dX P e
 |_=>none
theorem jL{P:Program}{g:Gh}{a:Act}{w:World}(o:Oper)(t:TypeId)(len e:Nat)(parts:Array (Nat×Operand))(zs ys:List PV)(ho:o.op=.buildSlice t len parts)
 (hs:bg P t=some e) (hz:df P t=some zs) (hsm:len*e≤16777216) (hp:parts.toList.map (·.1)=List.range len)
 (f1:ai g ys ((parts.toList.map (·.2)).map a.eval)) (hy:∀y∈ys,(aK y).length=e∧bn (aK y)=true∧(y.one=true∨cY (.pv y))):
 ∃arr T,au g e (ys.map aK) arr∧
  (execOp a.eval o).run P w=.ok (.value (.slice (some ⟨w.heap.size,0,none⟩) len len)) (w.alloc (.cells arr.toArray T))∧(ys.map aK).length=len:=by
 obtain⟨r1,r2⟩:=sm f1 hy;unfold bg at hs;split at hs
 case h_2=>cases hs
 rename_i el hu;simp only[Option.map_eq_some_iff]at hs;obtain⟨inf,hinf,rfl⟩:=hs;unfold df at hz;rw[hu]at hz;simp only[dX,hinf,Option.map_eq_some_iff]at hz;obtain⟨z,hz,rfl⟩:=hz;have hlen:parts.toList.length=len:=by have:=congrArg List.length hp;simpa using this
 refine⟨_,el,r1,?_,?_⟩
 ·have hargs:(parts.map fun(p:Nat×Operand)=>(p.1,a.eval p.2)).toList=(((parts.toList.map (·.2)).map a.eval).zipIdx 0).map fun p=>(p.2,p.1):=by
   apply List.ext_getElem?;intro i;simp only[Array.toList_map,List.getElem?_map,List.getElem?_zipIdx,Option.map_map];cases hi:parts.toList[i]?with
   |none=>simp
   |some q=>
    have:=congrArg (fun l=>l[i]?) hp;simp only[List.getElem?_map,hi,Option.map_some]at this;rw[List.getElem?_range (by have:=(List.getElem?_eq_some_iff.1 hi).1;omega)]at this;simp only[Option.some.injEq]at this;simp[this]
  have hnew:((Array.range (len*inf.size)).map ((if len*inf.size=0 then(#[]:Array Value)else z.cells)[·%(if len*inf.size=0 then(#[]:Array Value)else z.cells).size]!)).size=(0+((parts.toList.map (·.2)).map a.eval).length)*inf.size:=by
   simp[hlen]
  obtain⟨out,ho1,ho2⟩:=vf inf.size ((parts.toList.map (·.2)).map a.eval) 0 _ r2 hnew;rw[←hargs]at ho1;simp only[Nat.zero_mul,List.take_zero,List.nil_append]at ho2;rw[←ho2];simp only[execOp,ho,Instr.buildSlice,Sem.run_bind,run_underlying hu,Result.andThen_ok,run_sizeOf hinf];rw[if_neg (by omega)]
  by_cases hz0:len*inf.size=0
  ·simp only[hz0,if_true]at ho1⊢;simp only[Sem.run_bind,Sem.run_pure,Result.andThen_ok,ho1];simp[newRow]
  ·simp only[hz0,if_false]at ho1⊢;simp only[zeroValue,typeInfo,Sem.run_bind,run_program,hinf,hz,Sem.run_pure,Result.andThen_ok,ho1];simp[newRow]
 ·have:=f1.length;simp only[List.length_map]at this⊢;rw[←this];exact hlen
theorem p7{P:Program}{g:Gh}{st:St}{a:Act}{w:World}(h:Sim g st a w)(o:Oper)(t:TypeId)(len e:Nat)(parts:Array (Nat×Operand))(zs:List PV)(ho:o.op=.buildSlice t len parts)
 (hs:bg P t=some e) (hz:df P t=some zs) (hsm:len*e≤16777216) (hp:parts.toList.map (·.1)=List.range len)
 (he:(cT st (parts.toList.map (·.2))).2.2) (hy:∀y∈(cT st (parts.toList.map (·.2))).1,(aK y).length=e∧bn (aK y)=true∧(y.one=true∨cY (.pv y))):
 ∃g' arr T,g.to g'∧g.le g'∧g'.n=g.n∧Sim g' (cT st (parts.toList.map (·.2))).2.1 a w∧au g' e ((cT st (parts.toList.map (·.2))).1.map aK) arr∧
  (execOp a.eval o).run P w=.ok (.value (.slice (some ⟨w.heap.size,0,none⟩) len len)) (w.alloc (.cells arr.toArray T))∧((cT st (parts.toList.map (·.2))).1.map aK).length=len:=by
 obtain⟨g1,t1,l1,n1,s1,f1⟩:=lB _ h he;obtain⟨arr,T,r1,r2,r3⟩:=jL (w:=w) o t len e parts zs _ ho hs hz hsm hp f1 hy;exact⟨g1,arr,T,t1,l1,n1,s1,r1,r2,r3⟩
theorem p8{P:Program}{st:St}(o:Oper)(t:TypeId)(len e:Nat)(parts:Array (Nat×Operand))(zs:List PV)(d:Nat)(ho:o.op=.buildSlice t len parts)(hd:o.dst=some d)
 (hs:bg P t=some e) (hz:df P t=some zs) (hsm:len*e≤16777216) (h0:0<e) (hp:parts.toList.map (·.1)=List.range len)
 (he:(cT st (parts.toList.map (·.2))).2.2) (hy:∀y∈(cT st (parts.toList.map (·.2))).1,(aK y).length=e∧bn (aK y)=true∧(y.one=true∨cY (.pv y))) {N:Nat} (hN:d<N):
 ∀g a w,g.N=N→Sim g st a w→∃v w' g',(execOp a.eval o).run P w=.ok (.value v) w'∧g.to g'∧
  Sim g' ⟨(d,.own true e ((cT st (parts.toList.map (·.2))).1.map aK))::aA (cN d) (cT st (parts.toList.map (·.2))).2.1.t,(cT st (parts.toList.map (·.2))).2.1.h⟩ (a.put o.dst v) w':=by
 intro g a w hg h;obtain⟨g1,arr,T,t1,l1,n1,s1,r1,hr,hlen⟩:=p7 h o t len e parts zs ho hs hz hsm hp he hy;refine⟨_,_,g1,hr,t1,?_⟩;rw[hd];obtain⟨bl,hb⟩:=s1.own;refine s1.putOwn hb (o:=some w.heap.size) (by rw[t1.N,hg];exact hN) rfl (by simp) (fun c hc _=>heap_alloc_old w _ hc) (.inr ⟨w.heap.size,rfl,len,arr.toArray,T,arr,by rw[hlen],heap_alloc_new w _,?_,⟨by rw[hlen];exact Nat.le_refl _,?_,by simpa using r1.one⟩,r1,by simp,fun _=>s1.B⟩) rfl (fun c hc=>?_)
 ·have:=r1.length;rw[hlen]at this;simpa using this
 ·have:len≤len*e:=Nat.le_mul_of_pos_right _ h0;unfold maxLen;omega
 ·cases hc
  exact⟨by simp,s1.fresh hb (Nat.le_refl _)⟩
/-! ### append -/
theorem fQ{g:Gh}{st:St}{a:Act}{w:World}(h:Sim g st a w){x:Operand}{e:Nat}(hg:gc st x)(hs:ia st e (mv st x)):
 ∃q cap vs,a.eval x=.slice q (rowsOf st (mv st x)).length cap∧au g e (rowsOf st (mv st x)) vs∧(rowsOf st (mv st x)=[]∨∃ad:Addr,q=some ad∧∀(j:Nat) u,vs[j]?=some u→w.cell? (ad.add j)=some u):=by
 obtain⟨hf,ha⟩:=aL h x hg;have nocase:∀{rows:List (List PV)},rows=[]→au g e rows []:=fun h=>by subst h;rfl
 unfold ia at hs;split at hs
 ·rename_i nw e' rows hm;subst hs;rw[hm]at hf⊢;obtain⟨_,q,cap,hv,_,hr⟩:=hf;rcases hr with rfl|⟨c,off,arr,T,fz,vs,rfl,h2,_,h3,h4⟩
  ·exact⟨q,cap,[],hv,rfl,.inl rfl⟩
  ·refine⟨_,cap,vs,hv,h3,.inr ⟨_,rfl,fun j u hj=>?_⟩⟩;rw[Addr.add_lit,cell_of (h.I _ _ h2)];have:=fp h4 hj
   rwa [List.getElem?_drop,Array.getElem?_toList]at this
 ·rename_i v hm;rw[hm]at hf⊢;have hv:a.eval x=v:=hf.2;exact⟨none,0,[],by rw[hv,fq hs];rfl,rfl,.inl rfl⟩
 ·rename_i p hm;rw[hm]at ha⊢;split at hs
  ·rename_i nw e' rows hp;subst hs;obtain⟨bl,hb⟩:=h.own;have hv:=ha (by rw[hp];rfl);have:=aX hb (p:=p) (by rw[hp];rfl);rw[hp]at this;simp only[rowsOf,hp];rcases this with⟨_,rfl,e1⟩|⟨c,_,cap,arr,T,vs,e1,e2,_,_,e5,e6,_⟩
   ·exact⟨none,0,[],by rw[hv,e1];rfl,rfl,.inl rfl⟩
   ·refine⟨_,cap,vs,by rw[hv,e1],e5,.inr ⟨_,rfl,fun j u hj=>?_⟩⟩;rw[Addr.add_lit,cell_of e2,Nat.zero_add,←Array.getElem?_toList];exact fp e6 hj
  ·exact hs.elim
 ·rename_i p lo hi hm;rw[hm]at ha⊢;split at hs
  ·rename_i nw e' rows hp;subst hs;obtain⟨h1,h2,q,cap,hv,hc,hq⟩:=ha _ _ _ hp;obtain⟨bl,hb⟩:=h.own;have:=aX hb (p:=p) (by rw[hp];rfl);rw[hp]at this;have hln:(rowsOf st (.loc p lo hi)).length=hi -lo:=by simp only[rowsOf,hp,List.length_drop,List.length_take];omega
   by_cases hlh:lo=hi
   ·have:rowsOf st (.loc p lo hi)=[]:=List.eq_nil_of_length_eq_zero (by omega);exact⟨q,cap,[],by rw[hv,hln],nocase this,.inl this⟩
   ·rcases hq with hq|⟨c,n,cp,hpv,rfl⟩
    ·exact absurd hq hlh
    ·rcases this with⟨_,rfl,e1⟩|⟨c',_,cap',arr,T,vs,e1,e2,_,_,e5,e6,_⟩
     ·simp at h2;omega
     ·rw[e1]at hpv;cases hpv;refine⟨_,cap,(vs.take (hi*e')).drop (lo*e'),by rw[hv,hln],by simp only[rowsOf,hp];exact e5.cut lo hi h1 h2,.inr ⟨_,rfl,fun j u hj=>?_⟩⟩;rw[Addr.add_lit,cell_of e2];have:=fp (gC e6 (lo*e') (hi*e')) hj
      rwa [List.getElem?_drop,Array.getElem?_toList]at this
  ·exact hs.elim
 ·exact hs.elim
theorem jM{P:Program}(w:World)(t ty e:TypeId)(i:TypeInfo)(ht:P.underlying t=some (.slice e))(hi:P.info? e=some i)(b:Option Addr)(n cap:Nat)(hn:n≤cap)(q:Option Addr)(c:Nat):
 (Builtin.append_ #[t,t] ty #[.slice b n cap,.slice q 0 c]).run P w=.ok (.slice b n cap) w:=by
 cases q with
 |none=>cases b<;>simp[Builtin.append_,run_underlying ht,sizeOf,typeInfo,hi,Builtin.lenOf,hn,Builtin.firstCells,storeCells]
 |some q=>cases b<;>simp[Builtin.append_,run_underlying ht,sizeOf,typeInfo,hi,Builtin.lenOf,hn,Builtin.firstCells,storeCells,loadCells,loadCellsFrom]
theorem l3{P:Program}(w:World)(t ty e:TypeId)(i:TypeInfo)(ht:P.underlying t=some (.slice e))(hi:P.info? e=some i)
 (c n cap:Nat) (T:TypeId) (arr:Array Value) (hc:w.heap[c]?=some (.cells arr T (0,0))) (a:Addr) (m k:Nat) (news:List Value) (hl:news.length=m*i.size) (hnews:∀(j:Nat) u,news[j]?=some u→w.cell? (a.add j)=some u) (h1:∀u∈news,u.oneCell'=true)
 (hroom:n+m≤cap) (hfit:n*i.size+news.length≤arr.size):
 (Builtin.append_ #[t,t] ty #[.slice (some ⟨c,0,none⟩) n cap,.slice (some a) m k]).run P w=.ok (.slice (some ⟨c,0,none⟩) (n+m) cap) (w.setRow c (splice arr.toList (n*i.size) news).toArray):=by
 have hf:=run_firstCells_some (P:=P) w i.size m a m k news hl hnews;have hst:=run_storeCells_at P c (n*i.size) T news 0 arr w hc (by simpa using hfit) h1;simp only[Nat.add_zero]at hst;simp[Builtin.append_,run_underlying ht,sizeOf,typeInfo,hi,Builtin.lenOf,hroom,hf,Addr.add_lit,hst,splice]
def bG(P:Program)(t:TypeId):Option (Nat×Nat):=
 match P.underlying t with
 |some (.slice el)=>match P.info? el with
  |some i=>match i.zero with
   |some z=>if z.cells.size=i.size∧z.cells.toList.all (fun u=>u.oneCell')=true then some (i.size,i.bytes)else none
   |none=>none
  |none=>none
 |_=>none
theorem oc{P:Program}{t:TypeId}{e b:Nat}(h:bG P t=some (e,b)):∃el i z,P.underlying t=some (.slice el)∧P.info? el=some i∧i.zero=some z∧i.size=e∧i.bytes=b∧z.cells.size=e∧∀u∈z.cells.toList,u.oneCell'=true:=by
 unfold bG at h;split at h
 case h_2=>cases h
 rename_i el hu;split at h
 case h_2=>cases h
 rename_i i hi;split at h
 case h_2=>cases h
 rename_i z hz;split at h
 case isFalse=>cases h
 rename_i hs;cases h
 exact⟨el,i,z,hu,hi,hz,rfl,rfl,hs.1,fun u hu=>List.all_eq_true.1 hs.2 u hu⟩
theorem jj{P:Program}{g:Gh}{w:World}{t ty:TypeId}{e b:Nat}(hi:bG P t=some (e,b))(hb1:0<b){nw:Bool}{rows xr:List (List PV)}{v:Value}{o:Option Nat}(hB:g.B≤w.heap.size)
 (hv:av g w (.own nw e rows) v o) {q:Option Addr} {k:Nat} {news:List Value} (hx:au g e xr news) (hc:xr=[]∨∃ad:Addr,q=some ad∧∀(j:Nat) u,news[j]?=some u→w.cell? (ad.add j)=some u)
 (hbytes:(rows.length+xr.length)*b≤140737488355328):
 ∃v' w' o',(Builtin.append_ #[t,t] ty #[v,.slice q xr.length k]).run P w=.ok v' w'∧bX w'=bX w∧w.heap.size≤w'.heap.size∧av g w' (.own nw e (rows++xr)) v' o'∧
  (∀c,c<w.heap.size→o'≠some c→w'.heap[c]?=w.heap[c]?)∧∀c,o'=some c→c<w'.heap.size∧(o=some c∨w.heap.size≤c):=by
 obtain⟨el,i,z,hu,hinf,hz,rfl,rfl,hzs,hz1⟩:=oc hi;have hzo:∀n,∀v∈(Builtin.zeroCells z.cells n).toList,v.oneCell'=true:=fun n v hv=>by
  simp only[Builtin.zeroCells,Array.toList_map,List.mem_map]at hv;obtain⟨j,hj,rfl⟩:=hv
  by_cases e:z.cells.size=0
  ·rw[e]at hj;simp at hj
  ·have hlt:j %z.cells.size<z.cells.size:=Nat.mod_lt _ (by omega);rw[getElem!_pos z.cells (j %z.cells.size) hlt];exact hz1 _ (Array.getElem_mem_toList hlt)
 have hnl:news.length=xr.length*i.size:=hx.length;have hsum:rows.length+xr.length≤140737488355328:=by
  have:(rows.length+xr.length)*1≤(rows.length+xr.length)*i.bytes:=Nat.mul_le_mul_left _ hb1;omega
 have h63:((rows.length+xr.length:Nat):Int)≤9223372036854775807:=by omega
 by_cases hm:xr=[]
 ·subst hm;simp only[au]at hx;rcases hv with⟨rfl,rfl,rfl⟩|⟨c,rfl,cap,arr,T,vs,rfl,e2,e3,e4,e5,e6,e7⟩
  ·exact⟨_,w,none,jM w t ty el i hu hinf none 0 0 (Nat.le_refl _) q k,rfl,Nat.le_refl _,.inl ⟨rfl,rfl,rfl⟩,fun _ _ _=>rfl,fun c hc=>by cases hc⟩
  ·refine⟨_,w,some c,jM w t ty el i hu hinf _ _ cap e4.1 q k,rfl,Nat.le_refl _,.inr ⟨c,rfl,cap,arr,T,vs,by simp,e2,e3,by simpa using e4,by simpa using e5,e6,e7⟩,fun _ _ _=>rfl,fun c' hc'=>?_⟩;cases hc'
   exact⟨(Array.getElem?_eq_some_iff.1 e2).1,.inl rfl⟩
 ·have hm0:0<xr.length:=List.length_pos_iff.2 hm;rcases hc with hc|⟨ad,rfl,hcell⟩
  ·exact absurd hc hm
  have fresh:∀(olds:List Value)(vs:List Value),au g i.size rows vs→olds=vs→∀cp,rows.length+xr.length≤cp→cp≤maxLen→
   av g (w.drew.alloc (.cells (olds.toArray++news.toArray++Builtin.zeroCells z.cells (cp -(rows.length+xr.length))) el)) (.own nw i.size (rows++xr)) (.slice (some ⟨w.heap.size,0,none⟩) (rows.length+xr.length) cp) (some w.heap.size):=by
   intro olds vs hr ho cp hcp hmx;subst ho;have hol:=hr.length;refine .inr ⟨w.heap.size,rfl,cp,_,el,olds++news,by rw[List.length_append],heap_alloc_new w.drew _,?_,⟨by rw[List.length_append];exact hcp,hmx,by simpa only[Array.toList_append]using ez (ez hr.one hx.one) (hzo _)⟩,au.append hr hx,?_,fun _=>hB⟩
   ·simp only[Array.size_append,List.size_toArray,size_zeroCells,hzs,hol,hnl,←Nat.add_mul];congr 1;omega
   ·refine⟨(Builtin.zeroCells z.cells (cp -(rows.length+xr.length))).toList,by simp⟩
  have hge:=grownCap_ge w (rows.length+xr.length);have hmx:=fun old=>grownCap_le_maxLen w (rows.length+xr.length) old el (by unfold maxLen;omega);have keep:∀(ob:Obj)(c:Nat),c<w.heap.size→(w.drew.alloc ob).heap[c]?=w.heap[c]?:=fun ob c hc=>heap_alloc_old w.drew ob hc;rcases hv with⟨rfl,rfl,rfl⟩|⟨c,rfl,cap,arr,T,vs,rfl,e2,e3,e4,e5,e6,e7⟩
  ·have hr:=run_append_nil (P:=P) w t ty el i z hu hinf hz ad xr.length k news hnl hcell hm0 (by simpa using h63) (by simp only[List.length_nil,Nat.zero_add]at hbytes;omega);have hf:=fresh [] [] rfl rfl (grownCap w xr.length 0 el) (by simpa using hge 0 el) (by simpa using hmx 0);simp only[List.nil_append,Array.empty_append,List.length_nil,Nat.zero_add]at hf;refine⟨_,_,_,hr,rfl,by simp,by simpa using hf,fun c hc _=>keep _ c hc,fun c hc=>?_⟩;cases hc
   exact⟨by simp,.inr (Nat.le_refl _)⟩
  ·have hvl:=e5.length
   by_cases hroom:rows.length+xr.length≤cap
   ·have hfit:rows.length*i.size+news.length≤arr.size:=by rw[hnl,e3,←Nat.add_mul];exact Nat.mul_le_mul_right _ hroom
    have hr:=l3 (P:=P) w t ty el i hu hinf c rows.length cap T arr e2 ad xr.length k news hnl hcell hx.one hroom hfit;refine⟨_,w.setRow c (splice arr.toList (rows.length*i.size) news).toArray,some c,hr,rfl,by simp,.inr ⟨c,rfl,cap,_,T,vs++news,by simp,setRow_heap w c arr _ T _ e2,?_,⟨by simpa using hroom,e4.2.1,pV e4.2.2 hx.one _⟩,au.append e5 hx,?_,e7⟩,fun c' _ hc'=>setRow_other w c c' _ (fun ee=>hc' (by rw[ee])),fun c' hc'=>?_⟩
    ·simp only[List.size_toArray];rw[bB (by simpa using hfit)];simpa using e3
    ·obtain⟨r,hr'⟩:=e6;refine⟨arr.toList.drop (rows.length*i.size+news.length),?_⟩;simp only[splice];rw[←hr',←hvl,List.take_left'];rfl
    ·cases hc'
     exact⟨by simp;exact(Array.getElem?_eq_some_iff.1 e2).1,.inl rfl⟩
   ·have holds:∀(j:Nat) u,vs[j]?=some u→w.cell? ((⟨c,0,none⟩:Addr).add j)=some u:=fun j u hj=>by
     rw[Addr.add_lit,cell_of e2,Nat.zero_add,←Array.getElem?_toList];exact fp e6 hj
    have hr:=run_append_grow (P:=P) w t ty el i z hu hinf hz ⟨c,0,none⟩ rows.length cap vs hvl holds ad xr.length k news hnl hcell (by omega) h63 (growslice_fits (by omega) hbytes);refine⟨_,_,_,hr,rfl,by simp,fresh vs vs e5 rfl (grownCap w (rows.length+xr.length) cap el) (hge cap el) (hmx cap),fun c' hc' _=>keep _ c' hc',fun c' hc'=>?_⟩;cases hc'
    exact⟨by simp,.inr (Nat.le_refl _)⟩
theorem xA{P:Program}{st:St}(o:Oper)(t:TypeId)(s x:Operand)(d e b:Nat)(p:Pos)(nw:Bool)(rows:List (List PV))(ho:o.op=.call {callee:=.builtin .append,args:=#[s,x],argTypes:=#[t,t]}) (hd:o.dst=some d)
 (hi:bG P t=some (e,b)) (hb1:0<b) (hgs:gc st s) (hs:mv st s=.al p) (hp:aa st p=.own nw e rows) (hgx:gc st x) (hx:ia st e (mv st x))
 (hbytes:(rows.length+(rowsOf st (mv st x)).length)*b≤140737488355328) {N:Nat} (hN:d<N):
 ∀g a w,g.N=N→Sim g st a w→∃v w' g',(execOp a.eval o).run P w=.ok (.value v) w'∧g.to g'∧
  Sim g' ⟨(d,.own nw e (rows++rowsOf st (mv st x)))::aA (cN d) (setPos st p (.pv .bot)).t,(setPos st p (.pv .bot)).h⟩ (a.put o.dst v) w':=by
 intro g a w hg h;obtain⟨bl,hb⟩:=h.own;have hown:(aa st p).isOwn=true:=by rw[hp];rfl
 obtain⟨_,has⟩:=aL h s hgs;rw[hs]at has;have hfp:=aX hb hown;rw[hp]at hfp;obtain⟨q,cap,news,hvx,hfx,hcx⟩:=fQ h hgx hx;obtain⟨v',w',o',hr,hen,hsz,hf',hw',hc'⟩:=jj (ty:=o.type) (k:=cap) hi hb1 h.B hfp hfx hcx hbytes;refine⟨v',w',g,?_,h.refl_to,?_⟩
 ·simp only[execOp,ho,resolve,invoke,builtin,List.map_toArray,List.map_cons,List.map_nil,Sem.run_bind,Sem.run_pure,Result.andThen_ok,has hown,hvx,hr]
 ·obtain⟨h1,bl',hb',_,_,h4⟩:=h.drop hb p;rw[hd];exact h1.putOwn hb' (hg▸hN) hen hsz hw' hf' rfl (fun c hc=>⟨(hc' c hc).1,(hc' c hc).2.elim (fun e=>h4 c e) (fun hge=>h1.fresh hb' hge)⟩)
theorem append_nil{P:Program}{st:St}(o:Oper)(t:TypeId)(s x:Operand)(d e b:Nat)(u:Value)(ho:o.op=.call {callee:=.builtin .append,args:=#[s,x],argTypes:=#[t,t]}) (hd:o.dst=some d)
 (hi:bG P t=some (e,b)) (hb1:0<b) (hgs:gc st s) (hs:mv st s=.pv (.lit u)) (hu:ig u=true) (hgx:gc st x) (hx:ia st e (mv st x))
 (hbytes:(rowsOf st (mv st x)).length*b≤140737488355328) {N:Nat} (hN:d<N):
 ∀g a w,g.N=N→Sim g st a w→∃v w' g',(execOp a.eval o).run P w=.ok (.value v) w'∧g.to g'∧
  Sim g' ⟨(d,.own true e (rowsOf st (mv st x)))::aA (cN d) st.t,st.h⟩ (a.put o.dst v) w':=by
 intro g a w hg h;obtain⟨bl,hb⟩:=h.own;obtain⟨hfs,_⟩:=aL h s hgs;rw[hs]at hfs;have hvs:a.eval s=.slice none 0 0:=by have:=hfs.2;rw[fq hu]at this;exact this
 obtain⟨q,cap,news,hvx,hfx,hcx⟩:=fQ h hgx hx;obtain⟨v',w',o',hr,hen,hsz,hf',hw',hc'⟩:=jj (ty:=o.type) (k:=cap) (nw:=true) (rows:=[]) (v:=.slice none 0 0) (o:=none) hi hb1 h.B (.inl ⟨rfl,rfl,rfl⟩) hfx hcx (by simpa using hbytes);refine⟨v',w',g,?_,h.refl_to,?_⟩
 ·simp only[execOp,ho,resolve,invoke,builtin,List.map_toArray,List.map_cons,List.map_nil,Sem.run_bind,Sem.run_pure,Result.andThen_ok,hvs,hvx,hr]
 ·rw[hd];exact h.putOwn hb (hg▸hN) hen hsz hw' (by simpa using hf') rfl (fun c hc=>⟨(hc' c hc).1,(hc' c hc).2.elim (fun e=>by cases e) (fun hge=>h.fresh hb hge)⟩)
end Go.AX
namespace Go.AX
/-! ### Views -/
def rM(x:PV)(e n:Nat):PV:=
 match x with
 |.iptr _ [cells] 0 k=>if e=1∧k+n≤cells.length then .seq false 1 (((cells.drop k).take n).map fun y=>[y])else .bot
 |_=>.bot
mutual
def jk(r:Nat→Nat→PV):PV→PV
  |.bot=>.bot
  |.lit v=>.lit v
  |.agg xs=>.agg (dY r xs)
  |.tup xs=>.tup (dY r xs)
  |.seq _ e rows=>.seq false e (ke r rows)
  |.iptr e rows i k=>.iptr e (ke r rows) i k
  |.ptr b off=>r b off
  |.bsl b e off n _=>rM (r b off) e n
  |.fn f first cap=>.fn f (dY r first) (dY r cap)
  |.amap _ es=>.amap false (p9 r es)
  |.ifc t x=>.ifc t (jk r x)
def dY(r:Nat→Nat→PV):List PV→List PV
  |[]=>[]
  |x::xs=>jk r x::dY r xs
def ke(r:Nat→Nat→PV):List (List PV)→List (List PV)
  |[]=>[]
  |x::xs=>dY r x::ke r xs
def p9(r:Nat→Nat→PV):List (Int×PV)→List (Int×PV)
  |[]=>[]
  |(k,x)::xs=>(k,jk r x)::p9 r xs
end
theorem cU(r:Nat→Nat→PV):∀xs:List PV,dY r xs=xs.map (jk r)
 |[]=>rfl
 |x::xs=>by simp[dY,cU r xs]
theorem cd(r:Nat→Nat→PV):∀xs:List (List PV),ke r xs=xs.map (List.map (jk r))
 |[]=>rfl
 |x::xs=>by simp[ke,cd r xs,cU]
theorem vg(r:Nat→Nat→PV):∀xs:List (Int×PV),p9 r xs=xs.map (fun p=>(p.1,jk r p.2))
 |[]=>rfl
 |(k,x)::xs=>by simp[p9,vg r xs]
def frzC(r:Nat→Nat→PV):SV→PV
 |.pv x=>jk r x
 |.own _ e rows=>.seq false e (ke r rows)
 |.omap _ es=>.amap false (p9 r es)
 |_=>.bot
def bq(h:List (List SV)):Nat→Nat→Nat→PV
 |0,_,_=>.bot
 |n+1,b,off=>.iptr (h.getD b []).length [(h.getD b []).map (frzC (bq h n))] 0 off
def dw(w:World):Gh:={I:=fun c=>w.heap[c]?,F:=fun _=>none,B:=w.heap.size,μ:=fun _=>0,n:=0,n0:=0,N:=0,env:=bX w}
theorem ai.rows1{g:Gh}:∀{xs:List PV}{vs:List Value},ai g xs vs→(∀v∈vs,v.oneCell'=true)→au g 1 (xs.map fun y=>[y]) vs
 |[],_,h,_=>h
 |x::xs,_,⟨v,r,h1,h2,h3⟩,ho=>by
  subst h1;exact⟨[v],r,rfl,⟨rfl,fun u hu=>ho u (by simp at hu;simp[hu])⟩,⟨v,[],rfl,h2,rfl⟩,ai.rows1 h3 fun u hu=>ho u (List.mem_cons_of_mem _ hu)⟩
theorem F3{g:Gh}{x:PV}{e n cap:Nat}{q:Addr}(hx:Fit g x (.pointer (some q)))(hc:n≤cap):Fit g (rM x e n) (.slice (some q) n cap):=by
 unfold rM;split
 ·rename_i e' cells k;split
  ·rename_i hk;obtain⟨c,off,arr,T,fz,vs,h1,h2,⟨v1,v2,rfl,h3,h4,h5⟩,h6⟩:=hx;have h5':v2=[]:=h5;subst h5';rw[List.append_nil]at h6;have hl:=h4.length;have hlen:(((cells.drop k).take n).map fun y=>[y]).length=n:=by simp;omega
   refine⟨_,cap,by rw[hlen],by rw[hlen];exact hc,.inr ⟨c,off+k,arr,T,fz,(v1.drop k).take n,?_,h2,fun h=>(by cases h),?_,?_⟩⟩
   ·injection h1 with h1;rw[h1];simp
   ·exact ai.rows1 ((h4.drop k).take n) fun v hv=>h3.2 v (List.mem_of_mem_drop (List.mem_of_mem_take hv))
   ·refine(List.take_prefix n _).trans ?_;rw[←List.drop_drop];obtain⟨r,hr⟩:=h6;rw[←hr,List.drop_append_of_le_length (by omega)];exact⟨r,rfl⟩
  ·trivial
 ·trivial
section
variable {g : Gh} {w : World} {r : Nat → Nat → PV}
mutual
theorem Fit.frz(hI:∀c o,g.I c=some o→w.heap[c]?=some o)(hr:∀b off,b<g.n→Fit (dw w) (r b off) (.pointer (some ⟨g.μ b,off,none⟩))):
    ∀(x:PV)(v:Value),Fit g x v→Fit (dw w) (jk r x) v
  |.bot,_,_=>trivial
  |.lit _,_,h=>h
  |.agg xs,v,⟨vs,h1,h2⟩=>⟨vs,h1,ai.frz hI hr xs _ h2⟩
  |.tup xs,v,⟨vs,h1,h2⟩=>⟨vs,h1,ai.frz hI hr xs _ h2⟩
  |.seq nw e rows,v,⟨p,cap,h1,hc,h2⟩=>⟨p,cap,by rw[h1,cd,List.length_map],by rw[cd,List.length_map];exact hc,h2.imp (fun h=>by rw[h];rfl)
      fun⟨c,off,arr,T,fz,vs,a,b,_,q1,q2⟩=>⟨c,off,arr,T,fz,vs,a,hI _ _ b,fun hn=>(by cases hn),au.frz hI hr e rows vs q1,q2⟩⟩
  |.iptr e rows i k,v,⟨c,off,arr,T,fz,vs,a,b,q1,q2⟩=>⟨c,off,arr,T,fz,vs,a,hI _ _ b,au.frz hI hr e rows vs q1,q2⟩
  |.ptr b off,v,⟨h1,h2⟩=>by rw[h2];exact hr b off h1
  |.bsl b e off n cap,v,⟨h1,h2,h3⟩=>by rw[h3];exact F3 (hr b off h1) h2
  |.fn f first cap,v,⟨a,b,h1,h2,h3⟩=>⟨a,b,h1,ai.frz hI hr first _ h2,ai.frz hI hr cap _ h3⟩
  |.amap nw es,v,⟨c,en,ck,a,b,_,q⟩=>⟨c,en,ck,a,hI _ _ b,fun hn=>(by cases hn),bm.frz hI hr es _ q.1,q.2⟩
  |.ifc t x,v,⟨y,h1,h2⟩=>⟨y,h1,Fit.frz hI hr x y h2⟩
theorem ai.frz(hI:∀c o,g.I c=some o→w.heap[c]?=some o)(hr:∀b off,b<g.n→Fit (dw w) (r b off) (.pointer (some ⟨g.μ b,off,none⟩))):
    ∀(xs:List PV)(vs:List Value),ai g xs vs→ai (dw w) (dY r xs) vs
  |[],_,h=>h
  |x::xs,vs,⟨v,r',h1,h2,h3⟩=>⟨v,r',h1,Fit.frz hI hr x v h2,ai.frz hI hr xs r' h3⟩
theorem au.frz(hI:∀c o,g.I c=some o→w.heap[c]?=some o)(hr:∀b off,b<g.n→Fit (dw w) (r b off) (.pointer (some ⟨g.μ b,off,none⟩)))(e:Nat):
    ∀(rows:List (List PV))(vs:List Value),au g e rows vs→au (dw w) e (ke r rows) vs
  |[],_,h=>h
  |row::rows,vs,⟨v1,v2,h1,h2,h3,h4⟩=>⟨v1,v2,h1,⟨by rw[cU,List.length_map];exact h2.1,h2.2⟩,ai.frz hI hr row v1 h3,au.frz hI hr e rows v2 h4⟩
theorem bm.frz(hI:∀c o,g.I c=some o→w.heap[c]?=some o)(hr:∀b off,b<g.n→Fit (dw w) (r b off) (.pointer (some ⟨g.μ b,off,none⟩))):
    ∀(es:List (Int×PV))(en:List MapEntry),bm g es en→bm (dw w) (p9 r es) en
  |[],_,h=>h
  |(k,x)::es,en,⟨m,r',h1,h2,h3,h4⟩=>⟨m,r',h1,h2,Fit.frz hI hr x m.val h3,bm.frz hI hr es r' h4⟩
end
end
theorem av.frz{g:Gh}{w:World}{r:Nat→Nat→PV}(hI:∀c o,g.I c=some o→w.heap[c]?=some o)(hr:∀b off,b<g.n→Fit (dw w) (r b off) (.pointer (some ⟨g.μ b,off,none⟩)))
 {x:SV} {v:Value} {b:Option Nat} (h:av g w x v b) (hc:x.inCell=true):Fit (dw w) (frzC r x) v:=by
 cases x with
 |pv y=>exact Fit.frz hI hr y v h.2
 |own nw e rows=>
  rcases h with⟨_,rfl,rfl⟩|⟨c,_,cap,arr,T,vs,rfl,e2,e3,e4,e5,e6,e7⟩
  ·exact⟨none,0,rfl,Nat.le_refl _,.inl rfl⟩
  ·exact⟨_,cap,by rw[cd,List.length_map],by rw[cd,List.length_map];exact e4.1,.inr ⟨c,0,arr,T,(0,0),vs,rfl,e2,fun hn=>(by cases hn),au.frz hI hr e rows vs e5,by simpa using e6⟩⟩
 |omap nw es=>
  obtain⟨c,_,en,ck,rfl,e2,e3,e4⟩:=h;exact⟨c,en,ck,rfl,e2,fun hn=>(by cases hn),bm.frz hI hr es _ e3,e4.2⟩
 |_=>cases hc
theorem jm{g:Gh}{st:St}{a:Act}{w:World}(h:Sim g st a w):∀(n b off:Nat),b<g.n→Fit (dw w) (bq st.h n b off) (.pointer (some ⟨g.μ b,off,none⟩))
 |0,_,_,_=>trivial
 |n+1,b,off,hb=>by
  obtain⟨bl,hbo⟩:=h.own;have hl:b<st.h.length:=h.n▸hb;have hbe:st.h[b]?=some (st.h.getD b []):=by simp[List.getD,List.getElem?_eq_getElem hl]
  obtain⟨arr,T,h1,⟨h2,h2c⟩,h3⟩:=hbo.blocks b _ hbe;have ih:=fun b' off'=>jm h n b' off';simp only[bq];generalize st.h.getD b []=xs at*;have key:∀(ys:List SV)(us:List Value),ys.length=us.length→(∀(j:Nat)(x:SV)(u:Value),ys[j]?=some x→us[j]?=some u→x.inCell=true∧∃b':Option Nat,av g w x u b')→ai (dw w) (ys.map (frzC (bq st.h n))) us:=by
   intro ys
   induction ys with
   |nil=>intro us hu _;cases us with
    |nil=>rfl
    |cons _ _=>simp at hu
   |cons y ys ih2=>
    intro us hu hs;cases us with
    |nil=>simp at hu
    |cons u us=>
     obtain⟨h5,b',h6⟩:=hs 0 y u rfl rfl;exact⟨u,us,rfl,av.frz h.I ih h6 h5,ih2 us (by simpa using hu) (fun j x v hx hv=>hs (j+1) x v (by simpa using hx) (by simpa using hv))⟩
  have hL := key xs arr.toList (by simpa using h2.symm) (fun j x u hx hu => by
   have:=h3 j x hx;refine⟨this.1,bl (.cell b j),?_⟩;have e:arr.getD j undef=u:=by rw[Array.getElem?_toList]at hu;simp[Array.getD_eq_getD_getElem?,hu]
   rw[←e];exact this.2)
  refine⟨g.μ b,0,arr,T,(0,0),arr.toList,by simp,h1,⟨arr.toList,[],by simp,⟨by simp,h2c⟩,hL,rfl⟩,by simp⟩
def vw(n:Nat)(st:St)(x:Operand):PV:=
 match mv st x with
 |.pv y=>jk (bq st.h n) y
 |.al p=>frzC (bq st.h n) (aa st p)
 |.loc p lo hi=>match aa st p with
  |.own _ e rows=>.seq false e (ke (bq st.h n) ((rows.take hi).drop lo))
  |_=>.bot
 |_=>.bot
def F4(st:St)(x:Operand):Prop:=
 gc st x∧match mv st x with
 |.al p=>(aa st p).isOwn=true
 |_=>True
theorem Ht{g:Gh}{st:St}{a:Act}{w:World}(h:Sim g st a w)(n:Nat)(x:Operand)(hd:F4 st x):Fit (dw w) (vw n st x) (a.eval x):=by
 obtain⟨hg,hd⟩:=hd;obtain⟨hf,ha⟩:=aL h x hg;have hr:=jm h n;obtain⟨bl,hb⟩:=h.own;unfold vw;split
 ·rename_i y hm;rw[hm]at hf;exact Fit.frz h.I hr y _ hf.2
 ·rename_i p hm;rw[hm]at ha hd;rw[ha hd];exact av.frz h.I hr (aX hb hd) (by cases hp:aa st p<;>simp only[hp]at hd<;>first|rfl|cases hd)
 ·rename_i p lo hi hm;rw[hm]at ha;split
  ·rename_i nw e rows hp;obtain⟨j1,j2,q,cap,hv,jc,hq⟩:=ha _ _ _ hp;have hfp:=aX hb (p:=p) (by rw[hp];rfl);rw[hp]at hfp;refine⟨q,cap,by rw[hv,cd,List.length_map,List.length_drop,List.length_take];congr 1;omega,by rw[cd];simp;omega,?_⟩
   by_cases hlh:lo=hi
   ·left;subst hlh;rw[cd];simp
   ·right;rcases hq with hq|⟨c,n',cp,hpv,rfl⟩
    ·exact absurd hq hlh
    ·rcases hfp with⟨_,rfl,e1⟩|⟨c',_,cap',arr,T,vs,e1,e2,e3,e4,e5,e6,e7⟩
     ·simp at j2;omega
     ·rw[e1]at hpv;cases hpv;refine⟨_,lo*e,arr,T,(0,0),(vs.take (hi*e)).drop (lo*e),rfl,e2,fun hn=>(by cases hn),au.frz h.I hr e _ _ (e5.cut lo hi j1 j2),gC e6 _ _⟩
  ·trivial
 ·trivial
/-! ### Values that lie in new memory -/
mutual
def PV.nw:PV→Prop
  |.bot=>True
  |.lit _=>True
  |.agg xs=>F5 xs
  |.tup xs=>F5 xs
  |.seq n _ rows=>(rows=[]∨n=true)∧A9 rows
  |.iptr _ _ _ _=>False
  |.ptr _ _=>False
  |.bsl _ _ _ _ _=>False
  |.fn _ first cap=>F5 first∧F5 cap
  |.amap n es=>n=true∧F6 es
  |.ifc _ x=>x.nw
def F5:List PV→Prop
  |[]=>True
  |x::xs=>x.nw∧F5 xs
def A9:List (List PV)→Prop
  |[]=>True
  |x::xs=>F5 x∧A9 xs
def F6:List (Int×PV)→Prop
  |[]=>True
  |(_,x)::xs=>x.nw∧F6 xs
end
theorem pH:∀xs:List (List PV),A9 xs↔∀r∈xs,F5 r
 |[]=>by simp[A9]
 |x::xs=>by simp[A9,pH xs]
theorem zy:∀xs:List (Int×PV),F6 xs↔∀r∈xs,r.2.nw
 |[]=>by simp[F6]
 |(k,x)::xs=>by simp[F6,zy xs]
section
variable {g g2 : Gh}
mutual
theorem Fit.new(hI:∀c o,g.I c=some o→g.B≤c→g2.I c=some o)(hB:g2.B≤g.B):∀(x:PV)(v:Value),x.nw→Fit g x v→Fit g2 x v
  |.bot,_,_,_=>trivial
  |.lit _,_,_,h=>h
  |.agg xs,v,hn,⟨vs,h1,h2⟩=>⟨vs,h1,ai.new hI hB xs _ hn h2⟩
  |.tup xs,v,hn,⟨vs,h1,h2⟩=>⟨vs,h1,ai.new hI hB xs _ hn h2⟩
  |.seq nw e rows,v,⟨hn1,hn2⟩,⟨p,cap,h1,hc,h2⟩=>⟨p,cap,h1,hc,hn1.elim .inl fun hnw=>h2.imp id
      fun⟨c,off,arr,T,fz,vs,a,b,n,q1,q2⟩=>⟨c,off,arr,T,fz,vs,a,hI _ _ b (n hnw),fun hn=>Nat.le_trans hB (n hn),au.new hI hB e rows vs hn2 q1,q2⟩⟩
  |.iptr _ _ _ _,_,hn,_=>hn.elim
  |.ptr _ _,_,hn,_=>hn.elim
  |.bsl _ _ _ _ _,_,hn,_=>hn.elim
  |.fn f first cap,v,⟨n1,n2⟩,⟨a,b,h1,h2,h3⟩=>⟨a,b,h1,ai.new hI hB first _ n1 h2,ai.new hI hB cap _ n2 h3⟩
  |.amap nw es,v,⟨hn1,hn2⟩,⟨c,en,ck,a,b,n,q⟩=>⟨c,en,ck,a,hI _ _ b (n hn1),fun hn=>Nat.le_trans hB (n hn),bm.new hI hB es _ hn2 q.1,q.2⟩
  |.ifc t x,v,hn,⟨y,h1,h2⟩=>⟨y,h1,Fit.new hI hB x y hn h2⟩
theorem ai.new(hI:∀c o,g.I c=some o→g.B≤c→g2.I c=some o)(hB:g2.B≤g.B):∀(xs:List PV)(vs:List Value),F5 xs→ai g xs vs→ai g2 xs vs
  |[],_,_,h=>h
  |x::xs,vs,⟨n1,n2⟩,⟨v,r',h1,h2,h3⟩=>⟨v,r',h1,Fit.new hI hB x v n1 h2,ai.new hI hB xs r' n2 h3⟩
theorem au.new(hI:∀c o,g.I c=some o→g.B≤c→g2.I c=some o)(hB:g2.B≤g.B)(e:Nat):∀(rows:List (List PV))(vs:List Value),A9 rows→au g e rows vs→au g2 e rows vs
  |[],_,_,h=>h
  |row::rows,vs,⟨n1,n2⟩,⟨v1,v2,h1,h2,h3,h4⟩=>⟨v1,v2,h1,h2,ai.new hI hB row v1 n1 h3,au.new hI hB e rows v2 n2 h4⟩
theorem bm.new(hI:∀c o,g.I c=some o→g.B≤c→g2.I c=some o)(hB:g2.B≤g.B):∀(es:List (Int×PV))(en:List MapEntry),F6 es→bm g es en→bm g2 es en
  |[],_,_,h=>h
  |(k,x)::es,en,⟨n1,n2⟩,⟨m,r',h1,h2,h3,h4⟩=>⟨m,r',h1,h2,Fit.new hI hB x m.val n1 h3,bm.new hI hB es r' n2 h4⟩
end
end
end Go.AX