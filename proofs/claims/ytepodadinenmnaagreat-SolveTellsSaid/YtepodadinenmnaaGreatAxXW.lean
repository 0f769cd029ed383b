/-
  AX, part IN: calls that are handed a slice of the caller's own, and write into it; and what follows.
-/
import Derived.Test.YtepodadinenmnaaGreatAxI
import Derived.Test.YtepodadinenmnaaGreatAxU
import Derived.Lib.SliceRun
import Derived.Deep.Quiet
import Derived.Orders
import Derived.Scope
import Derived.OwnWalk
import Derived.KernelRfl
namespace Go.AX
mutual
def PV.bel(k:Nat):PV->Prop
  |.bot=>True
  |.lit _=>True
  |.agg xs=>bR k xs
  |.tup xs=>bR k xs
  |.seq _ _ rows=>bI k rows
  |.iptr _ rows _ _=>bI k rows
  |.ptr b _=>b<k
  |.bsl b _ _ _ _=>b<k
  |.fn _ first cap=>bR k first∧bR k cap
  |.amap _ es=>gt k es
  |.ifc _ x=>x.bel k
def bR(k:Nat):List PV->Prop
  |[]=>True
  |x::xs=>x.bel k∧bR k xs
def bI(k:Nat):List (List PV)->Prop
  |[]=>True
  |x::xs=>bR k x∧bI k xs
def gt(k:Nat):List (Int×PV)->Prop
  |[]=>True
  |(_,x)::xs=>x.bel k∧gt k xs
end
mutual
def PV.old:PV->Prop
  |.bot=>True
  |.lit _=>True
  |.agg xs=>qo xs
  |.tup xs=>qo xs
  |.seq nw _ rows=>nw=false∧wX rows
  |.iptr _ rows _ _=>wX rows
  |.ptr _ _=>True
  |.bsl _ _ _ _ _=>True
  |.fn _ first cap=>qo first∧qo cap
  |.amap nw es=>nw=false∧Hu es
  |.ifc _ x=>x.old
def qo:List PV->Prop
  |[]=>True
  |x::xs=>x.old∧qo xs
def wX:List (List PV)->Prop
  |[]=>True
  |x::xs=>qo x∧wX xs
def Hu:List (Int×PV)->Prop
  |[]=>True
  |(_,x)::xs=>x.old∧Hu xs
end
structure Gh.leC (g g':Gh):Prop where
  C:∀c arr T fz,g.I c=some (.cells arr T fz)->g'.I c=some (.cells arr T fz)
  M:∀c en ck,g.I c=some (.map en ck)->g'.I c=some (.map en ck)
section
variable {g g' : Gh}
mutual
theorem Fit.monoC(hl:g.leC g'):∀(x:PV)(v:Value),(g'.B<=g.B∨x.old)->(g.n=0∨x.bel 0)->Fit g x v->Fit g' x v
  |.bot,_,_,_,_=>trivial
  |.lit _,_,_,_,h=>h
  |.agg xs,v,ho,hb,⟨vs,h1,h2⟩=>⟨vs,h1,ak.monoC hl xs _ ho hb h2⟩
  |.tup xs,v,ho,hb,⟨vs,h1,h2⟩=>⟨vs,h1,ak.monoC hl xs _ ho hb h2⟩
  |.seq nw e rows,v,ho,hb,⟨p,cap,h1,hc,h2⟩=>⟨p,cap,h1,hc,h2.imp id λ⟨c,off,arr,T,fz,vs,a,b,n,r,q⟩=>⟨c,off,arr,T,fz,vs,a,hl.C _ _ _ _ b,
      λhn=>ho.elim (λhB=>TD hB (n hn)) (λho=>by rw[ho.1]at hn;cases hn),ay.monoC hl e rows vs (ho.imp id (·.2)) hb r,q⟩⟩
  |.iptr e rows i k,v,ho,hb,⟨c,off,arr,T,fz,vs,a,b,r,q⟩=>⟨c,off,arr,T,fz,vs,a,hl.C _ _ _ _ b,ay.monoC hl e rows vs ho hb r,q⟩
  |.ptr b off,v,_,hb,⟨h1,h2⟩=>hb.elim (λh=>absurd h1 (by omega)) (λh=>absurd h (Vj _))
  |.bsl b _ _ _ _,v,_,hb,⟨h1,h2⟩=>hb.elim (λh=>absurd h1 (by omega)) (λh=>absurd h (Vj _))
  |.fn f first cap,v,ho,hb,⟨a,b,h1,h2,h3⟩=>⟨a,b,h1,ak.monoC hl first _ (ho.imp id (·.1)) (hb.imp id (·.1)) h2,ak.monoC hl cap _ (ho.imp id (·.2)) (hb.imp id (·.2)) h3⟩
  |.amap nw es,v,ho,hb,⟨r,en,ck,a,b,n,q⟩=>⟨r,en,ck,a,hl.M _ _ _ b,λhn=>ho.elim (λhB=>TD hB (n hn)) (λho=>by rw[ho.1]at hn;cases hn),bD.monoC hl es _ (ho.imp id (·.2)) hb q.1,q.2⟩
  |.ifc t x,v,ho,hb,⟨y,h1,h2⟩=>⟨y,h1,Fit.monoC hl x y ho hb h2⟩
theorem ak.monoC(hl:g.leC g'):∀(xs:List PV)(vs:List Value),(g'.B<=g.B∨qo xs)->(g.n=0∨bR 0 xs)->ak g xs vs->ak g' xs vs
  |[],_,_,_,h=>h
  |x::xs,vs,ho,hb,⟨v,r,h1,h2,h3⟩=>⟨v,r,h1,Fit.monoC hl x v (ho.imp id (·.1)) (hb.imp id (·.1)) h2,ak.monoC hl xs r (ho.imp id (·.2)) (hb.imp id (·.2)) h3⟩
theorem ay.monoC(hl:g.leC g')(e:Nat):∀(rows:List (List PV))(vs:List Value),(g'.B<=g.B∨wX rows)->(g.n=0∨bI 0 rows)->ay g e rows vs->ay g' e rows vs
  |[],_,_,_,h=>h
  |row::rows,vs,ho,hb,⟨v1,v2,h1,h2,h3,h4⟩=>⟨v1,v2,h1,h2,ak.monoC hl row v1 (ho.imp id (·.1)) (hb.imp id (·.1)) h3,ay.monoC hl e rows v2 (ho.imp id (·.2)) (hb.imp id (·.2)) h4⟩
theorem bD.monoC(hl:g.leC g'):∀(es:List (Int×PV))(en:List MapEntry),(g'.B<=g.B∨Hu es)->(g.n=0∨gt 0 es)->bD g es en->bD g' es en
  |[],_,_,_,h=>h
  |(k,x)::es,en,ho,hb,⟨m,r,h1,h2,h3,h4⟩=>⟨m,r,h1,h2,Fit.monoC hl x m.val (ho.imp id (·.1)) (hb.imp id (·.1)) h3,bD.monoC hl es r (ho.imp id (·.2)) (hb.imp id (·.2)) h4⟩
end
end
def qp(w:World)(c:Nat):World:={w with heap:=w.heap.setIfInBounds c (.mapIter none 0 #[] 0)}
theorem lh(w:World){c k:Nat}(h:k≠c):(qp w c).heap[k]?=w.heap[k]?:=by
 simp only[qp,T6];rw[SU (VC h)]
theorem Hv{w:World}{c k:Nat}{arr:Array Value}{T:TypeId}{fz:Nat×Nat}(h:(qp w c).heap[k]?=some (.cells arr T fz)):k≠c∧w.heap[k]?=some (.cells arr T fz):=by
 by_cases e:k=c
 .subst e;simp only[qp,T6,UU]at h;split at h<;>cases h
 .rw[lh w e]at h;exact⟨e,h⟩
theorem Hw{w:World}{c k:Nat}{en:Array MapEntry}{ck:Nat}(h:(qp w c).heap[k]?=some (.map en ck)):k≠c∧w.heap[k]?=some (.map en ck):=by
 by_cases e:k=c
 .subst e;simp only[qp,T6,UU]at h;split at h<;>cases h
 .rw[lh w e]at h;exact⟨e,h⟩
def nh(w:World)(c:Nat):Gh:={du (qp w c)with B:=0}
def aF(P:Program)(f:FuncId):Bool:=
 match P.funcs[f]?with
 |some fn=>!(fn.name== "runtime.NumGoroutine")&&!fn.body.isNone
 |none=>false
def o8(P:Program)(f:FuncId)(e:Nat)(rows:List (List PV))(args:List PV)(R:Option Nat->List (List PV)->Prop):Prop:=
 aF P f=true∧
 (rows ≠ [] -> ∀ (w : World) (c cap : Nat) (arr : Array Value) (T : TypeId) (pre vs b d : List Value), w.heap[c]? = some (.cells arr T (0, 0)) -> arr.toList = pre ++ vs ++ b -> rows.length <= cap -> rows.length <= maxLen ->
  ay (nh w c) e rows vs->ak (nh w c) args d->(∀v∈arr.toList,v.oneCell'=true)->
  Calls P f ((.slice (some ⟨c,pre.length,none⟩) rows.length cap)::d).toArray w λe' w'=>∃k a g,R k a∧a.length=rows.length∧(∀m,k=some m->m<=rows.length)∧
   e'=.returned (match k with|none=>.tuple #[]|some m=>.slice (some ⟨c,pre.length,none⟩) m cap)∧bT w'=bT w∧w.heap.size<=w'.heap.size∧(∀k,k<w.heap.size->k≠c->w'.heap[k]?=w.heap[k]?)∧
   (∃T',w'.heap[c]?=some (.cells (pre++g++b).toArray T' (0,0)))∧∀G,ay G e rows vs->ay G e a g)∧
 (rows = [] -> ∀ (w : World) (p : Option Addr) (cap : Nat) (d : List Value), ak (du w) args d ->
  Calls P f ((.slice p 0 cap)::d).toArray w λe' w'=>∃k,R k []∧(k=none∨k=some 0)∧e'=.returned (match k with|none=>.tuple #[]|some m=>.slice p m cap)∧bT w'=bT w∧w.heap.size<=w'.heap.size∧∀k,k<w.heap.size->w'.heap[k]?=w.heap[k]?)
theorem o8.mono{P:Program}{f:FuncId}{e:Nat}{rows:List (List PV)}{args:List PV}{R R':Option Nat->List (List PV)->Prop}(h:o8 P f e rows args R)(g:∀k a,R k a->R' k a):o8 P f e rows args R':=
  ⟨h.1,λhn w c cap arr T pre vs b d h1 i j l m n o=>(h.2.1 hn w c cap arr T pre vs b d h1 i j l m n o).mono λ_ _ ⟨k,r,v,q,x⟩=>⟨k,r,v,g _ _ q,x⟩,
   λhn w p cap d h1=>(h.2.2 hn w p cap d h1).mono λ_ _ ⟨k,q,x⟩=>⟨k,g _ _ q,x⟩⟩
def partOf(st:St)(x:Operand):Option (Pos×Nat×Nat):=
 match mv st x with
 |.al p=>match aa st p with
  |.own _ _ rows=>some (p,0,rows.length)
  |_=>none
 |.loc p lo hi=>match aa st p with
  |.own _ _ _=>some (p,lo,hi)
  |_=>none
 |_=>none
def rz(st:St)(p:Pos):Nat:=match aa st p with
 |.own _ e _=>e
 |_=>0
def cV(st:St)(p:Pos):List (List PV):=match aa st p with
 |.own _ _ rows=>rows
 |_=>[]
def nP(st:St)(p:Pos):Bool:=match aa st p with
 |.own nw _ _=>nw
 |_=>false
def Fy(d:Option Tmp)(k:Option Nat)(p:Pos)(lo:Nat)(st:St):St:=
 match d with
 |none=>st
 |some d=>match k with
  |none=>st.put d (.pv (.tup []))
  |some m=>st.put d (.loc p lo (lo+m))
theorem nj{g:Gh}{st:St}{a:Act}{w:World}(h:Sim g st a w){x:Operand}(o:gc st x){p:Pos}{lo hi:Nat}(hp:partOf st x=some (p,lo,hi)):
 ∃nw e rows,aa st p=.own nw e rows∧lo<=hi∧hi<=rows.length∧∃q cap,a.eval x=.slice q (hi -lo) cap∧hi -lo<=cap∧(lo=hi∨∃c n cp,an g a w p=.slice (some ⟨c,0,none⟩) n cp∧q=some ⟨c,lo*e,none⟩)∧(lo=0->∃n0,an g a w p=.slice q n0 cap):=by
 obtain⟨_,f⟩:=aN h x o;obtain⟨bl,m⟩:=h.own;unfold partOf at hp;split at hp
 .rename_i B i;rw[i]at f;split at hp
  .rename_i nw e rows b;cases hp
   refine⟨nw,e,rows,b,Tf _,SY _,?_⟩;have k:=f (by rw[b];rfl);have j:=bn m (p:=p) (by rw[b];rfl);rw[b]at j;rcases j with⟨_,rfl,d⟩|⟨c,_,cap,arr,T,vs,d,C,D,l,E,F,G⟩
   .exact⟨none,0,by rw[k,d];rfl,SY _,.inl rfl,λ_=>⟨0,d⟩⟩
   .exact⟨some ⟨c,0,none⟩,cap,by rw[k,d];rfl,l.1,.inr ⟨c,_,cap,d,by simp⟩,λ_=>⟨_,d⟩⟩
  .cases hp
 .rename_i B A r i;rw[i]at f;split at hp
  .rename_i nw e rows b;cases hp
   obtain⟨s,t,q,cap,u,v,y,z⟩:=f _ _ _ b;exact⟨nw,e,rows,b,s,t,q,cap,u,v,y,z⟩
  .cases hp
 .cases hp
theorem Sim.turn{g:Gh}{st:St}{a:Act}{w w':World}(h:Sim g st a w){bl:Pos->Option Nat}(q:Owns g st a w bl){c:Nat}(f:FreeAt g bl c)(r:bT w'=bT w)(l:w'.heap.size=w.heap.size)(m:∀k,k≠c->w'.heap[k]?=w.heap[k]?):
 Sim g st a w':=by
 have d:∀{b:Nat}{xs:List SV},st.h[b]?=some xs->b<g.n:=λhx=>by rw[h.n];exact(SQ.1 hx).1
 have i:∀p k,bl p=some k->w'.heap[k]?=w.heap[k]?:=λp k hk=>m k (λe=>f.own p (e▸hk));refine{size:=h.size,defs:=h.defs,env:=r.trans h.env,n:=h.n,n0:=h.n0,B:=by rw[l];exact h.B,I:=λk o hk=>?_,F:=λk o hk=>?_,μI:=h.μI,μinj:=h.μinj,own:=⟨bl,?_⟩,al:=λs=>?_}
 .rw[m k (λe=>by rw[e,f.I]at hk;cases hk)];exact h.I k o hk
 .rw[m k (λe=>by rw[e,f.F]at hk;cases hk)];exact h.F k o hk
 .refine{slots:=λs=>az.frame (Gh.le.refl g) (i _) (q.slots s),blocks:=λb xs hx=>?_,inj:=q.inj,free:=λp k hk=>?_}
  .obtain⟨arr,T,h1,A,t⟩:=q.blocks b xs hx;exact⟨arr,T,by rw[m _ (f.μ b (d hx))];exact h1,A,λj x hj=>⟨(t j x hj).1,az.frame (Gh.le.refl g) (i _) (t j x hj).2⟩⟩
  .obtain⟨u,v,y,z⟩:=q.free p k hk;exact⟨u,v,by rw[l];exact y,z⟩
 .refine bW.congr (λp hp=>⟨rfl,?_⟩) (h.al s);cases p with
  |slot s=>rfl
  |cell b k=>
   simp only[aa]at hp;cases hx:st.h[b]?with
   |none=>simp[List.getD,hx,SV.isOwn]at hp
   |some xs=>simp only[an];rw[m _ (f.μ b (d hx))]
end Go.AX
namespace Go.AX
def Hx(rows:List (List PV))(lo hi:Nat):Nat:=min rows.length (hi -lo)
def M2(P:Program)(st:St)(t:TypeId)(x y:Operand)(d:Option Tmp)(K:St->Prop):Prop:=
 (b6 st y).2.2∧gc (b6 st y).2.1 x∧
 match(b6 st y).1,partOf (b6 st y).2.1 x,bM P t with
 |.seq _ e' a,some (p,lo,hi),some (e,_)=>e'=e∧rz (b6 st y).2.1 p=e∧
  K (putD d (.pv (.lit (.int .i64 (Hx a lo hi)))) (setPos (b6 st y).2.1 p (.own (nP (b6 st y).2.1 p) e ((cV (b6 st y).2.1 p).take lo++a.take (Hx a lo hi)++(cV (b6 st y).2.1 p).drop (lo+Hx a lo hi)))))
 |_,_,_=>False
def isLit:PV->Prop
 |.lit _=>True
 |_=>False
def DA:List PV->Prop
 |[]=>True
 |x::xs=>isLit x∧DA xs
def DB:List (List PV)->Prop
 |[]=>True
 |x::xs=>DA x∧DB xs
theorem ak.lits{g g':Gh}:∀{xs:List PV}{vs:List Value},DA xs->ak g xs vs->ak g' xs vs
 |[],_,_,h=>h
 |x::xs,_,a,⟨v,r,h1,b,c⟩=>by
  refine⟨v,r,h1,?_,ak.lits a.2 c⟩;have:=a.1;cases x<;>first|exact b|exact this.elim
theorem ay.lits{g g':Gh}{e:Nat}:∀{xs:List (List PV)}{vs:List Value},DB xs->ay g e xs vs->ay g' e xs vs
 |[],_,_,h=>h
 |_::_,_,a,⟨f,i,h1,b,c,d⟩=>⟨f,i,h1,b,ak.lits a.1 c,ay.lits a.2 d⟩
def copyV(P:Program)(st:St)(t:TypeId)(x y:Operand)(d:Option Tmp)(K:St->Prop):Prop:=
 La st y∧gc st x∧
 match vw 0 st y,partOf st x,bM P t with
 |.seq _ e' a,some (p,lo,hi),some (e,_)=>e'=e∧rz st p=e∧DB a∧
  K (putD d (.pv (.lit (.int .i64 (Hx a lo hi)))) (setPos st p (.own (nP st p) e ((cV st p).take lo++a.take (Hx a lo hi)++(cV st p).drop (lo+Hx a lo hi)))))
 |_,_,_=>False
def M3:SV->Bool
 |.loc _ _ _=>true
 |_=>false
def DC(P:Program)(st:St)(t:TypeId)(x y:Operand)(d:Option Tmp)(K:St->Prop):Prop:=
 if M3 (mv st y)=true then copyV P st t x y d K else M2 P st t x y d K
theorem Sim.setSame{g:Gh}{st:St}{a:Act}{w:World}(h:Sim g st a w){p:Pos}{nw:Bool}{e:Nat}{rows:List (List PV)}(hp:aa st p=.own nw e rows):Sim g (setPos st p (.own nw e rows)) a w:=by
 cases p with
 |slot s=>
  refine h.looks rfl λk=>?_;simp only[setPos,look];split
  .rename_i e;rw[←e];exact hp.symm
  .rfl
 |cell b k=>
  have:setPos st (.cell b k) (.own nw e rows)=st:=by
   simp only[aa]at hp;cases hx:st.h[b]?with
   |none=>simp[List.getD,hx]at hp
   |some xs=>
    have h1:st.h.getD b []=xs:=by simp[List.getD,hx]
    rw[h1]at hp;have d:xs.set k (.own nw e rows)=xs:=by
     cases hk:xs[k]?with
     |none=>simp[List.getD,hk]at hp
     |some y=>
      simp only[List.getD,hk,TC]at hp;subst hp;obtain⟨c,hy⟩:=SQ.1 hk;rw[←hy];exact WQ c
    simp only[setPos,h1,d];obtain⟨c,hy⟩:=SQ.1 hx;rw[←hy,WQ]
  rw[this];exact h
theorem Fz{P:Program}(w:World)(t e ty d:TypeId)(i:TypeInfo)(ht:P.underlying t=some (.slice d))(hi:P.info? d=some i)(b q:Option Addr)(n m k c:Nat)(h0:min m n=0):
 (Builtin.copy_ #[t,e] ty #[.slice b n k,.slice q m c]).run P w=.ok (goInt 0) w:=by
 have a:Nat.min m n=0:=h0;cases q with
 |none=>cases b<;>simp[Builtin.copy_,run_underlying ht,sizeOf,typeInfo,hi,Builtin.lenOf,a,Builtin.firstCells,storeCells]
 |some q=>cases b<;>simp[Builtin.copy_,run_underlying ht,sizeOf,typeInfo,hi,Builtin.lenOf,a,Builtin.firstCells,storeCells,loadCells,loadCellsFrom]
theorem FA{P:Program}(w:World)(t q ty g:TypeId)(i:TypeInfo)(ht:P.underlying t=some (.slice g))(hi:P.info? g=some i)
 (c off:Nat) (T:TypeId) (arr:Array Value) (h:w.heap[c]?=some (.cells arr T (0,0))) (a:Addr) (n k m f:Nat) (news:List Value) (o:news.length=min m n*i.size) (b:∀(j:Nat) u,news[j]?=some u->w.cell? (a.add j)=some u) (h1:∀u∈news,u.oneCell'=true)
 (d:off+news.length<=arr.size):
 (Builtin.copy_ #[t,q] ty #[.slice (some ⟨c,off,none⟩) n k,.slice (some a) m f]).run P w=.ok (goInt (min m n:Nat)) (w.setRow c (splice arr.toList off news).toArray):=by
 have l:=run_firstCells_some (P:=P) w i.size (min m n) a m f news o b;have e:=run_storeCells_at P c off T news 0 arr w h (by simpa using d) h1;simp only[VE]at e;have p:Nat.min m n=min m n:=rfl;simp[Builtin.copy_,run_underlying ht,sizeOf,typeInfo,hi,Builtin.lenOf,p,l,e,splice]
theorem vm{P:Program}{f:St}(o:Oper)(t t2:TypeId)(x y:Operand)(d:Option Tmp){K:St->Prop}(ho:o.op=.call {callee:=.builtin .copy,args:=#[x,y],argTypes:=#[t,t2]}) (hd:o.dst=d) {g2:Gh} {a:Act} {w:World} (S:Sim g2 f a w) (Y:ca g2.N o.dst)
 {b:List (List PV)} {p:Pos} {lo hi e zz:Nat} (h2:gc f x) (hp:partOf f x=some (p,lo,hi)) (ao:bM P t=some (e,zz)) (hE:rz f p=e) {p2:Option Addr} {B:Nat} (ae:a.eval y=.slice p2 b.length B)
 (M:b=[]∨∃c2 s A T2 V l,p2=some ⟨c2,s,none⟩∧w.heap[c2]?=some (.cells A T2 V)∧ay g2 e b l∧l<+:A.toList.drop s)
 (hK:K (putD d (.pv (.lit (.int .i64 (Hx b lo hi)))) (setPos f p (.own (nP f p) e ((cV f p).take lo++b.take (Hx b lo hi)++(cV f p).drop (lo+Hx b lo hi)))))):
 ∃v w' g' st',(execOp a.eval o).run P w=.ok (.value v) w'∧g2.to g'∧K st'∧Sim g' st' (a.put o.dst v) w':=by
 obtain⟨nw,g,rows,m,j1,j2,q0,cap,jv,jc,jq,_⟩:=nj S h2 hp;have eE:rz f p=g:=by simp only[rz,m]
 have eR:cV f p=rows:=by simp only[cV,m]
 have eN:nP f p=nw:=by simp only[nP,m]
 rw[eE]at hE;subst hE;rw[eR,eN]at hK;obtain⟨el,i,z,hu,G,_,aq,_,_,_⟩:=qm ao;have D:∀v w',(Builtin.copy_ #[t,t2] o.type #[a.eval x,a.eval y]).run P w=.ok v w'->(execOp a.eval o).run P w=.ok (.value v) w':=λv w' Q=>by
  simp[execOp,ho,resolve,invoke,builtin,Q]
 have hN:Hx b lo hi=min b.length (hi -lo):=rfl
 by_cases h0:min b.length (hi -lo)=0
 .have Q:=Fz (P:=P) w t t2 o.type el i hu G q0 p2 (hi -lo) b.length cap B h0;rw[←jv,←ae]at Q;refine⟨_,_,g2,_,D _ _ Q,S.refl_to,hK,?_⟩;rw[hN,h0];have R:rows.take lo++b.take 0++rows.drop (lo+0)=rows:=by simp
  rw[R,←hd];exact(S.setSame m).putD Y ⟨rfl,rfl⟩ trivial rfl
 .have aj:lo≠hi:=λh=>h0 (by subst h;simp);have an:b≠[]:=λh=>h0 (by subst h;simp);rcases jq with jq|⟨c,nn,cp,h5,h6⟩
  .exact absurd jq aj
  rcases M with M|⟨c2,s,A,T2,V,l,ak,ah,W,O⟩
  .exact absurd M an
  subst h6 ak;obtain⟨bl,hb⟩:=S.own;have H:(aa f p).isOwn=true:=by rw[m];rfl
  have Z:=bn hb H;rw[m]at Z;rcases Z with⟨_,rfl,_⟩|⟨c',ag,av,arr,T,vs,e1,e2,e3,e4,U,e6,e7⟩
  .simp at j2;omega
  rw[h5]at e1;cases e1
  obtain⟨n,hn⟩:∃n,min b.length (hi -lo)=n:=⟨_,rfl⟩;have J:n<=b.length:=by omega
  have ax:lo+n<=hi:=by omega
  have r:=ay.cut W 0 n (Tf _) J;simp only[V7,Ww]at r;have I:=W.length;have af:=U.length;have L:(l.take (n*g)).length=n*g:=by
   rw[S6,I];exact Uw (UT _ J)
  have aw:lo*g+n*g<=vs.length:=by rw[af,←WI];exact UT _ (by omega)
  obtain⟨rest,q⟩:=e6;have ab:arr.size=vs.length+rest.length:=by rw[←TR,←q,Ta]
  have Q := FA (P := P) w t t2 o.type el i hu G c (lo * g) T arr e2 ⟨c2, s, none⟩ (hi - lo) cap b.length B (l.take (n * g)) (by rw [hn, aq]; exact L) (λ j u hj => by
   rw[Addr.add_lit,cell_of ah,←S4];have ai:l[j]?=some u:=by
    rw[TY]at hj;split at hj
    .exact hj
    .cases hj
   have:=gq O ai
   rwa [Ub]at this) (λu ar=>r.one u ar) (by rw[L,ab];omega)
  rw[←jv,←ae]at Q;have ad:Sim g2 (setPos f p (.own nw g (rows.take lo++b.take n++rows.drop (lo+n)))) a (w.setRow c (splice arr.toList (lo*g) (l.take (n*g))).toArray):=by
   have E:splice arr.toList (lo*g) (l.take (n*g))=(vs.take (lo*g)++l.take (n*g)++vs.drop (lo*g+n*g))++rest:=by
    unfold splice;rw[L,←q,Uy (by omega),Ua (by omega)];simp only[Tv]
   have X:=ay.cut U 0 lo (Tf _) (by omega);have C:=ay.cut U (lo+n) rows.length (by omega) (SY _);simp only[V7,Ww,Tw]at X C;have au:vs.take (rows.length*g)=vs:=by rw[←af,Tw]
   rw[au,WI]at C;refine S.ownWrite hb H ag rfl (size_setRow _ _ _) (λk hk=>setRow_other w _ k _ hk) (.inr ⟨c,rfl,cp,_,T,vs.take (lo*g)++l.take (n*g)++vs.drop (lo*g+n*g),?_,setRow_heap w _ arr _ T _ e2,?_,?_,ay.append (ay.append X r) C,?_,e7⟩) rfl ?_
   .rw[h5];congr 1;simp only[Ta,S6,TN];omega
   .rw[←e3,ab,E];simp only[T8,Ta,S6,TN,I];have:=Uw (UT g J);omega
   .refine⟨by simp only[Ta,S6,TN];omega,e4.2.1,?_⟩;intro v F;rw[E]at F;simp only[Te]at F;rcases F with((F|F)|F)|F
    .exact U.one v (TV F)
    .exact r.one v F
    .exact U.one v (U3 F)
    .exact e4.2.2 v (by rw[←q];exact U9 _ F)
   .exact⟨rest,by rw[E]⟩
   .intro az e' rows1 hh;cases hh
    exact⟨nw,rows,m,by simp only[Ta,S6,TN];omega⟩
  refine⟨_,_,g2,_,D _ _ Q,S.refl_to,hK,?_⟩;rw[hN,hn,←hd];exact ad.putD Y ⟨rfl,rfl⟩ trivial rfl
theorem Hy{P:Program}{st:St}(o:Oper)(t Q:TypeId)(x y:Operand)(d:Option Tmp){K:St->Prop}(ho:o.op=.call {callee:=.builtin .copy,args:=#[x,y],argTypes:=#[t,Q]}) (hd:o.dst=d) (h:DC P st t x y d K):
 ∀g a w,Sim g st a w->ca g.N d->∃v w' g' st',(execOp a.eval o).run P w=.ok (.value v) w'∧g.to g'∧K st'∧Sim g' st' (a.put o.dst v) w':=by
 intro g a w hs r;unfold DC at h;split at h
 .obtain⟨h1,E,i⟩:=h;have B:=M0 hs 0 y h1;split at i
  case h_2=>exact i.elim
  rename_i M e' m p lo hi e D L hp k;obtain⟨rfl,F,J,G⟩:=i;rw[L]at B;obtain⟨S,q,l,H,j⟩:=B;exact vm o t Q x y d ho hd hs (by rw[hd];exact r) E hp k F l (j.imp id λ⟨c2,c,b,C,f,n,s,u,_,z,O⟩=>⟨c2,c,b,C,f,n,s,u,ay.lits J z,O⟩) G
 .obtain⟨h1,E,i⟩:=h;obtain⟨g2,A,V,W,R,B⟩:=mq hs y h1;generalize(b6 st y).2.1=U at*;generalize(b6 st y).1=pv at*;split at i
  case h_2=>exact i.elim
  rename_i M e' m p lo hi e D hp k;obtain⟨rfl,F,G⟩:=i;obtain⟨S,q,l,H,j⟩:=B;obtain⟨v,w',g',st',s,u,T,z⟩:=vm o t Q x y d ho hd R (by rw[hd,A.N];exact r) E hp k F l (j.imp id λ⟨c2,c,b,C,f,n,s,u,_,z,O⟩=>⟨c2,c,b,C,f,n,s,R.I _ _ u,z,O⟩) G;exact⟨v,w',g',st',s,A.trans u,T,z⟩
end Go.AX
namespace Go.AX
/-! ### What a call of a function that changes nothing gives -/
structure PureEnd (w w':World) (g':Gh):Prop where
  B:g'.B=w.heap.size
  env:bT w'=bT w
  keep:∀c,c<w.heap.size->w'.heap[c]?=w.heap[c]?
  size:w.heap.size<=w'.heap.size
  I:∀c o,g'.I c=some o->w'.heap[c]?=some o
def aj(P:Program)(f:FuncId)(args:List PV)(R:SV->Prop):Prop:=
 aF P f=true∧∀(w:World)(vs:List Value),ak (du w) args vs->Calls P f vs.toArray w (λe w'=>∃v r g' o,e=.returned v∧R r∧PureEnd w w' g'∧az g' w' r v o∧r.inCell=true∧∀c,o=some c->w.heap.size<=c∧g'.I c=none)
theorem aj.mono{P:Program}{f:FuncId}{args:List PV}{R R':SV->Prop}(h:aj P f args R)(c:∀r,R r->R' r):aj P f args R':=
 ⟨h.1,λw vs d=>(h.2 w vs d).mono λ_ _ ⟨v,r,g',o,h1,a,b⟩=>⟨v,r,g',o,h1,c r a,b⟩⟩
def SV.nwS:SV->Prop
 |.pv x=>x.nw
 |.own nw _ rows=>nw=true∧Bp rows
 |.omap nw es=>nw=true∧Lc es
 |_=>False
theorem az.new{g g2:Gh}{w:World}(f:∀c o,g.I c=some o->g.B<=c->g2.I c=some o)(a:g2.B<=g.B){r:SV}{v:Value}{o:Option Nat}(hn:r.nwS)(h:az g w r v o):az g2 w r v o:=by
 cases r with
 |pv x=>exact⟨h.1,Fit.new f a x v hn h.2⟩
 |own nw e rows=>exact h.imp id λ⟨c,h1,cap,arr,T,vs,b,d,a3,a4,a5,j,k⟩=>⟨c,h1,cap,arr,T,vs,b,d,a3,a4,ay.new f a e rows vs hn.2 a5,j,λi=>TD a (k i)⟩
 |omap nw es=>obtain⟨c,h1,en,ck,b,d,a3,a4⟩:=h;exact⟨c,h1,en,ck,b,d,bD.new f a es _ hn.2 a3,λi=>TD a (a4.1 i),a4.2⟩
 |_=>cases hn
theorem Sim.grown{g:Gh}{st:St}{a:Act}{w w':World}(h:Sim g st a w)(v:bT w'=bT w)(y:w.heap.size<=w'.heap.size)(t:∀c,c<w.heap.size->w'.heap[c]?=w.heap[c]?)
 (J:Nat->Option Obj) (K:∀c o,J c=some o->w'.heap[c]?=some o):
 Sim {g with I:=λc=>if w.heap.size<=c then J c else g.I c} st a w'∧g.to {g with I:=λc=>if w.heap.size<=c then J c else g.I c}∧
  ∀bl,Owns g st a w bl->Owns {g with I:=λc=>if w.heap.size<=c then J c else g.I c} st a w' bl:=by
 have e:∀{c o},w.heap[c]?=some o->c<w.heap.size:=λL=>(Td.1 L).1;have m:∀c o,g.I c=some o->(if w.heap.size<=c then J c else g.I c)=some o:=λc o d=>by
  rw[SU (by have:=e (h.I c o d);omega)];exact d
 have hle:g.le {g with I:=λc=>if w.heap.size<=c then J c else g.I c}:=⟨m,SY _,SY _,λ_ _=>rfl⟩;obtain⟨l,q⟩:=h.own;have z:∀b,b<g.n->g.μ b<w.heap.size:=λb i=>by
  obtain⟨_,_,u,_⟩:=q.blocks b _ (SR (h.n▸i));exact e u
 have i:∀{b:Nat}{xs:List SV},st.h[b]?=some xs->b<g.n:=λhx=>by rw[h.n];exact(SQ.1 hx).1
 have j:∀bl,Owns g st a w bl->Owns {g with I:=λc=>if w.heap.size<=c then J c else g.I c} st a w' bl:=by
  intro bl f;have r:∀p c,bl p=some c->w'.heap[c]?=w.heap[c]?:=λp c d=>t c (f.free p c d).2.2.1;refine{slots:=λs=>az.frame hle (r _) (f.slots s),blocks:=λb xs hx=>?_,inj:=f.inj,free:=λp c d=>?_}
  .obtain⟨arr,T,h1,E,u⟩:=f.blocks b xs hx;exact⟨arr,T,by show w'.heap[g.μ b]?=_;rw[t _ (z b (i hx))];exact h1,E,λk x hk=>⟨(u k x hk).1,az.frame hle (r _) (u k x hk).2⟩⟩
  .obtain⟨A,C,M,D⟩:=f.free p c d;exact⟨by show(if w.heap.size<=c then J c else g.I c)=none;rw[SU (by omega)];exact A,C,by omega,D⟩
 refine⟨{size:=h.size,defs:=h.defs,env:=v.trans h.env,n:=h.n,n0:=h.n0,B:=TD h.B y,I:=λc o d=>?_,F:=λc o d=>?_,μI:=λb f=>?_,μinj:=h.μinj,own:=⟨l,j l q⟩,al:=λs=>?_},
  ⟨m,rfl,rfl,rfl,rfl,rfl,h.n0,λ_ _=>rfl,λc G H=>by
   obtain⟨o,ho⟩:=Option.ne_none_iff_exists'.1 G;show(if w.heap.size<=c then J c else g.I c)=none;rw[SU (by have:=e (h.F c o ho);omega)];exact H⟩,j⟩
 .change(if w.heap.size<=c then J c else g.I c)=some o at d
  split at d
  .exact K c o d
  .have:=h.I c o d;rw[t c (e this)];exact this
 .have:=h.F c o d;rw[t c (e this)];exact this
 .refine⟨?_,(h.μI b f).2⟩;show(if w.heap.size<=g.μ b then J (g.μ b)else g.I (g.μ b))=none;rw[SU (by have:=z b f;omega)];exact(h.μI b f).1
 .refine bW.congr (λp hp=>⟨rfl,?_⟩) (h.al s);cases p with
  |slot s=>rfl
  |cell b k=>
   simp only[aa]at hp;cases hx:st.h[b]?with
   |none=>simp[List.getD,hx,SV.isOwn]at hp
   |some xs=>simp only[an];rw[t _ (z b (i hx))]
def iI(d:Option Tmp)(r:SV)(st:St):St:=
 match d with
 |none=>st
 |some d=>match r with
  |.own nw e rows=>⟨(d,.own nw e rows)::aG (cX d) st.t,st.h⟩
  |.omap nw es=>⟨(d,.omap nw es)::aG (cX d) st.t,st.h⟩
  |r=>st.put d r
theorem Sim.result{g:Gh}{st:St}{a:Act}{w w':World}{g':Gh}(h:Sim g st a w){d:Option Tmp}(hd:ca g.N d){r:SV}{v:Value}{o:Option Nat}(m:PureEnd w w' g')(q:az g' w' r v o)(i:r.inCell=true)
 (ho:∀c,o=some c->w.heap.size<=c∧g'.I c=none) (hn:r.nwS):∃g2,g.to g2∧Sim g2 (iI d r st) (a.put d v) w':=by
 obtain⟨h1,u,y⟩:=h.grown m.env m.size m.keep g'.I m.I;refine⟨_,u,?_⟩;have j:az {g with I:=λc=>if w.heap.size<=c then g'.I c else g.I c} w' r v o:=az.new (g:=g')
  (λc A i z=>by show(if w.heap.size<=c then g'.I c else g.I c)=some A;rw[SX (by rw[←m.B];exact z)];exact i) (by show g.B<=g'.B;rw[m.B];exact h.B) hn q
 cases d with
 |none=>exact h1
 |some d=>
  obtain⟨bl,t⟩:=h.own;have p:=y bl t;have s:∀c,o=some c->c<w'.heap.size:=λc b=>by
   cases r with
   |pv x=>rw[q.1]at b;cases b
   |own nw e rows=>
    rcases q with⟨k,_⟩|⟨c',k,_,_,_,_,_,n,_⟩
    .rw[k]at b;cases b
    .rw[k]at b;cases b;exact(Td.1 n).1
   |omap nw es=>obtain⟨c',k,_,_,_,n,_⟩:=q;rw[k]at b;cases b;exact(Td.1 n).1
   |_=>cases hn
  have f:∀c,o=some c->FreeAt {g with I:=λc=>if w.heap.size<=c then g'.I c else g.I c} bl c:=λc i=>by
   obtain⟨k,n⟩:=ho c i;have l:=h.fresh t k;exact⟨by show(if w.heap.size<=c then g'.I c else g.I c)=none;rw[SX k];exact n,l.F,l.μ,l.own⟩
  cases r with
  |pv x=>exact h1.put hd (by rw[q.1]at j;exact j) trivial rfl
  |own nw e rows=>exact h1.putOwn p hd rfl (SY _) (λ_ _ _=>rfl) j rfl (λc i=>⟨s c i,f c i⟩)
  |omap nw es=>exact h1.putOwn p hd rfl (SY _) (λ_ _ _=>rfl) j rfl (λc i=>⟨s c i,f c i⟩)
  |_=>cases hn
/-! ### Calls -/
def bC(st:St)(x:Operand):Option (FuncId×List PV×List PV):=
 match x with
 |.func f=>some (f,[],[])
 |x=>match mv st x with
  |.pv (.fn (.func f) a b)=>some (f,a,b)
  |.pv (.lit (.func (.func f) a b))=>some (f,a.toList.map .lit,b.toList.map .lit)
  |_=>none
def jP(st:St):List Operand->Prop
 |[]=>True
 |x::xs=>La st x∧jP st xs
theorem sK(k:Nat):∀xs:List PV,bR k xs↔∀x∈xs,x.bel k
 |[]=>by simp[bR]
 |x::xs=>by simp[bR,sK k xs]
theorem iJ(k:Nat):∀xs:List (List PV),bI k xs↔∀r∈xs,∀x∈r,x.bel k
 |[]=>by simp[bI]
 |x::xs=>by simp[bI,iJ k xs,sK]
theorem sL(k:Nat):∀xs:List (Int×PV),gt k xs↔∀r∈xs,r.2.bel k
 |[]=>by simp[gt]
 |(n,x)::xs=>by simp[gt,sL k xs]
/-! ### What names no block reads everywhere the same -/
section
variable {g : Gh} {r : Nat -> Nat -> PV}
mutual
theorem Fit.frz0:∀(x:PV)(v:Value),x.bel 0->Fit g x v->Fit g (la r x) v
  |.bot,_,_,_=>trivial
  |.lit _,_,_,h=>h
  |.agg xs,v,hn,⟨vs,h1,h2⟩=>⟨vs,h1,ak.frz0 xs _ hn h2⟩
  |.tup xs,v,hn,⟨vs,h1,h2⟩=>⟨vs,h1,ak.frz0 xs _ hn h2⟩
  |.seq nw e rows,v,hn,⟨p,cap,h1,hc,h2⟩=>⟨p,cap,by rw[h1,bP,S7],by rw[bP,S7];exact hc,h2.imp (λh=>by rw[h];rfl)
      λ⟨c,off,arr,T,fz,vs,a,b,_,q1,q2⟩=>⟨c,off,arr,T,fz,vs,a,b,λhn=>(by cases hn),ay.frz0 e rows vs hn q1,q2⟩⟩
  |.iptr e rows i k,v,hn,⟨c,off,arr,T,fz,vs,a,b,q1,q2⟩=>⟨c,off,arr,T,fz,vs,a,b,ay.frz0 e rows vs hn q1,q2⟩
  |.ptr b off,v,hn,_=>absurd hn (Vj _)
  |.bsl b _ _ _ _,v,hn,_=>absurd hn (Vj _)
  |.fn f first cap,v,⟨n1,n2⟩,⟨a,b,h1,h2,h3⟩=>⟨a,b,h1,ak.frz0 first _ n1 h2,ak.frz0 cap _ n2 h3⟩
  |.amap nw es,v,hn,⟨c,en,ck,a,b,_,q⟩=>⟨c,en,ck,a,b,λhn=>(by cases hn),bD.frz0 es _ hn q.1,q.2⟩
  |.ifc t x,v,hn,⟨y,h1,h2⟩=>⟨y,h1,Fit.frz0 x y hn h2⟩
theorem ak.frz0:∀(xs:List PV)(vs:List Value),bR 0 xs->ak g xs vs->ak g (eC r xs) vs
  |[],_,_,h=>h
  |x::xs,vs,⟨n1,n2⟩,⟨v,r',h1,h2,h3⟩=>⟨v,r',h1,Fit.frz0 x v n1 h2,ak.frz0 xs r' n2 h3⟩
theorem ay.frz0(e:Nat):∀(rows:List (List PV))(vs:List Value),bI 0 rows->ay g e rows vs->ay g e (jN r rows) vs
  |[],_,_,h=>h
  |row::rows,vs,⟨n1,n2⟩,⟨v1,v2,h1,h2,h3,h4⟩=>⟨v1,v2,h1,⟨by rw[db,S7];exact h2.1,h2.2⟩,ak.frz0 row v1 n1 h3,ay.frz0 e rows v2 n2 h4⟩
theorem bD.frz0:∀(es:List (Int×PV))(en:List MapEntry),gt 0 es->bD g es en->bD g (sF r es) en
  |[],_,_,h=>h
  |(k,x)::es,en,⟨n1,n2⟩,⟨m,r',h1,h2,h3,h4⟩=>⟨m,r',h1,h2,Fit.frz0 x m.val n1 h3,bD.frz0 es r' n2 h4⟩
end
end
def Bc(n:Nat)(st:St):List Operand->List PV
 |[]=>[]
 |x::xs=>vw n st x::Bc n st xs
theorem ou(n:Nat)(st:St):∀xs:List Operand,Bc n st xs=xs.map (vw n st)
 |[]=>rfl
 |x::xs=>by simp[Bc,ou n st xs]
theorem qr{g:Gh}{st:St}{a:Act}{w:World}(h:Sim g st a w)(n:Nat):∀(xs:List Operand),jP st xs->ak (du w) (xs.map (vw n st)) (xs.map a.eval)
 |[],_=>rfl
 |x::xs,hd=>⟨_,_,rfl,M0 h n x hd.1,qr h n xs hd.2⟩
theorem eQ{g:Gh}{st:St}{a:Act}{w:World}(h:Sim g st a w){x:Operand}{f:FuncId}{p q:List PV}(o:gc st x)(c:bC st x=some (f,p,q)):
 ∃u v:Array Value,a.eval x=.func (.func f) u v∧ak g p u.toList∧ak g q v.toList:=by
 have key:(match mv st x with|.pv (.fn (.func f) a b)=>some (f,a,b)|.pv (.lit (.func (.func f) a b))=>some (f,a.toList.map .lit,b.toList.map .lit)|_=>(none:Option (FuncId×List PV×List PV)))=some (f,p,q)->
  ∃u v:Array Value,a.eval x=.func (.func f) u v∧ak g p u.toList∧ak g q v.toList:=by
  intro c;obtain⟨d,_⟩:=aN h x o;split at c
  .rename_i i j q' e;rw[e]at d;cases c
   obtain⟨_,u,v,h1,l,m⟩:=d;exact⟨u,v,h1,l,m⟩
  .rename_i i j q' e;rw[e]at d;cases c
   exact⟨j,q',d.2,d5 g _,d5 g _⟩
  .cases c
 cases x with
 |func i=>simp only[bC]at c;cases c;exact⟨#[],#[],rfl,rfl,rfl⟩
 |tmp k=>exact key c
 |const v=>exact key c
 |global n=>exact key c
theorem DD{P:Program}{g:Gh}{st:St}{a:Act}{w:World}(h:Sim g st a w)(o:Oper)(x:Operand)(args:Array Operand)(z:Array TypeId)(f:FuncId)(p q:List PV)(n:Nat)
 (ho:o.op=.call {callee:=.value x,args:=args,argTypes:=z}) (G:gc st x) (E:bC st x=some (f,p,q)) (J:jP st args.toList) (hd:ca g.N o.dst)
 {R:SV->Prop} (l:aj P f (p.map (la (bA st.h n))++(args.toList.map (vw n st)++q.map (la (bA st.h n)))) R) (K:Act->World->Prop) (Q:Exit->Act->World->Prop)
 (hn:∀r,R r->r.nwS)
 (i:∀r g2 v w',R r->g.to g2->Sim g2 (iI o.dst r st) (a.put o.dst v) w'->K (a.put o.dst v) w'):o.wp P a w K Q:=by
 obtain⟨u,v,hx,H,y⟩:=eQ h G E;have B:=lc h n;have j:ak (du w) (p.map (la (bA st.h n))++(args.toList.map (vw n st)++q.map (la (bA st.h n)))) (u.toList++(args.toList.map a.eval++v.toList)):=by
  refine ak.append ?_ (ak.append (qr h n _ J) ?_)
  .rw[←db];exact ak.frz h.I B _ _ H
  .rw[←db];exact ak.frz h.I B _ _ y
 obtain⟨b,l⟩:=l;have c:=l w _ j;have d:(u.toList++(args.toList.map a.eval++v.toList)).toArray=u++args.map a.eval++v:=by
  apply UJ;simp
 rw[d]at c;unfold Oper.wp;have k:(execOp a.eval o).run P w=.ok (.enter f (u++args.map a.eval++v)) w:=by
  unfold aF at b;split at b
  case h_2=>cases b
  rename_i fn m;simp only[S9,TU]at b;simp only[execOp,ho,resolve,hx,Deferred.ofValue,invoke,callFunc,Sem.run_bind,Sem.run_pure,Result.andThen_ok,run_program,m,b.1,b.2,TM,Ul,Sem.run_ite]
 rw[k,Oper.upon_enter];refine c.mono λe w' ⟨val,r,g',O,F,A,C,D,hin,t⟩=>?_;subst F;have s:=hn r A;obtain⟨g2,M,L⟩:=h.result hd C D hin t s;exact i r g2 val w' A M L
/-! ### One operation -/
def BD(P:Program)(st:St)(t:TypeId)(x y:Operand)(K:St->Prop):Prop:=
 match aI P t with
 |some (_,n)=>(b6 st y).2.2∧bH (aO (b6 st y).1)=true∧((b6 st y).1.one=true∨dm (.pv (b6 st y).1))∧(aO (b6 st y).1).length=n∧gc (b6 st y).2.1 x∧
  match mv (b6 st y).2.1 x with
  |.pv (.ptr b off)=>off+n<=((b6 st y).2.1.h.getD b []).length∧
   K ⟨aG (aJ b off n) (b6 st y).2.1.t,(b6 st y).2.1.h.set b (splice ((b6 st y).2.1.h.getD b []) off ((aO (b6 st y).1).map .pv))⟩
  |.sptr p i k=>match aa (b6 st y).2.1 p with
   |.own nw e rows=>i<rows.length∧k+n<=e∧K (setPos (b6 st y).2.1 p (.own nw e (rows.set i (splice (rows.getD i []) k (aO (b6 st y).1)))))
   |_=>False
  |_=>False
 |none=>False
def BE(P:Program)(st:St)(t:TypeId)(x y:Operand)(K:St->Prop):Prop:=
 match wT st x y with
 | some (st', ok) => (match aI P t with
  |some (_,n)=>n=1
  |none=>False)∧ok∧K st'
 |none=>match wV st x y with
  | some (st', m, ok) => (match aI P t with
   |some (_,n)=>n=m
   |none=>False)∧ok∧K st'
  |none=>BD P st t x y K
def wY(P:Program)(st:St)(t:TypeId)(len:Nat)(a:Array (Nat×Operand))(d:Tmp)(K:St->Prop):Prop:=
 match bm P t,cZ P t with
 |some e,some _=>len*e<=16777216∧0<e∧a.toList.map (·.1)=List.range len∧(cL st (a.toList.map (·.2))).2.2∧
  (∀y∈(cL st (a.toList.map (·.2))).1,(aO y).length=e∧bH (aO y)=true∧(y.one=true∨dm (.pv y)))∧
  K ⟨(d,.own true e ((cL st (a.toList.map (·.2))).1.map aO))::aG (cX d) (cL st (a.toList.map (·.2))).2.1.t,(cL st (a.toList.map (·.2))).2.1.h⟩
 |_,_=>False
def wZ(P:Program)(st:St)(t:TypeId)(s x:Operand)(d:Tmp)(K:St->Prop):Prop:=
 match bM P t with
 |some (e,b)=>0<b∧gc st s∧gc st x∧i9 st e (mv st x)∧
  match mv st s with
  |.al p=>match aa st p with
   |.own nw e' rows=>e'=e∧(rows.length+(rowsOf st (mv st x)).length)*b<=140737488355328∧
    K ⟨(d,.own nw e (rows++rowsOf st (mv st x)))::aG (cX d) (setPos st p (.pv .bot)).t,(setPos st p (.pv .bot)).h⟩
   |_=>False
  |.loc p lo hi=>match aa st p with
   |.own nw e' rows=>lo=0∧e'=e∧((rows.take hi).length+(rowsOf st (mv st x)).length)*b<=140737488355328∧
    K ⟨(d,.own nw e (rows.take hi++rowsOf st (mv st x)))::aG (cX d) (setPos st p (.pv .bot)).t,(setPos st p (.pv .bot)).h⟩
   |_=>False
  |.pv (.lit u)=>iu u=true∧(rowsOf st (mv st x)).length*b<=140737488355328∧K ⟨(d,.own true e (rowsOf st (mv st x)))::aG (cX d) st.t,st.h⟩
  |_=>False
 |none=>False
def eD:Pos->Bool
 |.slot _=>false
 |.cell _ _=>true
def aA(P:Program)(f:FuncId)(args:List PV)(h:List (List SV))(R:SV->List (List SV)->Prop):Prop:=
 aF P f=true∧∀(g:Gh)(st:St)(a:Act)(w:World)(vs:List Value),Sim g st a w->st.h=h->ak g args vs->
  Calls P f vs.toArray w (λe w'=>∃v r h' g',e=.returned v∧R r h'∧g.to g'∧∀d,ca g.N d->Sim g' (iI d r ⟨aG eD st.t,h'⟩) (a.put d v) w')
theorem aA.mono{P:Program}{f:FuncId}{args:List PV}{h:List (List SV)}{R R':SV->List (List SV)->Prop}(b:aA P f args h R)(i:∀r h',R r h'->R' r h'):aA P f args h R':=
 ⟨b.1,λg st a w vs hs e j=>(b.2 g st a w vs hs e j).mono λ_ _ ⟨v,r,h',g',h1,c,d⟩=>⟨v,r,h',g',h1,i r h' c,d⟩⟩
def vn(P:Program)(st:St)(f:FuncId)(a:List PV)(d:Option Tmp)(K:St->Prop):Prop:=
 ∃R,aA P f a st.h R∧∀r h',R r h'->K (iI d r ⟨aG eD st.t,h'⟩)
def vo(P:Program)(st:St)(f:FuncId)(p:List PV)(args:Array Operand)(q:List PV)(d:Option Tmp)(K:St->Prop):Prop:=
 match p,args.toList with
 |[],x::xs=>match partOf st x with
  |some (o,lo,hi)=>gc st x∧bI 0 (((cV st o).take hi).drop lo)∧jP (setPos st o (.pv .bot)) xs∧∃R,o8 P f (rz st o) (((cV st o).take hi).drop lo) (Bc 3 (setPos st o (.pv .bot)) xs++eC (bA (setPos st o (.pv .bot)).h 3) q) R∧
   ∀k a,R k a->a.length=hi -lo->(∀m,k=some m->m<=hi -lo)->K (Fy d k o lo (setPos st o (.own (nP st o) (rz st o) ((cV st o).take lo++a++(cV st o).drop hi))))
  |none=>False
 |_,_=>False
def bE(P:Program)(st:St)(x:Operand)(args:Array Operand)(d:Option Tmp)(K:St->Prop):Prop:=
 ∀(o:Oper)(b:Array TypeId),o.op=.call {callee:=.value x,args:=args,argTypes:=b}->o.dst=d->∀(g:Gh)(a:Act)(w:World),Sim g st a w->ca g.N d->
  ∀(K':Act->World->Prop)(Q:Exit->Act->World->Prop),(∀st' g' c w',K st'->g.to g'->Sim g' st' c w'->K' c w')->o.wp P a w K' Q
def ai(P:Program)(st:St)(ok:Prop)(k:FuncId)(a:List PV)(d:Option Tmp)(K:St->Prop)(x:Operand)(args:Array Operand):Prop:=
 (∃R,aj P k a R∧∀r,R r->r.nwS∧K (iI d r st))∨(ok∧vn P st k a d K)∨bE P st x args d K
def am(P:Program)(st stM:St)(a:Prop)(f:FuncId)(c:List PV)(b:Prop)(e:List PV)(d:Option Tmp)(K:St->Prop)(x:Operand)(args:Array Operand):Prop:=
 (a∧vn P stM f c d K)∨(b∧∃R,aj P f e R∧∀r,R r->r.nwS∧K (iI d r st))∨bE P st x args d K
theorem am.intro{P:Program}{st stM:St}{a:Prop}{f:FuncId}{b:List PV}{c:Prop}{e:List PV}{d:Option Tmp}{K:St->Prop}{x:Operand}{args:Array Operand}{R:SV->List (List SV)->Prop}(h:aA P f b stM.h R)(g:∀r h',R r h'->K (iI d r ⟨aG eD stM.t,h'⟩))(ok:a:=by simp):am P st stM a f b c e d K x args:=.inl ⟨ok,R,h,g⟩
theorem am.introX{P:Program}{st stM:St}{a:Prop}{f:FuncId}{c:List PV}{b:Prop}{e:List PV}{d:Option Tmp}{K:St->Prop}{x:Operand}{args:Array Operand}(h:bE P st x args d K):am P st stM a f c b e d K x args:=.inr (.inr h)
theorem am.introP{P:Program}{st stM:St}{e:Prop}{f:FuncId}{g:List PV}{a:Prop}{b:List PV}{d:Option Tmp}{K:St->Prop}{x:Operand}{args:Array Operand}{r:SV}(h:aj P f b (λi=>i=r))(j:K (iI d r st))(ok:a:=by simp)(hn:r.nwS:=by simp):am P st stM e f g a b d K x args:=
 .inr (.inl ⟨ok,_,h,λi c=>by subst c;exact⟨hn,j⟩⟩)
def nk(st:St)(args:Array Operand)(p q:List PV):Prop:=nL st args.toList∧bR 0 (je st args.toList)∧bR 0 p∧bR 0 q
theorem yD{st:St}:∀(xs:List Operand),nL st xs->(cL st xs).1=je st xs∧(cL st xs).2.1=st∧(cL st xs).2.2
 |[],_=>⟨rfl,rfl,trivial⟩
 |x::xs,⟨h1,a,b⟩=>by
  have hx:b6 st x=(l5 (mv st x),st,gc st x):=by unfold b6;rw[kX a];rfl
  obtain⟨c,d,i3⟩:=yD xs b;simp only[cL,hx,je];exact⟨by rw[c],d,h1,i3⟩
theorem DE{st:St}(n:Nat):∀(xs:List Operand),nL st xs->Bc n st xs=eC (bA st.h n) (je st xs)
 |[],_=>rfl
 |x::xs,⟨_,a,b⟩=>by
  have hx:vw n st x=la (bA st.h n) (l5 (mv st x)):=by unfold vw;rw[kX a];rfl
  simp only[Bc,je,eC,hx,DE n xs b]
theorem vn.plain{P:Program}{st:St}{f:FuncId}{args:Array Operand}{p q:List PV}{d:Option Tmp}{K:St->Prop}(h:nk st args p q)(c:vn P st f (eC (bA st.h 3) p++(Bc 3 st args.toList++eC (bA st.h 3) q)) d K):
 (cL st args.toList).2.2∧vn P (cL st args.toList).2.1 f (p++((cL st args.toList).1++q)) d K:=by
 obtain⟨h1,o,r,s⟩:=h;obtain⟨e,i,j⟩:=yD _ h1;refine⟨j,?_⟩;rw[e,i];rw[DE 3 _ h1]at c;obtain⟨R,⟨b,t⟩,u⟩:=c;refine⟨R,⟨b,λg st' a w vs hs v x=>t g st' a w vs hs v ?_⟩,u⟩;obtain⟨y,z,rfl,k,l⟩:=ak.split x;obtain⟨v3,v4,rfl,m,n⟩:=ak.split l;exact ak.append (ak.frz0 _ _ r k) (ak.append (ak.frz0 _ _ o m) (ak.frz0 _ _ s n))
def BF:PV->Bool
 |.ptr _ _=>true
 |.bsl _ _ _ _ _=>true
 |_=>false
def Hz:SV->Bool
 |.pv x=>BF x
 |_=>false
def jF:List PV->Bool
 |[]=>false
 |x::xs=>BF x||jF xs
def w7(st:St):List Operand->Bool
 |[]=>false
 |x::xs=>Hz (mv st x)||w7 st xs
def pj(st:St)(args:Array Operand)(p q:List PV):Bool:=jF p||(w7 st args.toList||jF q)
def DF(P:Program)(st:St)(x:Operand)(args:Array Operand)(d:Option Tmp)(K:St->Prop):Prop:=
 match bC st x with
 |some (f,p,q)=>if pj st args p q=true then gc st x∧am P st (cL st args.toList).2.1 (cL st args.toList).2.2 f (p++((cL st args.toList).1++q)) (jP st args.toList) (eC (bA st.h 3) p++(Bc 3 st args.toList++eC (bA st.h 3) q)) d K x args
  else gc st x∧jP st args.toList∧ai P st (nk st args p q) f (eC (bA st.h 3) p++(Bc 3 st args.toList++eC (bA st.h 3) q)) d K x args
 |none=>False
theorem BG{P:Program}{g:Gh}{st:St}{a:Act}{w:World}(h:Sim g st a w)(o:Oper)(x:Operand)(args:Array Operand)(y:Array TypeId)(f:FuncId)(p q:List PV)
 (ho:o.op=.call {callee:=.value x,args:=args,argTypes:=y}) (H:gc st x) (F:bC st x=some (f,p,q)) (J:(cL st args.toList).2.2) (hd:ca g.N o.dst) {K:St->Prop}
 (d:vn P (cL st args.toList).2.1 f (p++((cL st args.toList).1++q)) o.dst K) {K':Act->World->Prop} {Q:Exit->Act->World->Prop} (D:∀st' g' z w',K st'->g.to g'->Sim g' st' z w'->K' z w'):o.wp P a w K' Q:=by
 obtain⟨u,v,hx,I,t⟩:=eQ h H F;obtain⟨A,t1,B,_,L,C⟩:=ng _ h J;obtain⟨R,d,E⟩:=d;have j:ak A (p++((cL st args.toList).1++q)) (u.toList++(args.toList.map a.eval++v.toList)):=
  ak.append (ak.mono B _ _ I) (ak.append C (ak.mono B _ _ t))
 obtain⟨b,d⟩:=d;have c:=d A _ a w _ L rfl j;have i:(u.toList++(args.toList.map a.eval++v.toList)).toArray=u++args.map a.eval++v:=by
  apply UJ;simp
 rw[i]at c;unfold Oper.wp;have k:(execOp a.eval o).run P w=.ok (.enter f (u++args.map a.eval++v)) w:=by
  unfold aF at b;split at b
  case h_2=>cases b
  rename_i fn n;simp only[S9,TU]at b;simp only[execOp,ho,resolve,hx,Deferred.ofValue,invoke,callFunc,Sem.run_bind,Sem.run_pure,Result.andThen_ok,run_program,n,b.1,b.2,TM,Ul]
 rw[k,Oper.upon_enter];refine c.mono λe w' ⟨val,r,h',g',G,m,s,l⟩=>?_;subst G;exact D _ g' _ w' (E r h' m) (t1.trans s) (l o.dst (by rw[t1.N];exact hd))
theorem Nx{g:Gh}{w:World}{c:Nat}(a:∀k o,g.I k=some o->w.heap[k]?=some o)(b:g.I c=none):g.leC (nh w c):=by
 refine⟨λk arr T fz h=>?_,λk en ck h=>?_⟩
 .have hk:k≠c:=λe=>by rw[e,b]at h;cases h
  exact(lh w hk).trans (a _ _ h)
 .have hk:k≠c:=λe=>by rw[e,b]at h;cases h
  exact(lh w hk).trans (a _ _ h)
theorem yE(w:World)(c:Nat):(du (qp w c)).leC (nh w c):=⟨λ_ _ _ _ h=>h,λ_ _ _ h=>h⟩
theorem HA{P:Program}{g:Gh}{st:St}{a:Act}{w:World}(h:Sim g st a w)(o:Oper)(x:Operand)(args:Array Operand)(aW:Array TypeId)(f:FuncId)(p q:List PV)
    (ho:o.op=.call {callee:=.value x,args:=args,argTypes:=aW}) (hg:gc st x) (hc:bC st x=some (f,p,q)) (hd:ca g.N o.dst) {K:St->Prop}
    (hS:vo P st f p args q o.dst K) {K':Act->World->Prop} {Q:Exit->Act->World->Prop} (hK:∀st' g' a' w',K st'->g.to g'->Sim g' st' a' w'->K' a' w'):o.wp P a w K' Q:=by
  obtain⟨u,v,hx,hu,aC⟩:=eQ h hg hc
  unfold vo at hS
  split at hS
  case h_2=>exact hS.elim
  rename_i x0 xs W
  split at hS
  case h_2=>exact hS.elim
  rename_i ps lo hi hp
  obtain⟨h1,h2,h3,R,⟨l,hA,ai⟩,hR⟩:=hS
  have aU:u.toList=[]:=hu
  obtain⟨nw,e,rows,B,j1,j2,q0,cap,jv,jc,jq,jz⟩:=nj h h1 hp
  have eE:rz st ps=e:=by simp only[rz,B]
  have eR:cV st ps=rows:=by simp only[cV,B]
  have eN:nP st ps=nw:=by simp only[nP,B]
  rw[eE,eR]at hA
  rw[eR]at ai
  rw[eE,eR,eN]at hR
  rw[eR]at h2
  obtain⟨bl,hb⟩:=h.own
  have y:(aa st ps).isOwn=true:=by rw[B];rfl
  have ar:=bn hb y
  rw[B]at ar
  obtain⟨s0,aY,aJ,_,_,ae⟩:=h.drop hb ps
  have z:((rows.take hi).drop lo).length=hi -lo:=by rw[TN,S6];omega
  have aj:(a.eval x0::(xs.map a.eval++v.toList)).toArray=u++args.map a.eval++v:=by
    apply UJ
    simp[aU,W]
  have aB:(execOp a.eval o).run P w=.ok (.enter f (u++args.map a.eval++v)) w:=by
    unfold aF at l
    split at l
    case h_2=>cases l
    rename_i fn aN
    simp only[S9,TU]at l
    simp only[execOp,ho,resolve,hx,Deferred.ofValue,invoke,callFunc,Sem.run_bind,Sem.run_pure,Result.andThen_ok,run_program,aN,l.1,l.2,TM,Ul]
  -- what is given, put where it belongs
  have fin:∀(k:Option Nat)(i:List (List PV))(M:Gh)(w':World)(val:Value),R k i->i.length=hi -lo->(∀m,k=some m->m<=hi -lo)->g.to M->Sim M (setPos st ps (.own nw e (rows.take lo++i++rows.drop hi))) a w'->
      an M a w' ps=an g a w ps->val=(match k with|none=>.tuple #[]|some m=>.slice q0 m cap)->K' (a.put o.dst val) w':=by
    intro k i M w' val F hl hk t1 s1 J U
    have E:=hR k i F hl hk
    have ab:ca M.N o.dst:=by rw[t1.N];exact hd
    cases aq:o.dst with
    |none=>rw[aq]at E;exact hK _ M _ w' E t1 s1
    |some d=>
      rw[aq]at E ab
      cases k with
      |none=>
        refine hK _ M _ w' E t1 ?_
        rw[U]
        exact s1.put ab ⟨rfl,#[],rfl,rfl⟩ trivial rfl
      |some m=>
        refine hK _ M _ w' E t1 ?_
        rw[U]
        have hm:=hk m rfl
        refine s1.put ab rfl ?_ rfl
        intro a2 e1 rows1 az
        have:aa (setPos st ps (.own nw e (rows.take lo++i++rows.drop hi))) ps=.own nw e (rows.take lo++i++rows.drop hi):=by
          rw[cd y]
        rw[this]at az
        cases az
        have ax:lo+m -lo=m:=by omega
        have aO:lo+m<=(rows.take lo++i++rows.drop hi).length:=by
          simp only[Ta,S6,TN];omega
        refine⟨by omega,aO,q0,cap,by rw[ax],by rw[ax];omega,?_,λh0=>?_⟩
        · by_cases a0:m=0
          · left;omega
          · right
            rcases jq with jq|⟨c,n,cp,h5,h6⟩
            · omega
            · exact⟨c,n,cp,J.trans h5,h6⟩
        · obtain⟨n0,aQ⟩:=jz h0
          exact⟨n0,J.trans aQ⟩
  unfold Oper.wp
  rw[aB,Oper.upon_enter,←aj,jv]
  by_cases aw:lo=hi
  · -- nothing is handed
    subst aw
    have hz:(rows.take lo).drop lo=[]:=by apply Tq;rw[S6];omega
    have G:ak (du w) (Bc 3 (setPos st ps (.pv .bot)) xs++eC (bA (setPos st ps (.pv .bot)).h 3) q) (xs.map a.eval++v.toList):=by
      refine ak.append ?_ (ak.frz s0.I (lc s0 3) _ _ aC)
      rw[ou];exact qr s0 3 xs h3
    have r:=ai hz w q0 cap _ G
    rw[U8]
    refine r.mono λe1 w' ⟨k,F,hk,he,ad,af,t⟩=>?_
    subst he
    obtain⟨s1,t1,_⟩:=h.grown ad af t (λ_=>none) (λ_ _ hh=>by cases hh)
    have J:an {g with I:=λc=>if w.heap.size<=c then(λ_=>none) c else g.I c} a w' ps=an g a w ps:=by
      cases ps with
      |slot s=>rfl
      |cell b j=>
        simp only[aa]at y
        cases D:st.h[b]?with
        |none=>simp[List.getD,D,SV.isOwn]at y
        |some ys=>
          obtain⟨arr,T,h7,_⟩:=hb.blocks b ys D
          simp only[an];rw[t _ (Td.1 h7).1]
    refine fin k [] _ w' _ F (by simp) (λm hm=>?_) t1 ?_ J ?_
    · rcases hk with hk|hk
      · rw[hk]at hm;cases hm
      · rw[hk]at hm;cases hm;omega
    · have:rows.take lo++[]++rows.drop lo=rows:=by simp
      rw[this]
      exact s1.setSame B
    · rfl
  · rcases ar with⟨_,rfl,_⟩|⟨c,X,ah,arr,T,vs,e1,e2,e3,e4,e5,e6,e7⟩
    · simp at j2;omega
    obtain⟨aK,aZ,aL,aM⟩:=hb.free ps c X
    have aS:q0=some ⟨c,lo*e,none⟩:=by
      rcases jq with jq|⟨c1,n,cp,h5,h6⟩
      · exact absurd jq aw
      · rw[e1]at h5;cases h5;exact h6
    subst aS
    have ag:Sim g (setPos st ps (.pv .bot)) a (qp w c):=s0.turn aJ (ae c X) rfl (by simp[qp]) (λk hk=>lh w hk)
    have G:ak (nh w c) (Bc 3 (setPos st ps (.pv .bot)) xs++eC (bA (setPos st ps (.pv .bot)).h 3) q) (xs.map a.eval++v.toList):=by
      refine ak.monoC (yE w c) _ _ (.inl (Tf _)) (.inl rfl) ?_
      refine ak.append ?_ (ak.frz ag.I (lc ag 3) _ _ aC)
      rw[ou];exact qr ag 3 xs h3
    -- the rows' cells
    have O:=ay.cut e5 lo hi j1 j2
    have ao:=ay.cut e5 0 lo (Tf _) (TD j1 j2)
    have Y:=ay.cut e5 hi rows.length j2 (SY _)
    simp only[V7,Ww,Tw]at ao Y
    have aE:=e5.length
    have aV:vs.take (rows.length*e)=vs:=by rw[←aE,Tw]
    rw[aV]at Y
    have av:lo*e<=hi*e:=UT _ j1
    have aX:hi*e<=vs.length:=by rw[aE];exact UT _ j2
    obtain⟨rest,H⟩:=e6
    have C:arr.toList=vs.take (lo*e)++(vs.take (hi*e)).drop (lo*e)++(vs.drop (hi*e)++rest):=by
      rw[←H,←Tv]
      congr 1
      have h8:vs.take (lo*e)=(vs.take (hi*e)).take (lo*e):=by rw[XG,Uw av]
      rw[h8,T7,T7]
    have aA:(vs.take (lo*e)).length=lo*e:=by rw[S6];omega
    have aR:(rows.take hi).drop lo≠[]:=λh9=>by rw[h9]at z;simp at z;omega
    have aP:((rows.take hi).drop lo).length<=maxLen:=by rw[z];have:=e4.1;have:=e4.2.1;omega
    have r:=hA aR w c cap arr T (vs.take (lo*e)) _ _ (xs.map a.eval++v.toList) e2 C (by rw[z];exact jc) aP (ay.monoC (Nx h.I aK) e _ _ (.inl (Tf _)) (.inr h2) O) G e4.2.2
    rw[z,aA]at r
    refine r.mono λe9 w' ⟨k,i,L,F,au,hk,he,ad,af,t,⟨T',Z⟩,hG⟩=>?_
    subst he
    have A:=hG g O
    let w1:World:={w with heap:=w.heap.setIfInBounds c (.cells (vs.take (lo*e)++L++(vs.drop (hi*e)++rest)).toArray T' (0,0))}
    have aG:∀k,k≠c->w1.heap[k]?=w.heap[k]?:=λk hk=>by
      show(w.heap.setIfInBounds c _)[k]?=_
      rw[T6,SU (VC hk)]
    have V:w1.heap[c]?=some (.cells (vs.take (lo*e)++L++(vs.drop (hi*e)++rest)).toArray T' (0,0)):=by
      show(w.heap.setIfInBounds c _)[c]?=_
      rw[T6,SX rfl,SX aL]
    have aD:L.length=hi*e -lo*e:=by
      rw[A.length,au,Nat.sub_mul]
    have aT:Sim g (setPos st ps (.own nw e (rows.take lo++i++rows.drop hi))) a w1:=by
      refine h.ownWrite hb y X rfl (by simp[w1]) aG ?_ rfl ?_
      · right
        refine⟨c,rfl,ah,_,T',vs.take (lo*e)++L++vs.drop (hi*e),?_,V,?_,?_,?_,?_,e7⟩
        · rw[e1]
          congr 1
          simp only[Ta,S6,TN];omega
        · have aI:arr.size=arr.toList.length:=(TR ..).symm
          rw[←e3,aI,C]
          simp only[T8,Ta,aD,TN,S6]
          omega
        · refine⟨?_,e4.2.1,ft (ft (λv hv=>e5.one v (TV hv)) A.one) (ft (λv hv=>e5.one v (U3 hv)) (λv hv=>e4.2.2 v (by rw[←H];exact U9 _ hv)))⟩
          simp only[Ta,S6,TN];omega
        · exact ay.append (ay.append ao A) Y
        · exact⟨rest,by simp⟩
      · intro a1 e' rows1 hh
        cases hh
        exact⟨nw,rows,B,by simp only[Ta,S6,TN];omega⟩
    have S:w1.heap.size=w.heap.size:=by simp[w1]
    obtain ⟨s1, t1, _⟩ := aT.grown (w' := w') (ad.trans rfl) (by rw [S]; exact af) (λ k hk => by
      by_cases ek:k=c
      · subst ek;rw[Z,V]
      · rw[t k (by rw[←S];exact hk) ek,aG k ek]) (λ_=>none) (λ_ _ hh=>by cases hh)
    refine fin k i _ w' _ F au (λm hm=>hk m hm) t1 s1 ?_ rfl
    cases ps with
    |slot s=>rfl
    |cell b j=>
      simp only[aa]at y
      cases D:st.h[b]?with
      |none=>simp[List.getD,D,SV.isOwn]at y
      |some ys=>
        obtain⟨arr,T,h7,_⟩:=hb.blocks b ys D
        have aH:w'.heap[g.μ b]?=w.heap[g.μ b]?:=t _ (Td.1 h7).1 (aM b (by rw[h.n];exact(SQ.1 D).1))
        simp only[an]
        rw[show w'.heap[({g with I:=λc=>if w1.heap.size<=c then(λ_=>none) c else g.I c}:Gh).μ b]?=w.heap[g.μ b]?from aH]
theorem vo.x{P:Program}{st:St}{x:Operand}{args:Array Operand}{d:Option Tmp}{K:St->Prop}{f:FuncId}{p q:List PV}(h:gc st x)(g:bC st x=some (f,p,q))(e:vo P st f p args q d K):bE P st x args d K:=
 λo b ho a _ _ _ hs hd _ _ c=>HA hs o x args b f p q ho h g (by rw[a];exact hd) (by rw[a];exact e) c
def BH(P:Program)(st:St)(t:TypeId)(x y:Operand)(d:Tmp)(K:St->Prop):Prop:=
 match bM P t,cZ P t with
 |some (e,b),some zs=>bH zs=true∧0<b∧gc st x∧gc st y∧gj (mv st x)∧gj (mv st y)∧0<=aS (mv st x)∧aS (mv st x)<=aS (mv st y)∧aS (mv st y)*b<=140737488355328∧
  K ⟨(d,.own true e (List.replicate (aS (mv st x)).toNat zs))::aG (cX d) st.t,st.h⟩
 |_,_=>False
def yF(P:Program)(st:St)(t:TypeId)(m k x:Operand)(K:St->Prop):Prop:=
 lW P t=true∧(b6 st x).2.2∧gc (b6 st x).2.1 m∧gc (b6 st x).2.1 k∧gj (mv (b6 st x).2.1 k)∧gi (mv (b6 st x).2.1 k)=.i64∧
 match mv (b6 st x).2.1 m with
 |.al p=>match aa (b6 st x).2.1 p with
  |.omap nw es=>K (setPos (b6 st x).2.1 p (.omap nw (im es (aS (mv (b6 st x).2.1 k)) (b6 st x).1)))
  |_=>False
 |_=>False
def HB(P:Program)(st:St)(t:TypeId)(m k:Operand)(K:St->Prop):Prop:=
 lW P t=true∧gc st m∧gc st k∧gj (mv st k)∧gi (mv st k)=.i64∧
 match mv st m with
 |.al p=>match aa st p with
  |.omap nw es=>K (setPos st p (.omap nw (jf (aS (mv st k)) es)))
  |_=>False
 |_=>False
def Ny(st:St)(x:Operand)(d:Tmp)(K:St->Prop):Prop:=
 match mv st x with
 |.agl xs=>gc st x∧yC st xs∧(mu st.h.length xs 0 (st.grow ((xs.map (·.1)).map .pv))).2∧K ((mu st.h.length xs 0 (st.grow ((xs.map (·.1)).map .pv))).1.put d (.pv (.ptr st.h.length 0)))
 |_=>(b6 st x).2.2∧((b6 st x).1.one=true∨dm (.pv (b6 st x).1))∧bH (aO (b6 st x).1)=true∧
  K (((b6 st x).2.1.grow ((aO (b6 st x).1).map .pv)).put d (.pv (.ptr (b6 st x).2.1.h.length 0)))
def sM(P:Program)(st:St)(o:Op)(d:Option Tmp)(K:St->Prop):Prop:=
 (pop P st o).2∧(pop P st o).1.isOwn=false∧K (putD d (pop P st o).1 st)
def my(b:Nat):Nat->Nat->St->St
 |_,0,st=>st
 | k, n + 1, st => my b (k + 1) n (match aa st (.cell b k) with
  |.own nw e rows=>setPos st (.cell b k) (.pv (.seq nw e rows))
  |.omap nw es=>setPos st (.cell b k) (.pv (.amap nw es))
  |_=>st)
theorem jh{a:Act}{w:World}{b:Nat}:∀(n k:Nat){g:Gh}{st:St},Sim g st a w->∃g',g.to g'∧g.le g'∧g'.n=g.n∧Sim g' (my b k n st) a w
 |0,_,g,st,h=>⟨g,h.refl_to,Gh.le.refl g,rfl,h⟩
 |n+1,k,g,st,h=>by
  simp only[my];split
  .rename_i nw e rows hp;obtain⟨s,t1,f,j,_,m,_⟩:=h.freeze (p:=.cell b k) (by rw[hp];rfl);rw[hp]at m;obtain⟨g2,r,i,l,q⟩:=jh n (k+1) m;exact⟨g2,t1.trans r,⟨λc o d=>i.I _ _ (f.I _ _ d),TD i.B f.B,by rw[l,j];exact SY _,λc d=>by rw[i.μ c (by rw[j];exact d),f.μ c d]⟩,l.trans j,q⟩
  .rename_i nw es hp;obtain⟨s,t1,f,j,_,m,_⟩:=h.freeze (p:=.cell b k) (by rw[hp];rfl);rw[hp]at m;obtain⟨g2,r,i,l,q⟩:=jh n (k+1) m;exact⟨g2,t1.trans r,⟨λc o d=>i.I _ _ (f.I _ _ d),TD i.B f.B,by rw[l,j];exact SY _,λc d=>by rw[i.μ c (by rw[j];exact d),f.μ c d]⟩,l.trans j,q⟩
  .exact jh n (k+1) h
def gu(P:Program)(st:St)(t:TypeId)(x:Operand):St:=
 match mv st x,aI P t with
 |.pv (.ptr b off),some (true,n)=>my b off n st
 |_,_=>st
theorem vp{P:Program}{a:Act}{w:World}(t:TypeId)(x:Operand){g:Gh}{st:St}(h:Sim g st a w):∃g',g.to g'∧g.le g'∧g'.n=g.n∧Sim g' (gu P st t x) a w:=by
 unfold gu;split
 .exact jh _ _ h
 .exact⟨g,h.refl_to,Gh.le.refl g,rfl,h⟩
def BI(P:Program)(st:St)(t:TypeId)(x:Operand)(yes:Bool)(d:Option Tmp)(K:St->Prop):Prop:=
 match bm P t with
 |some e=>match mv st x with
  |.pv (.lit (.slice none _ _))=>gc st x∧K (putD d (.bool yes) st)
  |.pv (.bsl ..)=>gc st x∧K (putD d (.bool (!yes)) st)
  |y=>gc st x∧i9 st e y∧(rowsOf st y=[]->∀b,K (putD d (.bool b) st))∧(rowsOf st y≠[]->K (putD d (.bool (!yes)) st))
 |none=>False
theorem HC{P:Program}{st:St}(o:Oper)(t u:TypeId)(x:Operand)(yes:Bool){K:St->Prop}(ho:o.op=.binOp (if yes=true then .eql else .neq) t x (.const (.slice none 0 0)) u)(h:BI P st t x yes o.dst K){g:Gh}{a:Act}{w:World}(hs:Sim g st a w)(hd:ca g.N o.dst){K':Act->World->Prop}{Q:Exit->Act->World->Prop}
 (A:∀st' g' r w',K st'->g.to g'->Sim g' st' r w'->K' r w'):o.wp P a w K' Q:=by
 unfold BI at h;split at h
 case h_2=>exact h.elim
 rename_i e f;unfold bm at f;split at f
 case h_2=>cases f
 rename_i s v;have run:∀(p:Option Addr)(n c:Nat),a.eval x=.slice p n c->(execOp a.eval o).run P w=.ok (.value (.bool (p.isNone==yes))) w:=by
  intro p n c d;have h1:=Go.Lib.run_eql_slice_nil (P:=P) w t s p n c 0 0 v;have k:=Go.Lib.run_equalIn_slice_nil (P:=P) w 9999 t s p n c 0 0 v;have hn:a.eval (.const (.slice none 0 0))=.slice none 0 0:=rfl;cases yes with
  |true=>
   simp only[execOp,ho,UU,d,hn,eqGuard_at_slice,Sem.run_bind,h1,Result.andThen_ok,Sem.run_pure];cases p<;>rfl
  |false=>
   simp only[execOp,ho,TM,Ul,d,hn,eqGuard_at_slice,binOp,Op.equal,Op.maxDepth,Sem.run_bind,k,Result.andThen_ok,Sem.run_pure];cases p<;>rfl
 have fin:∀b,K (putD o.dst (.bool b) st)->(execOp a.eval o).run P w=.ok (.value (.bool b)) w->o.wp P a w K' Q:=by
  intro b hk j;unfold Oper.wp;rw[j];exact A _ g _ w hk hs.refl_to (hs.putD hd ⟨rfl,rfl⟩ trivial rfl)
 split at h
 .rename_i n c l;obtain⟨i,_⟩:=aN hs x h.1;rw[l]at i;have d:a.eval x=_:=i.2;exact fin yes h.2 (by rw[run none n c d];cases yes<;>rfl)
 .rename_i b e' off n cap l;obtain⟨i,_⟩:=aN hs x h.1;rw[l]at i;obtain⟨_,_,_,d⟩:=i;exact fin _ h.2 (by rw[run _ n cap d];cases yes<;>rfl)
 .obtain⟨h1,k,y,z⟩:=h;obtain⟨q,cap,vs,d,_,m⟩:=gN hs h1 k
  by_cases j:rowsOf st (mv st x)=[]
  .exact fin _ (y j _) (run q _ cap d)
  .rcases m with m|⟨B,rfl,_⟩
   .exact absurd m j
   .exact fin _ (z j) (by rw[run _ _ cap d];cases yes<;>rfl)
/-! ### A slice of bytes becomes a string -/
def sN(P:Program)(t:TypeId):Bool:=match P.underlying t with
 |some (.slice e)=>match P.underlying e with
  |some (.int .u8)=>true
  |_=>false
 |_=>false
def Pf:List (List PV)->Option (List Int)
 |[]=>some []
 |[.lit (.int .u8 n)]::r=>match Pf r with
  |some xs=>some (n::xs)
  |none=>none
 |_=>none
theorem DG{g:Gh}:∀{rows:List (List PV)}{xs:List Int}{vs:List Value},Pf rows=some xs->ay g 1 rows vs->vs=xs.map (Value.int .u8)
 |[],xs,vs,h,m=>by
  cases h
  exact m
 |row::r,xs,vs,h,⟨p,q,h1,_,f,i⟩=>by
  unfold Pf at h;split at h
  .rename_i e;cases e
  .rename_i n o e;cases e
   split at h
   .rename_i ys hy;cases h
    obtain⟨a,b,j,k,l⟩:=f;have c:a=Value.int .u8 n:=k;have d:b=[]:=l;subst c d j;rw[h1,DG hy i];rfl
   .cases h
  .cases h
def Rb(P:Program)(st:St)(dst:TypeId)(x:Operand)(d:Option Tmp)(K:St->Prop):Prop:=
 match P.underlying dst,mv st x with
 |some .string,.al (.slot s)=>gc st x∧match look st.t s with
  |.own _ 1 rows=>rows≠[]∧match Pf rows with
   |some xs=>K (putD d (.pv (.lit (.string (strOfNums xs)))) st)
   |none=>False
  |_=>False
 |_,_=>False
theorem Nz{P:Program}{st:St}(o:Oper){d dst:TypeId}{x:Operand}(ho:o.op=.convert d dst x)(b:sN P d=true){K:St->Prop}(h:Rb P st dst x o.dst K){g:Gh}{a:Act}{w:World}(hs:Sim g st a w)(hd:ca g.N o.dst){K':Act->World->Prop}{Q:Exit->Act->World->Prop}
 (A:∀st' g' u w',K st'->g.to g'->Sim g' st' u w'->K' u w'):o.wp P a w K' Q:=by
 unfold sN at b;split at b
 case h_2=>cases b
 rename_i e n;split at b
 case h_2=>cases b
 rename_i D;unfold Rb at h;split at h
 case h_2=>exact h.elim
 rename_i s f E;obtain⟨hx,h⟩:=h;split at h
 case h_2=>exact h.elim
 rename_i nw rows z;obtain⟨r,h⟩:=h;split at h
 case h_2=>exact h.elim
 rename_i xs G;obtain⟨_,y⟩:=aN hs x hx;rw[E]at y;obtain⟨bl,B⟩:=hs.own;have m:=B.slots s;rw[z]at m;have q:a.eval x=a.tmps.getD s undef:=y (by simp only[aa];rw[z];rfl);rcases m with⟨_,h0,_⟩|⟨c,_,cap,arr,T,vs,H,C,_,_,v,k,_⟩
 .exact absurd h0 r
 have p:=DG G v;have j:xs.length=rows.length:=by
  have:=v.length;rw[p,S7]at this;omega
 have l:(convert d dst (a.eval x)).run P w=.ok (.string (strOfNums xs)) w:=by
  rw[q,H];refine run_convert_bytes_arg w d e n D c 0 rows.length cap xs j (λi hi=>?_) dst f;obtain⟨t,ht⟩:=k;rw[T4,cell_of C,←S4,←ht,p,SZ (by rw[S7];omega),Tm,SR (by omega)];simp only[TZ,SS];rw[SR (by omega)];rfl
 have F:(execOp a.eval o).run P w=.ok (.value (.string (strOfNums xs))) w:=by
  simp only[execOp,ho,Sem.run_bind,l,Result.andThen_ok,Sem.run_pure]
 unfold Oper.wp;rw[F];exact A _ g _ w h hs.refl_to (hs.putD hd (sv:=.pv (.lit (.string (strOfNums xs)))) ⟨rfl,rfl⟩ trivial rfl)
def AE(P:Program)(st:St)(o:Op)(d:Option Tmp)(K:St->Prop):Prop:=
 match o with
 |.assign (.tmp s)=>match d with
  |some d'=>if(look st.t s).isOwn=true then K (Dt st s d')else match Dz st s d' with
   |some st'=>K st'
   |none=>sM P st (.assign (.tmp s)) d K
  |none=>sM P st (.assign (.tmp s)) d K
 |.alloc t=>match d,dA P t with
  |some d,some zs=>bH zs=true∧K ((st.grow (zs.map .pv)).put d (.pv (.ptr st.h.length 0)))
  |_,_=>False
 |.box _ x=>match d with
  |some d=>Ny st x d K
  |none=>False
 |.store t x y=>match d with
  |none=>BE P st t x y K
  |some _=>False
 |.buildSlice t len a=>match d with
  |some d=>wY P st t len a d K
  |none=>False
 |.makeSlice t x y=>match d with
  |some d=>BH P st t x y d K
  |none=>False
 |.makeMap t r=>match d,r with
  |some d,r=>lW P t=true∧Br st r∧K ⟨(d,.omap true [])::aG (cX d) st.t,st.h⟩
  |_,_=>False
 |.mapUpdate t m k x=>match d with
  |none=>yF P st t m k x K
  |some _=>False
 |.insert t m k x=>match d with
  |none=>yF P st t m k x K
  |some _=>False
 |.load t x=>sM P (gu P st t x) (.load t x) d K
 |.binOp .eql t x (.const (.slice none 0 0)) _=>BI P st t x true d K
 |.binOp .neq t x (.const (.slice none 0 0)) _=>BI P st t x false d K
 |.build t a=>(cL st (a.toList.map (·.2))).2.2∧sM P (cL st (a.toList.map (·.2))).2.1 (.build t a) d K
 |.convert b dst x=>if sN P b=true then Rb P st dst x d K else sM P st (.convert b dst x) d K
 |.call c=>match c.callee with
  |.value x=>DF P st x c.args d K
  |.builtin .append=>match c.args.toList,c.argTypes.toList,d with
   |[s,x],[t,e],some d=>e=t∧wZ P st t s x d K
   |_,_,_=>False
  |.builtin .clear=>match c.args.toList,c.argTypes.toList,d with
   |[x],[t],none=>Bt P st t x K
   |_,_,_=>False
  |.builtin .copy=>match c.args.toList,c.argTypes.toList with
   |[x,y],[t,_]=>DC P st t x y d K
   |_,_=>False
  |.builtin .delete=>match c.args.toList,c.argTypes.toList,d with
   |[m,k],[t,_],none=>HB P st t m k K
   |_,_,_=>False
  |_=>sM P st (.call c) d K
 |o=>sM P st o d K
theorem w8{P:Program}{st:St}(o:Oper){K:St->Prop}(h:sM P st o.op o.dst K){g:Gh}{a:Act}{w:World}(hs:Sim g st a w)(hd:ca g.N o.dst){K':Act->World->Prop}{Q:Exit->Act->World->Prop}
 (e:∀st' g' b w',K st'->g.to g'->Sim g' st' b w'->K' b w'):o.wp P a w K' Q:=by
 obtain⟨h1,c,d⟩:=h;obtain⟨v,j,i,f⟩:=Hp o g a w hs h1;unfold Oper.wp;rw[j];exact e _ g _ w d hs.refl_to (hs.putD hd i f c)
theorem b5{P:Program}{o:Oper}{g:Gh}{st':St}{a:Act}{w:World}{K':Act->World->Prop}{Q:Exit->Act->World->Prop}
 (h:∃v w' g',(execOp a.eval o).run P w=.ok (.value v) w'∧g.to g'∧Sim g' st' (a.put o.dst v) w') (e:∀g' b w',g.to g'->Sim g' st' b w'->K' b w'):o.wp P a w K' Q:=by
 obtain⟨v,w',g',h1,c,d⟩:=h;unfold Oper.wp;rw[h1];exact e g' _ w' c d
theorem gv{P:Program}{o:Oper}{g:Gh}{st':St}{a:Act}{w:World}{K':Act->World->Prop}{Q:Exit->Act->World->Prop}(hd:o.dst=none)
 (h:∃w' g',(execOp a.eval o).run P w=.ok .skip w'∧g.to g'∧Sim g' st' a w') (e:∀g' b w',g.to g'->Sim g' st' b w'->K' b w'):o.wp P a w K' Q:=by
 obtain⟨w',g',h1,c,d⟩:=h;unfold Oper.wp;rw[h1];show K' (a.put o.dst undef) w';rw[hd];exact e g' _ w' c d
theorem rX{c:Call}{f:Callee}{xs:List Operand}{ts:List TypeId}(h1:c.callee=f)(e:c.args.toList=xs)(g:c.argTypes.toList=ts):c={callee:=f,args:=xs.toArray,argTypes:=ts.toArray}:=by
 cases c with
 |mk a b d=>simp only at h1 e g;subst h1 e g;simp
theorem HD{P:Program}{st:St}(o:Oper){K:St->Prop}(h:AE P st o.op o.dst K){g:Gh}{a:Act}{w:World}(hs:Sim g st a w)(hd:ca g.N o.dst){K':Act->World->Prop}{Q:Exit->Act->World->Prop}
 (C:∀st' g' B w',K st'->g.to g'->Sim g' st' B w'->K' B w'):o.wp P a w K' Q:=by
 have A:sM P st o.op o.dst K->o.wp P a w K' Q:=λh=>w8 o h hs hd C;cases j:o.op
 case assign x=>
  rw[j]at h A;cases x with
  |tmp s=>
   cases l:o.dst with
   |none=>rw[l]at h A;exact A h
   |some d=>
    rw[l]at h A;simp only[AE]at h;split at h
    .rename_i aa;exact b5 (Bl o s d j l aa (by rw[l]at hd;exact hd) g a w rfl hs) (λg' B w'=>C _ g' B w' h)
    .split at h
     .rename_i st' T;exact b5 (Ht T o j l (by rw[l]at hd;exact hd) g a w rfl hs) (λg' B w'=>C _ g' B w' h)
     .exact A h
  |const v=>exact A h
  |func f=>exact A h
  |global n=>exact A h
 case alloc t=>
  rw[j]at h;simp only[AE]at h;split at h
  .rename_i d zs l hz;exact b5 (Hq o t d zs j l hz h.1 (by rw[l]at hd;exact hd) g a w rfl hs) (λg' B w'=>C _ g' B w' h.2)
  .exact h.elim
 case box t x=>
  rw[j]at h;simp only[AE]at h;split at h
  .rename_i d l;unfold Ny at h;split at h
   .rename_i xs I;exact b5 (Lf o t x d xs j l h.1 I (lg h.2.1) (pi h.2.1) h.2.2.1 (rW h.2.1) (by rw[l]at hd;exact hd) g a w rfl hs) (λg' B w'=>C _ g' B w' h.2.2.2)
   exact b5 (Nw o t x d j l h.1 h.2.1 h.2.2.1 (by rw[l]at hd;exact hd) g a w rfl hs) (λg' B w'=>C _ g' B w' h.2.2.2)
  .exact h.elim
 case store t x y=>
  rw[j]at h;simp only[AE]at h;split at h
  .rename_i l;unfold BE at h;split at h
   .rename_i st' ok I;obtain⟨h1,D,H⟩:=h;split at h1
    .rename_i ag n hl;subst h1;exact gv l (Fv I D o t j hl g a w hs) (λg' B w'=>C _ g' B w' H)
    .exact h1.elim
   split at h
   .rename_i st' m ok I;obtain⟨h1,D,H⟩:=h;split at h1
    .rename_i ag n hl;subst h1;exact gv l (Fx I D o t j hl g a w hs) (λg' B w'=>C _ g' B w' H)
    .exact h1.elim
   unfold BD at h;split at h
   .rename_i ag n hl;obtain⟨h1,D,H,J,G,F⟩:=h;split at F
    .rename_i b off I;exact gv l (Fs o t x y b off n ag j l hl h1 D H J I G F.1 g a w hs) (λg' B w'=>C _ g' B w' F.2)
    .rename_i p i k I;split at F
     .rename_i nw e rows hp;exact gv l (Bn o t x y p i k n e nw rows ag j hl h1 D H J I G hp F.1 F.2.1 g a w hs) (λg' B w'=>C _ g' B w' F.2.2)
     .exact F.elim
    .exact F.elim
   .exact h.elim
  .exact h.elim
 case buildSlice t len M=>
  rw[j]at h;simp only[AE]at h;split at h
  .rename_i d l;unfold wY at h;split at h
   .rename_i e zs ai aj;obtain⟨h1,D,H,J,G,F⟩:=h;exact b5 (sE o t len e M zs d j l ai aj h1 D H J G (by rw[l]at hd;exact hd) g a w rfl hs) (λg' B w'=>C _ g' B w' F)
   .exact h.elim
  .exact h.elim
 case makeSlice t x y=>
  rw[j]at h;simp only[AE]at h;split at h
  .rename_i d l;unfold BH at h;split at h
   .rename_i e b zs hi hz;obtain⟨h1,D,H,J,G,F,L,h8,h9,ab⟩:=h;exact b5 (uI o t x y d e b zs j l hi hz h1 D H J G F L h8 h9 (by rw[l]at hd;exact hd) g a w rfl hs) (λg' B w'=>C _ g' B w' ab)
   .exact h.elim
  .exact h.elim
 case makeMap t r=>
  rw[j]at h;simp only[AE]at h;split at h
  .rename_i d l;exact b5 (wS o t _ d j l h.1 h.2.1 (by rw[l]at hd;exact hd) g a w rfl hs) (λg' B w'=>C _ g' B w' h.2.2)
  .exact h.elim
 case mapUpdate t m k x=>
  rw[j]at h;simp only[AE]at h;split at h
  .rename_i l;unfold yF at h;obtain⟨h1,D,H,J,G,F,L⟩:=h;split at L
   .rename_i p I;split at L
    .rename_i nw es hp;exact gv l (nN o t m k x p nw es (.inl j) h1 D H I hp J G F g a w hs) (λg' B w'=>C _ g' B w' L)
    .exact L.elim
   .exact L.elim
  .exact h.elim
 case insert t m k x=>
  rw[j]at h;simp only[AE]at h;split at h
  .rename_i l;unfold yF at h;obtain⟨h1,D,H,J,G,F,L⟩:=h;split at L
   .rename_i p I;split at L
    .rename_i nw es hp;exact gv l (nN o t m k x p nw es (.inr j) h1 D H I hp J G F g a w hs) (λg' B w'=>C _ g' B w' L)
    .exact L.elim
   .exact L.elim
  .exact h.elim
 case call c=>
  rw[j]at h A;simp only[AE]at h;split at h
  .rename_i x E;unfold DF at h;split at h
   .rename_i f p q V;have T:c={callee:=.value x,args:=c.args,argTypes:=c.argTypes}:=by cases c;simp only at E;rw[E]
    rw[T]at j;split at h
    .obtain⟨h1,⟨D,H⟩|⟨D,R,hA,hR⟩|hS⟩:=h;rotate_left 2
     .exact hS o c.argTypes j rfl g a w hs hd K' Q C
     .exact BG hs o x c.args c.argTypes f p q j h1 V D hd H C
     .rw[ou,db,db]at hA;exact DD hs o x c.args c.argTypes f p q 3 j h1 V D hd hA K' Q (λr Y=>(hR r Y).1) (λr g2 v w' Y U Z=>C _ g2 _ w' (hR r Y).2 U Z)
    obtain⟨h1,D,⟨R,hA,hR⟩|⟨ah,ae⟩|hS⟩:=h;rotate_left 2
    .exact hS o c.argTypes j rfl g a w hs hd K' Q C
    rotate_left
    .obtain⟨c1,c2⟩:=ae.plain ah;exact BG hs o x c.args c.argTypes f p q j h1 V c1 hd c2 C
    rw[ou,db,db]at hA;exact DD hs o x c.args c.argTypes f p q 3 j h1 V D hd hA K' Q (λr Y=>(hR r Y).1) (λr g2 v w' Y U Z=>C _ g2 _ w' (hR r Y).2 U Z)
   .exact h.elim
  .rename_i E;split at h
   .rename_i s x t t' d O S l;obtain⟨rfl,h⟩:=h;have T:=rX E O S;rw[T]at j;unfold wZ at h;split at h
    .rename_i e b hi;obtain⟨h1,D,H,J,G⟩:=h;split at G
     .rename_i p I;split at G
      .rename_i nw e' rows hp;obtain⟨rfl,F,L⟩:=G;exact b5 (Bo o _ s x d e' b p nw rows j l hi h1 D I hp H J F (by rw[l]at hd;exact hd) g a w rfl hs) (λg' B w'=>C _ g' B w' L)
      .exact G.elim
     .rename_i p lo af I;split at G
      .rename_i nw e' rows hp;obtain⟨rfl,rfl,F,L⟩:=G;exact b5 (Bx o _ s x d e' b p af nw rows j l hi h1 D I hp H J F (by rw[l]at hd;exact hd) g a w rfl hs) (λg' B w'=>C _ g' B w' L)
      .exact G.elim
     .rename_i u I;exact b5 (append_nil o _ s x d e b u j l hi h1 D I G.1 H J G.2.1 (by rw[l]at hd;exact hd) g a w rfl hs) (λg' B w'=>C _ g' B w' G.2.2)
     .exact G.elim
    .exact h.elim
   .exact h.elim
  .rename_i E;split at h
   .rename_i x t O S l;have T:=rX E O S;rw[T]at j;unfold Bt at h;split at h
    .rename_i b off n cap z I hz;obtain⟨h1,D,H,J,G,F⟩:=h;exact b5 (Ft o t x b off n cap z j l I hz h1 D H J G g a w hs) (λg' B w'=>C _ g' B w' F)
    .rename_i b e off n cap zs _ I hz;obtain⟨h1,D,H,J,G,F,L⟩:=h;exact b5 (Bu o t x b e off n cap zs j l I hz h1 D H J G F g a w hs) (λg' B w'=>C _ g' B w' L)
    .exact h.elim
   .exact h.elim
  .rename_i E;split at h
   .rename_i x y t U O S;have T:=rX E O S;rw[T]at j;obtain⟨v,w',g',st',r1,r2,r3,r4⟩:=Hy o t U x y o.dst j rfl h g a w hs hd;exact b5 ⟨v,w',g',r1,r2,r4⟩ (λg' B w'=>C _ g' B w' r3)
   .exact h.elim
  .rename_i E;split at h
   .rename_i m k t U O S l;have T:=rX E O S;rw[T]at j;unfold HB at h;obtain⟨h1,D,H,J,G,F⟩:=h;split at F
    .rename_i p I;split at F
     .rename_i nw es hp;exact b5 (Bq o t U m k p nw es j l h1 D I hp H J G g a w hs) (λg' B w'=>C _ g' B w' F)
     .exact F.elim
    .exact F.elim
   .exact h.elim
  .exact A h
 case load t x=>
  rw[j]at h;simp only[AE]at h;obtain⟨g1,t1,_,_,s1⟩:=vp (P:=P) t x hs;exact w8 (st:=gu P st t x) o (by rw[j];exact h) s1 (by rw[show g1.N=g.N from t1.N.symm▸rfl];exact hd) (λst' g' B w' W U Z=>C st' g' B w' W (t1.trans U) Z)
 case convert ak dst x=>
  rw[j]at h A;simp only[AE]at h;split at h
  .rename_i ad;exact Nz o j ad h hs hd C
  .exact A h
 case build t M=>
  rw[j]at h;simp only[AE]at h;obtain⟨h1,D⟩:=h;obtain⟨g1,t1,_,_,s1,_⟩:=ng _ hs h1;exact w8 (st:=(cL st (M.toList.map (·.2))).2.1) o (by rw[j];exact D) s1 (by rw[show g1.N=g.N from t1.N.symm▸rfl];exact hd) (λst' g' B w' W U Z=>C st' g' B w' W (t1.trans U) Z)
 case binOp op t x y u=>
  rw[j]at h A;unfold AE at h;split at h<;>first|exact A h|skip
  all_goals
   first
    |(rename_i X;cases X;done)
    |(rename_i X;injection X with O S e3 e4 e5;subst O S e3 e4 e5;exact HC o _ _ _ true (by rw[j];rfl) h hs hd C)
    |(rename_i X;injection X with O S e3 e4 e5;subst O S e3 e4 e5;exact HC o _ _ _ false (by rw[j];rfl) h hs hd C)
    |(rename_i X;rw[X]at A;exact A h)
 all_goals (rw[j]at h A;exact A h)
end Go.AX
namespace Go.AX
theorem Sim.weak{g:Gh}{st st':St}{a:Act}{w:World}(h:Sim g st a w)(hh:st'.h=st.h)(ht:∀s,look st'.t s=look st.t s∨look st'.t s=.pv .bot):Sim g st' a w:=by
  obtain⟨bl,hb⟩:=h.own
  have hpos:∀p,(aa st' p).isOwn=true->aa st' p=aa st p∧an g a w p=an g a w p:=by
    intro p hp
    refine⟨?_,rfl⟩
    cases p with
    |cell b k=>simp only[aa,hh]
    |slot s=>
      simp only[aa]at hp⊢
      rcases ht s with e|e
      · exact e
      · rw[e]at hp;cases hp
  have hone:∀s,look st'.t s≠look st.t s->look st'.t s=.pv .bot:=λs hne=>(ht s).resolve_left hne
  refine { size := h.size, defs := h.defs, env := h.env, n := by rw [hh]; exact h.n, n0 := h.n0, B := h.B, I := h.I, F := h.F, μI := h.μI, μinj := h.μinj,
           own:=⟨λp=>match p with|.slot s=>(match look st'.t s with|.pv .bot=>none|_=>bl (.slot s))|.cell b k=>bl (.cell b k),?_⟩,al:=λs=>?_}
  · have hsub:∀p c,(match p with|.slot s=>(match look st'.t s with|.pv .bot=>none|_=>bl (.slot s))|.cell b k=>bl (.cell b k))=some c->bl p=some c:=by
      intro p c hp
      cases p with
      |cell b k=>exact hp
      |slot s=>
        simp only at hp
        split at hp
        · cases hp
        · exact hp
    refine{slots:=λs=>?_,blocks:=λb xs hx=>?_,inj:=λp q c hp hq=>hb.inj p q c (hsub p c hp) (hsub q c hq),free:=λp c hp=>hb.free p c (hsub p c hp)}
    · simp only
      rcases ht s with e|e
      · split
        · rename_i e2;rw[e2];exact⟨rfl,trivial⟩
        · rw[e];exact hb.slots s
      · rw[e];exact⟨rfl,trivial⟩
    · rw[hh]at hx;exact hb.blocks b xs hx
  · rcases ht s with e|e
    · rw[e];exact bW.congr hpos (h.al s)
    · rw[e];trivial
theorem Sim.same{g:Gh}{st st':St}{a:Act}{w:World}(h:Sim g st a w)(b:st'.h=st.h)(ht:∀s,look st'.t s=look st.t s):Sim g st' a w:=h.weak b λs=>.inl (ht s)
/-! ### Guards -/
def io(ops:List Oper)(j:Nat):Option Nat:=(ops[j]?).bind (·.dst)
def vt(st:St)(d:Nat)(a:Bool):Option Prop:=
 match look st.t d with
 |.pv (.lit (.bool b))=>some (b=a)
 |.opt c (.pv (.lit (.bool b)))=>some (c∧b=a)
 |_=>none
theorem ow{g:Gh}{st:St}{a:Act}{w:World}(h:Sim g st a w){ops:Array Oper}{o:Oper}{j d:Nat}{l:Bool}(t:o.guard=some (j,l))(hs:io ops.toList j=some d){s:Prop}(m:vt st d l=some s):
 Region.wanted o (yielded ops a.tmps)=true↔s:=by
 have n:(ops[j]?).bind (·.dst)=some d:=by simpa[io]using hs
 obtain⟨u,e⟩:=h.slot d;have k:∀b,a.tmps.getD d undef=.bool b->yielded ops a.tmps j=some b:=by
  intro b f;simp only[yielded,n,Vr];rw[Tg]at f;cases q:a.tmps[d]?with
  |none=>rw[q]at f;cases f
  |some v=>rw[q]at f;simp only[TC]at f;subst f;rfl
 have p:a.tmps.getD d undef=undef->yielded ops a.tmps j=none:=by
  intro f;simp only[yielded,n,Vr];rw[Tg]at f;cases q:a.tmps[d]?with
  |none=>rfl
  |some v=>rw[q]at f;simp only[TC]at f;subst f;rfl
 simp only[Region.wanted,t];unfold vt at m;split at m
 .rename_i b r;cases m
  rw[r]at e;rw[k b e.2];simp
 .rename_i c b r;cases m
  rw[r]at e
  by_cases i:c
  .rw[k b (e.2.2 i).2];simp[i]
  .rw[p (e.2.1 i)];simp[i]
 .cases m
/-! ### Results that are kept frozen -/
def sO:SV->PV
 |.own nw e rows=>.seq nw e rows
 |.omap nw es=>.amap nw es
 |.pv x=>x
 |_=>.bot
theorem Sim.resultF{g:Gh}{st:St}{a:Act}{w w':World}{g':Gh}(h:Sim g st a w){r:SV}{v:Value}{o:Option Nat}(f:PureEnd w w' g')(s:az g' w' r v o)
 (ho:∀c,o=some c->w.heap.size<=c∧g'.I c=none) (hn:r.nwS):∃J,(∀c o,g.I c=some o->J c=some o)∧(∀g3 j,g3.I=g.I->Sim g3 j a w->Sim {g3 with I:=J} j a w'∧g3.to {g3 with I:=J})∧Fit {g with I:=J} (sO r) v:=by
 let J:Nat->Option Obj:=λc=>if o=some c then w'.heap[c]?else g'.I c
 have y:∀c b,J c=some b->w'.heap[c]?=some b:=λc b i=>by
  change(if o=some c then w'.heap[c]?else g'.I c)=some b at i
  split at i
  .exact i
  .exact f.I c b i
 let g2:Gh:={g with I:=λc=>if w.heap.size<=c then J c else g.I c}
 refine⟨g2.I,(h.grown f.env f.size f.keep J y).2.1.I,λg3 j D u=>?_,?_⟩
 .have:=u.grown f.env f.size f.keep J y;rw[D]at this;exact⟨this.1,this.2.1⟩
 have q:∀c b,g'.I c=some b->g'.B<=c->g2.I c=some b:=λc b i E=>by
  show(if w.heap.size<=c then J c else g.I c)=some b;rw[SX (by rw[←f.B];exact E)];show(if o=some c then w'.heap[c]?else g'.I c)=some b;split
  .exact f.I c b i
  .exact i
 have d:g2.B<=g'.B:=by rw[f.B];exact h.B
 have l:∀c,o=some c->g2.I c=w'.heap[c]?:=λc k=>by
  show(if w.heap.size<=c then J c else g.I c)=_;rw[SX (ho c k).1];show(if o=some c then w'.heap[c]?else g'.I c)=_;rw[SX k]
 cases r with
 |pv x=>exact Fit.new (g:=g') q d x v hn s.2
 |own nw e rows=>
  rcases s with⟨_,p,C⟩|⟨c,k,cap,arr,T,vs,m,n,a3,a4,a5,z,A⟩
  .exact⟨none,0,by rw[C,p];rfl,by rw[p];exact SY _,.inl p⟩
  .exact⟨_,cap,m,a4.1,.inr ⟨c,0,arr,T,(0,0),vs,rfl,(l c k).trans n,λt=>TD d (A t),ay.new (g:=g') q d e rows vs hn.2 a5,by simpa using z⟩⟩
 |omap nw es=>
  obtain⟨c,k,en,ck,m,n,a3,a4⟩:=s;exact⟨c,en,ck,m,(l c k).trans n,λt=>TD d (a4.1 t),bD.new (g:=g') q d es _ hn.2 a3,a4.2⟩
 |_=>cases hn
/-! ### An operation under a guard -/
def SV.isFree:SV->Bool
 |.own .. =>false
 |.omap .. =>false
 |_=>true
def HE(P:Program)(st:St)(t:TypeId)(len:Nat)(a:Array (Nat×Operand)):SV×Prop:=
 match bm P t,cZ P t with
 | some e, some _ => (.pv (.seq true e ((je st (a.toList.map (·.2))).map aO)), len * e <= 16777216 ∧ 0 < e ∧ a.toList.map (·.1) = List.range len ∧ nL st (a.toList.map (·.2)) ∧
  ∀y∈je st (a.toList.map (·.2)),(aO y).length=e∧bH (aO y)=true∧(y.one=true∨dm (.pv y)))
 |_,_=>(.pv .bot,False)
def qs(P:Program)(st:St)(o:Op):SV×Prop:=
 match o with
 |.buildSlice t len a=>HE P st t len a
 |o=>pop P st o
def QE(P:Program)(st:St)(o:Op)(r:SV):Prop:=
 match o with
 |.call c=>match c.callee with
  |.value x=>match bC st x with
   |some (f,p,q)=>gc st x∧jP st c.args.toList∧∃R,aj P f (eC (bA st.h 3) p++(Bc 3 st c.args.toList++eC (bA st.h 3) q)) R∧∀a,R a->a.nwS∧r=.pv (sO a)
   |none=>False
  |_=>(pop P st (.call c)).2∧r=(pop P st (.call c)).1
 |o=>(qs P st o).2∧r=(qs P st o).1
theorem NA{P:Program}{st:St}(o:Oper){t:TypeId}{len:Nat}{b:Array (Nat×Operand)}(ho:o.op=.buildSlice t len b){r:SV}(h:(HE P st t len b).2∧r=(HE P st t len b).1){g:Gh}{a:Act}{w:World}(hs:Sim g st a w){K':Act->World->Prop}{Q:Exit->Act->World->Prop}
 (s:∀v J n,(∀c o,g.I c=some o->J c=some o)->(∀g3 d,g3.I=g.I->Sim g3 d a w->Sim {g3 with I:=J} d a n∧g3.to {g3 with I:=J})->az {g with I:=J} n r v none->bW {g with I:=J} st a n r v->K' (a.put o.dst v) n):o.wp P a w K' Q:=by
 obtain⟨h,A⟩:=h;subst A;unfold HE at h s;split at h
 .rename_i e zs k l;obtain⟨h1,E,p,y,z⟩:=h;simp only[k,l]at s;obtain⟨arr,T,C,D,r3⟩:=lU (w:=w) o t len e b zs _ ho k l h1 p (mo hs _ y) z;unfold Oper.wp;rw[D]
  let m:Nat->Option Obj:=λc=>if c=w.heap.size then some (.cells arr.toArray T (0,0))else none
  have j:(w.alloc (.cells arr.toArray T)).heap[w.heap.size]?=some (.cells arr.toArray T (0,0)):=heap_alloc_new w _;have q:∀c o,m c=some o->(w.alloc (.cells arr.toArray T)).heap[c]?=some o:=λc o f=>by
   change(if c=w.heap.size then _ else _)=_ at f
   split at f
   .rename_i x;subst x;rw[j];exact f
   .cases f
  have u:=λ(g3:Gh) d (i:Sim g3 d a w)=>i.grown (w':=w.alloc (.cells arr.toArray T)) rfl (by simp) (λc f=>heap_alloc_old w _ f) m q;refine s _ (λc=>if w.heap.size<=c then m c else g.I c) _ ?_ ?_ ?_ trivial
  .exact(u g st hs).2.1.I
  .intro g3 d p i;have:=u g3 d i;rw[p]at this;exact⟨this.1,this.2.1⟩
  .refine⟨rfl,_,len,by rw[r3],by rw[r3];exact SY _,.inr ⟨w.heap.size,0,arr.toArray,T,(0,0),arr,rfl,?_,λ_=>hs.B,ay.mono ?_ e _ _ C,by simp⟩⟩
   .show(if w.heap.size<=w.heap.size then m w.heap.size else _)=_;rw[SX (SY _)];exact SX rfl
   .exact⟨λc o f=>(u g st hs).2.1.I c o f,SY _,SY _,λ_ _=>rfl⟩
 .exact h.elim
theorem HF{P:Program}{st:St}(o:Oper){r:SV}(h:(pop P st o.op).2∧r=(pop P st o.op).1){g:Gh}{a:Act}{w:World}(hs:Sim g st a w){K':Act->World->Prop}{Q:Exit->Act->World->Prop}
 (k:∀v J e,(∀c o,g.I c=some o->J c=some o)->(∀g3 b,g3.I=g.I->Sim g3 b a w->Sim {g3 with I:=J} b a e∧g3.to {g3 with I:=J})->az {g with I:=J} e r v none->bW {g with I:=J} st a e r v->K' (a.put o.dst v) e):o.wp P a w K' Q:=by
 obtain⟨v,l,i,f⟩:=Hp o g a w hs h.1;rw[←h.2]at i f;unfold Oper.wp;rw[l];exact k v g.I w (λ_ _ h=>h) (λg3 b j d=>by rw[←j];exact⟨d,d.refl_to⟩) i f
theorem HH{P:Program}{st:St}(o:Oper){r:SV}(h:QE P st o.op r){g:Gh}{a:Act}{w:World}(hs:Sim g st a w){K':Act->World->Prop}{Q:Exit->Act->World->Prop}
 (k:∀v J z,(∀c o,g.I c=some o->J c=some o)->(∀g3 y,g3.I=g.I->Sim g3 y a w->Sim {g3 with I:=J} y a z∧g3.to {g3 with I:=J})->az {g with I:=J} z r v none->bW {g with I:=J} st a z r v->K' (a.put o.dst v) z):o.wp P a w K' Q:=by
 cases j:o.op
 case call c=>
  rw[j]at h;simp only[QE]at h;split at h
  .rename_i x d;split at h
   .rename_i f p q B;rw[ou,db,db]at h;obtain⟨h1,K,R,⟨b,O⟩,U⟩:=h;have Y:c={callee:=.value x,args:=c.args,argTypes:=c.argTypes}:=by cases c;simp only at d;rw[d]
    obtain⟨u,v,hx,W,F⟩:=eQ hs h1 B;have H:=lc hs 3;have m:ak (du w) (p.map (la (bA st.h 3))++(c.args.toList.map (vw 3 st)++q.map (la (bA st.h 3)))) (u.toList++(c.args.toList.map a.eval++v.toList)):=by
     refine ak.append ?_ (ak.append (qr hs 3 _ K) ?_)
     .rw[←db];exact ak.frz hs.I H _ _ W
     .rw[←db];exact ak.frz hs.I H _ _ F
    have i:=O w _ m;have l:(u.toList++(c.args.toList.map a.eval++v.toList)).toArray=u++c.args.map a.eval++v:=by
     apply UJ;simp
    rw[l]at i;unfold Oper.wp;have s:(execOp a.eval o).run P w=.ok (.enter f (u++c.args.map a.eval++v)) w:=by
     unfold aF at b;split at b
     case h_2=>cases b
     rename_i fn C;simp only[S9,TU]at b;simp only[execOp,j,resolve,d,hx,Deferred.ofValue,invoke,callFunc,Sem.run_bind,Sem.run_pure,Result.andThen_ok,run_program,C,b.1,b.2,TM,Ul]
    rw[s,Oper.upon_enter];refine i.mono λe w' ⟨val,X,g',Z,V,A,S,T,hin,E⟩=>?_;subst V;obtain⟨D,n⟩:=U X A;obtain⟨J,L,M,N⟩:=hs.resultF S T E D;rw[n]at k;exact k val J w' L M ⟨rfl,N⟩ trivial
   .exact h.elim
  .rename_i d;exact HF o (by rw[j];exact h) hs k
 case buildSlice t len G=>rw[j]at h;exact NA o j h hs k
 all_goals exact HF o (by rw[j]at h⊢;exact h) hs k
end Go.AX
namespace Go.AX
theorem az.undef{g:Gh}{w:World}{c:Prop}(h:¬c)(r:SV):az g w (.opt c r) Go.undef none:=⟨rfl,λ_=>rfl,λa=>absurd a h⟩
theorem az.opt{g:Gh}{w:World}{c:Prop}(h:c){r:SV}{v:Value}(a:az g w r v none):az g w (.opt c r) v none:=⟨rfl,λhn=>absurd h hn,λ_=>a⟩
def SB(P:Program)(st:St)(a:Prop)(o:Op)(d:Option Tmp)(K:St->Prop):Prop:=
 ∃r,(a->QE P st o r)∧K (putD d (.opt a r) st)
def Ot(P:Program)(st:St)(a:Prop)(o:Op)(d:Option Tmp)(K:St->Prop):Prop:=
 (a->(pop P st o).2)∧K (putD d (.opt a (pop P st o).1) st)
def DH(P:Program)(st:St)(a:Prop)(o:Op)(d:Option Tmp)(K:St->Prop):Prop:=
 (a->AE P st o d K)∧(¬a->K (putD d (.opt False (.pv (.lit (.bool false)))) st))
def rY(st:St)(args:Array Operand)(p q:List PV):List PV:=eC (bA st.h 3) p++(Bc 3 st args.toList++eC (bA st.h 3) q)
def bf(P:Program)(st:St)(a:Prop)(f:FuncId)(b:List PV)(d:Option Tmp)(K:St->Prop)(ok:Prop)(x:Operand)(args:Array Operand):Prop:=
 (∃r,(a->aj P f b (λc=>c=r))∧r.nwS∧K (putD d (.opt a (.pv (sO r))) st))∨((a->ai P st ok f b d K x args)∧(¬a->K (putD d (.opt False (.pv (.lit (.bool false)))) st)))
def xa(st:St)(x:Operand)(args:Array Operand):Bool:=
 match bC st x with
 |some (_,p,q)=>pj st args p q
 |none=>false
def DI(P:Program)(st:St)(a:Prop)(x:Operand)(args:Array Operand)(d:Option Tmp)(K:St->Prop):Prop:=
 match bC st x with
 |some (f,p,q)=>(a->gc st x∧jP st args.toList)∧bf P st a f (rY st args p q) d K (nk st args p q) x args
 |none=>False
theorem Lh{P:Program}{st:St}{e:Prop}{c:Call}{x:Operand}{d:Option Tmp}{K:St->Prop}(k:c.callee=.value x)(hp:xa st x c.args=false)(h:DI P st e x c.args d K):SB P st e (.call c) d K∨DH P st e (.call c) d K:=by
 unfold DI at h;unfold xa at hp;split at h
 .rename_i f p q a;rw[a]at hp;obtain⟨h1,⟨r,g,i,l⟩|⟨g,i⟩⟩:=h
  .refine .inl ⟨_,λb=>?_,l⟩;simp only[QE,k,a];exact⟨(h1 b).1,(h1 b).2,_,g b,λm j=>by subst j;exact⟨i,rfl⟩⟩
  .refine .inr ⟨λb=>?_,i⟩;simp only[AE,k,DF,a];have hp:pj st c.args p q=false:=hp;rw[SU (by rw[hp];simp)];exact⟨(h1 b).1,(h1 b).2,g b⟩
 .exact h.elim
theorem bf.intro{P:Program}{st:St}{a:Prop}{f:FuncId}{b:List PV}{d:Option Tmp}{K:St->Prop}{ok:Prop}{x:Operand}{args:Array Operand}{r:SV}(h:a->aj P f b (λe=>e=r))(c:K (putD d (.opt a (.pv (sO r))) st))(hn:r.nwS:=by simp):bf P st a f b d K ok x args:=.inl ⟨r,h,hn,c⟩
theorem bf.introK{P:Program}{st:St}{a:Prop}{f:FuncId}{b:List PV}{d:Option Tmp}{K:St->Prop}{ok:Prop}{x:Operand}{args:Array Operand}(h:a->ai P st ok f b d K x args)(c:¬a->K (putD d (.opt False (.pv (.lit (.bool false)))) st)):bf P st a f b d K ok x args:=.inr ⟨h,c⟩
theorem ai.intro{P:Program}{st:St}{ok:Prop}{f:FuncId}{b:List PV}{d:Option Tmp}{K:St->Prop}{x:Operand}{args:Array Operand}{r:SV}(h:aj P f b (λc=>c=r))(e:K (iI d r st))(hn:r.nwS:=by simp):ai P st ok f b d K x args:=
 .inl ⟨_,h,λc a=>by subst a;exact⟨hn,e⟩⟩
theorem ai.introR{P:Program}{st:St}{ok:Prop}{f:FuncId}{a:List PV}{d:Option Tmp}{K:St->Prop}{x:Operand}{args:Array Operand}{R:SV->Prop}(h:aj P f a R)(b:∀r,R r->r.nwS∧K (iI d r st)):ai P st ok f a d K x args:=.inl ⟨_,h,b⟩
theorem ai.introX{P:Program}{st:St}{ok:Prop}{f:FuncId}{a:List PV}{d:Option Tmp}{K:St->Prop}{x:Operand}{args:Array Operand}(h:bE P st x args d K):ai P st ok f a d K x args:=.inr (.inr h)
theorem bE.introS{P:Program}{st:St}{f:FuncId}{d:Option Tmp}{K:St->Prop}{c:Operand}{args:Array Operand}{q:List PV}{x:Operand}{xs:List Operand}{o:Pos}{lo hi e:Nat}{rows:List (List PV)}{j:List PV}{R:Option Nat->List (List PV)->Prop}
 (h:o8 P f e rows j R) (g:gc st c) (b:bC st c=some (f,[],q)) (n:args.toList=x::xs) (hp:partOf st x=some (o,lo,hi)) (s:gc st x) (r:rz st o=e) (t:((cV st o).take hi).drop lo=rows) (p:bI 0 rows) (u:jP (setPos st o (.pv .bot)) xs)
 (i:Bc 3 (setPos st o (.pv .bot)) xs++eC (bA (setPos st o (.pv .bot)).h 3) q=j)
 (l:∀k a,R k a->a.length=hi -lo->(∀m,k=some m->m<=hi -lo)->K (Fy d k o lo (setPos st o (.own (nP st o) (rz st o) ((cV st o).take lo++a++(cV st o).drop hi))))):bE P st c args d K:=by
 subst r;subst t;subst i;refine vo.x g b ?_;unfold vo;simp only[n,hp];exact⟨s,p,u,R,h,l⟩
theorem ai.introM{P:Program}{st:St}{ok:Prop}{f:FuncId}{b:List PV}{d:Option Tmp}{K:St->Prop}{x:Operand}{args:Array Operand}{R:SV->List (List SV)->Prop}(h:aA P f b st.h R)(c:∀r h',R r h'->K (iI d r ⟨aG eD st.t,h'⟩))(a:ok:=by simp):ai P st ok f b d K x args:=.inr (.inl ⟨a,R,h,c⟩)
def sP(st:St)(x:Operand)(args:Array Operand):Bool:=
 match bC st x with
 |some (_,p,q)=>pj st args p q
 |none=>false
theorem BJ(st:St)(x:Operand)(args:Array Operand):sP st x args=xa st x args:=rfl
def AG(P:Program)(st:St)(a:Prop)(o:Op)(d:Option Tmp)(K:St->Prop):Prop:=
 match o with
 |.alloc t=>DH P st a (.alloc t) d K
 |.box t x=>DH P st a (.box t x) d K
 |.store t x y=>DH P st a (.store t x y) d K
 |.buildSlice t n ps=>DH P st a (.buildSlice t n ps) d K
 |.makeSlice t x y=>DH P st a (.makeSlice t x y) d K
 |.makeMap t r=>DH P st a (.makeMap t r) d K
 |.mapUpdate t m k x=>DH P st a (.mapUpdate t m k x) d K
 |.build t ps=>if wW st ps.toList=true then DH P st a (.build t ps) d K else Ot P st a (.build t ps) d K
 |.call c=>match c.callee with
  |.value x=>if sP st x c.args=true then DH P st a (.call c) d K else DI P st a x c.args d K
  |.builtin .append=>DH P st a (.call c) d K
  |_=>Ot P st a (.call c) d K
 |o=>Ot P st a o d K
def Pg(P:Program)(st:St)(t:TypeId)(a:Array (Nat×Operand))(d:Option Tmp)(K:St->Prop):Prop:=(Bz P st t a).2∧K (putD d (Bz P st t a).1 st)
def K3(P:Program)(ops:List Oper)(st:St)(o:Op)(d:Option Tmp)(K:St->Prop):Prop:=
 match o with
 |.build t a=>if(jg ops d&&wW st a.toList)=true then Pg P st t a d K else AE P st (.build t a) d K
 |o=>AE P st o d K
theorem BK(P:Program)(st:St)(t:TypeId)(a:Array (Nat×Operand)):(Bz P st t a).1.isOwn=false:=by
 unfold Bz;split<;>rfl
theorem NB{P:Program}{ops:List Oper}{st:St}(o:Oper){K:St->Prop}(h:K3 P ops st o.op o.dst K){g:Gh}{a:Act}{w:World}(hs:Sim g st a w)(hd:ca g.N o.dst){K':Act->World->Prop}{Q:Exit->Act->World->Prop}
 (d:∀st' g' e w',K st'->g.to g'->Sim g' st' e w'->K' e w'):o.wp P a w K' Q:=by
 unfold K3 at h;split at h
 .rename_i t b c;split at h
  .obtain⟨h1,f⟩:=h;obtain⟨v,k,j,i⟩:=Le o t b c g a w hs h1;unfold Oper.wp;rw[k];exact d _ g _ w f hs.refl_to (hs.putD hd j i (BK P st t b))
  .exact HD o (by rw[c];exact h) hs hd d
 .exact HD o h hs hd d
def eX(P:Program)(ops:List Oper)(o:Oper)(K:St->Prop)(st:St):Prop:=
 match o.guard with
 |none=>K3 P ops st o.op o.dst K
 |some (j,a)=>match io ops j with
  |some d=>match vt st d a with
   |some b=>AG P st b o.op o.dst K
   |none=>False
  |none=>False
def lj(P:Program)(ops:List Oper)(K:St->Prop):List Oper->St->Prop
 |[],st=>K st
 |o::rest,st=>eX P ops o (lj P ops K rest) st
theorem nl{P:Program}{st:St}{o:Op}(a:∀c x,o=.call c->c.callee≠.value x)(h:(qs P st o).2):QE P st o (qs P st o).1:=by
 cases o with
 |call c=>
  simp only[QE];split
  .rename_i x hx;exact absurd hx (a c x rfl)
  .exact⟨h,rfl⟩
 |_=>exact⟨h,rfl⟩
theorem BM{P:Program}{st:St}{o:Op}(b:∀c x,o=.call c->c.callee≠.value x)(h:(pop P st o).2):QE P st o (pop P st o).1:=by
 cases o with
 |call c=>
  simp only[QE];split
  .rename_i x hx;exact absurd hx (b c x rfl)
  .exact⟨h,trivial⟩
 |buildSlice t len a=>exact h.elim
 |_=>exact⟨h,rfl⟩
theorem HI{P:Program}{st:St}(o:Oper){c:Prop}{K:St->Prop}(h:SB P st c o.op o.dst K){g:Gh}{a:Act}{w:World}(hs:Sim g st a w)(hd:ca g.N o.dst){K':Act->World->Prop}{Q:Exit->Act->World->Prop}
 (f:∀st' g' d w',K st'->g.to g'->Sim g' st' d w'->K' d w'):(c->o.wp P a w K' Q)∧(¬c->K' (a.put o.dst undef) w):=by
 obtain⟨r,h1,e⟩:=h;refine⟨λb=>?_,λb=>f _ g _ w e hs.refl_to (hs.putD hd (az.undef b r) (λl=>absurd l b) rfl)⟩;refine HH o (h1 b) hs λv J m n i k j=>f _ _ _ m e (i g _ rfl hs).2 ((i g _ rfl hs).1.putD hd (az.opt b k) (λ_=>j) rfl)
theorem iK{P:Program}{st:St}(o:Oper){b:Prop}{K:St->Prop}(h:DH P st b o.op o.dst K){g:Gh}{a:Act}{w:World}(hs:Sim g st a w)(hd:ca g.N o.dst){K':Act->World->Prop}{Q:Exit->Act->World->Prop}
 (e:∀st' g' d w',K st'->g.to g'->Sim g' st' d w'->K' d w'):(b->o.wp P a w K' Q)∧(¬b->K' (a.put o.dst undef) w):=
 ⟨λc=>HD o (h.1 c) hs hd e,λc=>e _ g _ w (h.2 c) hs.refl_to (hs.putD hd (az.undef (λh=>h) _) (λf=>f.elim) rfl)⟩
theorem Ph{P:Program}{st:St}(o:Oper){f:Prop}{K:St->Prop}(h:AG P st f o.op o.dst K){g:Gh}{a:Act}{w:World}(hs:Sim g st a w)(hd:ca g.N o.dst){K':Act->World->Prop}{Q:Exit->Act->World->Prop}
 (d:∀st' g' i w',K st'->g.to g'->Sim g' st' i w'->K' i w'):(f->o.wp P a w K' Q)∧(¬f->K' (a.put o.dst undef) w):=by
 have hp:(∀c x,o.op=.call c->c.callee≠.value x)->Ot P st f o.op o.dst K->(f->o.wp P a w K' Q)∧(¬f->K' (a.put o.dst undef) w):=
  λe h=>HI o ⟨(pop P st o.op).1,λj=>BM e (h.1 j),h.2⟩ hs hd d
 cases b:o.op
 case alloc t=>rw[b]at h;exact iK o (by rw[b];exact h) hs hd d
 case box t x=>rw[b]at h;exact iK o (by rw[b];exact h) hs hd d
 case store t x y=>rw[b]at h;exact iK o (by rw[b];exact h) hs hd d
 case buildSlice t n ps=>rw[b]at h;exact iK o (by rw[b];exact h) hs hd d
 case makeSlice t x y=>rw[b]at h;exact iK o (by rw[b];exact h) hs hd d
 case makeMap t r=>rw[b]at h;exact iK o (by rw[b];exact h) hs hd d
 case mapUpdate t m k x=>rw[b]at h;exact iK o (by rw[b];exact h) hs hd d
 case build t ps=>
  rw[b]at h;simp only[AG]at h;split at h
  .exact iK o (by rw[b];exact h) hs hd d
  .exact hp (λc' x e=>by rw[b]at e;cases e) (by rw[b];exact h)
 case call c=>
  rw[b]at h;simp only[AG]at h;split at h
  .rename_i x hx;split at h
   .exact iK o (by rw[b];exact h) hs hd d
   .rename_i hn;rcases Lh hx (by rw[←BJ];simpa using hn) h with h|h
    .exact HI o (by rw[b];exact h) hs hd d
    .exact iK o (by rw[b];exact h) hs hd d
  .exact iK o (by rw[b];exact h) hs hd d
  .rename_i hn _;exact hp (λc' x e hx=>by rw[b]at e;cases e;exact hn x hx) (by rw[b];exact h)
 all_goals (rw[b]at h;exact hp (λc' x e=>by rw[b]at e;cases e) (by rw[b];exact h))
theorem vu{P:Program}{ops:Array Oper}{L:List Oper}(n:∀j d,io L j=some d->io ops.toList j=some d){st:St}(o:Oper){K:St->Prop}(h:eX P L o K st){g:Gh}{a:Act}{w:World}(hs:Sim g st a w)(hd:ca g.N o.dst){K':Act->World->Prop}{Q:Exit->Act->World->Prop}
 (i:∀st' g' f w',K st'->g.to g'->Sim g' st' f w'->K' f w'):if Region.wanted o (yielded ops a.tmps)=true then o.wp P a w K' Q else K' (a.put o.dst undef) w:=by
 unfold eX at h;split at h
 .rename_i b;rw[SX (by simp[Region.wanted,b])];exact NB o h hs hd i
 .rename_i j l b;split at h
  .rename_i d c;split at h
   .rename_i q p;have k:=ow hs b (n _ _ c) p;have:=Ph o h hs hd (Q:=Q) i;split
    .rename_i e;exact this.1 (k.1 e)
    .rename_i e;exact this.2 (λm=>e (k.2 m))
   .exact h.elim
  .exact h.elim
theorem mz{P:Program}{ops:Array Oper}{st:St}(o:Oper){K:St->Prop}(h:eX P ops.toList o K st){g:Gh}{a:Act}{w:World}(hs:Sim g st a w)(hd:ca g.N o.dst){K':Act->World->Prop}{Q:Exit->Act->World->Prop}
 (c:∀st' g' b w',K st'->g.to g'->Sim g' st' b w'->K' b w'):if Region.wanted o (yielded ops a.tmps)=true then o.wp P a w K' Q else K' (a.put o.dst undef) w:=vu (λ_ _ h=>h) o h hs hd c
def cu(N:Nat)(l:List Oper):Bool:=l.all λo=>match o.dst with|some d=>decide (d<N)|none=>true
theorem mA{N:Nat}{o:Oper}{l:List Oper}(h:cu N (o::l)=true):ca N o.dst∧cu N l=true:=by
 simp only[cu,List.all_cons,S9]at h;refine⟨?_,h.2⟩;unfold ca;split
 .rename_i d hd;rw[hd]at h;simpa using h.1
 .trivial
theorem yG{P:Program}{ops:Array Oper}{L:List Oper}(i:∀j d,io L j=some d->io ops.toList j=some d):∀(l:List Oper){st:St}{K:St->Prop}(_:lj P L K l st){g:Gh}{a:Act}{w:World}(_:Sim g st a w)(_:cu g.N l=true){Q:Exit->Act->World->Prop}
 (_:∀st' g' b w',K st'->g.to g'->Sim g' st' b w'->Q .normal b w'),wpList P ops Q l a w
 |[],st,K,h,g,a,w,hs,_,Q,c=>c st g a w h hs.refl_to hs
 |o::rest,st,K,h,g,a,w,hs,hd,Q,c=>by
  obtain⟨h1,n⟩:=mA hd;have:=vu (ops:=ops) i o h hs h1 (Q:=Q) (K':=wpList P ops Q rest)
   (λst' g' b w' hk k s'=>yG i rest hk s' (by rw[k.N];exact n) (λf g2 m s p r q=>c f g2 m s p (k.trans r) q))
  unfold wpList;split
  .rename_i e;rw[SX e]at this;exact .inl this
  .rename_i e;rw[SU e]at this;exact this
theorem DJ{P:Program}{ops:Array Oper}(l:List Oper){st:St}{K:St->Prop}(h:lj P ops.toList K l st){g:Gh}{a:Act}{w:World}(hs:Sim g st a w)(hd:cu g.N l=true){Q:Exit->Act->World->Prop}
 (c:∀st' g' b w',K st'->g.to g'->Sim g' st' b w'->Q .normal b w'):wpList P ops Q l a w:=yG (λ_ _ h=>h) l h hs hd c
end Go.AX
namespace Go.AX
theorem Sim.allocF{g:Gh}{st:St}{a:Act}{w:World}(h:Sim g st a w)(arr:Array Value)(T:TypeId):
 g.F w.heap.size=none∧g.I w.heap.size=none∧Sim {g with F:=λc=>if c=w.heap.size then some (.cells arr T (0,0))else g.F c} st a (w.alloc (.cells arr T)):=by
 obtain⟨bl,i⟩:=h.own;have l:∀{c o},w.heap[c]?=some o->c<w.heap.size:=λG=>(Td.1 G).1;have t:(w.alloc (.cells arr T)).heap[w.heap.size]?=some (.cells arr T (0,0)):=heap_alloc_new w _;have d:∀k,k<w.heap.size->(w.alloc (.cells arr T)).heap[k]?=w.heap[k]?:=λk hk=>heap_alloc_old w _ hk;have A:∀b,b<g.n->g.μ b<w.heap.size:=λb f=>by
  obtain⟨_,_,u,_⟩:=i.blocks b _ (SR (h.n▸f));exact l u
 have y:g.I w.heap.size=none:=(h.fresh i (SY _)).I;have v:g.F w.heap.size=none:=(h.fresh i (SY _)).F;refine⟨v,y,?_⟩
 let g':Gh:={g with F:=λc=>if c=w.heap.size then some (.cells arr T (0,0))else g.F c}
 have hle:g.le g':=⟨λ_ _ h=>h,SY _,SY _,λ_ _=>rfl⟩;have q:∀p c,bl p=some c->(w.alloc (.cells arr T)).heap[c]?=w.heap[c]?:=λp c j=>d c (i.free p c j).2.2.1;have m:∀b k,(aa st (.cell b k)).isOwn=true->b<g.n:=by
  intro b k hp;rw[h.n];apply VK;intro r;simp only[aa,SS,TL r]at hp;simp[SV.isOwn]at hp
 have z:∀p,(aa st p).isOwn=true->aa st p=aa st p∧an g' a (w.alloc (.cells arr T)) p=an g a w p:=by
  intro p hp;refine⟨rfl,?_⟩;cases p with
  |slot s=>rfl
  |cell b k=>simp only[an];rw[d _ (A b (m b k hp))]
 refine{size:=h.size,defs:=h.defs,env:=h.env,n:=h.n,n0:=h.n0,B:=?_,I:=λc o j=>?_,F:=λc o j=>?_,μI:=λb f=>⟨(h.μI b f).1,?_⟩,μinj:=h.μinj,own:=⟨bl,?_⟩,al:=λs=>bW.congr z (h.al s)}
 .have:=h.B;simp only[World.size_alloc];exact WJ this
 .have:=h.I c o j;rw[d c (l this)];exact this
 .change(if c=w.heap.size then some (.cells arr T (0,0))else g.F c)=some o at j
  split at j
  .rename_i e;subst e;rw[t];exact j
  .have:=h.F c o j;rw[d c (l this)];exact this
 .show(if g.μ b=w.heap.size then _ else _)=none;have:=A b f;rw[SU (by omega)];exact(h.μI b f).2
 .refine{slots:=λs=>az.frame hle (q (.slot s)) (i.slots s),blocks:=λb ys hy=>?_,inj:=i.inj,free:=λp c hp=>?_}
  .obtain⟨arr',T',h1,E,u⟩:=i.blocks b ys hy;have f:b<g.n:=by rw[h.n];exact(SQ.1 hy).1
   exact⟨arr',T',by show(w.alloc _).heap[g.μ b]?=_;rw[d _ (A b f)];exact h1,E,λk x hk=>⟨(u k x hk).1,az.frame hle (q (.cell b k)) (u k x hk).2⟩⟩
  .obtain⟨C,D,a3,a4⟩:=i.free p c hp;refine⟨C,?_,by simp only[World.size_alloc];omega,a4⟩;show(if c=w.heap.size then _ else _)=none;rw[SU (by omega)];exact D
theorem Sim.takeF{g:Gh}{st:St}{a:Act}{w:World}(h:Sim g st a w)(xs:List PV)(arr:Array Value)(T:TypeId)(c:Nat)(K:g.F c=some (.cells arr T (0,0)))(L:g.I c=none)(V:ak g xs arr.toList)(J:∀v∈arr.toList,v.oneCell'=true){d:Nat}(hd:d<g.N)(E:a.tmps.getD d undef=.pointer (some ⟨c,0,none⟩)):
 Sim {g with F:=λc'=>if c'=c then none else g.F c',n:=g.n+1,μ:=λb=>if b=g.n then c else g.μ b} ((st.grow (xs.map .pv)).put d (.pv (.ptr st.h.length 0))) a w:=by
 obtain⟨bl,D⟩:=h.own;have R:w.heap[c]?=some (.cells arr T (0,0)):=h.F _ _ K
 let g':Gh:={g with F:=λc'=>if c'=c then none else g.F c',n:=g.n+1,μ:=λb=>if b=g.n then c else g.μ b}
 have hle:g.le g':=⟨λ_ _ h=>h,SY _,Vt _,λb f=>by show(if b=g.n then _ else _)=_;rw[SU (by omega)]⟩;have z:∀b,b<g.n->g.μ b≠c:=λb f e=>by have:=(h.μI b f).2;rw[e,K]at this;cases this
 have Q:∀p,(aa (st.grow (xs.map .pv)) p).isOwn=true->aa (st.grow (xs.map .pv)) p=aa st p∧an g' a w p=an g a w p:=by
  intro p hp;cases p with
  |slot s=>exact⟨rfl,rfl⟩
  |cell b k=>
   simp only[aa,St.grow,SS]at hp⊢;rcases UD b st.h.length with r|r|r
   .rw[SZ r]at hp⊢;refine⟨rfl,?_⟩;have f:b<g.n:=by rw[h.n];exact r
    simp only[an];rw[hle.μ b f]
   .exfalso;rw[r,Tk (SY _)]at hp;simp only[U8,TQ,TC,Tm]at hp;cases hx:xs[k]?with
    |none=>simp[hx,SV.isOwn]at hp
    |some y=>simp[hx,SV.isOwn]at hp
   .exfalso;have hz:(st.h++[xs.map SV.pv])[b]?=none:=TL (by simp only[Ta,Ty,List.length_nil];omega);rw[hz]at hp;simp[SV.isOwn]at hp
 have l:∀p c,(match p with|.cell b _=>if b=g.n then none else bl p|.slot _=>bl p)=some c->bl p=some c:=by
  intro p c hp;cases p with
  |slot s=>exact hp
  |cell b k=>
   have u:(if b=g.n then none else bl (.cell b k))=some c:=hp;split at u
   .cases u
   .exact u
 have hs:Sim g' (st.grow (xs.map .pv)) a w:=by
  refine{size:=h.size,defs:=h.defs,env:=h.env,n:=?_,n0:=TD h.n0 (Vt _),B:=h.B,I:=h.I,F:=λc' o m=>?_,μI:=λb f=>?_,μinj:=λb b' f j t=>?_,own:=⟨λp=>match p with|.cell b _=>if b=g.n then none else bl p|.slot _=>bl p,?_⟩,al:=λs=>bW.congr Q (h.al s)}
  .show g.n+1=_;rw[h.n];simp[St.grow]
  .change(if c'=c then none else g.F c')=some o at m
   split at m
   .cases m
   .exact h.F c' o m
  .show g.I (if b=g.n then _ else _)=none∧(if(if b=g.n then _ else _)=c then none else g.F (if b=g.n then _ else _))=none
   by_cases i:b=g.n
   .rw[SX i,SX rfl];exact⟨L,rfl⟩
   .have j:b<g.n:=by have:b<g.n+1:=f;omega
    rw[SU i,SU (z b j)];exact h.μI b j
  .change(if b=g.n then c else g.μ b)=(if b'=g.n then c else g.μ b')at t
   have h1:b<g.n+1:=f;have S:b'<g.n+1:=j
   by_cases H:b=g.n
   .by_cases C:b'=g.n
    .omega
    .rw[SX H,SU C]at t;exact absurd t.symm (z b' (by omega))
   .by_cases C:b'=g.n
    .rw[SU H,SX C]at t;exact absurd t (z b (by omega))
    .rw[SU H,SU C]at t;exact h.μinj b b' (by omega) (by omega) t
  .refine{slots:=λs=>az.frame hle (λ_ _=>rfl) (D.slots s),blocks:=λb ys hy=>?_,inj:=λp q c hp X=>D.inj p q c (l p c hp) (l q c X),free:=λp c' hp=>?_}
   .simp only[St.grow]at hy
    by_cases r:b<st.h.length
    .rw[SZ r]at hy;have f:b<g.n:=by rw[h.n];exact r
     obtain⟨arr',T',h1,S,U⟩:=D.blocks b ys hy;refine⟨arr',T',by rw[hle.μ b f];exact h1,S,λk x hk=>?_⟩;simp only[SU (Xd f)];exact⟨(U k x hk).1,az.frame hle (λ_ _=>rfl) (U k x hk).2⟩
    .have i:b=st.h.length:=by
      have:=(SQ.1 hy).1;simp at this;omega
     rw[i,Tk (SY _)]at hy;simp only[U8,TQ,TF]at hy;subst hy;have f:b=g.n:=by rw[i,h.n]
     refine⟨arr,T,by show w.heap[if b=g.n then _ else _]?=_;rw[SX f];exact R,⟨by have:=V.length;simpa using this,J⟩,λk x hk=>?_⟩;rw[Tm,Tp]at hk;obtain⟨y,hy,rfl⟩:=hk;obtain⟨v,E,O⟩:=V.get k y hy;simp only[SX f];refine⟨rfl,rfl,?_⟩;have:arr.getD k undef=v:=by
      rw[S4]at E;simp[Tg,E]
     rw[this];exact Fit.mono hle _ _ O
   .have P:=l p c' hp;obtain⟨W,G,a3,a4⟩:=D.free p c' P;have A:c'≠c:=λe=>by rw[e,K]at G;cases G
    refine⟨W,?_,a3,λb f=>?_⟩
    .show(if c'=c then none else g.F c')=none;rw[SU A];exact G
    .show(if b=g.n then c else g.μ b)≠c'
     by_cases i:b=g.n
     .rw[SX i];exactλe=>A e.symm
     .rw[SU i];exact a4 b (by have:b<g.n+1:=f;omega)
 have M:d<a.tmps.size:=by rw[h.size];exact hd
 have:=hs.put (d:=d) (sv:=.pv (.ptr st.h.length 0)) (v:=a.tmps.getD d undef) hd ⟨rfl,by show st.h.length<g.n+1;rw[h.n];omega,by rw[E];show _=Value.pointer (some ⟨if st.h.length=g.n then c else g.μ _,0,none⟩);rw[SX h.n.symm]⟩ trivial rfl;rw[pc M]at this;exact this
/-! ### The blocks that are out -/
def jG(o:Oper):Option (Nat×TypeId):=
 match o.op,o.dst with
 |.alloc t,some d=>some (d,t)
 |_,_=>none
theorem HJ{o:Oper}{d:Nat}{t:TypeId}(h:jG o=some (d,t)):o.dst=some d:=by
 unfold jG at h;split at h
 .rename_i h1 a;cases h;exact a
 .cases h
def FB(P:Program)(K:St->Prop):List Oper->St->Prop
 |[],st=>K st
 |o::r,st=>match jG o with
  |some (d,t)=>match dA P t with
   |some zs=>bH zs=true∧FB P K r ((st.grow (zs.map .pv)).put d (.pv (.ptr st.h.length 0)))
   |none=>False
  |none=>FB P K r st
def zeroOf(P:Program)(t:TypeId)(z:Array Value):Prop:=∃i v,P.info? t=some i∧i.zero=some v∧z=v.cells
theorem yH{P:Program}{t:TypeId}{z:Array Value}(h:zeroOf P t z){zs:List PV}(hz:dA P t=some zs):zs=z.toList.map PV.lit:=by
 obtain⟨i,v,h1,a,rfl⟩:=h;unfold dA at hz;rw[h1]at hz;simp only[a,TZ,TF]at hz;exact hz.symm
structure Out (g0 g:Gh) (a:Act) (cf:Nat->Option (Nat×Array Value×TypeId)):Prop where
  on:∀d c z T,cf d=some (c,z,T)->g.F c=some (.cells z T (0,0))∧g.I c=none∧g0.F c=none∧a.tmps.getD d undef=.pointer (some ⟨c,0,none⟩)
  off:∀c,(∀d z T,cf d≠some (c,z,T))->g.F c=g0.F c
  inj:∀d d' c z T z' T',cf d=some (c,z,T)->cf d'=some (c,z',T')->d=d'
  to:g0.to {g with F:=g0.F}
theorem Out.start{g:Gh}{st:St}{a:Act}{w:World}(hs:Sim g st a w):Out g g a (λ_=>none):=
 ⟨λ_ _ _ _ h=>(by cases h),λ_ _=>rfl,λ_ _ _ _ _ _ _ h=>(by cases h),⟨λ_ _ h=>h,rfl,rfl,rfl,rfl,rfl,hs.n0,λ_ _=>rfl,λ_ _ h=>h⟩⟩
theorem Out.sub{g0 g:Gh}{a:Act}{cf:Nat->Option (Nat×Array Value×TypeId)}(h:Out g0 g a cf){c:Nat}(b:g0.F c≠none):g.F c=g0.F c:=
 h.off c λd z T e=>b (h.on d c z T e).2.2.1
theorem Out.step{g0 g:Gh}{a i:Act}{cf:Nat->Option (Nat×Array Value×TypeId)}(h:Out g0 g a cf){J:Nat->Option Obj}(ht:g.to {g with I:=J})(p:∀d,cf d≠none->i.tmps.getD d undef=a.tmps.getD d undef):Out g0 {g with I:=J} i cf:=by
 refine⟨λd c z T e=>?_,h.off,h.inj,?_⟩
 .obtain⟨h1,j,k,l⟩:=h.on d c z T e;exact⟨h1,ht.FI c (by rw[h1];exactλf=>by cases f) j,k,by rw[p d (by rw[e];exactλf=>by cases f)];exact l⟩
 .exact⟨λc o q=>ht.I c o (h.to.I c o q),rfl,h.to.B,h.to.n0,h.to.N,h.to.env,h.to.n,h.to.μ,λc b m=>ht.FI c (by rw[h.sub b];exact b) (h.to.FI c b m)⟩
theorem Out.alloc{g0 g:Gh}{st:St}{a i:Act}{w:World}{cf:Nat->Option (Nat×Array Value×TypeId)}(h:Out g0 g a cf)(hs:Sim g st a w)(z:Array Value)(T:TypeId){d:Nat}(hd:cf d=none)
 (v:i.tmps.getD d undef=.pointer (some ⟨w.heap.size,0,none⟩)) (t:∀d',d'≠d->i.tmps.getD d' undef=a.tmps.getD d' undef):
 Out g0 {g with F:=λc=>if c=w.heap.size then some (.cells z T (0,0))else g.F c} i (λx=>if x=d then some (w.heap.size,z,T)else cf x):=by
 obtain⟨l,s,_⟩:=hs.allocF z T;have h0:g0.F w.heap.size=none:=by
  cases b:g0.F w.heap.size with
  |none=>rfl
  |some o=>have:=h.sub (c:=w.heap.size) (by rw[b];exactλu=>by cases u);rw[l,b]at this;cases this
 have f:∀x c z T,cf x=some (c,z,T)->c≠w.heap.size:=λx c z T e b=>by
  have:=(h.on x c z T e).1;rw[b,l]at this;cases this
 refine⟨λx c z' T' e=>?_,λc b=>?_,λx m c C y D A e e'=>?_,?_⟩
 .skip
  split at e
  .rename_i hx;subst hx;cases e;exact⟨SX rfl,s,h0,v⟩
  .rename_i hx;obtain⟨h1,p,q,r⟩:=h.on x c z' T' e;exact⟨(SU (f x c z' T' e)).trans h1,p,q,by rw[t x hx];exact r⟩
 .have j:c≠w.heap.size:=λe=>b d z T (by rw[SX rfl,e]);show(if c=w.heap.size then _ else _)=_;rw[SU j];refine h.off c λx z' T' e=>?_
  by_cases hx:x=d
  .rw[hx,hd]at e;cases e
  .exact b x z' T' (by rw[SU hx];exact e)
 .skip
  split at e
  .rename_i hx;cases e;split at e'
   .rename_i k;rw[hx,k]
   .exact absurd rfl (f m _ _ _ e')
  .split at e'
   .cases e';exact absurd rfl (f x _ _ _ e)
   .exact h.inj x m c _ _ _ _ e e'
 .exact⟨h.to.I,rfl,h.to.B,h.to.n0,h.to.N,h.to.env,h.to.n,h.to.μ,h.to.FI⟩
theorem BN{P:Program}{K:St->Prop}{g0:Gh}{a:Act}{w:World}:∀(l:List Oper)(st:St)(g:Gh)(cf:Nat->Option (Nat×Array Value×TypeId)),Out g0 g a cf->Sim g st a w->
 (∀o∈l,∀d t,jG o=some (d,t)->d<g.N∧∃c z,cf d=some (c,z,t)∧zeroOf P t z)->(∀d,cf d≠none->∃o∈l,∃t,jG o=some (d,t))->((l.filterMap jG).map (·.1)).Nodup->FB P K l st->
 ∃g' st',K st'∧g0.to g'∧Sim g' st' a w
 |[],st,g,cf,ho,hs,_,C,_,hk=>by
  have hn:∀d,cf d=none:=λd=>by
   cases h:cf d with
   |none=>rfl
   |some x=>obtain⟨o,h1,_⟩:=C d (by rw[h];exactλhh=>by cases hh);cases h1
  have Z:g.F=g0.F:=funext λc=>ho.off c λd z T e=>by rw[hn d]at e;cases e
  have ht:=ho.to;rw[←Z]at ht;exact⟨g,st,hk,ht,hs⟩
 |o::r,st,g,cf,ho,hs,u,C,i,hk=>by
  unfold FB at hk;split at hk
  .rename_i d t f;split at hk
   .rename_i zs hz;obtain⟨A,hk⟩:=hk;obtain⟨H,c,z,s,Q⟩:=u o (To) d t f;obtain⟨h1,W,X,Y⟩:=ho.on d c z t s;have R:=yH Q hz;subst R;have m:=d5 g z.toList;have M:=hs.takeF (z.toList.map PV.lit) z t c h1 W m (dy A m) H Y;simp only[XP,f,Tn,UA]at i;have y:∀x c' z' T',x≠d->cf x=some (c',z',T')->c'≠c:=λx c' z' T' hx e G=>hx (ho.inj x d c z' T' z t (by rw[←G];exact e) s);refine BN r _ _ (λx=>if x=d then none else cf x) ⟨λx c' z' T' e=>?_,λc' E=>?_,λx x' c' z1 T1 z2 T2 e e'=>?_,?_⟩ M (λp j d' v k=>?_) (λx hx=>?_) i.2 hk
    .skip
     split at e
     .cases e
     .rename_i hx;obtain⟨S,U,V,k4⟩:=ho.on x c' z' T' e;exact⟨(SU (y x c' z' T' hx e)).trans S,U,V,k4⟩
    .show(if c'=c then none else g.F c')=g0.F c';split
     .rename_i e;rw[e,X]
     .rename_i L;refine ho.off c' λx z' T' e=>?_
      by_cases hx:x=d
      .rw[hx,s]at e;cases e;exact L rfl
      .exact E x z' T' (by rw[SU hx];exact e)
    .skip
     split at e
     .cases e
     .split at e'
      .cases e'
      .exact ho.inj x x' c' _ _ _ _ e e'
    .have J:g0.n0<=g.n:=ho.to.n;refine⟨ho.to.I,rfl,ho.to.B,ho.to.n0,ho.to.N,ho.to.env,TD J (Vt _),λb hb=>?_,ho.to.FI⟩;show(if b=g.n then c else g.μ b)=g0.μ b;rw[SU (by omega)];exact ho.to.μ b hb
    .obtain⟨S,c',z',U,V⟩:=u p (Tl _ j) d' v k;refine⟨S,c',z',?_,V⟩;have:d'≠d:=λe=>i.1 (by rw[←e];exact S8.2 ⟨(d',v),List.mem_filterMap.2 ⟨p,j,k⟩,rfl⟩);simp only[SU this];exact U
    .skip
     split at hx
     .exact absurd rfl hx
     .rename_i O;obtain⟨p,D,v,q⟩:=C x hx;rcases Tx.1 D with e|e
      .subst e;rw[f]at q;cases q;exact absurd rfl O
      .exact⟨p,e,v,q⟩
   .exact hk.elim
  .rename_i f;refine BN r st g cf ho hs (λp j=>u p (Tl _ j)) (λd hd=>?_) (by simpa[XP,f]using i) hk;obtain⟨p,D,v,q⟩:=C d hd;rcases Tx.1 D with e|e
   .subst e;rw[f]at q;cases q
   .exact⟨p,e,v,q⟩
theorem sQ{P:Program}{K:St->Prop}:∀(l:List Oper)(st:St),FB P K l st->∀o∈l,∀d t,jG o=some (d,t)->∃zs,dA P t=some zs
 |[],_,_,o,ho,_,_,_=>by cases ho
 |f::r,st,hk,o,ho,d,t,b=>by
  unfold FB at hk;split at hk
  .rename_i c t1 a;split at hk
   .rename_i zs hz;rcases Tx.1 ho with e|e
    .subst e;rw[b]at a;cases a;exact⟨_,hz⟩
    .exact sQ r _ hk.2 o e d t b
   .exact hk.elim
  .rename_i a;rcases Tx.1 ho with e|e
   .subst e;rw[b]at a;cases a
   .exact sQ r _ hk o e d t b
theorem FC{P:Program}{o:Oper}{d:Nat}{t:TypeId}{zs:List PV}(ho:jG o=some (d,t))(hz:dA P t=some zs):o.dst=some d∧∃z,zeroOf P t z∧∀(a:Act)(w:World),(execOp a.eval o).run P w=.ok (.value (.pointer (some ⟨w.heap.size,0,none⟩))) (w.alloc (.cells z t)):=by
 unfold jG at ho;split at ho
 .rename_i e d' b hd;cases ho
  refine⟨hd,?_⟩;unfold dA at hz;split at hz
  .rename_i i hi;simp only[Tp]at hz;obtain⟨v,c,_⟩:=hz;refine⟨v.cells,⟨i,v,hi,c,rfl⟩,λa w=>?_⟩;simp only[execOp,b,Instr.alloc,zeroValue,typeInfo,Sem.run_bind,run_program,Result.andThen_ok,hi,Sem.run_pure,c];simp[newVar,newRow]
  .cases hz
 .cases ho
end Go.AX
namespace Go.AX
def l6:List Nat->Nat->Bool
 |[],_=>false
 |d::a,s=>if d=s then true else l6 a s
theorem pm:∀(a:List Nat)(s:Nat),l6 a s=true↔s∈a
 |[],s=>by simp[l6]
 |d::a,s=>by
  simp only[l6,Tx]
  by_cases h:d=s
  .subst h;simp
  .rw[SU h,pm a s];exact⟨.inr,λh'=>h'.resolve_left (λe=>h e.symm)⟩
/-! ### What an operation looks at -/
def gO:Operand->List Nat
 |.tmp t=>[t]
 |_=>[]
def tmpsOf:List Operand->List Nat
 |[]=>[]
 |x::xs=>gO x++tmpsOf xs
def xb:Option Operand->List Nat
 |some x=>gO x
 |none=>[]
def sR:Op->List Nat
 |.move x|.assign x|.load _ x|.nilCheck x|.unOp _ _ x|.convert _ _ x|.fieldAddr _ x _|.field _ x _|.extract x _=>gO x
 |.pick c a b=>gO c++(gO a++gO b)
 |.build _ ps=>tmpsOf (ps.toList.map (·.2))
 |.buildSlice _ _ ps=>tmpsOf (ps.toList.map (·.2))
 |.binOp _ _ a v _|.indexAddr _ a v|.index _ a v|.lookup _ a v _=>gO a++gO v
 |.slice _ x l h _=>gO x++(xb l++xb h)
 |.call c=>match c.callee with
  |.value x=>gO x++tmpsOf c.args.toList
  |_=>tmpsOf c.args.toList
 |_=>[]
def looks(ops:List Oper)(o:Oper):List Nat:=
 match o.guard with
 |none=>sR o.op
 |some (j,_)=>match io ops j with
  |some d=>d::sR o.op
  |none=>sR o.op
def BO(all:List Oper)(d:Nat):Bool:=all.all λo=>!(sR o.op).contains d
def HK(d:Nat)(o:Oper):Bool:=
 match o.op with
 |.buildSlice _ _ _=>true
 |.build _ _=>true
 |.call c=>match c.callee with
  |.value _=>true
  |.builtin .append=>match c.args.toList with
   |x::_=>!l6 (gO x) d
   |[]=>true
  |_=>true
 |.assign x=>!l6 (gO x) d
 |.store _ _ y=>!l6 (gO y) d
 |.box _ x=>!l6 (gO x) d
 |.mapUpdate _ _ _ x=>!l6 (gO x) d
 |.insert _ _ _ x=>!l6 (gO x) d
 |_=>true
def HL(d:Nat):List Oper->Bool
 |[]=>true
 |o::r=>HK d o&&HL d r
def gI(all:List Oper):List Oper->Nat
 |[]=>0
 |o::r=>match o.op with
  |.assign _=>match o.dst with
   |some d=>if BO all d=true then gI all r+1 else 0
   |none=>0
  |.alloc _=>match o.dst,o.guard with
   |some d,none=>if BO all d=true then gI all r+1 else 0
   |_,_=>0
  |.buildSlice _ _ _=>match o.dst with
   |some d=>if HL d all=true then gI all r+1 else 0
   |none=>0
  |.move _|.load _ _|.nilCheck _|.unOp _ _ _|.convert _ _ _|.fieldAddr _ _ _|.field _ _ _|.extract _ _|.pick _ _ _|.build _ _|.binOp _ _ _ _ _|.indexAddr _ _ _|.index _ _ _|.lookup _ _ _ _|.slice _ _ _ _ _=>gI all r+1
  |.call c=>match c.callee with
   |.value _=>gI all r+1
   |.builtin .len=>gI all r+1
   |.builtin .min=>gI all r+1
   |.builtin .max=>gI all r+1
   |_=>0
  |_=>0
def cg(ops:List Oper):Nat:=gI ops ops
def ji(o:Oper)(j:Nat):Bool:=o.after.toList.any λe=>Region.binds .any e&&e.on==j
def DL(ops:List Oper)(m:Nat):Bool:=
 decide (m<=ops.length)&&
 (List.range ops.length).all (λi=>match ops[i]?with|some o=>o.after.toList.all λe=>!Region.binds .any e||decide (e.on<i)|none=>false)&&
 (List.range m).all (λ i => match ops[i]? with
  |some o=>match o.dst with
   |some d=>(List.range i).all λj=>match(ops[j]?).bind (·.dst)with
    |some dj=>dj !=d&&(!(looks ops o).contains dj||ji o j)
    |none=>false
   |none=>false
  |none=>false)&&
 (m==ops.length||(List.range m).all λi=>(List.range (m+1)).any λj=>decide (i<j)&&match ops[j]?with|some o=>ji o i|none=>false)&&
 (List.range ops.length).all λk=>!decide (m<=k)||match ops[k+1]?with|some o=>ji o k|none=>true
/-! ### The walk of the first operations -/
def M4:List (Nat×SV)->Nat->Option SV
 |[],_=>none
 |(j,v)::r,s=>if j=s then some v else M4 r s
def d9:List Nat->List (Nat×SV)->List (Nat×SV)->List (Nat×SV)
 |[],_,base=>base
 |s::L,acc,base=>match M4 acc s with
  |some v=>(s,v)::d9 L acc base
  |none=>d9 L acc base
def yI(a:List Nat):Pos->Bool
 |.slot s=>a.contains s
 |.cell _ _=>false
def kq(q:Pos->Bool):SV->SV
 |.own _ _ _=>.pv .bot
 |.omap _ _=>.pv .bot
 |.pv x=>.pv x
 |.opt c x=>ct q (.opt c x)
 |.al p=>ct q (.al p)
 |.loc p lo hi=>ct q (.loc p lo hi)
 |.sptr p i k=>ct q (.sptr p i k)
 |.agl xs=>ct q (.agl xs)
theorem sS(q:Pos->Bool)(x:SV):(kq q x).isOwn=false∧(kq q x=.pv .bot∨(kq q x=x∧x.avoids q)):=by
 cases x with
 |own _ _ _=>exact⟨rfl,.inl rfl⟩
 |omap _ _=>exact⟨rfl,.inl rfl⟩
 |pv x=>exact⟨rfl,.inr ⟨rfl,trivial⟩⟩
 |opt c y=>
  refine⟨?_,bs q (.opt c y)⟩;cases h:(kq q (.opt c y)).isOwn with
  |false=>rfl
  |true=>simp only[kq]at h;have:=d4 h;rw[this]at h;cases h
 |al p=>
  refine⟨?_,bs q (.al p)⟩;cases h:(kq q (.al p)).isOwn with
  |false=>rfl
  |true=>simp only[kq]at h;have:=d4 h;rw[this]at h;cases h
 |loc p lo hi=>
  refine⟨?_,bs q (.loc p lo hi)⟩;cases h:(kq q (.loc p lo hi)).isOwn with
  |false=>rfl
  |true=>simp only[kq]at h;have:=d4 h;rw[this]at h;cases h
 |sptr p lo hi=>
  refine⟨?_,bs q (.sptr p lo hi)⟩;cases h:(kq q (.sptr p lo hi)).isOwn with
  |false=>rfl
  |true=>simp only[kq]at h;have:=d4 h;rw[this]at h;cases h
 |agl xs=>
  refine⟨?_,bs q (.agl xs)⟩;cases h:(kq q (.agl xs)).isOwn with
  |false=>rfl
  |true=>simp only[kq]at h;have:=d4 h;rw[this]at h;cases h
def bots(a:List Nat):List (Nat×SV)->List (Nat×SV)
 |[]=>[]
 |(s,v)::t=>if l6 a s=true then bots a t else(s,v)::bots a t
def QG(P:Program)(ops:List Oper)(st:St)(o:Oper)(r:SV):Prop:=
 match o.guard with
 |none=>QE P st o.op r
 |some (j,a)=>match io ops j with
  |some d=>match vt st d a with
   |some b=>∃c,r=.opt b c∧(b->QE P st o.op c)
   |none=>False
  |none=>False
def HG(P:Program)(ops:List Oper)(st:St)(o:Oper)(r:SV):Prop:=
 match jG o with
 |some _=>o.guard=none∧r=.pv .bot
 |none=>QG P ops st o r
def bz(P:Program)(f:FuncId)(a:List PV)(d:Nat)(acc:List (Nat×SV))(k:List (Nat×SV)->Prop):Prop:=
 ∃r,aj P f a (λb=>b=r)∧r.nwS∧k ((d,.pv (sO r))::acc)
def ea(P:Program)(a:Prop)(f:FuncId)(b:List PV)(q:Pos->Bool)(d:Nat)(acc:List (Nat×SV))(k:List (Nat×SV)->Prop):Prop:=
 ∃r,(a->aj P f b (λc=>c=r))∧r.nwS∧k ((d,kq q (.opt a (.pv (sO r))))::acc)
theorem bz.intro{P:Program}{f:FuncId}{a:List PV}{d:Nat}{acc:List (Nat×SV)}{k:List (Nat×SV)->Prop}{r:SV}(h:aj P f a (λc=>c=r))(b:k ((d,.pv (sO r))::acc))(hn:r.nwS:=by simp):bz P f a d acc k:=⟨r,h,hn,b⟩
theorem ea.intro{P:Program}{a:Prop}{f:FuncId}{b:List PV}{q:Pos->Bool}{d:Nat}{acc:List (Nat×SV)}{k:List (Nat×SV)->Prop}{r:SV}(h:a->aj P f b (λe=>e=r))(c:k ((d,kq q (.opt a (.pv (sO r))))::acc))(hn:r.nwS:=by simp):ea P a f b q d acc k:=⟨r,h,hn,c⟩
def xc(P:Program)(st:St)(x:Operand)(args:Array Operand)(d:Nat)(acc:List (Nat×SV))(k:List (Nat×SV)->Prop):Prop:=
 match bC st x with
 |some (f,p,q)=>gc st x∧jP st args.toList∧bz P f (rY st args p q) d acc k
 |none=>False
def DM(P:Program)(st:St)(a:Prop)(x:Operand)(args:Array Operand)(b:Pos->Bool)(d:Nat)(acc:List (Nat×SV))(k:List (Nat×SV)->Prop):Prop:=
 match bC st x with
 |some (f,p,q)=>(a->gc st x∧jP st args.toList)∧ea P a f (rY st args p q) b d acc k
 |none=>False
theorem FD{P:Program}{st:St}{c:Call}{x:Operand}{d:Nat}{acc:List (Nat×SV)}{k:List (Nat×SV)->Prop}(q:Pos->Bool)(j:c.callee=.value x)(h:xc P st x c.args d acc k):∃r,QE P st (.call c) r∧k ((d,kq q r)::acc):=by
 unfold xc at h;split at h
 .rename_i f p q' a;obtain⟨h0,h1,r,e,g,i⟩:=h;refine⟨.pv (sO r),?_,i⟩;simp only[QE,j,a];exact⟨h0,h1,_,e,λl b=>by subst b;exact⟨g,rfl⟩⟩
 .exact h.elim
theorem HM{P:Program}{st:St}{a:Prop}{c:Call}{x:Operand}{q:Pos->Bool}{d:Nat}{acc:List (Nat×SV)}{k:List (Nat×SV)->Prop}(m:c.callee=.value x)(h:DM P st a x c.args q d acc k):∃r,(a->QE P st (.call c) r)∧k ((d,kq q (.opt a r))::acc):=by
 unfold DM at h;split at h
 .rename_i f p q' b;obtain⟨h1,r,i,j,l⟩:=h;refine⟨.pv (sO r),λe=>?_,l⟩;simp only[QE,m,b];exact⟨(h1 e).1,(h1 e).2,_,i e,λn g=>by subst g;exact⟨j,rfl⟩⟩
 .exact h.elim
def Rd(P:Program)(ops:List Oper)(q:Pos->Bool)(base:St)(o:Oper)(k:List (Nat×SV)->Prop)(acc:List (Nat×SV)):Prop:=
  match o.dst with
    |none=>False
    |some d=>match jG o with
     |some _=>o.guard=none∧k ((d,.pv .bot)::acc)
     |none=>match o.guard with
      |none=>match o.op with
        |.call c=>match c.callee with
          |.value x=>xc P ⟨d9 (looks ops o) acc base.t,base.h⟩ x c.args d acc k
          |_=>(qs P ⟨d9 (looks ops o) acc base.t,base.h⟩ (.call c)).2∧k ((d,kq q (qs P ⟨d9 (looks ops o) acc base.t,base.h⟩ (.call c)).1)::acc)
        |op=>(qs P ⟨d9 (looks ops o) acc base.t,base.h⟩ op).2∧k ((d,kq q (qs P ⟨d9 (looks ops o) acc base.t,base.h⟩ op).1)::acc)
      |some (j,b)=>match io ops j with
        |some dj=>match vt ⟨d9 (looks ops o) acc base.t,base.h⟩ dj b with
          |some a=>match o.op with
            |.call c=>match c.callee with
              |.value x=>DM P ⟨d9 (looks ops o) acc base.t,base.h⟩ a x c.args q d acc k
              |_=>(a->(qs P ⟨d9 (looks ops o) acc base.t,base.h⟩ (.call c)).2)∧k ((d,kq q (.opt a (qs P ⟨d9 (looks ops o) acc base.t,base.h⟩ (.call c)).1))::acc)
            |op=>(a->(qs P ⟨d9 (looks ops o) acc base.t,base.h⟩ op).2)∧k ((d,kq q (.opt a (qs P ⟨d9 (looks ops o) acc base.t,base.h⟩ op).1))::acc)
          |none=>False
        |none=>False
def AQ(P:Program)(ops:List Oper)(q:Pos->Bool)(base:St)(K:List (Nat×SV)->Prop):List Oper->List (Nat×SV)->Prop
 |[],acc=>K acc
 |o::rest,acc=>Rd P ops q base o (AQ P ops q base K rest) acc
def dstsOf(l:List Oper):List Nat:=l.filterMap (·.dst)
def BP(P:Program)(ops:List Oper)(K:St->Prop)(base:St)(acc:List (Nat×SV)):Prop:=
 FB P (lj P ops K (ops.drop (cg ops))) (ops.take (cg ops)) ⟨acc++base.t,base.h⟩
def yJ(P:Program)(ops:List Oper)(K:St->Prop)(st:St):Prop:=
 AQ P ops (yI (dstsOf (ops.take (cg ops)))) ⟨bots (dstsOf (ops.take (cg ops))) (aG (yI (dstsOf (ops.take (cg ops)))) st.t),st.h⟩
  (BP P ops K ⟨bots (dstsOf (ops.take (cg ops))) (aG (yI (dstsOf (ops.take (cg ops)))) st.t),st.h⟩) (ops.take (cg ops)) []
theorem Li{P:Program}{ops:List Oper}{q:Pos->Bool}{base:St}{K:List (Nat×SV)->Prop}{o:Oper}{rest:List Oper}{acc:List (Nat×SV)}(h:AQ P ops q base K (o::rest) acc):
 ∃d r,o.dst=some d∧HG P ops ⟨d9 (looks ops o) acc base.t,base.h⟩ o r∧AQ P ops q base K rest ((d,kq q r)::acc):=by
 unfold AQ Rd at h;split at h
 .exact h.elim
 .rename_i d hd;generalize m:(⟨d9 (looks ops o) acc base.t,base.h⟩:St)=n at h⊢;split at h
  .rename_i e;exact⟨d,.pv .bot,hd,by simp only[HG,e];exact⟨h.1,trivial⟩,h.2⟩
  rename_i e;simp only[HG,e];split at h
  .rename_i i;simp only[QG,i];split at h
   .rename_i c a;split at h
    .rename_i x hx;obtain⟨r,h1,f⟩:=FD q hx h;exact⟨d,r,hd,by rw[a];exact h1,f⟩
    .rename_i hn;exact⟨d,_,hd,by rw[a];exact nl (λc' x b hx=>by cases b;exact hn x hx) h.1,h.2⟩
   .rename_i hn;exact⟨d,_,hd,nl (λc' x b _=>hn c' b) h.1,h.2⟩
  .rename_i j l i;split at h
   .rename_i dj k;split at h
    .rename_i p b;simp only[QG,i,k,b];split at h
     .rename_i c a;split at h
      .rename_i x hx;obtain⟨r,h1,f⟩:=HM hx h;exact⟨d,_,hd,⟨r,rfl,by rw[a];exact h1⟩,f⟩
      .rename_i hn;exact⟨d,_,hd,⟨_,rfl,λg=>by rw[a];exact nl (λc' x b hx=>by cases b;exact hn x hx) (h.1 g)⟩,h.2⟩
     .rename_i hn;exact⟨d,_,hd,⟨_,rfl,λg=>nl (λc' x b _=>hn c' b) (h.1 g)⟩,h.2⟩
    .exact h.elim
   .exact h.elim
theorem HN{P:Program}{ops:List Oper}{q:Pos->Bool}{base:St}{K:List (Nat×SV)->Prop}:∀(l:List Oper)(acc:List (Nat×SV)),AQ P ops q base K l acc->
 ∃E:List (Nat×SV),E.length=l.length∧K (E.reverse++acc)∧∀i o,l[i]?=some o->∃d r,o.dst=some d∧E[i]?=some (d,kq q r)∧HG P ops ⟨d9 (looks ops o) ((E.take i).reverse++acc) base.t,base.h⟩ o r
 |[],acc,h=>⟨[],rfl,h,λi o ho=>by simp at ho⟩
 |o::rest,acc,h=>by
  obtain⟨d,r,hd,g,j⟩:=Li h;obtain⟨E,h1,e,f⟩:=HN rest _ j;refine⟨(d,kq q r)::E,by simp[h1],by simpa using e,λi k ho=>?_⟩;cases i with
  |zero=>simp at ho;subst ho;exact⟨d,r,hd,rfl,by simpa using g⟩
  |succ i=>
   obtain⟨d',m,a,b,c⟩:=f i k (by simpa using ho);exact⟨d',m,a,by simpa using b,by simpa using c⟩
theorem Pi{P:Program}{ops:Array Oper}{st:St}(o:Oper){r:SV}(h:QG P ops.toList st o r){g:Gh}{a:Act}{w:World}(hs:Sim g st a w){K':Act->World->Prop}{Q:Exit->Act->World->Prop}
 (k:∀v J f,(∀c o,g.I c=some o->J c=some o)->(∀g3 e,g3.I=g.I->Sim g3 e a w->Sim {g3 with I:=J} e a f∧g3.to {g3 with I:=J})->az {g with I:=J} f r v none->bW {g with I:=J} st a f r v->K' (a.put o.dst v) f):
 if Region.wanted o (yielded ops a.tmps)=true then o.wp P a w K' Q else K' (a.put o.dst undef) w:=by
 unfold QG at h;split at h
 .rename_i m;rw[SX (by simp[Region.wanted,m])];exact HH o h hs k
 .rename_i j s m;split at h
  .rename_i d n;split at h
   .rename_i t l;obtain⟨z,rfl,h⟩:=h;have q:=ow hs m n l;split
    .rename_i p;have b:=q.1 p;exact HH o (h b) hs λv J f B A x u=>k v J f B A (az.opt b x) (λ_=>u)
    .rename_i p;have b:¬t:=λb=>p (q.2 b);exact k undef g.I w (λ_ _ h=>h) (λg3 e y i=>by rw[←y];exact⟨i,i.refl_to⟩) (az.undef b z) (λl=>absurd l b)
   .exact h.elim
  .exact h.elim
theorem yK{s:Nat}{v:SV}:∀(acc base:List (Nat×SV)),M4 acc s=some v->look (acc++base) s=v
 |[],_,h=>by cases h
 |(j,x)::r,base,h=>by
  simp only[M4]at h;simp only[TP,look];split at h
  .rename_i e;rw[SX e];cases h;rfl
  .rename_i e;rw[SU e];exact yK r base h
theorem yL{s:Nat}:∀(acc base:List (Nat×SV)),M4 acc s=none->look (acc++base) s=look base s
 |[],_,_=>rfl
 |(j,x)::r,base,h=>by
  simp only[M4]at h;simp only[TP,look];split at h
  .cases h
  .rename_i e;rw[SU e];exact yL r base h
theorem ox:∀(L:List Nat)(acc base:List (Nat×SV))(s:Nat),look (d9 L acc base) s=if L.contains s=true then look (acc++base) s else look base s
 |[],acc,base,s=>by simp[d9]
 |j::L,acc,base,s=>by
  have f:=ox L acc base s;have b:(j::L).contains s=true↔s=j∨L.contains s=true:=by simp
  simp only[d9];cases d:M4 acc j with
  |some v=>
   simp only[look]
   by_cases h:j=s
   .subst h;rw[SX rfl,SX (b.2 (.inl rfl)),yK acc base d]
   .rw[SU h,f]
    by_cases a:L.contains s=true
    .rw[SX a,SX (b.2 (.inr a))]
    .rw[SU a,SU (λc=>(b.1 c).elim (λe=>h e.symm) a)]
  |none=>
   simp only[];rw[f]
   by_cases h:j=s
   .subst h;rw[SX (b.2 (.inl rfl)),yL acc base d,ite_self]
   .by_cases a:L.contains s=true
    .rw[SX a,SX (b.2 (.inr a))]
    .rw[SU a,SU (λc=>(b.1 c).elim (λe=>h e.symm) a)]
theorem nm(a:List Nat):∀(t:List (Nat×SV))(s:Nat),look (bots a t) s=if s∈a then .pv .bot else look t s
 |[],s=>by simp[bots,look]
 |(j,v)::t,s=>by
  have b:=nm a t s;simp only[bots];split
  .rename_i h;rw[b];simp only[look]
   by_cases e:j=s
   .subst e;rw[SX ((pm a j).1 h),SX ((pm a j).1 h)]
   .rw[SU e]
  .rename_i h;simp only[look]
   by_cases e:j=s
   .subst e;rw[SX rfl,SU (λc=>h ((pm a j).2 c)),SX rfl]
   .rw[SU e,SU e,b]
/-! ### What the check says -/
structure DrawOk (l:List Oper) (m:Nat):Prop where
  le:m<=l.length
  back:∀(i:Nat)(o:Oper),l[i]?=some o->∀e∈o.after,Region.binds .any e=true->e.on<i
  dst:∀(i:Nat)(o:Oper),i<m->l[i]?=some o->∃d,o.dst=some d∧∀(j:Nat)(oj:Oper),j<i->l[j]?=some oj->∃dj,oj.dst=some dj∧dj≠d∧(dj∈looks l o->ji o j=true)
  up:m<l.length->∀i,i<m->∃j o,i<j∧j<=m∧l[j]?=some o∧ji o i=true
  chain:∀(k:Nat)(o:Oper),m<=k->l[k+1]?=some o->ji o k=true
theorem HP{l:List Oper}{m:Nat}(h:DL l m=true):DrawOk l m:=by
 simp only[DL,S9,TE,Ug,Um,Vy,TU,UL,WG]at h;obtain⟨⟨⟨⟨h1,s⟩,t⟩,f⟩,u⟩:=h;have c:∀{i:Nat}{o:Oper},l[i]?=some o->i<l.length:=λw=>(SQ.1 w).1;refine⟨h1,λi o ho e v q=>?_,λi o hi ho=>?_,λr i hi=>?_,λk o hk ho=>?_⟩
 .have:=s i (c ho);rw[ho]at this;simp only[TE,Um,TU,Vy]at this;rcases this e (by simpa using v)with a|a
  .rw[a]at q;cases q
  .exact a
 .have:=t i hi;rw[ho]at this;simp only at this;split at this
  .rename_i d hd;refine⟨d,hd,λj oj hj p=>?_⟩;simp only[TE,Ug]at this;have a:=this j hj;rw[p]at a;simp only[Vr]at a;split at a
   .rename_i dj g;simp only[S9,bne_iff_ne,Um,TU,List.contains_eq_mem,Un]at a;exact⟨dj,g,a.1,λr=>a.2.resolve_left (λhn=>hn r)⟩
   .cases a
  .cases this
 .rcases f with f|f
  .omega
  .obtain⟨j,x,n,b⟩:=f i hi;split at b
   .rename_i o ho;exact⟨j,o,n,by omega,ho,b⟩
   .cases b
 .rcases u k (by have:=c ho;omega)with a|a
  .have y:=of_decide_eq_false a;omega
  .rw[ho]at a;exact a
theorem jj{o:Oper}{j:Nat}:ji o j=true↔∃e∈o.after,Region.binds .any e=true∧e.on=j:=by
 simp only[ji,UL,S9,WG];constructor
 .rintro⟨e,h1,a⟩;exact⟨e,by simpa using h1,a⟩
 .rintro⟨e,h1,a⟩;exact⟨e,by simpa using h1,a⟩
/-! ### How many are to come -/
def l7:List Bool->Nat
 |[]=>0
 |true::r=>l7 r
 |false::r=>l7 r+1
theorem yM:∀(l:List Bool)(i:Nat),l[i]?=some false->l7 (l.set i true)+1=l7 l
 |[],i,h=>by simp at h
 |b::r,0,h=>by simp at h;subst h;rfl
 |b::r,i+1,h=>by
  have:=yM r i (by simpa using h);cases b<;>simp[l7,this]
theorem yN:∀(l:List Bool),0<l7 l->∃i:Nat,l[i]?=some false∧∀j<i,l[j]?=some true
 |[],h=>by simp[l7]at h
 |false::r,_=>⟨0,rfl,λj hj=>by omega⟩
 |true::r,h=>by
  obtain⟨i,h1,a⟩:=yN r (by simpa[l7]using h);refine⟨i+1,by simpa using h1,λj hj=>?_⟩;cases j with
  |zero=>rfl
  |succ j=>simpa using a j (by omega)
theorem vv:∀(l:List Bool),l7 l=0->∀i:Nat,i<l.length->l[i]?=some true
 |[],_,i,hi=>by simp at hi
 |false::r,h,_,_=>by simp[l7]at h
 |true::r,h,0,_=>rfl
 |true::r,h,i+1,hi=>by simpa using vv r (by simpa[l7]using h) i (by simpa using hi)
theorem mB:∀n,l7 (List.replicate n false)=n
 |0=>rfl
 |n+1=>by simp[Wr,l7,mB n]
end Go.AX
namespace Go.AX
theorem fu{s:Nat}{v:SV}:∀(l t:List (Nat×SV)),(l.map (·.1)).Nodup->(s,v)∈l->look (l++t) s=v
 |[],_,_,h=>by simp at h
 |(j,u)::r,t,hn,h=>by
  simp only[Tn,UA]at hn;simp only[TP,look];rcases Tx.1 h with e|e
  .cases e;simp
  .have:j≠s:=λa=>hn.1 (by subst a;exact S8.2 ⟨_,e,rfl⟩);rw[SU this,fu r t hn.2 e]
theorem bY{s:Nat}:∀(l t:List (Nat×SV)),s∉l.map (·.1)->look (l++t) s=look t s
 |[],_,_=>rfl
 |(j,u)::r,t,h=>by
  simp only[Tn,Tx,Xy]at h;simp only[TP,look];rw[SU (λe=>h.1 e.symm),bY r t h.2]
theorem oy:∀(l:List Bool)(k:Nat),k<=l.length->(∀j:Nat,j<k->l[j]?=some true)->(∀j:Nat,k<=j->j<l.length->l[j]?=some false)->k+l7 l=l.length
 |[],k,hk,_,_=>by simp at hk;subst hk;rfl
 |b::r,0,_,_,a=>by
  have:=a 0 (SY _) (by simp);simp at this;subst this;have:=oy r 0 (Tf _) (λj hj=>by omega) (λj _ hj=>by simpa using a (j+1) (by omega) (by simpa using hj));simp[l7];omega
 |b::r,k+1,hk,h1,a=>by
  have:=h1 0 (by omega);simp at this;subst this;have:=oy r k (by simpa using hk) (λj hj=>by simpa using h1 (j+1) (by omega)) (λj c hj=>by simpa using a (j+1) (by omega) (by simpa using hj));simp[l7];omega
structure Inv (E:List (Nat×SV)) (base:List (Nat×SV)) (S:Nat->Bool) (t:List (Nat×SV)):Prop where
  on:∀(i:Nat)(d:Nat)(v:SV),E[i]?=some (d,v)->look t d=if S i=true then v else .pv .bot
  off:∀s,s∉E.map (·.1)->look t s=look base s
theorem yO{P:Program}{ops:Array Oper}{m:Nat}(B:DrawOk ops.toList m){Q:Exit->Act->World->Prop}{K:St->Prop}:∀(rest:List Oper)(k f:Nat)(b:Array Bool)(st:St)(g:Gh)(a:Act)(w:World),
 rest=ops.toList.drop k->m<=k->k+f=ops.size->b.size=ops.size->(∀j,j<k->b[j]?=some true)->(∀j,k<=j->j<ops.size->b[j]?=some false)->
 lj P ops.toList K rest st->Sim g st a w->cu g.N ops.toList=true->(∀st' g' y w',K st'->g.to g'->Sim g' st' y w'->Q .normal y w')->wpAny P .any ops Q f b a w
 |rest,k,0,b,st,g,a,w,x,U,S,n,h1,q,r,hs,hd,z=>by
  have u:rest=[]:=by rw[x];apply Tq;simp;omega
  subst u;refine⟨?_,z st g a w r hs.refl_to hs⟩;rw[VZ];intro i hi;obtain⟨A,o,ho,_⟩:=mem_ready.1 hi;have L:=(Td.1 ho).1;have:=h1 i (by omega);simp[this]at A
 |[],k,f+1,b,st,g,a,w,x,U,S,n,h1,q,r,hs,hd,z=>by
  have:=List.drop_eq_nil_iff.1 x.symm;simp at this;omega
 |o::rest,k,f+1,b,st,g,a,w,x,U,S,n,h1,q,r,hs,hd,z=>by
  have hk:k<ops.size:=by omega
  have c:=TG (l:=ops.toList) (i:=k) (by simpa using hk);rw[←x]at c;simp only[Vi]at c;have p:ops[k]?=some o:=by rw[c.1];simp[hk]
  have t:o∈ops.toList:=by rw[c.1];exact S5 _
  have E:ca g.N o.dst:=by
   have:=TE.1 hd o t;unfold ca;split
   .rename_i d D;rw[D]at this;simpa using this
   .trivial
  have h:k∈Region.ready .any ops b:=by
   rw[mem_ready];refine⟨by simp[q k (SY _) hk],o,p,λe F C=>?_⟩;have:=B.back k o (by simpa using p) e F C;simp[h1 _ this]
  refine⟨λhn=>(by rw[hn]at h;cases h),λi hi=>?_⟩;have H:i=k:=by
   obtain⟨A,Y,v,s⟩:=mem_ready.1 hi;have L:=(Td.1 v).1;have G:k<=i:=by
    apply UF;intro T;simp[h1 i T]at A
   apply Xz _ G;apply UF;intro T;obtain⟨e,F,C,M⟩:=jj.1 (B.chain (i -1) Y (by omega) (by rw[Nat.sub_add_cancel (by omega)];simpa using v));have:=s e F C;rw[M,Tg,q (i -1) (by omega) (by omega)]at this;cases this
  subst H;unfold wpOp;rw[p];simp only[lj]at r;have:=mz (ops:=ops) o r hs E (Q:=Q) (K':=wpAny P .any ops Q f (b.setIfInBounds i true))
   (λ st' g' y w' J V s' => yO B rest (i + 1) f _ st' g' y w' c.2 (by omega) (by omega) (by simp [n])
    (λ j hj => by
     rw[T6];split
     .rename_i e;rw[SX (by rw[n];omega)]
     .exact h1 j (by omega))
    (λ j hj I => by
     rw[T6,SU (by omega)];exact q j (by omega) I)
    J s' (by rw[V.N];exact hd) (λR g2 W w2 X t2 Z=>z R g2 W w2 X (V.trans t2) Z))
  simp only;split
  .rename_i O;rw[SX O]at this;exact .inl this
  .rename_i O;rw[SU O]at this;exact this
theorem nQ{α:Type}{l:List α}(h:l.Nodup):l.reverse.Nodup:=by
 unfold List.Nodup at*;rw[List.pairwise_reverse];exact h.imp (λa e=>a e.symm)
theorem ra{α:Type}{l:List α}(h:l.Nodup){i j:Nat}{x:α}(hi:l[i]?=some x)(hj:l[j]?=some x):i=j:=by
 obtain⟨h1,c⟩:=SQ.1 hi;obtain⟨d,e⟩:=SQ.1 hj;unfold List.Nodup at h;rw[TB]at h;rcases UD i j with b|heq|a
 .exact absurd (c.trans e.symm) (h i j h1 d b)
 .exact heq
 .exact absurd (e.trans c.symm) (h j i d h1 a)
theorem HQ{P:Program}{ops:Array Oper}{m:Nat}(hB:DrawOk ops.toList m){Q:Exit->Act->World->Prop}{K:St->Prop}{base:St}{E:List (Nat×SV)}{q:Pos->Bool}
 (aV:E.length=m) (ar:(E.map (·.1)).Nodup) (hq:∀s,q (.slot s)=true↔s∈E.map (·.1)) (af:∀s,s∈E.map (·.1)->look base.t s=.pv .bot)
 (hE:∀i o,i<m->ops[i]?=some o->∃d r,o.dst=some d∧E[i]?=some (d,kq q r)∧HG P ops.toList ⟨d9 (looks ops.toList o) (E.take i).reverse base.t,base.h⟩ o r)
 (hA:FB P (lj P ops.toList K (ops.toList.drop m)) (ops.toList.take m) ⟨E.reverse++base.t,base.h⟩) {g0:Gh} (hQ:∀st' g' a' w',K st'->g0.to g'->Sim g' st' a' w'->Q .normal a' w'):
 ∀(l:Nat)(f:Array Bool)(t:List (Nat×SV))(cf:Nat->Option (Nat×Array Value×TypeId))(g:Gh)(a:Act)(w:World),Out g0 g a cf->(∀(i:Nat)(o:Oper) d t,f[i]?=some true->ops[i]?=some o->jG o=some (d,t)->∃c z,cf d=some (c,z,t)∧zeroOf P t z)->(∀d,cf d≠none->∃(i:Nat)(o:Oper),∃t,f[i]?=some true∧ops[i]?=some o∧jG o=some (d,t))->f.size=ops.size->l7 f.toList=l->(∀i:Nat,f[i]?=some true->i<m)->
  (∀(i:Nat)(o:Oper),f[i]?=some true->ops[i]?=some o->∀e∈o.after,Region.binds .any e=true->f[e.on]?=some true)->Inv E base.t (λi=>f.getD i false) t->Sim g ⟨t,base.h⟩ a w->
  cu g.N ops.toList=true->wpAny P .any ops Q l f a w:=by
 have ba:m<=ops.size:=by simpa using hB.le
 have aG:∀{f:Array Bool}{t:List (Nat×SV)},(∀i,i<m->f[i]?=some true)->Inv E base.t (λi=>f.getD i false) t->∀s,look (E.reverse++base.t) s=look t s:=by
  intro f t hl Y s;have hn:((E.reverse).map (·.1)).Nodup:=by rw[Wp];exact nQ ar
  by_cases hm:s∈E.map (·.1)
  .obtain⟨p,hp,D⟩:=S8.1 hm;obtain⟨d,v⟩:=p;simp only at D;subst D;rw[fu _ _ hn (Wq.2 hp)];obtain⟨i,hi⟩:=UN.1 hp;have:=Y.on i d v hi;rw[this];have W:i<m:=by rw[←aV];exact(SQ.1 hi).1
   simp[hl i W]
  .rw[bY _ _ (by rw[Wp,Wq];exact hm)];exact(Y.off s hm).symm
 have R:∀{o:Oper}{d:Nat}{t:TypeId},jG o=some (d,t)->o.dst=some d:=λh=>HJ h;have bc:(((ops.toList.take m).filterMap jG).map (·.1)).Nodup:=by
  unfold List.Nodup;rw[Ux,List.pairwise_filterMap,TB];intro i j hi hj a5 p hp p' bd;have a3:i<m:=by simp at hi;omega
  have aK:j<m:=by simp at hj;omega
  obtain⟨d,h1,O⟩:=hB.dst j _ aK (by rw[←Vk aK];exact SR hj);obtain⟨d',M,h4,_⟩:=O i _ a5 (by rw[←Vk a3];exact SR hi);rw[R bd]at h1;cases h1;rw[R hp]at M;cases M;exact h4
 have av:∀{f:Array Bool}{t:List (Nat×SV)}{cf:Nat->Option (Nat×Array Value×TypeId)}{g:Gh}{a:Act}{w:World},Out g0 g a cf->(∀(i:Nat)(o:Oper) d t,f[i]?=some true->ops[i]?=some o->jG o=some (d,t)->∃c z,cf d=some (c,z,t)∧zeroOf P t z)->(∀d,cf d≠none->∃(i:Nat)(o:Oper),∃t,f[i]?=some true∧ops[i]?=some o∧jG o=some (d,t))->
  (∀i,i<m->f[i]?=some true)->(∀i:Nat,f[i]?=some true->i<m)->Inv E base.t (λi=>f.getD i false) t->Sim g ⟨t,base.h⟩ a w->cu g.N ops.toList=true->∃g' st',lj P ops.toList K (ops.toList.drop m) st'∧g0.to g'∧Sim g' st' a w:=by
  intro f t cf g a w A u y hl G Y hs hd;refine BN (ops.toList.take m) ⟨E.reverse++base.t,base.h⟩ g cf A (hs.same rfl (aG hl Y)) (λo ho d t F=>?_) (λd Z=>?_) bc hA
  .obtain⟨i,hi⟩:=UN.1 ho;have V:i<m:=by have:=(SQ.1 hi).1;simp at this;omega
   rw[Vk V]at hi;refine⟨?_,u i o d t (hl i V) (by simpa using hi) F⟩;have:=TE.1 hd o (Ud hi);rw[R F]at this;simpa using this
  .obtain⟨i,o,t,h1,O,M⟩:=y d Z;refine⟨o,?_,t,M⟩;have:=G i h1;exact Ud (i:=i) (by rw[Vk this];simpa using O)
 intro l
 induction l with
 |zero=>
  intro f t cf g a w A u y H ag G az Y hs hd;have hl:∀i,i<ops.size->f[i]?=some true:=λi hi=>by
   have:=vv _ ag i (by simpa[H]using hi);simpa using this
  have bb:m=ops.size:=by
   apply Xz ba;apply UF;intro W;have:=G m (hl m W);omega
  obtain⟨g',st',hk,ht,X⟩:=av A u y (λi hi=>hl i (by omega)) G Y hs hd;rw[bb,show ops.toList.drop ops.size=[]from by apply Tq;simp]at hk;refine⟨?_,hQ _ g' a w hk ht X⟩;rw[VZ];intro i hi;obtain⟨M,o,ho,_⟩:=mem_ready.1 hi;have W:=(Td.1 ho).1;simp[hl i W]at M
 |succ l ih=>
  intro f t cf g a w A u y H ag G az Y hs hd;refine⟨λhn=>?_,λi hi=>?_⟩
  .exfalso;obtain⟨i,aC,a4⟩:=yN f.toList (by omega);have ab:i<ops.size:=by rw[←H];simpa using(SQ.1 aC).1
   have:i∈Region.ready .any ops f:=by
    rw[mem_ready];refine⟨by rw[S4]at aC;simp[aC],ops[i],by simp[ab],λe D U=>?_⟩;have L:=hB.back i ops[i] (by simp[ab]) e D U;have h6:=a4 _ L;rw[S4]at h6;simp[h6]
   rw[hn]at this;cases this
  .obtain⟨M,o,ho,aA⟩:=mem_ready.1 hi;have ab:=(Td.1 ho).1;have aI:f[i]?=some false:=by
    have:i<f.size:=by rw[H];exact ab
    simp only[Tg,Ti this,TC]at M;rw[Ti this,M]
   have B:∀e∈o.after,Region.binds .any e=true->f[e.on]?=some true:=λe D U=>by
    have:=aA e D U;rw[Tg]at this;cases L:f[e.on]?with
    |none=>rw[L]at this;cases this
    |some b=>rw[L]at this;simp at this;rw[this]
   have ax:l7 (f.setIfInBounds i true).toList=l:=by
    have:=yM f.toList i (by simpa using aI);rw[Wh];omega
   have n:∀j,(f.setIfInBounds i true)[j]?=if i=j then some true else f[j]?:=λj=>by
    rw[T6];split
    .rename_i e;rw[SX (by rw[H];exact ab)]
    .rfl
   by_cases V:i<m
   .obtain⟨d,r,S,aq,au⟩:=hE i o V ho;have aZ:d∈E.map (·.1):=S8.2 ⟨_,Ud aq,rfl⟩;obtain⟨d',Z,aF⟩:=hB.dst i o V (by simpa using ho);rw[S]at Z;cases Z;have hR:∀s,look (d9 (looks ops.toList o) (E.take i).reverse base.t) s=look t s∨look (d9 (looks ops.toList o) (E.take i).reverse base.t) s=.pv .bot:=by
     intro s;rw[ox]
     by_cases hm:s∈E.map (·.1)
     .split
      .rename_i hL;have hn:(((E.take i).reverse).map (·.1)).Nodup:=by
        rw[Wp];exact nQ (ar.sublist ((Vl i E).map _))
       by_cases aP:s∈(E.take i).reverse.map (·.1)
       .obtain⟨p,hp,D⟩:=S8.1 aP;obtain⟨s',v⟩:=p;simp only at D;subst D;rw[fu _ _ hn hp];rw[Wq]at hp;obtain⟨j,hj⟩:=UN.1 hp;rw[TY]at hj;split at hj
        .rename_i ah;obtain⟨oj,ad⟩:∃oj,ops[j]?=some oj:=⟨ops[j]'(by omega),by simp[show j<ops.size by omega]⟩;obtain⟨dj,aY,_,a9⟩:=aF j oj ah (by simpa using ad);obtain⟨bl,rj,e1,e2,_⟩:=hE j oj (by omega) ad;rw[aY]at e1;cases e1;rw[hj]at e2;cases e2;have aO:=a9 (by simpa using hL);obtain⟨e,D,U,u⟩:=jj.1 aO;have aN:=B e D U;rw[u]at aN;left;rw[Y.on j _ _ hj];simp[aN]
        .cases hj
       .right;rw[bY _ _ aP];exact af s hm
      .right;exact af s hm
     .left;rw[Y.off s hm];split
      .apply bY;intro hc;apply hm;rw[Wp,Wq]at hc;obtain⟨p,hp,D⟩:=S8.1 hc;exact S8.2 ⟨p,TV hp,D⟩
      .rfl
    have be:=hs.weak (st':=⟨d9 (looks ops.toList o) (E.take i).reverse base.t,base.h⟩) rfl hR;have aB:d<g.N:=by
     have:=TE.1 hd o (by rw[←Array.mem_def];exact Array.mem_of_getElem? ho);rw[S]at this;simpa using this
    have ai:∀(g':Gh)(a':Act)(w':World)(ae:Nat->Option (Nat×Array Value×TypeId)),Sim g' ⟨(d,kq q r)::t,base.h⟩ a' w'->Out g0 g' a' ae->g'.N=g.N->
     (∀(i2:Nat)(o:Oper) d t,(f.setIfInBounds i true)[i2]?=some true->ops[i2]?=some o->jG o=some (d,t)->∃c z,ae d=some (c,z,t)∧zeroOf P t z)->
     (∀d,ae d≠none->∃(i2:Nat)(o:Oper),∃t,(f.setIfInBounds i true)[i2]?=some true∧ops[i2]?=some o∧jG o=some (d,t))->wpAny P .any ops Q l (f.setIfInBounds i true) a' w':=by
     intro g' a' w' ae an aE aW aS ay;refine ih (f.setIfInBounds i true) ((d,kq q r)::t) ae g' a' w' aE aS ay (by simp[H]) ax (λj hj=>?_) (λj oj hj ad e D U=>?_) ?_ an (by rw[aW];exact hd)
     .rw[n]at hj;split at hj
      .rename_i e;omega
      .exact G j hj
     .rw[n]at hj⊢;split at hj
      .rename_i e1;subst e1;rw[ho]at ad;cases ad;split
       .rfl
       .exact B e D U
      .split
       .rfl
       .exact az j oj hj ad e D U
     .refine⟨λj dj vj hj=>?_,λs aU=>?_⟩
      .simp only[look]
       by_cases ah:i=j
       .subst ah;rw[aq]at hj;cases hj;simp[n]
       .have aD:d≠dj:=by
         intro e1;subst e1;exact ah (ra ar (x:=d) (by rw[Tm,aq];rfl) (by rw[Tm,hj];rfl))
        rw[SU aD,Y.on j dj vj hj];simp only[Tg,n,SU ah]
      .simp only[look];rw[SU (λe=>aU (by rw[←e];exact aZ))];exact Y.off s aU
    have C:cf d=none:=by
     cases aX:cf d with
     |none=>rfl
     |some x=>
      obtain⟨j,oj,tj,h1,O,M⟩:=y d (by rw[aX];exactλhh=>by cases hh);have a8:=G j h1;obtain⟨dj,rj,e1,e2,_⟩:=hE j oj a8 O;rw[R M]at e1;cases e1;have:i=j:=ra ar (x:=d) (by rw[Tm,aq];rfl) (by rw[Tm,e2];rfl);subst this;rw[aI]at h1;cases h1
    have ao:∀(v:Value)(d':Nat),d'≠d->(a.put (some d) v).tmps.getD d' undef=a.tmps.getD d' undef:=λv d' aD=>by
     simp only[Act.put,Tg,T6];rw[SU (λe=>aD e.symm)]
    unfold wpOp;rw[ho];unfold HG at au;split at au
    .rename_i p F;obtain⟨d2,T⟩:=p;obtain⟨a1,hr⟩:=au;subst hr;have aH:=R F;rw[S]at aH;cases aH;have aQ:o∈ops.toList.take m:=Ud (i:=i) (by rw[Vk V];simpa using ho);obtain⟨zs,hz⟩:=sQ _ _ hA o aQ d T F;obtain⟨_,z,bh,aT⟩:=FC F hz;obtain⟨_,_,X⟩:=hs.allocF z T;simp only;rw[SX (by simp[Region.wanted,a1])];refine .inl ?_;unfold Oper.wp;rw[aT a w];show wpAny P .any ops Q l (f.setIfInBounds i true) (a.put o.dst _) _;rw[S];have bf:d<a.tmps.size:=by rw[hs.size];exact aB
     have bg:(a.put (some d) (.pointer (some ⟨w.heap.size,0,none⟩))).tmps.getD d undef=.pointer (some ⟨w.heap.size,0,none⟩):=by
      simp[Act.put,Tg,T6,bf]
     refine ai _ _ _ _ (Sim.put X aB (sv:=.pv .bot) ⟨rfl,trivial⟩ trivial rfl) (A.alloc hs z T C bg (ao _)) rfl (λi2 o2 d2 t2 h1 O M=>?_) (λd2 h1=>?_)
     .rw[n]at h1;split at h1
      .rename_i e;subst e;rw[ho]at O;cases O;rw[F]at M;cases M;exact⟨w.heap.size,z,SX rfl,bh⟩
      .obtain⟨c,z',L,h6⟩:=u i2 o2 d2 t2 h1 O M;have:d2≠d:=λe=>by rw[e,C]at L;cases L
       exact⟨c,z',(SU this).trans L,h6⟩
     .by_cases e:d2=d
      .subst e;exact⟨i,o,T,by rw[n,SX rfl],ho,F⟩
      .simp only[SU e]at h1;obtain⟨j,oj,tj,L,h6,h7⟩:=y d2 h1;exact⟨j,oj,tj,by rw[n];split;rfl;exact L,h6,h7⟩
    rename_i F; have key := Pi (ops := ops) o au be (Q := Q) (K' := wpAny P .any ops Q l (f.setIfInBounds i true)) (λ v J w2 _ s2 f2 a2 => by
     have X:=(s2 g _ rfl hs).1;have t2:=(s2 g _ rfl hs).2;have an:Sim {g with I:=J} ⟨(d,kq q r)::t,base.h⟩ (a.put (some d) v) w2:=by
      refine Sim.put X (by rw[t2.N];exact aB) ?_ ?_ (sS q r).1
      .rcases(sS q r).2 with L|⟨L,h6⟩
       .rw[L];exact⟨rfl,trivial⟩
       .rw[L];exact f2
      .rcases(sS q r).2 with L|⟨L,h6⟩
       .rw[L];trivial
       .rw[L];refine bW.congrA (q:=q) (λp hp bk=>?_) h6 a2;refine⟨?_,rfl⟩;cases p with
        |cell b k=>rfl
        |slot s=>
         have aR:s∉E.map (·.1):=λhc=>by rw[(hq s).2 hc]at hp;cases hp
         simp only[aa];rw[Y.off s aR,ox];split
         .symm;apply bY;intro hc;apply aR;rw[Wp,Wq]at hc;obtain⟨p,hp,D⟩:=S8.1 hc;exact S8.2 ⟨p,TV hp,D⟩
         .rfl
     rw[S];refine ai _ _ w2 cf an (A.step t2 λd' Z=>ao v d' (λe=>Z (by rw[e];exact C))) rfl (λi2 o2 d2 t3 h1 O M=>?_) (λd2 h1=>?_)
     .rw[n]at h1;split at h1
      .rename_i e;subst e;rw[ho]at O;cases O;rw[F]at M;cases M
      .exact u i2 o2 d2 t3 h1 O M
     .obtain⟨j,oj,tj,L,h6,h7⟩:=y d2 h1;exact⟨j,oj,tj,by rw[n];split;rfl;exact L,h6,h7⟩)
    simp only;split
    .rename_i hw;rw[SX hw]at key;exact .inl key
    .rename_i hw;rw[SU hw]at key;exact key
   .have aJ:i=m:=by
     apply Xz _ (UF V);apply UF;intro hl;obtain⟨e,D,U,u⟩:=jj.1 (hB.chain (i -1) o (by omega) (by rw[Nat.sub_add_cancel (by omega)];simpa using ho));have:=G _ (B e D U);omega
    subst aJ;have ak:∀k j:Nat,i<=j+k->j<i->f[j]?=some true:=by
     intro k
     induction k with
     |zero=>intro j h1 O;omega
     |succ k bi=>
      intro j h1 O;obtain⟨j',o',bn,a6,aL,a7⟩:=hB.up (by simpa using ab) j O;obtain⟨e,D,U,u⟩:=jj.1 a7;rcases XA j' i with W|bm
      .have:=az j' o' (bi j' (by omega) W) (by simpa using aL) e D U;rw[u]at this;exact this
      .have:j'=i:=by omega
       subst this;have aw:ops[j']?=some o':=by simpa using aL
       rw[ho]at aw;cases aw;have:=B e D U;rw[u]at this;exact this
    obtain⟨g',st',hk,ht,X⟩:=av A u y (λj hj=>ak i j (by omega) hj) G Y hs hd;have aj:∀j:Nat,i<=j->j<ops.size->f[j]?=some false:=λj hj a6=>by
     have aM:j<f.size:=by omega
     cases U:f[j]with
     |false=>rw[Ti aM,U]
     |true=>have:=G j (by rw[Ti aM,U]);omega
    have a0:i+(l+1)=ops.size:=by
     have:=oy f.toList i (by simp[H];omega) (λj hj=>by simpa using ak i j (by omega) hj) (λj h1 O=>by simpa using aj j h1 (by simpa[H]using O));rw[ag]at this;simpa[H]using this
    have:=yO hB (Q:=Q) (K:=K) (ops.toList.drop i) i (l+1) f _ g' a w rfl (SY _) a0 H (λj hj=>ak i j (by omega) hj) aj hk X (by rw[ht.N,←A.to.N];exact hd) (λbj g2 a2 w2 k2 t2 s2=>hQ bj g2 a2 w2 k2 (ht.trans t2) s2);exact this.2 i hi
theorem BQ{l:List Oper}{s:Nat}:s∈dstsOf l↔∃(i:Nat)(o:Oper),l[i]?=some o∧o.dst=some s:=by
 simp only[dstsOf,List.mem_filterMap];constructor
 .rintro⟨o,h1,a⟩;obtain⟨i,hi⟩:=UN.1 h1;exact⟨i,o,hi,a⟩
 .rintro⟨i,o,h1,a⟩;exact⟨o,Ud h1,a⟩
theorem Sim.cast_I{g:Gh}{J:Nat->Option Obj}{st:St}{a:Act}{w:World}(h:Sim {g with I:=J} st a w)(b:∀c,g.I c=J c):Sim g st a w:=by
 have:J=g.I:=funext λc=>(b c).symm;subst this;exact h
theorem HR{P:Program}{ops:Array Oper}{id:Nat}{st:St}{K:St->Prop}(aD:P.follows .mixedOrders=true)(hB:DL ops.toList (cg ops.toList)=true)(h:yJ P ops.toList K st){g:Gh}{a:Act}{w:World}(hs:Sim g st a w)
 (hd:cu g.N ops.toList=true) {Q:Exit->Act->World->Prop} (hQ:∀st' g' T w',K st'->g.to g'->Sim g' st' T w'->Q .normal T w'):(Code.region id ops true).wp P Q a w:=by
 refine wp_region_any aD ?_;have l:=HP hB;unfold yJ at h;obtain⟨E,b,hK,A⟩:=HN _ _ h;have W:(ops.toList.take (cg ops.toList)).length=cg ops.toList:=by rw[S6];exact Uw l.le
 rw[W]at b;have f:∀(i:Nat)(o:Oper),i<cg ops.toList->ops[i]?=some o->(ops.toList.take (cg ops.toList))[i]?=some o:=λi o hi ho=>by
  rw[TY,SX hi];simpa using ho
 have x:∀s,s∈E.map (·.1)↔s∈dstsOf (ops.toList.take (cg ops.toList)):=by
  intro s;rw[BQ];constructor
  .intro z;obtain⟨p,hp,V⟩:=S8.1 z;obtain⟨i,hi⟩:=UN.1 hp;have O:i<cg ops.toList:=by rw[←b];exact(SQ.1 hi).1
   have u:i<(ops.toList.take (cg ops.toList)).length:=by rw[W];exact O
   obtain⟨d,r,k,n,_⟩:=A i _ (SR u);rw[hi]at n;cases n;exact⟨i,_,SR u,by rw[k];simp at V;rw[V]⟩
  .rintro⟨i,o,h1,G⟩;obtain⟨d,r,k,n,_⟩:=A i o h1;rw[G]at k;cases k;exact S8.2 ⟨_,Ud n,rfl⟩
 have R:(E.map (·.1)).Nodup:=by
  unfold List.Nodup;rw[TB];intro i j hi hj L e;have J:i<cg ops.toList:=by rw[←b];simpa using hi
  have y:j<cg ops.toList:=by rw[←b];simpa using hj
  have S:j<ops.size:=Uk y (by simpa using l.le);have B:ops[i]?=some (ops[i]'(by omega)):=by simp[show i<ops.size by omega]
  have C:ops[j]?=some ops[j]:=by simp[S]
  obtain⟨d,h1,G⟩:=l.dst j ops[j] y (by rw[S4];exact C);obtain⟨d',Y,Z,_⟩:=G i _ L (by rw[S4];exact B);obtain⟨dj,rj,k,n,_⟩:=A j _ (f j _ y C);obtain⟨di,ri,F,X,_⟩:=A i _ (f i _ J B);rw[h1]at k;cases k;rw[Y]at F;cases F;apply Z;have U:(E.map (·.1))[i]?=some d':=by rw[Tm,X];rfl
  have g2:(E.map (·.1))[j]?=some d:=by rw[Tm,n];rfl
  rw[SR hi]at U;rw[SR hj]at g2;cases U;cases g2;exact e
 let base:St:=⟨bots (dstsOf (ops.toList.take (cg ops.toList))) (aG (yI (dstsOf (ops.toList.take (cg ops.toList)))) st.t),st.h⟩
 have M:∀s,look base.t s=look st.t s∨look base.t s=.pv .bot:=by
  intro s;show look (bots _ _) s=_∨look (bots _ _) s=_;rw[nm];split
  .exact .inr rfl
  .rw[aW];rcases bs (yI (dstsOf (ops.toList.take (cg ops.toList)))) (look st.t s)with e|⟨e,_⟩
   .exact .inr e
   .exact .inl e
 have D:Sim g base a {w with drawn:=w.drawn+1}:=by
  have h1 : Sim g st a { w with drawn := w.drawn + 1 } := (hs.grown (w' := { w with drawn := w.drawn + 1 }) rfl (SY _) (λ _ _ => rfl) g.I hs.I).1.cast_I (λ c => by
   show g.I c=if w.heap.size<=c then g.I c else g.I c;split<;>rfl)
  exact h1.weak rfl M
 refine HQ (Q:=Q) (K:=K) (m:=cg ops.toList) (base:=base) (E:=E) (q:=yI (dstsOf (ops.toList.take (cg ops.toList)))) l b R ?_ ?_ ?_ (by simpa[BP]using hK) hQ ops.size (Array.replicate ops.size false) base.t (λ_=>none) g a _ (Out.start D) ?_ (λ_ h=>absurd rfl h) (by simp) (by simpa using mB _)
  ?_ ?_ ?_ D hd
 .intro s;rw[x];simp[yI]
 .intro s z;show look (bots _ _) s=_;rw[nm,SX ((x s).1 z)]
 .intro i o hi ho;obtain⟨d,r,k,n,F⟩:=A i o (f i o hi ho);exact⟨d,r,k,n,by simpa using F⟩
 .intro i o d t hi;rw[UK]at hi;split at hi<;>cases hi
 .intro i hi;rw[UK]at hi;split at hi<;>cases hi
 .intro i o hi;rw[UK]at hi;split at hi<;>cases hi
 .refine⟨λi d v hi=>?_,λs _=>rfl⟩;show look (bots _ _) d=_;rw[nm,SX ((x d).1 (S8.2 ⟨_,Ud hi,rfl⟩))];split
  .rename_i H;rw[Tg,UK]at H;split at H<;>cases H
  .rfl
end Go.AX
namespace Go.AX
/-! ### What looks at no memory -/
def ib(P:Program):Op->Bool
 |.move _|.assign _|.extract _ _|.unOp _ _ _|.field _ _ _|.fieldAddr _ _ _|.indexAddr _ _ _|.slice _ _ _ _ none|.pick _ _ _|.nilCheck _=>true
 |.convert s _ _=>!sN P s
 |.binOp _ t _ _ _=>match tk P t with
  |.int|.bool|.string|.ptr=>true
  |_=>false
 |.call c=>match c.callee,c.args.toList,c.argTypes.toList with
  |.builtin .len,[_],[t]=>match tk P t with
   |.slice|.string=>true
   |_=>false
  |_,_,_=>false
 |_=>false
def qt(P:Program)(o:Oper)(a:Act):Prop:=∃v,∀w':World,(execOp a.eval o).run P w'=.ok (.value v) w'
theorem i8.one{P:Program}{st:St}{o:Oper}{r:SV×Prop}(h:i8 P st o r){g:Gh}{a:Act}{w:World}(hs:Sim g st a w)(b:r.2):qt P o a:=by
 obtain⟨v,h1,_⟩:=h g a w hs b;exact⟨v,h1⟩
theorem sT{P:Program}{st:St}(o:Oper)(k:ib P o.op=true)(h:(pop P st o.op).2){g:Gh}{a:Act}{w:World}(hs:Sim g st a w):qt P o a:=by
 cases j:o.op
 case move x=>rw[j]at h;exact(wL o x (.inl j)).one hs h
 case assign x=>rw[j]at h;exact(wL o x (.inr j)).one hs h
 case pick c x y=>rw[j]at h;exact(yp o c x y j).one hs h
 case unOp op t x=>rw[j]at h;exact(Hg o op t x j).one hs h
 case fieldAddr t x f=>rw[j]at h;exact(u7 o t f x j).one hs h
 case indexAddr t x i=>rw[j]at h;exact(Dm o t x i j).one hs h
 case extract x i=>rw[j]at h;exact(Do o x i j).one hs h
 case field t x f=>rw[j]at h;exact(yt o t x f j).one hs h
 case convert s d x=>rw[j]at h;exact(Dp o s d x j).one hs h
 case nilCheck x=>rw[j]at h;exact(Hh o x j).one hs h
 case slice t x lo hi v=>
  rw[j]at h k;cases v with
  |none=>exact(Dq o t x lo hi j).one hs h
  |some m=>cases k
 case binOp op t x y u=>
  rw[j]at h k;simp only[ib]at k;simp only[pop,Hm]at h;cases l:wQ st op x y with
  |some b=>rw[l]at h;rw[h.2]at k;cases k
  |none=>
   rw[l]at h;cases ht:tk P t with
   |int=>simp only[ht]at h;exact(Dh o op t u x y j).one hs h
   |bool=>simp only[ht]at h;exact(Di o op t u x y j (Ds ht)).one hs h
   |string=>simp only[ht]at h;exact(Dj o op t u x y j).one hs h
   |ptr=>simp only[ht]at h;obtain⟨e,r⟩:=Ho ht;exact(Dk o op t u e x y j r).one hs h
   |_=>rw[ht]at k;cases k
 case call c=>
  rw[j]at h k;simp only[ib]at k;split at k
  .rename_i x t h1 n p;have q:c={callee:=.builtin .len,args:=#[x],argTypes:=#[t]}:=by
    cases c with
    |mk a b d=>
     simp only at h1 n p;rw[h1,show b=#[x]from by rw[←Vf (xs:=b),n],show d=#[t]from by rw[←Vf (xs:=d),p]]
   simp only[pop,Dr,h1,n,p]at h;rw[q]at j;cases ht:tk P t with
   |slice=>simp only[ht]at h;exact(yn o t x j).one hs h
   |string=>simp only[ht]at h;exact(uZ o t x j (vg ht)).one hs h
   |_=>rw[ht]at k;cases k
  .cases k
 all_goals (rw[j]at k;cases k)
theorem FE{P:Program}{st:St}(o:Oper)(d:ib P o.op=true){K:St->Prop}(h:AE P st o.op o.dst K){g:Gh}{a:Act}{w:World}(hs:Sim g st a w):qt P o a:=by
 have hp:sM P st o.op o.dst K->qt P o a:=λh=>sT o d h.1 hs;cases b:o.op
 case assign x=>exact⟨a.eval x,λw'=>by simp[execOp,b]⟩
 case convert s t x=>
  rw[b]at d h hp;simp only[ib,TU]at d;simp only[AE,d]at h;exact hp h
 case binOp op t x y u=>
  have nil:∀yes,BI P st t x yes o.dst K->False:=λyes h=>by
   unfold BI bm at h;split at h
   .rename_i e i;split at i
    .rename_i q p;rw[b]at d;simp[ib,tk,p]at d
    .cases i
   .exact h
  rw[b]at h hp;unfold AE at h;split at h<;>first|exact hp h|skip
  all_goals
   first
    |(rename_i f;cases f;done)
    |(rename_i f;injection f with j k l m n;subst j k l m n;exact(nil _ h).elim)
    |(rename_i f;rw[f]at hp;exact hp h)
 case call c=>
  rw[b]at d h hp;simp only[ib]at d;split at d
  .rename_i x t h1 r v;unfold AE at h;simp only[h1]at h;exact hp h
  .cases d
 all_goals first
  |(rw[b]at d;cases d;done)
  |(rw[b]at h hp;exact hp h)
theorem HT{P:Program}{o:Oper}{a:Act}{w:World}{v:Value}(b:∀w':World,(execOp a.eval o).run P w'=.ok (.value v) w'){K:Act->World->Prop}{Q:Exit->Act->World->Prop}(h:o.wp P a w K Q):K (a.put o.dst v) w:=by
 unfold Oper.wp at h;rw[b w]at h;exact h
theorem xd{P:Program}{ops:Array Oper}{st:St}(o:Oper)(e:ib P o.op=true){K:St->Prop}(h:eX P ops.toList o K st){g:Gh}{a:Act}{w:World}(hs:Sim g st a w)(hd:ca g.N o.dst):
 ∃v,Yields P ops o v a∧∃st' g',K st'∧g.to g'∧Sim g' st' (a.put o.dst v) w:=by
 have key:=mz (ops:=ops) o h hs hd (K':=λq w'=>∃st' g',K st'∧g.to g'∧Sim g' st' q w') (Q:=λ_ _ _=>False) λst' g' q w' h1 l m=>⟨st',g',h1,l,m⟩
 by_cases k:Region.wanted o (yielded ops a.tmps)=true
 .rw[SX k]at key;have i:qt P o a:=by
   unfold eX at h;split at h
   .unfold K3 at h;split at h
    .rename_i b;rw[b]at e;cases e
    .exact FE o e h hs
   .rename_i j s z;split at h
    .rename_i d n;split at h
     .rename_i p y;have u:p:=(ow hs z n y).1 k;have f:Ot P st p o.op o.dst K->qt P o a:=λh=>sT o e (h.1 u) hs;cases b:o.op
      case call c=>
       rw[b]at e h f;simp only[ib]at e;split at e
       .rename_i x t h1 l m;unfold AG at h;simp only[h1]at h;exact f h
       .cases e
      all_goals first
       |(rw[b]at e;cases e;done)
       |(rw[b]at h f;exact f h)
     .exact h.elim
    .exact h.elim
  obtain⟨v,r⟩:=i;obtain⟨st',g',h1,l,m⟩:=HT r key;exact⟨v,.inl ⟨k,r⟩,st',g',h1,l,m⟩
 .rw[SU k]at key;exact⟨undef,.inr ⟨by simpa using k,rfl⟩,key⟩
/-! ### Orders -/
inductive Sch where
  |done
  |take (i:Nat) (r:Sch)
  |fork (l:List (Nat×Sch))
mutual
def jH(P:Program)(ops:Array Oper):Nat->Array Bool->Sch->Bool
  |_,listed,.done=>(Region.ready .any ops listed).isEmpty
  | n + 1, listed, .take i r => (match ops[i]? with
    |some o=>ib P o.op&&Region.free .any ops listed i
    |none=>false)&&(Region.ready .any ops listed).contains i&&jH P ops n (listed.setIfInBounds i true) r
  |n+1,listed,.fork l=>(Region.ready .any ops listed==l.map (·.1))&&!l.isEmpty&&yP P ops n listed l
  |_,_,_=>false
def yP(P:Program)(ops:Array Oper):Nat->Array Bool->List (Nat×Sch)->Bool
  |_,_,[]=>true
  |n,listed,(i,r)::l=>jH P ops n (listed.setIfInBounds i true) r&&yP P ops n listed l
end
def fi(P:Program)(ops:List Oper)(i:Nat)(K:St->Prop)(st:St):Prop:=
 match ops[i]?with
 |some o=>eX P ops o K st
 |none=>False
mutual
def oz(P:Program)(ops:List Oper)(K:St->Prop):Sch->St->Prop
  |.done,st=>K st
  |.take i r,st=>fi P ops i (oz P ops K r) st
  |.fork l,st=>re P ops K l st
def re(P:Program)(ops:List Oper)(K:St->Prop):List (Nat×Sch)->St->Prop
  |[],_=>True
  |(i,r)::l,st=>fi P ops i (oz P ops K r) st∧re P ops K l st
end
theorem dN{N:Nat}{l:List Oper}(h:cu N l=true){i:Nat}{o:Oper}(hi:l[i]?=some o):ca N o.dst:=by
 have:=TE.1 h o (Ud hi);unfold ca;split
 .rename_i d hd;rw[hd]at this;simpa using this
 .trivial
mutual
theorem xe{P:Program}{ops:Array Oper}{K:St->Prop}{Q:Exit->Act->World->Prop}(hsel:Region.noSelect ops=true)(hQp:∀c a w,¬Q (.panic c) a w):∀(S:Sch)(n:Nat)(listed:Array Bool)(_:jH P ops n listed S=true){st:St}(_:oz P ops.toList K S st){g:Gh}{a:Act}{w:World}(_:Sim g st a w)(_:cu g.N ops.toList=true)
    (_:∀st' g' a' w',K st'->g.to g'->Sim g' st' a' w'->Q .normal a' w'),wpAny P .any ops Q n listed a w
  |.done,n,listed,hb,st,h,g,a,w,hs,_,hQ=>by
    have hb':(Region.ready .any ops listed).isEmpty=true:=by cases n<;>simpa[jH]using hb
    exact wpAny_done (Xt.1 hb') (hQ st g a w h hs.refl_to hs) n
  |.take i r,0,listed,hb,st,h,g,a,w,hs,hd,hQ=>by simp[jH]at hb
  |.take i r,n+1,listed,hb,st,h,g,a,w,hs,hd,hQ=>by
    simp only[jH,S9]at hb
    obtain⟨⟨hb1,hb2⟩,hb3⟩:=hb
    simp only[oz,fi]at h
    cases ho:ops[i]?with
    |none=>rw[ho]at hb1;cases hb1
    |some o=>
      rw[ho]at hb1
      rw[S4,ho]at h
      simp only[S9]at hb1
      obtain⟨v,hy,st',g',h1,h2,h3⟩:=xd o hb1.1 h hs (dN hd (by rw[S4];exact ho))
      exact wpAny_take ho hsel hb1.2 hb2 (λc a w hq=>absurd hq (hQp c _ w)) hy (xe hsel hQp r n _ hb3 h1 h3 (by rw[h2.N];exact hd) λst2 g2 a2 w2 k2 t2 s2=>hQ st2 g2 a2 w2 k2 (h2.trans t2) s2)
  |.fork l,0,listed,hb,st,h,g,a,w,hs,hd,hQ=>by simp[jH]at hb
  |.fork l,n+1,listed,hb,st,h,g,a,w,hs,hd,hQ=>by
    simp only[jH,S9]at hb
    obtain⟨⟨hb1,hb2⟩,hb3⟩:=hb
    simp only[oz]at h
    have hr:Region.ready .any ops listed=l.map (·.1):=by simpa using hb1
    refine wpAny_all hr (λe=>?_) λi hi=>yQ hsel hQp l n listed hb3 h hs hd hQ i hi
    cases l with
    |nil=>simp at hb2
    |cons _ _=>cases e
theorem yQ{P:Program}{ops:Array Oper}{K:St->Prop}{Q:Exit->Act->World->Prop}(hsel:Region.noSelect ops=true)(hQp:∀c a w,¬Q (.panic c) a w):∀(l:List (Nat×Sch))(n:Nat)(listed:Array Bool)(_:yP P ops n listed l=true){st:St}(_:re P ops.toList K l st){g:Gh}{a:Act}{w:World}(_:Sim g st a w)(_:cu g.N ops.toList=true)
    (_:∀st' g' a' w',K st'->g.to g'->Sim g' st' a' w'->Q .normal a' w'),∀i∈l.map (·.1),wpOp P ops Q i (wpAny P .any ops Q n (listed.setIfInBounds i true)) a w
  |[],n,listed,_,st,_,g,a,w,_,_,_,i,hi=>by cases hi
  |(i0,r)::l,n,listed,hb,st,h,g,a,w,hs,hd,hQ,i,hi=>by
    simp only[yP,S9]at hb
    simp only[re]at h
    simp only[Tn,Tx]at hi
    rcases hi with e|hi
    · subst e
      have h1:=h.1
      simp only[fi]at h1
      unfold wpOp
      cases ho:ops[i]?with
      |none=>rw[S4,ho]at h1;exact h1.elim
      |some o=>
        rw[S4,ho]at h1
        have key:=mz (ops:=ops) o h1 hs (dN hd (by rw[S4];exact ho)) (K':=wpAny P .any ops Q n (listed.setIfInBounds i true)) (Q:=Q) λst' g' a' w' k' t' s'=>
          xe hsel hQp r n _ hb.1 k' s' (by rw[t'.N];exact hd) λst2 g2 a2 w2 k2 t2 s2=>hQ st2 g2 a2 w2 k2 (t'.trans t2) s2
        simp only
        split
        · rename_i hw;rw[SX hw]at key;exact .inl key
        · rename_i hw;rw[SU hw]at key;exact key
    · exact yQ hsel hQp l n listed hb.2 h.2 hs hd hQ i hi
end
def pn(P:Program)(ops:Array Oper)(S:Sch):Bool:=Region.noSelect ops&&jH P ops ops.size (Array.replicate ops.size false) S
theorem DN{P:Program}{ops:Array Oper}{id:Nat}{st:St}{K:St->Prop}(aD:P.follows .mixedOrders=true){S:Sch}(d:pn P ops S=true)(h:oz P ops.toList K S st){g:Gh}{a:Act}{w:World}(hs:Sim g st a w)
 (hd:cu g.N ops.toList=true) {Q:Exit->Act->World->Prop} (i:∀st' g' b w',K st'->g.to g'->Sim g' st' b w'->Q .normal b w'):(Code.region id ops true).wp P Q a w:=by
 simp only [pn, S9] at d; have f : Sim g st a { w with drawn := w.drawn + 1 } := (hs.grown (w' := { w with drawn := w.drawn + 1 }) rfl (SY _) (λ _ _ => rfl) g.I hs.I).1.cast_I (λ c => by
  show g.I c=if w.heap.size<=c then g.I c else g.I c;split<;>rfl)
 refine wp_mono (wp_region_any (Q:=λe a w=>e=.normal∧Q .normal a w) aD ?_) λe a w h=>h.1▸h.2;exact xe d.1 (λc a w h=>by cases h.1) S _ _ d.2 h f hd λst' g' b w' k' j s'=>⟨rfl,i st' g' b w' k' j s'⟩
end Go.AX
namespace Go.AX
def ah(k0:Nat)(st st1:St):Prop:=∀g a w,g.n0<=k0->Sim g st a w->∃g',g.to g'∧Sim g' st1 a w
theorem ah.trans{k0:Nat}{a b c:St}(h:ah k0 a b)(h':ah k0 b c):ah k0 a c:=λg ac w h0 hs=>by
 obtain⟨d,t1,e⟩:=h g ac w h0 hs;obtain⟨g2,i,f⟩:=h' d ac w (by rw[t1.n0];exact h0) e;exact⟨g2,t1.trans i,f⟩
def SC(v a:SV):Prop:=a=v∨a=.pv .bot
def M5(t:List (Nat×SV)):List (Nat×SV)->Prop
 |[]=>True
 |(s,v)::r=>SC (look t s) v∧M5 t r
theorem HU{t:List (Nat×SV)}:∀{t1:List (Nat×SV)},M5 t t1->∀s,look t1 s=look t s∨look t1 s=.pv .bot
 |[],_,s=>.inr rfl
 |(j,v)::r,h,s=>by
  simp only[look]
  by_cases e:j=s
  .subst e;rw[SX rfl];exact h.1
  .rw[SU e];exact HU h.2 s
/-! ### Blocks are let go -/
section
variable {g : Gh} {k : Nat}
mutual
theorem Fit.below:∀(x:PV)(v:Value),x.bel k->Fit g x v->Fit {g with n:=k} x v
  |.bot,_,_,_=>trivial
  |.lit _,_,_,h=>h
  |.agg xs,_,hn,⟨vs,h1,h2⟩=>⟨vs,h1,ak.below xs _ hn h2⟩
  |.tup xs,_,hn,⟨vs,h1,h2⟩=>⟨vs,h1,ak.below xs _ hn h2⟩
  |.seq _ e rows,_,hn,⟨p,cap,h1,hc,h2⟩=>⟨p,cap,h1,hc,h2.imp id λ⟨c,off,arr,T,fz,vs,a,b,n,q1,q2⟩=>⟨c,off,arr,T,fz,vs,a,b,n,ay.below e rows vs hn q1,q2⟩⟩
  |.iptr e rows _ _,_,hn,⟨c,off,arr,T,fz,vs,a,b,q1,q2⟩=>⟨c,off,arr,T,fz,vs,a,b,ay.below e rows vs hn q1,q2⟩
  |.ptr _ _,_,hn,⟨_,h2⟩=>⟨hn,h2⟩
  |.bsl _ _ _ _ _,_,hn,⟨_,h2⟩=>⟨hn,h2⟩
  |.fn _ first cap,_,⟨n1,n2⟩,⟨a,b,h1,h2,h3⟩=>⟨a,b,h1,ak.below first _ n1 h2,ak.below cap _ n2 h3⟩
  |.amap _ es,_,hn,⟨c,en,ck,a,b,n,q⟩=>⟨c,en,ck,a,b,n,bD.below es _ hn q.1,q.2⟩
  |.ifc _ x,_,hn,⟨y,h1,h2⟩=>⟨y,h1,Fit.below x y hn h2⟩
theorem ak.below:∀(xs:List PV)(vs:List Value),bR k xs->ak g xs vs->ak {g with n:=k} xs vs
  |[],_,_,h=>h
  |x::xs,_,⟨n1,n2⟩,⟨v,r',h1,h2,h3⟩=>⟨v,r',h1,Fit.below x v n1 h2,ak.below xs r' n2 h3⟩
theorem ay.below(e:Nat):∀(rows:List (List PV))(vs:List Value),bI k rows->ay g e rows vs->ay {g with n:=k} e rows vs
  |[],_,_,h=>h
  |row::rows,_,⟨n1,n2⟩,⟨v1,v2,h1,h2,h3,h4⟩=>⟨v1,v2,h1,h2,ak.below row v1 n1 h3,ay.below e rows v2 n2 h4⟩
theorem bD.below:∀(es:List (Int×PV))(en:List MapEntry),gt k es->bD g es en->bD {g with n:=k} es en
  |[],_,_,h=>h
  |(_,x)::es,_,⟨n1,n2⟩,⟨m,r',h1,h2,h3,h4⟩=>⟨m,r',h1,h2,Fit.below x m.val n1 h3,bD.below es r' n2 h4⟩
end
end
def SV.bel(k:Nat):SV->Prop
 |.pv x=>x.bel k
 |.own _ _ rows=>bI k rows
 |.omap _ es=>gt k es
 |.opt _ x=>x.bel k
 |.agl xs=>bR k (xs.map (·.1))
 |_=>True
theorem az.below{g:Gh}{w:World}{k:Nat}:∀{x:SV}{v:Value}{b:Option Nat},x.bel k->az g w x v b->az {g with n:=k} w x v b
 |.pv x,_,_,hn,h=>⟨h.1,Fit.below x _ hn h.2⟩
 |.own _ e rows,_,_,hn,h=>h.imp id λ⟨c,h1,cap,arr,T,vs,a,d,a3,a4,a5,f,i⟩=>⟨c,h1,cap,arr,T,vs,a,d,a3,a4,ay.below e rows vs hn a5,f,i⟩
 |.omap _ es,_,_,hn,⟨c,h1,en,ck,a,d,a3,a4⟩=>⟨c,h1,en,ck,a,d,bD.below es _ hn a3,a4⟩
 |.opt _ _,_,_,hn,h=>⟨h.1,h.2.1,λl=>az.below hn (h.2.2 l)⟩
 |.al _,_,_,_,h=>h
 |.loc _ _ _,_,_,_,h=>h
 |.sptr _ _ _,_,_,_,h=>h
 |.agl xs,_,_,hn,⟨h,vs,h1,j⟩=>⟨h,vs,h1,ak.below _ _ hn j⟩
def jI(k:Nat):List (Nat×SV)->Prop
 |[]=>True
 |(_,v)::r=>v.bel k∧jI k r
def cG(k:Nat):List SV->Prop
 |[]=>True
 |v::r=>v.bel k∧cG k r
def dO(k:Nat):List (List SV)->Prop
 |[]=>True
 |v::r=>cG k v∧dO k r
theorem gP{k:Nat}:∀{t:List (Nat×SV)},jI k t->∀s,(look t s).bel k
 |[],_,s=>trivial
 |(j,v)::r,h,s=>by
  simp only[look];split
  .exact h.1
  .exact gP h.2 s
theorem iL{k:Nat}:∀{l:List SV},cG k l->∀(i:Nat)(x:SV),l[i]?=some x->x.bel k
 |[],_,i,x,h=>by simp at h
 |v::r,a,0,x,h=>by simp at h;subst h;exact a.1
 |v::r,a,i+1,x,h=>iL a.2 i x (by simpa using h)
theorem iM{k:Nat}:∀{l:List (List SV)},dO k l->∀(i:Nat)(x:List SV),l[i]?=some x->cG k x
 |[],_,i,x,h=>by simp at h
 |v::r,a,0,x,h=>by simp at h;subst h;exact a.1
 |v::r,a,i+1,x,h=>iM a.2 i x (by simpa using h)
theorem Sim.dropB{st:St}{h1:List (List SV)}(hh:st.h.take h1.length=h1)(ht:jI h1.length st.t)(hb:dO h1.length h1){g:Gh}{a:Act}{w:World}(h0:g.n0<=h1.length)(hs:Sim g st a w):g.to {g with n:=h1.length}∧Sim {g with n:=h1.length} ⟨st.t,h1⟩ a w:=by
  obtain⟨bl,hbl⟩:=hs.own
  have hle:h1.length<=g.n:=by rw[hs.n,←hh,S6];exact WX _ _
  have hget:∀b xs,h1[b]?=some xs->st.h[b]?=some xs:=λb xs hx=>by
    have hlt:=(SQ.1 hx).1
    rw[←hh,TY,SX (by exact hlt)]at hx
    exact hx
  have hpos:∀p,(aa ⟨st.t,h1⟩ p).isOwn=true->aa ⟨st.t,h1⟩ p=aa st p∧an {g with n:=h1.length} a w p=an g a w p:=by
    intro p hp
    refine⟨?_,rfl⟩
    cases p with
    |slot s=>rfl
    |cell b k=>
      simp only[aa]at hp⊢
      cases hx:h1[b]?with
      |none=>simp[List.getD,hx,SV.isOwn]at hp
      |some xs=>simp only[SS,hx,hget b xs hx]
  refine⟨⟨λ_ _ h=>h,rfl,rfl,rfl,rfl,rfl,h0,λ_ _=>rfl,λ_ _ h=>h⟩,?_⟩
  refine { size := hs.size, defs := hs.defs, env := hs.env, n := rfl, n0 := h0, B := hs.B, I := hs.I, F := hs.F, μI := λ b hb' => hs.μI b (Uk hb' hle), μinj := λ b b' h2 h3 => hs.μinj b b' (Uk h2 hle) (Uk h3 hle),
           own:=⟨λp=>match p with|.slot s=>bl (.slot s)|.cell b k=>if b<h1.length then bl (.cell b k)else none,?_⟩,al:=λs=>bW.congr hpos (hs.al s)}
  have hsub:∀p c,(match p with|.slot s=>bl (.slot s)|.cell b k=>if b<h1.length then bl (.cell b k)else none)=some c->bl p=some c:=by
    intro p c hp
    cases p with
    |slot s=>exact hp
    |cell b k=>
      simp only at hp
      split at hp
      · exact hp
      · cases hp
  refine{slots:=λs=>az.below (gP ht s) (hbl.slots s),blocks:=λb xs hx=>?_,inj:=λp q c hp hq=>hbl.inj p q c (hsub p c hp) (hsub q c hq),free:=λp c hp=>?_}
  · obtain⟨arr,T,e1,e2,e3⟩:=hbl.blocks b xs (hget b xs hx)
    refine⟨arr,T,e1,e2,λk x hk'=>?_⟩
    simp only[SX (SQ.1 hx).1]
    exact⟨(e3 k x hk').1,az.below (iL (iM hb b xs hx) k x hk') (e3 k x hk').2⟩
  · obtain⟨f1,f2,f3,f4⟩:=hbl.free p c (hsub p c hp)
    exact⟨f1,f2,f3,λb hb'=>f4 b (Uk hb' hle)⟩
theorem ah.slots{k0:Nat}{st:St}{t1:List (Nat×SV)}(h:M5 st.t t1):ah k0 st ⟨t1,st.h⟩:=λg _ _ _ hs=>⟨g,hs.refl_to,hs.weak rfl (HU h)⟩
theorem ah.drop{k0:Nat}{st:St}{h1:List (List SV)}(b:st.h.take h1.length=h1)(hk:k0<=h1.length)(ht:jI h1.length st.t)(a:dO h1.length h1):ah k0 st ⟨st.t,h1⟩:=λg _ _ h0 hs=>
 ⟨_,hs.dropB b ht a (TD h0 hk)⟩
theorem ah.to{k0:Nat}{st:St}{t1:List (Nat×SV)}{h1:List (List SV)}(h:M5 st.t t1)(b:st.h.take h1.length=h1)(hk:k0<=h1.length)(ht:jI h1.length t1)(a:dO h1.length h1):ah k0 st ⟨t1,h1⟩:=
 (ah.slots h).trans (ah.drop (st:=⟨t1,st.h⟩) b hk ht a)
theorem ah.nilOwn{k0:Nat}{st:St}{s:Nat}(e:Nat)(nw:Bool)(h:look st.t s=.pv (.lit (.slice none 0 0))):ah k0 st ⟨(s,.own nw e [])::aG (cX s) st.t,st.h⟩:=λg a w _ hs=>by
 obtain⟨bl,i⟩:=hs.own;have b:a.tmps.getD s undef=.slice none 0 0:=by have:=i.slots s;rw[h]at this;exact this.2
 have f:s<a.tmps.size:=by
  apply VK;intro hle;rw[Tg,UI hle]at b;cases b
 have:=hs.putOwn i (d:=s) (sv:=.own nw e []) (v:=a.tmps.getD s undef) (o:=none) (w':=w) (by rw[←hs.size];exact f) rfl (SY _) (λ_ _ _=>rfl) (.inl ⟨rfl,rfl,b⟩) rfl (λc j=>by cases j);rw[pc f]at this;exact⟨g,hs.refl_to,this⟩
/-! ### Ways on -/
def HV(K:St->Prop)(Q:Exit->St->Prop)(e:Exit)(st:St):Prop:=
 match e with
 |.normal=>K st
 |e=>Q e st
def xf(id:Nat)(Q:Exit->St->Prop)(e:Exit)(st:St):Prop:=
 match e with
 |.exit i=>if i=id then Q .normal st else Q (.exit i) st
 |e=>Q e st
def BR(Q:Exit->St->Prop)(e:Exit)(st:St):Prop:=
 match e with
 |.goto _=>False
 |e=>Q e st
def ax(k0:Nat)(a:(Exit->St->Prop)->St->Prop)(Q:Exit->St->Prop)(st:St):Prop:=
 ∃I:Nat->St->Prop,(∃n st1,ah k0 st st1∧I n st1)∧∀n st,I n st->a (HV (λst'=>∃m b,m<n∧ah k0 st' b∧I m b) Q) st
def M6{α:Type}(S:α->St)(J:α->Prop)(μ:α->Nat)(k0 n:Nat)(st:St):Prop:=∃y,μ y<n∧J y∧ah k0 st (S y)
def BT(k0:Nat)(S st:St):Prop:=ah k0 st S
def SD(P:Program)(k0:Nat)(ops:Array Oper)(K:St->Prop)(n:Nat)(l:Array Bool)(st:St):Prop:=
 ∀(g:Gh)(a:Act)(w:World),g.n0<=k0->Sim g st a w->cu g.N ops.toList=true->∀(Q:Exit->Act->World->Prop),(∀c a w,¬Q (.panic c) a w)->(∀st' g' b w',K st'->g.to g'->Sim g' st' b w'->Q .normal b w')->wpAny P .any ops Q n l a w
def HW(P:Program)(ops:Array Oper)(C:Nat->Array Bool->St->Prop)(n:Nat)(st:St):List (Nat×Array Bool)->Prop
 |[]=>True
 |(i,l')::r=>fi P ops.toList i (C n l') st∧HW P ops C n st r
def M7(P:Program)(ops:Array Oper)(l:Array Bool)(i:Nat)(l':Array Bool):Bool:=
 Region.noSelect ops && (match ops[i]? with
  |some o=>ib P o.op&&Region.free .any ops l i
  |none=>false)&&(Region.ready .any ops l).contains i&&(l.setIfInBounds i true==l')
def M8(ops:Array Oper)(l:Array Bool)(rs:List (Nat×Array Bool)):Bool:=
 (Region.ready .any ops l==rs.map (·.1))&&!rs.isEmpty&&rs.all λp=>l.setIfInBounds p.1 true==p.2
def aT(P:Program)(k0:Nat)(ops:Array Oper)(K:St->Prop)(st:St):Prop:=
 (∃S,pn P ops S=true∧(oz P ops.toList K S st∨∃st1,oz P ops.toList (BT k0 st1) S st∧K st1))∨SD P k0 ops K ops.size (Array.replicate ops.size false) st
theorem aT.one{P:Program}{k0:Nat}{ops:Array Oper}{K:St->Prop}{st:St}(S:Sch)(h:pn P ops S=true)(a:oz P ops.toList K S st):aT P k0 ops K st:=.inl ⟨S,h,.inl a⟩
theorem aT.meet{P:Program}{k0:Nat}{ops:Array Oper}{K:St->Prop}{st:St}(S:Sch)(st1:St)(h:pn P ops S=true)(a:oz P ops.toList (BT k0 st1) S st)(b:K st1):aT P k0 ops K st:=.inl ⟨S,h,.inr ⟨st1,a,b⟩⟩
def xg(stp:Nat->(St->Prop)->St->Prop)(C:Nat->Array Bool->St->Prop)(n:Nat)(st:St):List (Nat×Array Bool)->Prop
 |[]=>True
 |(i,l')::r=>stp i (C n l') st∧xg stp C n st r
structure WalkerO (P:Program) (k0:Nat) (ops:Array Oper) (stp:Nat->(St->Prop)->St->Prop) (K:St->Prop) (C:Nat->Array Bool->St->Prop):Prop where
  done:∀n l st,(Region.ready .any ops l).isEmpty=true->K st->C n l st
  weak:∀{n l st st1},C n l st1->ah k0 st st1->C n l st
  take:∀{n l st}(i l'),M7 P ops l i l'=true->stp i (C n l') st->C (n+1) l st
  fork:∀{n l st}(rs),M8 ops l rs=true->xg stp C n st rs->C (n+1) l st
theorem HX{P:Program}{k0:Nat}{ops:Array Oper}{id:Nat}{st:St}{K:St->Prop}(aD:P.follows .mixedOrders=true)(h:aT P k0 ops K st){g:Gh}{a:Act}{w:World}(h0:g.n0<=k0)(hs:Sim g st a w)
 (hd:cu g.N ops.toList=true) {Q:Exit->Act->World->Prop} (f:∀st' g' b w',K st'->g.to g'->Sim g' st' b w'->Q .normal b w'):(Code.region id ops true).wp P Q a w:=by
 rcases h with⟨S,j,h|⟨st1,h,hk⟩⟩|h
 .exact DN aD j h hs hd f
 .refine DN aD j h hs hd λst' g' b w' k d s'=>?_;obtain⟨g2,m,l⟩:=k g' b w' (by rw[d.n0];exact h0) s';exact f st1 g2 b w' hk (d.trans m) l
 .have i : Sim g st a { w with drawn := w.drawn + 1 } := (hs.grown (w' := { w with drawn := w.drawn + 1 }) rfl (SY _) (λ _ _ => rfl) g.I hs.I).1.cast_I (λ c => by
   show g.I c=if w.heap.size<=c then g.I c else g.I c;split<;>rfl)
  refine wp_mono (wp_region_any (Q:=λe a w=>e=.normal∧Q .normal a w) aD ?_) λe a w h=>h.1▸h.2;exact h _ _ _ h0 i hd _ (λc a w h=>by cases h.1) λst' g' b w' k' d s'=>⟨rfl,f st' g' b w' k' d s'⟩
def po(P:Program)(k0:Nat)(ops:Array Oper)(K:St->Prop)(st:St):Prop:=
 ∀(g:Gh)(a:Act)(w:World),g.n0<=k0->Sim g st a w->cu g.N ops.toList=true->∀(Q:Exit->Act->World->Prop),(∀st' g' b w',K st'->g.to g'->Sim g' st' b w'->Q .normal b w')->wpList P ops Q ops.toList a w
def AC(P:Program)(k0:Nat)(bad:List Nat):Code->(Exit->St->Prop)->St->Prop
 |.skip,Q,st=>Q .normal st
 |.region id ops a,Q,st=>if a=true then(if l6 bad id=true then aT P k0 ops (Q .normal) st else yJ P ops.toList (Q .normal) st)else if l6 bad id=true then po P k0 ops (Q .normal) st else lj P ops.toList (Q .normal) ops.toList st
 |.seq x y,Q,st=>AC P k0 bad x (HV (AC P k0 bad y Q) Q) st
 |.cond c x y,Q,st=>gc st c∧Ba (mv st c)∧(rP (mv st c)=true->AC P k0 bad x Q st)∧(rP (mv st c)=false->AC P k0 bad y Q st)
 |.block id x,Q,st=>AC P k0 bad x (xf id Q) st
 |.exit id,Q,st=>Q (.exit id) st
 |.ret,Q,st=>Q .ret st
 |.loop x,Q,st=>ax k0 (AC P k0 bad x) Q st
 |.label _,Q,st=>Q .normal st
 |.scope x,Q,st=>AC P k0 bad x (BR Q) st
 |_,_,_=>False
theorem ax.intro{α:Type}{P:Program}{k0:Nat}{bad:List Nat}{x:Code}{Q:Exit->St->Prop}{st:St}(S:α->St)(J:α->Prop)(μ:α->Nat)(b:α)(g:ah k0 st (S b))(e:J b)
 (f:∀y,J y->AC P k0 bad x (HV (M6 S J μ k0 (μ y)) Q) (S y)):ax k0 (AC P k0 bad x) Q st:=by
 refine⟨λn st=>∃y,n=μ y∧J y∧st=S y,⟨μ b,S b,g,b,rfl,e,rfl⟩,λn st ⟨y,hn,hy,hs⟩=>?_⟩;subst hn;subst hs;have:(λst'=>∃m a,m<μ y∧ah k0 st' a∧∃z,m=μ z∧J z∧a=S z)=M6 S J μ k0 (μ y):=by
  funext st';apply propext;constructor
  .rintro⟨m,a,h1,c,z,rfl,d,rfl⟩;exact⟨z,h1,d,c⟩
  .rintro⟨z,h1,c,d⟩;exact⟨_,_,h1,d,z,rfl,c,rfl⟩
 rw[this];exact f y hy
def nR(N:Nat)(bad:List Nat):Code->Bool
 |.region id ops a=>cu N ops.toList&&(!a||(l6 bad id||DL ops.toList (cg ops.toList)))
 |.seq x y=>nR N bad x&&nR N bad y
 |.cond _ x y=>nR N bad x&&nR N bad y
 |.block _ x=>nR N bad x
 |.loop x=>nR N bad x
 |.scope x=>nR N bad x
 |_=>true
theorem yR{P:Program}{c:Code}{Q:Exit->Act->World->Prop}(I:Nat->Act->World->Prop)(h:∀n a w,I n a w->c.wp P (Exit.then (λi w'=>∃m,m<n∧I m i w') Q) a w){n:Nat}{a:Act}{w:World}(v:I n a w):(Code.loop c).wp P Q a w:=by
 intro b k cs;have key:∀n a w,I n a w->∃e i w',Q e i w'∧Arrives P (lone (b.at a (.code c::.inLoop c::k)) cs w) b k cs e i w':=by
  intro n
  induction n using Nat.strongRecOn with
  |_ n y=>
   intro a w u;obtain⟨e,j,o,f,d⟩:=h n a w u b (.inLoop c::k) cs;cases e with
   |normal=>
    obtain⟨m,q,p⟩:=f;obtain⟨t,s,z,r,g⟩:=y m q j o p;exact⟨t,s,z,r,.of_steps (Steps.trans d (.one step_inLoop)) g⟩
   |exit id=>exact⟨_,j,o,f,.pass (x:=.inLoop c) rfl (λ_ _=>.inl (by simp)) d⟩
   |goto l=>exact⟨_,j,o,f,.pass (x:=.inLoop c) rfl (λ_ _=>.inl (by simp)) d⟩
   |ret=>exact⟨_,j,o,f,.pass (x:=.inLoop c) rfl (λ_ _=>.inl (by simp)) d⟩
   |panic A=>exact⟨_,j,o,f,.pass (x:=.inLoop c) rfl (λ_ _=>.inl (by simp)) d⟩
   |outgrown=>exact⟨_,j,o,f,.pass (x:=.inLoop c) rfl (λ_ _=>.inl (by simp)) d⟩
 obtain⟨e,i,w',f,d⟩:=key _ a w v;exact⟨e,i,w',f,.of_steps (.one step_loop) d⟩
theorem nS{P:Program}{k0:Nat}{bad:List Nat}(aD:P.follows .mixedOrders=true):∀(c:Code){Q:Exit->St->Prop}{st:St}(_:AC P k0 bad c Q st){g:Gh}{a:Act}{w:World}(_:nR g.N bad c=true∧g.n0<=k0)(_:Sim g st a w){k:Exit->Act->World->Prop}
 (_:∀e st' g' d w',Q e st'->g.to g'->Sim g' st' d w'->k e d w'),c.wp P k a w
 |.skip,Q,st,h,g,a,w,⟨ho,h0⟩,hs,k,b=>wp_skip (b _ _ g _ _ h hs.refl_to hs)
 |.exit id,Q,st,h,g,a,w,⟨ho,h0⟩,hs,k,b=>wp_exit (b _ _ g _ _ h hs.refl_to hs)
 |.ret,Q,st,h,g,a,w,⟨ho,h0⟩,hs,k,b=>wp_ret (b _ _ g _ _ h hs.refl_to hs)
 |.region id ops q,Q,st,h,g,a,w,⟨ho,h0⟩,hs,k,b=>by
  simp only[nR,S9,Um,TU]at ho;simp only[AC]at h;cases q with
  |false=>
   rw[SU (by simp)]at h;split at h
   .exact wp_region_list (h g a w h0 hs ho.1 _ λst' g' d w'=>b _ st' g' d w')
   .exact wp_region_list (DJ ops.toList h hs ho.1 λst' g' d w'=>b _ st' g' d w')
  |true=>
   rw[SX rfl]at h;split at h
   .exact HX aD h h0 hs ho.1 λst' g' d w'=>b _ st' g' d w'
   .rename_i F;refine HR aD ((ho.2.resolve_left (by simp)).resolve_left (by simpa using F)) h hs ho.1 λst' g' d w'=>b _ st' g' d w'
 |.seq x y,Q,st,h,g,a,w,⟨ho,h0⟩,hs,k,b=>by
  simp only[nR,S9]at ho;simp only[AC]at h;refine wp_seq (nS aD x h ⟨ho.1,h0⟩ hs λe st' g' d w' f j s'=>?_);cases e with
  |normal=>exact nS aD y f ⟨by rw[j.N];exact ho.2,by rw[j.n0];exact h0⟩ s' λA p g2 z R J O L=>b A p g2 z R J (j.trans O) L
  |exit id=>exact b _ st' g' d w' f j s'
  |goto l=>exact b _ st' g' d w' f j s'
  |ret=>exact b _ st' g' d w' f j s'
  |panic r=>exact b _ st' g' d w' f j s'
  |outgrown=>exact b _ st' g' d w' f j s'
 |.cond c x y,Q,st,h,g,a,w,⟨ho,h0⟩,hs,k,b=>by
  simp only[nR,S9]at ho;simp only[AC]at h;obtain⟨h1,o,t,C⟩:=h;exact wp_cond_split (kz hs h1 o) (λht=>nS aD x (t ht) ⟨ho.1,h0⟩ hs b) (λE=>nS aD y (C E) ⟨ho.2,h0⟩ hs b)
 |.block id x,Q,st,h,g,a,w,⟨ho,h0⟩,hs,k,b=>by
  simp only[nR]at ho;simp only[AC]at h;refine wp_block (nS aD x h ⟨ho,h0⟩ hs λe st' g' d w' f j s'=>?_);cases e with
  |exit i=>
   simp only[xf]at f;simp only[Exit.inBlock];split
   .rename_i s;rw[SX s]at f;exact b _ st' g' d w' f j s'
   .rename_i s;rw[SU s]at f;exact b _ st' g' d w' f j s'
  |normal=>exact b _ st' g' d w' f j s'
  |goto l=>exact b _ st' g' d w' f j s'
  |ret=>exact b _ st' g' d w' f j s'
  |panic r=>exact b _ st' g' d w' f j s'
  |outgrown=>exact b _ st' g' d w' f j s'
 |.loop x,Q,st,h,g,a,w,⟨ho,h0⟩,hs,k,b=>by
  simp only[nR]at ho;simp only[AC]at h;unfold ax at h;obtain⟨I,⟨n,st1,H,D⟩,G⟩:=h;obtain⟨B,t1,K⟩:=H g a w h0 hs;refine yR (λn a w=>∃st g',I n st∧g.to g'∧Sim g' st a w) (λn a w ⟨st,g',h1,o,t⟩=>?_) (n:=n) ⟨st1,B,D,t1,K⟩;refine nS aD x (G n st h1) ⟨by rw[o.N];exact ho,by rw[o.n0];exact h0⟩ t λe st' g2 d w' f j s'=>?_;cases e with
  |normal=>
   obtain⟨m,p,v,hwk,u⟩:=f;obtain⟨g3,t3,M⟩:=hwk g2 d w' (by rw[j.n0,o.n0];exact h0) s';exact⟨m,v,p,g3,u,(o.trans j).trans t3,M⟩
  |exit id=>exact b _ st' g2 d w' f (o.trans j) s'
  |goto l=>exact b _ st' g2 d w' f (o.trans j) s'
  |ret=>exact b _ st' g2 d w' f (o.trans j) s'
  |panic r=>exact b _ st' g2 d w' f (o.trans j) s'
  |outgrown=>exact b _ st' g2 d w' f (o.trans j) s'
 |.rangeFunc ..,_,_,h,_,_,_,_,_,_,_=>by simp only[AC]at h
 |.scope x,Q,st,h,g,a,w,⟨ho,h0⟩,hs,k,b=>by
  simp only[nR]at ho;simp only[AC]at h;refine wp_scope_straight (nS aD x h ⟨ho,h0⟩ hs λe st' g' d w' f j s'=>?_);cases e with
  |goto l=>exact f.elim
  |normal=>exact b _ st' g' d w' f j s'
  |exit i=>exact b _ st' g' d w' f j s'
  |ret=>exact b _ st' g' d w' f j s'
  |panic r=>exact b _ st' g' d w' f j s'
  |outgrown=>exact b _ st' g' d w' f j s'
 |.label _,Q,st,h,g,a,w,⟨ho,h0⟩,hs,k,b=>wp_label (b _ _ g _ _ h hs.refl_to hs)
 |.goto _,_,_,h,_,_,_,_,_,_,_=>by simp only[AC]at h
 |.refuse _,_,_,h,_,_,_,_,_,_,_=>by simp only[AC]at h
end Go.AX
namespace Go.AX
def fV:Nat->List PV->List (Nat×SV)
 |_,[]=>[]
 |k,x::xs=>(k,.pv x)::fV (k+1) xs
def ll(K:St->Prop)(e:Exit)(st:St):Prop:=
 match e with
 |.normal=>K st
 |.ret=>K st
 |_=>False
def Lj(t:Nat)(R:SV->Prop)(st:St):Prop:=
 match look st.t t with
 |.pv x=>R (.pv x)
 |.own nw e rows=>R (.own nw e rows)
 |.omap nw es=>R (.omap nw es)
 |.al p=>(aa st p).isOwn=true∧R (aa st p)
 |.opt c (.pv x)=>c∧R (.pv x)
 |.loc p lo hi=>match aa st p with
  |.own nw e rows=>lo=0∧R (.own nw e (rows.take hi))
  |_=>False
 |_=>False
def NC(ts:List Nat)(R:SV->Prop)(st:St):Prop:=(cL st (ts.map .tmp)).2.2∧R (.pv (.tup (cL st (ts.map .tmp)).1))
theorem jQ(g:Gh):∀(args:List PV)(vs:List Value)(k s:Nat),ak g args vs->∀(w:World),az g w (look (fV k args) s) (if s<k then undef else vs.getD (s -k) undef) none
 |[],vs,k,s,h,w=>⟨rfl,trivial⟩
 |x::xs,_,k,s,⟨v,r,h1,c,a⟩,w=>by
  subst h1;simp only[fV,look]
  by_cases e:k=s
  .subst e;rw[SX rfl,SU (by omega),U8];exact⟨rfl,c⟩
  .rw[SU e]
   by_cases b:s<k
   .rw[SX b];have:=jQ g xs r (k+1) s a w;rw[SX (by omega)]at this;exact this
   .rw[SU b];have:=jQ g xs r (k+1) s a w;rw[SU (by omega)]at this;rw[show s -k=(s -(k+1))+1 by omega];exact this
theorem lm:∀(args:List PV)(k s:Nat),(∃x,look (fV k args) s=.pv x)
 |[],_,_=>⟨_,rfl⟩
 |x::xs,k,s=>by
  simp only[fV,look];split
  .exact⟨_,rfl⟩
  .exact lm xs (k+1) s
def lp(w:World)(N:Nat):Gh:={du w with N:=N}
theorem vx{w:World}{N:Nat}{args:List PV}{vs:List Value}(h:ak (du w) args vs):ak (lp w N) args vs:=ak.mono (g:=du w) (g':=lp w N) ⟨λ_ _ h=>h,SY _,SY _,λ_ _=>rfl⟩ _ _ h
theorem vy{w:World}{N:Nat}{args:List PV}{vs:List Value}(h:ak (du w) args vs)(hn:args.length<=N):
    Sim (lp w N) ⟨fV 0 args,[]⟩ {tmps:=vs.toArray++Array.replicate (N -vs.toArray.size) undef,defers:=[]} w:=by
  have hl:=h.length
  have hv:∀s,(vs.toArray++Array.replicate (N -vs.toArray.size) undef).getD s undef=vs.getD s undef:=by
    intro s
    simp only[Tg,SS,Wb,T8,WR,UK]
    split
    · rfl
    · rename_i hs
      rw[TL (by omega)]
      split<;>rfl
  refine { size := ?_, defs := rfl, env := rfl, n := rfl, n0 := SY _, B := SY _, I := λ c o hc => hc, F := λ c o hc => (by cases hc), μI := λ b hb => absurd hb (Vj _), μinj := λ b b' hb => absurd hb (Vj _),
           own:=⟨λ_=>none,?_⟩,al:=λs=>?_}
  · show(vs.toArray++Array.replicate (N -vs.toArray.size) undef).size=N
    simp;omega
  · refine{slots:=λs=>?_,blocks:=λb xs hx=>(by simp at hx),inj:=λp q c hp=>(by cases hp),free:=λp c hp=>by cases hp}
    show az _ w _ ((vs.toArray++Array.replicate (N -vs.toArray.size) undef).getD s undef) none
    rw[hv]
    have:=jQ (lp w N) args vs 0 s (vx h) w
    simpa using this
  · obtain⟨x,hx⟩:=lm args 0 s
    simp only[hx];trivial
theorem iN{w w':World}{N:Nat}{g':Gh}{st':St}{b:Act}(ht:(lp w N).to g')(hs:Sim g' st' b w'):PureEnd w w' g':=by
 have a:∀c,c<w.heap.size->w'.heap[c]?=w.heap[c]?:=λc d=>by
  have:w.heap[c]?=some w.heap[c]:=Ti d;rw[hs.I c _ (ht.I c _ this),this]
 refine⟨ht.B,hs.env.trans ht.env,a,?_,hs.I⟩;cases e:w.heap.size with
 |zero=>exact Tf _
 |succ n=>
  have h1:=a n (by omega);rw[Ti (show n<w.heap.size by omega)]at h1;have:=(Td.1 h1).1;omega
theorem rZ{w w':World}{N:Nat}{g':Gh}{st':St}{b:Act}(ht:(lp w N).to g'){bl:Pos->Option Nat}(d:Owns g' st' b w' bl){p:Pos}:∀c,bl p=some c->w.heap.size<=c∧g'.I c=none:=λc e=>by
 have h1:=(d.free p c e).1;refine⟨UF λa=>?_,h1⟩;have:=ht.I c _ (show w.heap[c]?=some w.heap[c]from Ti a);rw[h1]at this;cases this
theorem pp{P:Program}{bad:List Nat}{f:FuncId}{fn:Func}{c:Code}{args:List PV}{R:SV->Prop}{K:St->Prop}(aD:P.follows .mixedOrders=true)(t:P.funcs[f]?=some fn)(a:aF P f=true)(s:fn.body=some c)(d:nR fn.ntmps bad c=true)
 (hn:args.length<=fn.ntmps) (h:AC P 0 bad c (ll K) ⟨fV 0 args,[]⟩)
 (q:∀(w w':World)(g':Gh)(st':St)(b:Act),K st'->(lp w fn.ntmps).to g'->Sim g' st' b w'->∃v r g2 o,(results fn b.tmps).run P w'=.ok v w'∧R r∧PureEnd w w' g2∧az g2 w' r v o∧r.inCell=true∧∀c,o=some c->w.heap.size<=c∧g2.I c=none):
 aj P f args R:=by
 refine⟨a,λw vs u=>?_⟩;refine calls_of_wp t s ?_;have hs:=vy (N:=fn.ntmps) u hn;refine nS aD c h (g:=lp w fn.ntmps) ⟨d,SY _⟩ hs λe st' g' b w' i x s'=>?_;have fin:K st'->b.defers=[]∧∃v,(results fn b.tmps).run P w'=.ok v w'∧∃j r g' o,Ending.returned v=.returned j∧R r∧PureEnd w w' g'∧az g' w' r j o∧r.inCell=true∧∀c,o=some c->w.heap.size<=c∧g'.I c=none:=λhk=>by
  obtain⟨v,r,g2,o,h1,k,l,m,n,p⟩:=q w w' g' st' b hk x s';exact⟨s'.defs,v,h1,v,r,g2,o,rfl,k,l,m,n,p⟩
 cases e with
 |normal=>exact fin i
 |ret=>exact fin i
 |_=>exact i.elim
theorem r8{P:Program}(bad:List Nat){f:FuncId}{fn:Func}{c:Code}{args:List PV}{R:SV->Prop}{t:Nat}(aD:P.follows .mixedOrders=true)(n:P.funcs[f]?=some fn)(h:AC P 0 bad c (ll (Lj t R)) ⟨fV 0 args,[]⟩)(i:aF P f=true:=by kernel_rfl)(g:fn.body=some c:=by rfl)(j:fn.results=#[.tmp t]:=by rfl) (m:nR fn.ntmps bad c=true:=by kernel_rfl) (hn:args.length<=fn.ntmps:=by exact T9 rfl):aj P f args R:=by
 refine pp aD n i g m hn h λw w' g' st' q hk k s'=>?_;obtain⟨bl,g⟩:=s'.own;have a:=g.slots t;have d:=s'.al t;have b:=iN k s';unfold Lj at hk;split at hk
 .rename_i x hx;rw[hx]at a;exact⟨_,.pv x,g',none,results_tmp j _ _ _,hk,b,⟨rfl,a.2⟩,rfl,λc l=>by cases l⟩
 .rename_i nw e rows hx;rw[hx]at a;exact⟨_,_,g',_,results_tmp j _ _ _,hk,b,a,rfl,rZ k g⟩
 .rename_i nw es hx;rw[hx]at a;exact⟨_,_,g',_,results_tmp j _ _ _,hk,b,a,rfl,rZ k g⟩
 .rename_i p hx;rw[hx]at d;have o:=d hk.1;refine⟨_,aa st' p,g',bl p,results_tmp j _ _ _,hk.2,b,by rw[o];exact bn g hk.1,?_,rZ k g⟩;cases hp:aa st' p<;>first|rfl|(rw[hp]at hk;cases hk.1)
 .rename_i r x hx;rw[hx]at a;exact⟨_,.pv x,g',none,results_tmp j _ _ _,hk.2,b,⟨rfl,(a.2.2 hk.1).2⟩,rfl,λc l=>by cases l⟩
 .rename_i p lo hi hx;rw[hx]at d;split at hk
  .rename_i nw e rows hp;obtain⟨rfl,hk⟩:=hk;exact⟨_,_,g',bl p,results_tmp j _ _ _,hk,b,rU g hp d,rfl,rZ k g⟩
  .exact hk.elim
 .exact hk.elim
theorem ap{P:Program}{f:FuncId}{fn:Func}{c:Code}{args:List PV}{R:SV->Prop}{t:Nat}(aD:P.follows .mixedOrders=true)(e:P.funcs[f]?=some fn)(h:AC P 0 [] c (ll (Lj t R)) ⟨fV 0 args,[]⟩)(a:aF P f=true:=by kernel_rfl)(d:fn.body=some c:=by rfl)(g:fn.results=#[.tmp t]:=by rfl) (b:nR fn.ntmps [] c=true:=by kernel_rfl) (hn:args.length<=fn.ntmps:=by exact T9 rfl):aj P f args R:=r8 [] aD e h a d g b hn
def ND(P:Program)(t:Nat)(T:TypeId)(R:SV->Prop)(st:St):Prop:=
 gc st (.tmp t)∧(Bb P st T (mv st (.tmp t))).2∧wK (Bb P st T (mv st (.tmp t))).1∧R (Bb P st T (mv st (.tmp t))).1
theorem xh{P:Program}{fn:Func}{t:Nat}{T:TypeId}(e:fn.results=#[.cell t T]) {g:Gh} {st:St} {a:Act} {w:World} (hs:Sim g st a w) (d:gc st (.tmp t)) (hd:(Bb P st T (mv st (.tmp t))).2):
 ∃v,(results fn a.tmps).run P w=.ok v w∧az g w (Bb P st T (mv st (.tmp t))).1 v none:=by
 obtain⟨v,h1,c,_⟩:=Bi (P:=P) (st:=st) {dst:=none,op:=.load T (.tmp t),type:=0,pos:= "",after:=#[],guard:=none} T (.tmp t) rfl g a w hs ⟨d,hd⟩;refine⟨v,?_,c⟩;simp only[execOp,Act.eval]at h1;have key:(asAddr (a.tmps.getD t undef)>>=loadVar T).run P w=.ok v w:=by
  generalize a.tmps.getD t undef=u at h1;cases u with
  |pointer q=>
   cases q with
   |some q=>
    simp only[Instr.loadAt,Instr.sureAddr,Sem.run_bind,Sem.run_pure,Result.andThen_ok]at h1;simp only[asAddr,Sem.run_bind,Sem.run_pure,Result.andThen_ok];cases b:(loadVar T q).run P w with
    |ok x f=>rw[b]at h1;simp at h1;obtain⟨rfl,rfl⟩:=h1;rfl
    |halt x f=>rw[b]at h1;cases h1
   |none=>simp[Instr.loadAt,Instr.sureAddr,stuck]at h1
  |_=>simp[Instr.loadAt,Instr.sureAddr,stuck]at h1
 simp only[results,e];simpa using key
theorem Lk{P:Program}(bad:List Nat){f:FuncId}{fn:Func}{c:Code}{args:List PV}{R:SV->Prop}{t:Nat}{T:TypeId}(aD:P.follows .mixedOrders=true)(l:P.funcs[f]?=some fn)(h:AC P 0 bad c (ll (ND P t T R)) ⟨fV 0 args,[]⟩)(a:aF P f=true:=by kernel_rfl)(j:fn.body=some c:=by rfl)(m:fn.results=#[.cell t T]:=by rfl) (d:nR fn.ntmps bad c=true:=by kernel_rfl) (hn:args.length<=fn.ntmps:=by exact T9 rfl):aj P f args R:=by
 refine pp aD l a j d hn h λw w' g' st' p hk o s'=>?_;obtain⟨h1,g,i,e⟩:=hk;obtain⟨v,n,b⟩:=xh (P:=P) m s' h1 g;rw[kX i]at b e;exact⟨_,_,g',none,n,e,iN o s',b,rfl,λc k=>by cases k⟩
theorem NE{P:Program}{f:FuncId}{fn:Func}{c:Code}{args:List PV}{R:SV->Prop}{t:Nat}{T:TypeId}(aD:P.follows .mixedOrders=true)(e:P.funcs[f]?=some fn)(h:AC P 0 [] c (ll (ND P t T R)) ⟨fV 0 args,[]⟩)(a:aF P f=true:=by kernel_rfl)(d:fn.body=some c:=by rfl)(g:fn.results=#[.cell t T]:=by rfl) (b:nR fn.ntmps [] c=true:=by kernel_rfl) (hn:args.length<=fn.ntmps:=by exact T9 rfl):aj P f args R:=Lk [] aD e h a d g b hn
theorem DO{P:Program}(bad:List Nat){f:FuncId}{fn:Func}{c:Code}{args:List PV}{R:SV->Prop}(ts:List Nat)(aD:P.follows .mixedOrders=true)(i:P.funcs[f]?=some fn)(j:∀tmps w,(results fn tmps).run P w=.ok (.tuple (ts.map λt=>tmps.getD t undef).toArray) w)(h:AC P 0 bad c (ll (NC ts R)) ⟨fV 0 args,[]⟩)(a:aF P f=true:=by kernel_rfl)(e:fn.body=some c:=by rfl)(b:nR fn.ntmps bad c=true:=by kernel_rfl)(hn:args.length<=fn.ntmps:=by exact T9 rfl):aj P f args R:=by
 refine pp aD i a e b hn h λw w' g' st' n hk l s'=>?_;obtain⟨g2,m,_,_,k,d⟩:=ng _ s' hk.1;refine⟨_,_,g2,none,j _ _,hk.2,iN (l.trans m) k,⟨rfl,_,rfl,?_⟩,rfl,λc g=>by cases g⟩;simpa[TX,VV,Act.eval]using d
theorem mC{P:Program}{f:FuncId}{fn:Func}{c:Code}{args:List PV}{R:SV->Prop}(ts:List Nat)(aD:P.follows .mixedOrders=true)(e:P.funcs[f]?=some fn)(g:∀tmps w,(results fn tmps).run P w=.ok (.tuple (ts.map λt=>tmps.getD t undef).toArray) w)(h:AC P 0 [] c (ll (NC ts R)) ⟨fV 0 args,[]⟩)(a:aF P f=true:=by kernel_rfl)(d:fn.body=some c:=by rfl)(b:nR fn.ntmps [] c=true:=by kernel_rfl)(hn:args.length<=fn.ntmps:=by exact T9 rfl):aj P f args R:=DO [] ts aD e g h a d b hn
/-! ### Results of any kind -/
def xi(P:Program)(st:St):ResultVar->PV×St×Prop
 |.tmp t=>b6 st (.tmp t)
 | .cell t T => (l5 (Bb P (gu P st T (.tmp t)) T (mv (gu P st T (.tmp t)) (.tmp t))).1, gu P st T (.tmp t),
  gc (gu P st T (.tmp t)) (.tmp t)∧(Bb P (gu P st T (.tmp t)) T (mv (gu P st T (.tmp t)) (.tmp t))).2∧wK (Bb P (gu P st T (.tmp t)) T (mv (gu P st T (.tmp t)) (.tmp t))).1)
def gQ(P:Program)(st:St):List ResultVar->List PV×St×Prop
 |[]=>([],st,True)
 |r::rs=>((xi P st r).1::(gQ P (xi P st r).2.1 rs).1,(gQ P (xi P st r).2.1 rs).2.1,(xi P st r).2.2∧(gQ P (xi P st r).2.1 rs).2.2)
def mD:List PV->PV
 |[x]=>x
 |xs=>.tup xs
def sU(tmps:Array Value):ResultVar->Sem Value
 |.tmp t=>pure (tmps.getD t undef)
 |.cell a t=>do loadVar t (←asAddr (tmps.getD a undef))
theorem yS{P:Program}{t:Nat}{T:TypeId}{g:Gh}{st:St}{a:Act}{w:World}(hs:Sim g st a w)(d:gc st (.tmp t))(hd:(Bb P st T (mv st (.tmp t))).2):
 ∃v,(sU a.tmps (.cell t T)).run P w=.ok v w∧az g w (Bb P st T (mv st (.tmp t))).1 v none:=by
 obtain⟨v,h1,c,_⟩:=Bi (P:=P) (st:=st) {dst:=none,op:=.load T (.tmp t),type:=0,pos:= "",after:=#[],guard:=none} T (.tmp t) rfl g a w hs ⟨d,hd⟩;refine⟨v,?_,c⟩;simp only[execOp,Act.eval]at h1;have key:(asAddr (a.tmps.getD t undef)>>=loadVar T).run P w=.ok v w:=by
  generalize a.tmps.getD t undef=u at h1;cases u with
  |pointer q=>
   cases q with
   |some q=>
    simp only[Instr.loadAt,Instr.sureAddr,Sem.run_bind,Sem.run_pure,Result.andThen_ok]at h1;simp only[asAddr,Sem.run_bind,Sem.run_pure,Result.andThen_ok];cases b:(loadVar T q).run P w with
    |ok x e=>rw[b]at h1;simp at h1;obtain⟨rfl,rfl⟩:=h1;rfl
    |halt x e=>rw[b]at h1;cases h1
   |none=>simp[Instr.loadAt,Instr.sureAddr,stuck]at h1
  |_=>simp[Instr.loadAt,Instr.sureAddr,stuck]at h1
 exact key
theorem Ll{P:Program}(r:ResultVar){g:Gh}{st:St}{a:Act}{w:World}(h:Sim g st a w)(hd:(xi P st r).2.2):
 ∃g',g.to g'∧g.le g'∧g'.n=g.n∧Sim g' (xi P st r).2.1 a w∧∃v,(sU a.tmps r).run P w=.ok v w∧Fit g' (xi P st r).1 v:=by
 cases r with
 |tmp t=>
  obtain⟨c,t1,d,e,b,i⟩:=mq h (.tmp t) hd;exact⟨c,t1,d,e,b,a.tmps.getD t undef,rfl,i⟩
 |cell t T=>
  obtain⟨h1,j,k⟩:=hd;obtain⟨c,t1,d,e,b⟩:=vp (P:=P) T (.tmp t) h;obtain⟨v,l,f⟩:=yS b h1 j;rw[kX k]at f;exact⟨c,t1,d,e,b,v,l,f.2⟩
theorem pq{P:Program}:∀(rs:List ResultVar){g:Gh}{st:St}{a:Act}{w:World},Sim g st a w->(gQ P st rs).2.2->
 ∃g',g.to g'∧g.le g'∧g'.n=g.n∧Sim g' (gQ P st rs).2.1 a w∧∃vs,(rs.mapM (sU a.tmps)).run P w=.ok vs w∧ak g' (gQ P st rs).1 vs
 |[],g,st,a,w,h,_=>⟨g,h.refl_to,Gh.le.refl g,rfl,h,[],rfl,rfl⟩
 |r::rs,g,st,a,w,h,hd=>by
  obtain⟨x,t1,e,f,s,v,k,m⟩:=Ll r h hd.1;obtain⟨g2,u,d,j,t,vs,l,p⟩:=pq rs s hd.2;refine⟨g2,t1.trans u,⟨λc o q=>d.I _ _ (e.I _ _ q),TD d.B e.B,by rw[j,f];exact SY _,λb i=>by rw[d.μ b (by rw[f];exact i),e.μ b i]⟩,j.trans f,t,v::vs,?_,v,vs,rfl,Fit.mono d _ _ m,p⟩;simp only[List.mapM_cons,Sem.run_bind,k,Result.andThen_ok,l,Sem.run_pure]
theorem jk{P:Program}{fn:Func}{rs:List ResultVar}(j:fn.results=rs.toArray){g:Gh}{a:Act}{w:World}{xs:List PV}{vs:List Value}(d:xs.length=rs.length)(h:(rs.mapM (sU a.tmps)).run P w=.ok vs w)(c:ak g xs vs):
 ∃v,(results fn a.tmps).run P w=.ok v w∧Fit g (mD xs) v:=by
 have i:results fn a.tmps=(do let vs←fn.results.mapM (sU a.tmps);pure (if h:vs.size=1 then vs[0]else .tuple vs)):=by
  unfold results;congr 1
 have b:=c.length;rw[i,j,List.mapM_toArray];simp only[Sem.run_bind,Sem.run_map,h,Result.andThen_ok,Sem.run_pure]
 by_cases h1:vs.length=1
 .obtain⟨v,rfl⟩:=Vs.1 h1;obtain⟨x,rfl⟩:∃x,xs=[x]:=Vs.1 (by rw[←b];rfl);refine⟨v,by simp,?_⟩;obtain⟨k,r,e,f,_⟩:=c;cases e;exact f
 .refine⟨.tuple vs.toArray,by rw[dif_neg (by simpa using h1)],?_⟩;have:mD xs=.tup xs:=by
   match xs,b with
   |[],_=>rfl
   |[x],d=>exact absurd d h1
   |x::y::r,_=>rfl
  rw[this];exact⟨vs.toArray,rfl,by simpa using c⟩
theorem mE{P:Program}:∀(rs:List ResultVar)(st:St),(gQ P st rs).1.length=rs.length
 |[],_=>rfl
 |r::rs,st=>by simp only[gQ,Ty,mE rs]
def Pj(P:Program)(rs:List ResultVar)(R:SV->Prop)(st:St):Prop:=(gQ P st rs).2.2∧R (.pv (mD (gQ P st rs).1))
theorem iO{P:Program}(bad:List Nat){f:FuncId}{fn:Func}{c:Code}{args:List PV}{R:SV->Prop}(rs:List ResultVar)(aD:P.follows .mixedOrders=true)(l:P.funcs[f]?=some fn)(h:AC P 0 bad c (ll (Pj P rs R)) ⟨fV 0 args,[]⟩)(a:aF P f=true:=by kernel_rfl)(j:fn.body=some c:=by rfl)(m:fn.results=rs.toArray:=by rfl)(b:nR fn.ntmps bad c=true:=by kernel_rfl)(hn:args.length<=fn.ntmps:=by exact T9 rfl):aj P f args R:=by
 refine pp aD l a j b hn h λw w' g' st' q hk o s'=>?_;obtain⟨g2,p,r,s,n,vs,d,g⟩:=pq rs s' hk.1;obtain⟨v,e,i⟩:=jk m (mE rs st') d g;exact⟨v,_,g2,none,e,hk.2,iN (o.trans p) n,⟨rfl,i⟩,rfl,λc k=>by cases k⟩
end Go.AX
namespace Go.AX
open Classical
noncomputable def K4 (g:Gh) (w:World) (bl:Pos->Option Nat) (N:Nat):Gh:=
 {I:=g.I,F:=λc=>if∃s,bl (.slot s)=some c then w.heap[c]?else g.F c,B:=g.B,μ:=g.μ,n:=g.n,n0:=g.n,N:=N,env:=g.env}
theorem yT{g:Gh}{st:St}{a:Act}{w:World}{bl:Pos->Option Nat}(d:Owns g st a w bl)(N:Nat){s c:Nat}(h:bl (.slot s)=some c):∃o,(K4 g w bl N).F c=some o∧w.heap[c]?=some o:=by
 have b:=(d.free _ c h).2.2.1;refine⟨w.heap[c],?_,Ti b⟩;show(if∃s,bl (.slot s)=some c then w.heap[c]?else g.F c)=_;rw[SX ⟨s,h⟩,Ti b]
theorem sV{g:Gh}{st:St}{a:Act}{w:World}{bl:Pos->Option Nat}(d:Owns g st a w bl){N c:Nat}(h:(K4 g w bl N).F c=none):g.F c=none∧∀s,bl (.slot s)≠some c:=by
 have b:∀s,bl (.slot s)≠some c:=λs hs=>by
  obtain⟨o,h1,_⟩:=yT d N hs;rw[h]at h1;cases h1
 refine⟨?_,b⟩;have:(if∃s,bl (.slot s)=some c then w.heap[c]?else g.F c)=none:=h
 rwa [SU (λ⟨s,hs⟩=>b s hs)]at this
theorem HY{g:Gh}{st:St}{a:Act}{w:World}(h:Sim g st a w){bl:Pos->Option Nat}(hb:Owns g st a w bl){N:Nat}{args:List PV}{vs:List Value}(hv:ak g args vs)(hn:args.length<=N):
    Sim (K4 g w bl N) ⟨fV 0 args,st.h⟩ {tmps:=vs.toArray++Array.replicate (N -vs.toArray.size) undef,defers:=[]} w:=by
  have hl:=hv.length
  have hle:g.le (K4 g w bl N):=⟨λ_ _ h=>h,SY _,SY _,λ_ _=>rfl⟩
  have hgd:∀s,(vs.toArray++Array.replicate (N -vs.toArray.size) undef).getD s undef=vs.getD s undef:=by
    intro s
    simp only[Tg,SS,Wb,T8,WR,UK]
    split
    · rfl
    · rename_i hs
      rw[TL (by omega)]
      split<;>rfl
  refine { size := ?_, defs := rfl, env := h.env, n := h.n, n0 := SY _, B := h.B, I := h.I, F := λ c o hc => ?_, μI := λ b hbn => ⟨(h.μI b hbn).1, ?_⟩, μinj := h.μinj,
           own:=⟨λp=>match p with|.slot _=>none|.cell b k=>bl (.cell b k),?_⟩,al:=λs=>?_}
  · show(vs.toArray++Array.replicate (N -vs.toArray.size) undef).size=N
    simp;omega
  · change(if∃s,bl (.slot s)=some c then w.heap[c]?else g.F c)=some o at hc
    split at hc
    · exact hc
    · exact h.F c o hc
  · show(if∃s,bl (.slot s)=some (g.μ b)then w.heap[g.μ b]?else g.F (g.μ b))=none
    rw[SU (λ⟨s,hs⟩=>(hb.free _ _ hs).2.2.2 b hbn rfl)]
    exact(h.μI b hbn).2
  · refine{slots:=λs=>?_,blocks:=λb xs hx=>?_,inj:=λp q c hp hq=>?_,free:=λp c hp=>?_}
    · show az _ w _ ((vs.toArray++Array.replicate (N -vs.toArray.size) undef).getD s undef) none
      rw[hgd]
      have:=jQ (K4 g w bl N) args vs 0 s (ak.mono hle _ _ hv) w
      simpa using this
    · obtain⟨arr,T,h1,h2,h3⟩:=hb.blocks b xs hx
      exact⟨arr,T,h1,h2,λk x hk=>⟨(h3 k x hk).1,az.frame hle (λ_ _=>rfl) (h3 k x hk).2⟩⟩
    · cases p with
      |slot s=>cases hp
      |cell b k=>
        cases q with
        |slot s=>cases hq
        |cell b' k'=>exact hb.inj _ _ c hp hq
    · cases p with
      |slot s=>cases hp
      |cell b k=>
        obtain⟨f1,f2,f3,f4⟩:=hb.free _ c hp
        refine⟨f1,?_,f3,f4⟩
        show(if∃s,bl (.slot s)=some c then w.heap[c]?else g.F c)=none
        rw[SU (λ⟨s,hs⟩=>by have:=hb.inj _ _ c hs hp;cases this)]
        exact f2
  · obtain⟨x,hx⟩:=lm args 0 s
    simp only[hx];trivial
def sW(g g2:Gh):Gh:={g2 with F:=g.F,n0:=g.n0,N:=g.N}
theorem HZ{g:Gh}{st:St}{a:Act}{w:World}(h:Sim g st a w){bl:Pos->Option Nat}(i:Owns g st a w bl){N:Nat}{g2:Gh}(t:(K4 g w bl N).to g2):g.to (sW g g2):=
 ⟨t.I,rfl,t.B,rfl,rfl,t.env,TD h.n0 t.n,λb d=>t.μ b (Uk d h.n0),λc e f=>t.FI c (λhn=>e (sV i hn).1) f⟩
theorem DP{g:Gh}{st:St}{a:Act}{w:World}(h:Sim g st a w){bl:Pos->Option Nat}(A:Owns g st a w bl){N:Nat}{g2:Gh}(t:(K4 g w bl N).to g2){j:St}{M:Act}{C:World}(l:Sim g2 j M C)
 {y:Pos->Option Nat} (f:Owns g2 j M C y):Sim (sW g g2) ⟨aG eD st.t,j.h⟩ a C∧
  Owns (sW g g2) ⟨aG eD st.t,j.h⟩ a C (λp=>match p with|.slot s=>bl (.slot s)|.cell b k=>y (.cell b k)):=by
 have m:g2.F=(K4 g w bl N).F:=t.F;have hle:g.le (sW g g2):=⟨t.I,by show g2.B<=g.B;rw[t.B];exact SY _,t.n,λb d=>t.μ b d⟩;have E:g2.le (sW g g2):=⟨λ_ _ h=>h,SY _,SY _,λ_ _=>rfl⟩;have i:∀s c,bl (.slot s)=some c->∃o,g2.F c=some o∧w.heap[c]?=some o∧C.heap[c]?=some o:=λs c hs=>by
  obtain⟨o,h1,D⟩:=yT A N hs;rw[←m]at h1;exact⟨o,h1,D,l.F c o h1⟩
 have r:∀c,g2.F c=none->g.F c=none∧∀s,bl (.slot s)≠some c:=λc u=>sV (N:=N) A (by rw[←m];exact u);have v:Owns (sW g g2) ⟨aG eD st.t,j.h⟩ a C (λp=>match p with|.slot s=>bl (.slot s)|.cell b k=>y (.cell b k)):=by
  refine{slots:=λs=>?_,blocks:=λb xs hx=>?_,inj:=λp q c hp G=>?_,free:=λp c hp=>?_}
  .simp only[aW];exact az.frame hle (λc u=>by obtain⟨o,_,D,z⟩:=i s c u;rw[D,z]) (az.kill eD (A.slots s))
  .obtain⟨arr,T,h1,D,z⟩:=f.blocks b xs hx;exact⟨arr,T,h1,D,λk x hk=>⟨(z k x hk).1,az.frame E (λ_ _=>rfl) (z k x hk).2⟩⟩
  .cases p with
   |slot s=>
    cases q with
    |slot s'=>exact A.inj _ _ c hp G
    |cell b k=>exact absurd hp ((r c (f.free _ c G).2.1).2 s)
   |cell b k=>
    cases q with
    |slot s'=>exact absurd G ((r c (f.free _ c hp).2.1).2 s')
    |cell b' k'=>exact f.inj _ _ c hp G
  .cases p with
   |slot s=>
    obtain⟨H,J,O,P⟩:=A.free _ c hp;obtain⟨o,h1,_,z⟩:=i s c hp;refine⟨t.FI c (λhn=>by rw[m,hn]at h1;cases h1) H,J,(Td.1 z).1,λb d e=>?_⟩;have:=(l.μI b d).2
    change g2.μ b=c at e
    rw[e,h1]at this;cases this
   |cell b k=>
    obtain⟨H,J,O,P⟩:=f.free _ c hp;exact⟨H,(r c J).1,O,P⟩
 refine⟨{size:=h.size,defs:=h.defs,env:=l.env,n:=l.n,n0:=TD h.n0 t.n,B:=l.B,I:=l.I,F:=λc o u=>?_,μI:=λb d=>⟨(l.μI b d).1,(r _ (l.μI b d).2).1⟩,μinj:=l.μinj,own:=⟨_,v⟩,al:=λs=>?_},v⟩
 .refine l.F c o ?_;rw[m];show(if∃s,bl (.slot s)=some c then w.heap[c]?else g.F c)=some o;rw[SU (λ⟨s,hs⟩=>by have:=(A.free _ c hs).2.1;change g.F c=some o at u;rw[this]at u;cases u)];exact u
 .simp only[aW];rcases bs eD (look st.t s)with e|⟨e,K⟩
  .rw[e];trivial
  .rw[e];refine bW.congrA (q:=eD) (λp L hp=>?_) K (h.al s);cases p with
   |cell b k=>cases L
   |slot s'=>
    simp only[aa,aW]at hp⊢;exact⟨d4 hp,rfl⟩
theorem pu{P:Program}{bad:List Nat}{f:FuncId}{fn:Func}{c:Code}{args:List PV}{h:List (List SV)}{R:SV->List (List SV)->Prop}{K:St->Prop}(aD:P.follows .mixedOrders=true)(hf:P.funcs[f]?=some fn)(y:aF P f=true)(hb:fn.body=some c)
 (G:nR fn.ntmps bad c=true) (hn:args.length<=fn.ntmps) (hA:AC P h.length bad c (ll K) ⟨fV 0 args,h⟩)
 (hK:∀(g':Gh)(st':St)(u:Act)(w':World),K st'->g'.n0<=h.length->Sim g' st' u w'->∃v r g2 l m o,(results fn u.tmps).run P w'=.ok v w'∧g'.to g2∧Sim g2 l u w'∧Owns g2 l u w' m∧R r l.h∧az g2 w' r v o∧r.inCell=true∧∀c,o=some c->∃t,m (.slot t)=some c):
 aA P f args h R:=by
 refine⟨y,λg st a w vs hs E hv=>?_⟩;refine calls_of_wp hf hb ?_;obtain⟨bl,q⟩:=hs.own;have B:=HY hs q (N:=fn.ntmps) hv hn;rw[E]at B;refine nS aD c hA (g:=K4 g w bl fn.ntmps) ⟨G,by show g.n<=h.length;rw[hs.n,E];exact SY _⟩ B λe st' g' u w' H L s'=>?_;have fin:K st'->u.defers=[]∧∃v,(results fn u.tmps).run P w'=.ok v w'∧∃M r h' g',Ending.returned v=.returned M∧R r h'∧g.to g'∧∀d,ca g.N d->Sim g' (iI d r ⟨aG eD st.t,h'⟩) (a.put d M) w':=λhk=>by
  obtain⟨v,r,g2,l,m,o,h1,U,V,D,W,X,Y,Z⟩:=hK g' st' u w' hk (by rw[L.n0];show g.n<=_;rw[hs.n,E];exact SY _) s';have I:=L.trans U;obtain⟨C,J⟩:=DP hs q I V D;refine⟨s'.defs,v,h1,v,r,l.h,sW g g2,rfl,W,HZ hs q I,λd hd=>?_⟩;have A:g2.le (sW g g2):=⟨λ_ _ h=>h,SY _,SY _,λ_ _=>rfl⟩;have i:az (sW g g2) w' r v o:=az.frame A (λ_ _=>rfl) X;cases d with
  |none=>exact C
  |some d=>
   have j:∀c,o=some c->c<w'.heap.size∧FreeAt (sW g g2) (λp=>match p with|.slot s=>bl (.slot s)|.cell b k=>m (.cell b k)) c:=λc hc=>by
    obtain⟨t,ht⟩:=Z c hc;obtain⟨O,Q,S,T⟩:=D.free _ c ht;have z:=sV (N:=fn.ntmps) q (c:=c) (by rw[←I.F];exact Q);refine⟨S,O,z.1,T,λp hp=>?_⟩;cases p with
    |slot s=>exact z.2 s hp
    |cell b k=>have:=D.inj _ _ c ht hp;cases this
   cases r with
   |pv x=>exact C.put hd (by rw[i.1]at i;exact i) trivial rfl
   |own nw e rows=>exact C.putOwn J hd rfl (SY _) (λ_ _ _=>rfl) i rfl j
   |omap nw es=>exact C.putOwn J hd rfl (SY _) (λ_ _ _=>rfl) i rfl j
   |_=>cases Y
 cases e with
 |normal=>exact fin H
 |ret=>exact fin H
 |_=>exact H.elim
def Lm(t:Nat)(R:SV->List (List SV)->Prop)(st:St):Prop:=
 match look st.t t with
 |.pv x=>R (.pv x) st.h
 |.own nw e rows=>R (.own nw e rows) st.h
 |.omap nw es=>R (.omap nw es) st.h
 |.opt c (.pv x)=>c∧R (.pv x) st.h
 |_=>False
def H0(ts:List Nat)(R:SV->List (List SV)->Prop)(st:St):Prop:=(cL st (ts.map .tmp)).2.2∧R (.pv (.tup (cL st (ts.map .tmp)).1)) (cL st (ts.map .tmp)).2.1.h
theorem NF{P:Program}(bad:List Nat){f:FuncId}{fn:Func}{c:Code}{args:List PV}{h:List (List SV)}{R:SV->List (List SV)->Prop}{t:Nat}(aD:P.follows .mixedOrders=true)(l:P.funcs[f]?=some fn)(k:AC P h.length bad c (ll (Lm t R)) ⟨fV 0 args,h⟩)(g:aF P f=true:=by kernel_rfl)(b:fn.body=some c:=by rfl)(i:fn.results=#[.tmp t]:=by rfl) (j:nR fn.ntmps bad c=true:=by kernel_rfl) (hn:args.length<=fn.ntmps:=by exact T9 rfl):aA P f args h R:=by
 refine pu aD l g b j hn k λg' st' m w' hk _ s'=>?_;obtain⟨bl,b⟩:=s'.own;have a:=b.slots t;unfold Lm at hk;split at hk
 .rename_i x hx;rw[hx]at a;exact⟨_,.pv x,g',st',bl,none,results_tmp i _ _ _,s'.refl_to,s',b,hk,⟨rfl,a.2⟩,rfl,λc d=>by cases d⟩
 .rename_i nw e rows hx;rw[hx]at a;exact⟨_,_,g',st',bl,_,results_tmp i _ _ _,s'.refl_to,s',b,hk,a,rfl,λc d=>⟨t,d⟩⟩
 .rename_i nw es hx;rw[hx]at a;exact⟨_,_,g',st',bl,_,results_tmp i _ _ _,s'.refl_to,s',b,hk,a,rfl,λc d=>⟨t,d⟩⟩
 .rename_i n x hx;rw[hx]at a;exact⟨_,.pv x,g',st',bl,none,results_tmp i _ _ _,s'.refl_to,s',b,hk.2,⟨rfl,(a.2.2 hk.1).2⟩,rfl,λc d=>by cases d⟩
 .exact hk.elim
theorem mF{P:Program}{f:FuncId}{fn:Func}{c:Code}{args:List PV}{h:List (List SV)}{R:SV->List (List SV)->Prop}{t:Nat}(aD:P.follows .mixedOrders=true)(g:P.funcs[f]?=some fn)(d:AC P h.length [] c (ll (Lm t R)) ⟨fV 0 args,h⟩)(a:aF P f=true:=by kernel_rfl)(e:fn.body=some c:=by rfl)(i:fn.results=#[.tmp t]:=by rfl) (b:nR fn.ntmps [] c=true:=by kernel_rfl) (hn:args.length<=fn.ntmps:=by exact T9 rfl):aA P f args h R:=NF [] aD g d a e i b hn
theorem H9{P:Program}(bad:List Nat){f:FuncId}{fn:Func}{c:Code}{args:List PV}{h:List (List SV)}{R:SV->List (List SV)->Prop}(ts:List Nat)(aD:P.follows .mixedOrders=true)(m:P.funcs[f]?=some fn)(n:∀tmps w,(results fn tmps).run P w=.ok (.tuple (ts.map λt=>tmps.getD t undef).toArray) w)(j:AC P h.length bad c (ll (H0 ts R)) ⟨fV 0 args,h⟩)(a:aF P f=true:=by kernel_rfl)(k:fn.body=some c:=by rfl)(e:nR fn.ntmps bad c=true:=by kernel_rfl)(hn:args.length<=fn.ntmps:=by exact T9 rfl):aA P f args h R:=by
 refine pu aD m a k e hn j λg' st' p w' hk _ s'=>?_;obtain⟨g2,o,_,_,g,i⟩:=ng _ s' hk.1;obtain⟨b,d⟩:=g.own;refine⟨_,_,g2,_,b,none,n _ _,o,g,d,hk.2,⟨rfl,_,rfl,?_⟩,rfl,λc l=>by cases l⟩;simpa[TX,VV,Act.eval]using i
theorem vz{P:Program}{f:FuncId}{fn:Func}{c:Code}{args:List PV}{h:List (List SV)}{R:SV->List (List SV)->Prop}(ts:List Nat)(aD:P.follows .mixedOrders=true)(g:P.funcs[f]?=some fn)(i:∀tmps w,(results fn tmps).run P w=.ok (.tuple (ts.map λt=>tmps.getD t undef).toArray) w)(d:AC P h.length [] c (ll (H0 ts R)) ⟨fV 0 args,h⟩)(a:aF P f=true:=by kernel_rfl)(e:fn.body=some c:=by rfl)(b:nR fn.ntmps [] c=true:=by kernel_rfl)(hn:args.length<=fn.ntmps:=by exact T9 rfl):aA P f args h R:=H9 [] ts aD g i d a e b hn
def M9(P:Program)(rs:List ResultVar)(R:SV->List (List SV)->Prop)(st:St):Prop:=(gQ P st rs).2.2∧R (.pv (mD (gQ P st rs).1)) (gQ P st rs).2.1.h
theorem cQ{P:Program}(bad:List Nat){f:FuncId}{fn:Func}{c:Code}{args:List PV}{h:List (List SV)}{R:SV->List (List SV)->Prop}(rs:List ResultVar)(aD:P.follows .mixedOrders=true)(p:P.funcs[f]?=some fn)(m:AC P h.length bad c (ll (M9 P rs R)) ⟨fV 0 args,h⟩)(a:aF P f=true:=by kernel_rfl)(n:fn.body=some c:=by rfl)(q:fn.results=rs.toArray:=by rfl)(e:nR fn.ntmps bad c=true:=by kernel_rfl)(hn:args.length<=fn.ntmps:=by exact T9 rfl):aA P f args h R:=by
 refine pu aD p a n e hn m λg' st' s w' hk _ s'=>?_;obtain⟨g2,r,t,u,g,vs,i,k⟩:=pq rs s' hk.1;obtain⟨v,j,l⟩:=jk q (mE rs st') i k;obtain⟨b,d⟩:=g.own;exact⟨v,_,g2,_,b,none,j,r,g,d,hk.2,⟨rfl,l⟩,rfl,λc o=>by cases o⟩
end Go.AX
namespace Go.AX
attribute [simp] look aa SV.isOwn SV.inCell ev R6 mv R7 gc gi aS gj rP Ba lT rQ Ha Hb Hc kQ iG Fg mi fC oi Fh ym iu rowsOf i9 uY sy ry live qi Dl Fj Bh ld1 wK l5 R8 Bb Oo yo Fk aO dm u9 Fl Oq MZ bnd cP Fm St.put ct aG SV.avoids cX setPos St.grow splice aJ ml Dr Hm pop PV.one bH oq b6 cL putD Dt la eC jN sF frzC vw La PV.nw Lb Bp Lc SV.nwS iI bC jP BE wY wZ DF sM AE io vt sO SV.isFree Ot DH AG gO tmpsOf xb sR looks cg d9 yI kq bots dstsOf SC M5 HV xf BR fV ll Lj NC rY DI xc DM sP pj BF Hz eD Lm H0 wO qX rS ol qk nL je Bk dz entriesOf isMap vf BH yF im HB jf PV.bel bR bI gt SV.bel jI cG dO BO gI eX Rd yJ SV.int SV.bool nk ND qs HE HK HL jG l6 M4 Bc jF w7 BD wT wV Dy mw wU carry Dz qZ nO ld pd Bz Pg K3 mu jO yC jg wW Ny fi kZ BT gu my xi gQ mD Pj M9 partOf rz cV nP Fy qo wX Hu PV.old Br Bt ot DC M2 copyV M3 isLit DA Hx BI wQ vc Pf sN Rb HW xg
@[simp] theorem Ou(k:IntKind)(n:Int):(Value.int k n).cells=#[.int k n]:=rfl
@[simp] theorem R9(k:IntKind)(n:Int):(Value.int k n).oneCell'=true:=rfl
@[simp] theorem Re(b:Bool):(Value.bool b).oneCell'=true:=rfl
@[simp] theorem Ov(s:ByteArray):(Value.string s).oneCell'=true:=rfl
@[simp] theorem Sa(p:Option Addr):(Value.pointer p).oneCell'=true:=rfl
@[simp] theorem Pk(p:Option Addr)(n c:Nat):(Value.slice p n c).oneCell'=true:=rfl
@[simp] theorem Sb(r:Option Nat):(Value.map r).oneCell'=true:=rfl
@[simp] theorem Rf(f:Fn)(a b:Array Value):(Value.func f a b).oneCell'=true:=rfl
@[simp] theorem Rg:List.range 0=[]:=rfl
@[simp] theorem Rh:List.range 1=[0]:=rfl
@[simp] theorem Ri:List.range 2=[0,1]:=rfl
@[simp] theorem Rj:List.range 3=[0,1,2]:=rfl
@[simp] theorem Rk:List.range 4=[0,1,2,3]:=rfl
@[simp] theorem Rl:List.range 5=[0,1,2,3,4]:=rfl
@[simp] theorem Rm:List.range 6=[0,1,2,3,4,5]:=rfl
@[simp] theorem Rn:List.range 7=[0,1,2,3,4,5,6]:=rfl
@[simp] theorem Rp:List.range 8=[0,1,2,3,4,5,6,7]:=rfl
@[simp] theorem Rq:List.range 9=[0,1,2,3,4,5,6,7,8]:=rfl
@[simp] theorem Pm:List.range 10=[0,1,2,3,4,5,6,7,8,9]:=rfl
@[simp] theorem Pn:List.range 11=[0,1,2,3,4,5,6,7,8,9,10]:=rfl
@[simp] theorem Po:List.range 12=[0,1,2,3,4,5,6,7,8,9,10,11]:=rfl
@[simp] theorem Pp:List.range 13=[0,1,2,3,4,5,6,7,8,9,10,11,12]:=rfl
@[simp] theorem Pq:List.range 14=[0,1,2,3,4,5,6,7,8,9,10,11,12,13]:=rfl
@[simp] theorem Ps:List.range 15=[0,1,2,3,4,5,6,7,8,9,10,11,12,13,14]:=rfl
@[simp] theorem Pt:List.range 16=[0,1,2,3,4,5,6,7,8,9,10,11,12,13,14,15]:=rfl
/-! ### Steps: what is still to come stays folded -/
section
variable {P : Program} {k0 : Nat} {bad : List Nat} {Q : Exit -> St -> Prop} {st : St} {K : St -> Prop} {ops : List Oper}
@[simp] theorem Rr:AC P k0 bad .skip Q st=Q .normal st:=rfl
@[simp] theorem NG(id:Nat)(ops:Array Oper):AC P k0 bad (.region id ops false) Q st=if l6 bad id=true then po P k0 ops (Q .normal) st else lj P ops.toList (Q .normal) ops.toList st:=rfl
@[simp] theorem NH(id:Nat)(ops:Array Oper):AC P k0 bad (.region id ops true) Q st=if l6 bad id=true then aT P k0 ops (Q .normal) st else yJ P ops.toList (Q .normal) st:=rfl
@[simp] theorem Sc(x y:Code):AC P k0 bad (.seq x y) Q st=AC P k0 bad x (HV (AC P k0 bad y Q) Q) st:=rfl
@[simp] theorem DQ(c:Operand)(x y:Code):AC P k0 bad (.cond c x y) Q st=(gc st c∧Ba (mv st c)∧(rP (mv st c)=true->AC P k0 bad x Q st)∧(rP (mv st c)=false->AC P k0 bad y Q st)):=rfl
@[simp high] theorem Ow(c:Operand)(x y:Code)(h:rP (mv st c)=true):AC P k0 bad (.cond c x y) Q st=(gc st c∧Ba (mv st c)∧AC P k0 bad x Q st):=by
 rw[DQ,h];exact propext ⟨λ⟨a,b,c,_⟩=>⟨a,b,c rfl⟩,λ⟨a,b,c⟩=>⟨a,b,λ_=>c,λh=>by cases h⟩⟩
@[simp high] theorem Ox(c:Operand)(x y:Code)(h:rP (mv st c)=false):AC P k0 bad (.cond c x y) Q st=(gc st c∧Ba (mv st c)∧AC P k0 bad y Q st):=by
 rw[DQ,h];exact propext ⟨λ⟨a,b,_,c⟩=>⟨a,b,c rfl⟩,λ⟨a,b,c⟩=>⟨a,b,(λh=>by cases h),λ_=>c⟩⟩
@[simp] theorem Pu(id:Nat)(x:Code):AC P k0 bad (.block id x) Q st=AC P k0 bad x (xf id Q) st:=rfl
@[simp] theorem Pv(l:Nat):AC P k0 bad (.label l) Q st=Q .normal st:=rfl
@[simp] theorem Pw(x:Code):AC P k0 bad (.scope x) Q st=AC P k0 bad x (BR Q) st:=rfl
@[simp] theorem Rs(id:Nat):AC P k0 bad (.exit id) Q st=Q (.exit id) st:=rfl
@[simp] theorem Se:AC P k0 bad .ret Q st=Q .ret st:=rfl
@[simp] theorem Rt(x:Code):AC P k0 bad (.loop x) Q st=ax k0 (AC P k0 bad x) Q st:=rfl
@[simp] theorem Px:lj P ops K [] st=K st:=rfl
@[simp] theorem Oy(o:Oper)(rest:List Oper):lj P ops K (o::rest) st=eX P ops o (lj P ops K rest) st:=rfl
end
section
variable {P : Program} {ops : List Oper} {q : Pos -> Bool} {base : St} {K : List (Nat × SV) -> Prop} {acc : List (Nat × SV)} {K0 : St -> Prop}
@[simp] theorem Ru:FB P K0 [] base=K0 base:=rfl
@[simp] theorem Py (o : Oper) (rest : List Oper) : FB P K0 (o :: rest) base = (match jG o with
 |some (d,t)=>match dA P t with
  |some zs=>bH zs=true∧FB P K0 rest ((base.grow (zs.map .pv)).put d (.pv (.ptr base.h.length 0)))
  |none=>False
 |none=>FB P K0 rest base):=rfl
@[simp] theorem Oz:BP P ops K0 base acc=FB P (lj P ops K0 (ops.drop (cg ops))) (ops.take (cg ops)) ⟨acc++base.t,base.h⟩:=rfl
@[simp] theorem Sf:AQ P ops q base K [] acc=K acc:=rfl
@[simp] theorem NJ(o:Oper)(rest:List Oper):AQ P ops q base K (o::rest) acc=Rd P ops q base o (AQ P ops q base K rest) acc:=rfl
end
section
variable {P : Program} {ops : List Oper} {K : St -> Prop} {st : St}
@[simp] theorem OA:oz P ops K .done st=K st:=rfl
@[simp] theorem OB(i:Nat)(r:Sch):oz P ops K (.take i r) st=fi P ops i (oz P ops K r) st:=rfl
@[simp] theorem OC(l:List (Nat×Sch)):oz P ops K (.fork l) st=re P ops K l st:=rfl
@[simp] theorem OD:re P ops K [] st=True:=rfl
@[simp] theorem NK(i:Nat)(r:Sch)(l:List (Nat×Sch)):re P ops K ((i,r)::l) st=(fi P ops i (oz P ops K r) st∧re P ops K l st):=rfl
end
end Go.AX
namespace Go.AX
abbrev ab(n:Int):PV:=.lit (.int .i64 n)
abbrev BL(b:Bool):PV:=.lit (.bool b)
def aX(n:Int):Int:=IntKind.i64.wrap n
@[simp] theorem Rv(n:Int):IntKind.i64.wrap n=aX n:=rfl
theorem NL(n:Int):aX n=(n+9223372036854775808) %18446744073709551616 -9223372036854775808:=by
 unfold aX;rw[IntKind.wrap_i64]
theorem ao{n:Int}(h1:-9223372036854775808<=n)(a:n<=9223372036854775807):aX n=n:=by rw[NL];omega
theorem dv(i:Nat)(h:i<9223372036854775807:=by omega):aX ((i:Int)+1)=((i+1:Nat):Int):=by rw[ao (by omega) (by omega)];omega
@[simp] theorem uJ(k:Nat)(a b:List (List PV)):bI k (a++b)↔bI k a∧bI k b:=by
 simp only[iJ,Te];constructor
 .intro h;exact⟨λr c=>h r (.inl c),λr c=>h r (.inr c)⟩
 .rintro⟨h1,d⟩ r (c|c)
  .exact h1 r c
  .exact d r c
/-! ### Arguments in other words -/
def PV.as(x y:PV):Prop:=∀(w:World)(v:Value),Fit (du w) x v->Fit (du w) y v
theorem PV.as.refl(x:PV):PV.as x x:=λ_ _ h=>h
def Pz:List PV->List PV->Prop
 |[],ys=>ys=[]
 |x::xs,ys=>∃y r,ys=y::r∧PV.as x y∧Pz xs r
theorem DR{w:World}:∀{xs ys:List PV}{vs:List Value},Pz xs ys->ak (du w) xs vs->ak (du w) ys vs
 |[],_,_,h,h'=>by simp only[Pz]at h;subst h;exact h'
 |x::xs,_,_,h,h'=>by
  simp only[Pz]at h;obtain⟨y,r,rfl,h1,a⟩:=h;obtain⟨v,q,rfl,b,c⟩:=h';exact⟨v,q,rfl,h1 w v b,DR a c⟩
theorem aj.conv{P:Program}{f:FuncId}{xs ys:List PV}{R:SV->Prop}(h:aj P f ys R)(a:Pz xs ys):aj P f xs R:=
 ⟨h.1,λw vs b=>h.2 w vs (DR a b)⟩
end Go.AX
namespace Go.AX
mutual
def bB:PV->PV->Prop
  |.agg xs,.agg ys=>bc xs ys
  |.tup xs,.tup ys=>bc xs ys
  |.seq nw e rows,.seq nw' e' rows'=>(nw'=true->nw=true)∧e=e'∧rows=rows'
  |.lit v,.seq _ _ rows=>iu v=true∧rows=[]
  |x,y=>x=y
def bc:List PV->List PV->Prop
  |[],[]=>True
  |x::xs,y::ys=>bB x y∧bc xs ys
  |_,_=>False
end
mutual
theorem xo{g:Gh}:∀(x y:PV)(v:Value),bB x y->Fit g x v->Fit g y v
  |.agg xs,.agg ys,_,h,⟨vs,h1,h2⟩=>⟨vs,h1,px xs ys _ (by simpa only[bB]using h) h2⟩
  |.tup xs,.tup ys,_,h,⟨vs,h1,h2⟩=>⟨vs,h1,px xs ys _ (by simpa only[bB]using h) h2⟩
  |.seq nw e rows,.seq nw' e' rows',v,h,⟨p,cap,h1,hc,h2⟩=>by
    simp only[bB]at h
    obtain⟨hn,rfl,rfl⟩:=h
    exact⟨p,cap,h1,hc,h2.imp id λ⟨c,off,arr,T,fz,vs,a,b,n,r,q⟩=>⟨c,off,arr,T,fz,vs,a,b,λhh=>n (hn hh),r,q⟩⟩
  |.lit u,.seq nw e rows,v,h,hf=>by
    simp only[bB]at h
    obtain⟨hn,rfl⟩:=h
    have hv:v=u:=hf
    rw[hv,gr hn]
    exact⟨none,0,rfl,SY _,.inl rfl⟩
  |.bot,y,v,h,hf=>by cases y<;>first|exact hf|(simp only[bB]at h;cases h)
  |.iptr _ _ _ _,y,v,h,hf=>by cases y<;>simp only[bB]at h<;>first|(cases h;exact hf)|cases h
  |.ptr _ _,y,v,h,hf=>by cases y<;>simp only[bB]at h<;>first|(cases h;exact hf)|cases h
  |.bsl _ _ _ _ _,y,v,h,hf=>by cases y<;>simp only[bB]at h<;>first|(cases h;exact hf)|cases h
  |.fn _ _ _,y,v,h,hf=>by cases y<;>simp only[bB]at h<;>first|(cases h;exact hf)|cases h
  |.amap _ _,y,v,h,hf=>by cases y<;>simp only[bB]at h<;>first|(cases h;exact hf)|cases h
  |.ifc _ _,y,v,h,hf=>by cases y<;>simp only[bB]at h<;>first|(cases h;exact hf)|cases h
  |.lit u,.bot,v,h,hf=>trivial
  |.lit u,.lit u',v,h,hf=>by simp only[bB]at h;cases h;exact hf
  |.lit u,.agg _,v,h,hf=>by simp only[bB]at h;cases h
  |.lit u,.tup _,v,h,hf=>by simp only[bB]at h;cases h
  |.lit u,.iptr _ _ _ _,v,h,hf=>by simp only[bB]at h;cases h
  |.lit u,.ptr _ _,v,h,hf=>by simp only[bB]at h;cases h
  |.lit u,.bsl _ _ _ _ _,v,h,hf=>by simp only[bB]at h;cases h
  |.lit u,.fn _ _ _,v,h,hf=>by simp only[bB]at h;cases h
  |.lit u,.amap _ _,v,h,hf=>by simp only[bB]at h;cases h
  |.lit u,.ifc _ _,v,h,hf=>by simp only[bB]at h;cases h
  |.agg xs,.bot,v,h,hf=>trivial
  |.agg xs,.lit _,v,h,hf=>by simp only[bB]at h;cases h
  |.agg xs,.tup _,v,h,hf=>by simp only[bB]at h;cases h
  |.agg xs,.seq _ _ _,v,h,hf=>by simp only[bB]at h;cases h
  |.agg xs,.iptr _ _ _ _,v,h,hf=>by simp only[bB]at h;cases h
  |.agg xs,.ptr _ _,v,h,hf=>by simp only[bB]at h;cases h
  |.agg xs,.bsl _ _ _ _ _,v,h,hf=>by simp only[bB]at h;cases h
  |.agg xs,.fn _ _ _,v,h,hf=>by simp only[bB]at h;cases h
  |.agg xs,.amap _ _,v,h,hf=>by simp only[bB]at h;cases h
  |.agg xs,.ifc _ _,v,h,hf=>by simp only[bB]at h;cases h
  |.tup xs,.bot,v,h,hf=>trivial
  |.tup xs,.lit _,v,h,hf=>by simp only[bB]at h;cases h
  |.tup xs,.agg _,v,h,hf=>by simp only[bB]at h;cases h
  |.tup xs,.seq _ _ _,v,h,hf=>by simp only[bB]at h;cases h
  |.tup xs,.iptr _ _ _ _,v,h,hf=>by simp only[bB]at h;cases h
  |.tup xs,.ptr _ _,v,h,hf=>by simp only[bB]at h;cases h
  |.tup xs,.bsl _ _ _ _ _,v,h,hf=>by simp only[bB]at h;cases h
  |.tup xs,.fn _ _ _,v,h,hf=>by simp only[bB]at h;cases h
  |.tup xs,.amap _ _,v,h,hf=>by simp only[bB]at h;cases h
  |.tup xs,.ifc _ _,v,h,hf=>by simp only[bB]at h;cases h
  |.seq _ _ _,.bot,v,h,hf=>trivial
  |.seq _ _ _,.lit _,v,h,hf=>by simp only[bB]at h;cases h
  |.seq _ _ _,.agg _,v,h,hf=>by simp only[bB]at h;cases h
  |.seq _ _ _,.tup _,v,h,hf=>by simp only[bB]at h;cases h
  |.seq _ _ _,.iptr _ _ _ _,v,h,hf=>by simp only[bB]at h;cases h
  |.seq _ _ _,.ptr _ _,v,h,hf=>by simp only[bB]at h;cases h
  |.seq _ _ _,.bsl _ _ _ _ _,v,h,hf=>by simp only[bB]at h;cases h
  |.seq _ _ _,.fn _ _ _,v,h,hf=>by simp only[bB]at h;cases h
  |.seq _ _ _,.amap _ _,v,h,hf=>by simp only[bB]at h;cases h
  |.seq _ _ _,.ifc _ _,v,h,hf=>by simp only[bB]at h;cases h
theorem px{g:Gh}:∀(xs ys:List PV)(vs:List Value),bc xs ys->ak g xs vs->ak g ys vs
  |[],[],_,_,h=>h
  |[],_::_,_,h,_=>by simp only[bc]at h
  |_::_,[],_,h,_=>by simp only[bc]at h
  |x::xs,y::ys,_,h,⟨v,r,h1,h2,h3⟩=>by
    simp only[bc]at h
    exact⟨v,r,h1,xo x y v h.1 h2,px xs ys r h.2 h3⟩
end
def DS:SV->SV->Prop
 |.pv x,.pv y=>y=.bot∨bB x y
 |.own nw e rows,.own b e' a=>(b=true->nw=true)∧e=e'∧rows=a
 |x,y=>y=x∨y=.pv .bot
theorem nq{x y:SV}(h:DS x y):y=x∨y=.pv .bot∨(∃a b,x=.pv a∧y=.pv b∧bB a b)∨(∃nw c e rows,x=.own nw e rows∧y=.own c e rows∧(c=true->nw=true)):=by
 unfold DS at h;split at h
 .rename_i a b;rcases h with rfl|h
  .exact .inr (.inl rfl)
  .exact .inr (.inr (.inl ⟨a,b,rfl,rfl,h⟩))
 .obtain⟨h1,rfl,rfl⟩:=h;exact .inr (.inr (.inr ⟨_,_,_,_,rfl,rfl,h1⟩))
 .exact h.imp id .inl
theorem r9{x y:SV}(h:DS x y)(ho:y.isOwn=true):x.isOwn=true∧(y=x∨∃nw c e rows,x=.own nw e rows∧y=.own c e rows∧(c=true->nw=true)):=by
 rcases nq h with rfl|rfl|⟨a,b,rfl,rfl,_⟩|⟨nw,c,e,rows,rfl,rfl,h1⟩
 .exact⟨ho,.inl rfl⟩
 .cases ho
 .cases ho
 .exact⟨rfl,.inr ⟨_,_,_,_,rfl,rfl,h1⟩⟩
theorem DU{g:Gh}{w:World}{x y:SV}{v:Value}{o:Option Nat}(h:DS x y)(d:az g w x v o):az g w y v (if y.isOwn=true then o else none):=by
 rcases nq h with rfl|rfl|⟨a,b,rfl,rfl,h1⟩|⟨nw,n,e,rows,rfl,rfl,h1⟩
 .cases y with
  |own _ _ _=>exact d
  |omap _ _=>exact d
  |pv _=>exact⟨rfl,d.2⟩
  |opt _ _=>exact⟨rfl,d.2⟩
  |agl _=>exact⟨rfl,d.2⟩
  |_=>rfl
 .exact⟨rfl,trivial⟩
 .exact⟨rfl,xo a b v h1 d.2⟩
 .exact d.imp id λ⟨c,l,cap,arr,T,vs,f,i,a3,a4,a5,j,k⟩=>⟨c,l,cap,arr,T,vs,f,i,a3,a4,a5,j,λm=>k (h1 m)⟩
theorem Sim.le{g:Gh}{st st':St}{a:Act}{w:World}(h:Sim g st a w)(hp:∀p,DS (aa st p) (aa st' p))(hl:st'.h.length=st.h.length)(hb:∀b,(st'.h.getD b []).length=(st.h.getD b []).length):Sim g st' a w:=by
  obtain⟨bl,ho⟩:=h.own
  have hget:∀(b:Nat)(xs':List SV),st'.h[b]?=some xs'->∃xs:List SV,st.h[b]?=some xs∧xs'.length=xs.length:=λb xs' hx=>by
    have hlt:b<st.h.length:=by rw[←hl];exact(SQ.1 hx).1
    refine⟨st.h[b],SR hlt,?_⟩
    have:=hb b
    rw[SS,SS,hx,SR hlt]at this
    simpa using this
  have hal:∀{sv:SV}{v:Value},bW g st a w sv v->bW g st' a w sv v:=by
    intro sv
    induction sv with
    |al p=>intro v hv ho';exact hv (r9 (hp p) ho').1
    |loc p lo hi=>
      intro v hv nw e rows he
      rcases(r9 (hp p) (by rw[he];rfl)).2 with e1|⟨nw1,nw2,e1,rows1,e2,e3,_⟩
      · exact hv nw e rows (by rw[←e1];exact he)
      · rw[he]at e3;cases e3;exact hv _ _ _ e2
    |sptr p i k=>
      intro v hv nw e rows he
      rcases(r9 (hp p) (by rw[he];rfl)).2 with e1|⟨nw1,nw2,e1,rows1,e2,e3,_⟩
      · exact hv nw e rows (by rw[←e1];exact he)
      · rw[he]at e3;cases e3;exact hv _ _ _ e2
    |agl xs=>intro v hv k x p hk ho';exact hv k x p hk (r9 (hp p) ho').1
    |opt c x ih=>intro v hv hc;exact ih (hv hc)
    |_=>intro v _;trivial
  refine { size := h.size, defs := h.defs, env := h.env, n := by rw [hl]; exact h.n, n0 := h.n0, B := h.B, I := h.I, F := h.F, μI := h.μI, μinj := h.μinj,
           own:=⟨λp=>if(aa st' p).isOwn=true then bl p else none,?_⟩,al:=λs=>?_}
  · have hsub:∀p c,(if(aa st' p).isOwn=true then bl p else none)=some c->bl p=some c:=λp c hc=>by
      split at hc
      · exact hc
      · cases hc
    refine{slots:=λs=>DU (hp (.slot s)) (ho.slots s),blocks:=λb xs' hx=>?_,inj:=λp q c h1 h2=>ho.inj p q c (hsub p c h1) (hsub q c h2),free:=λp c h1=>ho.free p c (hsub p c h1)}
    obtain⟨xs,hx2,hlen⟩:=hget b xs' hx
    obtain⟨arr,T,e1,e2,e3⟩:=ho.blocks b xs hx2
    refine⟨arr,T,e1,⟨by rw[hlen];exact e2.1,e2.2⟩,λk x hk=>?_⟩
    have hkl:k<xs.length:=by rw[←hlen];exact(SQ.1 hk).1
    have g1:aa st' (.cell b k)=x:=by simp only[aa,SS,hx,TC,hk]
    have g2:aa st (.cell b k)=xs[k]:=by simp only[aa,SS,hx2,TC,SR hkl]
    have h4:=hp (.cell b k)
    rw[g1,g2]at h4
    obtain⟨c1,c2⟩:=e3 k xs[k] (SR hkl)
    rw[g1]
    refine⟨?_,DU h4 c2⟩
    rcases nq h4 with e|e|⟨a1,b1,_,e,_⟩|⟨_,_,_,_,_,e,_⟩
    · rw[e];exact c1
    · rw[e];rfl
    · rw[e];rfl
    · rw[e];rfl
  · have h4:=hp (.slot s)
    simp only[aa]at h4
    have h5:=h.al s
    rcases nq h4 with e|e|⟨a1,b1,_,e,_⟩|⟨_,_,_,_,_,e,_⟩
    · rw[e];exact hal h5
    · rw[e];trivial
    · rw[e];trivial
    · rw[e];trivial
def Ls(t:List (Nat×SV)):List (Nat×SV)->Prop
 |[]=>True
 |(s,v)::r=>DS (look t s) v∧Ls t r
def zc:List SV->List SV->Prop
 |[],[]=>True
 |x::xs,y::ys=>DS x y∧zc xs ys
 |_,_=>False
def xp:List (List SV)->List (List SV)->Prop
 |[],[]=>True
 |x::xs,y::ys=>zc x y∧xp xs ys
 |_,_=>False
theorem xq(x:SV):DS x (.pv .bot):=by cases x<;>simp[DS]
mutual
theorem zd:∀x:PV,bB x x
  |.agg xs=>by simp only[bB];exact jS xs
  |.tup xs=>by simp only[bB];exact jS xs
  |.seq _ _ _=>by simp[bB]
  |.bot=>by simp[bB]
  |.lit _=>by simp[bB]
  |.iptr _ _ _ _=>by simp[bB]
  |.ptr _ _=>by simp[bB]
  |.bsl _ _ _ _ _=>by simp[bB]
  |.fn _ _ _=>by simp[bB]
  |.amap _ _=>by simp[bB]
  |.ifc _ _=>by simp[bB]
theorem jS:∀xs:List PV,bc xs xs
  |[]=>by simp[bc]
  |x::xs=>by simp only[bc];exact⟨zd x,jS xs⟩
end
theorem pz(x:SV):DS x x:=by
 cases x with
 |pv x=>exact .inr (zd x)
 |own _ _ _=>exact⟨id,rfl,rfl⟩
 |_=>exact .inl rfl
theorem DV{t:List (Nat×SV)}:∀{t1:List (Nat×SV)},Ls t t1->∀s,DS (look t s) (look t1 s)
 |[],_,s=>xq _
 |(j,v)::r,h,s=>by
  simp only[look]
  by_cases e:j=s
  .subst e;rw[SX rfl];exact h.1
  .rw[SU e];exact DV h.2 s
theorem DW:∀{xs ys:List SV},zc xs ys->ys.length=xs.length∧∀k,DS (xs.getD k (.pv .bot)) (ys.getD k (.pv .bot))
 |[],[],_=>⟨rfl,λk=>by simp;exact xq _⟩
 |[],_::_,h=>by simp only[zc]at h
 |_::_,[],h=>by simp only[zc]at h
 |x::xs,y::ys,h=>by
  simp only[zc]at h;obtain⟨h1,a⟩:=DW h.2;refine⟨by simp[h1],λk=>?_⟩;cases k with
  |zero=>exact h.1
  |succ k=>simpa using a k
theorem DX:∀{xs ys:List (List SV)},xp xs ys->ys.length=xs.length∧∀b,(ys.getD b []).length=(xs.getD b []).length∧∀k,DS ((xs.getD b []).getD k (.pv .bot)) ((ys.getD b []).getD k (.pv .bot))
 |[],[],_=>⟨rfl,λb=>⟨rfl,λk=>by simp;exact xq _⟩⟩
 |[],_::_,h=>by simp only[xp]at h
 |_::_,[],h=>by simp only[xp]at h
 |x::xs,y::ys,h=>by
  simp only[xp]at h;obtain⟨h1,a⟩:=DX h.2;refine⟨by simp[h1],λb=>?_⟩;cases b with
  |zero=>exact DW h.1
  |succ b=>simpa using a b
theorem ah.le{k0:Nat}{st:St}{t1:List (Nat×SV)}{h1:List (List SV)}(ht:Ls st.t t1)(a:xp st.h h1):ah k0 st ⟨t1,h1⟩:=λg _ _ _ hs=>by
 obtain⟨c,hk⟩:=DX a;refine⟨g,hs.refl_to,hs.le (λp=>?_) c λb=>(hk b).1⟩;cases p with
 |slot s=>exact DV ht s
 |cell b k=>exact(hk b).2 k
/-! ### Calls -/
theorem aA.args{P:Program}{f:FuncId}{xs ys:List PV}{h:List (List SV)}{R:SV->List (List SV)->Prop}(b:aA P f ys h R)(e:bc xs ys):aA P f xs h R:=
 ⟨b.1,λg st a w vs hs c d=>b.2 g st a w vs hs c (px _ _ _ e d)⟩
theorem aA.res{P:Program}{f:FuncId}{args:List PV}{h:List (List SV)}{R R':SV->List (List SV)->Prop}(c:aA P f args h R)(q:∀r h',R r h'->∃x y,r=.pv x∧bB x y∧R' (.pv y) h'):aA P f args h R':=
 ⟨c.1,λg st a w vs hs o t=>(c.2 g st a w vs hs o t).mono λe w' ⟨v,r,h',g',i,j,l,m⟩=>by
  obtain⟨x,y,rfl,u,n⟩:=q r h' j;refine⟨v,.pv y,h',g',i,n,l,λd hd=>(m d hd).le (λp=>?_) ?_ ?_⟩
  .cases d with
   |none=>exact pz _
   |some d=>
    cases p with
    |cell b k=>exact pz _
    |slot s=>
     simp only[aa,iI,putD,St.put,look];split
     .exact .inr u
     .exact pz _
  .cases d<;>rfl
  .intro b;cases d<;>rfl⟩
/-! ### What fits names only blocks that there are -/
section
variable {g : Gh}
mutual
theorem Fit.bel:∀(x:PV)(v:Value),Fit g x v->x.bel g.n
  |.bot,_,_=>trivial
  |.lit _,_,_=>trivial
  |.agg xs,_,⟨vs,_,h2⟩=>ak.bel xs _ h2
  |.tup xs,_,⟨vs,_,h2⟩=>ak.bel xs _ h2
  |.seq _ e [],_,_=>trivial
  |.seq _ e (r::rows),_,⟨p,cap,_,_,h2⟩=>by
    rcases h2 with h2|⟨c,off,arr,T,fz,vs,a,b,n,q,_⟩
    · cases h2
    · exact ay.bel e (r::rows) vs q
  |.iptr e rows _ _,_,⟨c,off,arr,T,fz,vs,_,_,q,_⟩=>ay.bel e rows vs q
  |.ptr b _,_,⟨h1,_⟩=>h1
  |.bsl b _ _ _ _,_,⟨h1,_⟩=>h1
  |.fn _ first cap,_,⟨a,b,_,h2,h3⟩=>⟨ak.bel first _ h2,ak.bel cap _ h3⟩
  |.amap _ es,_,⟨r,en,ck,_,_,_,q⟩=>bD.bel es _ q.1
  |.ifc _ x,_,⟨y,_,h2⟩=>Fit.bel x y h2
theorem ak.bel:∀(xs:List PV)(vs:List Value),ak g xs vs->bR g.n xs
  |[],_,_=>trivial
  |x::xs,_,⟨v,r,_,h2,h3⟩=>⟨Fit.bel x v h2,ak.bel xs r h3⟩
theorem ay.bel(e:Nat):∀(rows:List (List PV))(vs:List Value),ay g e rows vs->bI g.n rows
  |[],_,_=>trivial
  |row::rows,_,⟨v1,v2,_,_,h3,h4⟩=>⟨ak.bel row v1 h3,ay.bel e rows v2 h4⟩
theorem bD.bel:∀(es:List (Int×PV))(en:List MapEntry),bD g es en->gt g.n es
  |[],_,_=>trivial
  |(_,x)::es,_,⟨m,r,_,_,h3,h4⟩=>⟨Fit.bel x m.val h3,bD.bel es r h4⟩
end
end
theorem az.bel{g:Gh}{w:World}{x:SV}{v:Value}{o:Option Nat}(a:x.inCell=true)(h:az g w x v o):x.bel g.n:=by
 cases x with
 |pv x=>exact Fit.bel x v h.2
 |own nw e rows=>
  rcases h with⟨_,rfl,_⟩|⟨c,_,cap,arr,T,vs,_,_,_,_,q,_⟩
  .trivial
  .exact ay.bel e rows vs q
 |omap nw es=>obtain⟨c,_,en,ck,_,_,q,_⟩:=h;exact bD.bel es _ q
 |_=>cases a
theorem nr{k:Nat}:∀{l:List SV},(∀x∈l,x.bel k)->cG k l
 |[],_=>trivial
 |x::l,h=>⟨h x (To),nr λy hy=>h y (Tl _ hy)⟩
theorem vC{k:Nat}:∀{l:List (List SV)},(∀xs∈l,∀x∈xs,x.bel k)->dO k l
 |[],_=>trivial
 |x::l,h=>⟨nr (h x (To)),vC λy hy=>h y (Tl _ hy)⟩
theorem Sim.belH{g:Gh}{st:St}{a:Act}{w:World}(h:Sim g st a w):dO g.n st.h:=by
 obtain⟨bl,f⟩:=h.own;refine vC λxs d x hx=>?_;obtain⟨b,c⟩:=UN.1 d;obtain⟨k,hk⟩:=UN.1 hx;obtain⟨arr,T,_,_,e⟩:=f.blocks b xs c;obtain⟨c1,c2⟩:=e k x hk;exact c2.bel c1
def fX(P:Program)(rs:List ResultVar)(h:List (List SV))(R:SV->Prop)(st:St):Prop:=
 (gQ P st rs).2.2∧(gQ P st rs).2.1.h.take h.length=h∧(mD (gQ P st rs).1).bel h.length∧R (.pv (mD (gQ P st rs).1))
theorem gy{P:Program}(bad:List Nat){f:FuncId}{fn:Func}{c:Code}{args:List PV}{h:List (List SV)}{R:SV->Prop}(rs:List ResultVar)(aD:P.follows .mixedOrders=true)(A:P.funcs[f]?=some fn)(x:AC P h.length bad c (ll (fX P rs h R)) ⟨fV 0 args,h⟩)(b:aF P f=true:=by kernel_rfl)(y:fn.body=some c:=by rfl)(B:fn.results=rs.toArray:=by rfl)(k:nR fn.ntmps bad c=true:=by kernel_rfl)(hn:args.length<=fn.ntmps:=by exact T9 rfl):aA P f args h (λr h'=>h'=h∧R r):=by
 refine⟨b,λg st a w vs hs l C=>?_⟩;have d:dO h.length h:=by have:=hs.belH;rwa [hs.n,l]at this
 have key:=pu (R:=λr h'=>h'=h∧R r) aD A b y k hn x λg' st' K w' hk j s'=>?_
 .exact key.2 g st a w vs hs l C
 .obtain⟨D,E,F,G⟩:=hk;obtain⟨g2,o,L,M,H,J,p,t⟩:=pq rs s' D;obtain⟨v,q,u⟩:=jk B (mE rs st') p t;have I:=H.weak (st':=⟨[],(gQ P st' rs).2.1.h⟩) rfl λs=>.inr rfl;obtain⟨t4,m⟩:=Sim.dropB (st:=⟨[],(gQ P st' rs).2.1.h⟩) (h1:=h) E (ht:=trivial) d (hs:=I) (h0:=by rw[o.n0];exact j);obtain⟨e,i⟩:=m.own;exact⟨v,_,_,_,e,none,q,o.trans t4,m,i,⟨rfl,G⟩,⟨rfl,Fit.below _ _ F u⟩,rfl,λc z=>by cases z⟩
theorem d7{P:Program}(bad:List Nat){f:FuncId}{fn:Func}{c:Code}{args:List PV}{h:List (List SV)}{y:PV}(rs:List ResultVar)(aD:P.follows .mixedOrders=true)(j:P.funcs[f]?=some fn)(g:AC P h.length bad c (ll (fX P rs h (λr=>∃x,r=.pv x∧bB x y))) ⟨fV 0 args,h⟩)(a:aF P f=true:=by kernel_rfl)(i:fn.body=some c:=by rfl)(k:fn.results=rs.toArray:=by rfl)(b:nR fn.ntmps bad c=true:=by kernel_rfl)(hn:args.length<=fn.ntmps:=by exact T9 rfl):aA P f args h (λr h'=>h'=h∧r=.pv y):=
 (gy bad rs aD j g a i k b hn).res λr h' ⟨h1,x,d,e⟩=>⟨x,y,d,e,h1,rfl⟩
attribute [simp] bB bc DS Ls zc xp fX
end Go.AX