/-
  AX, part IN: calls that are handed a slice of the caller's own, and write into it.
  AX, part Cp: copy, into a slice of one's own.
  AX, part J: a function's body, run of plain data; that it is right.
  AX, part K: what a state forgets; operations under a guard; runs of operations.
  AX, part L: runs of operations.
  AX, part Y: new blocks that are made in any order among operations that change nothing.
  AX, part M: regions that draw their order: operations that change nothing there is, in any order; then a chain.
  AX, part N: regions that draw their order: that the walk is right in any order.
  AX, part T: regions that draw their order, whatever order comes; what looks at no memory is taken first.
  AX, part O: a body, walked of plain data; a call of a function.
  AX, part P: from a body's walk to what a call of the function gives.
  AX, part Q: calls of functions that are handed blocks of the caller's, and may write them.
  AX, part S: what is run by simp.
  AX, part X: whole numbers that wrap.
  AX: what is told may be told as less: new memory as any, nil as a row of nothing.
  AX, part BL: a function that is walked with a part of a block writes a slice of the caller's own in place.
  AX, part La: the last block but one is forgotten.
  AX, part XD: a call that leaves certain blocks; its own are let go.
  AX, part Be: what names blocks below a number only.
  AX, part BM: a call is handed a slice of numbers of the caller's own, which it writes, and blocks of the caller's turn, too.
-/
import Derived.Test.YtepodadinenmnaaGreatAxI
import Derived.Test.YtepodadinenmnaaGreatAxU
import Derived.Lib.SliceRun
import Derived.Deep.Quiet
import Derived.Orders
import Derived.Scope
import Derived.OwnWalk
namespace Go.AX
mutual
def PV.bel(k:Nat):PV→Prop
  |.bot=>True
  |.lit _=>True
  |.agg xs=>bO k xs
  |.tup xs=>bO k xs
  |.seq _ _ rows=>bP k rows
  |.iptr _ rows _ _=>bP k rows
  |.ptr b _=>b<k
  |.bsl b _ _ _ _=>b<k
  |.fn _ first cap=>bO k first∧bO k cap
  |.amap _ es=>ft k es
  |.ifc _ x=>x.bel k
def bO(k:Nat):List PV→Prop
  |[]=>True
  |x::xs=>x.bel k∧bO k xs
def bP(k:Nat):List (List PV)→Prop
  |[]=>True
  |x::xs=>bO k x∧bP k xs
def ft(k:Nat):List (Int×PV)→Prop
  |[]=>True
  |(_,x)::xs=>x.bel k∧ft k xs
end
mutual
def PV.old:PV→Prop
  |.bot=>True
  |.lit _=>True
  |.agg xs=>o9 xs
  |.tup xs=>o9 xs
  |.seq nw _ rows=>nw=false∧tR rows
  |.iptr _ rows _ _=>tR rows
  |.ptr _ _=>True
  |.bsl _ _ _ _ _=>True
  |.fn _ first cap=>o9 first∧o9 cap
  |.amap nw es=>nw=false∧CR es
  |.ifc _ x=>x.old
def o9:List PV→Prop
  |[]=>True
  |x::xs=>x.old∧o9 xs
def tR:List (List PV)→Prop
  |[]=>True
  |x::xs=>o9 x∧tR xs
def CR:List (Int×PV)→Prop
  |[]=>True
  |(_,x)::xs=>x.old∧CR xs
end
structure Gh.leC (g g':Gh):Prop where
  C:∀c arr T fz,g.I c=some (.cells arr T fz)→g'.I c=some (.cells arr T fz)
  M:∀c en ck,g.I c=some (.map en ck)→g'.I c=some (.map en ck)
section
variable {g g' : Gh}
mutual
theorem Fit.monoC(hl:g.leC g'):∀(x:PV)(v:Value),(g'.B≤g.B∨x.old)→(g.n=0∨x.bel 0)→Fit g x v→Fit g' x v
  |.bot,_,_,_,_=>trivial
  |.lit _,_,_,_,h=>h
  |.agg xs,v,ho,hb,⟨vs,h1,h2⟩=>⟨vs,h1,ai.monoC hl xs _ ho hb h2⟩
  |.tup xs,v,ho,hb,⟨vs,h1,h2⟩=>⟨vs,h1,ai.monoC hl xs _ ho hb h2⟩
  |.seq nw e rows,v,ho,hb,⟨p,cap,h1,hc,h2⟩=>⟨p,cap,h1,hc,h2.imp id fun⟨c,off,arr,T,fz,vs,a,b,n,r,q⟩=>⟨c,off,arr,T,fz,vs,a,hl.C _ _ _ _ b,
      fun hn=>ho.elim (fun hB=>Nat.le_trans hB (n hn)) (fun ho=>by rw[ho.1]at hn;cases hn),au.monoC hl e rows vs (ho.imp id (·.2)) hb r,q⟩⟩
  |.iptr e rows i k,v,ho,hb,⟨c,off,arr,T,fz,vs,a,b,r,q⟩=>⟨c,off,arr,T,fz,vs,a,hl.C _ _ _ _ b,au.monoC hl e rows vs ho hb r,q⟩
  |.ptr b off,v,_,hb,⟨h1,h2⟩=>hb.elim (fun h=>absurd h1 (by omega)) (fun h=>absurd h (Nat.not_lt_zero _))
  |.bsl b _ _ _ _,v,_,hb,⟨h1,h2⟩=>hb.elim (fun h=>absurd h1 (by omega)) (fun h=>absurd h (Nat.not_lt_zero _))
  |.fn f first cap,v,ho,hb,⟨a,b,h1,h2,h3⟩=>⟨a,b,h1,ai.monoC hl first _ (ho.imp id (·.1)) (hb.imp id (·.1)) h2,ai.monoC hl cap _ (ho.imp id (·.2)) (hb.imp id (·.2)) h3⟩
  |.amap nw es,v,ho,hb,⟨r,en,ck,a,b,n,q⟩=>⟨r,en,ck,a,hl.M _ _ _ b,fun hn=>ho.elim (fun hB=>Nat.le_trans hB (n hn)) (fun ho=>by rw[ho.1]at hn;cases hn),bm.monoC hl es _ (ho.imp id (·.2)) hb q.1,q.2⟩
  |.ifc t x,v,ho,hb,⟨y,h1,h2⟩=>⟨y,h1,Fit.monoC hl x y ho hb h2⟩
theorem ai.monoC(hl:g.leC g'):∀(xs:List PV)(vs:List Value),(g'.B≤g.B∨o9 xs)→(g.n=0∨bO 0 xs)→ai g xs vs→ai g' xs vs
  |[],_,_,_,h=>h
  |x::xs,vs,ho,hb,⟨v,r,h1,h2,h3⟩=>⟨v,r,h1,Fit.monoC hl x v (ho.imp id (·.1)) (hb.imp id (·.1)) h2,ai.monoC hl xs r (ho.imp id (·.2)) (hb.imp id (·.2)) h3⟩
theorem au.monoC(hl:g.leC g')(e:Nat):∀(rows:List (List PV))(vs:List Value),(g'.B≤g.B∨tR rows)→(g.n=0∨bP 0 rows)→au g e rows vs→au g' e rows vs
  |[],_,_,_,h=>h
  |row::rows,vs,ho,hb,⟨v1,v2,h1,h2,h3,h4⟩=>⟨v1,v2,h1,h2,ai.monoC hl row v1 (ho.imp id (·.1)) (hb.imp id (·.1)) h3,au.monoC hl e rows v2 (ho.imp id (·.2)) (hb.imp id (·.2)) h4⟩
theorem bm.monoC(hl:g.leC g'):∀(es:List (Int×PV))(en:List MapEntry),(g'.B≤g.B∨CR es)→(g.n=0∨ft 0 es)→bm g es en→bm g' es en
  |[],_,_,_,h=>h
  |(k,x)::es,en,ho,hb,⟨m,r,h1,h2,h3,h4⟩=>⟨m,r,h1,h2,Fit.monoC hl x m.val (ho.imp id (·.1)) (hb.imp id (·.1)) h3,bm.monoC hl es r (ho.imp id (·.2)) (hb.imp id (·.2)) h4⟩
end
end
def oe(w:World)(c:Nat):World:={w with heap:=w.heap.setIfInBounds c (.mapIter none 0 #[] 0)}
theorem jr(w:World){c k:Nat}(h:k≠c):(oe w c).heap[k]?=w.heap[k]?:=by
 simp only[oe,Array.getElem?_setIfInBounds];rw[if_neg (Ne.symm h)]
theorem HX{w:World}{c k:Nat}{arr:Array Value}{T:TypeId}{fz:Nat×Nat}(h:(oe w c).heap[k]?=some (.cells arr T fz)):k≠c∧w.heap[k]?=some (.cells arr T fz):=by
 by_cases e:k=c
 ·subst e;simp only[oe,Array.getElem?_setIfInBounds,if_true]at h;split at h<;>cases h
 ·rw[jr w e]at h;exact⟨e,h⟩
theorem HY{w:World}{c k:Nat}{en:Array MapEntry}{ck:Nat}(h:(oe w c).heap[k]?=some (.map en ck)):k≠c∧w.heap[k]?=some (.map en ck):=by
 by_cases e:k=c
 ·subst e;simp only[oe,Array.getElem?_setIfInBounds,if_true]at h;split at h<;>cases h
 ·rw[jr w e]at h;exact⟨e,h⟩
def vm(w:World)(c:Nat):Gh:={dw (oe w c)with B:=0}
def aB(P:Program)(f:FuncId):Bool:=
 match P.funcs[f]?with
 |some fn=>!(fn.name== "runtime.NumGoroutine")&&!fn.body.isNone
 |none=>false
def tT(P:Program)(f:FuncId)(e:Nat)(rows:List (List PV))(args:List PV)(R:Option Nat→List (List PV)→Prop):Prop:=
 aB P f=true∧
 (rows ≠ [] → ∀ (w : World) (c cap : Nat) (arr : Array Value) (T : TypeId) (pre vs suf us : List Value), w.heap[c]? = some (.cells arr T (0, 0)) → arr.toList = pre ++ vs ++ suf → rows.length ≤ cap → rows.length ≤ maxLen →
  au (vm w c) e rows vs→ai (vm w c) args us→(∀v∈arr.toList,v.oneCell'=true)→
  Calls P f ((.slice (some ⟨c,pre.length,none⟩) rows.length cap)::us).toArray w fun e' w'=>∃k rows' vs',R k rows'∧rows'.length=rows.length∧(∀m,k=some m→m≤rows.length)∧
   e'=.returned (match k with|none=>.tuple #[]|some m=>.slice (some ⟨c,pre.length,none⟩) m cap)∧bX w'=bX w∧w.heap.size≤w'.heap.size∧(∀k,k<w.heap.size→k≠c→w'.heap[k]?=w.heap[k]?)∧
   (∃T',w'.heap[c]?=some (.cells (pre++vs'++suf).toArray T' (0,0)))∧∀G,au G e rows vs→au G e rows' vs')∧
 (rows = [] → ∀ (w : World) (p : Option Addr) (cap : Nat) (us : List Value), ai (dw w) args us →
  Calls P f ((.slice p 0 cap)::us).toArray w fun e' w'=>∃k,R k []∧(k=none∨k=some 0)∧e'=.returned (match k with|none=>.tuple #[]|some m=>.slice p m cap)∧bX w'=bX w∧w.heap.size≤w'.heap.size∧∀k,k<w.heap.size→w'.heap[k]?=w.heap[k]?)
theorem tT.mono{P:Program}{f:FuncId}{e:Nat}{rows:List (List PV)}{args:List PV}{R R':Option Nat→List (List PV)→Prop}(h:tT P f e rows args R)(hr:∀k rows',R k rows'→R' k rows'):tT P f e rows args R':=
  ⟨h.1,fun hn w c cap arr T pre vs suf us h1 h2 h3 h4 h5 h6 h7=>(h.2.1 hn w c cap arr T pre vs suf us h1 h2 h3 h4 h5 h6 h7).mono fun _ _ ⟨k,r,v,q,x⟩=>⟨k,r,v,hr _ _ q,x⟩,
   fun hn w p cap us h1=>(h.2.2 hn w p cap us h1).mono fun _ _ ⟨k,q,x⟩=>⟨k,hr _ _ q,x⟩⟩
def partOf(st:St)(x:Operand):Option (Pos×Nat×Nat):=
 match mv st x with
 |.al p=>match aa st p with
  |.own _ _ rows=>some (p,0,rows.length)
  |_=>none
 |.loc p lo hi=>match aa st p with
  |.own _ _ _=>some (p,lo,hi)
  |_=>none
 |_=>none
def pc(st:St)(p:Pos):Nat:=match aa st p with
 |.own _ e _=>e
 |_=>0
def cM(st:St)(p:Pos):List (List PV):=match aa st p with
 |.own _ _ rows=>rows
 |_=>[]
def l6(st:St)(p:Pos):Bool:=match aa st p with
 |.own nw _ _=>nw
 |_=>false
def Bf(d:Option Tmp)(k:Option Nat)(p:Pos)(lo:Nat)(st:St):St:=
 match d with
 |none=>st
 |some d=>match k with
  |none=>st.put d (.pv (.tup []))
  |some m=>st.put d (.loc p lo (lo+m))
theorem lC{g:Gh}{st:St}{a:Act}{w:World}(h:Sim g st a w){x:Operand}(hg:gc st x){p:Pos}{lo hi:Nat}(hp:partOf st x=some (p,lo,hi)):
 ∃nw e rows,aa st p=.own nw e rows∧lo≤hi∧hi≤rows.length∧∃q cap,a.eval x=.slice q (hi -lo) cap∧hi -lo≤cap∧(lo=hi∨∃c n cp,an g a w p=.slice (some ⟨c,0,none⟩) n cp∧q=some ⟨c,lo*e,none⟩)∧(lo=0→∃n0,an g a w p=.slice q n0 cap):=by
 obtain⟨_,ha⟩:=aL h x hg;obtain⟨bl,hb⟩:=h.own;unfold partOf at hp;split at hp
 ·rename_i p' hm;rw[hm]at ha;split at hp
  ·rename_i nw e rows hpo;cases hp
   refine⟨nw,e,rows,hpo,Nat.zero_le _,Nat.le_refl _,?_⟩;have hv:=ha (by rw[hpo];rfl);have hf:=aX hb (p:=p) (by rw[hpo];rfl);rw[hpo]at hf;rcases hf with⟨_,rfl,e1⟩|⟨c,_,cap,arr,T,vs,e1,e2,e3,e4,e5,e6,e7⟩
   ·exact⟨none,0,by rw[hv,e1];rfl,Nat.le_refl _,.inl rfl,fun _=>⟨0,e1⟩⟩
   ·exact⟨some ⟨c,0,none⟩,cap,by rw[hv,e1];rfl,e4.1,.inr ⟨c,_,cap,e1,by simp⟩,fun _=>⟨_,e1⟩⟩
  ·cases hp
 ·rename_i p' lo' hi' hm;rw[hm]at ha;split at hp
  ·rename_i nw e rows hpo;cases hp
   obtain⟨j1,j2,q,cap,j3,j4,j5,j6⟩:=ha _ _ _ hpo;exact⟨nw,e,rows,hpo,j1,j2,q,cap,j3,j4,j5,j6⟩
  ·cases hp
 ·cases hp
theorem Sim.turn{g:Gh}{st:St}{a:Act}{w w':World}(h:Sim g st a w){bl:Pos→Option Nat}(hb:Owns g st a w bl){c:Nat}(hf:FreeAt g bl c)(hen:bX w'=bX w)(hsz:w'.heap.size=w.heap.size)(hw:∀k,k≠c→w'.heap[k]?=w.heap[k]?):
 Sim g st a w':=by
 have hbn:∀{b:Nat}{xs:List SV},st.h[b]?=some xs→b<g.n:=fun hx=>by rw[h.n];exact(List.getElem?_eq_some_iff.1 hx).1
 have hfr:∀p k,bl p=some k→w'.heap[k]?=w.heap[k]?:=fun p k hk=>hw k (fun e=>hf.own p (e▸hk));refine{size:=h.size,defs:=h.defs,env:=hen.trans h.env,n:=h.n,n0:=h.n0,B:=by rw[hsz];exact h.B,I:=fun k o hk=>?_,F:=fun k o hk=>?_,μI:=h.μI,μinj:=h.μinj,own:=⟨bl,?_⟩,al:=fun s=>?_}
 ·rw[hw k (fun e=>by rw[e,hf.I]at hk;cases hk)];exact h.I k o hk
 ·rw[hw k (fun e=>by rw[e,hf.F]at hk;cases hk)];exact h.F k o hk
 ·refine{slots:=fun s=>av.frame (Gh.le.refl g) (hfr _) (hb.slots s),blocks:=fun b xs hx=>?_,inj:=hb.inj,free:=fun p k hk=>?_}
  ·obtain⟨arr,T,h1,h2,h3⟩:=hb.blocks b xs hx;exact⟨arr,T,by rw[hw _ (hf.μ b (hbn hx))];exact h1,h2,fun j x hj=>⟨(h3 j x hj).1,av.frame (Gh.le.refl g) (hfr _) (h3 j x hj).2⟩⟩
  ·obtain⟨f1,f2,f3,f4⟩:=hb.free p k hk;exact⟨f1,f2,by rw[hsz];exact f3,f4⟩
 ·refine bN.congr (fun p hp=>⟨rfl,?_⟩) (h.al s);cases p with
  |slot s=>rfl
  |cell b k=>
   simp only[aa]at hp;cases hx:st.h[b]?with
   |none=>simp[List.getD,hx,SV.isOwn]at hp
   |some xs=>simp only[an];rw[hw _ (hf.μ b (hbn hx))]
end Go.AX
namespace Go.AX
def CS(rows:List (List PV))(lo hi:Nat):Nat:=min rows.length (hi -lo)
def Hu(P:Program)(st:St)(t:TypeId)(x y:Operand)(d:Option Tmp)(K:St→Prop):Prop:=
 (bL st y).2.2∧gc (bL st y).2.1 x∧
 match(bL st y).1,partOf (bL st y).2.1 x,bG P t with
 |.seq _ e' rows',some (p,lo,hi),some (e,_)=>e'=e∧pc (bL st y).2.1 p=e∧
  K (putD d (.pv (.lit (.int .i64 (CS rows' lo hi)))) (setPos (bL st y).2.1 p (.own (l6 (bL st y).2.1 p) e ((cM (bL st y).2.1 p).take lo++rows'.take (CS rows' lo hi)++(cM (bL st y).2.1 p).drop (lo+CS rows' lo hi)))))
 |_,_,_=>False
def isLit:PV→Prop
 |.lit _=>True
 |_=>False
def zF:List PV→Prop
 |[]=>True
 |x::xs=>isLit x∧zF xs
def zG:List (List PV)→Prop
 |[]=>True
 |x::xs=>zF x∧zG xs
theorem ai.lits{g g':Gh}:∀{xs:List PV}{vs:List Value},zF xs→ai g xs vs→ai g' xs vs
 |[],_,_,h=>h
 |x::xs,_,hl,⟨v,r,h1,h2,h3⟩=>by
  refine⟨v,r,h1,?_,ai.lits hl.2 h3⟩;have:=hl.1;cases x<;>first|exact h2|exact this.elim
theorem au.lits{g g':Gh}{e:Nat}:∀{xs:List (List PV)}{vs:List Value},zG xs→au g e xs vs→au g' e xs vs
 |[],_,_,h=>h
 |_::_,_,hl,⟨v1,v2,h1,h2,h3,h4⟩=>⟨v1,v2,h1,h2,ai.lits hl.1 h3,au.lits hl.2 h4⟩
def copyV(P:Program)(st:St)(t:TypeId)(x y:Operand)(d:Option Tmp)(K:St→Prop):Prop:=
 F4 st y∧gc st x∧
 match vw 0 st y,partOf st x,bG P t with
 |.seq _ e' rows',some (p,lo,hi),some (e,_)=>e'=e∧pc st p=e∧zG rows'∧
  K (putD d (.pv (.lit (.int .i64 (CS rows' lo hi)))) (setPos st p (.own (l6 st p) e ((cM st p).take lo++rows'.take (CS rows' lo hi)++(cM st p).drop (lo+CS rows' lo hi)))))
 |_,_,_=>False
def Hv:SV→Bool
 |.loc _ _ _=>true
 |_=>false
def zH(P:Program)(st:St)(t:TypeId)(x y:Operand)(d:Option Tmp)(K:St→Prop):Prop:=
 if Hv (mv st y)=true then copyV P st t x y d K else Hu P st t x y d K
theorem Sim.setSame{g:Gh}{st:St}{a:Act}{w:World}(h:Sim g st a w){p:Pos}{nw:Bool}{e:Nat}{rows:List (List PV)}(hp:aa st p=.own nw e rows):Sim g (setPos st p (.own nw e rows)) a w:=by
 cases p with
 |slot s=>
  refine h.looks rfl fun k=>?_;simp only[setPos,look];split
  ·rename_i e;rw[←e];exact hp.symm
  ·rfl
 |cell b k=>
  have:setPos st (.cell b k) (.own nw e rows)=st:=by
   simp only[aa]at hp;cases hx:st.h[b]?with
   |none=>simp[List.getD,hx]at hp
   |some xs=>
    have h1:st.h.getD b []=xs:=by simp[List.getD,hx]
    rw[h1]at hp;have h2:xs.set k (.own nw e rows)=xs:=by
     cases hk:xs[k]?with
     |none=>simp[List.getD,hk]at hp
     |some y=>
      simp only[List.getD,hk,Option.getD_some]at hp;subst hp;obtain⟨hlt,hy⟩:=List.getElem?_eq_some_iff.1 hk;rw[←hy];exact List.set_getElem_self hlt
    simp only[setPos,h1,h2];obtain⟨hlt,hy⟩:=List.getElem?_eq_some_iff.1 hx;rw[←hy,List.set_getElem_self]
  rw[this];exact h
theorem Bg{P:Program}(w:World)(t t2 ty el:TypeId)(i:TypeInfo)(ht:P.underlying t=some (.slice el))(hi:P.info? el=some i)(b q:Option Addr)(n m k c:Nat)(h0:min m n=0):
 (Builtin.copy_ #[t,t2] ty #[.slice b n k,.slice q m c]).run P w=.ok (goInt 0) w:=by
 have h0':Nat.min m n=0:=h0;cases q with
 |none=>cases b<;>simp[Builtin.copy_,run_underlying ht,sizeOf,typeInfo,hi,Builtin.lenOf,h0',Builtin.firstCells,storeCells]
 |some q=>cases b<;>simp[Builtin.copy_,run_underlying ht,sizeOf,typeInfo,hi,Builtin.lenOf,h0',Builtin.firstCells,storeCells,loadCells,loadCellsFrom]
theorem Bh{P:Program}(w:World)(t t2 ty el:TypeId)(i:TypeInfo)(ht:P.underlying t=some (.slice el))(hi:P.info? el=some i)
 (c off:Nat) (T:TypeId) (arr:Array Value) (hc:w.heap[c]?=some (.cells arr T (0,0))) (a:Addr) (n k m cc:Nat) (news:List Value) (hl:news.length=min m n*i.size) (hnews:∀(j:Nat) u,news[j]?=some u→w.cell? (a.add j)=some u) (h1:∀u∈news,u.oneCell'=true)
 (hfit:off+news.length≤arr.size):
 (Builtin.copy_ #[t,t2] ty #[.slice (some ⟨c,off,none⟩) n k,.slice (some a) m cc]).run P w=.ok (goInt (min m n:Nat)) (w.setRow c (splice arr.toList off news).toArray):=by
 have hf:=run_firstCells_some (P:=P) w i.size (min m n) a m cc news hl hnews;have hst:=run_storeCells_at P c off T news 0 arr w hc (by simpa using hfit) h1;simp only[Nat.add_zero]at hst;have hm:Nat.min m n=min m n:=rfl;simp[Builtin.copy_,run_underlying ht,sizeOf,typeInfo,hi,Builtin.lenOf,hm,hf,hst,splice]
theorem sx{P:Program}{st2:St}(o:Oper)(t t2:TypeId)(x y:Operand)(d:Option Tmp){K:St→Prop}(ho:o.op=.call {callee:=.builtin .copy,args:=#[x,y],argTypes:=#[t,t2]}) (hd:o.dst=d) {g2:Gh} {a:Act} {w:World} (s2:Sim g2 st2 a w) (hd2:bR g2.N o.dst)
 {rows':List (List PV)} {p:Pos} {lo hi e zz:Nat} (h2:gc st2 x) (hp:partOf st2 x=some (p,lo,hi)) (hsl:bG P t=some (e,zz)) (hE:pc st2 p=e) {p2:Option Addr} {cap2:Nat} (hv2:a.eval y=.slice p2 rows'.length cap2)
 (hor:rows'=[]∨∃c2 off2 arr2 T2 fz2 vs2,p2=some ⟨c2,off2,none⟩∧w.heap[c2]?=some (.cells arr2 T2 fz2)∧au g2 e rows' vs2∧vs2<+:arr2.toList.drop off2)
 (hK:K (putD d (.pv (.lit (.int .i64 (CS rows' lo hi)))) (setPos st2 p (.own (l6 st2 p) e ((cM st2 p).take lo++rows'.take (CS rows' lo hi)++(cM st2 p).drop (lo+CS rows' lo hi)))))):
 ∃v w' g' st',(execOp a.eval o).run P w=.ok (.value v) w'∧g2.to g'∧K st'∧Sim g' st' (a.put o.dst v) w':=by
 obtain⟨nw,e0,rows,hpo,j1,j2,q0,cap,jv,jc,jq,_⟩:=lC s2 h2 hp;have eE:pc st2 p=e0:=by simp only[pc,hpo]
 have eR:cM st2 p=rows:=by simp only[cM,hpo]
 have eN:l6 st2 p=nw:=by simp only[l6,hpo]
 rw[eE]at hE;subst hE;rw[eR,eN]at hK;obtain⟨el,i,z,hu,hinf,_,hsz,_,_,_⟩:=oc hsl;have hcall:∀v w',(Builtin.copy_ #[t,t2] o.type #[a.eval x,a.eval y]).run P w=.ok v w'→(execOp a.eval o).run P w=.ok (.value v) w':=fun v w' hr=>by
  simp[execOp,ho,resolve,invoke,builtin,hr]
 have hN:CS rows' lo hi=min rows'.length (hi -lo):=rfl
 by_cases h0:min rows'.length (hi -lo)=0
 ·have hr:=Bg (P:=P) w t t2 o.type el i hu hinf q0 p2 (hi -lo) rows'.length cap cap2 h0;rw[←jv,←hv2]at hr;refine⟨_,_,g2,_,hcall _ _ hr,s2.refl_to,hK,?_⟩;rw[hN,h0];have hsame:rows.take lo++rows'.take 0++rows.drop (lo+0)=rows:=by simp
  rw[hsame,←hd];exact(s2.setSame hpo).putD hd2 ⟨rfl,rfl⟩ trivial rfl
 ·have hlh:lo≠hi:=fun h=>h0 (by subst h;simp);have hr0:rows'≠[]:=fun h=>h0 (by subst h;simp);rcases jq with jq|⟨c,nn,cp,h5,h6⟩
  ·exact absurd jq hlh
  rcases hor with hor|⟨c2,off2,arr2,T2,fz2,vs2,hp2,hh2,hR2,hpre2⟩
  ·exact absurd hor hr0
  subst h6 hp2;obtain⟨bl,hb⟩:=s2.own;have hown:(aa st2 p).isOwn=true:=by rw[hpo];rfl
  have hfp:=aX hb hown;rw[hpo]at hfp;rcases hfp with⟨_,rfl,_⟩|⟨c',hbc,cap',arr,T,vs,e1,e2,e3,e4,e5,e6,e7⟩
  ·simp at j2;omega
  rw[h5]at e1;cases e1
  obtain⟨n,hn⟩:∃n,min rows'.length (hi -lo)=n:=⟨_,rfl⟩;have hn1:n≤rows'.length:=by omega
  have hn2:lo+n≤hi:=by omega
  have hcut:=au.cut hR2 0 n (Nat.zero_le _) hn1;simp only[List.drop_zero,Nat.zero_mul]at hcut;have hvl2:=hR2.length;have hvl:=e5.length;have hnl:(vs2.take (n*e0)).length=n*e0:=by
   rw[List.length_take,hvl2];exact Nat.min_eq_left (Nat.mul_le_mul_right _ hn1)
  have hle1:lo*e0+n*e0≤vs.length:=by rw[hvl,←Nat.add_mul];exact Nat.mul_le_mul_right _ (by omega)
  obtain⟨rest,hrest⟩:=e6;have hsa:arr.size=vs.length+rest.length:=by rw[←Array.length_toList,←hrest,List.length_append]
  have hr := Bh (P := P) w t t2 o.type el i hu hinf c (lo * e0) T arr e2 ⟨c2, off2, none⟩ (hi - lo) cap rows'.length cap2 (vs2.take (n * e0)) (by rw [hn, hsz]; exact hnl) (fun j u hj => by
   rw[Addr.add_lit,cell_of hh2,←Array.getElem?_toList];have hj2:vs2[j]?=some u:=by
    rw[List.getElem?_take]at hj;split at hj
    ·exact hj
    ·cases hj
   have:=fp hpre2 hj2
   rwa [List.getElem?_drop]at this) (fun u hu'=>hcut.one u hu') (by rw[hnl,hsa];omega)
  rw[←jv,←hv2]at hr;have hsim:Sim g2 (setPos st2 p (.own nw e0 (rows.take lo++rows'.take n++rows.drop (lo+n)))) a (w.setRow c (splice arr.toList (lo*e0) (vs2.take (n*e0))).toArray):=by
   have hspl:splice arr.toList (lo*e0) (vs2.take (n*e0))=(vs.take (lo*e0)++vs2.take (n*e0)++vs.drop (lo*e0+n*e0))++rest:=by
    unfold splice;rw[hnl,←hrest,List.take_append_of_le_length (by omega),List.drop_append_of_le_length (by omega)];simp only[List.append_assoc]
   have hc0:=au.cut e5 0 lo (Nat.zero_le _) (by omega);have hc2':=au.cut e5 (lo+n) rows.length (by omega) (Nat.le_refl _);simp only[List.drop_zero,Nat.zero_mul,List.take_length]at hc0 hc2';have hvt:vs.take (rows.length*e0)=vs:=by rw[←hvl,List.take_length]
   rw[hvt,Nat.add_mul]at hc2';refine s2.ownWrite hb hown hbc rfl (size_setRow _ _ _) (fun k hk=>setRow_other w _ k _ hk) (.inr ⟨c,rfl,cp,_,T,vs.take (lo*e0)++vs2.take (n*e0)++vs.drop (lo*e0+n*e0),?_,setRow_heap w _ arr _ T _ e2,?_,?_,au.append (au.append hc0 hcut) hc2',?_,e7⟩) rfl ?_
   ·rw[h5];congr 1;simp only[List.length_append,List.length_take,List.length_drop];omega
   ·rw[←e3,hsa,hspl];simp only[List.size_toArray,List.length_append,List.length_take,List.length_drop,hvl2];have:=Nat.min_eq_left (Nat.mul_le_mul_right e0 hn1);omega
   ·refine⟨by simp only[List.length_append,List.length_take,List.length_drop];omega,e4.2.1,?_⟩;intro v hv;rw[hspl]at hv;simp only[List.mem_append]at hv;rcases hv with((hv|hv)|hv)|hv
    ·exact e5.one v (List.mem_of_mem_take hv)
    ·exact hcut.one v hv
    ·exact e5.one v (List.mem_of_mem_drop hv)
    ·exact e4.2.2 v (by rw[←hrest];exact List.mem_append_right _ hv)
   ·exact⟨rest,by rw[hspl]⟩
   ·intro nw' e' rows1 hh;cases hh
    exact⟨nw,rows,hpo,by simp only[List.length_append,List.length_take,List.length_drop];omega⟩
  refine⟨_,_,g2,_,hcall _ _ hr,s2.refl_to,hK,?_⟩;rw[hN,hn,←hd];exact hsim.putD hd2 ⟨rfl,rfl⟩ trivial rfl
theorem CT{P:Program}{st:St}(o:Oper)(t t2:TypeId)(x y:Operand)(d:Option Tmp){K:St→Prop}(ho:o.op=.call {callee:=.builtin .copy,args:=#[x,y],argTypes:=#[t,t2]}) (hd:o.dst=d) (h:zH P st t x y d K):
 ∀g a w,Sim g st a w→bR g.N d→∃v w' g' st',(execOp a.eval o).run P w=.ok (.value v) w'∧g.to g'∧K st'∧Sim g' st' (a.put o.dst v) w':=by
 intro g a w hs hdd;unfold zH at h;split at h
 ·obtain⟨h1,h2,h3⟩:=h;have f2:=Ht hs 0 y h1;split at h3
  case h_2=>exact h3.elim
  rename_i nwr e' rows' p lo hi e by_ hvw hp hsl;obtain⟨rfl,hE,hlr,hK⟩:=h3;rw[hvw]at f2;obtain⟨p2,cap2,hv2,hc2,hor⟩:=f2;exact sx o t t2 x y d ho hd hs (by rw[hd];exact hdd) h2 hp hsl hE hv2 (hor.imp id fun⟨c2,off2,arr2,T2,fz2,vs2,q1,q2,_,q4,q5⟩=>⟨c2,off2,arr2,T2,fz2,vs2,q1,q2,au.lits hlr q4,q5⟩) hK
 ·obtain⟨h1,h2,h3⟩:=h;obtain⟨g2,t2',l2,n2,s2,f2⟩:=kb hs y h1;generalize(bL st y).2.1=st2 at*;generalize(bL st y).1=pv at*;split at h3
  case h_2=>exact h3.elim
  rename_i nwr e' rows' p lo hi e by_ hp hsl;obtain⟨rfl,hE,hK⟩:=h3;obtain⟨p2,cap2,hv2,hc2,hor⟩:=f2;obtain⟨v,w',g',st',q1,q2,q3,q4⟩:=sx o t t2 x y d ho hd s2 (by rw[hd,t2'.N];exact hdd) h2 hp hsl hE hv2 (hor.imp id fun⟨c2,off2,arr2,T2,fz2,vs2,q1,q2,_,q4,q5⟩=>⟨c2,off2,arr2,T2,fz2,vs2,q1,s2.I _ _ q2,q4,q5⟩) hK;exact⟨v,w',g',st',q1,t2'.trans q2,q3,q4⟩
end Go.AX
namespace Go.AX
/-! ### What a call of a function that changes nothing gives -/
structure PureEnd (w w':World) (g':Gh):Prop where
  B:g'.B=w.heap.size
  env:bX w'=bX w
  keep:∀c,c<w.heap.size→w'.heap[c]?=w.heap[c]?
  size:w.heap.size≤w'.heap.size
  I:∀c o,g'.I c=some o→w'.heap[c]?=some o
def ao(P:Program)(f:FuncId)(args:List PV)(R:SV→Prop):Prop:=
 aB P f=true∧∀(w:World)(vs:List Value),ai (dw w) args vs→Calls P f vs.toArray w (fun e w'=>∃v r g' o,e=.returned v∧R r∧PureEnd w w' g'∧av g' w' r v o∧r.inCell=true∧∀c,o=some c→w.heap.size≤c∧g'.I c=none)
theorem ao.mono{P:Program}{f:FuncId}{args:List PV}{R R':SV→Prop}(h:ao P f args R)(hr:∀r,R r→R' r):ao P f args R':=
 ⟨h.1,fun w vs hv=>(h.2 w vs hv).mono fun _ _ ⟨v,r,g',o,h1,h2,h3⟩=>⟨v,r,g',o,h1,hr r h2,h3⟩⟩
def SV.nwS:SV→Prop
 |.pv x=>x.nw
 |.own nw _ rows=>nw=true∧A9 rows
 |.omap nw es=>nw=true∧F6 es
 |_=>False
theorem av.new{g g2:Gh}{w:World}(hI:∀c o,g.I c=some o→g.B≤c→g2.I c=some o)(hB:g2.B≤g.B){r:SV}{v:Value}{o:Option Nat}(hn:r.nwS)(h:av g w r v o):av g2 w r v o:=by
 cases r with
 |pv x=>exact⟨h.1,Fit.new hI hB x v hn h.2⟩
 |own nw e rows=>exact h.imp id fun⟨c,h1,cap,arr,T,vs,a1,a2,a3,a4,a5,a6,a7⟩=>⟨c,h1,cap,arr,T,vs,a1,a2,a3,a4,au.new hI hB e rows vs hn.2 a5,a6,fun hh=>Nat.le_trans hB (a7 hh)⟩
 |omap nw es=>obtain⟨c,h1,en,ck,a1,a2,a3,a4⟩:=h;exact⟨c,h1,en,ck,a1,a2,bm.new hI hB es _ hn.2 a3,fun hh=>Nat.le_trans hB (a4.1 hh),a4.2⟩
 |_=>cases hn
theorem Sim.grown{g:Gh}{st:St}{a:Act}{w w':World}(h:Sim g st a w)(hen:bX w'=bX w)(hsz:w.heap.size≤w'.heap.size)(hw:∀c,c<w.heap.size→w'.heap[c]?=w.heap[c]?)
 (J:Nat→Option Obj) (hJ:∀c o,J c=some o→w'.heap[c]?=some o):
 Sim {g with I:=fun c=>if w.heap.size≤c then J c else g.I c} st a w'∧g.to {g with I:=fun c=>if w.heap.size≤c then J c else g.I c}∧
  ∀bl,Owns g st a w bl→Owns {g with I:=fun c=>if w.heap.size≤c then J c else g.I c} st a w' bl:=by
 have hlt:∀{c o},w.heap[c]?=some o→c<w.heap.size:=fun hh=>(Array.getElem?_eq_some_iff.1 hh).1;have hIl:∀c o,g.I c=some o→(if w.heap.size≤c then J c else g.I c)=some o:=fun c o hc=>by
  rw[if_neg (by have:=hlt (h.I c o hc);omega)];exact hc
 have hle:g.le {g with I:=fun c=>if w.heap.size≤c then J c else g.I c}:=⟨hIl,Nat.le_refl _,Nat.le_refl _,fun _ _=>rfl⟩;obtain⟨bl0,hb0⟩:=h.own;have hμ:∀b,b<g.n→g.μ b<w.heap.size:=fun b hbn=>by
  obtain⟨_,_,h3,_⟩:=hb0.blocks b _ (List.getElem?_eq_getElem (h.n▸hbn));exact hlt h3
 have hbn:∀{b:Nat}{xs:List SV},st.h[b]?=some xs→b<g.n:=fun hx=>by rw[h.n];exact(List.getElem?_eq_some_iff.1 hx).1
 have hown:∀bl,Owns g st a w bl→Owns {g with I:=fun c=>if w.heap.size≤c then J c else g.I c} st a w' bl:=by
  intro bl hb;have hfr:∀p c,bl p=some c→w'.heap[c]?=w.heap[c]?:=fun p c hc=>hw c (hb.free p c hc).2.2.1;refine{slots:=fun s=>av.frame hle (hfr _) (hb.slots s),blocks:=fun b xs hx=>?_,inj:=hb.inj,free:=fun p c hc=>?_}
  ·obtain⟨arr,T,h1,h2,h3⟩:=hb.blocks b xs hx;exact⟨arr,T,by show w'.heap[g.μ b]?=_;rw[hw _ (hμ b (hbn hx))];exact h1,h2,fun k x hk=>⟨(h3 k x hk).1,av.frame hle (hfr _) (h3 k x hk).2⟩⟩
  ·obtain⟨f1,f2,f3,f4⟩:=hb.free p c hc;exact⟨by show(if w.heap.size≤c then J c else g.I c)=none;rw[if_neg (by omega)];exact f1,f2,by omega,f4⟩
 refine⟨{size:=h.size,defs:=h.defs,env:=hen.trans h.env,n:=h.n,n0:=h.n0,B:=Nat.le_trans h.B hsz,I:=fun c o hc=>?_,F:=fun c o hc=>?_,μI:=fun b hb=>?_,μinj:=h.μinj,own:=⟨bl0,hown bl0 hb0⟩,al:=fun s=>?_},
  ⟨hIl,rfl,rfl,rfl,rfl,rfl,h.n0,fun _ _=>rfl,fun c hF hI=>by
   obtain⟨o,ho⟩:=Option.ne_none_iff_exists'.1 hF;show(if w.heap.size≤c then J c else g.I c)=none;rw[if_neg (by have:=hlt (h.F c o ho);omega)];exact hI⟩,hown⟩
 ·change(if w.heap.size≤c then J c else g.I c)=some o at hc
  split at hc
  ·exact hJ c o hc
  ·have:=h.I c o hc;rw[hw c (hlt this)];exact this
 ·have:=h.F c o hc;rw[hw c (hlt this)];exact this
 ·refine⟨?_,(h.μI b hb).2⟩;show(if w.heap.size≤g.μ b then J (g.μ b)else g.I (g.μ b))=none;rw[if_neg (by have:=hμ b hb;omega)];exact(h.μI b hb).1
 ·refine bN.congr (fun p hp=>⟨rfl,?_⟩) (h.al s);cases p with
  |slot s=>rfl
  |cell b k=>
   simp only[aa]at hp;cases hx:st.h[b]?with
   |none=>simp[List.getD,hx,SV.isOwn]at hp
   |some xs=>simp only[an];rw[hw _ (hμ b (hbn hx))]
def km(d:Option Tmp)(r:SV)(st:St):St:=
 match d with
 |none=>st
 |some d=>match r with
  |.own nw e rows=>⟨(d,.own nw e rows)::aA (cN d) st.t,st.h⟩
  |.omap nw es=>⟨(d,.omap nw es)::aA (cN d) st.t,st.h⟩
  |r=>st.put d r
theorem Sim.result{g:Gh}{st:St}{a:Act}{w w':World}{g':Gh}(h:Sim g st a w){d:Option Tmp}(hd:bR g.N d){r:SV}{v:Value}{o:Option Nat}(he:PureEnd w w' g')(hf:av g' w' r v o)(hc:r.inCell=true)
 (ho:∀c,o=some c→w.heap.size≤c∧g'.I c=none) (hn:r.nwS):∃g2,g.to g2∧Sim g2 (km d r st) (a.put d v) w':=by
 obtain⟨h1,h2,h3⟩:=h.grown he.env he.size he.keep g'.I he.I;refine⟨_,h2,?_⟩;have hf2:av {g with I:=fun c=>if w.heap.size≤c then g'.I c else g.I c} w' r v o:=av.new (g:=g')
  (fun c o' hc hB=>by show(if w.heap.size≤c then g'.I c else g.I c)=some o';rw[if_pos (by rw[←he.B];exact hB)];exact hc) (by show g.B≤g'.B;rw[he.B];exact h.B) hn hf
 cases d with
 |none=>exact h1
 |some d=>
  obtain⟨bl,hb⟩:=h.own;have hb2:=h3 bl hb;have hlt:∀c,o=some c→c<w'.heap.size:=fun c hoc=>by
   cases r with
   |pv x=>rw[hf.1]at hoc;cases hoc
   |own nw e rows=>
    rcases hf with⟨h5,_⟩|⟨c',h5,_,_,_,_,_,h6,_⟩
    ·rw[h5]at hoc;cases hoc
    ·rw[h5]at hoc;cases hoc;exact(Array.getElem?_eq_some_iff.1 h6).1
   |omap nw es=>obtain⟨c',h5,_,_,_,h6,_⟩:=hf;rw[h5]at hoc;cases hoc;exact(Array.getElem?_eq_some_iff.1 h6).1
   |_=>cases hn
  have hfree:∀c,o=some c→FreeAt {g with I:=fun c=>if w.heap.size≤c then g'.I c else g.I c} bl c:=fun c hc=>by
   obtain⟨h5,h6⟩:=ho c hc;have hfr:=h.fresh hb h5;exact⟨by show(if w.heap.size≤c then g'.I c else g.I c)=none;rw[if_pos h5];exact h6,hfr.F,hfr.μ,hfr.own⟩
  cases r with
  |pv x=>exact h1.put hd (by rw[hf.1]at hf2;exact hf2) trivial rfl
  |own nw e rows=>exact h1.putOwn hb2 hd rfl (Nat.le_refl _) (fun _ _ _=>rfl) hf2 rfl (fun c hc=>⟨hlt c hc,hfree c hc⟩)
  |omap nw es=>exact h1.putOwn hb2 hd rfl (Nat.le_refl _) (fun _ _ _=>rfl) hf2 rfl (fun c hc=>⟨hlt c hc,hfree c hc⟩)
  |_=>cases hn
/-! ### Calls -/
def bv(st:St)(x:Operand):Option (FuncId×List PV×List PV):=
 match x with
 |.func f=>some (f,[],[])
 |x=>match mv st x with
  |.pv (.fn (.func f) a b)=>some (f,a,b)
  |.pv (.lit (.func (.func f) a b))=>some (f,a.toList.map .lit,b.toList.map .lit)
  |_=>none
def iL(st:St):List Operand→Prop
 |[]=>True
 |x::xs=>F4 st x∧iL st xs
theorem qf(k:Nat):∀xs:List PV,bO k xs↔∀x∈xs,x.bel k
 |[]=>by simp[bO]
 |x::xs=>by simp[bO,qf k xs]
theorem gE(k:Nat):∀xs:List (List PV),bP k xs↔∀r∈xs,∀x∈r,x.bel k
 |[]=>by simp[bP]
 |x::xs=>by simp[bP,gE k xs,qf]
theorem qg(k:Nat):∀xs:List (Int×PV),ft k xs↔∀r∈xs,r.2.bel k
 |[]=>by simp[ft]
 |(n,x)::xs=>by simp[ft,qg k xs]
/-! ### What names no block reads everywhere the same -/
section
variable {g : Gh} {r : Nat → Nat → PV}
mutual
theorem Fit.frz0:∀(x:PV)(v:Value),x.bel 0→Fit g x v→Fit g (jk r x) v
  |.bot,_,_,_=>trivial
  |.lit _,_,_,h=>h
  |.agg xs,v,hn,⟨vs,h1,h2⟩=>⟨vs,h1,ai.frz0 xs _ hn h2⟩
  |.tup xs,v,hn,⟨vs,h1,h2⟩=>⟨vs,h1,ai.frz0 xs _ hn h2⟩
  |.seq nw e rows,v,hn,⟨p,cap,h1,hc,h2⟩=>⟨p,cap,by rw[h1,cd,List.length_map],by rw[cd,List.length_map];exact hc,h2.imp (fun h=>by rw[h];rfl)
      fun⟨c,off,arr,T,fz,vs,a,b,_,q1,q2⟩=>⟨c,off,arr,T,fz,vs,a,b,fun hn=>(by cases hn),au.frz0 e rows vs hn q1,q2⟩⟩
  |.iptr e rows i k,v,hn,⟨c,off,arr,T,fz,vs,a,b,q1,q2⟩=>⟨c,off,arr,T,fz,vs,a,b,au.frz0 e rows vs hn q1,q2⟩
  |.ptr b off,v,hn,_=>absurd hn (Nat.not_lt_zero _)
  |.bsl b _ _ _ _,v,hn,_=>absurd hn (Nat.not_lt_zero _)
  |.fn f first cap,v,⟨n1,n2⟩,⟨a,b,h1,h2,h3⟩=>⟨a,b,h1,ai.frz0 first _ n1 h2,ai.frz0 cap _ n2 h3⟩
  |.amap nw es,v,hn,⟨c,en,ck,a,b,_,q⟩=>⟨c,en,ck,a,b,fun hn=>(by cases hn),bm.frz0 es _ hn q.1,q.2⟩
  |.ifc t x,v,hn,⟨y,h1,h2⟩=>⟨y,h1,Fit.frz0 x y hn h2⟩
theorem ai.frz0:∀(xs:List PV)(vs:List Value),bO 0 xs→ai g xs vs→ai g (dY r xs) vs
  |[],_,_,h=>h
  |x::xs,vs,⟨n1,n2⟩,⟨v,r',h1,h2,h3⟩=>⟨v,r',h1,Fit.frz0 x v n1 h2,ai.frz0 xs r' n2 h3⟩
theorem au.frz0(e:Nat):∀(rows:List (List PV))(vs:List Value),bP 0 rows→au g e rows vs→au g e (ke r rows) vs
  |[],_,_,h=>h
  |row::rows,vs,⟨n1,n2⟩,⟨v1,v2,h1,h2,h3,h4⟩=>⟨v1,v2,h1,⟨by rw[cU,List.length_map];exact h2.1,h2.2⟩,ai.frz0 row v1 n1 h3,au.frz0 e rows v2 n2 h4⟩
theorem bm.frz0:∀(es:List (Int×PV))(en:List MapEntry),ft 0 es→bm g es en→bm g (p9 r es) en
  |[],_,_,h=>h
  |(k,x)::es,en,⟨n1,n2⟩,⟨m,r',h1,h2,h3,h4⟩=>⟨m,r',h1,h2,Fit.frz0 x m.val n1 h3,bm.frz0 es r' n2 h4⟩
end
end
def xp(n:Nat)(st:St):List Operand→List PV
 |[]=>[]
 |x::xs=>vw n st x::xp n st xs
theorem mB(n:Nat)(st:St):∀xs:List Operand,xp n st xs=xs.map (vw n st)
 |[]=>rfl
 |x::xs=>by simp[xp,mB n st xs]
theorem og{g:Gh}{st:St}{a:Act}{w:World}(h:Sim g st a w)(n:Nat):∀(xs:List Operand),iL st xs→ai (dw w) (xs.map (vw n st)) (xs.map a.eval)
 |[],_=>rfl
 |x::xs,hd=>⟨_,_,rfl,Ht h n x hd.1,og h n xs hd.2⟩
theorem ea{g:Gh}{st:St}{a:Act}{w:World}(h:Sim g st a w){x:Operand}{f:FuncId}{p q:List PV}(hg:gc st x)(hc:bv st x=some (f,p,q)):
 ∃u v:Array Value,a.eval x=.func (.func f) u v∧ai g p u.toList∧ai g q v.toList:=by
 have key:(match mv st x with|.pv (.fn (.func f) a b)=>some (f,a,b)|.pv (.lit (.func (.func f) a b))=>some (f,a.toList.map .lit,b.toList.map .lit)|_=>(none:Option (FuncId×List PV×List PV)))=some (f,p,q)→
  ∃u v:Array Value,a.eval x=.func (.func f) u v∧ai g p u.toList∧ai g q v.toList:=by
  intro hc;obtain⟨hf,_⟩:=aL h x hg;split at hc
  ·rename_i f' p' q' hm;rw[hm]at hf;cases hc
   obtain⟨_,u,v,h1,h2,h3⟩:=hf;exact⟨u,v,h1,h2,h3⟩
  ·rename_i f' p' q' hm;rw[hm]at hf;cases hc
   exact⟨p',q',hf.2,dI g _,dI g _⟩
  ·cases hc
 cases x with
 |func f'=>simp only[bv]at hc;cases hc;exact⟨#[],#[],rfl,rfl,rfl⟩
 |tmp k=>exact key hc
 |const v=>exact key hc
 |global n=>exact key hc
theorem zI{P:Program}{g:Gh}{st:St}{a:Act}{w:World}(h:Sim g st a w)(o:Oper)(x:Operand)(args:Array Operand)(tys:Array TypeId)(f:FuncId)(p q:List PV)(n:Nat)
 (ho:o.op=.call {callee:=.value x,args:=args,argTypes:=tys}) (hg:gc st x) (hc:bv st x=some (f,p,q)) (hv:iL st args.toList) (hd:bR g.N o.dst)
 {R:SV→Prop} (hA:ao P f (p.map (jk (bq st.h n))++(args.toList.map (vw n st)++q.map (jk (bq st.h n)))) R) (K:Act→World→Prop) (Q:Exit→Act→World→Prop)
 (hn:∀r,R r→r.nwS)
 (hfin:∀r g2 v w',R r→g.to g2→Sim g2 (km o.dst r st) (a.put o.dst v) w'→K (a.put o.dst v) w'):o.wp P a w K Q:=by
 obtain⟨u,v,hx,hu,hv'⟩:=ea h hg hc;have hr:=jm h n;have hfit:ai (dw w) (p.map (jk (bq st.h n))++(args.toList.map (vw n st)++q.map (jk (bq st.h n)))) (u.toList++(args.toList.map a.eval++v.toList)):=by
  refine ai.append ?_ (ai.append (og h n _ hv) ?_)
  ·rw[←cU];exact ai.frz h.I hr _ _ hu
  ·rw[←cU];exact ai.frz h.I hr _ _ hv'
 obtain⟨hcall,hA⟩:=hA;have hcalls:=hA w _ hfit;have harr:(u.toList++(args.toList.map a.eval++v.toList)).toArray=u++args.map a.eval++v:=by
  apply Array.ext';simp
 rw[harr]at hcalls;unfold Oper.wp;have hrun:(execOp a.eval o).run P w=.ok (.enter f (u++args.map a.eval++v)) w:=by
  unfold aB at hcall;split at hcall
  case h_2=>cases hcall
  rename_i fn hfn;simp only[Bool.and_eq_true,Bool.not_eq_true']at hcall;simp only[execOp,ho,resolve,hx,Deferred.ofValue,invoke,callFunc,Sem.run_bind,Sem.run_pure,Result.andThen_ok,run_program,hfn,hcall.1,hcall.2,Bool.false_eq_true,if_false,Sem.run_ite]
 rw[hrun,Oper.upon_enter];refine hcalls.mono fun e w' ⟨val,r,g',ob,he,hR,hE,hF,hin,hob⟩=>?_;subst he;have hnw:=hn r hR;obtain⟨g2,t2,s2⟩:=h.result hd hE hF hin hob hnw;exact hfin r g2 val w' hR t2 s2
/-! ### One operation -/
def xM(P:Program)(st:St)(t:TypeId)(x y:Operand)(K:St→Prop):Prop:=
 match aJ P t with
 |some (_,n)=>(bL st y).2.2∧bn (aK (bL st y).1)=true∧((bL st y).1.one=true∨cY (.pv (bL st y).1))∧(aK (bL st y).1).length=n∧gc (bL st y).2.1 x∧
  match mv (bL st y).2.1 x with
  |.pv (.ptr b off)=>off+n≤((bL st y).2.1.h.getD b []).length∧
   K ⟨aA (aC b off n) (bL st y).2.1.t,(bL st y).2.1.h.set b (splice ((bL st y).2.1.h.getD b []) off ((aK (bL st y).1).map .pv))⟩
  |.sptr p i k=>match aa (bL st y).2.1 p with
   |.own nw e rows=>i<rows.length∧k+n≤e∧K (setPos (bL st y).2.1 p (.own nw e (rows.set i (splice (rows.getD i []) k (aK (bL st y).1)))))
   |_=>False
  |_=>False
 |none=>False
def xN(P:Program)(st:St)(t:TypeId)(x y:Operand)(K:St→Prop):Prop:=
 match tN st x y with
 | some (st', ok) => (match aJ P t with
  |some (_,n)=>n=1
  |none=>False)∧ok∧K st'
 |none=>match tP st x y with
  | some (st', m, ok) => (match aJ P t with
   |some (_,n)=>n=m
   |none=>False)∧ok∧K st'
  |none=>xM P st t x y K
def tU(P:Program)(st:St)(t:TypeId)(len:Nat)(parts:Array (Nat×Operand))(d:Tmp)(K:St→Prop):Prop:=
 match bg P t,df P t with
 |some e,some _=>len*e≤16777216∧0<e∧parts.toList.map (·.1)=List.range len∧(cT st (parts.toList.map (·.2))).2.2∧
  (∀y∈(cT st (parts.toList.map (·.2))).1,(aK y).length=e∧bn (aK y)=true∧(y.one=true∨cY (.pv y)))∧
  K ⟨(d,.own true e ((cT st (parts.toList.map (·.2))).1.map aK))::aA (cN d) (cT st (parts.toList.map (·.2))).2.1.t,(cT st (parts.toList.map (·.2))).2.1.h⟩
 |_,_=>False
def tV(P:Program)(st:St)(t:TypeId)(s x:Operand)(d:Tmp)(K:St→Prop):Prop:=
 match bG P t with
 |some (e,b)=>0<b∧gc st s∧gc st x∧ia st e (mv st x)∧
  match mv st s with
  |.al p=>match aa st p with
   |.own nw e' rows=>e'=e∧(rows.length+(rowsOf st (mv st x)).length)*b≤140737488355328∧
    K ⟨(d,.own nw e (rows++rowsOf st (mv st x)))::aA (cN d) (setPos st p (.pv .bot)).t,(setPos st p (.pv .bot)).h⟩
   |_=>False
  |.loc p lo hi=>match aa st p with
   |.own nw e' rows=>lo=0∧e'=e∧((rows.take hi).length+(rowsOf st (mv st x)).length)*b≤140737488355328∧
    K ⟨(d,.own nw e (rows.take hi++rowsOf st (mv st x)))::aA (cN d) (setPos st p (.pv .bot)).t,(setPos st p (.pv .bot)).h⟩
   |_=>False
  |.pv (.lit u)=>ig u=true∧(rowsOf st (mv st x)).length*b≤140737488355328∧K ⟨(d,.own true e (rowsOf st (mv st x)))::aA (cN d) st.t,st.h⟩
  |_=>False
 |none=>False
def eK:Pos→Bool
 |.slot _=>false
 |.cell _ _=>true
def aE(P:Program)(f:FuncId)(args:List PV)(h:List (List SV))(R:SV→List (List SV)→Prop):Prop:=
 aB P f=true∧∀(g:Gh)(st:St)(a:Act)(w:World)(vs:List Value),Sim g st a w→st.h=h→ai g args vs→
  Calls P f vs.toArray w (fun e w'=>∃v r h' g',e=.returned v∧R r h'∧g.to g'∧∀d,bR g.N d→Sim g' (km d r ⟨aA eK st.t,h'⟩) (a.put d v) w')
theorem aE.mono{P:Program}{f:FuncId}{args:List PV}{h:List (List SV)}{R R':SV→List (List SV)→Prop}(hm:aE P f args h R)(hr:∀r h',R r h'→R' r h'):aE P f args h R':=
 ⟨hm.1,fun g st a w vs hs hh hv=>(hm.2 g st a w vs hs hh hv).mono fun _ _ ⟨v,r,h',g',h1,h2,h3⟩=>⟨v,r,h',g',h1,hr r h' h2,h3⟩⟩
def sy(P:Program)(st:St)(f:FuncId)(pa:List PV)(d:Option Tmp)(K:St→Prop):Prop:=
 ∃R,aE P f pa st.h R∧∀r h',R r h'→K (km d r ⟨aA eK st.t,h'⟩)
def sA(P:Program)(st:St)(f:FuncId)(p:List PV)(args:Array Operand)(q:List PV)(d:Option Tmp)(K:St→Prop):Prop:=
 match p,args.toList with
 |[],x::xs=>match partOf st x with
  |some (o,lo,hi)=>gc st x∧bP 0 (((cM st o).take hi).drop lo)∧iL (setPos st o (.pv .bot)) xs∧∃R,tT P f (pc st o) (((cM st o).take hi).drop lo) (xp 3 (setPos st o (.pv .bot)) xs++dY (bq (setPos st o (.pv .bot)).h 3) q) R∧
   ∀k rows',R k rows'→rows'.length=hi -lo→(∀m,k=some m→m≤hi -lo)→K (Bf d k o lo (setPos st o (.own (l6 st o) (pc st o) ((cM st o).take lo++rows'++(cM st o).drop hi))))
  |none=>False
 |_,_=>False
def dg(P:Program)(st:St)(x:Operand)(args:Array Operand)(d:Option Tmp)(K:St→Prop):Prop:=
 ∀(o:Oper)(tys:Array TypeId),o.op=.call {callee:=.value x,args:=args,argTypes:=tys}→o.dst=d→∀(g:Gh)(a:Act)(w:World),Sim g st a w→bR g.N d→
  ∀(K':Act→World→Prop)(Q:Exit→Act→World→Prop),(∀st' g' a' w',K st'→g.to g'→Sim g' st' a' w'→K' a' w')→o.wp P a w K' Q
def am(P:Program)(st:St)(ok:Prop)(k:FuncId)(pa:List PV)(d:Option Tmp)(K:St→Prop)(x:Operand)(args:Array Operand):Prop:=
 (∃R,ao P k pa R∧∀r,R r→r.nwS∧K (km d r st))∨(ok∧sy P st k pa d K)∨dg P st x args d K
def ak(P:Program)(st stM:St)(okM:Prop)(f:FuncId)(paM:List PV)(okV:Prop)(paV:List PV)(d:Option Tmp)(K:St→Prop)(x:Operand)(args:Array Operand):Prop:=
 (okM∧sy P stM f paM d K)∨(okV∧∃R,ao P f paV R∧∀r,R r→r.nwS∧K (km d r st))∨dg P st x args d K
theorem ak.intro{P:Program}{st stM:St}{okM:Prop}{f:FuncId}{paM:List PV}{okV:Prop}{paV:List PV}{d:Option Tmp}{K:St→Prop}{x:Operand}{args:Array Operand}{R:SV→List (List SV)→Prop}(h:aE P f paM stM.h R)(ok:okM)(hK:∀r h',R r h'→K (km d r ⟨aA eK stM.t,h'⟩)):ak P st stM okM f paM okV paV d K x args:=.inl ⟨ok,R,h,hK⟩
theorem ak.introX{P:Program}{st stM:St}{okM:Prop}{f:FuncId}{paM:List PV}{okV:Prop}{paV:List PV}{d:Option Tmp}{K:St→Prop}{x:Operand}{args:Array Operand}(h:dg P st x args d K):ak P st stM okM f paM okV paV d K x args:=.inr (.inr h)
theorem ak.introP{P:Program}{st stM:St}{okM:Prop}{f:FuncId}{paM:List PV}{okV:Prop}{paV:List PV}{d:Option Tmp}{K:St→Prop}{x:Operand}{args:Array Operand}{r:SV}(h:ao P f paV (fun r'=>r'=r))(ok:okV)(hn:r.nwS)(hK:K (km d r st)):ak P st stM okM f paM okV paV d K x args:=
 .inr (.inl ⟨ok,_,h,fun r' hr'=>by subst hr';exact⟨hn,hK⟩⟩)
def lD(st:St)(args:Array Operand)(p q:List PV):Prop:=lZ st args.toList∧bO 0 (ii st args.toList)∧bO 0 p∧bO 0 q
theorem vn{st:St}:∀(xs:List Operand),lZ st xs→(cT st xs).1=ii st xs∧(cT st xs).2.1=st∧(cT st xs).2.2
 |[],_=>⟨rfl,rfl,trivial⟩
 |x::xs,⟨h1,h2,h3⟩=>by
  have hx:bL st x=(j8 (mv st x),st,gc st x):=by unfold bL;rw[lA h2];rfl
  obtain⟨i1,i2,i3⟩:=vn xs h3;simp only[cT,hx,ii];exact⟨by rw[i1],i2,h1,i3⟩
theorem zJ{st:St}(n:Nat):∀(xs:List Operand),lZ st xs→xp n st xs=dY (bq st.h n) (ii st xs)
 |[],_=>rfl
 |x::xs,⟨_,h2,h3⟩=>by
  have hx:vw n st x=jk (bq st.h n) (j8 (mv st x)):=by unfold vw;rw[lA h2];rfl
  simp only[xp,ii,dY,hx,zJ n xs h3]
theorem sy.plain{P:Program}{st:St}{f:FuncId}{args:Array Operand}{p q:List PV}{d:Option Tmp}{K:St→Prop}(h:lD st args p q)(hc:sy P st f (dY (bq st.h 3) p++(xp 3 st args.toList++dY (bq st.h 3) q)) d K):
 (cT st args.toList).2.2∧sy P (cT st args.toList).2.1 f (p++((cT st args.toList).1++q)) d K:=by
 obtain⟨h1,h2,h3,h4⟩:=h;obtain⟨e1,e2,e3⟩:=vn _ h1;refine⟨e3,?_⟩;rw[e1,e2];rw[zJ 3 _ h1]at hc;obtain⟨R,⟨hcal,hA⟩,hR⟩:=hc;refine⟨R,⟨hcal,fun g st' a w vs hs hh hv=>hA g st' a w vs hs hh ?_⟩,hR⟩;obtain⟨v1,v2,rfl,f1,f2⟩:=ai.split hv;obtain⟨v3,v4,rfl,f3,f4⟩:=ai.split f2;exact ai.append (ai.frz0 _ _ h3 f1) (ai.append (ai.frz0 _ _ h2 f3) (ai.frz0 _ _ h4 f4))
def xO:PV→Bool
 |.ptr _ _=>true
 |.bsl _ _ _ _ _=>true
 |_=>false
def CU:SV→Bool
 |.pv x=>xO x
 |_=>false
def iE:List PV→Bool
 |[]=>false
 |x::xs=>xO x||iE xs
def tW(st:St):List Operand→Bool
 |[]=>false
 |x::xs=>CU (mv st x)||tW st xs
def nk(st:St)(args:Array Operand)(p q:List PV):Bool:=iE p||(tW st args.toList||iE q)
def zK(P:Program)(st:St)(x:Operand)(args:Array Operand)(d:Option Tmp)(K:St→Prop):Prop:=
 match bv st x with
 |some (f,p,q)=>if nk st args p q=true then gc st x∧ak P st (cT st args.toList).2.1 (cT st args.toList).2.2 f (p++((cT st args.toList).1++q)) (iL st args.toList) (dY (bq st.h 3) p++(xp 3 st args.toList++dY (bq st.h 3) q)) d K x args
  else gc st x∧iL st args.toList∧am P st (lD st args p q) f (dY (bq st.h 3) p++(xp 3 st args.toList++dY (bq st.h 3) q)) d K x args
 |none=>False
theorem CV{P:Program}{g:Gh}{st:St}{a:Act}{w:World}(h:Sim g st a w)(o:Oper)(x:Operand)(args:Array Operand)(tys:Array TypeId)(f:FuncId)(p q:List PV)
 (ho:o.op=.call {callee:=.value x,args:=args,argTypes:=tys}) (hg:gc st x) (hc:bv st x=some (f,p,q)) (hv:(cT st args.toList).2.2) (hd:bR g.N o.dst) {K:St→Prop}
 (hA:sy P (cT st args.toList).2.1 f (p++((cT st args.toList).1++q)) o.dst K) {K':Act→World→Prop} {Q:Exit→Act→World→Prop} (hK:∀st' g' a' w',K st'→g.to g'→Sim g' st' a' w'→K' a' w'):o.wp P a w K' Q:=by
 obtain⟨u,v,hx,hu,hv'⟩:=ea h hg hc;obtain⟨g1,t1,l1,_,s1,f1⟩:=lB _ h hv;obtain⟨R,hA,hR⟩:=hA;have hfit:ai g1 (p++((cT st args.toList).1++q)) (u.toList++(args.toList.map a.eval++v.toList)):=
  ai.append (ai.mono l1 _ _ hu) (ai.append f1 (ai.mono l1 _ _ hv'))
 obtain⟨hcall,hA⟩:=hA;have hcalls:=hA g1 _ a w _ s1 rfl hfit;have harr:(u.toList++(args.toList.map a.eval++v.toList)).toArray=u++args.map a.eval++v:=by
  apply Array.ext';simp
 rw[harr]at hcalls;unfold Oper.wp;have hrun:(execOp a.eval o).run P w=.ok (.enter f (u++args.map a.eval++v)) w:=by
  unfold aB at hcall;split at hcall
  case h_2=>cases hcall
  rename_i fn hfn;simp only[Bool.and_eq_true,Bool.not_eq_true']at hcall;simp only[execOp,ho,resolve,hx,Deferred.ofValue,invoke,callFunc,Sem.run_bind,Sem.run_pure,Result.andThen_ok,run_program,hfn,hcall.1,hcall.2,Bool.false_eq_true,if_false]
 rw[hrun,Oper.upon_enter];refine hcalls.mono fun e w' ⟨val,r,h',g',he,hRr,hto,hsim⟩=>?_;subst he;exact hK _ g' _ w' (hR r h' hRr) (t1.trans hto) (hsim o.dst (by rw[t1.N];exact hd))
theorem HZ{g:Gh}{w:World}{c:Nat}(hI:∀k o,g.I k=some o→w.heap[k]?=some o)(hc:g.I c=none):g.leC (vm w c):=by
 refine⟨fun k arr T fz h=>?_,fun k en ck h=>?_⟩
 ·have hk:k≠c:=fun e=>by rw[e,hc]at h;cases h
  exact(jr w hk).trans (hI _ _ h)
 ·have hk:k≠c:=fun e=>by rw[e,hc]at h;cases h
  exact(jr w hk).trans (hI _ _ h)
theorem vo(w:World)(c:Nat):(dw (oe w c)).leC (vm w c):=⟨fun _ _ _ _ h=>h,fun _ _ _ h=>h⟩
theorem CX{P:Program}{g:Gh}{st:St}{a:Act}{w:World}(h:Sim g st a w)(o:Oper)(x:Operand)(args:Array Operand)(tys:Array TypeId)(f:FuncId)(p q:List PV)
    (ho:o.op=.call {callee:=.value x,args:=args,argTypes:=tys}) (hg:gc st x) (hc:bv st x=some (f,p,q)) (hd:bR g.N o.dst) {K:St→Prop}
    (hS:sA P st f p args q o.dst K) {K':Act→World→Prop} {Q:Exit→Act→World→Prop} (hK:∀st' g' a' w',K st'→g.to g'→Sim g' st' a' w'→K' a' w'):o.wp P a w K' Q:=by
  obtain⟨u,v,hx,hu,hv'⟩:=ea h hg hc
  unfold sA at hS
  split at hS
  case h_2=>exact hS.elim
  rename_i x0 xs hargs
  split at hS
  case h_2=>exact hS.elim
  rename_i ps lo hi hp
  obtain⟨h1,h2,h3,R,⟨hcall,hA,hA0⟩,hR⟩:=hS
  have hu0:u.toList=[]:=hu
  obtain⟨nw,e,rows,hpo,j1,j2,q0,cap,jv,jc,jq,jz⟩:=lC h h1 hp
  have eE:pc st ps=e:=by simp only[pc,hpo]
  have eR:cM st ps=rows:=by simp only[cM,hpo]
  have eN:l6 st ps=nw:=by simp only[l6,hpo]
  rw[eE,eR]at hA
  rw[eR]at hA0
  rw[eE,eR,eN]at hR
  rw[eR]at h2
  obtain⟨bl,hb⟩:=h.own
  have hown:(aa st ps).isOwn=true:=by rw[hpo];rfl
  have hfp:=aX hb hown
  rw[hpo]at hfp
  obtain⟨s0,bl0,hb0,_,_,hfree⟩:=h.drop hb ps
  have hlen:((rows.take hi).drop lo).length=hi -lo:=by rw[List.length_drop,List.length_take];omega
  have harr:(a.eval x0::(xs.map a.eval++v.toList)).toArray=u++args.map a.eval++v:=by
    apply Array.ext'
    simp[hu0,hargs]
  have hrun:(execOp a.eval o).run P w=.ok (.enter f (u++args.map a.eval++v)) w:=by
    unfold aB at hcall
    split at hcall
    case h_2=>cases hcall
    rename_i fn hfn
    simp only[Bool.and_eq_true,Bool.not_eq_true']at hcall
    simp only[execOp,ho,resolve,hx,Deferred.ofValue,invoke,callFunc,Sem.run_bind,Sem.run_pure,Result.andThen_ok,run_program,hfn,hcall.1,hcall.2,Bool.false_eq_true,if_false]
  -- what is given, put where it belongs
  have fin:∀(k:Option Nat)(rows':List (List PV))(g1:Gh)(w':World)(val:Value),R k rows'→rows'.length=hi -lo→(∀m,k=some m→m≤hi -lo)→g.to g1→Sim g1 (setPos st ps (.own nw e (rows.take lo++rows'++rows.drop hi))) a w'→
      an g1 a w' ps=an g a w ps→val=(match k with|none=>.tuple #[]|some m=>.slice q0 m cap)→K' (a.put o.dst val) w':=by
    intro k rows' g1 w' val hRk hl hk t1 s1 hpv hval
    have hKk:=hR k rows' hRk hl hk
    have hd1:bR g1.N o.dst:=by rw[t1.N];exact hd
    cases hdd:o.dst with
    |none=>rw[hdd]at hKk;exact hK _ g1 _ w' hKk t1 s1
    |some d=>
      rw[hdd]at hKk hd1
      cases k with
      |none=>
        refine hK _ g1 _ w' hKk t1 ?_
        rw[hval]
        exact s1.put hd1 ⟨rfl,#[],rfl,rfl⟩ trivial rfl
      |some m=>
        refine hK _ g1 _ w' hKk t1 ?_
        rw[hval]
        have hm:=hk m rfl
        refine s1.put hd1 rfl ?_ rfl
        intro nw1 e1 rows1 hp1
        have:aa (setPos st ps (.own nw e (rows.take lo++rows'++rows.drop hi))) ps=.own nw e (rows.take lo++rows'++rows.drop hi):=by
          rw[bS hown]
        rw[this]at hp1
        cases hp1
        have hm2:lo+m -lo=m:=by omega
        have hlt:lo+m≤(rows.take lo++rows'++rows.drop hi).length:=by
          simp only[List.length_append,List.length_take,List.length_drop];omega
        refine⟨by omega,hlt,q0,cap,by rw[hm2],by rw[hm2];omega,?_,fun h0=>?_⟩
        · by_cases hm0:m=0
          · left;omega
          · right
            rcases jq with jq|⟨c,n,cp,h5,h6⟩
            · omega
            · exact⟨c,n,cp,hpv.trans h5,h6⟩
        · obtain⟨n0,hn0⟩:=jz h0
          exact⟨n0,hpv.trans hn0⟩
  unfold Oper.wp
  rw[hrun,Oper.upon_enter,←harr,jv]
  by_cases hlh:lo=hi
  · -- nothing is handed
    subst hlh
    have hz:(rows.take lo).drop lo=[]:=by apply List.drop_eq_nil_of_le;rw[List.length_take];omega
    have hfit:ai (dw w) (xp 3 (setPos st ps (.pv .bot)) xs++dY (bq (setPos st ps (.pv .bot)).h 3) q) (xs.map a.eval++v.toList):=by
      refine ai.append ?_ (ai.frz s0.I (jm s0 3) _ _ hv')
      rw[mB];exact og s0 3 xs h3
    have hcalls:=hA0 hz w q0 cap _ hfit
    rw[Nat.sub_self]
    refine hcalls.mono fun e1 w' ⟨k,hRk,hk,he,hen,hsz,hkeep⟩=>?_
    subst he
    obtain⟨s1,t1,_⟩:=h.grown hen hsz hkeep (fun _=>none) (fun _ _ hh=>by cases hh)
    have hpv:an {g with I:=fun c=>if w.heap.size≤c then(fun _=>none) c else g.I c} a w' ps=an g a w ps:=by
      cases ps with
      |slot s=>rfl
      |cell b j=>
        simp only[aa]at hown
        cases hx2:st.h[b]?with
        |none=>simp[List.getD,hx2,SV.isOwn]at hown
        |some ys=>
          obtain⟨arr,T,h7,_⟩:=hb.blocks b ys hx2
          simp only[an];rw[hkeep _ (Array.getElem?_eq_some_iff.1 h7).1]
    refine fin k [] _ w' _ hRk (by simp) (fun m hm=>?_) t1 ?_ hpv ?_
    · rcases hk with hk|hk
      · rw[hk]at hm;cases hm
      · rw[hk]at hm;cases hm;omega
    · have:rows.take lo++[]++rows.drop lo=rows:=by simp
      rw[this]
      exact s1.setSame hpo
    · rfl
  · rcases hfp with⟨_,rfl,_⟩|⟨c,hbc,cap',arr,T,vs,e1,e2,e3,e4,e5,e6,e7⟩
    · simp at j2;omega
    obtain⟨hcI,hcF,hcs,hcμ⟩:=hb.free ps c hbc
    have hq0:q0=some ⟨c,lo*e,none⟩:=by
      rcases jq with jq|⟨c1,n,cp,h5,h6⟩
      · exact absurd jq hlh
      · rw[e1]at h5;cases h5;exact h6
    subst hq0
    have s0h:Sim g (setPos st ps (.pv .bot)) a (oe w c):=s0.turn hb0 (hfree c hbc) rfl (by simp[oe]) (fun k hk=>jr w hk)
    have hfit:ai (vm w c) (xp 3 (setPos st ps (.pv .bot)) xs++dY (bq (setPos st ps (.pv .bot)).h 3) q) (xs.map a.eval++v.toList):=by
      refine ai.monoC (vo w c) _ _ (.inl (Nat.zero_le _)) (.inl rfl) ?_
      refine ai.append ?_ (ai.frz s0h.I (jm s0h 3) _ _ hv')
      rw[mB];exact og s0h 3 xs h3
    -- the rows' cells
    have hcut:=au.cut e5 lo hi j1 j2
    have hc0:=au.cut e5 0 lo (Nat.zero_le _) (Nat.le_trans j1 j2)
    have hc2:=au.cut e5 hi rows.length j2 (Nat.le_refl _)
    simp only[List.drop_zero,Nat.zero_mul,List.take_length]at hc0 hc2
    have hvl:=e5.length
    have hvt:vs.take (rows.length*e)=vs:=by rw[←hvl,List.take_length]
    rw[hvt]at hc2
    have hle1:lo*e≤hi*e:=Nat.mul_le_mul_right _ j1
    have hle2:hi*e≤vs.length:=by rw[hvl];exact Nat.mul_le_mul_right _ j2
    obtain⟨rest,hrest⟩:=e6
    have hsplit:arr.toList=vs.take (lo*e)++(vs.take (hi*e)).drop (lo*e)++(vs.drop (hi*e)++rest):=by
      rw[←hrest,←List.append_assoc]
      congr 1
      have h8:vs.take (lo*e)=(vs.take (hi*e)).take (lo*e):=by rw[List.take_take,Nat.min_eq_left hle1]
      rw[h8,List.take_append_drop,List.take_append_drop]
    have hpre:(vs.take (lo*e)).length=lo*e:=by rw[List.length_take];omega
    have hne:(rows.take hi).drop lo≠[]:=fun h9=>by rw[h9]at hlen;simp at hlen;omega
    have hmx:((rows.take hi).drop lo).length≤maxLen:=by rw[hlen];have:=e4.1;have:=e4.2.1;omega
    have hcalls:=hA hne w c cap arr T (vs.take (lo*e)) _ _ (xs.map a.eval++v.toList) e2 hsplit (by rw[hlen];exact jc) hmx (au.monoC (HZ h.I hcI) e _ _ (.inl (Nat.zero_le _)) (.inr h2) hcut) hfit e4.2.2
    rw[hlen,hpre]at hcalls
    refine hcalls.mono fun e9 w' ⟨k,rows',vs',hRk,hl',hk,he,hen,hsz,hkeep,⟨T',hcell⟩,hG⟩=>?_
    subst he
    have hfit':=hG g hcut
    let w1:World:={w with heap:=w.heap.setIfInBounds c (.cells (vs.take (lo*e)++vs'++(vs.drop (hi*e)++rest)).toArray T' (0,0))}
    have hw1:∀k,k≠c→w1.heap[k]?=w.heap[k]?:=fun k hk=>by
      show(w.heap.setIfInBounds c _)[k]?=_
      rw[Array.getElem?_setIfInBounds,if_neg (Ne.symm hk)]
    have hw1c:w1.heap[c]?=some (.cells (vs.take (lo*e)++vs'++(vs.drop (hi*e)++rest)).toArray T' (0,0)):=by
      show(w.heap.setIfInBounds c _)[c]?=_
      rw[Array.getElem?_setIfInBounds,if_pos rfl,if_pos hcs]
    have hv'l:vs'.length=hi*e -lo*e:=by
      rw[hfit'.length,hl',Nat.sub_mul]
    have hs1:Sim g (setPos st ps (.own nw e (rows.take lo++rows'++rows.drop hi))) a w1:=by
      refine h.ownWrite hb hown hbc rfl (by simp[w1]) hw1 ?_ rfl ?_
      · right
        refine⟨c,rfl,cap',_,T',vs.take (lo*e)++vs'++vs.drop (hi*e),?_,hw1c,?_,?_,?_,?_,e7⟩
        · rw[e1]
          congr 1
          simp only[List.length_append,List.length_take,List.length_drop];omega
        · have h11:arr.size=arr.toList.length:=(Array.length_toList ..).symm
          rw[←e3,h11,hsplit]
          simp only[List.size_toArray,List.length_append,hv'l,List.length_drop,List.length_take]
          omega
        · refine⟨?_,e4.2.1,ez (ez (fun v hv=>e5.one v (List.mem_of_mem_take hv)) hfit'.one) (ez (fun v hv=>e5.one v (List.mem_of_mem_drop hv)) (fun v hv=>e4.2.2 v (by rw[←hrest];exact List.mem_append_right _ hv)))⟩
          simp only[List.length_append,List.length_take,List.length_drop];omega
        · exact au.append (au.append hc0 hfit') hc2
        · exact⟨rest,by simp⟩
      · intro nw' e' rows1 hh
        cases hh
        exact⟨nw,rows,hpo,by simp only[List.length_append,List.length_take,List.length_drop];omega⟩
    have hsz1:w1.heap.size=w.heap.size:=by simp[w1]
    obtain ⟨s1, t1, _⟩ := hs1.grown (w' := w') (hen.trans rfl) (by rw [hsz1]; exact hsz) (fun k hk => by
      by_cases ek:k=c
      · subst ek;rw[hcell,hw1c]
      · rw[hkeep k (by rw[←hsz1];exact hk) ek,hw1 k ek]) (fun _=>none) (fun _ _ hh=>by cases hh)
    refine fin k rows' _ w' _ hRk hl' (fun m hm=>hk m hm) t1 s1 ?_ rfl
    cases ps with
    |slot s=>rfl
    |cell b j=>
      simp only[aa]at hown
      cases hx2:st.h[b]?with
      |none=>simp[List.getD,hx2,SV.isOwn]at hown
      |some ys=>
        obtain⟨arr,T,h7,_⟩:=hb.blocks b ys hx2
        have h10:w'.heap[g.μ b]?=w.heap[g.μ b]?:=hkeep _ (Array.getElem?_eq_some_iff.1 h7).1 (hcμ b (by rw[h.n];exact(List.getElem?_eq_some_iff.1 hx2).1))
        simp only[an]
        rw[show w'.heap[({g with I:=fun c=>if w1.heap.size≤c then(fun _=>none) c else g.I c}:Gh).μ b]?=w.heap[g.μ b]?from h10]
theorem sA.x{P:Program}{st:St}{x:Operand}{args:Array Operand}{d:Option Tmp}{K:St→Prop}{f:FuncId}{p q:List PV}(hg:gc st x)(hc:bv st x=some (f,p,q))(hS:sA P st f p args q d K):dg P st x args d K:=
 fun o tys ho hdd _ _ _ hs hd _ _ hK=>CX hs o x args tys f p q ho hg hc (by rw[hdd];exact hd) (by rw[hdd];exact hS) hK
def xP(P:Program)(st:St)(t:TypeId)(x y:Operand)(d:Tmp)(K:St→Prop):Prop:=
 match bG P t,df P t with
 |some (e,b),some zs=>bn zs=true∧0<b∧gc st x∧gc st y∧fl (mv st x)∧fl (mv st y)∧0≤aQ (mv st x)∧aQ (mv st x)≤aQ (mv st y)∧aQ (mv st y)*b≤140737488355328∧
  K ⟨(d,.own true e (List.replicate (aQ (mv st x)).toNat zs))::aA (cN d) st.t,st.h⟩
 |_,_=>False
def vp(P:Program)(st:St)(t:TypeId)(m k x:Operand)(K:St→Prop):Prop:=
 jN P t=true∧(bL st x).2.2∧gc (bL st x).2.1 m∧gc (bL st x).2.1 k∧fl (mv (bL st x).2.1 k)∧fk (mv (bL st x).2.1 k)=.i64∧
 match mv (bL st x).2.1 m with
 |.al p=>match aa (bL st x).2.1 p with
  |.omap nw es=>K (setPos (bL st x).2.1 p (.omap nw (gk es (aQ (mv (bL st x).2.1 k)) (bL st x).1)))
  |_=>False
 |_=>False
def CY(P:Program)(st:St)(t:TypeId)(m k:Operand)(K:St→Prop):Prop:=
 jN P t=true∧gc st m∧gc st k∧fl (mv st k)∧fk (mv st k)=.i64∧
 match mv st m with
 |.al p=>match aa st p with
  |.omap nw es=>K (setPos st p (.omap nw (ij (aQ (mv st k)) es)))
  |_=>False
 |_=>False
def H0(st:St)(x:Operand)(d:Tmp)(K:St→Prop):Prop:=
 match mv st x with
 |.agl xs=>gc st x∧vl st xs∧(ki st.h.length xs 0 (st.grow ((xs.map (·.1)).map .pv))).2∧K ((ki st.h.length xs 0 (st.grow ((xs.map (·.1)).map .pv))).1.put d (.pv (.ptr st.h.length 0)))
 |_=>(bL st x).2.2∧((bL st x).1.one=true∨cY (.pv (bL st x).1))∧bn (aK (bL st x).1)=true∧
  K (((bL st x).2.1.grow ((aK (bL st x).1).map .pv)).put d (.pv (.ptr (bL st x).2.1.h.length 0)))
def qh(P:Program)(st:St)(o:Op)(d:Option Tmp)(K:St→Prop):Prop:=
 (pop P st o).2∧(pop P st o).1.isOwn=false∧K (putD d (pop P st o).1 st)
def kn(b:Nat):Nat→Nat→St→St
 |_,0,st=>st
 | k, n + 1, st => kn b (k + 1) n (match aa st (.cell b k) with
  |.own nw e rows=>setPos st (.cell b k) (.pv (.seq nw e rows))
  |.omap nw es=>setPos st (.cell b k) (.pv (.amap nw es))
  |_=>st)
theorem ik{a:Act}{w:World}{b:Nat}:∀(n k:Nat){g:Gh}{st:St},Sim g st a w→∃g',g.to g'∧g.le g'∧g'.n=g.n∧Sim g' (kn b k n st) a w
 |0,_,g,st,h=>⟨g,h.refl_to,Gh.le.refl g,rfl,h⟩
 |n+1,k,g,st,h=>by
  simp only[kn];split
  ·rename_i nw e rows hp;obtain⟨g1,t1,l1,n1,_,s1,_⟩:=h.freeze (p:=.cell b k) (by rw[hp];rfl);rw[hp]at s1;obtain⟨g2,t2,l2,n2,s2⟩:=ik n (k+1) s1;exact⟨g2,t1.trans t2,⟨fun c o hc=>l2.I _ _ (l1.I _ _ hc),Nat.le_trans l2.B l1.B,by rw[n2,n1];exact Nat.le_refl _,fun c hc=>by rw[l2.μ c (by rw[n1];exact hc),l1.μ c hc]⟩,n2.trans n1,s2⟩
  ·rename_i nw es hp;obtain⟨g1,t1,l1,n1,_,s1,_⟩:=h.freeze (p:=.cell b k) (by rw[hp];rfl);rw[hp]at s1;obtain⟨g2,t2,l2,n2,s2⟩:=ik n (k+1) s1;exact⟨g2,t1.trans t2,⟨fun c o hc=>l2.I _ _ (l1.I _ _ hc),Nat.le_trans l2.B l1.B,by rw[n2,n1];exact Nat.le_refl _,fun c hc=>by rw[l2.μ c (by rw[n1];exact hc),l1.μ c hc]⟩,n2.trans n1,s2⟩
  ·exact ik n (k+1) h
def fu(P:Program)(st:St)(t:TypeId)(x:Operand):St:=
 match mv st x,aJ P t with
 |.pv (.ptr b off),some (true,n)=>kn b off n st
 |_,_=>st
theorem sB{P:Program}{a:Act}{w:World}(t:TypeId)(x:Operand){g:Gh}{st:St}(h:Sim g st a w):∃g',g.to g'∧g.le g'∧g'.n=g.n∧Sim g' (fu P st t x) a w:=by
 unfold fu;split
 ·exact ik _ _ h
 ·exact⟨g,h.refl_to,Gh.le.refl g,rfl,h⟩
def xQ(P:Program)(st:St)(t:TypeId)(x:Operand)(yes:Bool)(d:Option Tmp)(K:St→Prop):Prop:=
 match bg P t with
 |some e=>match mv st x with
  |.pv (.lit (.slice none _ _))=>gc st x∧K (putD d (.bool yes) st)
  |.pv (.bsl ..)=>gc st x∧K (putD d (.bool (!yes)) st)
  |y=>gc st x∧ia st e y∧(rowsOf st y=[]→∀b,K (putD d (.bool b) st))∧(rowsOf st y≠[]→K (putD d (.bool (!yes)) st))
 |none=>False
theorem CZ{P:Program}{st:St}(o:Oper)(t u:TypeId)(x:Operand)(yes:Bool){K:St→Prop}(ho:o.op=.binOp (if yes=true then .eql else .neq) t x (.const (.slice none 0 0)) u)(h:xQ P st t x yes o.dst K){g:Gh}{a:Act}{w:World}(hs:Sim g st a w)(hd:bR g.N o.dst){K':Act→World→Prop}{Q:Exit→Act→World→Prop}
 (hK:∀st' g' a' w',K st'→g.to g'→Sim g' st' a' w'→K' a' w'):o.wp P a w K' Q:=by
 unfold xQ at h;split at h
 case h_2=>exact h.elim
 rename_i e hsl;unfold bg at hsl;split at hsl
 case h_2=>cases hsl
 rename_i el hu;have run:∀(p:Option Addr)(n c:Nat),a.eval x=.slice p n c→(execOp a.eval o).run P w=.ok (.value (.bool (p.isNone==yes))) w:=by
  intro p n c hv;have h1:=Go.Lib.run_eql_slice_nil (P:=P) w t el p n c 0 0 hu;have h2:=Go.Lib.run_equalIn_slice_nil (P:=P) w 9999 t el p n c 0 0 hu;have hn:a.eval (.const (.slice none 0 0))=.slice none 0 0:=rfl;cases yes with
  |true=>
   simp only[execOp,ho,if_true,hv,hn,eqGuard_at_slice,Sem.run_bind,h1,Result.andThen_ok,Sem.run_pure];cases p<;>rfl
  |false=>
   simp only[execOp,ho,Bool.false_eq_true,if_false,hv,hn,eqGuard_at_slice,binOp,Op.equal,Op.maxDepth,Sem.run_bind,h2,Result.andThen_ok,Sem.run_pure];cases p<;>rfl
 have fin:∀b,K (putD o.dst (.bool b) st)→(execOp a.eval o).run P w=.ok (.value (.bool b)) w→o.wp P a w K' Q:=by
  intro b hk hr;unfold Oper.wp;rw[hr];exact hK _ g _ w hk hs.refl_to (hs.putD hd ⟨rfl,rfl⟩ trivial rfl)
 split at h
 ·rename_i n c hm;obtain⟨hf,_⟩:=aL hs x h.1;rw[hm]at hf;have hv:a.eval x=_:=hf.2;exact fin yes h.2 (by rw[run none n c hv];cases yes<;>rfl)
 ·rename_i b e' off n cap hm;obtain⟨hf,_⟩:=aL hs x h.1;rw[hm]at hf;obtain⟨_,_,_,hv⟩:=hf;exact fin _ h.2 (by rw[run _ n cap hv];cases yes<;>rfl)
 ·obtain⟨h1,h2,h3,h4⟩:=h;obtain⟨q,cap,vs,hv,_,hq⟩:=fQ hs h1 h2
  by_cases hr:rowsOf st (mv st x)=[]
  ·exact fin _ (h3 hr _) (run q _ cap hv)
  ·rcases hq with hq|⟨ad,rfl,_⟩
   ·exact absurd hq hr
   ·exact fin _ (h4 hr) (by rw[run _ _ cap hv];cases yes<;>rfl)
/-! ### A slice of bytes becomes a string -/
def qi(P:Program)(t:TypeId):Bool:=match P.underlying t with
 |some (.slice e)=>match P.underlying e with
  |some (.int .u8)=>true
  |_=>false
 |_=>false
def JJ:List (List PV)→Option (List Int)
 |[]=>some []
 |[.lit (.int .u8 n)]::r=>match JJ r with
  |some xs=>some (n::xs)
  |none=>none
 |_=>none
theorem zL{g:Gh}:∀{rows:List (List PV)}{xs:List Int}{vs:List Value},JJ rows=some xs→au g 1 rows vs→vs=xs.map (Value.int .u8)
 |[],xs,vs,h,hf=>by
  cases h
  exact hf
 |row::r,xs,vs,h,⟨v1,v2,h1,_,h3,h4⟩=>by
  unfold JJ at h;split at h
  ·rename_i e;cases e
  ·rename_i n r' e;cases e
   split at h
   ·rename_i ys hy;cases h
    obtain⟨a,b,h5,h6,h7⟩:=h3;have h6':a=Value.int .u8 n:=h6;have h7':b=[]:=h7;subst h6' h7' h5;rw[h1,zL hy h4];rfl
   ·cases h
  ·cases h
def Ln(P:Program)(st:St)(dst:TypeId)(x:Operand)(d:Option Tmp)(K:St→Prop):Prop:=
 match P.underlying dst,mv st x with
 |some .string,.al (.slot s)=>gc st x∧match look st.t s with
  |.own _ 1 rows=>rows≠[]∧match JJ rows with
   |some xs=>K (putD d (.pv (.lit (.string (strOfNums xs)))) st)
   |none=>False
  |_=>False
 |_,_=>False
theorem H9{P:Program}{st:St}(o:Oper){src dst:TypeId}{x:Operand}(ho:o.op=.convert src dst x)(hb8:qi P src=true){K:St→Prop}(h:Ln P st dst x o.dst K){g:Gh}{a:Act}{w:World}(hs:Sim g st a w)(hd:bR g.N o.dst){K':Act→World→Prop}{Q:Exit→Act→World→Prop}
 (hK:∀st' g' a' w',K st'→g.to g'→Sim g' st' a' w'→K' a' w'):o.wp P a w K' Q:=by
 unfold qi at hb8;split at hb8
 case h_2=>cases hb8
 rename_i e hsrc;split at hb8
 case h_2=>cases hb8
 rename_i he;unfold Ln at h;split at h
 case h_2=>exact h.elim
 rename_i s hdst hm;obtain⟨hx,h⟩:=h;split at h
 case h_2=>exact h.elim
 rename_i nw rows hl;obtain⟨hne,h⟩:=h;split at h
 case h_2=>exact h.elim
 rename_i xs hu;obtain⟨_,ha⟩:=aL hs x hx;rw[hm]at ha;obtain⟨bl,hb⟩:=hs.own;have hsl:=hb.slots s;rw[hl]at hsl;have hev:a.eval x=a.tmps.getD s undef:=ha (by simp only[aa];rw[hl];rfl);rcases hsl with⟨_,h0,_⟩|⟨c,_,cap,arr,T,vs,hv,hc,_,_,hR,hpre,_⟩
 ·exact absurd h0 hne
 have hvs:=zL hu hR;have hlen:xs.length=rows.length:=by
  have:=hR.length;rw[hvs,List.length_map]at this;omega
 have hrun:(convert src dst (a.eval x)).run P w=.ok (.string (strOfNums xs)) w:=by
  rw[hev,hv];refine run_convert_bytes_arg w src e hsrc he c 0 rows.length cap xs hlen (fun i hi=>?_) dst hdst;obtain⟨t,ht⟩:=hpre;rw[Nat.zero_add,cell_of hc,←Array.getElem?_toList,←ht,hvs,List.getElem?_append_left (by rw[List.length_map];omega),List.getElem?_map,List.getElem?_eq_getElem (by omega)];simp only[Option.map_some,List.getD_eq_getElem?_getD];rw[List.getElem?_eq_getElem (by omega)];rfl
 have hr:(execOp a.eval o).run P w=.ok (.value (.string (strOfNums xs))) w:=by
  simp only[execOp,ho,Sem.run_bind,hrun,Result.andThen_ok,Sem.run_pure]
 unfold Oper.wp;rw[hr];exact hK _ g _ w h hs.refl_to (hs.putD hd (sv:=.pv (.lit (.string (strOfNums xs)))) ⟨rfl,rfl⟩ trivial rfl)
def AE(P:Program)(st:St)(o:Op)(d:Option Tmp)(K:St→Prop):Prop:=
 match o with
 |.assign (.tmp s)=>match d with
  |some d'=>if(look st.t s).isOwn=true then K (zx st s d')else match zE st s d' with
   |some st'=>K st'
   |none=>qh P st (.assign (.tmp s)) d K
  |none=>qh P st (.assign (.tmp s)) d K
 |.alloc t=>match d,dX P t with
  |some d,some zs=>bn zs=true∧K ((st.grow (zs.map .pv)).put d (.pv (.ptr st.h.length 0)))
  |_,_=>False
 |.box _ x=>match d with
  |some d=>H0 st x d K
  |none=>False
 |.store t x y=>match d with
  |none=>xN P st t x y K
  |some _=>False
 |.buildSlice t len parts=>match d with
  |some d=>tU P st t len parts d K
  |none=>False
 |.makeSlice t x y=>match d with
  |some d=>xP P st t x y d K
  |none=>False
 |.makeMap t r=>match d,r with
  |some d,r=>jN P t=true∧xC st r∧K ⟨(d,.omap true [])::aA (cN d) st.t,st.h⟩
  |_,_=>False
 |.mapUpdate t m k x=>match d with
  |none=>vp P st t m k x K
  |some _=>False
 |.insert t m k x=>match d with
  |none=>vp P st t m k x K
  |some _=>False
 |.load t x=>qh P (fu P st t x) (.load t x) d K
 |.binOp .eql t x (.const (.slice none 0 0)) _=>xQ P st t x true d K
 |.binOp .neq t x (.const (.slice none 0 0)) _=>xQ P st t x false d K
 |.build t parts=>(cT st (parts.toList.map (·.2))).2.2∧qh P (cT st (parts.toList.map (·.2))).2.1 (.build t parts) d K
 |.convert src dst x=>if qi P src=true then Ln P st dst x d K else qh P st (.convert src dst x) d K
 |.call c=>match c.callee with
  |.value x=>zK P st x c.args d K
  |.builtin .append=>match c.args.toList,c.argTypes.toList,d with
   |[s,x],[t,t'],some d=>t'=t∧tV P st t s x d K
   |_,_,_=>False
  |.builtin .clear=>match c.args.toList,c.argTypes.toList,d with
   |[x],[t],none=>xD P st t x K
   |_,_,_=>False
  |.builtin .copy=>match c.args.toList,c.argTypes.toList with
   |[x,y],[t,_]=>zH P st t x y d K
   |_,_=>False
  |.builtin .delete=>match c.args.toList,c.argTypes.toList,d with
   |[m,k],[t,_],none=>CY P st t m k K
   |_,_,_=>False
  |_=>qh P st (.call c) d K
 |o=>qh P st o d K
theorem tX{P:Program}{st:St}(o:Oper){K:St→Prop}(h:qh P st o.op o.dst K){g:Gh}{a:Act}{w:World}(hs:Sim g st a w)(hd:bR g.N o.dst){K':Act→World→Prop}{Q:Exit→Act→World→Prop}
 (hK:∀st' g' a' w',K st'→g.to g'→Sim g' st' a' w'→K' a' w'):o.wp P a w K' Q:=by
 obtain⟨h1,h2,h3⟩:=h;obtain⟨v,hr,hf,ha⟩:=CM o g a w hs h1;unfold Oper.wp;rw[hr];exact hK _ g _ w h3 hs.refl_to (hs.putD hd hf ha h2)
theorem bJ{P:Program}{o:Oper}{g:Gh}{st':St}{a:Act}{w:World}{K':Act→World→Prop}{Q:Exit→Act→World→Prop}
 (h:∃v w' g',(execOp a.eval o).run P w=.ok (.value v) w'∧g.to g'∧Sim g' st' (a.put o.dst v) w') (hK:∀g' a' w',g.to g'→Sim g' st' a' w'→K' a' w'):o.wp P a w K' Q:=by
 obtain⟨v,w',g',h1,h2,h3⟩:=h;unfold Oper.wp;rw[h1];exact hK g' _ w' h2 h3
theorem fv{P:Program}{o:Oper}{g:Gh}{st':St}{a:Act}{w:World}{K':Act→World→Prop}{Q:Exit→Act→World→Prop}(hd:o.dst=none)
 (h:∃w' g',(execOp a.eval o).run P w=.ok .skip w'∧g.to g'∧Sim g' st' a w') (hK:∀g' a' w',g.to g'→Sim g' st' a' w'→K' a' w'):o.wp P a w K' Q:=by
 obtain⟨w',g',h1,h2,h3⟩:=h;unfold Oper.wp;rw[h1];show K' (a.put o.dst undef) w';rw[hd];exact hK g' _ w' h2 h3
theorem pL{c:Call}{f:Callee}{xs:List Operand}{ts:List TypeId}(h1:c.callee=f)(h2:c.args.toList=xs)(h3:c.argTypes.toList=ts):c={callee:=f,args:=xs.toArray,argTypes:=ts.toArray}:=by
 cases c with
 |mk a b d=>simp only at h1 h2 h3;subst h1 h2 h3;simp
theorem C0{P:Program}{st:St}(o:Oper){K:St→Prop}(h:AE P st o.op o.dst K){g:Gh}{a:Act}{w:World}(hs:Sim g st a w)(hd:bR g.N o.dst){K':Act→World→Prop}{Q:Exit→Act→World→Prop}
 (hK:∀st' g' a' w',K st'→g.to g'→Sim g' st' a' w'→K' a' w'):o.wp P a w K' Q:=by
 have hpop:qh P st o.op o.dst K→o.wp P a w K' Q:=fun h=>tX o h hs hd hK;cases hop:o.op
 case assign x=>
  rw[hop]at h hpop;cases x with
  |tmp s=>
   cases hdd:o.dst with
   |none=>rw[hdd]at h hpop;exact hpop h
   |some d=>
    rw[hdd]at h hpop;simp only[AE]at h;split at h
    ·rename_i hown;exact bJ (xy o s d hop hdd hown (by rw[hdd]at hd;exact hd) g a w rfl hs) (fun g' a' w'=>hK _ g' a' w' h)
    ·split at h
     ·rename_i st' hc;exact bJ (CQ hc o hop hdd (by rw[hdd]at hd;exact hd) g a w rfl hs) (fun g' a' w'=>hK _ g' a' w' h)
     ·exact hpop h
  |const v=>exact hpop h
  |func f=>exact hpop h
  |global n=>exact hpop h
 case alloc t=>
  rw[hop]at h;simp only[AE]at h;split at h
  ·rename_i d zs hdd hz;exact bJ (CN o t d zs hop hdd hz h.1 (by rw[hdd]at hd;exact hd) g a w rfl hs) (fun g' a' w'=>hK _ g' a' w' h.2)
  ·exact h.elim
 case box t x=>
  rw[hop]at h;simp only[AE]at h;split at h
  ·rename_i d hdd;unfold H0 at h;split at h
   ·rename_i xs hm;exact bJ (F9 o t x d xs hop hdd h.1 hm (jo h.2.1) (nj h.2.1) h.2.2.1 (pK h.2.1) (by rw[hdd]at hd;exact hd) g a w rfl hs) (fun g' a' w'=>hK _ g' a' w' h.2.2.2)
   exact bJ (HW o t x d hop hdd h.1 h.2.1 h.2.2.1 (by rw[hdd]at hd;exact hd) g a w rfl hs) (fun g' a' w'=>hK _ g' a' w' h.2.2.2)
  ·exact h.elim
 case store t x y=>
  rw[hop]at h;simp only[AE]at h;split at h
  ·rename_i hdd;unfold xN at h;split at h
   ·rename_i st' ok hm;obtain⟨h1,h2,h3⟩:=h;split at h1
    ·rename_i ag n hl;subst h1;exact fv hdd (Bc hm h2 o t hop hl g a w hs) (fun g' a' w'=>hK _ g' a' w' h3)
    ·exact h1.elim
   split at h
   ·rename_i st' m ok hm;obtain⟨h1,h2,h3⟩:=h;split at h1
    ·rename_i ag n hl;subst h1;exact fv hdd (Be hm h2 o t hop hl g a w hs) (fun g' a' w'=>hK _ g' a' w' h3)
    ·exact h1.elim
   unfold xM at h;split at h
   ·rename_i ag n hl;obtain⟨h1,h2,h3,h4,h5,h6⟩:=h;split at h6
    ·rename_i b off hm;exact fv hdd (A8 o t x y b off n ag hop hdd hl h1 h2 h3 h4 hm h5 h6.1 g a w hs) (fun g' a' w'=>hK _ g' a' w' h6.2)
    ·rename_i p i k hm;split at h6
     ·rename_i nw e rows hp;exact fv hdd (xz o t x y p i k n e nw rows ag hop hl h1 h2 h3 h4 hm h5 hp h6.1 h6.2.1 g a w hs) (fun g' a' w'=>hK _ g' a' w' h6.2.2)
     ·exact h6.elim
    ·exact h6.elim
   ·exact h.elim
  ·exact h.elim
 case buildSlice t len parts=>
  rw[hop]at h;simp only[AE]at h;split at h
  ·rename_i d hdd;unfold tU at h;split at h
   ·rename_i e zs hs1 hs2;obtain⟨h1,h2,h3,h4,h5,h6⟩:=h;exact bJ (p8 o t len e parts zs d hop hdd hs1 hs2 h1 h2 h3 h4 h5 (by rw[hdd]at hd;exact hd) g a w rfl hs) (fun g' a' w'=>hK _ g' a' w' h6)
   ·exact h.elim
  ·exact h.elim
 case makeSlice t x y=>
  rw[hop]at h;simp only[AE]at h;split at h
  ·rename_i d hdd;unfold xP at h;split at h
   ·rename_i e b zs hi hz;obtain⟨h1,h2,h3,h4,h5,h6,h7,h8,h9,h10⟩:=h;exact bJ (rN o t x y d e b zs hop hdd hi hz h1 h2 h3 h4 h5 h6 h7 h8 h9 (by rw[hdd]at hd;exact hd) g a w rfl hs) (fun g' a' w'=>hK _ g' a' w' h10)
   ·exact h.elim
  ·exact h.elim
 case makeMap t r=>
  rw[hop]at h;simp only[AE]at h;split at h
  ·rename_i d hdd;exact bJ (tM o t _ d hop hdd h.1 h.2.1 (by rw[hdd]at hd;exact hd) g a w rfl hs) (fun g' a' w'=>hK _ g' a' w' h.2.2)
  ·exact h.elim
 case mapUpdate t m k x=>
  rw[hop]at h;simp only[AE]at h;split at h
  ·rename_i hdd;unfold vp at h;obtain⟨h1,h2,h3,h4,h5,h6,h7⟩:=h;split at h7
   ·rename_i p hm;split at h7
    ·rename_i nw es hp;exact fv hdd (l4 o t m k x p nw es (.inl hop) h1 h2 h3 hm hp h4 h5 h6 g a w hs) (fun g' a' w'=>hK _ g' a' w' h7)
    ·exact h7.elim
   ·exact h7.elim
  ·exact h.elim
 case insert t m k x=>
  rw[hop]at h;simp only[AE]at h;split at h
  ·rename_i hdd;unfold vp at h;obtain⟨h1,h2,h3,h4,h5,h6,h7⟩:=h;split at h7
   ·rename_i p hm;split at h7
    ·rename_i nw es hp;exact fv hdd (l4 o t m k x p nw es (.inr hop) h1 h2 h3 hm hp h4 h5 h6 g a w hs) (fun g' a' w'=>hK _ g' a' w' h7)
    ·exact h7.elim
   ·exact h7.elim
  ·exact h.elim
 case call c=>
  rw[hop]at h hpop;simp only[AE]at h;split at h
  ·rename_i x hcal;unfold zK at h;split at h
   ·rename_i f p q hce;have hc:c={callee:=.value x,args:=c.args,argTypes:=c.argTypes}:=by cases c;simp only at hcal;rw[hcal]
    rw[hc]at hop;split at h
    ·obtain⟨h1,⟨h2,h3⟩|⟨h2,R,hA,hR⟩|hS⟩:=h;rotate_left 2
     ·exact hS o c.argTypes hop rfl g a w hs hd K' Q hK
     ·exact CV hs o x c.args c.argTypes f p q hop h1 hce h2 hd h3 hK
     ·rw[mB,cU,cU]at hA;exact zI hs o x c.args c.argTypes f p q 3 hop h1 hce h2 hd hA K' Q (fun r hr=>(hR r hr).1) (fun r g2 v w' hr t2 s2=>hK _ g2 _ w' (hR r hr).2 t2 s2)
    obtain⟨h1,h2,⟨R,hA,hR⟩|⟨hpl,hcm⟩|hS⟩:=h;rotate_left 2
    ·exact hS o c.argTypes hop rfl g a w hs hd K' Q hK
    rotate_left
    ·obtain⟨c1,c2⟩:=hcm.plain hpl;exact CV hs o x c.args c.argTypes f p q hop h1 hce c1 hd c2 hK
    rw[mB,cU,cU]at hA;exact zI hs o x c.args c.argTypes f p q 3 hop h1 hce h2 hd hA K' Q (fun r hr=>(hR r hr).1) (fun r g2 v w' hr t2 s2=>hK _ g2 _ w' (hR r hr).2 t2 s2)
   ·exact h.elim
  ·rename_i hcal;split at h
   ·rename_i s x t t' d e1 e2 hdd;obtain⟨rfl,h⟩:=h;have hc:=pL hcal e1 e2;rw[hc]at hop;unfold tV at h;split at h
    ·rename_i e b hi;obtain⟨h1,h2,h3,h4,h5⟩:=h;split at h5
     ·rename_i p hm;split at h5
      ·rename_i nw e' rows hp;obtain⟨rfl,h6,h7⟩:=h5;exact bJ (xA o _ s x d e' b p nw rows hop hdd hi h1 h2 hm hp h3 h4 h6 (by rw[hdd]at hd;exact hd) g a w rfl hs) (fun g' a' w'=>hK _ g' a' w' h7)
      ·exact h5.elim
     ·rename_i p lo hi0 hm;split at h5
      ·rename_i nw e' rows hp;obtain⟨rfl,rfl,h6,h7⟩:=h5;exact bJ (xH o _ s x d e' b p hi0 nw rows hop hdd hi h1 h2 hm hp h3 h4 h6 (by rw[hdd]at hd;exact hd) g a w rfl hs) (fun g' a' w'=>hK _ g' a' w' h7)
      ·exact h5.elim
     ·rename_i u hm;exact bJ (append_nil o _ s x d e b u hop hdd hi h1 h2 hm h5.1 h3 h4 h5.2.1 (by rw[hdd]at hd;exact hd) g a w rfl hs) (fun g' a' w'=>hK _ g' a' w' h5.2.2)
     ·exact h5.elim
    ·exact h.elim
   ·exact h.elim
  ·rename_i hcal;split at h
   ·rename_i x t e1 e2 hdd;have hc:=pL hcal e1 e2;rw[hc]at hop;unfold xD at h;split at h
    ·rename_i b off n cap z hm hz;obtain⟨h1,h2,h3,h4,h5,h6⟩:=h;exact bJ (Ba o t x b off n cap z hop hdd hm hz h1 h2 h3 h4 h5 g a w hs) (fun g' a' w'=>hK _ g' a' w' h6)
    ·rename_i b e off n cap zs _ hm hz;obtain⟨h1,h2,h3,h4,h5,h6,h7⟩:=h;exact bJ (xE o t x b e off n cap zs hop hdd hm hz h1 h2 h3 h4 h5 h6 g a w hs) (fun g' a' w'=>hK _ g' a' w' h7)
    ·exact h.elim
   ·exact h.elim
  ·rename_i hcal;split at h
   ·rename_i x y t t2 e1 e2;have hc:=pL hcal e1 e2;rw[hc]at hop;obtain⟨v,w',g',st',r1,r2,r3,r4⟩:=CT o t t2 x y o.dst hop rfl h g a w hs hd;exact bJ ⟨v,w',g',r1,r2,r4⟩ (fun g' a' w'=>hK _ g' a' w' r3)
   ·exact h.elim
  ·rename_i hcal;split at h
   ·rename_i m k t t2 e1 e2 hdd;have hc:=pL hcal e1 e2;rw[hc]at hop;unfold CY at h;obtain⟨h1,h2,h3,h4,h5,h6⟩:=h;split at h6
    ·rename_i p hm;split at h6
     ·rename_i nw es hp;exact bJ (xB o t t2 m k p nw es hop hdd h1 h2 hm hp h3 h4 h5 g a w hs) (fun g' a' w'=>hK _ g' a' w' h6)
     ·exact h6.elim
    ·exact h6.elim
   ·exact h.elim
  ·exact hpop h
 case load t x=>
  rw[hop]at h;simp only[AE]at h;obtain⟨g1,t1,_,_,s1⟩:=sB (P:=P) t x hs;exact tX (st:=fu P st t x) o (by rw[hop];exact h) s1 (by rw[show g1.N=g.N from t1.N.symm▸rfl];exact hd) (fun st' g' a' w' hK' t2 s2=>hK st' g' a' w' hK' (t1.trans t2) s2)
 case convert src dst x=>
  rw[hop]at h hpop;simp only[AE]at h;split at h
  ·rename_i hb8;exact H9 o hop hb8 h hs hd hK
  ·exact hpop h
 case build t parts=>
  rw[hop]at h;simp only[AE]at h;obtain⟨h1,h2⟩:=h;obtain⟨g1,t1,_,_,s1,_⟩:=lB _ hs h1;exact tX (st:=(cT st (parts.toList.map (·.2))).2.1) o (by rw[hop];exact h2) s1 (by rw[show g1.N=g.N from t1.N.symm▸rfl];exact hd) (fun st' g' a' w' hK' t2 s2=>hK st' g' a' w' hK' (t1.trans t2) s2)
 case binOp op t x y u=>
  rw[hop]at h hpop;unfold AE at h;split at h<;>first|exact hpop h|skip
  all_goals
   first
    |(rename_i he;cases he;done)
    |(rename_i he;injection he with e1 e2 e3 e4 e5;subst e1 e2 e3 e4 e5;exact CZ o _ _ _ true (by rw[hop];rfl) h hs hd hK)
    |(rename_i he;injection he with e1 e2 e3 e4 e5;subst e1 e2 e3 e4 e5;exact CZ o _ _ _ false (by rw[hop];rfl) h hs hd hK)
    |(rename_i he;rw[he]at hpop;exact hpop h)
 all_goals (rw[hop]at h hpop;exact hpop h)
end Go.AX
namespace Go.AX
theorem Sim.weak{g:Gh}{st st':St}{a:Act}{w:World}(h:Sim g st a w)(hh:st'.h=st.h)(ht:∀s,look st'.t s=look st.t s∨look st'.t s=.pv .bot):Sim g st' a w:=by
  obtain⟨bl,hb⟩:=h.own
  have hpos:∀p,(aa st' p).isOwn=true→aa st' p=aa st p∧an g a w p=an g a w p:=by
    intro p hp
    refine⟨?_,rfl⟩
    cases p with
    |cell b k=>simp only[aa,hh]
    |slot s=>
      simp only[aa]at hp⊢
      rcases ht s with e|e
      · exact e
      · rw[e]at hp;cases hp
  have hone:∀s,look st'.t s≠look st.t s→look st'.t s=.pv .bot:=fun s hne=>(ht s).resolve_left hne
  refine { size := h.size, defs := h.defs, env := h.env, n := by rw [hh]; exact h.n, n0 := h.n0, B := h.B, I := h.I, F := h.F, μI := h.μI, μinj := h.μinj,
           own:=⟨fun p=>match p with|.slot s=>(match look st'.t s with|.pv .bot=>none|_=>bl (.slot s))|.cell b k=>bl (.cell b k),?_⟩,al:=fun s=>?_}
  · have hsub:∀p c,(match p with|.slot s=>(match look st'.t s with|.pv .bot=>none|_=>bl (.slot s))|.cell b k=>bl (.cell b k))=some c→bl p=some c:=by
      intro p c hp
      cases p with
      |cell b k=>exact hp
      |slot s=>
        simp only at hp
        split at hp
        · cases hp
        · exact hp
    refine{slots:=fun s=>?_,blocks:=fun b xs hx=>?_,inj:=fun p q c hp hq=>hb.inj p q c (hsub p c hp) (hsub q c hq),free:=fun p c hp=>hb.free p c (hsub p c hp)}
    · simp only
      rcases ht s with e|e
      · split
        · rename_i e2;rw[e2];exact⟨rfl,trivial⟩
        · rw[e];exact hb.slots s
      · rw[e];exact⟨rfl,trivial⟩
    · rw[hh]at hx;exact hb.blocks b xs hx
  · rcases ht s with e|e
    · rw[e];exact bN.congr hpos (h.al s)
    · rw[e];trivial
theorem Sim.same{g:Gh}{st st':St}{a:Act}{w:World}(h:Sim g st a w)(hh:st'.h=st.h)(ht:∀s,look st'.t s=look st.t s):Sim g st' a w:=h.weak hh fun s=>.inl (ht s)
/-! ### Guards -/
def gF(ops:List Oper)(j:Nat):Option Nat:=(ops[j]?).bind (·.dst)
def sC(st:St)(d:Nat)(want:Bool):Option Prop:=
 match look st.t d with
 |.pv (.lit (.bool b))=>some (b=want)
 |.opt c (.pv (.lit (.bool b)))=>some (c∧b=want)
 |_=>none
theorem mC{g:Gh}{st:St}{a:Act}{w:World}(h:Sim g st a w){ops:Array Oper}{o:Oper}{j d:Nat}{want:Bool}(hg:o.guard=some (j,want))(hs:gF ops.toList j=some d){Gd:Prop}(hc:sC st d want=some Gd):
 Region.wanted o (yielded ops a.tmps)=true↔Gd:=by
 have hs':(ops[j]?).bind (·.dst)=some d:=by simpa[gF]using hs
 obtain⟨bo,hfit⟩:=h.slot d;have hval:∀b,a.tmps.getD d undef=.bool b→yielded ops a.tmps j=some b:=by
  intro b hb;simp only[yielded,hs',Option.bind_some];rw[Array.getD_eq_getD_getElem?]at hb;cases he:a.tmps[d]?with
  |none=>rw[he]at hb;cases hb
  |some v=>rw[he]at hb;simp only[Option.getD_some]at hb;subst hb;rfl
 have hund:a.tmps.getD d undef=undef→yielded ops a.tmps j=none:=by
  intro hb;simp only[yielded,hs',Option.bind_some];rw[Array.getD_eq_getD_getElem?]at hb;cases he:a.tmps[d]?with
  |none=>rfl
  |some v=>rw[he]at hb;simp only[Option.getD_some]at hb;subst hb;rfl
 simp only[Region.wanted,hg];unfold sC at hc;split at hc
 ·rename_i b hl;cases hc
  rw[hl]at hfit;rw[hval b hfit.2];simp
 ·rename_i c b hl;cases hc
  rw[hl]at hfit
  by_cases hcc:c
  ·rw[hval b (hfit.2.2 hcc).2];simp[hcc]
  ·rw[hund (hfit.2.1 hcc)];simp[hcc]
 ·cases hc
/-! ### Results that are kept frozen -/
def qj:SV→PV
 |.own nw e rows=>.seq nw e rows
 |.omap nw es=>.amap nw es
 |.pv x=>x
 |_=>.bot
theorem Sim.resultF{g:Gh}{st:St}{a:Act}{w w':World}{g':Gh}(h:Sim g st a w){r:SV}{v:Value}{o:Option Nat}(he:PureEnd w w' g')(hf:av g' w' r v o)
 (ho:∀c,o=some c→w.heap.size≤c∧g'.I c=none) (hn:r.nwS):∃J,(∀c o,g.I c=some o→J c=some o)∧(∀g3 st3,g3.I=g.I→Sim g3 st3 a w→Sim {g3 with I:=J} st3 a w'∧g3.to {g3 with I:=J})∧Fit {g with I:=J} (qj r) v:=by
 let J:Nat→Option Obj:=fun c=>if o=some c then w'.heap[c]?else g'.I c
 have hJ:∀c ob,J c=some ob→w'.heap[c]?=some ob:=fun c ob hc=>by
  change(if o=some c then w'.heap[c]?else g'.I c)=some ob at hc
  split at hc
  ·exact hc
  ·exact he.I c ob hc
 let g2:Gh:={g with I:=fun c=>if w.heap.size≤c then J c else g.I c}
 refine⟨g2.I,(h.grown he.env he.size he.keep J hJ).2.1.I,fun g3 st3 h3 hs3=>?_,?_⟩
 ·have:=hs3.grown he.env he.size he.keep J hJ;rw[h3]at this;exact⟨this.1,this.2.1⟩
 have hI:∀c ob,g'.I c=some ob→g'.B≤c→g2.I c=some ob:=fun c ob hc hB=>by
  show(if w.heap.size≤c then J c else g.I c)=some ob;rw[if_pos (by rw[←he.B];exact hB)];show(if o=some c then w'.heap[c]?else g'.I c)=some ob;split
  ·exact he.I c ob hc
  ·exact hc
 have hBB:g2.B≤g'.B:=by rw[he.B];exact h.B
 have hJo:∀c,o=some c→g2.I c=w'.heap[c]?:=fun c h5=>by
  show(if w.heap.size≤c then J c else g.I c)=_;rw[if_pos (ho c h5).1];show(if o=some c then w'.heap[c]?else g'.I c)=_;rw[if_pos h5]
 cases r with
 |pv x=>exact Fit.new (g:=g') hI hBB x v hn hf.2
 |own nw e rows=>
  rcases hf with⟨_,e1,e2⟩|⟨c,h5,cap,arr,T,vs,a1,a2,a3,a4,a5,a6,a7⟩
  ·exact⟨none,0,by rw[e2,e1];rfl,by rw[e1];exact Nat.le_refl _,.inl e1⟩
  ·exact⟨_,cap,a1,a4.1,.inr ⟨c,0,arr,T,(0,0),vs,rfl,(hJo c h5).trans a2,fun hh=>Nat.le_trans hBB (a7 hh),au.new (g:=g') hI hBB e rows vs hn.2 a5,by simpa using a6⟩⟩
 |omap nw es=>
  obtain⟨c,h5,en,ck,a1,a2,a3,a4⟩:=hf;exact⟨c,en,ck,a1,(hJo c h5).trans a2,fun hh=>Nat.le_trans hBB (a4.1 hh),bm.new (g:=g') hI hBB es _ hn.2 a3,a4.2⟩
 |_=>cases hn
/-! ### An operation under a guard -/
def SV.isFree:SV→Bool
 |.own .. =>false
 |.omap .. =>false
 |_=>true
def C1(P:Program)(st:St)(t:TypeId)(len:Nat)(parts:Array (Nat×Operand)):SV×Prop:=
 match bg P t,df P t with
 | some e, some _ => (.pv (.seq true e ((ii st (parts.toList.map (·.2))).map aK)), len * e ≤ 16777216 ∧ 0 < e ∧ parts.toList.map (·.1) = List.range len ∧ lZ st (parts.toList.map (·.2)) ∧
  ∀y∈ii st (parts.toList.map (·.2)),(aK y).length=e∧bn (aK y)=true∧(y.one=true∨cY (.pv y)))
 |_,_=>(.pv .bot,False)
def oh(P:Program)(st:St)(o:Op):SV×Prop:=
 match o with
 |.buildSlice t len parts=>C1 P st t len parts
 |o=>pop P st o
def QE(P:Program)(st:St)(o:Op)(r:SV):Prop:=
 match o with
 |.call c=>match c.callee with
  |.value x=>match bv st x with
   |some (f,p,q)=>gc st x∧iL st c.args.toList∧∃R,ao P f (dY (bq st.h 3) p++(xp 3 st c.args.toList++dY (bq st.h 3) q)) R∧∀r',R r'→r'.nwS∧r=.pv (qj r')
   |none=>False
  |_=>(pop P st (.call c)).2∧r=(pop P st (.call c)).1
 |o=>(oh P st o).2∧r=(oh P st o).1
theorem Ia{P:Program}{st:St}(o:Oper){t:TypeId}{len:Nat}{parts:Array (Nat×Operand)}(ho:o.op=.buildSlice t len parts){r:SV}(h:(C1 P st t len parts).2∧r=(C1 P st t len parts).1){g:Gh}{a:Act}{w:World}(hs:Sim g st a w){K':Act→World→Prop}{Q:Exit→Act→World→Prop}
 (hK:∀v J w2,(∀c o,g.I c=some o→J c=some o)→(∀g3 st3,g3.I=g.I→Sim g3 st3 a w→Sim {g3 with I:=J} st3 a w2∧g3.to {g3 with I:=J})→av {g with I:=J} w2 r v none→bN {g with I:=J} st a w2 r v→K' (a.put o.dst v) w2):o.wp P a w K' Q:=by
 obtain⟨h,hr⟩:=h;subst hr;unfold C1 at h hK;split at h
 ·rename_i e zs hsz hzz;obtain⟨h1,h2,h3,h4,h5⟩:=h;simp only[hsz,hzz]at hK;obtain⟨arr,T,r1,r2,r3⟩:=jL (w:=w) o t len e parts zs _ ho hsz hzz h1 h3 (ka hs _ h4) h5;unfold Oper.wp;rw[r2]
  let J0:Nat→Option Obj:=fun c=>if c=w.heap.size then some (.cells arr.toArray T (0,0))else none
  have hnew:(w.alloc (.cells arr.toArray T)).heap[w.heap.size]?=some (.cells arr.toArray T (0,0)):=heap_alloc_new w _;have hJ0:∀c o,J0 c=some o→(w.alloc (.cells arr.toArray T)).heap[c]?=some o:=fun c o hc=>by
   change(if c=w.heap.size then _ else _)=_ at hc
   split at hc
   ·rename_i ec;subst ec;rw[hnew];exact hc
   ·cases hc
  have hg:=fun(g3:Gh) st3 (hs3:Sim g3 st3 a w)=>hs3.grown (w':=w.alloc (.cells arr.toArray T)) rfl (by simp) (fun c hc=>heap_alloc_old w _ hc) J0 hJ0;refine hK _ (fun c=>if w.heap.size≤c then J0 c else g.I c) _ ?_ ?_ ?_ trivial
  ·exact(hg g st hs).2.1.I
  ·intro g3 st3 h3 hs3;have:=hg g3 st3 hs3;rw[h3]at this;exact⟨this.1,this.2.1⟩
  ·refine⟨rfl,_,len,by rw[r3],by rw[r3];exact Nat.le_refl _,.inr ⟨w.heap.size,0,arr.toArray,T,(0,0),arr,rfl,?_,fun _=>hs.B,au.mono ?_ e _ _ r1,by simp⟩⟩
   ·show(if w.heap.size≤w.heap.size then J0 w.heap.size else _)=_;rw[if_pos (Nat.le_refl _)];exact if_pos rfl
   ·exact⟨fun c o hc=>(hg g st hs).2.1.I c o hc,Nat.le_refl _,Nat.le_refl _,fun _ _=>rfl⟩
 ·exact h.elim
theorem C2{P:Program}{st:St}(o:Oper){r:SV}(h:(pop P st o.op).2∧r=(pop P st o.op).1){g:Gh}{a:Act}{w:World}(hs:Sim g st a w){K':Act→World→Prop}{Q:Exit→Act→World→Prop}
 (hK:∀v J w2,(∀c o,g.I c=some o→J c=some o)→(∀g3 st3,g3.I=g.I→Sim g3 st3 a w→Sim {g3 with I:=J} st3 a w2∧g3.to {g3 with I:=J})→av {g with I:=J} w2 r v none→bN {g with I:=J} st a w2 r v→K' (a.put o.dst v) w2):o.wp P a w K' Q:=by
 obtain⟨v,hr,hf,ha⟩:=CM o g a w hs h.1;rw[←h.2]at hf ha;unfold Oper.wp;rw[hr];exact hK v g.I w (fun _ _ h=>h) (fun g3 st3 h3 hs3=>by rw[←h3];exact⟨hs3,hs3.refl_to⟩) hf ha
theorem C3{P:Program}{st:St}(o:Oper){r:SV}(h:QE P st o.op r){g:Gh}{a:Act}{w:World}(hs:Sim g st a w){K':Act→World→Prop}{Q:Exit→Act→World→Prop}
 (hK:∀v J w2,(∀c o,g.I c=some o→J c=some o)→(∀g3 st3,g3.I=g.I→Sim g3 st3 a w→Sim {g3 with I:=J} st3 a w2∧g3.to {g3 with I:=J})→av {g with I:=J} w2 r v none→bN {g with I:=J} st a w2 r v→K' (a.put o.dst v) w2):o.wp P a w K' Q:=by
 cases hop:o.op
 case call c=>
  rw[hop]at h;simp only[QE]at h;split at h
  ·rename_i x hcal;split at h
   ·rename_i f p q hce;rw[mB,cU,cU]at h;obtain⟨h1,h2,R,⟨hcall,hA⟩,hR⟩:=h;have hc:c={callee:=.value x,args:=c.args,argTypes:=c.argTypes}:=by cases c;simp only at hcal;rw[hcal]
    obtain⟨u,v,hx,hu,hv'⟩:=ea hs h1 hce;have hr:=jm hs 3;have hfit:ai (dw w) (p.map (jk (bq st.h 3))++(c.args.toList.map (vw 3 st)++q.map (jk (bq st.h 3)))) (u.toList++(c.args.toList.map a.eval++v.toList)):=by
     refine ai.append ?_ (ai.append (og hs 3 _ h2) ?_)
     ·rw[←cU];exact ai.frz hs.I hr _ _ hu
     ·rw[←cU];exact ai.frz hs.I hr _ _ hv'
    have hcalls:=hA w _ hfit;have harr:(u.toList++(c.args.toList.map a.eval++v.toList)).toArray=u++c.args.map a.eval++v:=by
     apply Array.ext';simp
    rw[harr]at hcalls;unfold Oper.wp;have hrun:(execOp a.eval o).run P w=.ok (.enter f (u++c.args.map a.eval++v)) w:=by
     unfold aB at hcall;split at hcall
     case h_2=>cases hcall
     rename_i fn hfn;simp only[Bool.and_eq_true,Bool.not_eq_true']at hcall;simp only[execOp,hop,resolve,hcal,hx,Deferred.ofValue,invoke,callFunc,Sem.run_bind,Sem.run_pure,Result.andThen_ok,run_program,hfn,hcall.1,hcall.2,Bool.false_eq_true,if_false]
    rw[hrun,Oper.upon_enter];refine hcalls.mono fun e w' ⟨val,r',g',ob,he,hRr,hE,hF,hin,hob⟩=>?_;subst he;obtain⟨hnw,hreq⟩:=hR r' hRr;obtain⟨J,h5,h6,h7⟩:=hs.resultF hE hF hob hnw;rw[hreq]at hK;exact hK val J w' h5 h6 ⟨rfl,h7⟩ trivial
   ·exact h.elim
  ·rename_i hcal;exact C2 o (by rw[hop];exact h) hs hK
 case buildSlice t len parts=>rw[hop]at h;exact Ia o hop h hs hK
 all_goals exact C2 o (by rw[hop]at h⊢;exact h) hs hK
end Go.AX
namespace Go.AX
theorem av.undef{g:Gh}{w:World}{c:Prop}(h:¬c)(r:SV):av g w (.opt c r) Go.undef none:=⟨rfl,fun _=>rfl,fun hc=>absurd hc h⟩
theorem av.opt{g:Gh}{w:World}{c:Prop}(h:c){r:SV}{v:Value}(hf:av g w r v none):av g w (.opt c r) v none:=⟨rfl,fun hn=>absurd h hn,fun _=>hf⟩
def M0(P:Program)(st:St)(Gd:Prop)(o:Op)(d:Option Tmp)(K:St→Prop):Prop:=
 ∃r,(Gd→QE P st o r)∧K (putD d (.opt Gd r) st)
def IZ(P:Program)(st:St)(Gd:Prop)(o:Op)(d:Option Tmp)(K:St→Prop):Prop:=
 (Gd→(pop P st o).2)∧K (putD d (.opt Gd (pop P st o).1) st)
def zM(P:Program)(st:St)(Gd:Prop)(o:Op)(d:Option Tmp)(K:St→Prop):Prop:=
 (Gd→AE P st o d K)∧(¬Gd→K (putD d (.opt False (.pv (.lit (.bool false)))) st))
def pM(st:St)(args:Array Operand)(p q:List PV):List PV:=dY (bq st.h 3) p++(xp 3 st args.toList++dY (bq st.h 3) q)
def bY(P:Program)(st:St)(Gd:Prop)(f:FuncId)(pa:List PV)(d:Option Tmp)(K:St→Prop)(ok:Prop)(x:Operand)(args:Array Operand):Prop:=
 (∃r,(Gd→ao P f pa (fun r'=>r'=r))∧r.nwS∧K (putD d (.opt Gd (.pv (qj r))) st))∨((Gd→am P st ok f pa d K x args)∧(¬Gd→K (putD d (.opt False (.pv (.lit (.bool false)))) st)))
def tY(st:St)(x:Operand)(args:Array Operand):Bool:=
 match bv st x with
 |some (_,p,q)=>nk st args p q
 |none=>false
def zN(P:Program)(st:St)(Gd:Prop)(x:Operand)(args:Array Operand)(d:Option Tmp)(K:St→Prop):Prop:=
 match bv st x with
 |some (f,p,q)=>(Gd→gc st x∧iL st args.toList)∧bY P st Gd f (pM st args p q) d K (lD st args p q) x args
 |none=>False
theorem Gb{P:Program}{st:St}{Gd:Prop}{c:Call}{x:Operand}{d:Option Tmp}{K:St→Prop}(hc:c.callee=.value x)(hp:tY st x c.args=false)(h:zN P st Gd x c.args d K):M0 P st Gd (.call c) d K∨zM P st Gd (.call c) d K:=by
 unfold zN at h;unfold tY at hp;split at h
 ·rename_i f p q hce;rw[hce]at hp;obtain⟨h1,⟨r,h2,h3,h4⟩|⟨h2,h3⟩⟩:=h
  ·refine .inl ⟨_,fun hg=>?_,h4⟩;simp only[QE,hc,hce];exact⟨(h1 hg).1,(h1 hg).2,_,h2 hg,fun r' hr'=>by subst hr';exact⟨h3,rfl⟩⟩
  ·refine .inr ⟨fun hg=>?_,h3⟩;simp only[AE,hc,zK,hce];have hp:nk st c.args p q=false:=hp;rw[if_neg (by rw[hp];simp)];exact⟨(h1 hg).1,(h1 hg).2,h2 hg⟩
 ·exact h.elim
theorem bY.intro{P:Program}{st:St}{Gd:Prop}{f:FuncId}{pa:List PV}{d:Option Tmp}{K:St→Prop}{ok:Prop}{x:Operand}{args:Array Operand}{r:SV}(h:Gd→ao P f pa (fun r'=>r'=r))(hn:r.nwS)(hK:K (putD d (.opt Gd (.pv (qj r))) st)):bY P st Gd f pa d K ok x args:=.inl ⟨r,h,hn,hK⟩
theorem bY.introK{P:Program}{st:St}{Gd:Prop}{f:FuncId}{pa:List PV}{d:Option Tmp}{K:St→Prop}{ok:Prop}{x:Operand}{args:Array Operand}(h:Gd→am P st ok f pa d K x args)(h2:¬Gd→K (putD d (.opt False (.pv (.lit (.bool false)))) st)):bY P st Gd f pa d K ok x args:=.inr ⟨h,h2⟩
theorem am.intro{P:Program}{st:St}{ok:Prop}{f:FuncId}{pa:List PV}{d:Option Tmp}{K:St→Prop}{x:Operand}{args:Array Operand}{r:SV}(h:ao P f pa (fun r'=>r'=r))(hn:r.nwS)(hK:K (km d r st)):am P st ok f pa d K x args:=
 .inl ⟨_,h,fun r' hr'=>by subst hr';exact⟨hn,hK⟩⟩
theorem am.introX{P:Program}{st:St}{ok:Prop}{f:FuncId}{pa:List PV}{d:Option Tmp}{K:St→Prop}{x:Operand}{args:Array Operand}(h:dg P st x args d K):am P st ok f pa d K x args:=.inr (.inr h)
theorem dg.introS{P:Program}{st:St}{f:FuncId}{d:Option Tmp}{K:St→Prop}{c:Operand}{args:Array Operand}{q:List PV}{x:Operand}{xs:List Operand}{o:Pos}{lo hi e:Nat}{rows:List (List PV)}{va:List PV}{R:Option Nat→List (List PV)→Prop}
 (h:tT P f e rows va R) (hgc:gc st c) (hcal:bv st c=some (f,[],q)) (ha:args.toList=x::xs) (hp:partOf st x=some (o,lo,hi)) (hg:gc st x) (he:pc st o=e) (hr:((cM st o).take hi).drop lo=rows) (hb:bP 0 rows) (hv:iL (setPos st o (.pv .bot)) xs)
 (hva:xp 3 (setPos st o (.pv .bot)) xs++dY (bq (setPos st o (.pv .bot)).h 3) q=va)
 (hK:∀k rows',R k rows'→rows'.length=hi -lo→(∀m,k=some m→m≤hi -lo)→K (Bf d k o lo (setPos st o (.own (l6 st o) (pc st o) ((cM st o).take lo++rows'++(cM st o).drop hi))))):dg P st c args d K:=by
 subst he;subst hr;subst hva;refine sA.x hgc hcal ?_;unfold sA;simp only[ha,hp];exact⟨hg,hb,hv,R,h,hK⟩
theorem am.introM{P:Program}{st:St}{ok:Prop}{f:FuncId}{pa:List PV}{d:Option Tmp}{K:St→Prop}{x:Operand}{args:Array Operand}{R:SV→List (List SV)→Prop}(h:aE P f pa st.h R)(hok:ok)(hK:∀r h',R r h'→K (km d r ⟨aA eK st.t,h'⟩)):am P st ok f pa d K x args:=.inr (.inl ⟨hok,R,h,hK⟩)
def qk(st:St)(x:Operand)(args:Array Operand):Bool:=
 match bv st x with
 |some (_,p,q)=>nk st args p q
 |none=>false
theorem xR(st:St)(x:Operand)(args:Array Operand):qk st x args=tY st x args:=rfl
def AG(P:Program)(st:St)(Gd:Prop)(o:Op)(d:Option Tmp)(K:St→Prop):Prop:=
 match o with
 |.alloc t=>zM P st Gd (.alloc t) d K
 |.box t x=>zM P st Gd (.box t x) d K
 |.store t x y=>zM P st Gd (.store t x y) d K
 |.buildSlice t n ps=>zM P st Gd (.buildSlice t n ps) d K
 |.makeSlice t x y=>zM P st Gd (.makeSlice t x y) d K
 |.makeMap t r=>zM P st Gd (.makeMap t r) d K
 |.mapUpdate t m k x=>zM P st Gd (.mapUpdate t m k x) d K
 |.build t ps=>if tQ st ps.toList=true then zM P st Gd (.build t ps) d K else IZ P st Gd (.build t ps) d K
 |.call c=>match c.callee with
  |.value x=>if qk st x c.args=true then zM P st Gd (.call c) d K else zN P st Gd x c.args d K
  |.builtin .append=>zM P st Gd (.call c) d K
  |_=>IZ P st Gd (.call c) d K
 |o=>IZ P st Gd o d K
def JK(P:Program)(st:St)(t:TypeId)(parts:Array (Nat×Operand))(d:Option Tmp)(K:St→Prop):Prop:=(xI P st t parts).2∧K (putD d (xI P st t parts).1 st)
def Gc(P:Program)(ops:List Oper)(st:St)(o:Op)(d:Option Tmp)(K:St→Prop):Prop:=
 match o with
 |.build t parts=>if(jp ops d&&tQ st parts.toList)=true then JK P st t parts d K else AE P st (.build t parts) d K
 |o=>AE P st o d K
theorem xS(P:Program)(st:St)(t:TypeId)(parts:Array (Nat×Operand)):(xI P st t parts).1.isOwn=false:=by
 unfold xI;split<;>rfl
theorem Ib{P:Program}{ops:List Oper}{st:St}(o:Oper){K:St→Prop}(h:Gc P ops st o.op o.dst K){g:Gh}{a:Act}{w:World}(hs:Sim g st a w)(hd:bR g.N o.dst){K':Act→World→Prop}{Q:Exit→Act→World→Prop}
 (hK:∀st' g' a' w',K st'→g.to g'→Sim g' st' a' w'→K' a' w'):o.wp P a w K' Q:=by
 unfold Gc at h;split at h
 ·rename_i t parts hop;split at h
  ·obtain⟨h1,h2⟩:=h;obtain⟨v,hr,hf,ha⟩:=F8 o t parts hop g a w hs h1;unfold Oper.wp;rw[hr];exact hK _ g _ w h2 hs.refl_to (hs.putD hd hf ha (xS P st t parts))
  ·exact C0 o (by rw[hop];exact h) hs hd hK
 ·exact C0 o h hs hd hK
def eq(P:Program)(ops:List Oper)(o:Oper)(K:St→Prop)(st:St):Prop:=
 match o.guard with
 |none=>Gc P ops st o.op o.dst K
 |some (j,want)=>match gF ops j with
  |some d=>match sC st d want with
   |some Gd=>AG P st Gd o.op o.dst K
   |none=>False
  |none=>False
def iM(P:Program)(ops:List Oper)(K:St→Prop):List Oper→St→Prop
 |[],st=>K st
 |o::rest,st=>eq P ops o (iM P ops K rest) st
theorem lE{P:Program}{st:St}{o:Op}(hc:∀c x,o=.call c→c.callee≠.value x)(h:(oh P st o).2):QE P st o (oh P st o).1:=by
 cases o with
 |call c=>
  simp only[QE];split
  ·rename_i x hx;exact absurd hx (hc c x rfl)
  ·exact⟨h,rfl⟩
 |_=>exact⟨h,rfl⟩
theorem xT{P:Program}{st:St}{o:Op}(hc:∀c x,o=.call c→c.callee≠.value x)(h:(pop P st o).2):QE P st o (pop P st o).1:=by
 cases o with
 |call c=>
  simp only[QE];split
  ·rename_i x hx;exact absurd hx (hc c x rfl)
  ·exact⟨h,trivial⟩
 |buildSlice t len parts=>exact h.elim
 |_=>exact⟨h,rfl⟩
theorem C4{P:Program}{st:St}(o:Oper){Gd:Prop}{K:St→Prop}(h:M0 P st Gd o.op o.dst K){g:Gh}{a:Act}{w:World}(hs:Sim g st a w)(hd:bR g.N o.dst){K':Act→World→Prop}{Q:Exit→Act→World→Prop}
 (hK:∀st' g' a' w',K st'→g.to g'→Sim g' st' a' w'→K' a' w'):(Gd→o.wp P a w K' Q)∧(¬Gd→K' (a.put o.dst undef) w):=by
 obtain⟨r,h1,h2⟩:=h;refine⟨fun hg=>?_,fun hg=>hK _ g _ w h2 hs.refl_to (hs.putD hd (av.undef hg r) (fun hc=>absurd hc hg) rfl)⟩;refine C3 o (h1 hg) hs fun v J w2 t2 s2 f2 a2=>hK _ _ _ w2 h2 (s2 g _ rfl hs).2 ((s2 g _ rfl hs).1.putD hd (av.opt hg f2) (fun _=>a2) rfl)
theorem gG{P:Program}{st:St}(o:Oper){Gd:Prop}{K:St→Prop}(h:zM P st Gd o.op o.dst K){g:Gh}{a:Act}{w:World}(hs:Sim g st a w)(hd:bR g.N o.dst){K':Act→World→Prop}{Q:Exit→Act→World→Prop}
 (hK:∀st' g' a' w',K st'→g.to g'→Sim g' st' a' w'→K' a' w'):(Gd→o.wp P a w K' Q)∧(¬Gd→K' (a.put o.dst undef) w):=
 ⟨fun hg=>C0 o (h.1 hg) hs hd hK,fun hg=>hK _ g _ w (h.2 hg) hs.refl_to (hs.putD hd (av.undef (fun h=>h) _) (fun hc=>hc.elim) rfl)⟩
theorem JM{P:Program}{st:St}(o:Oper){Gd:Prop}{K:St→Prop}(h:AG P st Gd o.op o.dst K){g:Gh}{a:Act}{w:World}(hs:Sim g st a w)(hd:bR g.N o.dst){K':Act→World→Prop}{Q:Exit→Act→World→Prop}
 (hK:∀st' g' a' w',K st'→g.to g'→Sim g' st' a' w'→K' a' w'):(Gd→o.wp P a w K' Q)∧(¬Gd→K' (a.put o.dst undef) w):=by
 have hp:(∀c x,o.op=.call c→c.callee≠.value x)→IZ P st Gd o.op o.dst K→(Gd→o.wp P a w K' Q)∧(¬Gd→K' (a.put o.dst undef) w):=
  fun hc h=>C4 o ⟨(pop P st o.op).1,fun hg=>xT hc (h.1 hg),h.2⟩ hs hd hK
 cases hop:o.op
 case alloc t=>rw[hop]at h;exact gG o (by rw[hop];exact h) hs hd hK
 case box t x=>rw[hop]at h;exact gG o (by rw[hop];exact h) hs hd hK
 case store t x y=>rw[hop]at h;exact gG o (by rw[hop];exact h) hs hd hK
 case buildSlice t n ps=>rw[hop]at h;exact gG o (by rw[hop];exact h) hs hd hK
 case makeSlice t x y=>rw[hop]at h;exact gG o (by rw[hop];exact h) hs hd hK
 case makeMap t r=>rw[hop]at h;exact gG o (by rw[hop];exact h) hs hd hK
 case mapUpdate t m k x=>rw[hop]at h;exact gG o (by rw[hop];exact h) hs hd hK
 case build t ps=>
  rw[hop]at h;simp only[AG]at h;split at h
  ·exact gG o (by rw[hop];exact h) hs hd hK
  ·exact hp (fun c' x hc=>by rw[hop]at hc;cases hc) (by rw[hop];exact h)
 case call c=>
  rw[hop]at h;simp only[AG]at h;split at h
  ·rename_i x hx;split at h
   ·exact gG o (by rw[hop];exact h) hs hd hK
   ·rename_i hn;rcases Gb hx (by rw[←xR];simpa using hn) h with h|h
    ·exact C4 o (by rw[hop];exact h) hs hd hK
    ·exact gG o (by rw[hop];exact h) hs hd hK
  ·exact gG o (by rw[hop];exact h) hs hd hK
  ·rename_i hn _;exact hp (fun c' x hc hx=>by rw[hop]at hc;cases hc;exact hn x hx) (by rw[hop];exact h)
 all_goals (rw[hop]at h;exact hp (fun c' x hc=>by rw[hop]at hc;cases hc) (by rw[hop];exact h))
theorem sD{P:Program}{ops:Array Oper}{L:List Oper}(hL:∀j d,gF L j=some d→gF ops.toList j=some d){st:St}(o:Oper){K:St→Prop}(h:eq P L o K st){g:Gh}{a:Act}{w:World}(hs:Sim g st a w)(hd:bR g.N o.dst){K':Act→World→Prop}{Q:Exit→Act→World→Prop}
 (hK:∀st' g' a' w',K st'→g.to g'→Sim g' st' a' w'→K' a' w'):if Region.wanted o (yielded ops a.tmps)=true then o.wp P a w K' Q else K' (a.put o.dst undef) w:=by
 unfold eq at h;split at h
 ·rename_i hg;rw[if_pos (by simp[Region.wanted,hg])];exact Ib o h hs hd hK
 ·rename_i j want hg;split at h
  ·rename_i d hgs;split at h
   ·rename_i Gd hc;have hw:=mC hs hg (hL _ _ hgs) hc;have:=JM o h hs hd (Q:=Q) hK;split
    ·rename_i hh;exact this.1 (hw.1 hh)
    ·rename_i hh;exact this.2 (fun hG=>hh (hw.2 hG))
   ·exact h.elim
  ·exact h.elim
theorem ko{P:Program}{ops:Array Oper}{st:St}(o:Oper){K:St→Prop}(h:eq P ops.toList o K st){g:Gh}{a:Act}{w:World}(hs:Sim g st a w)(hd:bR g.N o.dst){K':Act→World→Prop}{Q:Exit→Act→World→Prop}
 (hK:∀st' g' a' w',K st'→g.to g'→Sim g' st' a' w'→K' a' w'):if Region.wanted o (yielded ops a.tmps)=true then o.wp P a w K' Q else K' (a.put o.dst undef) w:=sD (fun _ _ h=>h) o h hs hd hK
def cg(N:Nat)(l:List Oper):Bool:=l.all fun o=>match o.dst with|some d=>decide (d<N)|none=>true
theorem kr{N:Nat}{o:Oper}{l:List Oper}(h:cg N (o::l)=true):bR N o.dst∧cg N l=true:=by
 simp only[cg,List.all_cons,Bool.and_eq_true]at h;refine⟨?_,h.2⟩;unfold bR;split
 ·rename_i d hd;rw[hd]at h;simpa using h.1
 ·trivial
theorem vt{P:Program}{ops:Array Oper}{L:List Oper}(hL:∀j d,gF L j=some d→gF ops.toList j=some d):∀(l:List Oper){st:St}{K:St→Prop}(_:iM P L K l st){g:Gh}{a:Act}{w:World}(_:Sim g st a w)(_:cg g.N l=true){Q:Exit→Act→World→Prop}
 (_:∀st' g' a' w',K st'→g.to g'→Sim g' st' a' w'→Q .normal a' w'),wpList P ops Q l a w
 |[],st,K,h,g,a,w,hs,_,Q,hQ=>hQ st g a w h hs.refl_to hs
 |o::rest,st,K,h,g,a,w,hs,hd,Q,hQ=>by
  obtain⟨h1,h2⟩:=kr hd;have:=sD (ops:=ops) hL o h hs h1 (Q:=Q) (K':=wpList P ops Q rest)
   (fun st' g' a' w' hk t' s'=>vt hL rest hk s' (by rw[t'.N];exact h2) (fun st2 g2 a2 w2 k2 t2 s2=>hQ st2 g2 a2 w2 k2 (t'.trans t2) s2))
  unfold wpList;split
  ·rename_i hw;rw[if_pos hw]at this;exact .inl this
  ·rename_i hw;rw[if_neg hw]at this;exact this
theorem tZ{P:Program}{ops:Array Oper}(l:List Oper){st:St}{K:St→Prop}(h:iM P ops.toList K l st){g:Gh}{a:Act}{w:World}(hs:Sim g st a w)(hd:cg g.N l=true){Q:Exit→Act→World→Prop}
 (hQ:∀st' g' a' w',K st'→g.to g'→Sim g' st' a' w'→Q .normal a' w'):wpList P ops Q l a w:=vt (fun _ _ h=>h) l h hs hd hQ
end Go.AX
namespace Go.AX
theorem Sim.allocF{g:Gh}{st:St}{a:Act}{w:World}(h:Sim g st a w)(arr:Array Value)(T:TypeId):
 g.F w.heap.size=none∧g.I w.heap.size=none∧Sim {g with F:=fun c=>if c=w.heap.size then some (.cells arr T (0,0))else g.F c} st a (w.alloc (.cells arr T)):=by
 obtain⟨bl,hb⟩:=h.own;have hlt:∀{c o},w.heap[c]?=some o→c<w.heap.size:=fun hh=>(Array.getElem?_eq_some_iff.1 hh).1;have hnew:(w.alloc (.cells arr T)).heap[w.heap.size]?=some (.cells arr T (0,0)):=heap_alloc_new w _;have hold:∀k,k<w.heap.size→(w.alloc (.cells arr T)).heap[k]?=w.heap[k]?:=fun k hk=>heap_alloc_old w _ hk;have hμ:∀b,b<g.n→g.μ b<w.heap.size:=fun b hbn=>by
  obtain⟨_,_,h3,_⟩:=hb.blocks b _ (List.getElem?_eq_getElem (h.n▸hbn));exact hlt h3
 have hIn:g.I w.heap.size=none:=(h.fresh hb (Nat.le_refl _)).I;have hFn:g.F w.heap.size=none:=(h.fresh hb (Nat.le_refl _)).F;refine⟨hFn,hIn,?_⟩
 let g':Gh:={g with F:=fun c=>if c=w.heap.size then some (.cells arr T (0,0))else g.F c}
 have hle:g.le g':=⟨fun _ _ h=>h,Nat.le_refl _,Nat.le_refl _,fun _ _=>rfl⟩;have hfr:∀p c,bl p=some c→(w.alloc (.cells arr T)).heap[c]?=w.heap[c]?:=fun p c hc=>hold c (hb.free p c hc).2.2.1;have hblk:∀b k,(aa st (.cell b k)).isOwn=true→b<g.n:=by
  intro b k hp;rw[h.n];apply Nat.lt_of_not_le;intro hle2;simp only[aa,List.getD_eq_getElem?_getD,List.getElem?_eq_none hle2]at hp;simp[SV.isOwn]at hp
 have hpg:∀p,(aa st p).isOwn=true→aa st p=aa st p∧an g' a (w.alloc (.cells arr T)) p=an g a w p:=by
  intro p hp;refine⟨rfl,?_⟩;cases p with
  |slot s=>rfl
  |cell b k=>simp only[an];rw[hold _ (hμ b (hblk b k hp))]
 refine{size:=h.size,defs:=h.defs,env:=h.env,n:=h.n,n0:=h.n0,B:=?_,I:=fun c o hc=>?_,F:=fun c o hc=>?_,μI:=fun b hbn=>⟨(h.μI b hbn).1,?_⟩,μinj:=h.μinj,own:=⟨bl,?_⟩,al:=fun s=>bN.congr hpg (h.al s)}
 ·have:=h.B;simp only[World.size_alloc];exact Nat.le_succ_of_le this
 ·have:=h.I c o hc;rw[hold c (hlt this)];exact this
 ·change(if c=w.heap.size then some (.cells arr T (0,0))else g.F c)=some o at hc
  split at hc
  ·rename_i e;subst e;rw[hnew];exact hc
  ·have:=h.F c o hc;rw[hold c (hlt this)];exact this
 ·show(if g.μ b=w.heap.size then _ else _)=none;have:=hμ b hbn;rw[if_neg (by omega)];exact(h.μI b hbn).2
 ·refine{slots:=fun s=>av.frame hle (hfr (.slot s)) (hb.slots s),blocks:=fun b ys hy=>?_,inj:=hb.inj,free:=fun p c hp=>?_}
  ·obtain⟨arr',T',h1,h2,h3⟩:=hb.blocks b ys hy;have hbn:b<g.n:=by rw[h.n];exact(List.getElem?_eq_some_iff.1 hy).1
   exact⟨arr',T',by show(w.alloc _).heap[g.μ b]?=_;rw[hold _ (hμ b hbn)];exact h1,h2,fun k x hk=>⟨(h3 k x hk).1,av.frame hle (hfr (.cell b k)) (h3 k x hk).2⟩⟩
  ·obtain⟨a1,a2,a3,a4⟩:=hb.free p c hp;refine⟨a1,?_,by simp only[World.size_alloc];omega,a4⟩;show(if c=w.heap.size then _ else _)=none;rw[if_neg (by omega)];exact a2
theorem Sim.takeF{g:Gh}{st:St}{a:Act}{w:World}(h:Sim g st a w)(xs:List PV)(arr:Array Value)(T:TypeId)(c:Nat)(hc:g.F c=some (.cells arr T (0,0)))(hcI:g.I c=none)(hf:ai g xs arr.toList)(h1c:∀v∈arr.toList,v.oneCell'=true){d:Nat}(hd:d<g.N)(hv:a.tmps.getD d undef=.pointer (some ⟨c,0,none⟩)):
 Sim {g with F:=fun c'=>if c'=c then none else g.F c',n:=g.n+1,μ:=fun b=>if b=g.n then c else g.μ b} ((st.grow (xs.map .pv)).put d (.pv (.ptr st.h.length 0))) a w:=by
 obtain⟨bl,hb⟩:=h.own;have hwc:w.heap[c]?=some (.cells arr T (0,0)):=h.F _ _ hc
 let g':Gh:={g with F:=fun c'=>if c'=c then none else g.F c',n:=g.n+1,μ:=fun b=>if b=g.n then c else g.μ b}
 have hle:g.le g':=⟨fun _ _ h=>h,Nat.le_refl _,Nat.le_succ _,fun b hbn=>by show(if b=g.n then _ else _)=_;rw[if_neg (by omega)]⟩;have hμc:∀b,b<g.n→g.μ b≠c:=fun b hbn e=>by have:=(h.μI b hbn).2;rw[e,hc]at this;cases this
 have hpg:∀p,(aa (st.grow (xs.map .pv)) p).isOwn=true→aa (st.grow (xs.map .pv)) p=aa st p∧an g' a w p=an g a w p:=by
  intro p hp;cases p with
  |slot s=>exact⟨rfl,rfl⟩
  |cell b k=>
   simp only[aa,St.grow,List.getD_eq_getElem?_getD]at hp⊢;rcases Nat.lt_trichotomy b st.h.length with hl|hl|hl
   ·rw[List.getElem?_append_left hl]at hp⊢;refine⟨rfl,?_⟩;have hbn:b<g.n:=by rw[h.n];exact hl
    simp only[an];rw[hle.μ b hbn]
   ·exfalso;rw[hl,List.getElem?_append_right (Nat.le_refl _)]at hp;simp only[Nat.sub_self,List.getElem?_cons_zero,Option.getD_some,List.getElem?_map]at hp;cases hx:xs[k]?with
    |none=>simp[hx,SV.isOwn]at hp
    |some y=>simp[hx,SV.isOwn]at hp
   ·exfalso;have hz:(st.h++[xs.map SV.pv])[b]?=none:=List.getElem?_eq_none (by simp only[List.length_append,List.length_cons,List.length_nil];omega);rw[hz]at hp;simp[SV.isOwn]at hp
 have hbl':∀p c,(match p with|.cell b _=>if b=g.n then none else bl p|.slot _=>bl p)=some c→bl p=some c:=by
  intro p c hp;cases p with
  |slot s=>exact hp
  |cell b k=>
   have hp2:(if b=g.n then none else bl (.cell b k))=some c:=hp;split at hp2
   ·cases hp2
   ·exact hp2
 have hs:Sim g' (st.grow (xs.map .pv)) a w:=by
  refine{size:=h.size,defs:=h.defs,env:=h.env,n:=?_,n0:=Nat.le_trans h.n0 (Nat.le_succ _),B:=h.B,I:=h.I,F:=fun c' o hc'=>?_,μI:=fun b hbn=>?_,μinj:=fun b b' hbn hbn' he=>?_,own:=⟨fun p=>match p with|.cell b _=>if b=g.n then none else bl p|.slot _=>bl p,?_⟩,al:=fun s=>bN.congr hpg (h.al s)}
  ·show g.n+1=_;rw[h.n];simp[St.grow]
  ·change(if c'=c then none else g.F c')=some o at hc'
   split at hc'
   ·cases hc'
   ·exact h.F c' o hc'
  ·show g.I (if b=g.n then _ else _)=none∧(if(if b=g.n then _ else _)=c then none else g.F (if b=g.n then _ else _))=none
   by_cases hbe:b=g.n
   ·rw[if_pos hbe,if_pos rfl];exact⟨hcI,rfl⟩
   ·have hbn':b<g.n:=by have:b<g.n+1:=hbn;omega
    rw[if_neg hbe,if_neg (hμc b hbn')];exact h.μI b hbn'
  ·change(if b=g.n then c else g.μ b)=(if b'=g.n then c else g.μ b')at he
   have h1:b<g.n+1:=hbn;have h2:b'<g.n+1:=hbn'
   by_cases e1:b=g.n
   ·by_cases e2:b'=g.n
    ·omega
    ·rw[if_pos e1,if_neg e2]at he;exact absurd he.symm (hμc b' (by omega))
   ·by_cases e2:b'=g.n
    ·rw[if_neg e1,if_pos e2]at he;exact absurd he (hμc b (by omega))
    ·rw[if_neg e1,if_neg e2]at he;exact h.μinj b b' (by omega) (by omega) he
  ·refine{slots:=fun s=>av.frame hle (fun _ _=>rfl) (hb.slots s),blocks:=fun b ys hy=>?_,inj:=fun p q c hp hq=>hb.inj p q c (hbl' p c hp) (hbl' q c hq),free:=fun p c' hp=>?_}
   ·simp only[St.grow]at hy
    by_cases hl:b<st.h.length
    ·rw[List.getElem?_append_left hl]at hy;have hbn:b<g.n:=by rw[h.n];exact hl
     obtain⟨arr',T',h1,h2,h3⟩:=hb.blocks b ys hy;refine⟨arr',T',by rw[hle.μ b hbn];exact h1,h2,fun k x hk=>?_⟩;simp only[if_neg (Nat.ne_of_lt hbn)];exact⟨(h3 k x hk).1,av.frame hle (fun _ _=>rfl) (h3 k x hk).2⟩
    ·have hbe:b=st.h.length:=by
      have:=(List.getElem?_eq_some_iff.1 hy).1;simp at this;omega
     rw[hbe,List.getElem?_append_right (Nat.le_refl _)]at hy;simp only[Nat.sub_self,List.getElem?_cons_zero,Option.some.injEq]at hy;subst hy;have hbn:b=g.n:=by rw[hbe,h.n]
     refine⟨arr,T,by show w.heap[if b=g.n then _ else _]?=_;rw[if_pos hbn];exact hwc,⟨by have:=hf.length;simpa using this,h1c⟩,fun k x hk=>?_⟩;rw[List.getElem?_map,Option.map_eq_some_iff]at hk;obtain⟨y,hy,rfl⟩:=hk;obtain⟨v,hv,hfv⟩:=hf.get k y hy;simp only[if_pos hbn];refine⟨rfl,rfl,?_⟩;have:arr.getD k undef=v:=by
      rw[Array.getElem?_toList]at hv;simp[Array.getD_eq_getD_getElem?,hv]
     rw[this];exact Fit.mono hle _ _ hfv
   ·have hp':=hbl' p c' hp;obtain⟨a1,a2,a3,a4⟩:=hb.free p c' hp';have hne:c'≠c:=fun e=>by rw[e,hc]at a2;cases a2
    refine⟨a1,?_,a3,fun b hbn=>?_⟩
    ·show(if c'=c then none else g.F c')=none;rw[if_neg hne];exact a2
    ·show(if b=g.n then c else g.μ b)≠c'
     by_cases hbe:b=g.n
     ·rw[if_pos hbe];exact fun e=>hne e.symm
     ·rw[if_neg hbe];exact a4 b (by have:b<g.n+1:=hbn;omega)
 have hds:d<a.tmps.size:=by rw[h.size];exact hd
 have:=hs.put (d:=d) (sv:=.pv (.ptr st.h.length 0)) (v:=a.tmps.getD d undef) hd ⟨rfl,by show st.h.length<g.n+1;rw[h.n];omega,by rw[hv];show _=Value.pointer (some ⟨if st.h.length=g.n then c else g.μ _,0,none⟩);rw[if_pos h.n.symm]⟩ trivial rfl;rw[nf hds]at this;exact this
/-! ### The blocks that are out -/
def iF(o:Oper):Option (Nat×TypeId):=
 match o.op,o.dst with
 |.alloc t,some d=>some (d,t)
 |_,_=>none
theorem C5{o:Oper}{d:Nat}{t:TypeId}(h:iF o=some (d,t)):o.dst=some d:=by
 unfold iF at h;split at h
 ·rename_i h1 h2;cases h;exact h2
 ·cases h
def Bi(P:Program)(K:St→Prop):List Oper→St→Prop
 |[],st=>K st
 |o::r,st=>match iF o with
  |some (d,t)=>match dX P t with
   |some zs=>bn zs=true∧Bi P K r ((st.grow (zs.map .pv)).put d (.pv (.ptr st.h.length 0)))
   |none=>False
  |none=>Bi P K r st
def zeroOf(P:Program)(t:TypeId)(z:Array Value):Prop:=∃i v,P.info? t=some i∧i.zero=some v∧z=v.cells
theorem vu{P:Program}{t:TypeId}{z:Array Value}(h:zeroOf P t z){zs:List PV}(hz:dX P t=some zs):zs=z.toList.map PV.lit:=by
 obtain⟨i,v,h1,h2,rfl⟩:=h;unfold dX at hz;rw[h1]at hz;simp only[h2,Option.map_some,Option.some.injEq]at hz;exact hz.symm
structure Out (g0 g:Gh) (a:Act) (cf:Nat→Option (Nat×Array Value×TypeId)):Prop where
  on:∀d c z T,cf d=some (c,z,T)→g.F c=some (.cells z T (0,0))∧g.I c=none∧g0.F c=none∧a.tmps.getD d undef=.pointer (some ⟨c,0,none⟩)
  off:∀c,(∀d z T,cf d≠some (c,z,T))→g.F c=g0.F c
  inj:∀d d' c z T z' T',cf d=some (c,z,T)→cf d'=some (c,z',T')→d=d'
  to:g0.to {g with F:=g0.F}
theorem Out.start{g:Gh}{st:St}{a:Act}{w:World}(hs:Sim g st a w):Out g g a (fun _=>none):=
 ⟨fun _ _ _ _ h=>(by cases h),fun _ _=>rfl,fun _ _ _ _ _ _ _ h=>(by cases h),⟨fun _ _ h=>h,rfl,rfl,rfl,rfl,rfl,hs.n0,fun _ _=>rfl,fun _ _ h=>h⟩⟩
theorem Out.sub{g0 g:Gh}{a:Act}{cf:Nat→Option (Nat×Array Value×TypeId)}(h:Out g0 g a cf){c:Nat}(hc:g0.F c≠none):g.F c=g0.F c:=
 h.off c fun d z T e=>hc (h.on d c z T e).2.2.1
theorem Out.step{g0 g:Gh}{a a':Act}{cf:Nat→Option (Nat×Array Value×TypeId)}(h:Out g0 g a cf){J:Nat→Option Obj}(ht:g.to {g with I:=J})(ha:∀d,cf d≠none→a'.tmps.getD d undef=a.tmps.getD d undef):Out g0 {g with I:=J} a' cf:=by
 refine⟨fun d c z T e=>?_,h.off,h.inj,?_⟩
 ·obtain⟨h1,h2,h3,h4⟩:=h.on d c z T e;exact⟨h1,ht.FI c (by rw[h1];exact fun hh=>by cases hh) h2,h3,by rw[ha d (by rw[e];exact fun hh=>by cases hh)];exact h4⟩
 ·exact⟨fun c o hc=>ht.I c o (h.to.I c o hc),rfl,h.to.B,h.to.n0,h.to.N,h.to.env,h.to.n,h.to.μ,fun c hF hI=>ht.FI c (by rw[h.sub hF];exact hF) (h.to.FI c hF hI)⟩
theorem Out.alloc{g0 g:Gh}{st:St}{a a':Act}{w:World}{cf:Nat→Option (Nat×Array Value×TypeId)}(h:Out g0 g a cf)(hs:Sim g st a w)(z:Array Value)(T:TypeId){d:Nat}(hd:cf d=none)
 (hv:a'.tmps.getD d undef=.pointer (some ⟨w.heap.size,0,none⟩)) (ha:∀d',d'≠d→a'.tmps.getD d' undef=a.tmps.getD d' undef):
 Out g0 {g with F:=fun c=>if c=w.heap.size then some (.cells z T (0,0))else g.F c} a' (fun x=>if x=d then some (w.heap.size,z,T)else cf x):=by
 obtain⟨hF,hI,_⟩:=hs.allocF z T;have h0:g0.F w.heap.size=none:=by
  cases hc:g0.F w.heap.size with
  |none=>rfl
  |some o=>have:=h.sub (c:=w.heap.size) (by rw[hc];exact fun hh=>by cases hh);rw[hF,hc]at this;cases this
 have hcf:∀x c z T,cf x=some (c,z,T)→c≠w.heap.size:=fun x c z T e hc=>by
  have:=(h.on x c z T e).1;rw[hc,hF]at this;cases this
 refine⟨fun x c z' T' e=>?_,fun c hc=>?_,fun x x' c z1 T1 z2 T2 e e'=>?_,?_⟩
 ·skip
  split at e
  ·rename_i hx;subst hx;cases e;exact⟨if_pos rfl,hI,h0,hv⟩
  ·rename_i hx;obtain⟨h1,h2,h3,h4⟩:=h.on x c z' T' e;exact⟨(if_neg (hcf x c z' T' e)).trans h1,h2,h3,by rw[ha x hx];exact h4⟩
 ·have hne:c≠w.heap.size:=fun e=>hc d z T (by rw[if_pos rfl,e]);show(if c=w.heap.size then _ else _)=_;rw[if_neg hne];refine h.off c fun x z' T' e=>?_
  by_cases hx:x=d
  ·rw[hx,hd]at e;cases e
  ·exact hc x z' T' (by rw[if_neg hx];exact e)
 ·skip
  split at e
  ·rename_i hx;cases e;split at e'
   ·rename_i hx';rw[hx,hx']
   ·exact absurd rfl (hcf x' _ _ _ e')
  ·split at e'
   ·cases e';exact absurd rfl (hcf x _ _ _ e)
   ·exact h.inj x x' c _ _ _ _ e e'
 ·exact⟨h.to.I,rfl,h.to.B,h.to.n0,h.to.N,h.to.env,h.to.n,h.to.μ,h.to.FI⟩
theorem xU{P:Program}{K:St→Prop}{g0:Gh}{a:Act}{w:World}:∀(l:List Oper)(st:St)(g:Gh)(cf:Nat→Option (Nat×Array Value×TypeId)),Out g0 g a cf→Sim g st a w→
 (∀o∈l,∀d t,iF o=some (d,t)→d<g.N∧∃c z,cf d=some (c,z,t)∧zeroOf P t z)→(∀d,cf d≠none→∃o∈l,∃t,iF o=some (d,t))→((l.filterMap iF).map (·.1)).Nodup→Bi P K l st→
 ∃g' st',K st'∧g0.to g'∧Sim g' st' a w
 |[],st,g,cf,ho,hs,_,hc,_,hk=>by
  have hn:∀d,cf d=none:=fun d=>by
   cases h:cf d with
   |none=>rfl
   |some x=>obtain⟨o,h1,_⟩:=hc d (by rw[h];exact fun hh=>by cases hh);cases h1
  have hF:g.F=g0.F:=funext fun c=>ho.off c fun d z T e=>by rw[hn d]at e;cases e
  have ht:=ho.to;rw[←hF]at ht;exact⟨g,st,hk,ht,hs⟩
 |o::r,st,g,cf,ho,hs,hon,hc,hnd,hk=>by
  unfold Bi at hk;split at hk
  ·rename_i d t hal;split at hk
   ·rename_i zs hz;obtain⟨hone,hk⟩:=hk;obtain⟨hdN,c,z,hcf,hzo⟩:=hon o (List.mem_cons_self) d t hal;obtain⟨h1,h2,h3,h4⟩:=ho.on d c z t hcf;have hzs:=vu hzo hz;subst hzs;have hfit:=dI g z.toList;have hs2:=hs.takeF (z.toList.map PV.lit) z t c h1 h2 hfit (db hone hfit) hdN h4;simp only[List.filterMap_cons,hal,List.map_cons,List.nodup_cons]at hnd;have hcne:∀x c' z' T',x≠d→cf x=some (c',z',T')→c'≠c:=fun x c' z' T' hx e hcc=>hx (ho.inj x d c z' T' z t (by rw[←hcc];exact e) hcf);refine xU r _ _ (fun x=>if x=d then none else cf x) ⟨fun x c' z' T' e=>?_,fun c' hc'=>?_,fun x x' c' z1 T1 z2 T2 e e'=>?_,?_⟩ hs2 (fun o' ho' d' t' hal'=>?_) (fun x hx=>?_) hnd.2 hk
    ·skip
     split at e
     ·cases e
     ·rename_i hx;obtain⟨k1,k2,k3,k4⟩:=ho.on x c' z' T' e;exact⟨(if_neg (hcne x c' z' T' hx e)).trans k1,k2,k3,k4⟩
    ·show(if c'=c then none else g.F c')=g0.F c';split
     ·rename_i e;rw[e,h3]
     ·rename_i hne;refine ho.off c' fun x z' T' e=>?_
      by_cases hx:x=d
      ·rw[hx,hcf]at e;cases e;exact hne rfl
      ·exact hc' x z' T' (by rw[if_neg hx];exact e)
    ·skip
     split at e
     ·cases e
     ·split at e'
      ·cases e'
      ·exact ho.inj x x' c' _ _ _ _ e e'
    ·have hn0:g0.n0≤g.n:=ho.to.n;refine⟨ho.to.I,rfl,ho.to.B,ho.to.n0,ho.to.N,ho.to.env,Nat.le_trans hn0 (Nat.le_succ _),fun b hb=>?_,ho.to.FI⟩;show(if b=g.n then c else g.μ b)=g0.μ b;rw[if_neg (by omega)];exact ho.to.μ b hb
    ·obtain⟨k1,c',z',k2,k3⟩:=hon o' (List.mem_cons_of_mem _ ho') d' t' hal';refine⟨k1,c',z',?_,k3⟩;have:d'≠d:=fun e=>hnd.1 (by rw[←e];exact List.mem_map.2 ⟨(d',t'),List.mem_filterMap.2 ⟨o',ho',hal'⟩,rfl⟩);simp only[if_neg this];exact k2
    ·skip
     split at hx
     ·exact absurd rfl hx
     ·rename_i hxd;obtain⟨o',h5,t',h6⟩:=hc x hx;rcases List.mem_cons.1 h5 with e|e
      ·subst e;rw[hal]at h6;cases h6;exact absurd rfl hxd
      ·exact⟨o',e,t',h6⟩
   ·exact hk.elim
  ·rename_i hal;refine xU r st g cf ho hs (fun o' ho'=>hon o' (List.mem_cons_of_mem _ ho')) (fun d hd=>?_) (by simpa[List.filterMap_cons,hal]using hnd) hk;obtain⟨o',h5,t',h6⟩:=hc d hd;rcases List.mem_cons.1 h5 with e|e
   ·subst e;rw[hal]at h6;cases h6
   ·exact⟨o',e,t',h6⟩
theorem ql{P:Program}{K:St→Prop}:∀(l:List Oper)(st:St),Bi P K l st→∀o∈l,∀d t,iF o=some (d,t)→∃zs,dX P t=some zs
 |[],_,_,o,ho,_,_,_=>by cases ho
 |o1::r,st,hk,o,ho,d,t,hal=>by
  unfold Bi at hk;split at hk
  ·rename_i d1 t1 hal1;split at hk
   ·rename_i zs hz;rcases List.mem_cons.1 ho with e|e
    ·subst e;rw[hal]at hal1;cases hal1;exact⟨_,hz⟩
    ·exact ql r _ hk.2 o e d t hal
   ·exact hk.elim
  ·rename_i hal1;rcases List.mem_cons.1 ho with e|e
   ·subst e;rw[hal]at hal1;cases hal1
   ·exact ql r _ hk o e d t hal
theorem Bj{P:Program}{o:Oper}{d:Nat}{t:TypeId}{zs:List PV}(ho:iF o=some (d,t))(hz:dX P t=some zs):o.dst=some d∧∃z,zeroOf P t z∧∀(a:Act)(w:World),(execOp a.eval o).run P w=.ok (.value (.pointer (some ⟨w.heap.size,0,none⟩))) (w.alloc (.cells z t)):=by
 unfold iF at ho;split at ho
 ·rename_i t' d' hop hd;cases ho
  refine⟨hd,?_⟩;unfold dX at hz;split at hz
  ·rename_i i hi;simp only[Option.map_eq_some_iff]at hz;obtain⟨v,hv,_⟩:=hz;refine⟨v.cells,⟨i,v,hi,hv,rfl⟩,fun a w=>?_⟩;simp only[execOp,hop,Instr.alloc,zeroValue,typeInfo,Sem.run_bind,run_program,Result.andThen_ok,hi,Sem.run_pure,hv];simp[newVar,newRow]
  ·cases hz
 ·cases ho
end Go.AX
namespace Go.AX
def jU:List Nat→Nat→Bool
 |[],_=>false
 |d::ds,s=>if d=s then true else jU ds s
theorem nl:∀(ds:List Nat)(s:Nat),jU ds s=true↔s∈ds
 |[],s=>by simp[jU]
 |d::ds,s=>by
  simp only[jU,List.mem_cons]
  by_cases h:d=s
  ·subst h;simp
  ·rw[if_neg h,nl ds s];exact⟨.inr,fun h'=>h'.resolve_left (fun e=>h e.symm)⟩
/-! ### What an operation looks at -/
def fR:Operand→List Nat
 |.tmp t=>[t]
 |_=>[]
def tmpsOf:List Operand→List Nat
 |[]=>[]
 |x::xs=>fR x++tmpsOf xs
def t6:Option Operand→List Nat
 |some x=>fR x
 |none=>[]
def qm:Op→List Nat
 |.move x|.assign x|.load _ x|.nilCheck x|.unOp _ _ x|.convert _ _ x|.fieldAddr _ x _|.field _ x _|.extract x _=>fR x
 |.pick c a b=>fR c++(fR a++fR b)
 |.build _ ps=>tmpsOf (ps.toList.map (·.2))
 |.buildSlice _ _ ps=>tmpsOf (ps.toList.map (·.2))
 |.binOp _ _ a v _|.indexAddr _ a v|.index _ a v|.lookup _ a v _=>fR a++fR v
 |.slice _ x l h _=>fR x++(t6 l++t6 h)
 |.call c=>match c.callee with
  |.value x=>fR x++tmpsOf c.args.toList
  |_=>tmpsOf c.args.toList
 |_=>[]
def looks(ops:List Oper)(o:Oper):List Nat:=
 match o.guard with
 |none=>qm o.op
 |some (j,_)=>match gF ops j with
  |some d=>d::qm o.op
  |none=>qm o.op
def xV(all:List Oper)(d:Nat):Bool:=all.all fun o=>!(qm o.op).contains d
def C6(d:Nat)(o:Oper):Bool:=
 match o.op with
 |.buildSlice _ _ _=>true
 |.build _ _=>true
 |.call c=>match c.callee with
  |.value _=>true
  |.builtin .append=>match c.args.toList with
   |x::_=>!jU (fR x) d
   |[]=>true
  |_=>true
 |.assign x=>!jU (fR x) d
 |.store _ _ y=>!jU (fR y) d
 |.box _ x=>!jU (fR x) d
 |.mapUpdate _ _ _ x=>!jU (fR x) d
 |.insert _ _ _ x=>!jU (fR x) d
 |_=>true
def C7(d:Nat):List Oper→Bool
 |[]=>true
 |o::r=>C6 d o&&C7 d r
def fN(all:List Oper):List Oper→Nat
 |[]=>0
 |o::r=>match o.op with
  |.assign _=>match o.dst with
   |some d=>if xV all d=true then fN all r+1 else 0
   |none=>0
  |.alloc _=>match o.dst,o.guard with
   |some d,none=>if xV all d=true then fN all r+1 else 0
   |_,_=>0
  |.buildSlice _ _ _=>match o.dst with
   |some d=>if C7 d all=true then fN all r+1 else 0
   |none=>0
  |.move _|.load _ _|.nilCheck _|.unOp _ _ _|.convert _ _ _|.fieldAddr _ _ _|.field _ _ _|.extract _ _|.pick _ _ _|.build _ _|.binOp _ _ _ _ _|.indexAddr _ _ _|.index _ _ _|.lookup _ _ _ _|.slice _ _ _ _ _=>fN all r+1
  |.call c=>match c.callee with
   |.value _=>fN all r+1
   |.builtin .len=>fN all r+1
   |.builtin .min=>fN all r+1
   |.builtin .max=>fN all r+1
   |_=>0
  |_=>0
def bU(ops:List Oper):Nat:=fN ops ops
def il(o:Oper)(j:Nat):Bool:=o.after.toList.any fun e=>Region.binds .any e&&e.on==j
def zO(ops:List Oper)(m:Nat):Bool:=
 decide (m≤ops.length)&&
 (List.range ops.length).all (fun i=>match ops[i]?with|some o=>o.after.toList.all fun e=>!Region.binds .any e||decide (e.on<i)|none=>false)&&
 (List.range m).all (fun i => match ops[i]? with
  |some o=>match o.dst with
   |some d=>(List.range i).all fun j=>match(ops[j]?).bind (·.dst)with
    |some dj=>dj !=d&&(!(looks ops o).contains dj||il o j)
    |none=>false
   |none=>false
  |none=>false)&&
 (m==ops.length||(List.range m).all fun i=>(List.range (m+1)).any fun j=>decide (i<j)&&match ops[j]?with|some o=>il o i|none=>false)&&
 (List.range ops.length).all fun k=>!decide (m≤k)||match ops[k+1]?with|some o=>il o k|none=>true
/-! ### The walk of the first operations -/
def Hw:List (Nat×SV)→Nat→Option SV
 |[],_=>none
 |(j,v)::r,s=>if j=s then some v else Hw r s
def dM:List Nat→List (Nat×SV)→List (Nat×SV)→List (Nat×SV)
 |[],_,base=>base
 |s::L,acc,base=>match Hw acc s with
  |some v=>(s,v)::dM L acc base
  |none=>dM L acc base
def vv(ds:List Nat):Pos→Bool
 |.slot s=>ds.contains s
 |.cell _ _=>false
def kq(q:Pos→Bool):SV→SV
 |.own _ _ _=>.pv .bot
 |.omap _ _=>.pv .bot
 |.pv x=>.pv x
 |.opt c x=>cb q (.opt c x)
 |.al p=>cb q (.al p)
 |.loc p lo hi=>cb q (.loc p lo hi)
 |.sptr p i k=>cb q (.sptr p i k)
 |.agl xs=>cb q (.agl xs)
theorem qn(q:Pos→Bool)(x:SV):(kq q x).isOwn=false∧(kq q x=.pv .bot∨(kq q x=x∧x.avoids q)):=by
 cases x with
 |own _ _ _=>exact⟨rfl,.inl rfl⟩
 |omap _ _=>exact⟨rfl,.inl rfl⟩
 |pv x=>exact⟨rfl,.inr ⟨rfl,trivial⟩⟩
 |opt c y=>
  refine⟨?_,a8 q (.opt c y)⟩;cases h:(kq q (.opt c y)).isOwn with
  |false=>rfl
  |true=>simp only[kq]at h;have:=dH h;rw[this]at h;cases h
 |al p=>
  refine⟨?_,a8 q (.al p)⟩;cases h:(kq q (.al p)).isOwn with
  |false=>rfl
  |true=>simp only[kq]at h;have:=dH h;rw[this]at h;cases h
 |loc p lo hi=>
  refine⟨?_,a8 q (.loc p lo hi)⟩;cases h:(kq q (.loc p lo hi)).isOwn with
  |false=>rfl
  |true=>simp only[kq]at h;have:=dH h;rw[this]at h;cases h
 |sptr p lo hi=>
  refine⟨?_,a8 q (.sptr p lo hi)⟩;cases h:(kq q (.sptr p lo hi)).isOwn with
  |false=>rfl
  |true=>simp only[kq]at h;have:=dH h;rw[this]at h;cases h
 |agl xs=>
  refine⟨?_,a8 q (.agl xs)⟩;cases h:(kq q (.agl xs)).isOwn with
  |false=>rfl
  |true=>simp only[kq]at h;have:=dH h;rw[this]at h;cases h
def bots(ds:List Nat):List (Nat×SV)→List (Nat×SV)
 |[]=>[]
 |(s,v)::t=>if jU ds s=true then bots ds t else(s,v)::bots ds t
def QG(P:Program)(ops:List Oper)(st:St)(o:Oper)(r:SV):Prop:=
 match o.guard with
 |none=>QE P st o.op r
 |some (j,want)=>match gF ops j with
  |some d=>match sC st d want with
   |some Gd=>∃r0,r=.opt Gd r0∧(Gd→QE P st o.op r0)
   |none=>False
  |none=>False
def HG(P:Program)(ops:List Oper)(st:St)(o:Oper)(r:SV):Prop:=
 match iF o with
 |some _=>o.guard=none∧r=.pv .bot
 |none=>QG P ops st o r
def bs(P:Program)(f:FuncId)(pa:List PV)(d:Nat)(acc:List (Nat×SV))(k:List (Nat×SV)→Prop):Prop:=
 ∃r,ao P f pa (fun r'=>r'=r)∧r.nwS∧k ((d,.pv (qj r))::acc)
def dN(P:Program)(Gd:Prop)(f:FuncId)(pa:List PV)(q:Pos→Bool)(d:Nat)(acc:List (Nat×SV))(k:List (Nat×SV)→Prop):Prop:=
 ∃r,(Gd→ao P f pa (fun r'=>r'=r))∧r.nwS∧k ((d,kq q (.opt Gd (.pv (qj r))))::acc)
theorem bs.intro{P:Program}{f:FuncId}{pa:List PV}{d:Nat}{acc:List (Nat×SV)}{k:List (Nat×SV)→Prop}{r:SV}(h:ao P f pa (fun r'=>r'=r))(hn:r.nwS)(hK:k ((d,.pv (qj r))::acc)):bs P f pa d acc k:=⟨r,h,hn,hK⟩
theorem dN.intro{P:Program}{Gd:Prop}{f:FuncId}{pa:List PV}{q:Pos→Bool}{d:Nat}{acc:List (Nat×SV)}{k:List (Nat×SV)→Prop}{r:SV}(h:Gd→ao P f pa (fun r'=>r'=r))(hn:r.nwS)(hK:k ((d,kq q (.opt Gd (.pv (qj r))))::acc)):dN P Gd f pa q d acc k:=⟨r,h,hn,hK⟩
def t7(P:Program)(st:St)(x:Operand)(args:Array Operand)(d:Nat)(acc:List (Nat×SV))(k:List (Nat×SV)→Prop):Prop:=
 match bv st x with
 |some (f,p,q)=>gc st x∧iL st args.toList∧bs P f (pM st args p q) d acc k
 |none=>False
def zP(P:Program)(st:St)(Gd:Prop)(x:Operand)(args:Array Operand)(qq:Pos→Bool)(d:Nat)(acc:List (Nat×SV))(k:List (Nat×SV)→Prop):Prop:=
 match bv st x with
 |some (f,p,q)=>(Gd→gc st x∧iL st args.toList)∧dN P Gd f (pM st args p q) qq d acc k
 |none=>False
theorem Bk{P:Program}{st:St}{c:Call}{x:Operand}{d:Nat}{acc:List (Nat×SV)}{k:List (Nat×SV)→Prop}(q:Pos→Bool)(hc:c.callee=.value x)(h:t7 P st x c.args d acc k):∃r,QE P st (.call c) r∧k ((d,kq q r)::acc):=by
 unfold t7 at h;split at h
 ·rename_i f p q' hce;obtain⟨h0,h1,r,h2,h3,h4⟩:=h;refine⟨.pv (qj r),?_,h4⟩;simp only[QE,hc,hce];exact⟨h0,h1,_,h2,fun r' hr'=>by subst hr';exact⟨h3,rfl⟩⟩
 ·exact h.elim
theorem C8{P:Program}{st:St}{Gd:Prop}{c:Call}{x:Operand}{q:Pos→Bool}{d:Nat}{acc:List (Nat×SV)}{k:List (Nat×SV)→Prop}(hc:c.callee=.value x)(h:zP P st Gd x c.args q d acc k):∃r,(Gd→QE P st (.call c) r)∧k ((d,kq q (.opt Gd r))::acc):=by
 unfold zP at h;split at h
 ·rename_i f p q' hce;obtain⟨h1,r,h2,h3,h4⟩:=h;refine⟨.pv (qj r),fun hg=>?_,h4⟩;simp only[QE,hc,hce];exact⟨(h1 hg).1,(h1 hg).2,_,h2 hg,fun r' hr'=>by subst hr';exact⟨h3,rfl⟩⟩
 ·exact h.elim
def Lo(P:Program)(ops:List Oper)(q:Pos→Bool)(base:St)(o:Oper)(k:List (Nat×SV)→Prop)(acc:List (Nat×SV)):Prop:=
  match o.dst with
    |none=>False
    |some d=>match iF o with
     |some _=>o.guard=none∧k ((d,.pv .bot)::acc)
     |none=>match o.guard with
      |none=>match o.op with
        |.call c=>match c.callee with
          |.value x=>t7 P ⟨dM (looks ops o) acc base.t,base.h⟩ x c.args d acc k
          |_=>(oh P ⟨dM (looks ops o) acc base.t,base.h⟩ (.call c)).2∧k ((d,kq q (oh P ⟨dM (looks ops o) acc base.t,base.h⟩ (.call c)).1)::acc)
        |op=>(oh P ⟨dM (looks ops o) acc base.t,base.h⟩ op).2∧k ((d,kq q (oh P ⟨dM (looks ops o) acc base.t,base.h⟩ op).1)::acc)
      |some (j,want)=>match gF ops j with
        |some dj=>match sC ⟨dM (looks ops o) acc base.t,base.h⟩ dj want with
          |some Gd=>match o.op with
            |.call c=>match c.callee with
              |.value x=>zP P ⟨dM (looks ops o) acc base.t,base.h⟩ Gd x c.args q d acc k
              |_=>(Gd→(oh P ⟨dM (looks ops o) acc base.t,base.h⟩ (.call c)).2)∧k ((d,kq q (.opt Gd (oh P ⟨dM (looks ops o) acc base.t,base.h⟩ (.call c)).1))::acc)
            |op=>(Gd→(oh P ⟨dM (looks ops o) acc base.t,base.h⟩ op).2)∧k ((d,kq q (.opt Gd (oh P ⟨dM (looks ops o) acc base.t,base.h⟩ op).1))::acc)
          |none=>False
        |none=>False
def AQ(P:Program)(ops:List Oper)(q:Pos→Bool)(base:St)(K:List (Nat×SV)→Prop):List Oper→List (Nat×SV)→Prop
 |[],acc=>K acc
 |o::rest,acc=>Lo P ops q base o (AQ P ops q base K rest) acc
def dstsOf(l:List Oper):List Nat:=l.filterMap (·.dst)
def xW(P:Program)(ops:List Oper)(K:St→Prop)(base:St)(acc:List (Nat×SV)):Prop:=
 Bi P (iM P ops K (ops.drop (bU ops))) (ops.take (bU ops)) ⟨acc++base.t,base.h⟩
def vx(P:Program)(ops:List Oper)(K:St→Prop)(st:St):Prop:=
 AQ P ops (vv (dstsOf (ops.take (bU ops)))) ⟨bots (dstsOf (ops.take (bU ops))) (aA (vv (dstsOf (ops.take (bU ops)))) st.t),st.h⟩
  (xW P ops K ⟨bots (dstsOf (ops.take (bU ops))) (aA (vv (dstsOf (ops.take (bU ops)))) st.t),st.h⟩) (ops.take (bU ops)) []
theorem Ge{P:Program}{ops:List Oper}{q:Pos→Bool}{base:St}{K:List (Nat×SV)→Prop}{o:Oper}{rest:List Oper}{acc:List (Nat×SV)}(h:AQ P ops q base K (o::rest) acc):
 ∃d r,o.dst=some d∧HG P ops ⟨dM (looks ops o) acc base.t,base.h⟩ o r∧AQ P ops q base K rest ((d,kq q r)::acc):=by
 unfold AQ Lo at h;split at h
 ·exact h.elim
 ·rename_i d hd;generalize hst:(⟨dM (looks ops o) acc base.t,base.h⟩:St)=rst at h⊢;split at h
  ·rename_i hal;exact⟨d,.pv .bot,hd,by simp only[HG,hal];exact⟨h.1,trivial⟩,h.2⟩
  rename_i hal;simp only[HG,hal];split at h
  ·rename_i hg;simp only[QG,hg];split at h
   ·rename_i c hop;split at h
    ·rename_i x hx;obtain⟨r,h1,h2⟩:=Bk q hx h;exact⟨d,r,hd,by rw[hop];exact h1,h2⟩
    ·rename_i hn;exact⟨d,_,hd,by rw[hop];exact lE (fun c' x hc hx=>by cases hc;exact hn x hx) h.1,h.2⟩
   ·rename_i hn;exact⟨d,_,hd,lE (fun c' x hc _=>hn c' hc) h.1,h.2⟩
  ·rename_i j want hg;split at h
   ·rename_i dj hgs;split at h
    ·rename_i Gd hc;simp only[QG,hg,hgs,hc];split at h
     ·rename_i c hop;split at h
      ·rename_i x hx;obtain⟨r,h1,h2⟩:=C8 hx h;exact⟨d,_,hd,⟨r,rfl,by rw[hop];exact h1⟩,h2⟩
      ·rename_i hn;exact⟨d,_,hd,⟨_,rfl,fun hG=>by rw[hop];exact lE (fun c' x hc hx=>by cases hc;exact hn x hx) (h.1 hG)⟩,h.2⟩
     ·rename_i hn;exact⟨d,_,hd,⟨_,rfl,fun hG=>lE (fun c' x hc _=>hn c' hc) (h.1 hG)⟩,h.2⟩
    ·exact h.elim
   ·exact h.elim
theorem C9{P:Program}{ops:List Oper}{q:Pos→Bool}{base:St}{K:List (Nat×SV)→Prop}:∀(l:List Oper)(acc:List (Nat×SV)),AQ P ops q base K l acc→
 ∃E:List (Nat×SV),E.length=l.length∧K (E.reverse++acc)∧∀i o,l[i]?=some o→∃d r,o.dst=some d∧E[i]?=some (d,kq q r)∧HG P ops ⟨dM (looks ops o) ((E.take i).reverse++acc) base.t,base.h⟩ o r
 |[],acc,h=>⟨[],rfl,h,fun i o ho=>by simp at ho⟩
 |o::rest,acc,h=>by
  obtain⟨d,r,hd,hq,hr⟩:=Ge h;obtain⟨E,h1,h2,h3⟩:=C9 rest _ hr;refine⟨(d,kq q r)::E,by simp[h1],by simpa using h2,fun i o' ho=>?_⟩;cases i with
  |zero=>simp at ho;subst ho;exact⟨d,r,hd,rfl,by simpa using hq⟩
  |succ i=>
   obtain⟨d',r',e1,e2,e3⟩:=h3 i o' (by simpa using ho);exact⟨d',r',e1,by simpa using e2,by simpa using e3⟩
theorem JN{P:Program}{ops:Array Oper}{st:St}(o:Oper){r:SV}(h:QG P ops.toList st o r){g:Gh}{a:Act}{w:World}(hs:Sim g st a w){K':Act→World→Prop}{Q:Exit→Act→World→Prop}
 (hK:∀v J w2,(∀c o,g.I c=some o→J c=some o)→(∀g3 st3,g3.I=g.I→Sim g3 st3 a w→Sim {g3 with I:=J} st3 a w2∧g3.to {g3 with I:=J})→av {g with I:=J} w2 r v none→bN {g with I:=J} st a w2 r v→K' (a.put o.dst v) w2):
 if Region.wanted o (yielded ops a.tmps)=true then o.wp P a w K' Q else K' (a.put o.dst undef) w:=by
 unfold QG at h;split at h
 ·rename_i hg;rw[if_pos (by simp[Region.wanted,hg])];exact C3 o h hs hK
 ·rename_i j want hg;split at h
  ·rename_i d hgs;split at h
   ·rename_i Gd hc;obtain⟨r0,rfl,h⟩:=h;have hw:=mC hs hg hgs hc;split
    ·rename_i hh;have hG:=hw.1 hh;exact C3 o (h hG) hs fun v J w2 t2 s2 f2 a2=>hK v J w2 t2 s2 (av.opt hG f2) (fun _=>a2)
    ·rename_i hh;have hG:¬Gd:=fun hG=>hh (hw.2 hG);exact hK undef g.I w (fun _ _ h=>h) (fun g3 st3 h3 hs3=>by rw[←h3];exact⟨hs3,hs3.refl_to⟩) (av.undef hG r0) (fun hc=>absurd hc hG)
   ·exact h.elim
  ·exact h.elim
theorem vy{s:Nat}{v:SV}:∀(acc base:List (Nat×SV)),Hw acc s=some v→look (acc++base) s=v
 |[],_,h=>by cases h
 |(j,x)::r,base,h=>by
  simp only[Hw]at h;simp only[List.cons_append,look];split at h
  ·rename_i e;rw[if_pos e];cases h;rfl
  ·rename_i e;rw[if_neg e];exact vy r base h
theorem vz{s:Nat}:∀(acc base:List (Nat×SV)),Hw acc s=none→look (acc++base) s=look base s
 |[],_,_=>rfl
 |(j,x)::r,base,h=>by
  simp only[Hw]at h;simp only[List.cons_append,look];split at h
  ·cases h
  ·rename_i e;rw[if_neg e];exact vz r base h
theorem mD:∀(L:List Nat)(acc base:List (Nat×SV))(s:Nat),look (dM L acc base) s=if L.contains s=true then look (acc++base) s else look base s
 |[],acc,base,s=>by simp[dM]
 |j::L,acc,base,s=>by
  have ih:=mD L acc base s;have hc:(j::L).contains s=true↔s=j∨L.contains s=true:=by simp
  simp only[dM];cases hf:Hw acc j with
  |some v=>
   simp only[look]
   by_cases h:j=s
   ·subst h;rw[if_pos rfl,if_pos (hc.2 (.inl rfl)),vy acc base hf]
   ·rw[if_neg h,ih]
    by_cases h2:L.contains s=true
    ·rw[if_pos h2,if_pos (hc.2 (.inr h2))]
    ·rw[if_neg h2,if_neg (fun hh=>(hc.1 hh).elim (fun e=>h e.symm) h2)]
  |none=>
   simp only[];rw[ih]
   by_cases h:j=s
   ·subst h;rw[if_pos (hc.2 (.inl rfl)),vz acc base hf,ite_self]
   ·by_cases h2:L.contains s=true
    ·rw[if_pos h2,if_pos (hc.2 (.inr h2))]
    ·rw[if_neg h2,if_neg (fun hh=>(hc.1 hh).elim (fun e=>h e.symm) h2)]
theorem lF(ds:List Nat):∀(t:List (Nat×SV))(s:Nat),look (bots ds t) s=if s∈ds then .pv .bot else look t s
 |[],s=>by simp[bots,look]
 |(j,v)::t,s=>by
  have ih:=lF ds t s;simp only[bots];split
  ·rename_i h;rw[ih];simp only[look]
   by_cases e:j=s
   ·subst e;rw[if_pos ((nl ds j).1 h),if_pos ((nl ds j).1 h)]
   ·rw[if_neg e]
  ·rename_i h;simp only[look]
   by_cases e:j=s
   ·subst e;rw[if_pos rfl,if_neg (fun hh=>h ((nl ds j).2 hh)),if_pos rfl]
   ·rw[if_neg e,if_neg e,ih]
/-! ### What the check says -/
structure DrawOk (l:List Oper) (m:Nat):Prop where
  le:m≤l.length
  back:∀(i:Nat)(o:Oper),l[i]?=some o→∀e∈o.after,Region.binds .any e=true→e.on<i
  dst:∀(i:Nat)(o:Oper),i<m→l[i]?=some o→∃d,o.dst=some d∧∀(j:Nat)(oj:Oper),j<i→l[j]?=some oj→∃dj,oj.dst=some dj∧dj≠d∧(dj∈looks l o→il o j=true)
  up:m<l.length→∀i,i<m→∃j o,i<j∧j≤m∧l[j]?=some o∧il o i=true
  chain:∀(k:Nat)(o:Oper),m≤k→l[k+1]?=some o→il o k=true
theorem Da{l:List Oper}{m:Nat}(h:zO l m=true):DrawOk l m:=by
 simp only[zO,Bool.and_eq_true,List.all_eq_true,List.mem_range,Bool.or_eq_true,decide_eq_true_iff,Bool.not_eq_true',List.any_eq_true,beq_iff_eq]at h;obtain⟨⟨⟨⟨h1,h2⟩,h3⟩,h4⟩,h5⟩:=h;have hlt:∀{i:Nat}{o:Oper},l[i]?=some o→i<l.length:=fun hh=>(List.getElem?_eq_some_iff.1 hh).1;refine⟨h1,fun i o ho e he hb=>?_,fun i o hi ho=>?_,fun hm i hi=>?_,fun k o hk ho=>?_⟩
 ·have:=h2 i (hlt ho);rw[ho]at this;simp only[List.all_eq_true,Bool.or_eq_true,Bool.not_eq_true',decide_eq_true_iff]at this;rcases this e (by simpa using he)with h6|h6
  ·rw[h6]at hb;cases hb
  ·exact h6
 ·have:=h3 i hi;rw[ho]at this;simp only at this;split at this
  ·rename_i d hd;refine⟨d,hd,fun j oj hj hoj=>?_⟩;simp only[List.all_eq_true,List.mem_range]at this;have h6:=this j hj;rw[hoj]at h6;simp only[Option.bind_some]at h6;split at h6
   ·rename_i dj hdj;simp only[Bool.and_eq_true,bne_iff_ne,Bool.or_eq_true,Bool.not_eq_true',List.contains_eq_mem,decide_eq_false_iff_not]at h6;exact⟨dj,hdj,h6.1,fun hm=>h6.2.resolve_left (fun hn=>hn hm)⟩
   ·cases h6
  ·cases this
 ·rcases h4 with h4|h4
  ·omega
  ·obtain⟨j,hj1,hj2,hj3⟩:=h4 i hi;split at hj3
   ·rename_i o ho;exact⟨j,o,hj2,by omega,ho,hj3⟩
   ·cases hj3
 ·rcases h5 k (by have:=hlt ho;omega)with h6|h6
  ·have h7:=of_decide_eq_false h6;omega
  ·rw[ho]at h6;exact h6
theorem im{o:Oper}{j:Nat}:il o j=true↔∃e∈o.after,Region.binds .any e=true∧e.on=j:=by
 simp only[il,List.any_eq_true,Bool.and_eq_true,beq_iff_eq];constructor
 ·rintro⟨e,h1,h2⟩;exact⟨e,by simpa using h1,h2⟩
 ·rintro⟨e,h1,h2⟩;exact⟨e,by simpa using h1,h2⟩
/-! ### How many are to come -/
def jV:List Bool→Nat
 |[]=>0
 |true::r=>jV r
 |false::r=>jV r+1
theorem vA:∀(l:List Bool)(i:Nat),l[i]?=some false→jV (l.set i true)+1=jV l
 |[],i,h=>by simp at h
 |b::r,0,h=>by simp at h;subst h;rfl
 |b::r,i+1,h=>by
  have:=vA r i (by simpa using h);cases b<;>simp[jV,this]
theorem vB:∀(l:List Bool),0<jV l→∃i:Nat,l[i]?=some false∧∀j<i,l[j]?=some true
 |[],h=>by simp[jV]at h
 |false::r,_=>⟨0,rfl,fun j hj=>by omega⟩
 |true::r,h=>by
  obtain⟨i,h1,h2⟩:=vB r (by simpa[jV]using h);refine⟨i+1,by simpa using h1,fun j hj=>?_⟩;cases j with
  |zero=>rfl
  |succ j=>simpa using h2 j (by omega)
theorem sE:∀(l:List Bool),jV l=0→∀i:Nat,i<l.length→l[i]?=some true
 |[],_,i,hi=>by simp at hi
 |false::r,h,_,_=>by simp[jV]at h
 |true::r,h,0,_=>rfl
 |true::r,h,i+1,hi=>by simpa using sE r (by simpa[jV]using h) i (by simpa using hi)
theorem ku:∀n,jV (List.replicate n false)=n
 |0=>rfl
 |n+1=>by simp[List.replicate_succ,jV,ku n]
end Go.AX
namespace Go.AX
theorem eA{s:Nat}{v:SV}:∀(l t:List (Nat×SV)),(l.map (·.1)).Nodup→(s,v)∈l→look (l++t) s=v
 |[],_,_,h=>by simp at h
 |(j,u)::r,t,hn,h=>by
  simp only[List.map_cons,List.nodup_cons]at hn;simp only[List.cons_append,look];rcases List.mem_cons.1 h with e|e
  ·cases e;simp
  ·have:j≠s:=fun e2=>hn.1 (by subst e2;exact List.mem_map.2 ⟨_,e,rfl⟩);rw[if_neg this,eA r t hn.2 e]
theorem bH{s:Nat}:∀(l t:List (Nat×SV)),s∉l.map (·.1)→look (l++t) s=look t s
 |[],_,_=>rfl
 |(j,u)::r,t,h=>by
  simp only[List.map_cons,List.mem_cons,not_or]at h;simp only[List.cons_append,look];rw[if_neg (fun e=>h.1 e.symm),bH r t h.2]
theorem mE:∀(l:List Bool)(k:Nat),k≤l.length→(∀j:Nat,j<k→l[j]?=some true)→(∀j:Nat,k≤j→j<l.length→l[j]?=some false)→k+jV l=l.length
 |[],k,hk,_,_=>by simp at hk;subst hk;rfl
 |b::r,0,_,_,h2=>by
  have:=h2 0 (Nat.le_refl _) (by simp);simp at this;subst this;have:=mE r 0 (Nat.zero_le _) (fun j hj=>by omega) (fun j _ hj=>by simpa using h2 (j+1) (by omega) (by simpa using hj));simp[jV];omega
 |b::r,k+1,hk,h1,h2=>by
  have:=h1 0 (by omega);simp at this;subst this;have:=mE r k (by simpa using hk) (fun j hj=>by simpa using h1 (j+1) (by omega)) (fun j h3 hj=>by simpa using h2 (j+1) (by omega) (by simpa using hj));simp[jV];omega
structure Inv (E:List (Nat×SV)) (base:List (Nat×SV)) (S:Nat→Bool) (t:List (Nat×SV)):Prop where
  on:∀(i:Nat)(d:Nat)(v:SV),E[i]?=some (d,v)→look t d=if S i=true then v else .pv .bot
  off:∀s,s∉E.map (·.1)→look t s=look base s
theorem vC{P:Program}{ops:Array Oper}{m:Nat}(hB:DrawOk ops.toList m){Q:Exit→Act→World→Prop}{K:St→Prop}:∀(rest:List Oper)(k fuel:Nat)(listed:Array Bool)(st:St)(g:Gh)(a:Act)(w:World),
 rest=ops.toList.drop k→m≤k→k+fuel=ops.size→listed.size=ops.size→(∀j,j<k→listed[j]?=some true)→(∀j,k≤j→j<ops.size→listed[j]?=some false)→
 iM P ops.toList K rest st→Sim g st a w→cg g.N ops.toList=true→(∀st' g' a' w',K st'→g.to g'→Sim g' st' a' w'→Q .normal a' w')→wpAny P .any ops Q fuel listed a w
 |rest,k,0,listed,st,g,a,w,hr,hm,hf,hsz,h1,h2,hA,hs,hd,hQ=>by
  have hnil:rest=[]:=by rw[hr];apply List.drop_eq_nil_of_le;simp;omega
  subst hnil;refine⟨?_,hQ st g a w hA hs.refl_to hs⟩;rw[List.eq_nil_iff_forall_not_mem];intro i hi;obtain⟨h3,o,ho,_⟩:=mem_ready.1 hi;have hlt:=(Array.getElem?_eq_some_iff.1 ho).1;have:=h1 i (by omega);simp[this]at h3
 |[],k,fuel+1,listed,st,g,a,w,hr,hm,hf,hsz,h1,h2,hA,hs,hd,hQ=>by
  have:=List.drop_eq_nil_iff.1 hr.symm;simp at this;omega
 |o::rest,k,fuel+1,listed,st,g,a,w,hr,hm,hf,hsz,h1,h2,hA,hs,hd,hQ=>by
  have hk:k<ops.size:=by omega
  have hdrop:=List.drop_eq_getElem_cons (l:=ops.toList) (i:=k) (by simpa using hk);rw[←hr]at hdrop;simp only[List.cons.injEq]at hdrop;have hok:ops[k]?=some o:=by rw[hdrop.1];simp[hk]
  have hmem:o∈ops.toList:=by rw[hdrop.1];exact List.getElem_mem _
  have hdo:bR g.N o.dst:=by
   have:=List.all_eq_true.1 hd o hmem;unfold bR;split
   ·rename_i d hdd;rw[hdd]at this;simpa using this
   ·trivial
  have hready:k∈Region.ready .any ops listed:=by
   rw[mem_ready];refine⟨by simp[h2 k (Nat.le_refl _) hk],o,hok,fun e he hb=>?_⟩;have:=hB.back k o (by simpa using hok) e he hb;simp[h1 _ this]
  refine⟨fun hn=>(by rw[hn]at hready;cases hready),fun i hi=>?_⟩;have hik:i=k:=by
   obtain⟨h3,o',ho',hall⟩:=mem_ready.1 hi;have hlt:=(Array.getElem?_eq_some_iff.1 ho').1;have hge:k≤i:=by
    apply Nat.le_of_not_lt;intro hl;simp[h1 i hl]at h3
   apply Nat.le_antisymm _ hge;apply Nat.le_of_not_lt;intro hl;obtain⟨e,he,hb,hon⟩:=im.1 (hB.chain (i -1) o' (by omega) (by rw[Nat.sub_add_cancel (by omega)];simpa using ho'));have:=hall e he hb;rw[hon,Array.getD_eq_getD_getElem?,h2 (i -1) (by omega) (by omega)]at this;cases this
  subst hik;unfold wpOp;rw[hok];simp only[iM]at hA;have:=ko (ops:=ops) o hA hs hdo (Q:=Q) (K':=wpAny P .any ops Q fuel (listed.setIfInBounds i true))
   (fun st' g' a' w' hk' t' s' => vC hB rest (i + 1) fuel _ st' g' a' w' hdrop.2 (by omega) (by omega) (by simp [hsz])
    (fun j hj => by
     rw[Array.getElem?_setIfInBounds];split
     ·rename_i e;rw[if_pos (by rw[hsz];omega)]
     ·exact h1 j (by omega))
    (fun j hj hj2 => by
     rw[Array.getElem?_setIfInBounds,if_neg (by omega)];exact h2 j (by omega) hj2)
    hk' s' (by rw[t'.N];exact hd) (fun st2 g2 a2 w2 k2 t2 s2=>hQ st2 g2 a2 w2 k2 (t'.trans t2) s2))
  simp only;split
  ·rename_i hw;rw[if_pos hw]at this;exact .inl this
  ·rename_i hw;rw[if_neg hw]at this;exact this
theorem l7{α:Type}{l:List α}(h:l.Nodup):l.reverse.Nodup:=by
 unfold List.Nodup at*;rw[List.pairwise_reverse];exact h.imp (fun hab e=>hab e.symm)
theorem oP{α:Type}{l:List α}(h:l.Nodup){i j:Nat}{x:α}(hi:l[i]?=some x)(hj:l[j]?=some x):i=j:=by
 obtain⟨h1,h2⟩:=List.getElem?_eq_some_iff.1 hi;obtain⟨h3,h4⟩:=List.getElem?_eq_some_iff.1 hj;unfold List.Nodup at h;rw[List.pairwise_iff_getElem]at h;rcases Nat.lt_trichotomy i j with hlt|heq|hgt
 ·exact absurd (h2.trans h4.symm) (h i j h1 h3 hlt)
 ·exact heq
 ·exact absurd (h4.trans h2.symm) (h j i h3 h1 hgt)
theorem Db{P:Program}{ops:Array Oper}{m:Nat}(hB:DrawOk ops.toList m){Q:Exit→Act→World→Prop}{K:St→Prop}{base:St}{E:List (Nat×SV)}{q:Pos→Bool}
 (hEl:E.length=m) (hEn:(E.map (·.1)).Nodup) (hq:∀s,q (.slot s)=true↔s∈E.map (·.1)) (hbase:∀s,s∈E.map (·.1)→look base.t s=.pv .bot)
 (hE:∀i o,i<m→ops[i]?=some o→∃d r,o.dst=some d∧E[i]?=some (d,kq q r)∧HG P ops.toList ⟨dM (looks ops.toList o) (E.take i).reverse base.t,base.h⟩ o r)
 (hA:Bi P (iM P ops.toList K (ops.toList.drop m)) (ops.toList.take m) ⟨E.reverse++base.t,base.h⟩) {g0:Gh} (hQ:∀st' g' a' w',K st'→g0.to g'→Sim g' st' a' w'→Q .normal a' w'):
 ∀(fuel:Nat)(listed:Array Bool)(t:List (Nat×SV))(cf:Nat→Option (Nat×Array Value×TypeId))(g:Gh)(a:Act)(w:World),Out g0 g a cf→(∀(i:Nat)(o:Oper) d t,listed[i]?=some true→ops[i]?=some o→iF o=some (d,t)→∃c z,cf d=some (c,z,t)∧zeroOf P t z)→(∀d,cf d≠none→∃(i:Nat)(o:Oper),∃t,listed[i]?=some true∧ops[i]?=some o∧iF o=some (d,t))→listed.size=ops.size→jV listed.toList=fuel→(∀i:Nat,listed[i]?=some true→i<m)→
  (∀(i:Nat)(o:Oper),listed[i]?=some true→ops[i]?=some o→∀e∈o.after,Region.binds .any e=true→listed[e.on]?=some true)→Inv E base.t (fun i=>listed.getD i false) t→Sim g ⟨t,base.h⟩ a w→
  cg g.N ops.toList=true→wpAny P .any ops Q fuel listed a w:=by
 have hml:m≤ops.size:=by simpa using hB.le
 have hall:∀{listed:Array Bool}{t:List (Nat×SV)},(∀i,i<m→listed[i]?=some true)→Inv E base.t (fun i=>listed.getD i false) t→∀s,look (E.reverse++base.t) s=look t s:=by
  intro listed t hl hI s;have hn:((E.reverse).map (·.1)).Nodup:=by rw[List.map_reverse];exact l7 hEn
  by_cases hm:s∈E.map (·.1)
  ·obtain⟨p,hp,he⟩:=List.mem_map.1 hm;obtain⟨d,v⟩:=p;simp only at he;subst he;rw[eA _ _ hn (List.mem_reverse.2 hp)];obtain⟨i,hi⟩:=List.mem_iff_getElem?.1 hp;have:=hI.on i d v hi;rw[this];have hlt:i<m:=by rw[←hEl];exact(List.getElem?_eq_some_iff.1 hi).1
   simp[hl i hlt]
  ·rw[bH _ _ (by rw[List.map_reverse,List.mem_reverse];exact hm)];exact(hI.off s hm).symm
 have halm:∀{o:Oper}{d:Nat}{t:TypeId},iF o=some (d,t)→o.dst=some d:=fun h=>C5 h;have hnd:(((ops.toList.take m).filterMap iF).map (·.1)).Nodup:=by
  unfold List.Nodup;rw[List.pairwise_map,List.pairwise_filterMap,List.pairwise_iff_getElem];intro i j hi hj hij p hp p' hp';have hi':i<m:=by simp at hi;omega
  have hj':j<m:=by simp at hj;omega
  obtain⟨d,h1,h2⟩:=hB.dst j _ hj' (by rw[←List.getElem?_take_of_lt hj'];exact List.getElem?_eq_getElem hj);obtain⟨d',h3,h4,_⟩:=h2 i _ hij (by rw[←List.getElem?_take_of_lt hi'];exact List.getElem?_eq_getElem hi);rw[halm hp']at h1;cases h1;rw[halm hp]at h3;cases h3;exact h4
 have hfin:∀{listed:Array Bool}{t:List (Nat×SV)}{cf:Nat→Option (Nat×Array Value×TypeId)}{g:Gh}{a:Act}{w:World},Out g0 g a cf→(∀(i:Nat)(o:Oper) d t,listed[i]?=some true→ops[i]?=some o→iF o=some (d,t)→∃c z,cf d=some (c,z,t)∧zeroOf P t z)→(∀d,cf d≠none→∃(i:Nat)(o:Oper),∃t,listed[i]?=some true∧ops[i]?=some o∧iF o=some (d,t))→
  (∀i,i<m→listed[i]?=some true)→(∀i:Nat,listed[i]?=some true→i<m)→Inv E base.t (fun i=>listed.getD i false) t→Sim g ⟨t,base.h⟩ a w→cg g.N ops.toList=true→∃g' st',iM P ops.toList K (ops.toList.drop m) st'∧g0.to g'∧Sim g' st' a w:=by
  intro listed t cf g a w hout hon hcov hl hlm hI hs hd;refine xU (ops.toList.take m) ⟨E.reverse++base.t,base.h⟩ g cf hout (hs.same rfl (hall hl hI)) (fun o ho d t hal=>?_) (fun d hd'=>?_) hnd hA
  ·obtain⟨i,hi⟩:=List.mem_iff_getElem?.1 ho;have him:i<m:=by have:=(List.getElem?_eq_some_iff.1 hi).1;simp at this;omega
   rw[List.getElem?_take_of_lt him]at hi;refine⟨?_,hon i o d t (hl i him) (by simpa using hi) hal⟩;have:=List.all_eq_true.1 hd o (List.mem_of_getElem? hi);rw[halm hal]at this;simpa using this
  ·obtain⟨i,o,t,h1,h2,h3⟩:=hcov d hd';refine⟨o,?_,t,h3⟩;have:=hlm i h1;exact List.mem_of_getElem? (i:=i) (by rw[List.getElem?_take_of_lt this];simpa using h2)
 intro fuel
 induction fuel with
 |zero=>
  intro listed t cf g a w hout hon hcov hsz hcnt hlm hdc hI hs hd;have hl:∀i,i<ops.size→listed[i]?=some true:=fun i hi=>by
   have:=sE _ hcnt i (by simpa[hsz]using hi);simpa using this
  have hmn:m=ops.size:=by
   apply Nat.le_antisymm hml;apply Nat.le_of_not_lt;intro hlt;have:=hlm m (hl m hlt);omega
  obtain⟨g',st',hk,ht,hs2⟩:=hfin hout hon hcov (fun i hi=>hl i (by omega)) hlm hI hs hd;rw[hmn,show ops.toList.drop ops.size=[]from by apply List.drop_eq_nil_of_le;simp]at hk;refine⟨?_,hQ _ g' a w hk ht hs2⟩;rw[List.eq_nil_iff_forall_not_mem];intro i hi;obtain⟨h3,o,ho,_⟩:=mem_ready.1 hi;have hlt:=(Array.getElem?_eq_some_iff.1 ho).1;simp[hl i hlt]at h3
 |succ fuel ih=>
  intro listed t cf g a w hout hon hcov hsz hcnt hlm hdc hI hs hd;refine⟨fun hn=>?_,fun i hi=>?_⟩
  ·exfalso;obtain⟨i,hi1,hi2⟩:=vB listed.toList (by omega);have hil:i<ops.size:=by rw[←hsz];simpa using(List.getElem?_eq_some_iff.1 hi1).1
   have:i∈Region.ready .any ops listed:=by
    rw[mem_ready];refine⟨by rw[Array.getElem?_toList]at hi1;simp[hi1],ops[i],by simp[hil],fun e he hb=>?_⟩;have h5:=hB.back i ops[i] (by simp[hil]) e he hb;have h6:=hi2 _ h5;rw[Array.getElem?_toList]at h6;simp[h6]
   rw[hn]at this;cases this
  ·obtain⟨h3,o,ho,hdeps⟩:=mem_ready.1 hi;have hil:=(Array.getElem?_eq_some_iff.1 ho).1;have hif:listed[i]?=some false:=by
    have:i<listed.size:=by rw[hsz];exact hil
    simp only[Array.getD_eq_getD_getElem?,Array.getElem?_eq_getElem this,Option.getD_some]at h3;rw[Array.getElem?_eq_getElem this,h3]
   have hdeps':∀e∈o.after,Region.binds .any e=true→listed[e.on]?=some true:=fun e he hb=>by
    have:=hdeps e he hb;rw[Array.getD_eq_getD_getElem?]at this;cases h5:listed[e.on]?with
    |none=>rw[h5]at this;cases this
    |some b=>rw[h5]at this;simp at this;rw[this]
   have hcnt':jV (listed.setIfInBounds i true).toList=fuel:=by
    have:=vA listed.toList i (by simpa using hif);rw[Array.toList_setIfInBounds];omega
   have hset:∀j,(listed.setIfInBounds i true)[j]?=if i=j then some true else listed[j]?:=fun j=>by
    rw[Array.getElem?_setIfInBounds];split
    ·rename_i e;rw[if_pos (by rw[hsz];exact hil)]
    ·rfl
   by_cases him:i<m
   ·obtain⟨d,r,hdst,hEi,hQG⟩:=hE i o him ho;have hdm:d∈E.map (·.1):=List.mem_map.2 ⟨_,List.mem_of_getElem? hEi,rfl⟩;obtain⟨d',hd',hprev⟩:=hB.dst i o him (by simpa using ho);rw[hdst]at hd';cases hd';have hR:∀s,look (dM (looks ops.toList o) (E.take i).reverse base.t) s=look t s∨look (dM (looks ops.toList o) (E.take i).reverse base.t) s=.pv .bot:=by
     intro s;rw[mD]
     by_cases hm:s∈E.map (·.1)
     ·split
      ·rename_i hL;have hn:(((E.take i).reverse).map (·.1)).Nodup:=by
        rw[List.map_reverse];exact l7 (hEn.sublist ((List.take_sublist i E).map _))
       by_cases hm2:s∈(E.take i).reverse.map (·.1)
       ·obtain⟨p,hp,he⟩:=List.mem_map.1 hm2;obtain⟨s',v⟩:=p;simp only at he;subst he;rw[eA _ _ hn hp];rw[List.mem_reverse]at hp;obtain⟨j,hj⟩:=List.mem_iff_getElem?.1 hp;rw[List.getElem?_take]at hj;split at hj
        ·rename_i hji;obtain⟨oj,hoj⟩:∃oj,ops[j]?=some oj:=⟨ops[j]'(by omega),by simp[show j<ops.size by omega]⟩;obtain⟨dj,hdj,_,hlk⟩:=hprev j oj hji (by simpa using hoj);obtain⟨dj',rj,e1,e2,_⟩:=hE j oj (by omega) hoj;rw[hdj]at e1;cases e1;rw[hj]at e2;cases e2;have hlk':=hlk (by simpa using hL);obtain⟨e,he,hb,hon⟩:=im.1 hlk';have hlj:=hdeps' e he hb;rw[hon]at hlj;left;rw[hI.on j _ _ hj];simp[hlj]
        ·cases hj
       ·right;rw[bH _ _ hm2];exact hbase s hm
      ·right;exact hbase s hm
     ·left;rw[hI.off s hm];split
      ·apply bH;intro hc;apply hm;rw[List.map_reverse,List.mem_reverse]at hc;obtain⟨p,hp,he⟩:=List.mem_map.1 hc;exact List.mem_map.2 ⟨p,List.mem_of_mem_take hp,he⟩
      ·rfl
    have hsR:=hs.weak (st':=⟨dM (looks ops.toList o) (E.take i).reverse base.t,base.h⟩) rfl hR;have hdo:d<g.N:=by
     have:=List.all_eq_true.1 hd o (by rw[←Array.mem_def];exact Array.mem_of_getElem? ho);rw[hdst]at this;simpa using this
    have hnext:∀(g':Gh)(a':Act)(w':World)(cf':Nat→Option (Nat×Array Value×TypeId)),Sim g' ⟨(d,kq q r)::t,base.h⟩ a' w'→Out g0 g' a' cf'→g'.N=g.N→
     (∀(i2:Nat)(o:Oper) d t,(listed.setIfInBounds i true)[i2]?=some true→ops[i2]?=some o→iF o=some (d,t)→∃c z,cf' d=some (c,z,t)∧zeroOf P t z)→
     (∀d,cf' d≠none→∃(i2:Nat)(o:Oper),∃t,(listed.setIfInBounds i true)[i2]?=some true∧ops[i2]?=some o∧iF o=some (d,t))→wpAny P .any ops Q fuel (listed.setIfInBounds i true) a' w':=by
     intro g' a' w' cf' hput hout' hN' hon' hcov';refine ih (listed.setIfInBounds i true) ((d,kq q r)::t) cf' g' a' w' hout' hon' hcov' (by simp[hsz]) hcnt' (fun j hj=>?_) (fun j oj hj hoj e he hb=>?_) ?_ hput (by rw[hN'];exact hd)
     ·rw[hset]at hj;split at hj
      ·rename_i e;omega
      ·exact hlm j hj
     ·rw[hset]at hj⊢;split at hj
      ·rename_i e1;subst e1;rw[ho]at hoj;cases hoj;split
       ·rfl
       ·exact hdeps' e he hb
      ·split
       ·rfl
       ·exact hdc j oj hj hoj e he hb
     ·refine⟨fun j dj vj hj=>?_,fun s hs'=>?_⟩
      ·simp only[look]
       by_cases hji:i=j
       ·subst hji;rw[hEi]at hj;cases hj;simp[hset]
       ·have hne:d≠dj:=by
         intro e1;subst e1;exact hji (oP hEn (x:=d) (by rw[List.getElem?_map,hEi];rfl) (by rw[List.getElem?_map,hj];rfl))
        rw[if_neg hne,hI.on j dj vj hj];simp only[Array.getD_eq_getD_getElem?,hset,if_neg hji]
      ·simp only[look];rw[if_neg (fun e=>hs' (by rw[←e];exact hdm))];exact hI.off s hs'
    have hdfresh:cf d=none:=by
     cases hcd:cf d with
     |none=>rfl
     |some x=>
      obtain⟨j,oj,tj,h1,h2,h3⟩:=hcov d (by rw[hcd];exact fun hh=>by cases hh);have hjm:=hlm j h1;obtain⟨dj,rj,e1,e2,_⟩:=hE j oj hjm h2;rw[halm h3]at e1;cases e1;have:i=j:=oP hEn (x:=d) (by rw[List.getElem?_map,hEi];rfl) (by rw[List.getElem?_map,e2];rfl);subst this;rw[hif]at h1;cases h1
    have hputs:∀(v:Value)(d':Nat),d'≠d→(a.put (some d) v).tmps.getD d' undef=a.tmps.getD d' undef:=fun v d' hne=>by
     simp only[Act.put,Array.getD_eq_getD_getElem?,Array.getElem?_setIfInBounds];rw[if_neg (fun e=>hne e.symm)]
    unfold wpOp;rw[ho];unfold HG at hQG;split at hQG
    ·rename_i p hal;obtain⟨d2,T⟩:=p;obtain⟨hgd,hr⟩:=hQG;subst hr;have hd2:=halm hal;rw[hdst]at hd2;cases hd2;have hmem:o∈ops.toList.take m:=List.mem_of_getElem? (i:=i) (by rw[List.getElem?_take_of_lt him];simpa using ho);obtain⟨zs,hz⟩:=ql _ _ hA o hmem d T hal;obtain⟨_,z,hzo,hrun⟩:=Bj hal hz;obtain⟨_,_,hs2⟩:=hs.allocF z T;simp only;rw[if_pos (by simp[Region.wanted,hgd])];refine .inl ?_;unfold Oper.wp;rw[hrun a w];show wpAny P .any ops Q fuel (listed.setIfInBounds i true) (a.put o.dst _) _;rw[hdst];have hsp:d<a.tmps.size:=by rw[hs.size];exact hdo
     have hvp:(a.put (some d) (.pointer (some ⟨w.heap.size,0,none⟩))).tmps.getD d undef=.pointer (some ⟨w.heap.size,0,none⟩):=by
      simp[Act.put,Array.getD_eq_getD_getElem?,Array.getElem?_setIfInBounds,hsp]
     refine hnext _ _ _ _ (Sim.put hs2 hdo (sv:=.pv .bot) ⟨rfl,trivial⟩ trivial rfl) (hout.alloc hs z T hdfresh hvp (hputs _)) rfl (fun i2 o2 d2 t2 h1 h2 h3=>?_) (fun d2 h1=>?_)
     ·rw[hset]at h1;split at h1
      ·rename_i e;subst e;rw[ho]at h2;cases h2;rw[hal]at h3;cases h3;exact⟨w.heap.size,z,if_pos rfl,hzo⟩
      ·obtain⟨c,z',h5,h6⟩:=hon i2 o2 d2 t2 h1 h2 h3;have:d2≠d:=fun e=>by rw[e,hdfresh]at h5;cases h5
       exact⟨c,z',(if_neg this).trans h5,h6⟩
     ·by_cases e:d2=d
      ·subst e;exact⟨i,o,T,by rw[hset,if_pos rfl],ho,hal⟩
      ·simp only[if_neg e]at h1;obtain⟨j,oj,tj,h5,h6,h7⟩:=hcov d2 h1;exact⟨j,oj,tj,by rw[hset];split;rfl;exact h5,h6,h7⟩
    rename_i hal; have key := JN (ops := ops) o hQG hsR (Q := Q) (K' := wpAny P .any ops Q fuel (listed.setIfInBounds i true)) (fun v J w2 _ s2 f2 a2 => by
     have hs2:=(s2 g _ rfl hs).1;have t2:=(s2 g _ rfl hs).2;have hput:Sim {g with I:=J} ⟨(d,kq q r)::t,base.h⟩ (a.put (some d) v) w2:=by
      refine Sim.put hs2 (by rw[t2.N];exact hdo) ?_ ?_ (qn q r).1
      ·rcases(qn q r).2 with h5|⟨h5,h6⟩
       ·rw[h5];exact⟨rfl,trivial⟩
       ·rw[h5];exact f2
      ·rcases(qn q r).2 with h5|⟨h5,h6⟩
       ·rw[h5];trivial
       ·rw[h5];refine bN.congrA (q:=q) (fun p hp hown=>?_) h6 a2;refine⟨?_,rfl⟩;cases p with
        |cell b k=>rfl
        |slot s=>
         have hns:s∉E.map (·.1):=fun hc=>by rw[(hq s).2 hc]at hp;cases hp
         simp only[aa];rw[hI.off s hns,mD];split
         ·symm;apply bH;intro hc;apply hns;rw[List.map_reverse,List.mem_reverse]at hc;obtain⟨p,hp,he⟩:=List.mem_map.1 hc;exact List.mem_map.2 ⟨p,List.mem_of_mem_take hp,he⟩
         ·rfl
     rw[hdst];refine hnext _ _ w2 cf hput (hout.step t2 fun d' hd'=>hputs v d' (fun e=>hd' (by rw[e];exact hdfresh))) rfl (fun i2 o2 d2 t3 h1 h2 h3=>?_) (fun d2 h1=>?_)
     ·rw[hset]at h1;split at h1
      ·rename_i e;subst e;rw[ho]at h2;cases h2;rw[hal]at h3;cases h3
      ·exact hon i2 o2 d2 t3 h1 h2 h3
     ·obtain⟨j,oj,tj,h5,h6,h7⟩:=hcov d2 h1;exact⟨j,oj,tj,by rw[hset];split;rfl;exact h5,h6,h7⟩)
    simp only;split
    ·rename_i hw;rw[if_pos hw]at key;exact .inl key
    ·rename_i hw;rw[if_neg hw]at key;exact key
   ·have him':i=m:=by
     apply Nat.le_antisymm _ (Nat.le_of_not_lt him);apply Nat.le_of_not_lt;intro hl;obtain⟨e,he,hb,hon⟩:=im.1 (hB.chain (i -1) o (by omega) (by rw[Nat.sub_add_cancel (by omega)];simpa using ho));have:=hlm _ (hdeps' e he hb);omega
    subst him';have hpre:∀k j:Nat,i≤j+k→j<i→listed[j]?=some true:=by
     intro k
     induction k with
     |zero=>intro j h1 h2;omega
     |succ k ihk=>
      intro j h1 h2;obtain⟨j',o',hj1,hj2,hj3,hj4⟩:=hB.up (by simpa using hil) j h2;obtain⟨e,he,hb,hon⟩:=im.1 hj4;rcases Nat.lt_or_ge j' i with hlt|hge
      ·have:=hdc j' o' (ihk j' (by omega) hlt) (by simpa using hj3) e he hb;rw[hon]at this;exact this
      ·have:j'=i:=by omega
       subst this;have hj3':ops[j']?=some o':=by simpa using hj3
       rw[ho]at hj3';cases hj3';have:=hdeps' e he hb;rw[hon]at this;exact this
    obtain⟨g',st',hk,ht,hs2⟩:=hfin hout hon hcov (fun j hj=>hpre i j (by omega) hj) hlm hI hs hd;have hpost:∀j:Nat,i≤j→j<ops.size→listed[j]?=some false:=fun j hj hj2=>by
     have hjl:j<listed.size:=by omega
     cases hb:listed[j]with
     |false=>rw[Array.getElem?_eq_getElem hjl,hb]
     |true=>have:=hlm j (by rw[Array.getElem?_eq_getElem hjl,hb]);omega
    have hfu:i+(fuel+1)=ops.size:=by
     have:=mE listed.toList i (by simp[hsz];omega) (fun j hj=>by simpa using hpre i j (by omega) hj) (fun j h1 h2=>by simpa using hpost j h1 (by simpa[hsz]using h2));rw[hcnt]at this;simpa[hsz]using this
    have:=vC hB (Q:=Q) (K:=K) (ops.toList.drop i) i (fuel+1) listed _ g' a w rfl (Nat.le_refl _) hfu hsz (fun j hj=>hpre i j (by omega) hj) hpost hk hs2 (by rw[ht.N,←hout.to.N];exact hd) (fun st2 g2 a2 w2 k2 t2 s2=>hQ st2 g2 a2 w2 k2 (ht.trans t2) s2);exact this.2 i hi
theorem xX{l:List Oper}{s:Nat}:s∈dstsOf l↔∃(i:Nat)(o:Oper),l[i]?=some o∧o.dst=some s:=by
 simp only[dstsOf,List.mem_filterMap];constructor
 ·rintro⟨o,h1,h2⟩;obtain⟨i,hi⟩:=List.mem_iff_getElem?.1 h1;exact⟨i,o,hi,h2⟩
 ·rintro⟨i,o,h1,h2⟩;exact⟨o,List.mem_of_getElem? h1,h2⟩
theorem Sim.cast_I{g:Gh}{J:Nat→Option Obj}{st:St}{a:Act}{w:World}(h:Sim {g with I:=J} st a w)(hJ:∀c,g.I c=J c):Sim g st a w:=by
 have:J=g.I:=funext fun c=>(hJ c).symm;subst this;exact h
theorem Dc{P:Program}{ops:Array Oper}{id:Nat}{st:St}{K:St→Prop}(aG:P.follows .mixedOrders=true)(hB:zO ops.toList (bU ops.toList)=true)(h:vx P ops.toList K st){g:Gh}{a:Act}{w:World}(hs:Sim g st a w)
 (hd:cg g.N ops.toList=true) {Q:Exit→Act→World→Prop} (hQ:∀st' g' a' w',K st'→g.to g'→Sim g' st' a' w'→Q .normal a' w'):(Code.region id ops true).wp P Q a w:=by
 refine wp_region_any aG ?_;have hB':=Da hB;unfold vx at h;obtain⟨E,hEl,hK,hE⟩:=C9 _ _ h;have hm:(ops.toList.take (bU ops.toList)).length=bU ops.toList:=by rw[List.length_take];exact Nat.min_eq_left hB'.le
 rw[hm]at hEl;have hpre:∀(i:Nat)(o:Oper),i<bU ops.toList→ops[i]?=some o→(ops.toList.take (bU ops.toList))[i]?=some o:=fun i o hi ho=>by
  rw[List.getElem?_take,if_pos hi];simpa using ho
 have hds:∀s,s∈E.map (·.1)↔s∈dstsOf (ops.toList.take (bU ops.toList)):=by
  intro s;rw[xX];constructor
  ·intro hs';obtain⟨p,hp,he⟩:=List.mem_map.1 hs';obtain⟨i,hi⟩:=List.mem_iff_getElem?.1 hp;have hlt:i<bU ops.toList:=by rw[←hEl];exact(List.getElem?_eq_some_iff.1 hi).1
   have hlt2:i<(ops.toList.take (bU ops.toList)).length:=by rw[hm];exact hlt
   obtain⟨d,r,e1,e2,_⟩:=hE i _ (List.getElem?_eq_getElem hlt2);rw[hi]at e2;cases e2;exact⟨i,_,List.getElem?_eq_getElem hlt2,by rw[e1];simp at he;rw[he]⟩
  ·rintro⟨i,o,h1,h2⟩;obtain⟨d,r,e1,e2,_⟩:=hE i o h1;rw[h2]at e1;cases e1;exact List.mem_map.2 ⟨_,List.mem_of_getElem? e2,rfl⟩
 have hnd:(E.map (·.1)).Nodup:=by
  unfold List.Nodup;rw[List.pairwise_iff_getElem];intro i j hi hj hij e;have hi':i<bU ops.toList:=by rw[←hEl];simpa using hi
  have hj':j<bU ops.toList:=by rw[←hEl];simpa using hj
  have hnl:j<ops.size:=Nat.lt_of_lt_of_le hj' (by simpa using hB'.le);have hoi:ops[i]?=some (ops[i]'(by omega)):=by simp[show i<ops.size by omega]
  have hoj:ops[j]?=some ops[j]:=by simp[hnl]
  obtain⟨d,h1,h2⟩:=hB'.dst j ops[j] hj' (by rw[Array.getElem?_toList];exact hoj);obtain⟨d',h3,h4,_⟩:=h2 i _ hij (by rw[Array.getElem?_toList];exact hoi);obtain⟨dj,rj,e1,e2,_⟩:=hE j _ (hpre j _ hj' hoj);obtain⟨di,ri,e3,e4,_⟩:=hE i _ (hpre i _ hi' hoi);rw[h1]at e1;cases e1;rw[h3]at e3;cases e3;apply h4;have g1:(E.map (·.1))[i]?=some d':=by rw[List.getElem?_map,e4];rfl
  have g2:(E.map (·.1))[j]?=some d:=by rw[List.getElem?_map,e2];rfl
  rw[List.getElem?_eq_getElem hi]at g1;rw[List.getElem?_eq_getElem hj]at g2;cases g1;cases g2;exact e
 let base:St:=⟨bots (dstsOf (ops.toList.take (bU ops.toList))) (aA (vv (dstsOf (ops.toList.take (bU ops.toList)))) st.t),st.h⟩
 have hlb:∀s,look base.t s=look st.t s∨look base.t s=.pv .bot:=by
  intro s;show look (bots _ _) s=_∨look (bots _ _) s=_;rw[lF];split
  ·exact .inr rfl
  ·rw[aS];rcases a8 (vv (dstsOf (ops.toList.take (bU ops.toList)))) (look st.t s)with e|⟨e,_⟩
   ·exact .inr e
   ·exact .inl e
 have hs0:Sim g base a {w with drawn:=w.drawn+1}:=by
  have h1 : Sim g st a { w with drawn := w.drawn + 1 } := (hs.grown (w' := { w with drawn := w.drawn + 1 }) rfl (Nat.le_refl _) (fun _ _ => rfl) g.I hs.I).1.cast_I (fun c => by
   show g.I c=if w.heap.size≤c then g.I c else g.I c;split<;>rfl)
  exact h1.weak rfl hlb
 refine Db (Q:=Q) (K:=K) (m:=bU ops.toList) (base:=base) (E:=E) (q:=vv (dstsOf (ops.toList.take (bU ops.toList)))) hB' hEl hnd ?_ ?_ ?_ (by simpa[xW]using hK) hQ ops.size (Array.replicate ops.size false) base.t (fun _=>none) g a _ (Out.start hs0) ?_ (fun _ h=>absurd rfl h) (by simp) (by simpa using ku _)
  ?_ ?_ ?_ hs0 hd
 ·intro s;rw[hds];simp[vv]
 ·intro s hs';show look (bots _ _) s=_;rw[lF,if_pos ((hds s).1 hs')]
 ·intro i o hi ho;obtain⟨d,r,e1,e2,e3⟩:=hE i o (hpre i o hi ho);exact⟨d,r,e1,e2,by simpa using e3⟩
 ·intro i o d t hi;rw[Array.getElem?_replicate]at hi;split at hi<;>cases hi
 ·intro i hi;rw[Array.getElem?_replicate]at hi;split at hi<;>cases hi
 ·intro i o hi;rw[Array.getElem?_replicate]at hi;split at hi<;>cases hi
 ·refine⟨fun i d v hi=>?_,fun s _=>rfl⟩;show look (bots _ _) d=_;rw[lF,if_pos ((hds d).1 (List.mem_map.2 ⟨_,List.mem_of_getElem? hi,rfl⟩))];split
  ·rename_i hc;rw[Array.getD_eq_getD_getElem?,Array.getElem?_replicate]at hc;split at hc<;>cases hc
  ·rfl
end Go.AX
namespace Go.AX
/-! ### What looks at no memory -/
def gH(P:Program):Op→Bool
 |.move _|.assign _|.extract _ _|.unOp _ _ _|.field _ _ _|.fieldAddr _ _ _|.indexAddr _ _ _|.slice _ _ _ _ none|.pick _ _ _|.nilCheck _=>true
 |.convert s _ _=>!qi P s
 |.binOp _ t _ _ _=>match tk P t with
  |.int|.bool|.string|.ptr=>true
  |_=>false
 |.call c=>match c.callee,c.args.toList,c.argTypes.toList with
  |.builtin .len,[_],[t]=>match tk P t with
   |.slice|.string=>true
   |_=>false
  |_,_,_=>false
 |_=>false
def oi(P:Program)(o:Oper)(a:Act):Prop:=∃v,∀w':World,(execOp a.eval o).run P w'=.ok (.value v) w'
theorem g8.one{P:Program}{st:St}{o:Oper}{r:SV×Prop}(h:g8 P st o r){g:Gh}{a:Act}{w:World}(hs:Sim g st a w)(hr:r.2):oi P o a:=by
 obtain⟨v,h1,_⟩:=h g a w hs hr;exact⟨v,h1⟩
theorem qo{P:Program}{st:St}(o:Oper)(hb:gH P o.op=true)(h:(pop P st o.op).2){g:Gh}{a:Act}{w:World}(hs:Sim g st a w):oi P o a:=by
 cases hop:o.op
 case move x=>rw[hop]at h;exact(tE o x (.inl hop)).one hs h
 case assign x=>rw[hop]at h;exact(tE o x (.inr hop)).one hs h
 case pick c x y=>rw[hop]at h;exact(u9 o c x y hop).one hs h
 case unOp op t x=>rw[hop]at h;exact(CD o op t x hop).one hs h
 case fieldAddr t x f=>rw[hop]at h;exact(r9 o t f x hop).one hs h
 case indexAddr t x i=>rw[hop]at h;exact(zm o t x i hop).one hs h
 case extract x i=>rw[hop]at h;exact(zp o x i hop).one hs h
 case field t x f=>rw[hop]at h;exact(vc o t x f hop).one hs h
 case convert s d x=>rw[hop]at h;exact(zr o s d x hop).one hs h
 case nilCheck x=>rw[hop]at h;exact(CF o x hop).one hs h
 case slice t x lo hi mx=>
  rw[hop]at h hb;cases mx with
  |none=>exact(zt o t x lo hi hop).one hs h
  |some m=>cases hb
 case binOp op t x y u=>
  rw[hop]at h hb;simp only[gH]at hb;simp only[pop,CJ]at h;cases hm2:tJ st op x y with
  |some b=>rw[hm2]at h;rw[h.2]at hb;cases hb
  |none=>
   rw[hm2]at h;cases ht:tk P t with
   |int=>simp only[ht]at h;exact(zg o op t u x y hop).one hs h
   |bool=>simp only[ht]at h;exact(zh o op t u x y hop (zw ht)).one hs h
   |string=>simp only[ht]at h;exact(zi o op t u x y hop).one hs h
   |ptr=>simp only[ht]at h;obtain⟨e,he⟩:=CL ht;exact(zj o op t u e x y hop he).one hs h
   |_=>rw[ht]at hb;cases hb
 case call c=>
  rw[hop]at h hb;simp only[gH]at hb;split at hb
  ·rename_i x t h1 h2 h3;have hc:c={callee:=.builtin .len,args:=#[x],argTypes:=#[t]}:=by
    cases c with
    |mk a b d=>
     simp only at h1 h2 h3;rw[h1,show b=#[x]from by rw[←Array.toArray_toList (xs:=b),h2],show d=#[t]from by rw[←Array.toArray_toList (xs:=d),h3]]
   simp only[pop,zu,h1,h2,h3]at h;rw[hc]at hop;cases ht:tk P t with
   |slice=>simp only[ht]at h;exact(u6 o t x hop).one hs h
   |string=>simp only[ht]at h;exact(rZ o t x hop (sk ht)).one hs h
   |_=>rw[ht]at hb;cases hb
  ·cases hb
 all_goals (rw[hop]at hb;cases hb)
theorem Bl{P:Program}{st:St}(o:Oper)(hb:gH P o.op=true){K:St→Prop}(h:AE P st o.op o.dst K){g:Gh}{a:Act}{w:World}(hs:Sim g st a w):oi P o a:=by
 have hp:qh P st o.op o.dst K→oi P o a:=fun h=>qo o hb h.1 hs;cases hop:o.op
 case assign x=>exact⟨a.eval x,fun w'=>by simp[execOp,hop]⟩
 case convert s t x=>
  rw[hop]at hb h hp;simp only[gH,Bool.not_eq_true']at hb;simp only[AE,hb]at h;exact hp h
 case binOp op t x y u=>
  have nil:∀yes,xQ P st t x yes o.dst K→False:=fun yes h=>by
   unfold xQ bg at h;split at h
   ·rename_i e hs1;split at hs1
    ·rename_i el hu;rw[hop]at hb;simp[gH,tk,hu]at hb
    ·cases hs1
   ·exact h
  rw[hop]at h hp;unfold AE at h;split at h<;>first|exact hp h|skip
  all_goals
   first
    |(rename_i he;cases he;done)
    |(rename_i he;injection he with e1 e2 e3 e4 e5;subst e1 e2 e3 e4 e5;exact(nil _ h).elim)
    |(rename_i he;rw[he]at hp;exact hp h)
 case call c=>
  rw[hop]at hb h hp;simp only[gH]at hb;split at hb
  ·rename_i x t h1 h2 h3;unfold AE at h;simp only[h1]at h;exact hp h
  ·cases hb
 all_goals first
  |(rw[hop]at hb;cases hb;done)
  |(rw[hop]at h hp;exact hp h)
theorem Dd{P:Program}{o:Oper}{a:Act}{w:World}{v:Value}(hv:∀w':World,(execOp a.eval o).run P w'=.ok (.value v) w'){K:Act→World→Prop}{Q:Exit→Act→World→Prop}(h:o.wp P a w K Q):K (a.put o.dst v) w:=by
 unfold Oper.wp at h;rw[hv w]at h;exact h
theorem t8{P:Program}{ops:Array Oper}{st:St}(o:Oper)(hb:gH P o.op=true){K:St→Prop}(h:eq P ops.toList o K st){g:Gh}{a:Act}{w:World}(hs:Sim g st a w)(hd:bR g.N o.dst):
 ∃v,Yields P ops o v a∧∃st' g',K st'∧g.to g'∧Sim g' st' (a.put o.dst v) w:=by
 have key:=ko (ops:=ops) o h hs hd (K':=fun a' w'=>∃st' g',K st'∧g.to g'∧Sim g' st' a' w') (Q:=fun _ _ _=>False) fun st' g' a' w' h1 h2 h3=>⟨st',g',h1,h2,h3⟩
 by_cases hw:Region.wanted o (yielded ops a.tmps)=true
 ·rw[if_pos hw]at key;have hone:oi P o a:=by
   unfold eq at h;split at h
   ·unfold Gc at h;split at h
    ·rename_i hop;rw[hop]at hb;cases hb
    ·exact Bl o hb h hs
   ·rename_i j want hg;split at h
    ·rename_i d hgs;split at h
     ·rename_i Gd hc;have hG:Gd:=(mC hs hg hgs hc).1 hw;have hag:IZ P st Gd o.op o.dst K→oi P o a:=fun h=>qo o hb (h.1 hG) hs;cases hop:o.op
      case call c=>
       rw[hop]at hb h hag;simp only[gH]at hb;split at hb
       ·rename_i x t h1 h2 h3;unfold AG at h;simp only[h1]at h;exact hag h
       ·cases hb
      all_goals first
       |(rw[hop]at hb;cases hb;done)
       |(rw[hop]at h hag;exact hag h)
     ·exact h.elim
    ·exact h.elim
  obtain⟨v,hv⟩:=hone;obtain⟨st',g',h1,h2,h3⟩:=Dd hv key;exact⟨v,.inl ⟨hw,hv⟩,st',g',h1,h2,h3⟩
 ·rw[if_neg hw]at key;exact⟨undef,.inr ⟨by simpa using hw,rfl⟩,key⟩
/-! ### Orders -/
inductive Sch where
  |done
  |take (i:Nat) (r:Sch)
  |fork (l:List (Nat×Sch))
mutual
def iG(P:Program)(ops:Array Oper):Nat→Array Bool→Sch→Bool
  |_,listed,.done=>(Region.ready .any ops listed).isEmpty
  | n + 1, listed, .take i r => (match ops[i]? with
    |some o=>gH P o.op&&Region.free .any ops listed i
    |none=>false)&&(Region.ready .any ops listed).contains i&&iG P ops n (listed.setIfInBounds i true) r
  |n+1,listed,.fork l=>(Region.ready .any ops listed==l.map (·.1))&&!l.isEmpty&&vD P ops n listed l
  |_,_,_=>false
def vD(P:Program)(ops:Array Oper):Nat→Array Bool→List (Nat×Sch)→Bool
  |_,_,[]=>true
  |n,listed,(i,r)::l=>iG P ops n (listed.setIfInBounds i true) r&&vD P ops n listed l
end
def eC(P:Program)(ops:List Oper)(i:Nat)(K:St→Prop)(st:St):Prop:=
 match ops[i]?with
 |some o=>eq P ops o K st
 |none=>False
mutual
def mF(P:Program)(ops:List Oper)(K:St→Prop):Sch→St→Prop
  |.done,st=>K st
  |.take i r,st=>eC P ops i (mF P ops K r) st
  |.fork l,st=>oQ P ops K l st
def oQ(P:Program)(ops:List Oper)(K:St→Prop):List (Nat×Sch)→St→Prop
  |[],_=>True
  |(i,r)::l,st=>eC P ops i (mF P ops K r) st∧oQ P ops K l st
end
theorem dy{N:Nat}{l:List Oper}(h:cg N l=true){i:Nat}{o:Oper}(hi:l[i]?=some o):bR N o.dst:=by
 have:=List.all_eq_true.1 h o (List.mem_of_getElem? hi);unfold bR;split
 ·rename_i d hd;rw[hd]at this;simpa using this
 ·trivial
mutual
theorem ua{P:Program}{ops:Array Oper}{K:St→Prop}{Q:Exit→Act→World→Prop}(hsel:Region.noSelect ops=true)(hQp:∀c a w,¬Q (.panic c) a w):∀(S:Sch)(n:Nat)(listed:Array Bool)(_:iG P ops n listed S=true){st:St}(_:mF P ops.toList K S st){g:Gh}{a:Act}{w:World}(_:Sim g st a w)(_:cg g.N ops.toList=true)
    (_:∀st' g' a' w',K st'→g.to g'→Sim g' st' a' w'→Q .normal a' w'),wpAny P .any ops Q n listed a w
  |.done,n,listed,hb,st,h,g,a,w,hs,_,hQ=>by
    have hb':(Region.ready .any ops listed).isEmpty=true:=by cases n<;>simpa[iG]using hb
    exact wpAny_done (List.isEmpty_iff.1 hb') (hQ st g a w h hs.refl_to hs) n
  |.take i r,0,listed,hb,st,h,g,a,w,hs,hd,hQ=>by simp[iG]at hb
  |.take i r,n+1,listed,hb,st,h,g,a,w,hs,hd,hQ=>by
    simp only[iG,Bool.and_eq_true]at hb
    obtain⟨⟨hb1,hb2⟩,hb3⟩:=hb
    simp only[mF,eC]at h
    cases ho:ops[i]?with
    |none=>rw[ho]at hb1;cases hb1
    |some o=>
      rw[ho]at hb1
      rw[Array.getElem?_toList,ho]at h
      simp only[Bool.and_eq_true]at hb1
      obtain⟨v,hy,st',g',h1,h2,h3⟩:=t8 o hb1.1 h hs (dy hd (by rw[Array.getElem?_toList];exact ho))
      exact wpAny_take ho hsel hb1.2 hb2 (fun c a w hq=>absurd hq (hQp c _ w)) hy (ua hsel hQp r n _ hb3 h1 h3 (by rw[h2.N];exact hd) fun st2 g2 a2 w2 k2 t2 s2=>hQ st2 g2 a2 w2 k2 (h2.trans t2) s2)
  |.fork l,0,listed,hb,st,h,g,a,w,hs,hd,hQ=>by simp[iG]at hb
  |.fork l,n+1,listed,hb,st,h,g,a,w,hs,hd,hQ=>by
    simp only[iG,Bool.and_eq_true]at hb
    obtain⟨⟨hb1,hb2⟩,hb3⟩:=hb
    simp only[mF]at h
    have hr:Region.ready .any ops listed=l.map (·.1):=by simpa using hb1
    refine wpAny_all hr (fun e=>?_) fun i hi=>vE hsel hQp l n listed hb3 h hs hd hQ i hi
    cases l with
    |nil=>simp at hb2
    |cons _ _=>cases e
theorem vE{P:Program}{ops:Array Oper}{K:St→Prop}{Q:Exit→Act→World→Prop}(hsel:Region.noSelect ops=true)(hQp:∀c a w,¬Q (.panic c) a w):∀(l:List (Nat×Sch))(n:Nat)(listed:Array Bool)(_:vD P ops n listed l=true){st:St}(_:oQ P ops.toList K l st){g:Gh}{a:Act}{w:World}(_:Sim g st a w)(_:cg g.N ops.toList=true)
    (_:∀st' g' a' w',K st'→g.to g'→Sim g' st' a' w'→Q .normal a' w'),∀i∈l.map (·.1),wpOp P ops Q i (wpAny P .any ops Q n (listed.setIfInBounds i true)) a w
  |[],n,listed,_,st,_,g,a,w,_,_,_,i,hi=>by cases hi
  |(i0,r)::l,n,listed,hb,st,h,g,a,w,hs,hd,hQ,i,hi=>by
    simp only[vD,Bool.and_eq_true]at hb
    simp only[oQ]at h
    simp only[List.map_cons,List.mem_cons]at hi
    rcases hi with e|hi
    · subst e
      have h1:=h.1
      simp only[eC]at h1
      unfold wpOp
      cases ho:ops[i]?with
      |none=>rw[Array.getElem?_toList,ho]at h1;exact h1.elim
      |some o=>
        rw[Array.getElem?_toList,ho]at h1
        have key:=ko (ops:=ops) o h1 hs (dy hd (by rw[Array.getElem?_toList];exact ho)) (K':=wpAny P .any ops Q n (listed.setIfInBounds i true)) (Q:=Q) fun st' g' a' w' k' t' s'=>
          ua hsel hQp r n _ hb.1 k' s' (by rw[t'.N];exact hd) fun st2 g2 a2 w2 k2 t2 s2=>hQ st2 g2 a2 w2 k2 (t'.trans t2) s2
        simp only
        split
        · rename_i hw;rw[if_pos hw]at key;exact .inl key
        · rename_i hw;rw[if_neg hw]at key;exact key
    · exact vE hsel hQp l n listed hb.2 h.2 hs hd hQ i hi
end
def nm(P:Program)(ops:Array Oper)(S:Sch):Bool:=Region.noSelect ops&&iG P ops ops.size (Array.replicate ops.size false) S
theorem zQ{P:Program}{ops:Array Oper}{id:Nat}{st:St}{K:St→Prop}(aG:P.follows .mixedOrders=true){S:Sch}(hS:nm P ops S=true)(h:mF P ops.toList K S st){g:Gh}{a:Act}{w:World}(hs:Sim g st a w)
 (hd:cg g.N ops.toList=true) {Q:Exit→Act→World→Prop} (hQ:∀st' g' a' w',K st'→g.to g'→Sim g' st' a' w'→Q .normal a' w'):(Code.region id ops true).wp P Q a w:=by
 simp only [nm, Bool.and_eq_true] at hS; have hs0 : Sim g st a { w with drawn := w.drawn + 1 } := (hs.grown (w' := { w with drawn := w.drawn + 1 }) rfl (Nat.le_refl _) (fun _ _ => rfl) g.I hs.I).1.cast_I (fun c => by
  show g.I c=if w.heap.size≤c then g.I c else g.I c;split<;>rfl)
 refine wp_mono (wp_region_any (Q:=fun e a w=>e=.normal∧Q .normal a w) aG ?_) fun e a w h=>h.1▸h.2;exact ua hS.1 (fun c a w h=>by cases h.1) S _ _ hS.2 h hs0 hd fun st' g' a' w' k' t' s'=>⟨rfl,hQ st' g' a' w' k' t' s'⟩
end Go.AX
namespace Go.AX
def aj(k0:Nat)(st st1:St):Prop:=∀g a w,g.n0≤k0→Sim g st a w→∃g',g.to g'∧Sim g' st1 a w
theorem aj.trans{k0:Nat}{a b c:St}(h:aj k0 a b)(h':aj k0 b c):aj k0 a c:=fun g ac w h0 hs=>by
 obtain⟨g1,t1,s1⟩:=h g ac w h0 hs;obtain⟨g2,t2,s2⟩:=h' g1 ac w (by rw[t1.n0];exact h0) s1;exact⟨g2,t1.trans t2,s2⟩
def M4(v v1:SV):Prop:=v1=v∨v1=.pv .bot
def I0(t:List (Nat×SV)):List (Nat×SV)→Prop
 |[]=>True
 |(s,v)::r=>M4 (look t s) v∧I0 t r
theorem De{t:List (Nat×SV)}:∀{t1:List (Nat×SV)},I0 t t1→∀s,look t1 s=look t s∨look t1 s=.pv .bot
 |[],_,s=>.inr rfl
 |(j,v)::r,h,s=>by
  simp only[look]
  by_cases e:j=s
  ·subst e;rw[if_pos rfl];exact h.1
  ·rw[if_neg e];exact De h.2 s
/-! ### Blocks are let go -/
section
variable {g : Gh} {k : Nat}
mutual
theorem Fit.below:∀(x:PV)(v:Value),x.bel k→Fit g x v→Fit {g with n:=k} x v
  |.bot,_,_,_=>trivial
  |.lit _,_,_,h=>h
  |.agg xs,_,hn,⟨vs,h1,h2⟩=>⟨vs,h1,ai.below xs _ hn h2⟩
  |.tup xs,_,hn,⟨vs,h1,h2⟩=>⟨vs,h1,ai.below xs _ hn h2⟩
  |.seq _ e rows,_,hn,⟨p,cap,h1,hc,h2⟩=>⟨p,cap,h1,hc,h2.imp id fun⟨c,off,arr,T,fz,vs,a,b,n,q1,q2⟩=>⟨c,off,arr,T,fz,vs,a,b,n,au.below e rows vs hn q1,q2⟩⟩
  |.iptr e rows _ _,_,hn,⟨c,off,arr,T,fz,vs,a,b,q1,q2⟩=>⟨c,off,arr,T,fz,vs,a,b,au.below e rows vs hn q1,q2⟩
  |.ptr _ _,_,hn,⟨_,h2⟩=>⟨hn,h2⟩
  |.bsl _ _ _ _ _,_,hn,⟨_,h2⟩=>⟨hn,h2⟩
  |.fn _ first cap,_,⟨n1,n2⟩,⟨a,b,h1,h2,h3⟩=>⟨a,b,h1,ai.below first _ n1 h2,ai.below cap _ n2 h3⟩
  |.amap _ es,_,hn,⟨c,en,ck,a,b,n,q⟩=>⟨c,en,ck,a,b,n,bm.below es _ hn q.1,q.2⟩
  |.ifc _ x,_,hn,⟨y,h1,h2⟩=>⟨y,h1,Fit.below x y hn h2⟩
theorem ai.below:∀(xs:List PV)(vs:List Value),bO k xs→ai g xs vs→ai {g with n:=k} xs vs
  |[],_,_,h=>h
  |x::xs,_,⟨n1,n2⟩,⟨v,r',h1,h2,h3⟩=>⟨v,r',h1,Fit.below x v n1 h2,ai.below xs r' n2 h3⟩
theorem au.below(e:Nat):∀(rows:List (List PV))(vs:List Value),bP k rows→au g e rows vs→au {g with n:=k} e rows vs
  |[],_,_,h=>h
  |row::rows,_,⟨n1,n2⟩,⟨v1,v2,h1,h2,h3,h4⟩=>⟨v1,v2,h1,h2,ai.below row v1 n1 h3,au.below e rows v2 n2 h4⟩
theorem bm.below:∀(es:List (Int×PV))(en:List MapEntry),ft k es→bm g es en→bm {g with n:=k} es en
  |[],_,_,h=>h
  |(_,x)::es,_,⟨n1,n2⟩,⟨m,r',h1,h2,h3,h4⟩=>⟨m,r',h1,h2,Fit.below x m.val n1 h3,bm.below es r' n2 h4⟩
end
end
def SV.bel(k:Nat):SV→Prop
 |.pv x=>x.bel k
 |.own _ _ rows=>bP k rows
 |.omap _ es=>ft k es
 |.opt _ x=>x.bel k
 |.agl xs=>bO k (xs.map (·.1))
 |_=>True
theorem av.below{g:Gh}{w:World}{k:Nat}:∀{x:SV}{v:Value}{b:Option Nat},x.bel k→av g w x v b→av {g with n:=k} w x v b
 |.pv x,_,_,hn,h=>⟨h.1,Fit.below x _ hn h.2⟩
 |.own _ e rows,_,_,hn,h=>h.imp id fun⟨c,h1,cap,arr,T,vs,a1,a2,a3,a4,a5,a6,a7⟩=>⟨c,h1,cap,arr,T,vs,a1,a2,a3,a4,au.below e rows vs hn a5,a6,a7⟩
 |.omap _ es,_,_,hn,⟨c,h1,en,ck,a1,a2,a3,a4⟩=>⟨c,h1,en,ck,a1,a2,bm.below es _ hn a3,a4⟩
 |.opt _ _,_,_,hn,h=>⟨h.1,h.2.1,fun hc=>av.below hn (h.2.2 hc)⟩
 |.al _,_,_,_,h=>h
 |.loc _ _ _,_,_,_,h=>h
 |.sptr _ _ _,_,_,_,h=>h
 |.agl xs,_,_,hn,⟨h,vs,h1,h2⟩=>⟨h,vs,h1,ai.below _ _ hn h2⟩
def iH(k:Nat):List (Nat×SV)→Prop
 |[]=>True
 |(_,v)::r=>v.bel k∧iH k r
def cP(k:Nat):List SV→Prop
 |[]=>True
 |v::r=>v.bel k∧cP k r
def dz(k:Nat):List (List SV)→Prop
 |[]=>True
 |v::r=>cP k v∧dz k r
theorem fT{k:Nat}:∀{t:List (Nat×SV)},iH k t→∀s,(look t s).bel k
 |[],_,s=>trivial
 |(j,v)::r,h,s=>by
  simp only[look];split
  ·exact h.1
  ·exact fT h.2 s
theorem gI{k:Nat}:∀{l:List SV},cP k l→∀(i:Nat)(x:SV),l[i]?=some x→x.bel k
 |[],_,i,x,h=>by simp at h
 |v::r,hl,0,x,h=>by simp at h;subst h;exact hl.1
 |v::r,hl,i+1,x,h=>gI hl.2 i x (by simpa using h)
theorem gJ{k:Nat}:∀{l:List (List SV)},dz k l→∀(i:Nat)(x:List SV),l[i]?=some x→cP k x
 |[],_,i,x,h=>by simp at h
 |v::r,hl,0,x,h=>by simp at h;subst h;exact hl.1
 |v::r,hl,i+1,x,h=>gJ hl.2 i x (by simpa using h)
theorem Sim.dropB{st:St}{h1:List (List SV)}(hh:st.h.take h1.length=h1)(ht:iH h1.length st.t)(hb:dz h1.length h1){g:Gh}{a:Act}{w:World}(h0:g.n0≤h1.length)(hs:Sim g st a w):g.to {g with n:=h1.length}∧Sim {g with n:=h1.length} ⟨st.t,h1⟩ a w:=by
  obtain⟨bl,hbl⟩:=hs.own
  have hle:h1.length≤g.n:=by rw[hs.n,←hh,List.length_take];exact Nat.min_le_right _ _
  have hget:∀b xs,h1[b]?=some xs→st.h[b]?=some xs:=fun b xs hx=>by
    have hlt:=(List.getElem?_eq_some_iff.1 hx).1
    rw[←hh,List.getElem?_take,if_pos (by exact hlt)]at hx
    exact hx
  have hpos:∀p,(aa ⟨st.t,h1⟩ p).isOwn=true→aa ⟨st.t,h1⟩ p=aa st p∧an {g with n:=h1.length} a w p=an g a w p:=by
    intro p hp
    refine⟨?_,rfl⟩
    cases p with
    |slot s=>rfl
    |cell b k=>
      simp only[aa]at hp⊢
      cases hx:h1[b]?with
      |none=>simp[List.getD,hx,SV.isOwn]at hp
      |some xs=>simp only[List.getD_eq_getElem?_getD,hx,hget b xs hx]
  refine⟨⟨fun _ _ h=>h,rfl,rfl,rfl,rfl,rfl,h0,fun _ _=>rfl,fun _ _ h=>h⟩,?_⟩
  refine { size := hs.size, defs := hs.defs, env := hs.env, n := rfl, n0 := h0, B := hs.B, I := hs.I, F := hs.F, μI := fun b hb' => hs.μI b (Nat.lt_of_lt_of_le hb' hle), μinj := fun b b' h2 h3 => hs.μinj b b' (Nat.lt_of_lt_of_le h2 hle) (Nat.lt_of_lt_of_le h3 hle),
           own:=⟨fun p=>match p with|.slot s=>bl (.slot s)|.cell b k=>if b<h1.length then bl (.cell b k)else none,?_⟩,al:=fun s=>bN.congr hpos (hs.al s)}
  have hsub:∀p c,(match p with|.slot s=>bl (.slot s)|.cell b k=>if b<h1.length then bl (.cell b k)else none)=some c→bl p=some c:=by
    intro p c hp
    cases p with
    |slot s=>exact hp
    |cell b k=>
      simp only at hp
      split at hp
      · exact hp
      · cases hp
  refine{slots:=fun s=>av.below (fT ht s) (hbl.slots s),blocks:=fun b xs hx=>?_,inj:=fun p q c hp hq=>hbl.inj p q c (hsub p c hp) (hsub q c hq),free:=fun p c hp=>?_}
  · obtain⟨arr,T,e1,e2,e3⟩:=hbl.blocks b xs (hget b xs hx)
    refine⟨arr,T,e1,e2,fun k x hk'=>?_⟩
    simp only[if_pos (List.getElem?_eq_some_iff.1 hx).1]
    exact⟨(e3 k x hk').1,av.below (gI (gJ hb b xs hx) k x hk') (e3 k x hk').2⟩
  · obtain⟨f1,f2,f3,f4⟩:=hbl.free p c (hsub p c hp)
    exact⟨f1,f2,f3,fun b hb'=>f4 b (Nat.lt_of_lt_of_le hb' hle)⟩
theorem aj.slots{k0:Nat}{st:St}{t1:List (Nat×SV)}(h:I0 st.t t1):aj k0 st ⟨t1,st.h⟩:=fun g _ _ _ hs=>⟨g,hs.refl_to,hs.weak rfl (De h)⟩
theorem aj.drop{k0:Nat}{st:St}{h1:List (List SV)}(hh:st.h.take h1.length=h1)(hk:k0≤h1.length)(ht:iH h1.length st.t)(hb:dz h1.length h1):aj k0 st ⟨st.t,h1⟩:=fun g _ _ h0 hs=>
 ⟨_,hs.dropB hh ht hb (Nat.le_trans h0 hk)⟩
theorem aj.to{k0:Nat}{st:St}{t1:List (Nat×SV)}{h1:List (List SV)}(h:I0 st.t t1)(hh:st.h.take h1.length=h1)(hk:k0≤h1.length)(ht:iH h1.length t1)(hb:dz h1.length h1):aj k0 st ⟨t1,h1⟩:=
 (aj.slots h).trans (aj.drop (st:=⟨t1,st.h⟩) hh hk ht hb)
theorem aj.nilOwn{k0:Nat}{st:St}{s:Nat}(e:Nat)(nw:Bool)(h:look st.t s=.pv (.lit (.slice none 0 0))):aj k0 st ⟨(s,.own nw e [])::aA (cN s) st.t,st.h⟩:=fun g a w _ hs=>by
 obtain⟨bl,hb⟩:=hs.own;have hval:a.tmps.getD s undef=.slice none 0 0:=by have:=hb.slots s;rw[h]at this;exact this.2
 have hlt:s<a.tmps.size:=by
  apply Nat.lt_of_not_le;intro hle;rw[Array.getD_eq_getD_getElem?,Array.getElem?_eq_none hle]at hval;cases hval
 have:=hs.putOwn hb (d:=s) (sv:=.own nw e []) (v:=a.tmps.getD s undef) (o:=none) (w':=w) (by rw[←hs.size];exact hlt) rfl (Nat.le_refl _) (fun _ _ _=>rfl) (.inl ⟨rfl,rfl,hval⟩) rfl (fun c hc=>by cases hc);rw[nf hlt]at this;exact⟨g,hs.refl_to,this⟩
/-! ### Ways on -/
def Df(K:St→Prop)(Q:Exit→St→Prop)(e:Exit)(st:St):Prop:=
 match e with
 |.normal=>K st
 |e=>Q e st
def ub(id:Nat)(Q:Exit→St→Prop)(e:Exit)(st:St):Prop:=
 match e with
 |.exit i=>if i=id then Q .normal st else Q (.exit i) st
 |e=>Q e st
def xY(Q:Exit→St→Prop)(e:Exit)(st:St):Prop:=
 match e with
 |.goto _=>False
 |e=>Q e st
def aH(k0:Nat)(body:(Exit→St→Prop)→St→Prop)(Q:Exit→St→Prop)(st:St):Prop:=
 ∃I:Nat→St→Prop,(∃n st1,aj k0 st st1∧I n st1)∧∀n st,I n st→body (Df (fun st'=>∃m st2,m<n∧aj k0 st' st2∧I m st2) Q) st
def Hx{α:Type}(S:α→St)(J:α→Prop)(μ:α→Nat)(k0 n:Nat)(st:St):Prop:=∃y,μ y<n∧J y∧aj k0 st (S y)
def xZ(k0:Nat)(S st:St):Prop:=aj k0 st S
def M5(P:Program)(k0:Nat)(ops:Array Oper)(K:St→Prop)(n:Nat)(l:Array Bool)(st:St):Prop:=
 ∀(g:Gh)(a:Act)(w:World),g.n0≤k0→Sim g st a w→cg g.N ops.toList=true→∀(Q:Exit→Act→World→Prop),(∀c a w,¬Q (.panic c) a w)→(∀st' g' a' w',K st'→g.to g'→Sim g' st' a' w'→Q .normal a' w')→wpAny P .any ops Q n l a w
def Dg(P:Program)(ops:Array Oper)(C:Nat→Array Bool→St→Prop)(n:Nat)(st:St):List (Nat×Array Bool)→Prop
 |[]=>True
 |(i,l')::r=>eC P ops.toList i (C n l') st∧Dg P ops C n st r
def aY(P:Program)(k0:Nat)(ops:Array Oper)(K:St→Prop)(st:St):Prop:=
 (∃S,nm P ops S=true∧(mF P ops.toList K S st∨∃st1,mF P ops.toList (xZ k0 st1) S st∧K st1))∨M5 P k0 ops K ops.size (Array.replicate ops.size false) st
theorem aY.one{P:Program}{k0:Nat}{ops:Array Oper}{K:St→Prop}{st:St}(S:Sch)(h:nm P ops S=true)(h2:mF P ops.toList K S st):aY P k0 ops K st:=.inl ⟨S,h,.inl h2⟩
theorem aY.meet{P:Program}{k0:Nat}{ops:Array Oper}{K:St→Prop}{st:St}(S:Sch)(st1:St)(h:nm P ops S=true)(h2:mF P ops.toList (xZ k0 st1) S st)(h3:K st1):aY P k0 ops K st:=.inl ⟨S,h,.inr ⟨st1,h2,h3⟩⟩
def zR(stp:Nat→(St→Prop)→St→Prop)(C:Nat→Array Bool→St→Prop)(n:Nat)(st:St):List (Nat×Array Bool)→Prop
 |[]=>True
 |(i,l')::r=>stp i (C n l') st∧zR stp C n st r
theorem Dh{P:Program}{k0:Nat}{ops:Array Oper}{id:Nat}{st:St}{K:St→Prop}(aG:P.follows .mixedOrders=true)(h:aY P k0 ops K st){g:Gh}{a:Act}{w:World}(h0:g.n0≤k0)(hs:Sim g st a w)
 (hd:cg g.N ops.toList=true) {Q:Exit→Act→World→Prop} (hQ:∀st' g' a' w',K st'→g.to g'→Sim g' st' a' w'→Q .normal a' w'):(Code.region id ops true).wp P Q a w:=by
 rcases h with⟨S,hS,h|⟨st1,h,hk⟩⟩|h
 ·exact zQ aG hS h hs hd hQ
 ·refine zQ aG hS h hs hd fun st' g' a' w' hw t' s'=>?_;obtain⟨g2,t2,s2⟩:=hw g' a' w' (by rw[t'.n0];exact h0) s';exact hQ st1 g2 a' w' hk (t'.trans t2) s2
 ·have hs0 : Sim g st a { w with drawn := w.drawn + 1 } := (hs.grown (w' := { w with drawn := w.drawn + 1 }) rfl (Nat.le_refl _) (fun _ _ => rfl) g.I hs.I).1.cast_I (fun c => by
   show g.I c=if w.heap.size≤c then g.I c else g.I c;split<;>rfl)
  refine wp_mono (wp_region_any (Q:=fun e a w=>e=.normal∧Q .normal a w) aG ?_) fun e a w h=>h.1▸h.2;exact h _ _ _ h0 hs0 hd _ (fun c a w h=>by cases h.1) fun st' g' a' w' k' t' s'=>⟨rfl,hQ st' g' a' w' k' t' s'⟩
def jW(P:Program)(k0:Nat)(ops:Array Oper)(K:St→Prop)(st:St):Prop:=
 ∀(g:Gh)(a:Act)(w:World),g.n0≤k0→Sim g st a w→cg g.N ops.toList=true→∀(Q:Exit→Act→World→Prop),(∀st' g' a' w',K st'→g.to g'→Sim g' st' a' w'→Q .normal a' w')→wpList P ops Q ops.toList a w
def AC(P:Program)(k0:Nat)(bad:List Nat):Code→(Exit→St→Prop)→St→Prop
 |.skip,Q,st=>Q .normal st
 |.region id ops draw,Q,st=>if draw=true then(if jU bad id=true then aY P k0 ops (Q .normal) st else vx P ops.toList (Q .normal) st)else if jU bad id=true then jW P k0 ops (Q .normal) st else iM P ops.toList (Q .normal) ops.toList st
 |.seq x y,Q,st=>AC P k0 bad x (Df (AC P k0 bad y Q) Q) st
 |.cond c x y,Q,st=>gc st c∧xo (mv st c)∧(pD (mv st c)=true→AC P k0 bad x Q st)∧(pD (mv st c)=false→AC P k0 bad y Q st)
 |.block id x,Q,st=>AC P k0 bad x (ub id Q) st
 |.exit id,Q,st=>Q (.exit id) st
 |.ret,Q,st=>Q .ret st
 |.loop x,Q,st=>aH k0 (AC P k0 bad x) Q st
 |.label _,Q,st=>Q .normal st
 |.scope x,Q,st=>AC P k0 bad x (xY Q) st
 |_,_,_=>False
theorem aH.intro{α:Type}{P:Program}{k0:Nat}{bad:List Nat}{x:Code}{Q:Exit→St→Prop}{st:St}(S:α→St)(J:α→Prop)(μ:α→Nat)(x0:α)(hw:aj k0 st (S x0))(hJ:J x0)
 (hr:∀y,J y→AC P k0 bad x (Df (Hx S J μ k0 (μ y)) Q) (S y)):aH k0 (AC P k0 bad x) Q st:=by
 refine⟨fun n st=>∃y,n=μ y∧J y∧st=S y,⟨μ x0,S x0,hw,x0,rfl,hJ,rfl⟩,fun n st ⟨y,hn,hy,hs⟩=>?_⟩;subst hn;subst hs;have:(fun st'=>∃m st2,m<μ y∧aj k0 st' st2∧∃z,m=μ z∧J z∧st2=S z)=Hx S J μ k0 (μ y):=by
  funext st';apply propext;constructor
  ·rintro⟨m,st2,h1,h2,z,rfl,h3,rfl⟩;exact⟨z,h1,h3,h2⟩
  ·rintro⟨z,h1,h2,h3⟩;exact⟨_,_,h1,h3,z,rfl,h2,rfl⟩
 rw[this];exact hr y hy
def m9(N:Nat)(bad:List Nat):Code→Bool
 |.region id ops draw=>cg N ops.toList&&(!draw||(jU bad id||zO ops.toList (bU ops.toList)))
 |.seq x y=>m9 N bad x&&m9 N bad y
 |.cond _ x y=>m9 N bad x&&m9 N bad y
 |.block _ x=>m9 N bad x
 |.loop x=>m9 N bad x
 |.scope x=>m9 N bad x
 |_=>true
theorem vF{P:Program}{c:Code}{Q:Exit→Act→World→Prop}(I:Nat→Act→World→Prop)(round:∀n a w,I n a w→c.wp P (Exit.then (fun a' w'=>∃m,m<n∧I m a' w') Q) a w){n:Nat}{a:Act}{w:World}(h₀:I n a w):(Code.loop c).wp P Q a w:=by
 intro b k cs;have key:∀n a w,I n a w→∃e a' w',Q e a' w'∧Arrives P (lone (b.at a (.code c::.inLoop c::k)) cs w) b k cs e a' w':=by
  intro n
  induction n using Nat.strongRecOn with
  |_ n ih=>
   intro a w hI;obtain⟨e,a₁,w₁,hq,harr⟩:=round n a w hI b (.inLoop c::k) cs;cases e with
   |normal=>
    obtain⟨m,hlt,hI₁⟩:=hq;obtain⟨e₂,a₂,w₂,hq₂,harr₂⟩:=ih m hlt a₁ w₁ hI₁;exact⟨e₂,a₂,w₂,hq₂,.of_steps (Steps.trans harr (.one step_inLoop)) harr₂⟩
   |exit id=>exact⟨_,a₁,w₁,hq,.pass (x:=.inLoop c) rfl (fun _ _=>.inl (by simp)) harr⟩
   |goto l=>exact⟨_,a₁,w₁,hq,.pass (x:=.inLoop c) rfl (fun _ _=>.inl (by simp)) harr⟩
   |ret=>exact⟨_,a₁,w₁,hq,.pass (x:=.inLoop c) rfl (fun _ _=>.inl (by simp)) harr⟩
   |panic ch=>exact⟨_,a₁,w₁,hq,.pass (x:=.inLoop c) rfl (fun _ _=>.inl (by simp)) harr⟩
   |outgrown=>exact⟨_,a₁,w₁,hq,.pass (x:=.inLoop c) rfl (fun _ _=>.inl (by simp)) harr⟩
 obtain⟨e,a',w',hq,harr⟩:=key _ a w h₀;exact⟨e,a',w',hq,.of_steps (.one step_loop) harr⟩
theorem l8{P:Program}{k0:Nat}{bad:List Nat}(aG:P.follows .mixedOrders=true):∀(c:Code){Q:Exit→St→Prop}{st:St}(_:AC P k0 bad c Q st){g:Gh}{a:Act}{w:World}(_:m9 g.N bad c=true∧g.n0≤k0)(_:Sim g st a w){Q':Exit→Act→World→Prop}
 (_:∀e st' g' a' w',Q e st'→g.to g'→Sim g' st' a' w'→Q' e a' w'),c.wp P Q' a w
 |.skip,Q,st,h,g,a,w,⟨ho,h0⟩,hs,Q',hQ=>wp_skip (hQ _ _ g _ _ h hs.refl_to hs)
 |.exit id,Q,st,h,g,a,w,⟨ho,h0⟩,hs,Q',hQ=>wp_exit (hQ _ _ g _ _ h hs.refl_to hs)
 |.ret,Q,st,h,g,a,w,⟨ho,h0⟩,hs,Q',hQ=>wp_ret (hQ _ _ g _ _ h hs.refl_to hs)
 |.region id ops draw,Q,st,h,g,a,w,⟨ho,h0⟩,hs,Q',hQ=>by
  simp only[m9,Bool.and_eq_true,Bool.or_eq_true,Bool.not_eq_true']at ho;simp only[AC]at h;cases draw with
  |false=>
   rw[if_neg (by simp)]at h;split at h
   ·exact wp_region_list (h g a w h0 hs ho.1 _ fun st' g' a' w'=>hQ _ st' g' a' w')
   ·exact wp_region_list (tZ ops.toList h hs ho.1 fun st' g' a' w'=>hQ _ st' g' a' w')
  |true=>
   rw[if_pos rfl]at h;split at h
   ·exact Dh aG h h0 hs ho.1 fun st' g' a' w'=>hQ _ st' g' a' w'
   ·rename_i hm;refine Dc aG ((ho.2.resolve_left (by simp)).resolve_left (by simpa using hm)) h hs ho.1 fun st' g' a' w'=>hQ _ st' g' a' w'
 |.seq x y,Q,st,h,g,a,w,⟨ho,h0⟩,hs,Q',hQ=>by
  simp only[m9,Bool.and_eq_true]at ho;simp only[AC]at h;refine wp_seq (l8 aG x h ⟨ho.1,h0⟩ hs fun e st' g' a' w' hq t' s'=>?_);cases e with
  |normal=>exact l8 aG y hq ⟨by rw[t'.N];exact ho.2,by rw[t'.n0];exact h0⟩ s' fun e2 st2 g2 a2 w2 q2 t2 s2=>hQ e2 st2 g2 a2 w2 q2 (t'.trans t2) s2
  |exit id=>exact hQ _ st' g' a' w' hq t' s'
  |goto l=>exact hQ _ st' g' a' w' hq t' s'
  |ret=>exact hQ _ st' g' a' w' hq t' s'
  |panic ch=>exact hQ _ st' g' a' w' hq t' s'
  |outgrown=>exact hQ _ st' g' a' w' hq t' s'
 |.cond c x y,Q,st,h,g,a,w,⟨ho,h0⟩,hs,Q',hQ=>by
  simp only[m9,Bool.and_eq_true]at ho;simp only[AC]at h;obtain⟨h1,h2,h3,h4⟩:=h;exact wp_cond_split (jd hs h1 h2) (fun ht=>l8 aG x (h3 ht) ⟨ho.1,h0⟩ hs hQ) (fun hf=>l8 aG y (h4 hf) ⟨ho.2,h0⟩ hs hQ)
 |.block id x,Q,st,h,g,a,w,⟨ho,h0⟩,hs,Q',hQ=>by
  simp only[m9]at ho;simp only[AC]at h;refine wp_block (l8 aG x h ⟨ho,h0⟩ hs fun e st' g' a' w' hq t' s'=>?_);cases e with
  |exit i=>
   simp only[ub]at hq;simp only[Exit.inBlock];split
   ·rename_i e1;rw[if_pos e1]at hq;exact hQ _ st' g' a' w' hq t' s'
   ·rename_i e1;rw[if_neg e1]at hq;exact hQ _ st' g' a' w' hq t' s'
  |normal=>exact hQ _ st' g' a' w' hq t' s'
  |goto l=>exact hQ _ st' g' a' w' hq t' s'
  |ret=>exact hQ _ st' g' a' w' hq t' s'
  |panic ch=>exact hQ _ st' g' a' w' hq t' s'
  |outgrown=>exact hQ _ st' g' a' w' hq t' s'
 |.loop x,Q,st,h,g,a,w,⟨ho,h0⟩,hs,Q',hQ=>by
  simp only[m9]at ho;simp only[AC]at h;unfold aH at h;obtain⟨I,⟨n,st1,hw,hI⟩,hr⟩:=h;obtain⟨g1,t1,s1⟩:=hw g a w h0 hs;refine vF (fun n a w=>∃st g',I n st∧g.to g'∧Sim g' st a w) (fun n a w ⟨st,g',h1,h2,h3⟩=>?_) (n:=n) ⟨st1,g1,hI,t1,s1⟩;refine l8 aG x (hr n st h1) ⟨by rw[h2.N];exact ho,by rw[h2.n0];exact h0⟩ h3 fun e st' g2 a' w' hq t' s'=>?_;cases e with
  |normal=>
   obtain⟨m,st2,hlt,hwk,hI2⟩:=hq;obtain⟨g3,t3,s3⟩:=hwk g2 a' w' (by rw[t'.n0,h2.n0];exact h0) s';exact⟨m,hlt,st2,g3,hI2,(h2.trans t').trans t3,s3⟩
  |exit id=>exact hQ _ st' g2 a' w' hq (h2.trans t') s'
  |goto l=>exact hQ _ st' g2 a' w' hq (h2.trans t') s'
  |ret=>exact hQ _ st' g2 a' w' hq (h2.trans t') s'
  |panic ch=>exact hQ _ st' g2 a' w' hq (h2.trans t') s'
  |outgrown=>exact hQ _ st' g2 a' w' hq (h2.trans t') s'
 |.rangeFunc ..,_,_,h,_,_,_,_,_,_,_=>by simp only[AC]at h
 |.scope x,Q,st,h,g,a,w,⟨ho,h0⟩,hs,Q',hQ=>by
  simp only[m9]at ho;simp only[AC]at h;refine wp_scope_straight (l8 aG x h ⟨ho,h0⟩ hs fun e st' g' a' w' hq t' s'=>?_);cases e with
  |goto l=>exact hq.elim
  |normal=>exact hQ _ st' g' a' w' hq t' s'
  |exit i=>exact hQ _ st' g' a' w' hq t' s'
  |ret=>exact hQ _ st' g' a' w' hq t' s'
  |panic ch=>exact hQ _ st' g' a' w' hq t' s'
  |outgrown=>exact hQ _ st' g' a' w' hq t' s'
 |.label _,Q,st,h,g,a,w,⟨ho,h0⟩,hs,Q',hQ=>wp_label (hQ _ _ g _ _ h hs.refl_to hs)
 |.goto _,_,_,h,_,_,_,_,_,_,_=>by simp only[AC]at h
 |.refuse _,_,_,h,_,_,_,_,_,_,_=>by simp only[AC]at h
end Go.AX
namespace Go.AX
def gp:Nat→List PV→List (Nat×SV)
 |_,[]=>[]
 |k,x::xs=>(k,.pv x)::gp (k+1) xs
def kw(K:St→Prop)(e:Exit)(st:St):Prop:=
 match e with
 |.normal=>K st
 |.ret=>K st
 |_=>False
def Gf(t:Nat)(R:SV→Prop)(st:St):Prop:=
 match look st.t t with
 |.pv x=>R (.pv x)
 |.own nw e rows=>R (.own nw e rows)
 |.omap nw es=>R (.omap nw es)
 |.al p=>(aa st p).isOwn=true∧R (aa st p)
 |.opt c (.pv x)=>c∧R (.pv x)
 |.loc p lo hi=>match aa st p with
  |.own nw e rows=>lo=0∧R (.own nw e (rows.take hi))
  |_=>False
 |_=>False
def Ic(ts:List Nat)(R:SV→Prop)(st:St):Prop:=(cT st (ts.map .tmp)).2.2∧R (.pv (.tup (cT st (ts.map .tmp)).1))
theorem lG(g:Gh):∀(args:List PV)(vs:List Value)(k s:Nat),ai g args vs→∀(w:World),av g w (look (gp k args) s) (if s<k then undef else vs.getD (s -k) undef) none
 |[],vs,k,s,h,w=>⟨rfl,trivial⟩
 |x::xs,_,k,s,⟨v,r,h1,h2,h3⟩,w=>by
  subst h1;simp only[gp,look]
  by_cases e:k=s
  ·subst e;rw[if_pos rfl,if_neg (by omega),Nat.sub_self];exact⟨rfl,h2⟩
  ·rw[if_neg e]
   by_cases hl:s<k
   ·rw[if_pos hl];have:=lG g xs r (k+1) s h3 w;rw[if_pos (by omega)]at this;exact this
   ·rw[if_neg hl];have:=lG g xs r (k+1) s h3 w;rw[if_neg (by omega)]at this;rw[show s -k=(s -(k+1))+1 by omega];exact this
theorem mG:∀(args:List PV)(k s:Nat),(∃x,look (gp k args) s=.pv x)
 |[],_,_=>⟨_,rfl⟩
 |x::xs,k,s=>by
  simp only[gp,look];split
  ·exact⟨_,rfl⟩
  ·exact mG xs (k+1) s
def kz(w:World)(N:Nat):Gh:={dw w with N:=N}
theorem Bn{w:World}{N:Nat}{args:List PV}{vs:List Value}(h:ai (dw w) args vs):ai (kz w N) args vs:=ai.mono (g:=dw w) (g':=kz w N) ⟨fun _ _ h=>h,Nat.le_refl _,Nat.le_refl _,fun _ _=>rfl⟩ _ _ h
theorem Bo{w:World}{N:Nat}{args:List PV}{vs:List Value}(h:ai (dw w) args vs)(hn:args.length≤N):
    Sim (kz w N) ⟨gp 0 args,[]⟩ {tmps:=vs.toArray++Array.replicate (N -vs.toArray.size) undef,defers:=[]} w:=by
  have hl:=h.length
  have hv:∀s,(vs.toArray++Array.replicate (N -vs.toArray.size) undef).getD s undef=vs.getD s undef:=by
    intro s
    simp only[Array.getD_eq_getD_getElem?,List.getD_eq_getElem?_getD,Array.getElem?_append,List.size_toArray,List.getElem?_toArray,Array.getElem?_replicate]
    split
    · rfl
    · rename_i hs
      rw[List.getElem?_eq_none (by omega)]
      split<;>rfl
  refine { size := ?_, defs := rfl, env := rfl, n := rfl, n0 := Nat.le_refl _, B := Nat.le_refl _, I := fun c o hc => hc, F := fun c o hc => (by cases hc), μI := fun b hb => absurd hb (Nat.not_lt_zero _), μinj := fun b b' hb => absurd hb (Nat.not_lt_zero _),
           own:=⟨fun _=>none,?_⟩,al:=fun s=>?_}
  · show(vs.toArray++Array.replicate (N -vs.toArray.size) undef).size=N
    simp;omega
  · refine{slots:=fun s=>?_,blocks:=fun b xs hx=>(by simp at hx),inj:=fun p q c hp=>(by cases hp),free:=fun p c hp=>by cases hp}
    show av _ w _ ((vs.toArray++Array.replicate (N -vs.toArray.size) undef).getD s undef) none
    rw[hv]
    have:=lG (kz w N) args vs 0 s (Bn h) w
    simpa using this
  · obtain⟨x,hx⟩:=mG args 0 s
    simp only[hx];trivial
theorem mH{w w':World}{N:Nat}{g':Gh}{st':St}{a':Act}(ht:(kz w N).to g')(hs:Sim g' st' a' w'):PureEnd w w' g':=by
 have hkeep:∀c,c<w.heap.size→w'.heap[c]?=w.heap[c]?:=fun c hc=>by
  have:w.heap[c]?=some w.heap[c]:=Array.getElem?_eq_getElem hc;rw[hs.I c _ (ht.I c _ this),this]
 refine⟨ht.B,hs.env.trans ht.env,hkeep,?_,hs.I⟩;cases hsz:w.heap.size with
 |zero=>exact Nat.zero_le _
 |succ n=>
  have h1:=hkeep n (by omega);rw[Array.getElem?_eq_getElem (show n<w.heap.size by omega)]at h1;have:=(Array.getElem?_eq_some_iff.1 h1).1;omega
theorem pN{w w':World}{N:Nat}{g':Gh}{st':St}{a':Act}(ht:(kz w N).to g'){bl:Pos→Option Nat}(hb:Owns g' st' a' w' bl){p:Pos}:∀c,bl p=some c→w.heap.size≤c∧g'.I c=none:=fun c hc=>by
 have h1:=(hb.free p c hc).1;refine⟨Nat.le_of_not_lt fun hlt=>?_,h1⟩;have:=ht.I c _ (show w.heap[c]?=some w.heap[c]from Array.getElem?_eq_getElem hlt);rw[h1]at this;cases this
theorem qp{P:Program}{bad:List Nat}{f:FuncId}{fn:Func}{c:Code}{args:List PV}{R:SV→Prop}{K:St→Prop}(aG:P.follows .mixedOrders=true)(hf:P.funcs[f]?=some fn)(hcall:aB P f=true)(hb:fn.body=some c)(hok:m9 fn.ntmps bad c=true)
 (hn:args.length≤fn.ntmps) (h:AC P 0 bad c (kw K) ⟨gp 0 args,[]⟩)
 (hK:∀(w w':World)(g':Gh)(st':St)(a':Act),K st'→(kz w fn.ntmps).to g'→Sim g' st' a' w'→∃v r g2 o,(results fn a'.tmps).run P w'=.ok v w'∧R r∧PureEnd w w' g2∧av g2 w' r v o∧r.inCell=true∧∀c,o=some c→w.heap.size≤c∧g2.I c=none):
 ao P f args R:=by
 refine⟨hcall,fun w vs hv=>?_⟩;refine calls_of_wp hf hb ?_;have hs:=Bo (N:=fn.ntmps) hv hn;refine l8 aG c h (g:=kz w fn.ntmps) ⟨hok,Nat.le_refl _⟩ hs fun e st' g' a' w' hq t' s'=>?_;have fin:K st'→a'.defers=[]∧∃v,(results fn a'.tmps).run P w'=.ok v w'∧∃v' r g' o,Ending.returned v=.returned v'∧R r∧PureEnd w w' g'∧av g' w' r v' o∧r.inCell=true∧∀c,o=some c→w.heap.size≤c∧g'.I c=none:=fun hk=>by
  obtain⟨v,r,g2,o,h1,h2,h3,h4,h5,h6⟩:=hK w w' g' st' a' hk t' s';exact⟨s'.defs,v,h1,v,r,g2,o,rfl,h2,h3,h4,h5,h6⟩
 cases e with
 |normal=>exact fin hq
 |ret=>exact fin hq
 |_=>exact hq.elim
theorem zS{P:Program}(bad:List Nat){f:FuncId}{fn:Func}{c:Code}{args:List PV}{R:SV→Prop}{t:Nat}(aG:P.follows .mixedOrders=true)(hf:P.funcs[f]?=some fn)(hcall:aB P f=true)(hb:fn.body=some c)(hr:fn.results=#[.tmp t])
 (hok:m9 fn.ntmps bad c=true) (hn:args.length≤fn.ntmps) (h:AC P 0 bad c (kw (Gf t R)) ⟨gp 0 args,[]⟩):ao P f args R:=by
 refine qp aG hf hcall hb hok hn h fun w w' g' st' a' hk t' s'=>?_;obtain⟨bl,hb⟩:=s'.own;have hfit:=hb.slots t;have hal:=s'.al t;have hend:=mH t' s';unfold Gf at hk;split at hk
 ·rename_i x hx;rw[hx]at hfit;exact⟨_,.pv x,g',none,results_tmp hr _ _ _,hk,hend,⟨rfl,hfit.2⟩,rfl,fun c hc=>by cases hc⟩
 ·rename_i nw e rows hx;rw[hx]at hfit;exact⟨_,_,g',_,results_tmp hr _ _ _,hk,hend,hfit,rfl,pN t' hb⟩
 ·rename_i nw es hx;rw[hx]at hfit;exact⟨_,_,g',_,results_tmp hr _ _ _,hk,hend,hfit,rfl,pN t' hb⟩
 ·rename_i p hx;rw[hx]at hal;have hv:=hal hk.1;refine⟨_,aa st' p,g',bl p,results_tmp hr _ _ _,hk.2,hend,by rw[hv];exact aX hb hk.1,?_,pN t' hb⟩;cases hp:aa st' p<;>first|rfl|(rw[hp]at hk;cases hk.1)
 ·rename_i cc x hx;rw[hx]at hfit;exact⟨_,.pv x,g',none,results_tmp hr _ _ _,hk.2,hend,⟨rfl,(hfit.2.2 hk.1).2⟩,rfl,fun c hc=>by cases hc⟩
 ·rename_i p lo hi hx;rw[hx]at hal;split at hk
  ·rename_i nw e rows hp;obtain⟨rfl,hk⟩:=hk;exact⟨_,_,g',bl p,results_tmp hr _ _ _,hk,hend,pI hb hp hal,rfl,pN t' hb⟩
  ·exact hk.elim
 ·exact hk.elim
theorem aw{P:Program}{f:FuncId}{fn:Func}{c:Code}{args:List PV}{R:SV→Prop}{t:Nat}(aG:P.follows .mixedOrders=true)(hf:P.funcs[f]?=some fn)(hcall:aB P f=true)(hb:fn.body=some c)(hr:fn.results=#[.tmp t])
 (hok:m9 fn.ntmps [] c=true) (hn:args.length≤fn.ntmps) (h:AC P 0 [] c (kw (Gf t R)) ⟨gp 0 args,[]⟩):ao P f args R:=zS [] aG hf hcall hb hr hok hn h
def Mm(P:Program)(t:Nat)(T:TypeId)(R:SV→Prop)(st:St):Prop:=
 gc st (.tmp t)∧(zn P st T (mv st (.tmp t))).2∧tD (zn P st T (mv st (.tmp t))).1∧R (zn P st T (mv st (.tmp t))).1
theorem Gg{P:Program}(bad:List Nat){f:FuncId}{fn:Func}{c:Code}{args:List PV}{R:SV→Prop}(ts:List Nat)(aG:P.follows .mixedOrders=true)(hf:P.funcs[f]?=some fn)(hcall:aB P f=true)(hb:fn.body=some c)(hr:∀tmps w,(results fn tmps).run P w=.ok (.tuple (ts.map fun t=>tmps.getD t undef).toArray) w)
 (hok:m9 fn.ntmps bad c=true) (hn:args.length≤fn.ntmps) (h:AC P 0 bad c (kw (Ic ts R)) ⟨gp 0 args,[]⟩):ao P f args R:=by
 refine qp aG hf hcall hb hok hn h fun w w' g' st' a' hk t' s'=>?_;obtain⟨g2,t2,_,_,s2,f2⟩:=lB _ s' hk.1;refine⟨_,_,g2,none,hr _ _,hk.2,mH (t'.trans t2) s2,⟨rfl,_,rfl,?_⟩,rfl,fun c hc=>by cases hc⟩;simpa[List.map_map,Function.comp_def,Act.eval]using f2
theorem Di{P:Program}{f:FuncId}{fn:Func}{c:Code}{args:List PV}{R:SV→Prop}(ts:List Nat)(aG:P.follows .mixedOrders=true)(hf:P.funcs[f]?=some fn)(hcall:aB P f=true)(hb:fn.body=some c)(hr:∀tmps w,(results fn tmps).run P w=.ok (.tuple (ts.map fun t=>tmps.getD t undef).toArray) w)
 (hok:m9 fn.ntmps [] c=true) (hn:args.length≤fn.ntmps) (h:AC P 0 [] c (kw (Ic ts R)) ⟨gp 0 args,[]⟩):ao P f args R:=Gg [] ts aG hf hcall hb hr hok hn h
/-! ### Results of any kind -/
def uc(P:Program)(st:St):ResultVar→PV×St×Prop
 |.tmp t=>bL st (.tmp t)
 | .cell t T => (j8 (zn P (fu P st T (.tmp t)) T (mv (fu P st T (.tmp t)) (.tmp t))).1, fu P st T (.tmp t),
  gc (fu P st T (.tmp t)) (.tmp t)∧(zn P (fu P st T (.tmp t)) T (mv (fu P st T (.tmp t)) (.tmp t))).2∧tD (zn P (fu P st T (.tmp t)) T (mv (fu P st T (.tmp t)) (.tmp t))).1)
def fU(P:Program)(st:St):List ResultVar→List PV×St×Prop
 |[]=>([],st,True)
 |r::rs=>((uc P st r).1::(fU P (uc P st r).2.1 rs).1,(fU P (uc P st r).2.1 rs).2.1,(uc P st r).2.2∧(fU P (uc P st r).2.1 rs).2.2)
def kJ:List PV→PV
 |[x]=>x
 |xs=>.tup xs
def qr(tmps:Array Value):ResultVar→Sem Value
 |.tmp t=>pure (tmps.getD t undef)
 |.cell a t=>do loadVar t (←asAddr (tmps.getD a undef))
theorem vG{P:Program}{t:Nat}{T:TypeId}{g:Gh}{st:St}{a:Act}{w:World}(hs:Sim g st a w)(hg:gc st (.tmp t))(hd:(zn P st T (mv st (.tmp t))).2):
 ∃v,(qr a.tmps (.cell t T)).run P w=.ok v w∧av g w (zn P st T (mv st (.tmp t))).1 v none:=by
 obtain⟨v,h1,h2,_⟩:=CC (P:=P) (st:=st) {dst:=none,op:=.load T (.tmp t),type:=0,pos:= "",after:=#[],guard:=none} T (.tmp t) rfl g a w hs ⟨hg,hd⟩;refine⟨v,?_,h2⟩;simp only[execOp,Act.eval]at h1;have key:(asAddr (a.tmps.getD t undef)>>=loadVar T).run P w=.ok v w:=by
  generalize a.tmps.getD t undef=u at h1;cases u with
  |pointer q=>
   cases q with
   |some q=>
    simp only[Instr.loadAt,Instr.sureAddr,Sem.run_bind,Sem.run_pure,Result.andThen_ok]at h1;simp only[asAddr,Sem.run_bind,Sem.run_pure,Result.andThen_ok];cases hr2:(loadVar T q).run P w with
    |ok x w2=>rw[hr2]at h1;simp at h1;obtain⟨rfl,rfl⟩:=h1;rfl
    |halt x w2=>rw[hr2]at h1;cases h1
   |none=>simp[Instr.loadAt,Instr.sureAddr,stuck]at h1
  |_=>simp[Instr.loadAt,Instr.sureAddr,stuck]at h1
 exact key
theorem Gi{P:Program}(r:ResultVar){g:Gh}{st:St}{a:Act}{w:World}(h:Sim g st a w)(hd:(uc P st r).2.2):
 ∃g',g.to g'∧g.le g'∧g'.n=g.n∧Sim g' (uc P st r).2.1 a w∧∃v,(qr a.tmps r).run P w=.ok v w∧Fit g' (uc P st r).1 v:=by
 cases r with
 |tmp t=>
  obtain⟨g1,t1,l1,n1,s1,f1⟩:=kb h (.tmp t) hd;exact⟨g1,t1,l1,n1,s1,a.tmps.getD t undef,rfl,f1⟩
 |cell t T=>
  obtain⟨h1,h2,h3⟩:=hd;obtain⟨g1,t1,l1,n1,s1⟩:=sB (P:=P) T (.tmp t) h;obtain⟨v,hv,hf⟩:=vG s1 h1 h2;rw[lA h3]at hf;exact⟨g1,t1,l1,n1,s1,v,hv,hf.2⟩
theorem nq{P:Program}:∀(rs:List ResultVar){g:Gh}{st:St}{a:Act}{w:World},Sim g st a w→(fU P st rs).2.2→
 ∃g',g.to g'∧g.le g'∧g'.n=g.n∧Sim g' (fU P st rs).2.1 a w∧∃vs,(rs.mapM (qr a.tmps)).run P w=.ok vs w∧ai g' (fU P st rs).1 vs
 |[],g,st,a,w,h,_=>⟨g,h.refl_to,Gh.le.refl g,rfl,h,[],rfl,rfl⟩
 |r::rs,g,st,a,w,h,hd=>by
  obtain⟨g1,t1,l1,n1,s1,v,e1,f1⟩:=Gi r h hd.1;obtain⟨g2,t2,l2,n2,s2,vs,e2,f2⟩:=nq rs s1 hd.2;refine⟨g2,t1.trans t2,⟨fun c o hc=>l2.I _ _ (l1.I _ _ hc),Nat.le_trans l2.B l1.B,by rw[n2,n1];exact Nat.le_refl _,fun b hb=>by rw[l2.μ b (by rw[n1];exact hb),l1.μ b hb]⟩,n2.trans n1,s2,v::vs,?_,v,vs,rfl,Fit.mono l2 _ _ f1,f2⟩;simp only[List.mapM_cons,Sem.run_bind,e1,Result.andThen_ok,e2,Sem.run_pure]
theorem io{P:Program}{fn:Func}{rs:List ResultVar}(hr:fn.results=rs.toArray){g:Gh}{a:Act}{w:World}{xs:List PV}{vs:List Value}(hl:xs.length=rs.length)(h:(rs.mapM (qr a.tmps)).run P w=.ok vs w)(hf:ai g xs vs):
 ∃v,(results fn a.tmps).run P w=.ok v w∧Fit g (kJ xs) v:=by
 have hm:results fn a.tmps=(do let vs←fn.results.mapM (qr a.tmps);pure (if h:vs.size=1 then vs[0]else .tuple vs)):=by
  unfold results;congr 1
 have hlen:=hf.length;rw[hm,hr,List.mapM_toArray];simp only[Sem.run_bind,Sem.run_map,h,Result.andThen_ok,Sem.run_pure]
 by_cases h1:vs.length=1
 ·obtain⟨v,rfl⟩:=List.length_eq_one_iff.1 h1;obtain⟨x,rfl⟩:∃x,xs=[x]:=List.length_eq_one_iff.1 (by rw[←hlen];rfl);refine⟨v,by simp,?_⟩;obtain⟨v',r,e1,f,_⟩:=hf;cases e1;exact f
 ·refine⟨.tuple vs.toArray,by rw[dif_neg (by simpa using h1)],?_⟩;have:kJ xs=.tup xs:=by
   match xs,hlen with
   |[],_=>rfl
   |[x],hl=>exact absurd hl h1
   |x::y::r,_=>rfl
  rw[this];exact⟨vs.toArray,rfl,by simpa using hf⟩
theorem kQ{P:Program}:∀(rs:List ResultVar)(st:St),(fU P st rs).1.length=rs.length
 |[],_=>rfl
 |r::rs,st=>by simp only[fU,List.length_cons,kQ rs]
def JO(P:Program)(rs:List ResultVar)(R:SV→Prop)(st:St):Prop:=(fU P st rs).2.2∧R (.pv (kJ (fU P st rs).1))
theorem kU{P:Program}(bad:List Nat){f:FuncId}{fn:Func}{c:Code}{args:List PV}{R:SV→Prop}(rs:List ResultVar)(aG:P.follows .mixedOrders=true)(hf:P.funcs[f]?=some fn)(hcall:aB P f=true)(hb:fn.body=some c)(hr:fn.results=rs.toArray)
 (hok:m9 fn.ntmps bad c=true) (hn:args.length≤fn.ntmps) (h:AC P 0 bad c (kw (JO P rs R)) ⟨gp 0 args,[]⟩):ao P f args R:=by
 refine qp aG hf hcall hb hok hn h fun w w' g' st' a' hk t' s'=>?_;obtain⟨g2,t2,l2,n2,s2,vs,e2,f2⟩:=nq rs s' hk.1;obtain⟨v,e3,f3⟩:=io hr (kQ rs st') e2 f2;exact⟨v,_,g2,none,e3,hk.2,mH (t'.trans t2) s2,⟨rfl,f3⟩,rfl,fun c hc=>by cases hc⟩
end Go.AX
namespace Go.AX
open Classical
noncomputable def FU (g:Gh) (w:World) (bl:Pos→Option Nat) (N:Nat):Gh:=
 {I:=g.I,F:=fun c=>if∃s,bl (.slot s)=some c then w.heap[c]?else g.F c,B:=g.B,μ:=g.μ,n:=g.n,n0:=g.n,N:=N,env:=g.env}
theorem vH{g:Gh}{st:St}{a:Act}{w:World}{bl:Pos→Option Nat}(hb:Owns g st a w bl)(N:Nat){s c:Nat}(h:bl (.slot s)=some c):∃o,(FU g w bl N).F c=some o∧w.heap[c]?=some o:=by
 have hlt:=(hb.free _ c h).2.2.1;refine⟨w.heap[c],?_,Array.getElem?_eq_getElem hlt⟩;show(if∃s,bl (.slot s)=some c then w.heap[c]?else g.F c)=_;rw[if_pos ⟨s,h⟩,Array.getElem?_eq_getElem hlt]
theorem qs{g:Gh}{st:St}{a:Act}{w:World}{bl:Pos→Option Nat}(hb:Owns g st a w bl){N c:Nat}(h:(FU g w bl N).F c=none):g.F c=none∧∀s,bl (.slot s)≠some c:=by
 have h2:∀s,bl (.slot s)≠some c:=fun s hs=>by
  obtain⟨o,h1,_⟩:=vH hb N hs;rw[h]at h1;cases h1
 refine⟨?_,h2⟩;have:(if∃s,bl (.slot s)=some c then w.heap[c]?else g.F c)=none:=h
 rwa [if_neg (fun⟨s,hs⟩=>h2 s hs)]at this
theorem Dj{g:Gh}{st:St}{a:Act}{w:World}(h:Sim g st a w){bl:Pos→Option Nat}(hb:Owns g st a w bl){N:Nat}{args:List PV}{vs:List Value}(hv:ai g args vs)(hn:args.length≤N):
    Sim (FU g w bl N) ⟨gp 0 args,st.h⟩ {tmps:=vs.toArray++Array.replicate (N -vs.toArray.size) undef,defers:=[]} w:=by
  have hl:=hv.length
  have hle:g.le (FU g w bl N):=⟨fun _ _ h=>h,Nat.le_refl _,Nat.le_refl _,fun _ _=>rfl⟩
  have hgd:∀s,(vs.toArray++Array.replicate (N -vs.toArray.size) undef).getD s undef=vs.getD s undef:=by
    intro s
    simp only[Array.getD_eq_getD_getElem?,List.getD_eq_getElem?_getD,Array.getElem?_append,List.size_toArray,List.getElem?_toArray,Array.getElem?_replicate]
    split
    · rfl
    · rename_i hs
      rw[List.getElem?_eq_none (by omega)]
      split<;>rfl
  refine { size := ?_, defs := rfl, env := h.env, n := h.n, n0 := Nat.le_refl _, B := h.B, I := h.I, F := fun c o hc => ?_, μI := fun b hbn => ⟨(h.μI b hbn).1, ?_⟩, μinj := h.μinj,
           own:=⟨fun p=>match p with|.slot _=>none|.cell b k=>bl (.cell b k),?_⟩,al:=fun s=>?_}
  · show(vs.toArray++Array.replicate (N -vs.toArray.size) undef).size=N
    simp;omega
  · change(if∃s,bl (.slot s)=some c then w.heap[c]?else g.F c)=some o at hc
    split at hc
    · exact hc
    · exact h.F c o hc
  · show(if∃s,bl (.slot s)=some (g.μ b)then w.heap[g.μ b]?else g.F (g.μ b))=none
    rw[if_neg (fun⟨s,hs⟩=>(hb.free _ _ hs).2.2.2 b hbn rfl)]
    exact(h.μI b hbn).2
  · refine{slots:=fun s=>?_,blocks:=fun b xs hx=>?_,inj:=fun p q c hp hq=>?_,free:=fun p c hp=>?_}
    · show av _ w _ ((vs.toArray++Array.replicate (N -vs.toArray.size) undef).getD s undef) none
      rw[hgd]
      have:=lG (FU g w bl N) args vs 0 s (ai.mono hle _ _ hv) w
      simpa using this
    · obtain⟨arr,T,h1,h2,h3⟩:=hb.blocks b xs hx
      exact⟨arr,T,h1,h2,fun k x hk=>⟨(h3 k x hk).1,av.frame hle (fun _ _=>rfl) (h3 k x hk).2⟩⟩
    · cases p with
      |slot s=>cases hp
      |cell b k=>
        cases q with
        |slot s=>cases hq
        |cell b' k'=>exact hb.inj _ _ c hp hq
    · cases p with
      |slot s=>cases hp
      |cell b k=>
        obtain⟨f1,f2,f3,f4⟩:=hb.free _ c hp
        refine⟨f1,?_,f3,f4⟩
        show(if∃s,bl (.slot s)=some c then w.heap[c]?else g.F c)=none
        rw[if_neg (fun⟨s,hs⟩=>by have:=hb.inj _ _ c hs hp;cases this)]
        exact f2
  · obtain⟨x,hx⟩:=mG args 0 s
    simp only[hx];trivial
def qt(g g2:Gh):Gh:={g2 with F:=g.F,n0:=g.n0,N:=g.N}
theorem Dk{g:Gh}{st:St}{a:Act}{w:World}(h:Sim g st a w){bl:Pos→Option Nat}(hb:Owns g st a w bl){N:Nat}{g2:Gh}(t:(FU g w bl N).to g2):g.to (qt g g2):=
 ⟨t.I,rfl,t.B,rfl,rfl,t.env,Nat.le_trans h.n0 t.n,fun b hbn=>t.μ b (Nat.lt_of_lt_of_le hbn h.n0),fun c hF hI=>t.FI c (fun hn=>hF (qs hb hn).1) hI⟩
theorem zT{g:Gh}{st:St}{a:Act}{w:World}(h:Sim g st a w){bl:Pos→Option Nat}(hb:Owns g st a w bl){N:Nat}{g2:Gh}(t:(FU g w bl N).to g2){st2:St}{a2:Act}{w2:World}(s2:Sim g2 st2 a2 w2)
 {bl2:Pos→Option Nat} (hb2:Owns g2 st2 a2 w2 bl2):Sim (qt g g2) ⟨aA eK st.t,st2.h⟩ a w2∧
  Owns (qt g g2) ⟨aA eK st.t,st2.h⟩ a w2 (fun p=>match p with|.slot s=>bl (.slot s)|.cell b k=>bl2 (.cell b k)):=by
 have hF2:g2.F=(FU g w bl N).F:=t.F;have hle:g.le (qt g g2):=⟨t.I,by show g2.B≤g.B;rw[t.B];exact Nat.le_refl _,t.n,fun b hbn=>t.μ b hbn⟩;have hle2:g2.le (qt g g2):=⟨fun _ _ h=>h,Nat.le_refl _,Nat.le_refl _,fun _ _=>rfl⟩;have hslot:∀s c,bl (.slot s)=some c→∃o,g2.F c=some o∧w.heap[c]?=some o∧w2.heap[c]?=some o:=fun s c hs=>by
  obtain⟨o,h1,h2⟩:=vH hb N hs;rw[←hF2]at h1;exact⟨o,h1,h2,s2.F c o h1⟩
 have hFn:∀c,g2.F c=none→g.F c=none∧∀s,bl (.slot s)≠some c:=fun c hc=>qs (N:=N) hb (by rw[←hF2];exact hc);have hown:Owns (qt g g2) ⟨aA eK st.t,st2.h⟩ a w2 (fun p=>match p with|.slot s=>bl (.slot s)|.cell b k=>bl2 (.cell b k)):=by
  refine{slots:=fun s=>?_,blocks:=fun b xs hx=>?_,inj:=fun p q c hp hq=>?_,free:=fun p c hp=>?_}
  ·simp only[aS];exact av.frame hle (fun c hc=>by obtain⟨o,_,h2,h3⟩:=hslot s c hc;rw[h2,h3]) (av.kill eK (hb.slots s))
  ·obtain⟨arr,T,h1,h2,h3⟩:=hb2.blocks b xs hx;exact⟨arr,T,h1,h2,fun k x hk=>⟨(h3 k x hk).1,av.frame hle2 (fun _ _=>rfl) (h3 k x hk).2⟩⟩
  ·cases p with
   |slot s=>
    cases q with
    |slot s'=>exact hb.inj _ _ c hp hq
    |cell b k=>exact absurd hp ((hFn c (hb2.free _ c hq).2.1).2 s)
   |cell b k=>
    cases q with
    |slot s'=>exact absurd hq ((hFn c (hb2.free _ c hp).2.1).2 s')
    |cell b' k'=>exact hb2.inj _ _ c hp hq
  ·cases p with
   |slot s=>
    obtain⟨f1,f2,f3,f4⟩:=hb.free _ c hp;obtain⟨o,h1,_,h3⟩:=hslot s c hp;refine⟨t.FI c (fun hn=>by rw[hF2,hn]at h1;cases h1) f1,f2,(Array.getElem?_eq_some_iff.1 h3).1,fun b hbn e=>?_⟩;have:=(s2.μI b hbn).2
    change g2.μ b=c at e
    rw[e,h1]at this;cases this
   |cell b k=>
    obtain⟨f1,f2,f3,f4⟩:=hb2.free _ c hp;exact⟨f1,(hFn c f2).1,f3,f4⟩
 refine⟨{size:=h.size,defs:=h.defs,env:=s2.env,n:=s2.n,n0:=Nat.le_trans h.n0 t.n,B:=s2.B,I:=s2.I,F:=fun c o hc=>?_,μI:=fun b hbn=>⟨(s2.μI b hbn).1,(hFn _ (s2.μI b hbn).2).1⟩,μinj:=s2.μinj,own:=⟨_,hown⟩,al:=fun s=>?_},hown⟩
 ·refine s2.F c o ?_;rw[hF2];show(if∃s,bl (.slot s)=some c then w.heap[c]?else g.F c)=some o;rw[if_neg (fun⟨s,hs⟩=>by have:=(hb.free _ c hs).2.1;change g.F c=some o at hc;rw[this]at hc;cases hc)];exact hc
 ·simp only[aS];rcases a8 eK (look st.t s)with e|⟨e,hav⟩
  ·rw[e];trivial
  ·rw[e];refine bN.congrA (q:=eK) (fun p hqp hp=>?_) hav (h.al s);cases p with
   |cell b k=>cases hqp
   |slot s'=>
    simp only[aa,aS]at hp⊢;exact⟨dH hp,rfl⟩
theorem nr{P:Program}{bad:List Nat}{f:FuncId}{fn:Func}{c:Code}{args:List PV}{h:List (List SV)}{R:SV→List (List SV)→Prop}{K:St→Prop}(aG:P.follows .mixedOrders=true)(hf:P.funcs[f]?=some fn)(hcall:aB P f=true)(hb:fn.body=some c)
 (hok:m9 fn.ntmps bad c=true) (hn:args.length≤fn.ntmps) (hA:AC P h.length bad c (kw K) ⟨gp 0 args,h⟩)
 (hK:∀(g':Gh)(st':St)(a':Act)(w':World),K st'→g'.n0≤h.length→Sim g' st' a' w'→∃v r g2 st2 bl2 o,(results fn a'.tmps).run P w'=.ok v w'∧g'.to g2∧Sim g2 st2 a' w'∧Owns g2 st2 a' w' bl2∧R r st2.h∧av g2 w' r v o∧r.inCell=true∧∀c,o=some c→∃t,bl2 (.slot t)=some c):
 aE P f args h R:=by
 refine⟨hcall,fun g st a w vs hs hh hv=>?_⟩;refine calls_of_wp hf hb ?_;obtain⟨bl,hbl⟩:=hs.own;have hsi:=Dj hs hbl (N:=fn.ntmps) hv hn;rw[hh]at hsi;refine l8 aG c hA (g:=FU g w bl fn.ntmps) ⟨hok,by show g.n≤h.length;rw[hs.n,hh];exact Nat.le_refl _⟩ hsi fun e st' g' a' w' hq t' s'=>?_;have fin:K st'→a'.defers=[]∧∃v,(results fn a'.tmps).run P w'=.ok v w'∧∃v' r h' g',Ending.returned v=.returned v'∧R r h'∧g.to g'∧∀d,bR g.N d→Sim g' (km d r ⟨aA eK st.t,h'⟩) (a.put d v') w':=fun hk=>by
  obtain⟨v,r,g2,st2,bl2,o,h1,h2,h3,h4,h5,h6,h7,h8⟩:=hK g' st' a' w' hk (by rw[t'.n0];show g.n≤_;rw[hs.n,hh];exact Nat.le_refl _) s';have t2:=t'.trans h2;obtain⟨so,oo⟩:=zT hs hbl t2 h3 h4;refine⟨s'.defs,v,h1,v,r,st2.h,qt g g2,rfl,h5,Dk hs hbl t2,fun d hd=>?_⟩;have hle2:g2.le (qt g g2):=⟨fun _ _ h=>h,Nat.le_refl _,Nat.le_refl _,fun _ _=>rfl⟩;have hfit:av (qt g g2) w' r v o:=av.frame hle2 (fun _ _=>rfl) h6;cases d with
  |none=>exact so
  |some d=>
   have hfree:∀c,o=some c→c<w'.heap.size∧FreeAt (qt g g2) (fun p=>match p with|.slot s=>bl (.slot s)|.cell b k=>bl2 (.cell b k)) c:=fun c hc=>by
    obtain⟨t,ht⟩:=h8 c hc;obtain⟨f1,f2,f3,f4⟩:=h4.free _ c ht;have hFn:=qs (N:=fn.ntmps) hbl (c:=c) (by rw[←t2.F];exact f2);refine⟨f3,f1,hFn.1,f4,fun p hp=>?_⟩;cases p with
    |slot s=>exact hFn.2 s hp
    |cell b k=>have:=h4.inj _ _ c ht hp;cases this
   cases r with
   |pv x=>exact so.put hd (by rw[hfit.1]at hfit;exact hfit) trivial rfl
   |own nw e rows=>exact so.putOwn oo hd rfl (Nat.le_refl _) (fun _ _ _=>rfl) hfit rfl hfree
   |omap nw es=>exact so.putOwn oo hd rfl (Nat.le_refl _) (fun _ _ _=>rfl) hfit rfl hfree
   |_=>cases h7
 cases e with
 |normal=>exact fin hq
 |ret=>exact fin hq
 |_=>exact hq.elim
def Gj(t:Nat)(R:SV→List (List SV)→Prop)(st:St):Prop:=
 match look st.t t with
 |.pv x=>R (.pv x) st.h
 |.own nw e rows=>R (.own nw e rows) st.h
 |.omap nw es=>R (.omap nw es) st.h
 |.opt c (.pv x)=>c∧R (.pv x) st.h
 |_=>False
def Dl(ts:List Nat)(R:SV→List (List SV)→Prop)(st:St):Prop:=(cT st (ts.map .tmp)).2.2∧R (.pv (.tup (cT st (ts.map .tmp)).1)) (cT st (ts.map .tmp)).2.1.h
theorem Ie{P:Program}(bad:List Nat){f:FuncId}{fn:Func}{c:Code}{args:List PV}{h:List (List SV)}{R:SV→List (List SV)→Prop}{t:Nat}(aG:P.follows .mixedOrders=true)(hf:P.funcs[f]?=some fn)(hcall:aB P f=true)(hb:fn.body=some c)(hr:fn.results=#[.tmp t])
 (hok:m9 fn.ntmps bad c=true) (hn:args.length≤fn.ntmps) (hA:AC P h.length bad c (kw (Gj t R)) ⟨gp 0 args,h⟩):aE P f args h R:=by
 refine nr aG hf hcall hb hok hn hA fun g' st' a' w' hk _ s'=>?_;obtain⟨bl,hb⟩:=s'.own;have hfit:=hb.slots t;unfold Gj at hk;split at hk
 ·rename_i x hx;rw[hx]at hfit;exact⟨_,.pv x,g',st',bl,none,results_tmp hr _ _ _,s'.refl_to,s',hb,hk,⟨rfl,hfit.2⟩,rfl,fun c hc=>by cases hc⟩
 ·rename_i nw e rows hx;rw[hx]at hfit;exact⟨_,_,g',st',bl,_,results_tmp hr _ _ _,s'.refl_to,s',hb,hk,hfit,rfl,fun c hc=>⟨t,hc⟩⟩
 ·rename_i nw es hx;rw[hx]at hfit;exact⟨_,_,g',st',bl,_,results_tmp hr _ _ _,s'.refl_to,s',hb,hk,hfit,rfl,fun c hc=>⟨t,hc⟩⟩
 ·rename_i cc x hx;rw[hx]at hfit;exact⟨_,.pv x,g',st',bl,none,results_tmp hr _ _ _,s'.refl_to,s',hb,hk.2,⟨rfl,(hfit.2.2 hk.1).2⟩,rfl,fun c hc=>by cases hc⟩
 ·exact hk.elim
theorem l9{P:Program}{f:FuncId}{fn:Func}{c:Code}{args:List PV}{h:List (List SV)}{R:SV→List (List SV)→Prop}{t:Nat}(aG:P.follows .mixedOrders=true)(hf:P.funcs[f]?=some fn)(hcall:aB P f=true)(hb:fn.body=some c)(hr:fn.results=#[.tmp t])
 (hok:m9 fn.ntmps [] c=true) (hn:args.length≤fn.ntmps) (hA:AC P h.length [] c (kw (Gj t R)) ⟨gp 0 args,h⟩):aE P f args h R:=Ie [] aG hf hcall hb hr hok hn hA
theorem Dm{P:Program}(bad:List Nat){f:FuncId}{fn:Func}{c:Code}{args:List PV}{h:List (List SV)}{R:SV→List (List SV)→Prop}(ts:List Nat)(aG:P.follows .mixedOrders=true)(hf:P.funcs[f]?=some fn)(hcall:aB P f=true)(hb:fn.body=some c)
 (hr:∀tmps w,(results fn tmps).run P w=.ok (.tuple (ts.map fun t=>tmps.getD t undef).toArray) w) (hok:m9 fn.ntmps bad c=true) (hn:args.length≤fn.ntmps) (hA:AC P h.length bad c (kw (Dl ts R)) ⟨gp 0 args,h⟩):aE P f args h R:=by
 refine nr aG hf hcall hb hok hn hA fun g' st' a' w' hk _ s'=>?_;obtain⟨g2,t2,_,_,s2,f2⟩:=lB _ s' hk.1;obtain⟨bl2,hb2⟩:=s2.own;refine⟨_,_,g2,_,bl2,none,hr _ _,t2,s2,hb2,hk.2,⟨rfl,_,rfl,?_⟩,rfl,fun c hc=>by cases hc⟩;simpa[List.map_map,Function.comp_def,Act.eval]using f2
theorem sF{P:Program}{f:FuncId}{fn:Func}{c:Code}{args:List PV}{h:List (List SV)}{R:SV→List (List SV)→Prop}(ts:List Nat)(aG:P.follows .mixedOrders=true)(hf:P.funcs[f]?=some fn)(hcall:aB P f=true)(hb:fn.body=some c)
 (hr:∀tmps w,(results fn tmps).run P w=.ok (.tuple (ts.map fun t=>tmps.getD t undef).toArray) w) (hok:m9 fn.ntmps [] c=true) (hn:args.length≤fn.ntmps) (hA:AC P h.length [] c (kw (Dl ts R)) ⟨gp 0 args,h⟩):aE P f args h R:=Dm [] ts aG hf hcall hb hr hok hn hA
def Hy(P:Program)(rs:List ResultVar)(R:SV→List (List SV)→Prop)(st:St):Prop:=(fU P st rs).2.2∧R (.pv (kJ (fU P st rs).1)) (fU P st rs).2.1.h
theorem dh{P:Program}(bad:List Nat){f:FuncId}{fn:Func}{c:Code}{args:List PV}{h:List (List SV)}{R:SV→List (List SV)→Prop}(rs:List ResultVar)(aG:P.follows .mixedOrders=true)(hf:P.funcs[f]?=some fn)(hcall:aB P f=true)(hb:fn.body=some c)
 (hr:fn.results=rs.toArray) (hok:m9 fn.ntmps bad c=true) (hn:args.length≤fn.ntmps) (hA:AC P h.length bad c (kw (Hy P rs R)) ⟨gp 0 args,h⟩):aE P f args h R:=by
 refine nr aG hf hcall hb hok hn hA fun g' st' a' w' hk _ s'=>?_;obtain⟨g2,t2,l2,n2,s2,vs,e2,f2⟩:=nq rs s' hk.1;obtain⟨v,e3,f3⟩:=io hr (kQ rs st') e2 f2;obtain⟨bl2,hb2⟩:=s2.own;exact⟨v,_,g2,_,bl2,none,e3,t2,s2,hb2,hk.2,⟨rfl,f3⟩,rfl,fun c hc=>by cases hc⟩
end Go.AX
namespace Go.AX
attribute [simp] look aa SV.isOwn SV.inCell ev Mi mv Mj gc fk aQ fl pD xo jK pE Cx Cy Cz jf gB AY j7 eJ ms AZ uZ ig rowsOf ia rY pX o8 live nX zk A1 xv ld1 tD j8 Ml zn IX u7 A2 aK cY sa A3 IY Hs bnd cH A4 St.put cb aA SV.avoids cN setPos St.grow splice aC j9 zu CJ pop PV.one bn mz bL cT putD zx jk dY ke p9 frzC vw F4 PV.nw F5 A9 F6 SV.nwS km bv iL xN tU tV zK qh AE gF sC qj SV.isFree IZ zM AG fR tmpsOf t6 qm looks bU dM vv kq bots dstsOf M4 I0 Df ub xY gp kw Gf Ic pM zN t7 zP qk nk xO CU eK Gj Dl tH oM pG mw nZ lZ ii xx de entriesOf isMap sj xP vp gk CY ij PV.bel bO bP ft SV.bel iH cP dz xV fN eq Lo vx SV.int SV.bool lD Mm oh C1 C6 C7 iF jU Hw xp iE tW xM tN tP zD kj tO carry zE oO l5 jn ng xI JK Gc ki iK vl jp tQ H0 eC jh xZ fu kn uc fU kJ JO Hy partOf pc cM l6 Bf o9 tR CR PV.old xC xD mA zH Hu copyV Hv isLit zF CS xQ tJ se JJ qi Ln Dg zR
@[simp] theorem I4(k:IntKind)(n:Int):(Value.int k n).cells=#[.int k n]:=rfl
@[simp] theorem Mn(k:IntKind)(n:Int):(Value.int k n).oneCell'=true:=rfl
@[simp] theorem Lp(b:Bool):(Value.bool b).oneCell'=true:=rfl
@[simp] theorem I5(s:ByteArray):(Value.string s).oneCell'=true:=rfl
@[simp] theorem Mo(p:Option Addr):(Value.pointer p).oneCell'=true:=rfl
@[simp] theorem JQ(p:Option Addr)(n c:Nat):(Value.slice p n c).oneCell'=true:=rfl
@[simp] theorem Mp(r:Option Nat):(Value.map r).oneCell'=true:=rfl
@[simp] theorem Lq(f:Fn)(a b:Array Value):(Value.func f a b).oneCell'=true:=rfl
@[simp] theorem Lr:List.range 0=[]:=rfl
@[simp] theorem Ls:List.range 1=[0]:=rfl
@[simp] theorem Lt:List.range 2=[0,1]:=rfl
@[simp] theorem Lu:List.range 3=[0,1,2]:=rfl
@[simp] theorem Lv:List.range 4=[0,1,2,3]:=rfl
@[simp] theorem Lw:List.range 5=[0,1,2,3,4]:=rfl
@[simp] theorem Lx:List.range 6=[0,1,2,3,4,5]:=rfl
@[simp] theorem Ly:List.range 7=[0,1,2,3,4,5,6]:=rfl
@[simp] theorem Lz:List.range 8=[0,1,2,3,4,5,6,7]:=rfl
@[simp] theorem LA:List.range 9=[0,1,2,3,4,5,6,7,8]:=rfl
@[simp] theorem JR:List.range 10=[0,1,2,3,4,5,6,7,8,9]:=rfl
@[simp] theorem JS:List.range 11=[0,1,2,3,4,5,6,7,8,9,10]:=rfl
@[simp] theorem JT:List.range 12=[0,1,2,3,4,5,6,7,8,9,10,11]:=rfl
@[simp] theorem JU:List.range 13=[0,1,2,3,4,5,6,7,8,9,10,11,12]:=rfl
@[simp] theorem JV:List.range 14=[0,1,2,3,4,5,6,7,8,9,10,11,12,13]:=rfl
@[simp] theorem JW:List.range 15=[0,1,2,3,4,5,6,7,8,9,10,11,12,13,14]:=rfl
@[simp] theorem JX:List.range 16=[0,1,2,3,4,5,6,7,8,9,10,11,12,13,14,15]:=rfl
/-! ### Steps: what is still to come stays folded -/
section
variable {P : Program} {k0 : Nat} {bad : List Nat} {Q : Exit → St → Prop} {st : St} {K : St → Prop} {ops : List Oper}
@[simp] theorem LB:AC P k0 bad .skip Q st=Q .normal st:=rfl
@[simp] theorem If(id:Nat)(ops:Array Oper):AC P k0 bad (.region id ops false) Q st=if jU bad id=true then jW P k0 ops (Q .normal) st else iM P ops.toList (Q .normal) ops.toList st:=rfl
@[simp] theorem Ig(id:Nat)(ops:Array Oper):AC P k0 bad (.region id ops true) Q st=if jU bad id=true then aY P k0 ops (Q .normal) st else vx P ops.toList (Q .normal) st:=rfl
@[simp] theorem Mq(x y:Code):AC P k0 bad (.seq x y) Q st=AC P k0 bad x (Df (AC P k0 bad y Q) Q) st:=rfl
@[simp] theorem zU(c:Operand)(x y:Code):AC P k0 bad (.cond c x y) Q st=(gc st c∧xo (mv st c)∧(pD (mv st c)=true→AC P k0 bad x Q st)∧(pD (mv st c)=false→AC P k0 bad y Q st)):=rfl
@[simp high] theorem I6(c:Operand)(x y:Code)(h:pD (mv st c)=true):AC P k0 bad (.cond c x y) Q st=(gc st c∧xo (mv st c)∧AC P k0 bad x Q st):=by
 rw[zU,h];exact propext ⟨fun⟨a,b,c,_⟩=>⟨a,b,c rfl⟩,fun⟨a,b,c⟩=>⟨a,b,fun _=>c,fun h=>by cases h⟩⟩
@[simp high] theorem I7(c:Operand)(x y:Code)(h:pD (mv st c)=false):AC P k0 bad (.cond c x y) Q st=(gc st c∧xo (mv st c)∧AC P k0 bad y Q st):=by
 rw[zU,h];exact propext ⟨fun⟨a,b,_,c⟩=>⟨a,b,c rfl⟩,fun⟨a,b,c⟩=>⟨a,b,(fun h=>by cases h),fun _=>c⟩⟩
@[simp] theorem JY(id:Nat)(x:Code):AC P k0 bad (.block id x) Q st=AC P k0 bad x (ub id Q) st:=rfl
@[simp] theorem JZ(l:Nat):AC P k0 bad (.label l) Q st=Q .normal st:=rfl
@[simp] theorem J3(x:Code):AC P k0 bad (.scope x) Q st=AC P k0 bad x (xY Q) st:=rfl
@[simp] theorem LC(id:Nat):AC P k0 bad (.exit id) Q st=Q (.exit id) st:=rfl
@[simp] theorem Mr:AC P k0 bad .ret Q st=Q .ret st:=rfl
@[simp] theorem LD(x:Code):AC P k0 bad (.loop x) Q st=aH k0 (AC P k0 bad x) Q st:=rfl
@[simp] theorem J4:iM P ops K [] st=K st:=rfl
@[simp] theorem I8(o:Oper)(rest:List Oper):iM P ops K (o::rest) st=eq P ops o (iM P ops K rest) st:=rfl
end
section
variable {P : Program} {ops : List Oper} {q : Pos → Bool} {base : St} {K : List (Nat × SV) → Prop} {acc : List (Nat × SV)} {K0 : St → Prop}
@[simp] theorem LE:Bi P K0 [] base=K0 base:=rfl
@[simp] theorem J5 (o : Oper) (rest : List Oper) : Bi P K0 (o :: rest) base = (match iF o with
 |some (d,t)=>match dX P t with
  |some zs=>bn zs=true∧Bi P K0 rest ((base.grow (zs.map .pv)).put d (.pv (.ptr base.h.length 0)))
  |none=>False
 |none=>Bi P K0 rest base):=rfl
@[simp] theorem I9:xW P ops K0 base acc=Bi P (iM P ops K0 (ops.drop (bU ops))) (ops.take (bU ops)) ⟨acc++base.t,base.h⟩:=rfl
@[simp] theorem Ms:AQ P ops q base K [] acc=K acc:=rfl
@[simp] theorem Ih(o:Oper)(rest:List Oper):AQ P ops q base K (o::rest) acc=Lo P ops q base o (AQ P ops q base K rest) acc:=rfl
end
section
variable {P : Program} {ops : List Oper} {K : St → Prop} {st : St}
@[simp] theorem Ja:mF P ops K .done st=K st:=rfl
@[simp] theorem Jb(i:Nat)(r:Sch):mF P ops K (.take i r) st=eC P ops i (mF P ops K r) st:=rfl
@[simp] theorem Jc(l:List (Nat×Sch)):mF P ops K (.fork l) st=oQ P ops K l st:=rfl
@[simp] theorem Jd:oQ P ops K [] st=True:=rfl
@[simp] theorem Ii(i:Nat)(r:Sch)(l:List (Nat×Sch)):oQ P ops K ((i,r)::l) st=(eC P ops i (mF P ops K r) st∧oQ P ops K l st):=rfl
end
end Go.AX
namespace Go.AX
abbrev ae(n:Int):PV:=.lit (.int .i64 n)
abbrev BL(b:Bool):PV:=.lit (.bool b)
def aM(n:Int):Int:=IntKind.i64.wrap n
@[simp] theorem LJ(n:Int):IntKind.i64.wrap n=aM n:=rfl
theorem Ij(n:Int):aM n=(n+9223372036854775808) %18446744073709551616 -9223372036854775808:=by
 unfold aM;rw[IntKind.wrap_i64]
theorem ah{n:Int}(h1:-9223372036854775808≤n)(h2:n≤9223372036854775807):aM n=n:=by rw[Ij];omega
@[simp] theorem rO(k:Nat)(a b:List (List PV)):bP k (a++b)↔bP k a∧bP k b:=by
 simp only[gE,List.mem_append];constructor
 ·intro h;exact⟨fun r hr=>h r (.inl hr),fun r hr=>h r (.inr hr)⟩
 ·rintro⟨h1,h2⟩ r (hr|hr)
  ·exact h1 r hr
  ·exact h2 r hr
/-! ### Arguments in other words -/
def PV.as(x y:PV):Prop:=∀(w:World)(v:Value),Fit (dw w) x v→Fit (dw w) y v
theorem PV.as.refl(x:PV):PV.as x x:=fun _ _ h=>h
def J6:List PV→List PV→Prop
 |[],ys=>ys=[]
 |x::xs,ys=>∃y r,ys=y::r∧PV.as x y∧J6 xs r
theorem zV{w:World}:∀{xs ys:List PV}{vs:List Value},J6 xs ys→ai (dw w) xs vs→ai (dw w) ys vs
 |[],_,_,h,h'=>by simp only[J6]at h;subst h;exact h'
 |x::xs,_,_,h,h'=>by
  simp only[J6]at h;obtain⟨y,r,rfl,h1,h2⟩:=h;obtain⟨v,q,rfl,h3,h4⟩:=h';exact⟨v,q,rfl,h1 w v h3,zV h2 h4⟩
theorem ao.conv{P:Program}{f:FuncId}{xs ys:List PV}{R:SV→Prop}(h:ao P f ys R)(hc:J6 xs ys):ao P f xs R:=
 ⟨h.1,fun w vs hv=>h.2 w vs (zV hc hv)⟩
end Go.AX
namespace Go.AX
mutual
def cz:PV→PV→Prop
  |.agg xs,.agg ys=>cI xs ys
  |.tup xs,.tup ys=>cI xs ys
  |.seq nw e rows,.seq nw' e' rows'=>(nw'=true→nw=true)∧e=e'∧rows=rows'
  |.lit v,.seq _ _ rows=>ig v=true∧rows=[]
  |x,y=>x=y
def cI:List PV→List PV→Prop
  |[],[]=>True
  |x::xs,y::ys=>cz x y∧cI xs ys
  |_,_=>False
end
mutual
theorem ui{g:Gh}:∀(x y:PV)(v:Value),cz x y→Fit g x v→Fit g y v
  |.agg xs,.agg ys,_,h,⟨vs,h1,h2⟩=>⟨vs,h1,nt xs ys _ (by simpa only[cz]using h) h2⟩
  |.tup xs,.tup ys,_,h,⟨vs,h1,h2⟩=>⟨vs,h1,nt xs ys _ (by simpa only[cz]using h) h2⟩
  |.seq nw e rows,.seq nw' e' rows',v,h,⟨p,cap,h1,hc,h2⟩=>by
    simp only[cz]at h
    obtain⟨hn,rfl,rfl⟩:=h
    exact⟨p,cap,h1,hc,h2.imp id fun⟨c,off,arr,T,fz,vs,a,b,n,r,q⟩=>⟨c,off,arr,T,fz,vs,a,b,fun hh=>n (hn hh),r,q⟩⟩
  |.lit u,.seq nw e rows,v,h,hf=>by
    simp only[cz]at h
    obtain⟨hn,rfl⟩:=h
    have hv:v=u:=hf
    rw[hv,fq hn]
    exact⟨none,0,rfl,Nat.le_refl _,.inl rfl⟩
  |.bot,y,v,h,hf=>by cases y<;>first|exact hf|(simp only[cz]at h;cases h)
  |.iptr _ _ _ _,y,v,h,hf=>by cases y<;>simp only[cz]at h<;>first|(cases h;exact hf)|cases h
  |.ptr _ _,y,v,h,hf=>by cases y<;>simp only[cz]at h<;>first|(cases h;exact hf)|cases h
  |.bsl _ _ _ _ _,y,v,h,hf=>by cases y<;>simp only[cz]at h<;>first|(cases h;exact hf)|cases h
  |.fn _ _ _,y,v,h,hf=>by cases y<;>simp only[cz]at h<;>first|(cases h;exact hf)|cases h
  |.amap _ _,y,v,h,hf=>by cases y<;>simp only[cz]at h<;>first|(cases h;exact hf)|cases h
  |.ifc _ _,y,v,h,hf=>by cases y<;>simp only[cz]at h<;>first|(cases h;exact hf)|cases h
  |.lit u,.bot,v,h,hf=>trivial
  |.lit u,.lit u',v,h,hf=>by simp only[cz]at h;cases h;exact hf
  |.lit u,.agg _,v,h,hf=>by simp only[cz]at h;cases h
  |.lit u,.tup _,v,h,hf=>by simp only[cz]at h;cases h
  |.lit u,.iptr _ _ _ _,v,h,hf=>by simp only[cz]at h;cases h
  |.lit u,.ptr _ _,v,h,hf=>by simp only[cz]at h;cases h
  |.lit u,.bsl _ _ _ _ _,v,h,hf=>by simp only[cz]at h;cases h
  |.lit u,.fn _ _ _,v,h,hf=>by simp only[cz]at h;cases h
  |.lit u,.amap _ _,v,h,hf=>by simp only[cz]at h;cases h
  |.lit u,.ifc _ _,v,h,hf=>by simp only[cz]at h;cases h
  |.agg xs,.bot,v,h,hf=>trivial
  |.agg xs,.lit _,v,h,hf=>by simp only[cz]at h;cases h
  |.agg xs,.tup _,v,h,hf=>by simp only[cz]at h;cases h
  |.agg xs,.seq _ _ _,v,h,hf=>by simp only[cz]at h;cases h
  |.agg xs,.iptr _ _ _ _,v,h,hf=>by simp only[cz]at h;cases h
  |.agg xs,.ptr _ _,v,h,hf=>by simp only[cz]at h;cases h
  |.agg xs,.bsl _ _ _ _ _,v,h,hf=>by simp only[cz]at h;cases h
  |.agg xs,.fn _ _ _,v,h,hf=>by simp only[cz]at h;cases h
  |.agg xs,.amap _ _,v,h,hf=>by simp only[cz]at h;cases h
  |.agg xs,.ifc _ _,v,h,hf=>by simp only[cz]at h;cases h
  |.tup xs,.bot,v,h,hf=>trivial
  |.tup xs,.lit _,v,h,hf=>by simp only[cz]at h;cases h
  |.tup xs,.agg _,v,h,hf=>by simp only[cz]at h;cases h
  |.tup xs,.seq _ _ _,v,h,hf=>by simp only[cz]at h;cases h
  |.tup xs,.iptr _ _ _ _,v,h,hf=>by simp only[cz]at h;cases h
  |.tup xs,.ptr _ _,v,h,hf=>by simp only[cz]at h;cases h
  |.tup xs,.bsl _ _ _ _ _,v,h,hf=>by simp only[cz]at h;cases h
  |.tup xs,.fn _ _ _,v,h,hf=>by simp only[cz]at h;cases h
  |.tup xs,.amap _ _,v,h,hf=>by simp only[cz]at h;cases h
  |.tup xs,.ifc _ _,v,h,hf=>by simp only[cz]at h;cases h
  |.seq _ _ _,.bot,v,h,hf=>trivial
  |.seq _ _ _,.lit _,v,h,hf=>by simp only[cz]at h;cases h
  |.seq _ _ _,.agg _,v,h,hf=>by simp only[cz]at h;cases h
  |.seq _ _ _,.tup _,v,h,hf=>by simp only[cz]at h;cases h
  |.seq _ _ _,.iptr _ _ _ _,v,h,hf=>by simp only[cz]at h;cases h
  |.seq _ _ _,.ptr _ _,v,h,hf=>by simp only[cz]at h;cases h
  |.seq _ _ _,.bsl _ _ _ _ _,v,h,hf=>by simp only[cz]at h;cases h
  |.seq _ _ _,.fn _ _ _,v,h,hf=>by simp only[cz]at h;cases h
  |.seq _ _ _,.amap _ _,v,h,hf=>by simp only[cz]at h;cases h
  |.seq _ _ _,.ifc _ _,v,h,hf=>by simp only[cz]at h;cases h
theorem nt{g:Gh}:∀(xs ys:List PV)(vs:List Value),cI xs ys→ai g xs vs→ai g ys vs
  |[],[],_,_,h=>h
  |[],_::_,_,h,_=>by simp only[cI]at h
  |_::_,[],_,h,_=>by simp only[cI]at h
  |x::xs,y::ys,_,h,⟨v,r,h1,h2,h3⟩=>by
    simp only[cI]at h
    exact⟨v,r,h1,ui x y v h.1 h2,nt xs ys r h.2 h3⟩
end
def zW:SV→SV→Prop
 |.pv x,.pv y=>y=.bot∨cz x y
 |.own nw e rows,.own nw' e' rows'=>(nw'=true→nw=true)∧e=e'∧rows=rows'
 |x,y=>y=x∨y=.pv .bot
theorem lI{x y:SV}(h:zW x y):y=x∨y=.pv .bot∨(∃a b,x=.pv a∧y=.pv b∧cz a b)∨(∃nw nw' e rows,x=.own nw e rows∧y=.own nw' e rows∧(nw'=true→nw=true)):=by
 unfold zW at h;split at h
 ·rename_i a b;rcases h with rfl|h
  ·exact .inr (.inl rfl)
  ·exact .inr (.inr (.inl ⟨a,b,rfl,rfl,h⟩))
 ·obtain⟨h1,rfl,rfl⟩:=h;exact .inr (.inr (.inr ⟨_,_,_,_,rfl,rfl,h1⟩))
 ·exact h.imp id .inl
theorem pO{x y:SV}(h:zW x y)(ho:y.isOwn=true):x.isOwn=true∧(y=x∨∃nw nw' e rows,x=.own nw e rows∧y=.own nw' e rows∧(nw'=true→nw=true)):=by
 rcases lI h with rfl|rfl|⟨a,b,rfl,rfl,_⟩|⟨nw,nw',e,rows,rfl,rfl,h1⟩
 ·exact⟨ho,.inl rfl⟩
 ·cases ho
 ·cases ho
 ·exact⟨rfl,.inr ⟨_,_,_,_,rfl,rfl,h1⟩⟩
theorem zX{g:Gh}{w:World}{x y:SV}{v:Value}{o:Option Nat}(h:zW x y)(hf:av g w x v o):av g w y v (if y.isOwn=true then o else none):=by
 rcases lI h with rfl|rfl|⟨a,b,rfl,rfl,h1⟩|⟨nw,nw',e,rows,rfl,rfl,h1⟩
 ·cases y with
  |own _ _ _=>exact hf
  |omap _ _=>exact hf
  |pv _=>exact⟨rfl,hf.2⟩
  |opt _ _=>exact⟨rfl,hf.2⟩
  |agl _=>exact⟨rfl,hf.2⟩
  |_=>rfl
 ·exact⟨rfl,trivial⟩
 ·exact⟨rfl,ui a b v h1 hf.2⟩
 ·exact hf.imp id fun⟨c,e1,cap,arr,T,vs,a1,a2,a3,a4,a5,a6,a7⟩=>⟨c,e1,cap,arr,T,vs,a1,a2,a3,a4,a5,a6,fun hh=>a7 (h1 hh)⟩
theorem Sim.le{g:Gh}{st st':St}{a:Act}{w:World}(h:Sim g st a w)(hp:∀p,zW (aa st p) (aa st' p))(hl:st'.h.length=st.h.length)(hb:∀b,(st'.h.getD b []).length=(st.h.getD b []).length):Sim g st' a w:=by
  obtain⟨bl,ho⟩:=h.own
  have hget:∀(b:Nat)(xs':List SV),st'.h[b]?=some xs'→∃xs:List SV,st.h[b]?=some xs∧xs'.length=xs.length:=fun b xs' hx=>by
    have hlt:b<st.h.length:=by rw[←hl];exact(List.getElem?_eq_some_iff.1 hx).1
    refine⟨st.h[b],List.getElem?_eq_getElem hlt,?_⟩
    have:=hb b
    rw[List.getD_eq_getElem?_getD,List.getD_eq_getElem?_getD,hx,List.getElem?_eq_getElem hlt]at this
    simpa using this
  have hal:∀{sv:SV}{v:Value},bN g st a w sv v→bN g st' a w sv v:=by
    intro sv
    induction sv with
    |al p=>intro v hv ho';exact hv (pO (hp p) ho').1
    |loc p lo hi=>
      intro v hv nw e rows he
      rcases(pO (hp p) (by rw[he];rfl)).2 with e1|⟨nw1,nw2,e1,rows1,e2,e3,_⟩
      · exact hv nw e rows (by rw[←e1];exact he)
      · rw[he]at e3;cases e3;exact hv _ _ _ e2
    |sptr p i k=>
      intro v hv nw e rows he
      rcases(pO (hp p) (by rw[he];rfl)).2 with e1|⟨nw1,nw2,e1,rows1,e2,e3,_⟩
      · exact hv nw e rows (by rw[←e1];exact he)
      · rw[he]at e3;cases e3;exact hv _ _ _ e2
    |agl xs=>intro v hv k x p hk ho';exact hv k x p hk (pO (hp p) ho').1
    |opt c x ih=>intro v hv hc;exact ih (hv hc)
    |_=>intro v _;trivial
  refine { size := h.size, defs := h.defs, env := h.env, n := by rw [hl]; exact h.n, n0 := h.n0, B := h.B, I := h.I, F := h.F, μI := h.μI, μinj := h.μinj,
           own:=⟨fun p=>if(aa st' p).isOwn=true then bl p else none,?_⟩,al:=fun s=>?_}
  · have hsub:∀p c,(if(aa st' p).isOwn=true then bl p else none)=some c→bl p=some c:=fun p c hc=>by
      split at hc
      · exact hc
      · cases hc
    refine{slots:=fun s=>zX (hp (.slot s)) (ho.slots s),blocks:=fun b xs' hx=>?_,inj:=fun p q c h1 h2=>ho.inj p q c (hsub p c h1) (hsub q c h2),free:=fun p c h1=>ho.free p c (hsub p c h1)}
    obtain⟨xs,hx2,hlen⟩:=hget b xs' hx
    obtain⟨arr,T,e1,e2,e3⟩:=ho.blocks b xs hx2
    refine⟨arr,T,e1,⟨by rw[hlen];exact e2.1,e2.2⟩,fun k x hk=>?_⟩
    have hkl:k<xs.length:=by rw[←hlen];exact(List.getElem?_eq_some_iff.1 hk).1
    have g1:aa st' (.cell b k)=x:=by simp only[aa,List.getD_eq_getElem?_getD,hx,Option.getD_some,hk]
    have g2:aa st (.cell b k)=xs[k]:=by simp only[aa,List.getD_eq_getElem?_getD,hx2,Option.getD_some,List.getElem?_eq_getElem hkl]
    have h4:=hp (.cell b k)
    rw[g1,g2]at h4
    obtain⟨c1,c2⟩:=e3 k xs[k] (List.getElem?_eq_getElem hkl)
    rw[g1]
    refine⟨?_,zX h4 c2⟩
    rcases lI h4 with e|e|⟨a1,b1,_,e,_⟩|⟨_,_,_,_,_,e,_⟩
    · rw[e];exact c1
    · rw[e];rfl
    · rw[e];rfl
    · rw[e];rfl
  · have h4:=hp (.slot s)
    simp only[aa]at h4
    have h5:=h.al s
    rcases lI h4 with e|e|⟨a1,b1,_,e,_⟩|⟨_,_,_,_,_,e,_⟩
    · rw[e];exact hal h5
    · rw[e];trivial
    · rw[e];trivial
    · rw[e];trivial
def Gp(t:List (Nat×SV)):List (Nat×SV)→Prop
 |[]=>True
 |(s,v)::r=>zW (look t s) v∧Gp t r
def vR:List SV→List SV→Prop
 |[],[]=>True
 |x::xs,y::ys=>zW x y∧vR xs ys
 |_,_=>False
def uj:List (List SV)→List (List SV)→Prop
 |[],[]=>True
 |x::xs,y::ys=>vR x y∧uj xs ys
 |_,_=>False
theorem uk(x:SV):zW x (.pv .bot):=by cases x<;>simp[zW]
mutual
theorem vS:∀x:PV,cz x x
  |.agg xs=>by simp only[cz];exact oq xs
  |.tup xs=>by simp only[cz];exact oq xs
  |.seq _ _ _=>by simp[cz]
  |.bot=>by simp[cz]
  |.lit _=>by simp[cz]
  |.iptr _ _ _ _=>by simp[cz]
  |.ptr _ _=>by simp[cz]
  |.bsl _ _ _ _ _=>by simp[cz]
  |.fn _ _ _=>by simp[cz]
  |.amap _ _=>by simp[cz]
  |.ifc _ _=>by simp[cz]
theorem oq:∀xs:List PV,cI xs xs
  |[]=>by simp[cI]
  |x::xs=>by simp only[cI];exact⟨vS x,oq xs⟩
end
theorem nu(x:SV):zW x x:=by
 cases x with
 |pv x=>exact .inr (vS x)
 |own _ _ _=>exact⟨id,rfl,rfl⟩
 |_=>exact .inl rfl
theorem zY{t:List (Nat×SV)}:∀{t1:List (Nat×SV)},Gp t t1→∀s,zW (look t s) (look t1 s)
 |[],_,s=>uk _
 |(j,v)::r,h,s=>by
  simp only[look]
  by_cases e:j=s
  ·subst e;rw[if_pos rfl];exact h.1
  ·rw[if_neg e];exact zY h.2 s
theorem zZ:∀{xs ys:List SV},vR xs ys→ys.length=xs.length∧∀k,zW (xs.getD k (.pv .bot)) (ys.getD k (.pv .bot))
 |[],[],_=>⟨rfl,fun k=>by simp;exact uk _⟩
 |[],_::_,h=>by simp only[vR]at h
 |_::_,[],h=>by simp only[vR]at h
 |x::xs,y::ys,h=>by
  simp only[vR]at h;obtain⟨h1,h2⟩:=zZ h.2;refine⟨by simp[h1],fun k=>?_⟩;cases k with
  |zero=>exact h.1
  |succ k=>simpa using h2 k
theorem z6:∀{xs ys:List (List SV)},uj xs ys→ys.length=xs.length∧∀b,(ys.getD b []).length=(xs.getD b []).length∧∀k,zW ((xs.getD b []).getD k (.pv .bot)) ((ys.getD b []).getD k (.pv .bot))
 |[],[],_=>⟨rfl,fun b=>⟨rfl,fun k=>by simp;exact uk _⟩⟩
 |[],_::_,h=>by simp only[uj]at h
 |_::_,[],h=>by simp only[uj]at h
 |x::xs,y::ys,h=>by
  simp only[uj]at h;obtain⟨h1,h2⟩:=z6 h.2;refine⟨by simp[h1],fun b=>?_⟩;cases b with
  |zero=>exact zZ h.1
  |succ b=>simpa using h2 b
theorem aj.le{k0:Nat}{st:St}{t1:List (Nat×SV)}{h1:List (List SV)}(ht:Gp st.t t1)(hh:uj st.h h1):aj k0 st ⟨t1,h1⟩:=fun g _ _ _ hs=>by
 obtain⟨hl,hk⟩:=z6 hh;refine⟨g,hs.refl_to,hs.le (fun p=>?_) hl fun b=>(hk b).1⟩;cases p with
 |slot s=>exact zY ht s
 |cell b k=>exact(hk b).2 k
/-! ### Calls -/
theorem aE.args{P:Program}{f:FuncId}{xs ys:List PV}{h:List (List SV)}{R:SV→List (List SV)→Prop}(hm:aE P f ys h R)(hw:cI xs ys):aE P f xs h R:=
 ⟨hm.1,fun g st a w vs hs hh hv=>hm.2 g st a w vs hs hh (nt _ _ _ hw hv)⟩
theorem aE.res{P:Program}{f:FuncId}{args:List PV}{h:List (List SV)}{R R':SV→List (List SV)→Prop}(hm:aE P f args h R)(hr:∀r h',R r h'→∃x y,r=.pv x∧cz x y∧R' (.pv y) h'):aE P f args h R':=
 ⟨hm.1,fun g st a w vs hs hh hv=>(hm.2 g st a w vs hs hh hv).mono fun e w' ⟨v,r,h',g',e1,e2,e3,e4⟩=>by
  obtain⟨x,y,rfl,hw,hR⟩:=hr r h' e2;refine⟨v,.pv y,h',g',e1,hR,e3,fun d hd=>(e4 d hd).le (fun p=>?_) ?_ ?_⟩
  ·cases d with
   |none=>exact nu _
   |some d=>
    cases p with
    |cell b k=>exact nu _
    |slot s=>
     simp only[aa,km,putD,St.put,look];split
     ·exact .inr hw
     ·exact nu _
  ·cases d<;>rfl
  ·intro b;cases d<;>rfl⟩
/-! ### What fits names only blocks that there are -/
section
variable {g : Gh}
mutual
theorem Fit.bel:∀(x:PV)(v:Value),Fit g x v→x.bel g.n
  |.bot,_,_=>trivial
  |.lit _,_,_=>trivial
  |.agg xs,_,⟨vs,_,h2⟩=>ai.bel xs _ h2
  |.tup xs,_,⟨vs,_,h2⟩=>ai.bel xs _ h2
  |.seq _ e [],_,_=>trivial
  |.seq _ e (r::rows),_,⟨p,cap,_,_,h2⟩=>by
    rcases h2 with h2|⟨c,off,arr,T,fz,vs,a,b,n,q,_⟩
    · cases h2
    · exact au.bel e (r::rows) vs q
  |.iptr e rows _ _,_,⟨c,off,arr,T,fz,vs,_,_,q,_⟩=>au.bel e rows vs q
  |.ptr b _,_,⟨h1,_⟩=>h1
  |.bsl b _ _ _ _,_,⟨h1,_⟩=>h1
  |.fn _ first cap,_,⟨a,b,_,h2,h3⟩=>⟨ai.bel first _ h2,ai.bel cap _ h3⟩
  |.amap _ es,_,⟨r,en,ck,_,_,_,q⟩=>bm.bel es _ q.1
  |.ifc _ x,_,⟨y,_,h2⟩=>Fit.bel x y h2
theorem ai.bel:∀(xs:List PV)(vs:List Value),ai g xs vs→bO g.n xs
  |[],_,_=>trivial
  |x::xs,_,⟨v,r,_,h2,h3⟩=>⟨Fit.bel x v h2,ai.bel xs r h3⟩
theorem au.bel(e:Nat):∀(rows:List (List PV))(vs:List Value),au g e rows vs→bP g.n rows
  |[],_,_=>trivial
  |row::rows,_,⟨v1,v2,_,_,h3,h4⟩=>⟨ai.bel row v1 h3,au.bel e rows v2 h4⟩
theorem bm.bel:∀(es:List (Int×PV))(en:List MapEntry),bm g es en→ft g.n es
  |[],_,_=>trivial
  |(_,x)::es,_,⟨m,r,_,_,h3,h4⟩=>⟨Fit.bel x m.val h3,bm.bel es r h4⟩
end
end
theorem av.bel{g:Gh}{w:World}{x:SV}{v:Value}{o:Option Nat}(hc:x.inCell=true)(h:av g w x v o):x.bel g.n:=by
 cases x with
 |pv x=>exact Fit.bel x v h.2
 |own nw e rows=>
  rcases h with⟨_,rfl,_⟩|⟨c,_,cap,arr,T,vs,_,_,_,_,q,_⟩
  ·trivial
  ·exact au.bel e rows vs q
 |omap nw es=>obtain⟨c,_,en,ck,_,_,q,_⟩:=h;exact bm.bel es _ q
 |_=>cases hc
theorem ot{k:Nat}:∀{l:List SV},(∀x∈l,x.bel k)→cP k l
 |[],_=>trivial
 |x::l,h=>⟨h x (List.mem_cons_self),ot fun y hy=>h y (List.mem_cons_of_mem _ hy)⟩
theorem sI{k:Nat}:∀{l:List (List SV)},(∀xs∈l,∀x∈xs,x.bel k)→dz k l
 |[],_=>trivial
 |x::l,h=>⟨ot (h x (List.mem_cons_self)),sI fun y hy=>h y (List.mem_cons_of_mem _ hy)⟩
theorem Sim.belH{g:Gh}{st:St}{a:Act}{w:World}(h:Sim g st a w):dz g.n st.h:=by
 obtain⟨bl,hb⟩:=h.own;refine sI fun xs hxs x hx=>?_;obtain⟨b,hb1⟩:=List.mem_iff_getElem?.1 hxs;obtain⟨k,hk⟩:=List.mem_iff_getElem?.1 hx;obtain⟨arr,T,_,_,e3⟩:=hb.blocks b xs hb1;obtain⟨c1,c2⟩:=e3 k x hk;exact c2.bel c1
def fe(P:Program)(rs:List ResultVar)(h:List (List SV))(R:SV→Prop)(st:St):Prop:=
 (fU P st rs).2.2∧(fU P st rs).2.1.h.take h.length=h∧(kJ (fU P st rs).1).bel h.length∧R (.pv (kJ (fU P st rs).1))
theorem fA{P:Program}(bad:List Nat){f:FuncId}{fn:Func}{c:Code}{args:List PV}{h:List (List SV)}{R:SV→Prop}(rs:List ResultVar)(aG:P.follows .mixedOrders=true)(hf:P.funcs[f]?=some fn)(hcall:aB P f=true)(hb:fn.body=some c)
 (hr:fn.results=rs.toArray) (hok:m9 fn.ntmps bad c=true) (hn:args.length≤fn.ntmps) (hA:AC P h.length bad c (kw (fe P rs h R)) ⟨gp 0 args,h⟩):aE P f args h (fun r h'=>h'=h∧R r):=by
 refine⟨hcall,fun g st a w vs hs hh hv=>?_⟩;have hbel:dz h.length h:=by have:=hs.belH;rwa [hs.n,hh]at this
 have key:=nr (R:=fun r h'=>h'=h∧R r) aG hf hcall hb hok hn hA fun g' st' a' w' hk hn0 s'=>?_
 ·exact key.2 g st a w vs hs hh hv
 ·obtain⟨k1,k2,k3,k4⟩:=hk;obtain⟨g2,t2,l2,n2,s2,vs2,e2,f2⟩:=nq rs s' k1;obtain⟨v,e3,f3⟩:=io hr (kQ rs st') e2 f2;have s3:=s2.weak (st':=⟨[],(fU P st' rs).2.1.h⟩) rfl fun s=>.inr rfl;obtain⟨t4,s4⟩:=Sim.dropB (st:=⟨[],(fU P st' rs).2.1.h⟩) (h1:=h) k2 (ht:=trivial) hbel (hs:=s3) (h0:=by rw[t2.n0];exact hn0);obtain⟨bl4,hb4⟩:=s4.own;exact⟨v,_,_,_,bl4,none,e3,t2.trans t4,s4,hb4,⟨rfl,k4⟩,⟨rfl,Fit.below _ _ k3 f3⟩,rfl,fun c hc=>by cases hc⟩
theorem lc{P:Program}(bad:List Nat){f:FuncId}{fn:Func}{c:Code}{args:List PV}{h:List (List SV)}{y:PV}(rs:List ResultVar)(aG:P.follows .mixedOrders=true)(hf:P.funcs[f]?=some fn)(hcall:aB P f=true)(hb:fn.body=some c)
 (hr:fn.results=rs.toArray) (hok:m9 fn.ntmps bad c=true) (hn:args.length≤fn.ntmps) (hA:AC P h.length bad c (kw (fe P rs h (fun r=>∃x,r=.pv x∧cz x y))) ⟨gp 0 args,h⟩):aE P f args h (fun r h'=>h'=h∧r=.pv y):=
 (fA bad rs aG hf hcall hb hr hok hn hA).res fun r h' ⟨h1,x,h2,h3⟩=>⟨x,y,h2,h3,h1,rfl⟩
attribute [simp] cz cI zW Gp vR uj fe
end Go.AX
namespace Go.AX
def blk(pre:List Value)(zs:List Int)(suf:List Value):List SV:=pre.map (fun v=>.pv (.lit v))++(zs.map (fun z=>.pv (.lit (.int .i64 z)))++suf.map fun v=>.pv (.lit v))
theorem dZ(pre:List Value)(zs:List Int)(suf:List Value):(blk pre zs suf).length=pre.length+zs.length+suf.length:=by
 unfold blk;simp only[List.length_append,List.length_map];omega
theorem ju(pre:List Value)(zs:List Int)(suf:List Value){i:Nat}(h:i<zs.length):(blk pre zs suf)[pre.length+i]?=some (.pv (.lit (.int .i64 zs[i]))):=by
 unfold blk;rw[List.getElem?_append_right (by simp),List.length_map,Nat.add_sub_cancel_left,List.getElem?_append_left (by simpa using h),List.getElem?_map,List.getElem?_eq_getElem h];rfl
theorem qz(pre:List Value)(zs:List Int)(suf:List Value){i:Nat}{ys:List Int}(h:i+ys.length≤zs.length):
 List.take (pre.length+i) (blk pre zs suf)++(ys.map (fun z=>SV.pv (.lit (.int .i64 z)))++List.drop (pre.length+i+ys.length) (blk pre zs suf))=blk pre (zs.take i++ys++zs.drop (i+ys.length)) suf:=by
 unfold blk;have e1:pre.length=(pre.map (fun v=>SV.pv (PV.lit v))).length:=by simp
 rw[show List.take (pre.length+i) (pre.map (fun v=>SV.pv (PV.lit v))++(zs.map (fun z=>SV.pv (.lit (.int .i64 z)))++suf.map fun v=>.pv (.lit v)))=pre.map (fun v=>SV.pv (PV.lit v))++(zs.map (fun z=>SV.pv (.lit (.int .i64 z)))).take i by
  rw[e1,List.take_length_add_append];congr 1;rw[List.take_append_of_le_length (by simp;omega)],
  show List.drop (pre.length+i+ys.length) (pre.map (fun v=>SV.pv (PV.lit v))++(zs.map (fun z=>SV.pv (.lit (.int .i64 z)))++suf.map fun v=>.pv (.lit v)))=(zs.map (fun z=>SV.pv (.lit (.int .i64 z)))).drop (i+ys.length)++suf.map fun v=>.pv (.lit v) by
   rw[Nat.add_assoc,e1,List.drop_length_add_append,List.drop_append_of_le_length (by simp;omega)]]
 simp only[List.map_append,List.map_take,List.map_drop,List.append_assoc]
theorem ul(pre:List Value)(zs:List Int)(suf:List Value){i:Nat}(y:Int)(h:i<zs.length):
 List.take (pre.length+i) (blk pre zs suf)++SV.pv (.lit (.int .i64 y))::List.drop (pre.length+i+1) (blk pre zs suf)=blk pre (zs.set i y) suf:=by
 have:=qz pre zs suf (i:=i) (ys:=[y]) (by simp;omega);simp only[List.map_cons,List.map_nil,List.length_singleton,List.cons_append,List.nil_append]at this;rw[this];congr 1;rw[List.set_eq_take_append_cons_drop,if_pos h];simp
theorem Dt(pre:List Value)(zs:List Int)(suf:List Value)(t:List (List SV))(n:Nat):rM (bq (blk pre zs suf::t) (n+1) 0 pre.length) 1 zs.length=.seq false 1 (zs.map fun z=>[.lit (.int .i64 z)]):=by
 have hl:=dZ pre zs suf;have e:(blk pre zs suf::t).getD 0 []=blk pre zs suf:=rfl;simp only[bq,rM,e,List.length_map];rw[if_pos ⟨trivial,by omega⟩];congr 1;unfold blk;simp only[List.map_append,List.map_map];rw[List.drop_left' (by simp),List.take_left' (by simp),List.map_map];rfl
theorem eO(k:Nat)(pre:List Value)(zs:List Int)(suf:List Value):cP k (blk pre zs suf):=by
 refine ot fun x hx=>?_;unfold blk at hx;simp only[List.mem_append,List.mem_map]at hx;rcases hx with⟨_,_,rfl⟩|⟨_,_,rfl⟩|⟨_,_,rfl⟩<;>trivial
theorem qA(pre:List Value)(zs:List Int)(suf:List Value){i n:Nat}(y:Int)(h:i+n≤zs.length):
 List.take (pre.length+i) (blk pre zs suf)++(List.replicate n (SV.pv (.lit (.int .i64 y)))++List.drop (pre.length+i+n) (blk pre zs suf))=blk pre (zs.take i++List.replicate n y++zs.drop (i+n)) suf:=by
 have:=qz pre zs suf (i:=i) (ys:=List.replicate n y) (by simpa using h);simpa only[List.map_replicate,List.length_replicate]using this
theorem qB{g:Gh}{w:World}{arr:Array Value}{bl:Nat→Option Nat}{vs:List Value}(hs:arr.size=vs.length)(h:∀k x,(vs.map (fun v=>SV.pv (.lit v)))[k]?=some x→av g w x (arr.getD k undef) (bl k)):arr=vs.toArray:=by
 apply Array.ext
 ·simpa using hs
 ·intro i h1 h2;have:=h i (.pv (.lit (vs[i]'(by omega)))) (by rw[List.getElem?_map,List.getElem?_eq_getElem (by omega)];rfl);have h3:arr.getD i undef=vs[i]'(by omega):=this.2;simpa[Array.getD,h1]using h3
def az(zs:List Int):List (List PV):=zs.map fun z=>[.lit (.int .i64 z)]
theorem dA(G:Gh):∀zs:List Int,au G 1 (az zs) (zs.map (Value.int .i64))
 |[]=>rfl
 |z::zs=>⟨[.int .i64 z],zs.map (Value.int .i64),rfl,⟨rfl,fun v hv=>by simp at hv;subst hv;rfl⟩,⟨_,_,rfl,rfl,rfl⟩,dA G zs⟩
theorem bC{G:Gh}:∀{zs:List Int}{vs:List Value},au G 1 (az zs) vs→vs=zs.map (Value.int .i64)
 |[],_,h=>h
 |z::zs,_,⟨v1,v2,h1,_,h3,h4⟩=>by
  obtain⟨v,r,rfl,h5,h6⟩:=h3;have h5':v=.int .i64 z:=h5;have h6':r=[]:=h6;subst h5' h6';rw[h1,bC h4];rfl
def MP(k:Option Nat)(off cap:Nat):SV:=match k with
 |none=>.pv (.tup [])
 |some m=>.pv (.bsl 0 1 off m cap)
def MQ(k:Option Nat)(p:Option Addr)(cap:Nat):SV:=match k with
 |none=>.pv (.tup [])
 |some m=>.pv (.lit (.slice p m cap))
theorem tT.ofInts{P:Program}{f:FuncId}{zs:List Int}{args:List PV}{R:Option Nat→List (List PV)→Prop}(hc:aB P f=true)(ho:o9 args)(hb:bO 0 args)
 (h : zs ≠ [] → ∀ (pre suf : List Value) (cap : Nat), zs.length ≤ cap → zs.length ≤ maxLen → aE P f (.bsl 0 1 pre.length zs.length cap :: args) [blk pre zs suf]
  (fun r h'=>∃k zs',R k (az zs')∧zs'.length=zs.length∧(∀m,k=some m→m≤zs.length)∧r=MP k pre.length cap∧h'=[blk pre zs' suf]))
 (h0:zs=[]→∀(p:Option Addr)(cap:Nat),ao P f (.lit (.slice p 0 cap)::args) (fun r=>∃k,R k []∧(k=none∨k=some 0)∧r=MQ k p cap)):
 tT P f 1 (az zs) args R:=by
 refine⟨hc,fun hne w c cap arr T pre vs suf us h1 h2 h3 h4 h5 h6 hvals=>?_,fun he w p cap us h1=>?_⟩
 ·have hz:zs≠[]:=fun e=>hne (by rw[e];rfl);have hlen:(az zs).length=zs.length:=by unfold az;simp
  have hvs:=bC h5;subst hvs;rw[hlen]at h3 h4⊢;have hcs:c<w.heap.size:=(Array.getElem?_eq_some_iff.1 h1).1;obtain⟨G,hG⟩:∃G:Gh,G={I:=fun k=>if k=c then none else w.heap[k]?,F:=fun _=>none,B:=0,μ:=fun _=>c,n:=1,n0:=1,N:=1,env:=bX w}:=⟨_,rfl⟩;have hsim:Sim G ⟨[],[blk pre zs suf]⟩ ⟨#[undef],[]⟩ w:=by
   subst hG;refine{size:=rfl,defs:=rfl,env:=rfl,n:=rfl,n0:=Nat.le_refl _,B:=Nat.zero_le _,I:=fun k o hk=>?_,F:=fun k o hk=>(by cases hk),μI:=fun b hb=>⟨by simp,rfl⟩,μinj:=fun b b' hb hb' _=>?_,own:=⟨fun _=>none,?_⟩,al:=fun s=>trivial}
   ·by_cases e:k=c
    ·subst e;simp at hk
    ·simpa[e]using hk
   ·dsimp only at hb hb';omega
   ·refine{slots:=fun s=>⟨rfl,trivial⟩,blocks:=fun b xs hx=>?_,inj:=fun p q k hk=>(by cases hk),free:=fun p k hk=>(by cases hk)};cases b with
    |succ b=>simp at hx
    |zero=>
     simp only[List.getElem?_cons_zero,Option.some.injEq]at hx;subst hx;have hsz:arr.size=(blk pre zs suf).length:=by rw[dZ,←Array.length_toList,h2];simp only[List.length_append,List.length_map]
     refine⟨arr,T,h1,⟨hsz,hvals⟩,fun k x hk=>?_⟩;have hb2:blk pre zs suf=arr.toList.map (fun v=>.pv (.lit v)):=by
      rw[h2];unfold blk;simp only[List.map_append,List.map_map,List.append_assoc];rfl
     rw[hb2,List.getElem?_map]at hk;cases hk2:arr.toList[k]?with
     |none=>rw[hk2]at hk;cases hk
     |some u=>
      rw[hk2]at hk;simp only[Option.map_some,Option.some.injEq]at hk;subst hk;refine⟨rfl,rfl,?_⟩;show arr.getD k undef=u;have:arr[k]?=some u:=by rw[←Array.getElem?_toList];exact hk2
      rw[Array.getD_eq_getD_getElem?,this];rfl
  have hfit:ai G (.bsl 0 1 pre.length zs.length cap::args) (.slice (some ⟨c,pre.length,none⟩) zs.length cap::us):=by
   refine⟨_,_,rfl,?_,?_⟩
   ·subst hG;exact⟨Nat.zero_lt_one,h3,rfl⟩
   ·refine ai.monoC ⟨fun k arr' T' fz hk=>?_,fun k en ck hk=>?_⟩ _ _ (.inr ho) (.inl rfl) h6
    ·obtain⟨a1,a2⟩:=HX hk;subst hG;simpa[a1]using a2
    ·obtain⟨a1,a2⟩:=HY hk;subst hG;simpa[a1]using a2
  refine((h hz pre suf cap h3 h4).2 G _ _ w _ hsim rfl hfit).mono fun e w' ⟨v,r,h',g',he,⟨k,zs',r1,r2,r3,r4,r5⟩,t',hs'⟩=>?_;subst r4 r5;have hs1:=hs' (some 0) (by subst hG;exact Nat.zero_lt_one);have hμ:g'.μ 0=c:=by rw[t'.μ 0 (by subst hG;exact Nat.zero_lt_one)];subst hG;rfl
  obtain⟨bl,hb'⟩:=hs1.own;have hkeep:∀k,k<w.heap.size→k≠c→w'.heap[k]?=w.heap[k]?:=fun k hk hkc=>by
   have hI:G.I k=some w.heap[k]:=by subst hG;simp[hkc]
   rw[hs1.I _ _ (t'.I _ _ hI),Array.getElem?_eq_getElem hk]
  refine⟨k,az zs',zs'.map (Value.int .i64),r1,by unfold az;simpa using r2,r3,?_,?_,?_,hkeep,?_,fun G _=>dA G zs'⟩
  ·rw[he];have h0:=hb'.slots 0;cases k with
   |none=>
    have h7:av g' w' (.pv (.tup [])) v (bl (.slot 0)):=h0;obtain⟨_,vs,rfl,h8⟩:=h7;have h8':vs.toList=[]:=h8;have:vs=#[]:=Array.ext' h8';rw[this]
   |some m=>
    have h7:av g' w' (.pv (.bsl 0 1 pre.length m cap)) v (bl (.slot 0)):=h0;obtain⟨_,_,_,rfl⟩:=h7;rw[hμ]
  ·rw[hs1.env,t'.env];subst hG;rfl
  ·apply Nat.le_of_not_lt;intro hlt;have hc':w'.heap[c]?≠none:=by
    obtain⟨arr',T',b1,_⟩:=hb'.blocks 0 (blk pre zs' suf) (by cases k<;>rfl);rw[hμ]at b1;rw[b1];simp
   have h9:w'.heap[w'.heap.size]?=none:=by simp
   by_cases e:w'.heap.size=c
   ·rw[e]at h9;exact hc' h9
   ·rw[hkeep _ hlt e,Array.getElem?_eq_getElem hlt]at h9;cases h9
  ·obtain⟨arr',T',b1,⟨b2,_⟩,b3⟩:=hb'.blocks 0 (blk pre zs' suf) (by cases k<;>rfl);rw[hμ]at b1;refine⟨T',?_⟩;rw[b1];have hb2:blk pre zs' suf=(pre++zs'.map (Value.int .i64)++suf).map (fun v=>.pv (.lit v)):=by
    unfold blk;simp only[List.map_append,List.map_map,List.append_assoc];rfl
   rw[hb2,List.length_map]at b2;rw[qB (bl:=fun k=>bl (.cell 0 k)) b2 fun k x hk=>(b3 k x (by rw[hb2];exact hk)).2]
 ·have hz:zs=[]:=by
   cases zs with
   |nil=>rfl
   |cons _ _=>unfold az at he;cases he
  subst hz;have hfit:ai (dw w) (.lit (.slice p 0 cap)::args) (.slice p 0 cap::us):=⟨_,_,rfl,rfl,h1⟩;refine((h0 rfl p cap).2 w _ hfit).mono fun e w' ⟨v,r,g',o,he,⟨k,r1,r2,r3⟩,hE,hF,_,_⟩=>?_;subst r3;refine⟨k,r1,r2,?_,hE.env,hE.size,fun k hk=>hE.keep k hk⟩;rw[he];cases k with
  |none=>
   have h7:av g' w' (.pv (.tup [])) v o:=hF;obtain⟨_,vs,rfl,h8⟩:=h7;have h8':vs.toList=[]:=h8;have:vs=#[]:=Array.ext' h8';rw[this]
  |some m=>
   have h7:v=.slice p m cap:=hF.2;rw[h7]
end Go.AX
namespace Go.AX
theorem av.le1{g g':Gh}(hl:g.le g')(hB:g'.B=g.B){w:World}:∀{x:SV}{v:Value}{b:Option Nat},av g w x v b→av g' w x v b
 |.pv x,_,_,h=>⟨h.1,Fit.mono hl x _ h.2⟩
 |.own _ e rows,_,_,h=>h.imp id fun⟨c,h1,cap,arr,T,vs,a1,a2,a3,a4,a5,a6,a7⟩=>⟨c,h1,cap,arr,T,vs,a1,a2,a3,a4,au.mono hl e rows vs a5,a6,fun hn=>by rw[hB];exact a7 hn⟩
 |.omap _ es,_,_,⟨c,h1,en,ck,a1,a2,a3,a4⟩=>⟨c,h1,en,ck,a1,a2,bm.mono hl es _ a3,fun hn=>by rw[hB];exact a4.1 hn,a4.2⟩
 |.opt _ _,_,_,h=>⟨h.1,h.2.1,fun hc=>av.le1 hl hB (h.2.2 hc)⟩
 |.al _,_,_,h=>h
 |.loc _ _ _,_,_,h=>h
 |.sptr _ _ _,_,_,h=>h
 |.agl xs,_,_,⟨h,vs,h1,h2⟩=>⟨h,vs,h1,ai.mono hl _ _ h2⟩
theorem aj.last{k0:Nat}{t:List (Nat×SV)}{B:List (List SV)}{x y:List SV}{s0 off:Nat}(ht:iH B.length t)(hB:dz B.length B)(hy:∀v∈y,∃p,v=.pv p∧p.bel B.length)(hk:k0≤B.length):
    aj k0 ⟨(s0,.pv (.ptr (B.length+1) off))::t,B++[x,y]⟩ ⟨(s0,.pv (.ptr B.length off))::t,B++[y]⟩:=fun g a w h0 hs=>by
  obtain⟨bl,hbl⟩:=hs.own
  have hn:g.n=B.length+2:=by rw[hs.n];simp
  let g':Gh:={g with n:=B.length+1,μ:=fun b=>if b=B.length then g.μ (B.length+1)else g.μ b}
  have hm:∀b,b<B.length→g'.μ b=g.μ b:=fun b hb=>by show(if b=B.length then _ else _)=_;rw[if_neg (by omega)]
  have hml:g'.μ B.length=g.μ (B.length+1):=by show(if B.length=B.length then _ else _)=_;rw[if_pos rfl]
  have hle:({g with n:=B.length}:Gh).le g':=⟨fun _ _ h=>h,Nat.le_refl _,Nat.le_succ _,fun b hb=>hm b hb⟩
  have fit:∀{x:SV}{v:Value}{b:Option Nat},x.bel B.length→av g w x v b→av g' w x v b:=fun hb h=>av.le1 hle rfl (av.below hb h)
  have look1:∀(q:SV) s,s≠s0→look ((s0,q)::t) s=look t s:=fun q s h=>by simp only[look];rw[if_neg (Ne.symm h)]
  have look0:∀(q:SV),look ((s0,q)::t) s0=q:=fun q=>by simp[look]
  have hpos:∀p,(aa ⟨(s0,.pv (.ptr B.length off))::t,B++[y]⟩ p).isOwn=true→aa ⟨(s0,.pv (.ptr B.length off))::t,B++[y]⟩ p=aa ⟨(s0,.pv (.ptr (B.length+1) off))::t,B++[x,y]⟩ p∧an g' a w p=an g a w p:=by
    intro p hp
    cases p with
    |slot s=>
      refine⟨?_,rfl⟩
      simp only[aa]at hp⊢
      by_cases e:s=s0
      · subst e;rw[look0]at hp;cases hp
      · rw[look1 _ s e,look1 _ s e]
    |cell b k=>
      simp only[aa]at hp⊢
      rcases Nat.lt_trichotomy b B.length with c|c|c
      · refine⟨by simp[List.getD_eq_getElem?_getD,List.getElem?_append_left c],?_⟩
        simp only[an];rw[hm b c]
      · subst c
        simp only[List.getD_eq_getElem?_getD,List.getElem?_append_right (Nat.le_refl _),Nat.sub_self,List.getElem?_cons_zero,Option.getD_some]at hp
        cases hq:y[k]?with
        |none=>rw[hq]at hp;cases hp
        |some z=>
          rw[hq]at hp
          obtain⟨p,rfl,_⟩:=hy z (List.mem_of_getElem? hq)
          cases hp
      · have:(B++[y])[b]?=none:=by rw[List.getElem?_eq_none];simp;omega
        simp only[List.getD_eq_getElem?_getD,this,Option.getD_none]at hp
        cases hp
  refine⟨g',⟨fun _ _ h=>h,rfl,rfl,rfl,rfl,rfl,by show g.n0≤B.length+1;omega,fun b hb=>hm b (by omega),fun _ _ h=>h⟩,?_⟩
  have lift:∀b,b<B.length+1→∃b',b'<g.n∧g'.μ b=g.μ b'∧((b<B.length∧b'=b)∨(b=B.length∧b'=B.length+1)):=fun b hb=>by
    rcases Nat.lt_or_ge b B.length with c|c
    · exact⟨b,by omega,hm b c,.inl ⟨c,rfl⟩⟩
    · have:b=B.length:=by omega
      subst this
      exact⟨B.length+1,by omega,hml,.inr ⟨rfl,rfl⟩⟩
  refine { size := hs.size, defs := hs.defs, env := hs.env, n := by show B.length + 1 = _; simp, n0 := by show g.n0 ≤ B.length + 1; omega, B := hs.B, I := hs.I, F := hs.F, μI := fun b hb => ?_, μinj := fun b c hb hc e => ?_,
           own:=⟨fun p=>match p with|.slot s=>bl (.slot s)|.cell b k=>if b<B.length then bl (.cell b k)else none,?_⟩,al:=fun s=>?_}
  · obtain⟨b',h1,h2,_⟩:=lift b hb
    rw[h2];exact hs.μI b' h1
  · obtain⟨b',h1,h2,h3⟩:=lift b hb
    obtain⟨c',i1,i2,i3⟩:=lift c hc
    have:=hs.μinj b' c' h1 i1 (by rw[←h2,←i2];exact e)
    omega
  · have hsub:∀p c,(match p with|.slot s=>bl (.slot s)|.cell b k=>if b<B.length then bl (.cell b k)else none)=some c→bl p=some c:=by
      intro p c hp
      cases p with
      |slot s=>exact hp
      |cell b k=>
        simp only at hp
        split at hp
        · exact hp
        · cases hp
    refine{slots:=fun s=>?_,blocks:=fun b xs hx=>?_,inj:=fun p q c hp hq=>hbl.inj p q c (hsub p c hp) (hsub q c hq),free:=fun p c hp=>?_}
    · have h:=hbl.slots s
      simp only at h⊢
      by_cases e:s=s0
      · subst e
        rw[look0]at h⊢
        obtain⟨h1,h2,h3⟩:=h
        exact⟨h1,Nat.lt_succ_self _,by rw[h3,hml]⟩
      · rw[look1 _ s e]at h⊢
        exact fit (fT ht s) h
    · rcases Nat.lt_trichotomy b B.length with c|c|c
      · have hx':(B++[x,y])[b]?=some xs:=by
          simp only at hx
          rw[List.getElem?_append_left c]at hx⊢;exact hx
        obtain⟨arr,T,e1,e2,e3⟩:=hbl.blocks b xs hx'
        refine⟨arr,T,by rw[hm b c];exact e1,e2,fun k z hz=>?_⟩
        simp only[if_pos c]
        simp only at hx
        rw[List.getElem?_append_left c]at hx
        exact⟨(e3 k z hz).1,fit (gI (gJ hB b xs hx) k z hz) (e3 k z hz).2⟩
      · subst c
        have hxy:xs=y:=by
          simp only[List.getElem?_append_right (Nat.le_refl _),Nat.sub_self,List.getElem?_cons_zero,Option.some.injEq]at hx
          exact hx.symm
        subst hxy
        obtain⟨arr,T,e1,e2,e3⟩:=hbl.blocks (B.length+1) xs (by simp only;rw[List.getElem?_append_right (by omega)];simp)
        refine⟨arr,T,by rw[hml];exact e1,e2,fun k z hz=>?_⟩
        obtain⟨p,rfl,hp⟩:=hy z (List.mem_of_getElem? hz)
        simp only[Nat.lt_irrefl,if_false]
        have h:=(e3 k _ hz).2
        exact⟨rfl,fit (x:=.pv p) (b:=none) hp ⟨rfl,h.2⟩⟩
      · simp only at hx
        rw[List.getElem?_eq_none (by simp;omega)]at hx
        cases hx
    · obtain⟨f1,f2,f3,f4⟩:=hbl.free p c (hsub p c hp)
      refine⟨f1,f2,f3,fun b hb'=>?_⟩
      obtain⟨b',h1,h2,_⟩:=lift b hb'
      rw[h2];exact f4 b' h1
  · have h:=hs.al s
    simp only at h⊢
    by_cases e:s=s0
    · subst e;rw[look0];trivial
    · rw[look1 _ s e]at h⊢
      exact bN.congr hpos h
theorem ao.own0{P:Program}{f:FuncId}{args:List PV}{R R':SV→Prop}(h:ao P f args R)(hr:∀r,R r→R' r∨(r=.pv (.lit (.slice none 0 0))∧∃nw e,R' (.own nw e []))):ao P f args R':=by
 refine⟨h.1,fun w vs hv=>(h.2 w vs hv).mono fun e w' ⟨v,r,g',o,h1,h2,h3,h4,h5,h6⟩=>?_⟩;rcases hr r h2 with h7|⟨rfl,nw,e',h7⟩
 ·exact⟨v,r,g',o,h1,h7,h3,h4,h5,h6⟩
 ·exact⟨v,_,g',o,h1,h7,h3,.inl ⟨h4.1,rfl,h4.2⟩,rfl,h6⟩
end Go.AX
namespace Go.AX
theorem gN{P:Program}(bad:List Nat){f:FuncId}{fn:Func}{c:Code}{args:List PV}{h:List (List SV)}{R:SV→Prop}(rs:List ResultVar)(h1:List (List SV))(hl:h.length≤h1.length)(hbl:dz h.length h→dz h1.length h1)(aG:P.follows .mixedOrders=true)(hf:P.funcs[f]?=some fn)(hcall:aB P f=true)(hb:fn.body=some c)
 (hr:fn.results=rs.toArray) (hok:m9 fn.ntmps bad c=true) (hn:args.length≤fn.ntmps) (hA:AC P h.length bad c (kw (fe P rs h1 R)) ⟨gp 0 args,h⟩):aE P f args h (fun r h'=>h'=h1∧R r):=by
 refine⟨hcall,fun g st a w vs hs hh hv=>?_⟩;have hbel:dz h1.length h1:=hbl (by have:=hs.belH;rwa [hs.n,hh]at this);have key:=nr (R:=fun r h'=>h'=h1∧R r) aG hf hcall hb hok hn hA fun g' st' a' w' hk hn0 s'=>?_
 ·exact key.2 g st a w vs hs hh hv
 ·obtain⟨k1,k2,k3,k4⟩:=hk;obtain⟨g2,t2,l2,n2,s2,vs2,e2,f2⟩:=nq rs s' k1;obtain⟨v,e3,f3⟩:=io hr (kQ rs st') e2 f2;have s3:=s2.weak (st':=⟨[],(fU P st' rs).2.1.h⟩) rfl fun s=>.inr rfl;obtain⟨t4,s4⟩:=Sim.dropB (st:=⟨[],(fU P st' rs).2.1.h⟩) (h1:=h1) k2 (ht:=trivial) hbel (hs:=s3) (h0:=by rw[t2.n0];exact Nat.le_trans hn0 hl);obtain⟨bl4,hb4⟩:=s4.own;exact⟨v,_,_,_,bl4,none,e3,t2.trans t4,s4,hb4,⟨rfl,k4⟩,⟨rfl,Fit.below _ _ k3 f3⟩,rfl,fun c hc=>by cases hc⟩
theorem aj.keep{k0:Nat}{st:St}{t1:List (Nat×SV)}{h1:List (List SV)}(h:I0 st.t t1)(hh:st.h=h1):aj k0 st ⟨t1,h1⟩:=hh▸aj.slots h
theorem aj.nilCell{k0:Nat}{st:St}{b k:Nat}{xs:List SV}(e:Nat)(nw:Bool)(hx:st.h[b]?=some xs)(hk:xs[k]?=some (.pv (.lit (.slice none 0 0)))):aj k0 st ⟨aA (aC b k 1) st.t,st.h.set b (xs.set k (.own nw e []))⟩:=fun g a w _ hs=>by
 obtain⟨bl,hb⟩:=hs.own;have hkl:k<xs.length:=(List.getElem?_eq_some_iff.1 hk).1;obtain⟨arr,T,e1,e2,e3⟩:=hb.blocks b xs hx;have h4:=(e3 k _ hk).2;have hv:an g a w (.cell b k)=.slice none 0 0:=by
  simp only[an,e1];exact h4.2
 exact⟨g,hs.refl_to,(hs.adopt hb hx hkl (sv:=.own nw e []) (o:=none) (.inl ⟨rfl,rfl,hv⟩) rfl (fun c hc=>by cases hc)).1⟩
end Go.AX
namespace Go.AX
theorem aE.below{P:Program}{f:FuncId}{args:List PV}{h:List (List SV)}{R:SV→List (List SV)→Prop}(hc:aB P f=true)(hb:dz h.length h→aE P f args h R):aE P f args h R:=
 ⟨hc,fun g st a w vs hs hh hv=>(hb (by have:=hs.belH;rwa [hs.n,hh]at this)).2 g st a w vs hs hh hv⟩
def DI:List (List PV)→List (List PV)→Prop
 |[],[]=>True
 |x::xs,y::ys=>cI x y∧DI xs ys
 |_,_=>False
theorem wj:∀{a b:List PV},cI a b→a.length=b.length
 |[],[],_=>rfl
 |[],_::_,h=>by simp[cI]at h
 |_::_,[],h=>by simp[cI]at h
 |x::a,y::b,h=>by
  simp only[cI]at h;rw[List.length_cons,List.length_cons,wj h.2]
theorem qM:∀{a b:List (List PV)},DI a b→a.length=b.length
 |[],[],_=>rfl
 |[],_::_,h=>h.elim
 |_::_,[],h=>h.elim
 |x::a,y::b,h=>by rw[List.length_cons,List.length_cons,qM h.2]
theorem au.wk{g:Gh}{e:Nat}:∀{a b:List (List PV)}{vs:List Value},DI a b→au g e a vs→au g e b vs
 |[],[],_,_,h=>h
 |[],_::_,_,h,_=>h.elim
 |_::_,[],_,h,_=>h.elim
 |x::a,y::b,_,h,⟨v1,v2,h1,⟨h2,h2'⟩,h3,h4⟩=>⟨v1,v2,h1,⟨by rw[←wj h.1];exact h2,h2'⟩,nt _ _ _ h.1 h3,au.wk h.2 h4⟩
def Nn:PV→PV→Prop
 |.seq nw e rows,.seq nw' e' rows'=>(nw'=true→nw=true)∧e=e'∧DI rows rows'
 |x,y=>cz x y
theorem Iy{g:Gh}{x y:PV}{v:Value}(h:Nn x y)(hf:Fit g x v):Fit g y v:=by
 unfold Nn at h;split at h
 ·rename_i nw e rows nw' e' rows';obtain⟨hn,rfl,hr⟩:=h;obtain⟨p,cap,h1,hc,h2⟩:=hf;refine⟨p,cap,by rw[←qM hr];exact h1,by rw[←qM hr];exact hc,?_⟩;rcases h2 with h2|⟨c,off,arr,T,fz,vs,a,b,n,r,q⟩
  ·subst h2;cases rows' with
   |nil=>exact .inl rfl
   |cons _ _=>exact hr.elim
  ·exact .inr ⟨c,off,arr,T,fz,vs,a,b,fun hh=>n (hn hh),au.wk hr r,q⟩
 ·exact ui _ _ _ h hf
theorem ao.wk{P:Program}{f:FuncId}{args:List PV}{R R':SV→Prop}(h:ao P f args R)(hr:∀r,R r→∃x y,r=.pv x∧cz x y∧R' (.pv y)):ao P f args R':=
 ⟨h.1,fun w vs hv=>(h.2 w vs hv).mono fun e w' ⟨v,r,g',o,h1,h2,h3,h4,h5,h6⟩=>by
  obtain⟨x,y,rfl,hw,hR⟩:=hr r h2;exact⟨v,.pv y,g',o,h1,hR,h3,⟨h4.1,ui x y v hw h4.2⟩,rfl,h6⟩⟩
end Go.AX
namespace Go.AX
def IB(b:Nat)(k:Option Nat)(off cap:Nat):SV:=match k with
 |none=>.pv (.tup [])
 |some m=>.pv (.bsl b 1 off m cap)
theorem Sim.toBlk{g:Gh}{st:St}{a:Act}{w:World}(h:Sim g st a w){bl:Pos→Option Nat}(hb:Owns g st a w bl){s c:Nat}(hbc:bl (.slot s)=some c){arr:Array Value}{T:TypeId}(hcell:w.heap[c]?=some (.cells arr T (0,0)))(hone:∀v∈arr.toList,v.oneCell'=true)
    {xs:List SV} (hx:xs=arr.toList.map fun v=>.pv (.lit v)):
    Sim {g with n:=g.n+1,n0:=g.n+1,μ:=fun b=>if b=g.n then c else g.μ b} ⟨(s,.pv .bot)::st.t,st.h++[xs]⟩ a w:=by
  obtain⟨s0,bl0,hb0,_,_,hfree⟩:=h.drop hb (.slot s)
  obtain⟨f1,f2,f3,f4⟩:=hfree c hbc
  have hle:g.le {g with n:=g.n+1,n0:=g.n+1,μ:=fun b=>if b=g.n then c else g.μ b}:=⟨fun _ _ h=>h,Nat.le_refl _,Nat.le_succ _,fun b hb=>if_neg (by omega)⟩
  have hn:=h.n
  refine{size:=h.size,defs:=h.defs,env:=h.env,n:=by simp[hn],n0:=Nat.le_refl _,B:=h.B,I:=h.I,F:=h.F,μI:=fun b hb=>?_,μinj:=fun b b' hb hb' he=>?_,own:=⟨fun p=>match p with|.slot u=>bl0 (.slot u)|.cell b k=>if b=g.n then none else bl0 (.cell b k),?_⟩,al:=fun u=>?_}
  · by_cases e:b=g.n
    · simp only[e,if_true];exact⟨f1,f2⟩
    · simp only[e,if_false];exact h.μI b (by have:b<g.n+1:=hb;omega)
  · have hb1:b<g.n+1:=hb
    have hb1':b'<g.n+1:=hb'
    by_cases e:b=g.n
    · by_cases e':b'=g.n
      · omega
      · simp only[e,e',if_true,if_false]at he
        exact absurd he.symm (f3 b' (by omega))
    · by_cases e':b'=g.n
      · simp only[e,e',if_true,if_false]at he
        exact absurd he (f3 b (by omega))
      · simp only[e,e',if_false]at he
        exact h.μinj b b' (by omega) (by omega) he
  · refine{slots:=fun u=>av.frame hle (fun _ _=>rfl) (hb0.slots u),blocks:=fun b ys hy=>?_,inj:=fun p q k hp hq=>?_,free:=fun p k hp=>?_}
    · by_cases e:b=g.n
      · subst e
        rw[hn,List.getElem?_append_right (Nat.le_refl _),Nat.sub_self]at hy
        simp only[List.getElem?_cons_zero,Option.some.injEq]at hy
        subst hy
        refine⟨arr,T,by simp only[if_true];exact hcell,⟨by rw[hx];simp,hone⟩,fun k x hk=>?_⟩
        rw[hx,List.getElem?_map]at hk
        cases hk2:arr.toList[k]?with
        |none=>rw[hk2]at hk;cases hk
        |some v=>
          rw[hk2]at hk
          simp only[Option.map_some,Option.some.injEq]at hk
          subst hk
          refine⟨rfl,by simp,?_⟩
          show arr.getD k undef=v
          have:arr[k]?=some v:=by rw[←Array.getElem?_toList];exact hk2
          rw[Array.getD_eq_getD_getElem?,this];rfl
      · have hlt:b<st.h.length:=by
          have:=(List.getElem?_eq_some_iff.1 hy).1
          simp only[List.length_append,List.length_singleton]at this
          omega
        rw[List.getElem?_append_left hlt]at hy
        obtain⟨arr',T',h1,h2,h3⟩:=hb0.blocks b ys hy
        refine⟨arr',T',by simp only[e,if_false];exact h1,h2,fun k x hk=>?_⟩
        simp only[e,if_false]
        exact⟨(h3 k x hk).1,av.frame hle (fun _ _=>rfl) (h3 k x hk).2⟩
    · cases p with
      |slot u=>cases q with
        |slot v=>exact hb0.inj _ _ k hp hq
        | cell b j => dsimp only at hq; split at hq
                      · cases hq
                      · exact hb0.inj _ _ k hp hq
      |cell b j=>
        dsimp only at hp;split at hp
        · cases hp
        · cases q with
          |slot v=>exact hb0.inj _ _ k hp hq
          | cell b2 j2 => dsimp only at hq; split at hq
                          · cases hq
                          · exact hb0.inj _ _ k hp hq
    · have hp0:bl0 p=some k:=by
        cases p with
        |slot u=>exact hp
        | cell b j => dsimp only at hp; split at hp
                      · cases hp
                      · exact hp
      obtain⟨q1,q2,q3,q4⟩:=hb0.free p k hp0
      refine⟨q1,q2,q3,fun b hb=>?_⟩
      by_cases e:b=g.n
      · simp only[e,if_true];intro e2;exact f4 p (e2▸hp0)
      · simp only[e,if_false];exact q4 b (by have:b<g.n+1:=hb;omega)
  · refine bN.congr (fun p hp=>?_) (s0.al u)
    cases p with
    |slot v=>exact⟨rfl,rfl⟩
    |cell b k=>
      have hlt:b<st.h.length:=by
        apply Nat.lt_of_not_le
        intro hge
        simp only[aa]at hp
        by_cases e:b=st.h.length
        · subst e
          have h8:(st.h++[xs]).getD st.h.length []=xs:=by simp[List.getD_eq_getElem?_getD]
          rw[h8,hx,List.getD_eq_getElem?_getD,List.getElem?_map]at hp
          cases h9:arr.toList[k]?<;>rw[h9]at hp<;>cases hp
        · have h8:(st.h++[xs]).getD b []=[]:=by rw[List.getD_eq_getElem?_getD,List.getElem?_eq_none (by simp;omega)];rfl
          rw[h8]at hp
          cases hp
      refine⟨?_,?_⟩
      · simp only[aa,setPos,List.getD_eq_getElem?_getD]
        rw[List.getElem?_append_left hlt]
      · have e:b≠g.n:=by omega
        simp only[an,e,if_false]
theorem Sim.fromBlk{g g1 g':Gh}{st:St}{a:Act}{w w':World}(h:Sim g st a w){s c n cap:Nat}{nw:Bool}{all all':List Int}{H':List (List SV)}{rest:List Value}
 (hlk:look st.t s=.own nw 1 (az all)) (hv:a.tmps.getD s undef=.slice (some ⟨c,0,none⟩) all.length cap) (hcap:all.length≤cap∧cap≤maxLen∧all.length+rest.length=cap) (hnw:nw=true→g.B≤c) (hal:all'.length=all.length)
 (hg1:g1={g with n:=g.n+1,n0:=g.n+1,μ:=fun b=>if b=g.n then c else g.μ b}) (ht:g1.to g') (S0:Sim g' ⟨aA eK ((s,.pv .bot)::st.t),H'++[blk [] all' rest]⟩ a w') (hH:H'.length=st.h.length) (hbT:iH st.h.length st.t) (hbH:dz st.h.length H') (hn:n=st.h.length):
 g.to {g' with n:=g.n,n0:=g.n0}∧Sim {g' with n:=g.n,n0:=g.n0} ⟨(s,.own nw 1 (az all'))::aA eK st.t,H'⟩ a w'∧g'.μ g.n=c:=by
 subst hn;have hgn:=h.n;have hμc:g'.μ g.n=c:=by rw[ht.μ g.n (by rw[hg1];exact Nat.lt_succ_self _),hg1];simp
 have hμ:∀b,b<g.n→g'.μ b=g.μ b:=fun b hb=>by
  rw[ht.μ b (by rw[hg1];exact Nat.lt_succ_of_lt hb),hg1];exact if_neg (by omega)
 have hg'n:g'.n=g.n+1:=by rw[S0.n];simp[hH,hgn]
 have hB:g'.B=g.B:=by rw[ht.B,hg1]
 have hN:g'.N=g.N:=by rw[ht.N,hg1]
 obtain⟨bl',hb'⟩:=S0.own;have hfc:=S0.μI g.n (by omega);rw[hμc]at hfc;have hnc:∀q,bl' q≠some c:=fun q hq=>(hb'.free q c hq).2.2.2 g.n (by omega) hμc;obtain⟨arr',T',b1,⟨b2,b2'⟩,b3⟩:=hb'.blocks g.n (blk [] all' rest) (by show(H'++_)[g.n]?=_;rw[hgn,←hH,List.getElem?_append_right (Nat.le_refl _),Nat.sub_self];rfl);rw[hμc]at b1;have hblk:blk [] all' rest=(all'.map (Value.int .i64)++rest).map fun v=>.pv (.lit v):=by
  unfold blk;simp only[List.map_append,List.map_map,List.map_nil,List.nil_append];rfl
 have harr:arr'=(all'.map (Value.int .i64)++rest).toArray:=by
  rw[hblk,List.length_map]at b2;exact qB (bl:=fun k=>bl' (.cell g.n k)) b2 fun k x hk=>(b3 k x (by rw[hblk];exact hk)).2
 have hle:({g' with n:=g.n}:Gh).le {g' with n:=g.n,n0:=g.n0}:=⟨fun _ _ h=>h,Nat.le_refl _,Nat.le_refl _,fun _ _=>rfl⟩;refine⟨⟨fun k o hk=>ht.I k o (by rw[hg1];exact hk),by rw[ht.F,hg1],hB,rfl,hN,by rw[ht.env,hg1],h.n0,fun b hb=>hμ b (Nat.lt_of_lt_of_le hb h.n0),fun k hF hI=>ht.FI k (by rw[hg1];exact hF) (by rw[hg1];exact hI)⟩,?_,hμc⟩;refine{size:=S0.size,defs:=S0.defs,env:=S0.env,n:=by rw[hgn,←hH],n0:=h.n0,B:=S0.B,I:=S0.I,F:=S0.F,μI:=fun b hb=>S0.μI b (by rw[hg'n];exact Nat.lt_succ_of_lt hb),μinj:=fun b b' hb hb' he=>S0.μinj b b' (by rw[hg'n];exact Nat.lt_succ_of_lt hb) (by rw[hg'n];exact Nat.lt_succ_of_lt hb') he,own:=⟨fun p=>if p=.slot s then some c else bl' p,?_⟩,al:=fun u=>?_}
 ·refine{slots:=fun u=>?_,blocks:=fun b ys hy=>?_,inj:=fun p q k hp hq=>?_,free:=fun p k hp=>?_}
  ·by_cases e:s=u
   ·subst e;simp only[look,if_true];refine .inr ⟨c,rfl,cap,arr',T',all'.map (Value.int .i64),?_,b1,?_,⟨?_,hcap.2.1,b2'⟩,dA _ _,?_,fun hn=>by show g'.B≤c;rw[hB];exact hnw hn⟩
    ·rw[hv];unfold az;simp[hal]
    ·rw[harr];simp[hal];exact hcap.2.2
    ·unfold az;simp[hal];exact hcap.1
    ·rw[harr];exact⟨rest,rfl⟩
   ·have e2:¬(Pos.slot u=Pos.slot s):=fun e3=>e (by cases e3;rfl);simp only[look,if_neg e,if_neg e2,aS];have h1:=hb'.slots u;simp only[aS,look,if_neg e]at h1;refine av.frame hle (fun _ _=>rfl) (av.below ?_ h1);rcases a8 eK (look st.t u)with h2|⟨h2,_⟩
    ·rw[h2];trivial
    ·rw[h2,hgn];exact fT hbT u
  ·have hlt:=(List.getElem?_eq_some_iff.1 hy).1;obtain⟨arr2,T2,d1,d2,d3⟩:=hb'.blocks b ys (by show(H'++_)[b]?=_;rw[List.getElem?_append_left hlt];exact hy);refine⟨arr2,T2,d1,d2,fun k x hk=>⟨(d3 k x hk).1,?_⟩⟩;rw[if_neg (by intro e;cases e)];refine av.frame hle (fun _ _=>rfl) (av.below ?_ (d3 k x hk).2);rw[hgn];exact gI (gJ hbH b ys hy) k x hk
  ·split at hp
   ·rename_i e;split at hq
    ·rename_i e';rw[e,e']
    ·cases hp;exact absurd hq (hnc q)
   ·split at hq
    ·cases hq;exact absurd hp (hnc p)
    ·exact hb'.inj p q k hp hq
  ·split at hp
   ·cases hp
    refine⟨hfc.1,hfc.2,(Array.getElem?_eq_some_iff.1 b1).1,fun b hb e=>?_⟩;have hb0:b<g.n:=hb;have:=S0.μinj b g.n (by omega) (by omega) (by rw[hμc];exact e);omega
   ·obtain⟨q1,q2,q3,q4⟩:=hb'.free p k hp;exact⟨q1,q2,q3,fun b hb=>q4 b (by rw[hg'n];exact Nat.lt_succ_of_lt hb)⟩
 ·by_cases e:s=u
  ·subst e;simp only[look,if_true];trivial
  ·simp only[look,if_neg e,aS];rcases a8 eK (look st.t u)with h2|⟨h2,hav⟩
   ·rw[h2];trivial
   ·rw[h2];have hown:(aa st (.slot s)).isOwn=true:=by show(look st.t s).isOwn=true;rw[hlk];rfl
    have h3:bN g (setPos st (.slot s) (.own nw 1 (az all'))) a w (look st.t u) (a.tmps.getD u undef):=by
     refine bN.write (p:=.slot s) (sv':=.own nw 1 (az all')) (fun r hr=>cE st _ r _ (Ne.symm hr)) (bS hown) hown (fun _ _=>rfl) (fun nw' e' rows' he=>?_) (h.al u);cases he
     exact⟨nw,az all,hlk,by unfold az;simp[hal]⟩
    refine bN.congrA (q:=eK) (fun p hp hpo=>?_) hav h3;cases p with
    |cell b k=>cases hp
    |slot v=>
     refine⟨?_,rfl⟩;simp only[aa,setPos,look]at hpo⊢;split
     ·rfl
     ·rename_i hne;rw[if_neg hne,aS]at hpo;rw[aS];exact dH hpo
theorem dg.introB{P:Program}{st:St}{f:FuncId}{d:Option Tmp}{K:St→Prop}{c:Operand}{args:Array Operand}{q:List PV}{x:Operand}{xs:List Operand}{s lo hi:Nat}{nw:Bool}{all zs:List Int}{va:List PV}{R:Option Nat→List Int→List (List SV)→Prop}
 (hlk:look st.t s=.own nw 1 (az all)) (hgc:gc st c) (hcal:bv st c=some (f,[],q)) (ha:args.toList=x::xs) (hp:partOf st x=some (.slot s,lo,hi)) (hg:gc st x) (hlo:lo<hi) (hz:(all.take hi).drop lo=zs)
 (hT:iH st.h.length st.t) (hpv:lZ st xs) (hva:ii st xs++q=va)
 (h : ∀ (pre suf : List Value) (cap : Nat), zs.length ≤ cap → pre.length = lo → aE P f (.bsl st.h.length 1 pre.length zs.length cap :: va) (st.h ++ [blk pre zs suf])
  (fun r h'=>∃k zs' H',R k zs' H'∧zs'.length=zs.length∧(∀m,k=some m→m≤zs.length)∧H'.length=st.h.length∧dz st.h.length H'∧r=IB st.h.length k pre.length cap∧h'=H'++[blk pre zs' suf]))
 (hK:∀k zs' H',R k zs' H'→zs'.length=zs.length→(∀m,k=some m→m≤zs.length)→K (Bf d k (.slot s) lo ⟨(s,.own nw 1 (az (all.take lo++zs'++all.drop hi)))::aA eK st.t,H'⟩)):dg P st c args d K:=by
 subst hva;intro o tys ho hdd g a w hs hd K' Q hK';obtain⟨u,v,hx,hu,hv'⟩:=ea hs hgc hcal;have hu0:u.toList=[]:=hu;obtain⟨nw1,e1,rows1,hpo,j1,j2,q0,cap,jv,jc,jq,jz⟩:=lC hs hg hp;have hpo':look st.t s=.own nw1 e1 rows1:=hpo;rw[hlk]at hpo';cases hpo'
 have hlen:(az all).length=all.length:=by unfold az;simp
 rw[hlen]at j2;obtain⟨bl,hb⟩:=hs.own;have hfs:=hb.slots s;rw[hlk]at hfs;rcases hfs with⟨_,e1,_⟩|⟨cc,hbc,cap0,arr,T,vs,e1,e2,e3,e4,e5,e6,e7⟩
 ·rw[e1]at hlen;simp at hlen;omega
 have hvs:=bC e5;subst hvs;obtain⟨rest,hrest⟩:=e6;rw[hlen]at e1 e4;have hq0:q0=some ⟨cc,lo,none⟩:=by
  rcases jq with jq|⟨c1,n1,cp,h5,h6⟩
  ·omega
  ·have h5':a.tmps.getD s undef=.slice (some ⟨c1,0,none⟩) n1 cp:=h5;rw[e1]at h5';cases h5';rw[h6,Nat.mul_one]
 subst hq0;have hzl:zs.length=hi -lo:=by rw[←hz,List.length_drop,List.length_take];omega
 have hsplit:all=all.take lo++zs++all.drop hi:=by
  rw[←hz];have h8:all.take lo=(all.take hi).take lo:=by rw[List.take_take,Nat.min_eq_left (by omega)]
  rw[h8,List.take_append_drop,List.take_append_drop]
 have hblk:∀zs':List Int,blk ((all.take lo).map (Value.int .i64)) zs' ((all.drop hi).map (Value.int .i64)++rest)=blk [] (all.take lo++zs'++all.drop hi) rest:=fun zs'=>by
  unfold blk;simp only[List.map_append,List.map_map,List.map_nil,List.nil_append,List.append_assoc];rfl
 have harr:arr.toList.map (fun v=>SV.pv (.lit v))=blk [] all rest:=by
  rw[←hrest];unfold blk;simp only[List.map_append,List.map_map,List.map_nil,List.nil_append];rfl
 have S1:=hs.toBlk hb hbc e2 e4.2.2 (xs:=blk [] all rest) harr.symm;obtain⟨g1,hg1⟩:∃g1:Gh,g1={g with n:=g.n+1,n0:=g.n+1,μ:=fun b=>if b=g.n then cc else g.μ b}:=⟨_,rfl⟩;rw[←hg1]at S1;have hle:g.le g1:=by subst hg1;exact⟨fun _ _ h=>h,Nat.le_refl _,Nat.le_succ _,fun b hb=>if_neg (by omega)⟩
 have hpl:((all.take lo).map (Value.int .i64)).length=lo:=by rw[List.length_map,List.length_take];omega
 obtain⟨hcall,hA⟩:=h ((all.take lo).map (Value.int .i64)) ((all.drop hi).map (Value.int .i64)++rest) cap (by omega) hpl;rw[hblk,←hsplit,hpl,hzl]at hA;have hfit:ai g1 (.bsl st.h.length 1 lo (hi -lo) cap::(ii st xs++q)) (a.eval x::(xs.map a.eval++v.toList)):=by
  refine⟨_,_,rfl,⟨?_,jc,?_⟩,ai.append (ai.mono hle _ _ (ka hs xs hpv)) (ai.mono hle _ _ hv')⟩
  ·rw[hg1,hs.n];exact Nat.lt_succ_self _
  ·rw[jv,hg1,hs.n];simp
 have hra:(a.eval x::(xs.map a.eval++v.toList)).toArray=u++args.map a.eval++v:=by
  apply Array.ext';simp[hu0,ha]
 have hrun:(execOp a.eval o).run P w=.ok (.enter f (u++args.map a.eval++v)) w:=by
  unfold aB at hcall;split at hcall
  case h_2=>cases hcall
  rename_i fn hfn;simp only[Bool.and_eq_true,Bool.not_eq_true']at hcall;simp only[execOp,ho,resolve,hx,Deferred.ofValue,invoke,callFunc,Sem.run_bind,Sem.run_pure,Result.andThen_ok,run_program,hfn,hcall.1,hcall.2,Bool.false_eq_true,if_false]
 unfold Oper.wp;rw[hrun,Oper.upon_enter,←hra];refine(hA g1 _ a w _ S1 rfl hfit).mono fun e9 w' ⟨v9,r,h',g',he,⟨k,zs',H',r1,r2,r3,r4,r5,r6,r7⟩,t',hs'⟩=>?_;subst he r6 r7;have hk1:=hK k zs' H' r1 (by rw[hzl];exact r2) (by rw[hzl];exact r3);have S0:=hs' none trivial;have S0':Sim g' ⟨aA eK ((s,.pv .bot)::st.t),H'++[blk [] (all.take lo++zs'++all.drop hi) rest]⟩ a w':=by
  rw[←hblk];exact S0
 have hal:(all.take lo++zs'++all.drop hi).length=all.length:=by simp only[List.length_append,List.length_take,List.length_drop,r2];omega
 have hrl:all.length+rest.length=cap0:=by
  have:arr.size=arr.toList.length:=(Array.length_toList ..).symm;rw[←hrest]at this;simp only[List.length_append,List.length_map]at this;omega
 obtain⟨f1,f2,f3⟩:=hs.fromBlk (all':=all.take lo++zs'++all.drop hi) hlk e1 ⟨e4.1,e4.2.1,hrl⟩ e7 hal hg1 t' S0' r4 hT r5 rfl;cases d with
 |none=>rw[hdd];exact hK' _ _ _ _ hk1 f1 f2
 |some d=>
  have hd1:d<g'.N:=by rw[t'.N,hg1];exact hd
  have hd':bR g1.N (some d):=by rw[hg1];exact hd
  have Sd:=hs' (some d) hd';obtain⟨bl2,hb2⟩:=Sd.own;have hsd:=hb2.slots d;have hda:d<a.tmps.size:=by rw[hs.size];exact hd
  rw[gD hda,if_pos rfl]at hsd;rw[hdd];cases k with
  |none=>
   have h7:av g' w' (.pv (.tup [])) v9 (bl2 (.slot d)):=by simpa[IB,km,St.put,look]using hsd
   refine hK' _ _ _ _ hk1 f1 (f2.put hd1 ⟨rfl,h7.2⟩ trivial rfl)
  |some m=>
   have h7:av g' w' (.pv (.bsl st.h.length 1 lo m cap)) v9 (bl2 (.slot d)):=by simpa[IB,km,St.put,look]using hsd
   obtain⟨_,_,hmc,hv9⟩:=h7;have hm:=r3 m rfl;refine hK' _ _ _ _ hk1 f1 (f2.put hd1 rfl ?_ rfl);intro nw2 e2' rows2 hp2;simp only[aa,look,if_true]at hp2;cases hp2
   have hm2:lo+m -lo=m:=by omega
   rw[←hs.n,f3]at hv9;refine⟨by omega,by rw[show(az (all.take lo++zs'++all.drop hi)).length=all.length by unfold az;rw[List.length_map,hal]];omega,_,_,by rw[hm2];exact hv9,by rw[hm2];exact hmc,.inr ⟨cc,_,_,e1,by rw[Nat.mul_one]⟩,fun h0=>?_⟩;exact jz h0
end Go.AX