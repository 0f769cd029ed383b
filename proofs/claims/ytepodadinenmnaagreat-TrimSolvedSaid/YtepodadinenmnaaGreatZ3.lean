/-
  AX, part IN: calls that are handed a slice of the caller's own, and write into it; and what follows.
-/
import Derived.Test.YtepodadinenmnaaGreatZ2
import Derived.Lib.SliceRun
import Derived.Deep.Quiet
import Derived.Orders
import Derived.Scope
import Derived.OwnWalk
import Derived.KernelRfl
namespace Go.AX
mutual
def PV.bel(k:Nat):PV->Prop
  |.bot=>True
  |.lit _=>True
  |.agg xs=>b7 k xs
  |.tup xs=>b7 k xs
  |.seq _ _ rows=>bV k rows
  |.iptr _ rows _ _=>bV k rows
  |.ptr b _=>b<k
  |.bsl b _ _ _ _=>b<k
  |.fn _ first cap=>b7 k first∧b7 k cap
  |.amap _ es=>fB k es
  |.ifc _ x=>x.bel k
def b7(k:Nat):aD->Prop
  |[]=>True
  |x::xs=>x.bel k∧b7 k xs
def bV(k:Nat):aT->Prop
  |[]=>True
  |x::xs=>b7 k x∧bV k xs
def fB(k:Nat):dw->Prop
  |[]=>True
  |(_,x)::xs=>x.bel k∧fB k xs
end
mutual
def PV.old:PV->Prop
  |.bot=>True
  |.lit _=>True
  |.agg xs=>nQ xs
  |.tup xs=>nQ xs
  |.seq nw _ rows=>nw=false∧za rows
  |.iptr _ rows _ _=>za rows
  |.ptr _ _=>True
  |.bsl _ _ _ _ _=>True
  |.fn _ first cap=>nQ first∧nQ cap
  |.amap nw es=>nw=false∧J7 es
  |.ifc _ x=>x.old
def nQ:aD->Prop
  |[]=>True
  |x::xs=>x.old∧nQ xs
def za:aT->Prop
  |[]=>True
  |x::xs=>nQ x∧za xs
def J7:dw->Prop
  |[]=>True
  |(_,x)::xs=>x.old∧J7 xs
end
structure Gh.leC (g g':Gh):Prop where
  C:∀c arr T fz,g.I c=some (.cells arr T fz)->g'.I c=some (.cells arr T fz)
  M:∀c en ck,g.I c=some (.map en ck)->g'.I c=some (.map en ck)
section
variable {g g' : Gh}
mutual
theorem Fit.monoC(hl:g.leC g'):∀(x:PV)(v:an),(g'.B<=g.B∨x.old)->(g.n=0∨x.bel 0)->Fit g x v->Fit g' x v
  |.bot,_,_,_,_=>trivial
  |.lit _,_,_,_,h=>h
  |.agg xs,v,ho,hb,⟨vs,h1,h2⟩=>⟨vs,h1,ax.monoC hl xs _ ho hb h2⟩
  |.tup xs,v,ho,hb,⟨vs,h1,h2⟩=>⟨vs,h1,ax.monoC hl xs _ ho hb h2⟩
  |.seq nw e rows,v,ho,hb,⟨p,cap,h1,hc,h2⟩=>⟨p,cap,h1,hc,h2.imp id λ⟨c,off,arr,T,fz,vs,a,b,n,r,q⟩=>⟨c,off,arr,T,fz,vs,a,hl.C _ _ _ _ b,
      λhn=>ho.elim (λhB=>Wb hB (n hn)) (λho=>by rw[ho.1]at hn;cases hn),aK.monoC hl e rows vs (ho.imp id (·.2)) hb r,q⟩⟩
  |.iptr e rows i k,v,ho,hb,⟨c,off,arr,T,fz,vs,a,b,r,q⟩=>⟨c,off,arr,T,fz,vs,a,hl.C _ _ _ _ b,aK.monoC hl e rows vs ho hb r,q⟩
  |.ptr b off,v,_,hb,⟨h1,h2⟩=>hb.elim (λh=>absurd h1 (by omega)) (λh=>absurd h (XD _))
  |.bsl b _ _ _ _,v,_,hb,⟨h1,h2⟩=>hb.elim (λh=>absurd h1 (by omega)) (λh=>absurd h (XD _))
  |.fn f first cap,v,ho,hb,⟨a,b,h1,h2,h3⟩=>⟨a,b,h1,ax.monoC hl first _ (ho.imp id (·.1)) (hb.imp id (·.1)) h2,ax.monoC hl cap _ (ho.imp id (·.2)) (hb.imp id (·.2)) h3⟩
  |.amap nw es,v,ho,hb,⟨r,en,ck,a,b,n,q⟩=>⟨r,en,ck,a,hl.M _ _ _ b,λhn=>ho.elim (λhB=>Wb hB (n hn)) (λho=>by rw[ho.1]at hn;cases hn),cu.monoC hl es _ (ho.imp id (·.2)) hb q.1,q.2⟩
  |.ifc t x,v,ho,hb,⟨y,h1,h2⟩=>⟨y,h1,Fit.monoC hl x y ho hb h2⟩
theorem ax.monoC(hl:g.leC g'):∀(xs:aD)(vs:aG),(g'.B<=g.B∨nQ xs)->(g.n=0∨b7 0 xs)->ax g xs vs->ax g' xs vs
  |[],_,_,_,h=>h
  |x::xs,vs,ho,hb,⟨v,r,h1,h2,h3⟩=>⟨v,r,h1,Fit.monoC hl x v (ho.imp id (·.1)) (hb.imp id (·.1)) h2,ax.monoC hl xs r (ho.imp id (·.2)) (hb.imp id (·.2)) h3⟩
theorem aK.monoC(hl:g.leC g')(e:Nat):∀(rows:aT)(vs:aG),(g'.B<=g.B∨za rows)->(g.n=0∨bV 0 rows)->aK g e rows vs->aK g' e rows vs
  |[],_,_,_,h=>h
  |row::rows,vs,ho,hb,⟨v1,v2,h1,h2,h3,h4⟩=>⟨v1,v2,h1,h2,ax.monoC hl row v1 (ho.imp id (·.1)) (hb.imp id (·.1)) h3,aK.monoC hl e rows v2 (ho.imp id (·.2)) (hb.imp id (·.2)) h4⟩
theorem cu.monoC(hl:g.leC g'):∀(es:dw)(en:List MapEntry),(g'.B<=g.B∨J7 es)->(g.n=0∨fB 0 es)->cu g es en->cu g' es en
  |[],_,_,_,h=>h
  |(k,x)::es,en,ho,hb,⟨m,r,h1,h2,h3,h4⟩=>⟨m,r,h1,h2,Fit.monoC hl x m.val (ho.imp id (·.1)) (hb.imp id (·.1)) h3,cu.monoC hl es r (ho.imp id (·.2)) (hb.imp id (·.2)) h4⟩
end
end
def sm(w:ab)(c:Nat):ab:={w with heap:=w.heap.setIfInBounds c (.mapIter none 0 #[] 0)}
theorem mF(w:ab){c k:Nat}(h:k≠c):(sm w c).heap[k]?=w.heap[k]?:=by
 simp only[sm,Wy];rw[Vs (Yg h)]
theorem J8{w:ab}{c k:Nat}{arr:Array an}{T:ah}{fz:Nat×Nat}(h:(sm w c).heap[k]?=some (.cells arr T fz)):k≠c∧w.heap[k]?=some (.cells arr T fz):=by
 by_cases e:k=c;subst e;simp only[sm,Wy,Xl]at h;split at h<;>cases h;rw[mF w e]at h;exact⟨e,h⟩
theorem J9{w:ab}{c k:Nat}{en:Array MapEntry}{ck:Nat}(h:(sm w c).heap[k]?=some (.map en ck)):k≠c∧w.heap[k]?=some (.map en ck):=by
 by_cases e:k=c;subst e;simp only[sm,Wy,Xl]at h;split at h<;>cases h;rw[mF w e]at h;exact⟨e,h⟩
def oL(w:ab)(c:Nat):Gh:={dZ (sm w c)with B:=0}
def aV(P:aa)(f:az):Bool:=
 match P.funcs[f]?with
 |some fn=>!(fn.name== "runtime.NumGoroutine")&&!fn.body.isNone
 |none=>false
def qP(P:aa)(f:az)(e:Nat)(rows:aT)(args:aD)(R:Option Nat->aT->Prop):Prop:=
 aV P f=true∧
 (rows ≠ [] -> ∀ (w : ab) (c cap : Nat) (arr : Array an) (T : ah) (pre vs b d : aG), w.heap[c]? = some (.cells arr T (0, 0)) -> arr.toList = pre ++ vs ++ b -> rows.length <= cap -> rows.length <= maxLen ->
  aK (oL w c) e rows vs->ax (oL w c) args d->(∀v∈arr.toList,v.oneCell'=true)->
  Calls P f ((.slice (some ⟨c,pre.length,none⟩) rows.length cap)::d).toArray w λe' w'=>∃k a g,R k a∧a.length=rows.length∧(∀m,k=some m->m<=rows.length)∧
   e'=.returned (match k with|none=>.tuple #[]|some m=>.slice (some ⟨c,pre.length,none⟩) m cap)∧cH w'=cH w∧w.heap.size<=w'.heap.size∧(∀k,k<w.heap.size->k≠c->w'.heap[k]?=w.heap[k]?)∧
   (∃T',w'.heap[c]?=some (.cells (pre++g++b).toArray T' (0,0)))∧∀G,aK G e rows vs->aK G e a g)∧
 (rows = [] -> ∀ (w : ab) (p : Option Addr) (cap : Nat) (d : aG), ax (dZ w) args d ->
  Calls P f ((.slice p 0 cap)::d).toArray w λe' w'=>∃k,R k []∧(k=none∨k=some 0)∧e'=.returned (match k with|none=>.tuple #[]|some m=>.slice p m cap)∧cH w'=cH w∧w.heap.size<=w'.heap.size∧∀k,k<w.heap.size->w'.heap[k]?=w.heap[k]?)
def partOf(st:St)(x:ae):Option (Pos×Nat×Nat):=
 match mv st x with
 |.al p=>match aj st p with
  |.own _ _ rows=>some (p,0,rows.length)
  |_=>none
 |.loc p lo hi=>match aj st p with
  |.own _ _ _=>some (p,lo,hi)
  |_=>none
 |_=>none
def tJ(st:St)(p:Pos):Nat:=match aj st p with
 |.own _ e _=>e
 |_=>0
def dQ(st:St)(p:Pos):aT:=match aj st p with
 |.own _ _ rows=>rows
 |_=>[]
def pG(st:St)(p:Pos):Bool:=match aj st p with
 |.own nw _ _=>nw
 |_=>false
def Ia(d:Option Tmp)(k:Option Nat)(p:Pos)(lo:Nat)(st:St):St:=
 match d with
 |none=>st
 |some d=>match k with
  |none=>st.put d (.pv (.tup []))
  |some m=>st.put d (.loc p lo (lo+m))
theorem oM{g:Gh}{st:St}{a:Act}{w:ab}(h:Sim g st a w){x:ae}(o:gc st x){p:Pos}{lo hi:Nat}(hp:partOf st x=some (p,lo,hi)):
 ∃nw e rows,aj st p=.own nw e rows∧lo<=hi∧hi<=rows.length∧∃q cap,a.eval x=.slice q (hi -lo) cap∧hi -lo<=cap∧(lo=hi∨∃c n cp,aA g a w p=.slice (some ⟨c,0,none⟩) n cp∧q=some ⟨c,lo*e,none⟩)∧(lo=0->∃n0,aA g a w p=.slice q n0 cap):=by
 obtain⟨_,f⟩:=bm h x o;obtain⟨bl,m⟩:=h.own;unfold partOf at hp;split at hp;rename_i B i;rw[i]at f;split at hp;rename_i nw e rows b;cases hp;refine⟨nw,e,rows,b,VH _,Vu _,?_⟩;have k:=f (by rw[b];rfl);have j:=bT m (p:=p) (by rw[b];rfl);rw[b]at j;rcases j with⟨_,rfl,d⟩|⟨c,_,cap,arr,T,vs,d,C,D,l,E,F,G⟩;exact⟨none,0,by rw[k,d];rfl,Vu _,.inl rfl,λ_=>⟨0,d⟩⟩;exact⟨some ⟨c,0,none⟩,cap,by rw[k,d];rfl,l.1,.inr ⟨c,_,cap,d,by simp⟩,λ_=>⟨_,d⟩⟩;cases hp;rename_i B A r i;rw[i]at f;split at hp;rename_i nw e rows b;cases hp;obtain⟨s,t,q,cap,u,v,y,z⟩:=f _ _ _ b;exact⟨nw,e,rows,b,s,t,q,cap,u,v,y,z⟩;cases hp;cases hp
theorem Sim.turn{g:Gh}{st:St}{a:Act}{w w':ab}(h:Sim g st a w){bl:Pos->Option Nat}(q:Owns g st a w bl){c:Nat}(f:FreeAt g bl c)(r:cH w'=cH w)(l:w'.heap.size=w.heap.size)(m:∀k,k≠c->w'.heap[k]?=w.heap[k]?):
 Sim g st a w':=by
 have d:∀{b:Nat}{xs:bj},st.h[b]?=some xs->b<g.n:=λhx=>by rw[h.n];exact(Vp.1 hx).1
 have i:∀p k,bl p=some k->w'.heap[k]?=w.heap[k]?:=λp k hk=>m k (λe=>f.own p (e▸hk));refine{size:=h.size,defs:=h.defs,env:=r.trans h.env,n:=h.n,n0:=h.n0,B:=by rw[l];exact h.B,I:=λk o hk=>?_,F:=λk o hk=>?_,μI:=h.μI,μinj:=h.μinj,own:=⟨bl,?_⟩,al:=λs=>?_};rw[m k (λe=>by rw[e,f.I]at hk;cases hk)];exact h.I k o hk;rw[m k (λe=>by rw[e,f.F]at hk;cases hk)];exact h.F k o hk;refine{slots:=λs=>aO.frame (Gh.le.refl g) (i _) (q.slots s),blocks:=λb xs hx=>?_,inj:=q.inj,free:=λp k hk=>?_};obtain⟨arr,T,h1,A,t⟩:=q.blocks b xs hx;exact⟨arr,T,by rw[m _ (f.μ b (d hx))];exact h1,A,λj x hj=>⟨(t j x hj).1,aO.frame (Gh.le.refl g) (i _) (t j x hj).2⟩⟩;obtain⟨u,v,y,z⟩:=q.free p k hk;exact⟨u,v,by rw[l];exact y,z⟩;refine cL.congr (λp hp=>⟨rfl,?_⟩) (h.al s);cases p with
 |slot s=>rfl
 |cell b k=>
  simp only[aj]at hp;cases hx:st.h[b]?with
  |none=>simp[List.getD,hx,SV.isOwn]at hp
  |some xs=>simp only[aA];rw[m _ (f.μ b (d hx))]
def Ka(rows:aT)(lo hi:Nat):Nat:=min rows.length (hi -lo)
def PQ(P:aa)(st:St)(t:ah)(x y:ae)(d:Option Tmp)(K:St->Prop):Prop:=
 (cR st y).2.2∧gc (cR st y).2.1 x∧
 match(cR st y).1,partOf (cR st y).2.1 x,cF P t with
 |.seq _ e' a,some (p,lo,hi),some (e,_)=>e'=e∧tJ (cR st y).2.1 p=e∧
  K (putD d (.pv (.lit (.int .i64 (Ka a lo hi)))) (setPos (cR st y).2.1 p (.own (pG (cR st y).2.1 p) e ((dQ (cR st y).2.1 p).take lo++a.take (Ka a lo hi)++(dQ (cR st y).2.1 p).drop (lo+Ka a lo hi)))))
 |_,_,_=>False
def isLit:PV->Prop
 |.lit _=>True
 |_=>False
def F5:aD->Prop
 |[]=>True
 |x::xs=>isLit x∧F5 xs
def F6:aT->Prop
 |[]=>True
 |x::xs=>F5 x∧F6 xs
theorem ax.lits{g g':Gh}:∀{xs:aD}{vs:aG},F5 xs->ax g xs vs->ax g' xs vs
 |[],_,_,h=>h
 |x::xs,_,a,⟨v,r,h1,b,c⟩=>by
  refine⟨v,r,h1,?_,ax.lits a.2 c⟩;have:=a.1;cases x<;>first|exact b|exact this.elim
theorem aK.lits{g g':Gh}{e:Nat}:∀{xs:aT}{vs:aG},F6 xs->aK g e xs vs->aK g' e xs vs
 |[],_,_,h=>h
 |_::_,_,a,⟨f,i,h1,b,c,d⟩=>⟨f,i,h1,b,ax.lits a.1 c,aK.lits a.2 d⟩
def copyV(P:aa)(st:St)(t:ah)(x y:ae)(d:Option Tmp)(K:St->Prop):Prop:=
 N4 st y∧gc st x∧
 match vw 0 st y,partOf st x,cF P t with
 |.seq _ e' a,some (p,lo,hi),some (e,_)=>e'=e∧tJ st p=e∧F6 a∧
  K (putD d (.pv (.lit (.int .i64 (Ka a lo hi)))) (setPos st p (.own (pG st p) e ((dQ st p).take lo++a.take (Ka a lo hi)++(dQ st p).drop (lo+Ka a lo hi)))))
 |_,_,_=>False
def PR:SV->Bool
 |.loc _ _ _=>true
 |_=>false
def F7(P:aa)(st:St)(t:ah)(x y:ae)(d:Option Tmp)(K:St->Prop):Prop:=
 if PR (mv st y)=true then copyV P st t x y d K else PQ P st t x y d K
theorem Sim.setSame{g:Gh}{st:St}{a:Act}{w:ab}(h:Sim g st a w){p:Pos}{nw:Bool}{e:Nat}{rows:aT}(hp:aj st p=.own nw e rows):Sim g (setPos st p (.own nw e rows)) a w:=by
 cases p with
 |slot s=>
  refine h.looks rfl λk=>?_;simp only[setPos,look];split;rename_i e;rw[←e];exact hp.symm;rfl
 |cell b k=>
  have:setPos st (.cell b k) (.own nw e rows)=st:=by
   simp only[aj]at hp;cases hx:st.h[b]?with
   |none=>simp[List.getD,hx]at hp
   |some xs=>
    have h1:st.h.getD b []=xs:=by simp[List.getD,hx]
    rw[h1]at hp;have d:xs.set k (.own nw e rows)=xs:=by
     cases hk:xs[k]?with
     |none=>simp[List.getD,hk]at hp
     |some y=>
      simp only[List.getD,hk,V7]at hp;subst hp;obtain⟨c,hy⟩:=Vp.1 hk;rw[←hy];exact Xs c
    simp only[setPos,h1,d];obtain⟨c,hy⟩:=Vp.1 hx;rw[←hy,Xs]
  rw[this];exact h
theorem Ib{P:aa}(w:ab)(t e ty d:ah)(i:TypeInfo)(ht:P.underlying t=some (.slice d))(hi:P.info? d=some i)(b q:Option Addr)(n m k c:Nat)(h0:min m n=0):
 (Builtin.copy_ #[t,e] ty #[.slice b n k,.slice q m c]).run P w=.ok (goInt 0) w:=by
 have a:Nat.min m n=0:=h0;cases q with
 |none=>cases b<;>simp[Builtin.copy_,cq ht,sizeOf,typeInfo,hi,Builtin.lenOf,a,Builtin.firstCells,storeCells]
 |some q=>cases b<;>simp[Builtin.copy_,cq ht,sizeOf,typeInfo,hi,Builtin.lenOf,a,Builtin.firstCells,storeCells,loadCells,loadCellsFrom]
theorem Ic{P:aa}(w:ab)(t q ty g:ah)(i:TypeInfo)(ht:P.underlying t=some (.slice g))(hi:P.info? g=some i)
 (c off:Nat) (T:ah) (arr:Array an) (h:w.heap[c]?=some (.cells arr T (0,0))) (a:Addr) (n k m f:Nat) (news:aG) (o:news.length=min m n*i.size) (b:∀(j:Nat) u,news[j]?=some u->w.cell? (a.add j)=some u) (h1:∀u∈news,u.oneCell'=true)
 (d:off+news.length<=arr.size):
 (Builtin.copy_ #[t,q] ty #[.slice (some ⟨c,off,none⟩) n k,.slice (some a) m f]).run P w=.ok (goInt (min m n:Nat)) (w.setRow c (splice arr.toList off news).toArray):=by
 have l:=run_firstCells_some (P:=P) w i.size (min m n) a m f news o b;have e:=run_storeCells_at P c off T news 0 arr w h (by simpa using d) h1;simp only[Ye]at e;have p:Nat.min m n=min m n:=rfl;simp[Builtin.copy_,cq ht,sizeOf,typeInfo,hi,Builtin.lenOf,p,l,e,splice]
theorem xp{P:aa}{f:St}(o:ai)(t t2:ah)(x y:ae)(d:Option Tmp){K:St->Prop}(ho:o.op=.call {callee:=.builtin .copy,args:=#[x,y],argTypes:=#[t,t2]}) (hd:o.dst=d) {g2:Gh} {a:Act} {w:ab} (S:Sim g2 f a w) (Y:cX g2.N o.dst)
 {b:aT} {p:Pos} {lo hi e zz:Nat} (h2:gc f x) (hp:partOf f x=some (p,lo,hi)) (aw:cF P t=some (e,zz)) (hE:tJ f p=e) {p2:Option Addr} {B:Nat} (ag:a.eval y=.slice p2 b.length B)
 (M:b=[]∨∃c2 s A T2 V l,p2=some ⟨c2,s,none⟩∧w.heap[c2]?=some (.cells A T2 V)∧aK g2 e b l∧l<+:A.toList.drop s)
 (hK:K (putD d (.pv (.lit (.int .i64 (Ka b lo hi)))) (setPos f p (.own (pG f p) e ((dQ f p).take lo++b.take (Ka b lo hi)++(dQ f p).drop (lo+Ka b lo hi)))))):
 ∃v w' g' st',(execOp a.eval o).run P w=.ok (.value v) w'∧g2.to g'∧K st'∧Sim g' st' (a.put o.dst v) w':=by
 obtain⟨nw,g,rows,m,j1,j2,q0,cap,jv,jc,jq,_⟩:=oM S h2 hp;have eE:tJ f p=g:=by simp only[tJ,m]
 have eR:dQ f p=rows:=by simp only[dQ,m]
 have eN:pG f p=nw:=by simp only[pG,m]
 rw[eE]at hE;subst hE;rw[eR,eN]at hK;obtain⟨el,i,z,hu,G,_,ax,_,_,_⟩:=oJ aw;have D:∀v w',(Builtin.copy_ #[t,t2] o.type #[a.eval x,a.eval y]).run P w=.ok v w'->(execOp a.eval o).run P w=.ok (.value v) w':=λv w' Q=>by
  simp[execOp,ho,resolve,invoke,builtin,Q]
 have hN:Ka b lo hi=min b.length (hi -lo):=rfl;by_cases h0:min b.length (hi -lo)=0;have Q:=Ib (P:=P) w t t2 o.type el i hu G q0 p2 (hi -lo) b.length cap B h0;rw[←jv,←ag]at Q;refine⟨_,_,g2,_,D _ _ Q,S.refl_to,hK,?_⟩;rw[hN,h0];have R:rows.take lo++b.take 0++rows.drop (lo+0)=rows:=by simp
 rw[R,←hd];exact(S.setSame m).putD Y ⟨rfl,rfl⟩ trivial rfl;have ar:lo≠hi:=λh=>h0 (by subst h;simp);have av:b≠[]:=λh=>h0 (by subst h;simp);rcases jq with jq|⟨c,nn,cp,h5,h6⟩;exact absurd jq ar;rcases M with M|⟨c2,s,A,T2,V,l,au,ao,W,O⟩;exact absurd M av;subst h6 au;obtain⟨bl,hb⟩:=S.own;have H:(aj f p).isOwn=true:=by rw[m];rfl
 have Z:=bT hb H;rw[m]at Z;rcases Z with⟨_,rfl,_⟩|⟨c',an,aA,arr,T,vs,e1,e2,e3,e4,U,e6,e7⟩;simp at j2;omega;rw[h5]at e1;cases e1;obtain⟨n,hn⟩:∃n,min b.length (hi -lo)=n:=⟨_,rfl⟩;have J:n<=b.length:=by omega
 have aC:lo+n<=hi:=by omega
 have r:=aK.cut W 0 n (VH _) J;simp only[YW,YZ]at r;have I:=W.length;have ak:=U.length;have L:(l.take (n*g)).length=n*g:=by
  rw[Vy,I];exact WL (Xc _ J)
 have aB:lo*g+n*g<=vs.length:=by rw[ak,←Zw];exact Xc _ (by omega)
 obtain⟨rest,q⟩:=e6;have ad:arr.size=vs.length+rest.length:=by rw[←Wm,←q,Vz]
 have Q := Ic (P := P) w t t2 o.type el i hu G c (lo * g) T arr e2 ⟨c2, s, none⟩ (hi - lo) cap b.length B (l.take (n * g)) (by rw [hn, ax]; exact L) (λ j u hj => by
  rw[gW,cell_of ao,←Vw];have aq:l[j]?=some u:=by
   rw[Wg]at hj;split at hj;exact hj;cases hj
  have:=iA O aq
  rwa [Wk]at this) (λu ay=>r.one u ay) (by rw[L,ad];omega)
 rw[←jv,←ag]at Q;have af:Sim g2 (setPos f p (.own nw g (rows.take lo++b.take n++rows.drop (lo+n)))) a (w.setRow c (splice arr.toList (lo*g) (l.take (n*g))).toArray):=by
  have E:splice arr.toList (lo*g) (l.take (n*g))=(vs.take (lo*g)++l.take (n*g)++vs.drop (lo*g+n*g))++rest:=by
   unfold splice;rw[L,←q,Wd (by omega),WB (by omega)];simp only[VV]
  have X:=aK.cut U 0 lo (VH _) (by omega);have C:=aK.cut U (lo+n) rows.length (by omega) (Vu _);simp only[YW,YZ,VX]at X C;have az:vs.take (rows.length*g)=vs:=by rw[←ak,VX]
  rw[az,Zw]at C;refine S.ownWrite hb H an rfl (size_setRow _ _ _) (λk hk=>setRow_other w _ k _ hk) (.inr ⟨c,rfl,cp,_,T,vs.take (lo*g)++l.take (n*g)++vs.drop (lo*g+n*g),?_,setRow_heap w _ arr _ T _ e2,?_,?_,aK.append (aK.append X r) C,?_,e7⟩) rfl ?_;rw[h5];congr 1;simp only[Vz,Vy,Wf];omega;rw[←e3,ad,E];simp only[Ww,Vz,Vy,Wf,I];have:=WL (Xc g J);omega;refine⟨by simp only[Vz,Vy,Wf];omega,e4.2.1,?_⟩;intro v F;rw[E]at F;simp only[VF]at F;rcases F with((F|F)|F)|F;exact U.one v (Wn F);exact r.one v F;exact U.one v (XB F);exact e4.2.2 v (by rw[←q];exact Xi _ F);exact⟨rest,by rw[E]⟩;intro aD e' rows1 hh;cases hh;exact⟨nw,rows,m,by simp only[Vz,Vy,Wf];omega⟩
 refine⟨_,_,g2,_,D _ _ Q,S.refl_to,hK,?_⟩;rw[hN,hn,←hd];exact af.putD Y ⟨rfl,rfl⟩ trivial rfl
theorem Kb{P:aa}{st:St}(o:ai)(t Q:ah)(x y:ae)(d:Option Tmp){K:St->Prop}(ho:o.op=.call {callee:=.builtin .copy,args:=#[x,y],argTypes:=#[t,Q]}) (hd:o.dst=d) (h:F7 P st t x y d K):
 ∀g a w,Sim g st a w->cX g.N d->∃v w' g' st',(execOp a.eval o).run P w=.ok (.value v) w'∧g.to g'∧K st'∧Sim g' st' (a.put o.dst v) w':=by
 intro g a w hs r;unfold F7 at h;split at h
 .obtain⟨h1,E,i⟩:=h;have B:=PP hs 0 y h1;split at i
  case h_2=>exact i.elim
  rename_i M e' m p lo hi e D L hp k;obtain⟨rfl,F,J,G⟩:=i;rw[L]at B;obtain⟨S,q,l,H,j⟩:=B;exact xp o t Q x y d ho hd hs (by rw[hd];exact r) E hp k F l (j.imp id λ⟨c2,c,b,C,f,n,s,u,_,z,O⟩=>⟨c2,c,b,C,f,n,s,u,aK.lits J z,O⟩) G
 .obtain⟨h1,E,i⟩:=h;obtain⟨g2,A,V,W,R,B⟩:=nK hs y h1;generalize(cR st y).2.1=U at*;generalize(cR st y).1=pv at*;split at i
  case h_2=>exact i.elim
  rename_i M e' m p lo hi e D hp k;obtain⟨rfl,F,G⟩:=i;obtain⟨S,q,l,H,j⟩:=B;obtain⟨v,w',g',st',s,u,T,z⟩:=xp o t Q x y d ho hd R (by rw[hd,A.N];exact r) E hp k F l (j.imp id λ⟨c2,c,b,C,f,n,s,u,_,z,O⟩=>⟨c2,c,b,C,f,n,s,R.I _ _ u,z,O⟩) G;exact⟨v,w',g',st',s,A.trans u,T,z⟩
structure PureEnd (w w':ab) (g':Gh):Prop where
  B:g'.B=w.heap.size
  env:cH w'=cH w
  keep:∀c,c<w.heap.size->w'.heap[c]?=w.heap[c]?
  size:w.heap.size<=w'.heap.size
  I:∀c o,g'.I c=some o->w'.heap[c]?=some o
def aw(P:aa)(f:az)(args:aD)(R:SV->Prop):Prop:=
 aV P f=true∧∀(w:ab)(vs:aG),ax (dZ w) args vs->Calls P f vs.toArray w (λe w'=>∃v r g' o,e=.returned v∧R r∧PureEnd w w' g'∧aO g' w' r v o∧r.inCell=true∧∀c,o=some c->w.heap.size<=c∧g'.I c=none)
def SV.nwS:SV->Prop
 |.pv x=>x.nw
 |.own nw _ rows=>nw=true∧Da rows
 |.omap nw es=>nw=true∧N6 es
 |_=>False
theorem aO.new{g g2:Gh}{w:ab}(f:∀c o,g.I c=some o->g.B<=c->g2.I c=some o)(a:g2.B<=g.B){r:SV}{v:an}{o:Option Nat}(hn:r.nwS)(h:aO g w r v o):aO g2 w r v o:=by
 cases r with
 |pv x=>exact⟨h.1,Fit.new f a x v hn h.2⟩
 |own nw e rows=>exact h.imp id λ⟨c,h1,cap,arr,T,vs,b,d,a3,a4,a5,j,k⟩=>⟨c,h1,cap,arr,T,vs,b,d,a3,a4,aK.new f a e rows vs hn.2 a5,j,λi=>Wb a (k i)⟩
 |omap nw es=>obtain⟨c,h1,en,ck,b,d,a3,a4⟩:=h;exact⟨c,h1,en,ck,b,d,cu.new f a es _ hn.2 a3,λi=>Wb a (a4.1 i),a4.2⟩
 |_=>cases hn
theorem Sim.grown{g:Gh}{st:St}{a:Act}{w w':ab}(h:Sim g st a w)(v:cH w'=cH w)(y:w.heap.size<=w'.heap.size)(t:∀c,c<w.heap.size->w'.heap[c]?=w.heap[c]?)
 (J:Nat->Option Obj) (K:∀c o,J c=some o->w'.heap[c]?=some o):
 Sim {g with I:=λc=>if w.heap.size<=c then J c else g.I c} st a w'∧g.to {g with I:=λc=>if w.heap.size<=c then J c else g.I c}∧
  ∀bl,Owns g st a w bl->Owns {g with I:=λc=>if w.heap.size<=c then J c else g.I c} st a w' bl:=by
 have e:∀{c o},w.heap[c]?=some o->c<w.heap.size:=λL=>(VD.1 L).1;have m:∀c o,g.I c=some o->(if w.heap.size<=c then J c else g.I c)=some o:=λc o d=>by
  rw[Vs (by have:=e (h.I c o d);omega)];exact d
 have hle:g.le {g with I:=λc=>if w.heap.size<=c then J c else g.I c}:=⟨m,Vu _,Vu _,λ_ _=>rfl⟩;obtain⟨l,q⟩:=h.own;have z:∀b,b<g.n->g.μ b<w.heap.size:=λb i=>by
  obtain⟨_,_,u,_⟩:=q.blocks b _ (Vq (h.n▸i));exact e u
 have i:∀{b:Nat}{xs:bj},st.h[b]?=some xs->b<g.n:=λhx=>by rw[h.n];exact(Vp.1 hx).1
 have j:∀bl,Owns g st a w bl->Owns {g with I:=λc=>if w.heap.size<=c then J c else g.I c} st a w' bl:=by
  intro bl f;have r:∀p c,bl p=some c->w'.heap[c]?=w.heap[c]?:=λp c d=>t c (f.free p c d).2.2.1;refine{slots:=λs=>aO.frame hle (r _) (f.slots s),blocks:=λb xs hx=>?_,inj:=f.inj,free:=λp c d=>?_};obtain⟨arr,T,h1,E,u⟩:=f.blocks b xs hx;exact⟨arr,T,by show w'.heap[g.μ b]?=_;rw[t _ (z b (i hx))];exact h1,E,λk x hk=>⟨(u k x hk).1,aO.frame hle (r _) (u k x hk).2⟩⟩;obtain⟨A,C,M,D⟩:=f.free p c d;exact⟨by show(if w.heap.size<=c then J c else g.I c)=none;rw[Vs (by omega)];exact A,C,by omega,D⟩
 refine⟨{size:=h.size,defs:=h.defs,env:=v.trans h.env,n:=h.n,n0:=h.n0,B:=Wb h.B y,I:=λc o d=>?_,F:=λc o d=>?_,μI:=λb f=>?_,μinj:=h.μinj,own:=⟨l,j l q⟩,al:=λs=>?_},
  ⟨m,rfl,rfl,rfl,rfl,rfl,h.n0,λ_ _=>rfl,λc G H=>by
   obtain⟨o,ho⟩:=Option.ne_none_iff_exists'.1 G;show(if w.heap.size<=c then J c else g.I c)=none;rw[Vs (by have:=e (h.F c o ho);omega)];exact H⟩,j⟩
 change(if w.heap.size<=c then J c else g.I c)=some o at d
 split at d;exact K c o d;have:=h.I c o d;rw[t c (e this)];exact this;have:=h.F c o d;rw[t c (e this)];exact this;refine⟨?_,(h.μI b f).2⟩;show(if w.heap.size<=g.μ b then J (g.μ b)else g.I (g.μ b))=none;rw[Vs (by have:=z b f;omega)];exact(h.μI b f).1;refine cL.congr (λp hp=>⟨rfl,?_⟩) (h.al s);cases p with
 |slot s=>rfl
 |cell b k=>
  simp only[aj]at hp;cases hx:st.h[b]?with
  |none=>simp[List.getD,hx,SV.isOwn]at hp
  |some xs=>simp only[aA];rw[t _ (z b (i hx))]
def jE(d:Option Tmp)(r:SV)(st:St):St:=
 match d with
 |none=>st
 |some d=>match r with
  |.own nw e rows=>⟨(d,.own nw e rows)::aW (dx d) st.t,st.h⟩
  |.omap nw es=>⟨(d,.omap nw es)::aW (dx d) st.t,st.h⟩
  |r=>st.put d r
theorem Sim.result{g:Gh}{st:St}{a:Act}{w w':ab}{g':Gh}(h:Sim g st a w){d:Option Tmp}(hd:cX g.N d){r:SV}{v:an}{o:Option Nat}(m:PureEnd w w' g')(q:aO g' w' r v o)(i:r.inCell=true)
 (ho:∀c,o=some c->w.heap.size<=c∧g'.I c=none) (hn:r.nwS):∃g2,g.to g2∧Sim g2 (jE d r st) (a.put d v) w':=by
 obtain⟨h1,u,y⟩:=h.grown m.env m.size m.keep g'.I m.I;refine⟨_,u,?_⟩;have j:aO {g with I:=λc=>if w.heap.size<=c then g'.I c else g.I c} w' r v o:=aO.new (g:=g')
  (λc A i z=>by show(if w.heap.size<=c then g'.I c else g.I c)=some A;rw[Vt (by rw[←m.B];exact z)];exact i) (by show g.B<=g'.B;rw[m.B];exact h.B) hn q
 cases d with
 |none=>exact h1
 |some d=>
  obtain⟨bl,t⟩:=h.own;have p:=y bl t;have s:∀c,o=some c->c<w'.heap.size:=λc b=>by
   cases r with
   |pv x=>rw[q.1]at b;cases b
   |own nw e rows=>
    rcases q with⟨k,_⟩|⟨c',k,_,_,_,_,_,n,_⟩;rw[k]at b;cases b;rw[k]at b;cases b;exact(VD.1 n).1
   |omap nw es=>obtain⟨c',k,_,_,_,n,_⟩:=q;rw[k]at b;cases b;exact(VD.1 n).1
   |_=>cases hn
  have f:∀c,o=some c->FreeAt {g with I:=λc=>if w.heap.size<=c then g'.I c else g.I c} bl c:=λc i=>by
   obtain⟨k,n⟩:=ho c i;have l:=h.fresh t k;exact⟨by show(if w.heap.size<=c then g'.I c else g.I c)=none;rw[Vt k];exact n,l.F,l.μ,l.own⟩
  cases r with
  |pv x=>exact h1.put hd (by rw[q.1]at j;exact j) trivial rfl
  |own nw e rows=>exact h1.putOwn p hd rfl (Vu _) (λ_ _ _=>rfl) j rfl (λc i=>⟨s c i,f c i⟩)
  |omap nw es=>exact h1.putOwn p hd rfl (Vu _) (λ_ _ _=>rfl) j rfl (λc i=>⟨s c i,f c i⟩)
  |_=>cases hn
def b8(st:St)(x:ae):Option (az×aD×aD):=
 match x with
 |.func f=>some (f,[],[])
 |x=>match mv st x with
  |.pv (.fn (.func f) a b)=>some (f,a,b)
  |.pv (.lit (.func (.func f) a b))=>some (f,a.toList.map .lit,b.toList.map .lit)
  |_=>none
def lK(st:St):List ae->Prop
 |[]=>True
 |x::xs=>N4 st x∧lK st xs
theorem uE(k:Nat):∀xs:aD,b7 k xs↔∀x∈xs,x.bel k
 |[]=>by simp[b7]
 |x::xs=>by simp[b7,uE k xs]
theorem iC(k:Nat):∀xs:aT,bV k xs↔∀r∈xs,∀x∈r,x.bel k
 |[]=>by simp[bV]
 |x::xs=>by simp[bV,iC k xs,uE]
theorem uF(k:Nat):∀xs:dw,fB k xs↔∀r∈xs,r.2.bel k
 |[]=>by simp[fB]
 |(n,x)::xs=>by simp[fB,uF k xs]
section
variable {g : Gh} {r : Nat -> Nat -> PV}
mutual
theorem Fit.frz0:∀(x:PV)(v:an),x.bel 0->Fit g x v->Fit g (jD r x) v
  |.bot,_,_,_=>trivial
  |.lit _,_,_,h=>h
  |.agg xs,v,hn,⟨vs,h1,h2⟩=>⟨vs,h1,ax.frz0 xs _ hn h2⟩
  |.tup xs,v,hn,⟨vs,h1,h2⟩=>⟨vs,h1,ax.frz0 xs _ hn h2⟩
  |.seq nw e rows,v,hn,⟨p,cap,h1,hc,h2⟩=>⟨p,cap,by rw[h1,cN,VA],by rw[cN,VA];exact hc,h2.imp (λh=>by rw[h];rfl)
      λ⟨c,off,arr,T,fz,vs,a,b,_,q1,q2⟩=>⟨c,off,arr,T,fz,vs,a,b,λhn=>(by cases hn),aK.frz0 e rows vs hn q1,q2⟩⟩
  |.iptr e rows i k,v,hn,⟨c,off,arr,T,fz,vs,a,b,q1,q2⟩=>⟨c,off,arr,T,fz,vs,a,b,aK.frz0 e rows vs hn q1,q2⟩
  |.ptr b off,v,hn,_=>absurd hn (XD _)
  |.bsl b _ _ _ _,v,hn,_=>absurd hn (XD _)
  |.fn f first cap,v,⟨n1,n2⟩,⟨a,b,h1,h2,h3⟩=>⟨a,b,h1,ax.frz0 first _ n1 h2,ax.frz0 cap _ n2 h3⟩
  |.amap nw es,v,hn,⟨c,en,ck,a,b,_,q⟩=>⟨c,en,ck,a,b,λhn=>(by cases hn),cu.frz0 es _ hn q.1,q.2⟩
  |.ifc t x,v,hn,⟨y,h1,h2⟩=>⟨y,h1,Fit.frz0 x y hn h2⟩
theorem ax.frz0:∀(xs:aD)(vs:aG),b7 0 xs->ax g xs vs->ax g (eG r xs) vs
  |[],_,_,h=>h
  |x::xs,vs,⟨n1,n2⟩,⟨v,r',h1,h2,h3⟩=>⟨v,r',h1,Fit.frz0 x v n1 h2,ax.frz0 xs r' n2 h3⟩
theorem aK.frz0(e:Nat):∀(rows:aT)(vs:aG),bV 0 rows->aK g e rows vs->aK g e (mA r rows) vs
  |[],_,_,h=>h
  |row::rows,vs,⟨n1,n2⟩,⟨v1,v2,h1,h2,h3,h4⟩=>⟨v1,v2,h1,⟨by rw[dY,VA];exact h2.1,h2.2⟩,ax.frz0 row v1 n1 h3,aK.frz0 e rows v2 n2 h4⟩
theorem cu.frz0:∀(es:dw)(en:List MapEntry),fB 0 es->cu g es en->cu g (nL r es) en
  |[],_,_,h=>h
  |(k,x)::es,en,⟨n1,n2⟩,⟨m,r',h1,h2,h3,h4⟩=>⟨m,r',h1,h2,Fit.frz0 x m.val n1 h3,cu.frz0 es r' n2 h4⟩
end
end
def Db(n:Nat)(st:St):List ae->aD
 |[]=>[]
 |x::xs=>vw n st x::Db n st xs
theorem qb(n:Nat)(st:St):∀xs:List ae,Db n st xs=xs.map (vw n st)
 |[]=>rfl
 |x::xs=>by simp[Db,qb n st xs]
theorem sq{g:Gh}{st:St}{a:Act}{w:ab}(h:Sim g st a w)(n:Nat):∀(xs:List ae),lK st xs->ax (dZ w) (xs.map (vw n st)) (xs.map a.eval)
 |[],_=>rfl
 |x::xs,hd=>⟨_,_,rfl,PP h n x hd.1,sq h n xs hd.2⟩
theorem fZ{g:Gh}{st:St}{a:Act}{w:ab}(h:Sim g st a w){x:ae}{f:az}{p q:aD}(o:gc st x)(c:b8 st x=some (f,p,q)):
 ∃u v:Array an,a.eval x=.func (.func f) u v∧ax g p u.toList∧ax g q v.toList:=by
 have key:(match mv st x with|.pv (.fn (.func f) a b)=>some (f,a,b)|.pv (.lit (.func (.func f) a b))=>some (f,a.toList.map .lit,b.toList.map .lit)|_=>(none:Option (az×aD×aD)))=some (f,p,q)->
  ∃u v:Array an,a.eval x=.func (.func f) u v∧ax g p u.toList∧ax g q v.toList:=by
  intro c;obtain⟨d,_⟩:=bm h x o;split at c;rename_i i j q' e;rw[e]at d;cases c;obtain⟨_,u,v,h1,l,m⟩:=d;exact⟨u,v,h1,l,m⟩;rename_i i j q' e;rw[e]at d;cases c;exact⟨j,q',d.2,fi g _,fi g _⟩;cases c
 cases x with
 |func i=>simp only[b8]at c;cases c;exact⟨#[],#[],rfl,rfl,rfl⟩
 |tmp k=>exact key c
 |const v=>exact key c
 |global n=>exact key c
theorem F8{P:aa}{g:Gh}{st:St}{a:Act}{w:ab}(h:Sim g st a w)(o:ai)(x:ae)(args:Array ae)(z:Array ah)(f:az)(p q:aD)(n:Nat)
 (ho:o.op=.call {callee:=.value x,args:=args,argTypes:=z}) (G:gc st x) (E:b8 st x=some (f,p,q)) (J:lK st args.toList) (hd:cX g.N o.dst)
 {R:SV->Prop} (l:aw P f (p.map (jD (bE st.h n))++(args.toList.map (vw n st)++q.map (jD (bE st.h n)))) R) (K:Act->ab->Prop) (Q:Exit->Act->ab->Prop)
 (hn:∀r,R r->r.nwS)
 (i:∀r g2 v w',R r->g.to g2->Sim g2 (jE o.dst r st) (a.put o.dst v) w'->K (a.put o.dst v) w'):o.wp P a w K Q:=by
 obtain⟨u,v,hx,H,y⟩:=fZ h G E;have B:=mB h n;have j:ax (dZ w) (p.map (jD (bE st.h n))++(args.toList.map (vw n st)++q.map (jD (bE st.h n)))) (u.toList++(args.toList.map a.eval++v.toList)):=by
  refine ax.append ?_ (ax.append (sq h n _ J) ?_);rw[←dY];exact ax.frz h.I B _ _ H;rw[←dY];exact ax.frz h.I B _ _ y
 obtain⟨b,l⟩:=l;have c:=l w _ j;have d:(u.toList++(args.toList.map a.eval++v.toList)).toArray=u++args.map a.eval++v:=by
  apply WW;simp
 rw[d]at c;unfold Oper.wp;have k:(execOp a.eval o).run P w=.ok (.enter f (u++args.map a.eval++v)) w:=by
  unfold aV at b;split at b
  case h_2=>cases b
  rename_i fn m;simp only[VC,Wp]at b;simp only[execOp,ho,resolve,hx,Deferred.ofValue,invoke,callFunc,bD,bN,bK,run_program,m,b.1,b.2,We,WM,Sem.run_ite]
 rw[k,Oper.upon_enter];refine c.mono λe w' ⟨val,r,g',O,F,A,C,D,hin,t⟩=>?_;subst F;have s:=hn r A;obtain⟨g2,M,L⟩:=h.result hd C D hin t s;exact i r g2 val w' A M L
def Dy(P:aa)(st:St)(t:ah)(x y:ae)(K:St->Prop):Prop:=
 match aZ P t with
 |some (_,n)=>(cR st y).2.2∧cz (bn (cR st y).1)=true∧((cR st y).1.one=true∨d9 (.pv (cR st y).1))∧(bn (cR st y).1).length=n∧gc (cR st y).2.1 x∧
  match mv (cR st y).2.1 x with
  |.pv (.ptr b off)=>off+n<=((cR st y).2.1.h.getD b []).length∧
   K ⟨aW (a8 b off n) (cR st y).2.1.t,(cR st y).2.1.h.set b (splice ((cR st y).2.1.h.getD b []) off ((bn (cR st y).1).map .pv))⟩
  |.sptr p i k=>match aj (cR st y).2.1 p with
   |.own nw e rows=>i<rows.length∧k+n<=e∧K (setPos (cR st y).2.1 p (.own nw e (rows.set i (splice (rows.getD i []) k (bn (cR st y).1)))))
   |_=>False
  |_=>False
 |none=>False
def Dz(P:aa)(st:St)(t:ah)(x y:ae)(K:St->Prop):Prop:=
 match yW st x y with
 | some (st', ok) => (match aZ P t with
  |some (_,n)=>n=1
  |none=>False)∧ok∧K st'
 |none=>match yY st x y with
  | some (st', m, ok) => (match aZ P t with
   |some (_,n)=>n=m
   |none=>False)∧ok∧K st'
  |none=>Dy P st t x y K
def zb(P:aa)(st:St)(t:ah)(len:Nat)(a:Array (Nat×ae))(d:Tmp)(K:St->Prop):Prop:=
 match bU P t,eq P t with
 |some e,some _=>len*e<=16777216∧0<e∧a.toList.map (·.1)=List.range len∧(dE st (a.toList.map (·.2))).2.2∧
  (∀y∈(dE st (a.toList.map (·.2))).1,(bn y).length=e∧cz (bn y)=true∧(y.one=true∨d9 (.pv y)))∧
  K ⟨(d,.own true e ((dE st (a.toList.map (·.2))).1.map bn))::aW (dx d) (dE st (a.toList.map (·.2))).2.1.t,(dE st (a.toList.map (·.2))).2.1.h⟩
 |_,_=>False
def zc(P:aa)(st:St)(t:ah)(s x:ae)(d:Tmp)(K:St->Prop):Prop:=
 match cF P t with
 |some (e,b)=>0<b∧gc st s∧gc st x∧jV st e (mv st x)∧
  match mv st s with
  |.al p=>match aj st p with
   |.own nw e' rows=>e'=e∧(rows.length+(rowsOf st (mv st x)).length)*b<=140737488355328∧
    K ⟨(d,.own nw e (rows++rowsOf st (mv st x)))::aW (dx d) (setPos st p (.pv .bot)).t,(setPos st p (.pv .bot)).h⟩
   |_=>False
  |.loc p lo hi=>match aj st p with
   |.own nw e' rows=>lo=0∧e'=e∧((rows.take hi).length+(rowsOf st (mv st x)).length)*b<=140737488355328∧
    K ⟨(d,.own nw e (rows.take hi++rowsOf st (mv st x)))::aW (dx d) (setPos st p (.pv .bot)).t,(setPos st p (.pv .bot)).h⟩
   |_=>False
  |.pv (.lit u)=>ic u=true∧(rowsOf st (mv st x)).length*b<=140737488355328∧K ⟨(d,.own true e (rowsOf st (mv st x)))::aW (dx d) st.t,st.h⟩
  |_=>False
 |none=>False
def fE:Pos->Bool
 |.slot _=>false
 |.cell _ _=>true
def aI(P:aa)(f:az)(args:aD)(h:ao)(R:SV->ao->Prop):Prop:=
 aV P f=true∧∀(g:Gh)(st:St)(a:Act)(w:ab)(vs:aG),Sim g st a w->st.h=h->ax g args vs->
  Calls P f vs.toArray w (λe w'=>∃v r h' g',e=.returned v∧R r h'∧g.to g'∧∀d,cX g.N d->Sim g' (jE d r ⟨aW fE st.t,h'⟩) (a.put d v) w')
theorem aI.mono{P:aa}{f:az}{args:aD}{h:ao}{R R':SV->ao->Prop}(b:aI P f args h R)(i:∀r h',R r h'->R' r h'):aI P f args h R':=
 ⟨b.1,λg st a w vs hs e j=>(b.2 g st a w vs hs e j).mono λ_ _ ⟨v,r,h',g',h1,c,d⟩=>⟨v,r,h',g',h1,i r h' c,d⟩⟩
def xq(P:aa)(st:St)(f:az)(a:aD)(d:Option Tmp)(K:St->Prop):Prop:=
 ∃R,aI P f a st.h R∧∀r h',R r h'->K (jE d r ⟨aW fE st.t,h'⟩)
def xt(P:aa)(st:St)(f:az)(p:aD)(args:Array ae)(q:aD)(d:Option Tmp)(K:St->Prop):Prop:=
 match p,args.toList with
 |[],x::xs=>match partOf st x with
  |some (o,lo,hi)=>gc st x∧bV 0 (((dQ st o).take hi).drop lo)∧lK (setPos st o (.pv .bot)) xs∧∃R,qP P f (tJ st o) (((dQ st o).take hi).drop lo) (Db 3 (setPos st o (.pv .bot)) xs++eG (bE (setPos st o (.pv .bot)).h 3) q) R∧
   ∀k a,R k a->a.length=hi -lo->(∀m,k=some m->m<=hi -lo)->K (Ia d k o lo (setPos st o (.own (pG st o) (tJ st o) ((dQ st o).take lo++a++(dQ st o).drop hi))))
  |none=>False
 |_,_=>False
def cd(P:aa)(st:St)(x:ae)(args:Array ae)(d:Option Tmp)(K:St->Prop):Prop:=
 ∀(o:ai)(b:Array ah),o.op=.call {callee:=.value x,args:=args,argTypes:=b}->o.dst=d->∀(g:Gh)(a:Act)(w:ab),Sim g st a w->cX g.N d->
  ∀(K':Act->ab->Prop)(Q:Exit->Act->ab->Prop),(∀st' g' c w',K st'->g.to g'->Sim g' st' c w'->K' c w')->o.wp P a w K' Q
def ap(P:aa)(st:St)(ok:Prop)(k:az)(a:aD)(d:Option Tmp)(K:St->Prop)(x:ae)(args:Array ae):Prop:=
 (∃R,aw P k a R∧∀r,R r->r.nwS∧K (jE d r st))∨(ok∧xq P st k a d K)∨cd P st x args d K
def ay(P:aa)(st stM:St)(a:Prop)(f:az)(c:aD)(b:Prop)(e:aD)(d:Option Tmp)(K:St->Prop)(x:ae)(args:Array ae):Prop:=
 (a∧xq P stM f c d K)∨(b∧∃R,aw P f e R∧∀r,R r->r.nwS∧K (jE d r st))∨cd P st x args d K
theorem ay.intro{P:aa}{st stM:St}{a:Prop}{f:az}{b:aD}{c:Prop}{e:aD}{d:Option Tmp}{K:St->Prop}{x:ae}{args:Array ae}{R:SV->ao->Prop}(h:aI P f b stM.h R)(g:∀r h',R r h'->K (jE d r ⟨aW fE stM.t,h'⟩))(ok:a:=by simp):ay P st stM a f b c e d K x args:=.inl ⟨ok,R,h,g⟩
theorem ay.introX{P:aa}{st stM:St}{a:Prop}{f:az}{c:aD}{b:Prop}{e:aD}{d:Option Tmp}{K:St->Prop}{x:ae}{args:Array ae}(h:cd P st x args d K):ay P st stM a f c b e d K x args:=.inr (.inr h)
theorem ay.introP{P:aa}{st stM:St}{e:Prop}{f:az}{g:aD}{a:Prop}{b:aD}{d:Option Tmp}{K:St->Prop}{x:ae}{args:Array ae}{r:SV}(h:aw P f b (λi=>i=r))(j:K (jE d r st))(ok:a:=by simp)(hn:r.nwS:=by simp):ay P st stM e f g a b d K x args:=
 .inr (.inl ⟨ok,_,h,λi c=>by subst c;exact⟨hn,j⟩⟩)
def oN(st:St)(args:Array ae)(p q:aD):Prop:=pC st args.toList∧b7 0 (k7 st args.toList)∧b7 0 p∧b7 0 q
theorem AO{st:St}:∀(xs:List ae),pC st xs->(dE st xs).1=k7 st xs∧(dE st xs).2.1=st∧(dE st xs).2.2
 |[],_=>⟨rfl,rfl,trivial⟩
 |x::xs,⟨h1,a,b⟩=>by
  have hx:cR st x=(mr (mv st x),st,gc st x):=by unfold cR;rw[ms a];rfl
  obtain⟨c,d,i3⟩:=AO xs b;simp only[dE,hx,k7];exact⟨by rw[c],d,h1,i3⟩
theorem F9{st:St}(n:Nat):∀(xs:List ae),pC st xs->Db n st xs=eG (bE st.h n) (k7 st xs)
 |[],_=>rfl
 |x::xs,⟨_,a,b⟩=>by
  have hx:vw n st x=jD (bE st.h n) (mr (mv st x)):=by unfold vw;rw[ms a];rfl
  simp only[Db,k7,eG,hx,F9 n xs b]
theorem xq.plain{P:aa}{st:St}{f:az}{args:Array ae}{p q:aD}{d:Option Tmp}{K:St->Prop}(h:oN st args p q)(c:xq P st f (eG (bE st.h 3) p++(Db 3 st args.toList++eG (bE st.h 3) q)) d K):
 (dE st args.toList).2.2∧xq P (dE st args.toList).2.1 f (p++((dE st args.toList).1++q)) d K:=by
 obtain⟨h1,o,r,s⟩:=h;obtain⟨e,i,j⟩:=AO _ h1;refine⟨j,?_⟩;rw[e,i];rw[F9 3 _ h1]at c;obtain⟨R,⟨b,t⟩,u⟩:=c;refine⟨R,⟨b,λg st' a w vs hs v x=>t g st' a w vs hs v ?_⟩,u⟩;obtain⟨y,z,rfl,k,l⟩:=ax.split x;obtain⟨v3,v4,rfl,m,n⟩:=ax.split l;exact ax.append (ax.frz0 _ _ r k) (ax.append (ax.frz0 _ _ o m) (ax.frz0 _ _ s n))
def DA:PV->Bool
 |.ptr _ _=>true
 |.bsl _ _ _ _ _=>true
 |_=>false
def Kc:SV->Bool
 |.pv x=>DA x
 |_=>false
def gm:aD->Bool
 |[]=>false
 |x::xs=>DA x||gm xs
def zd(st:St):List ae->Bool
 |[]=>false
 |x::xs=>Kc (mv st x)||zd st xs
def qX(st:St)(args:Array ae)(p q:aD):Bool:=gm p||(zd st args.toList||gm q)
def Ga(P:aa)(st:St)(x:ae)(args:Array ae)(d:Option Tmp)(K:St->Prop):Prop:=
 match b8 st x with
 |some (f,p,q)=>if qX st args p q=true then gc st x∧ay P st (dE st args.toList).2.1 (dE st args.toList).2.2 f (p++((dE st args.toList).1++q)) (lK st args.toList) (eG (bE st.h 3) p++(Db 3 st args.toList++eG (bE st.h 3) q)) d K x args
  else gc st x∧lK st args.toList∧ap P st (oN st args p q) f (eG (bE st.h 3) p++(Db 3 st args.toList++eG (bE st.h 3) q)) d K x args
 |none=>False
theorem DB{P:aa}{g:Gh}{st:St}{a:Act}{w:ab}(h:Sim g st a w)(o:ai)(x:ae)(args:Array ae)(y:Array ah)(f:az)(p q:aD)
 (ho:o.op=.call {callee:=.value x,args:=args,argTypes:=y}) (H:gc st x) (F:b8 st x=some (f,p,q)) (J:(dE st args.toList).2.2) (hd:cX g.N o.dst) {K:St->Prop}
 (d:xq P (dE st args.toList).2.1 f (p++((dE st args.toList).1++q)) o.dst K) {K':Act->ab->Prop} {Q:Exit->Act->ab->Prop} (D:∀st' g' z w',K st'->g.to g'->Sim g' st' z w'->K' z w'):o.wp P a w K' Q:=by
 obtain⟨u,v,hx,I,t⟩:=fZ h H F;obtain⟨A,t1,B,_,L,C⟩:=oI _ h J;obtain⟨R,d,E⟩:=d;have j:ax A (p++((dE st args.toList).1++q)) (u.toList++(args.toList.map a.eval++v.toList)):=
  ax.append (ax.mono B _ _ I) (ax.append C (ax.mono B _ _ t))
 obtain⟨b,d⟩:=d;have c:=d A _ a w _ L rfl j;have i:(u.toList++(args.toList.map a.eval++v.toList)).toArray=u++args.map a.eval++v:=by
  apply WW;simp
 rw[i]at c;unfold Oper.wp;have k:(execOp a.eval o).run P w=.ok (.enter f (u++args.map a.eval++v)) w:=by
  unfold aV at b;split at b
  case h_2=>cases b
  rename_i fn n;simp only[VC,Wp]at b;simp only[execOp,ho,resolve,hx,Deferred.ofValue,invoke,callFunc,bD,bN,bK,run_program,n,b.1,b.2,We,WM]
 rw[k,Oper.upon_enter];refine c.mono λe w' ⟨val,r,h',g',G,m,s,l⟩=>?_;subst G;exact D _ g' _ w' (E r h' m) (t1.trans s) (l o.dst (by rw[t1.N];exact hd))
theorem Qh{g:Gh}{w:ab}{c:Nat}(a:∀k o,g.I k=some o->w.heap[k]?=some o)(b:g.I c=none):g.leC (oL w c):=by
 refine⟨λk arr T fz h=>?_,λk en ck h=>?_⟩;have hk:k≠c:=λe=>by rw[e,b]at h;cases h
 exact(mF w hk).trans (a _ _ h);have hk:k≠c:=λe=>by rw[e,b]at h;cases h
 exact(mF w hk).trans (a _ _ h)
theorem AP(w:ab)(c:Nat):(dZ (sm w c)).leC (oL w c):=⟨λ_ _ _ _ h=>h,λ_ _ _ h=>h⟩
theorem Kd{P:aa}{g:Gh}{st:St}{a:Act}{w:ab}(h:Sim g st a w)(o:ai)(x:ae)(args:Array ae)(a5:Array ah)(f:az)(p q:aD)
    (ho:o.op=.call {callee:=.value x,args:=args,argTypes:=a5}) (hg:gc st x) (hc:b8 st x=some (f,p,q)) (hd:cX g.N o.dst) {K:St->Prop}
    (hS:xt P st f p args q o.dst K) {K':Act->ab->Prop} {Q:Exit->Act->ab->Prop} (hK:∀st' g' a' w',K st'->g.to g'->Sim g' st' a' w'->K' a' w'):o.wp P a w K' Q:=by
  obtain⟨u,v,hx,hu,aJ⟩:=fZ h hg hc
  unfold xt at hS
  split at hS
  case h_2=>exact hS.elim
  rename_i x0 xs W
  split at hS
  case h_2=>exact hS.elim
  rename_i ps lo hi hp
  obtain⟨h1,h2,h3,R,⟨l,hA,ar⟩,hR⟩:=hS
  have a3:u.toList=[]:=hu
  obtain⟨nw,e,rows,B,j1,j2,q0,cap,jv,jc,jq,jz⟩:=oM h h1 hp
  have eE:tJ st ps=e:=by simp only[tJ,B]
  have eR:dQ st ps=rows:=by simp only[dQ,B]
  have eN:pG st ps=nw:=by simp only[pG,B]
  rw[eE,eR]at hA
  rw[eR]at ar
  rw[eE,eR,eN]at hR
  rw[eR]at h2
  obtain⟨bl,hb⟩:=h.own
  have y:(aj st ps).isOwn=true:=by rw[B];rfl
  have ay:=bT hb y
  rw[B]at ay
  obtain⟨s0,a7,aQ,_,_,ag⟩:=h.drop hb ps
  have z:((rows.take hi).drop lo).length=hi -lo:=by rw[Wf,Vy];omega
  have au:(a.eval x0::(xs.map a.eval++v.toList)).toArray=u++args.map a.eval++v:=by
    apply WW
    simp[a3,W]
  have aI:(execOp a.eval o).run P w=.ok (.enter f (u++args.map a.eval++v)) w:=by
    unfold aV at l
    split at l
    case h_2=>cases l
    rename_i fn aW
    simp only[VC,Wp]at l
    simp only[execOp,ho,resolve,hx,Deferred.ofValue,invoke,callFunc,bD,bN,bK,run_program,aW,l.1,l.2,We,WM]
  -- what is given, put where it belongs
  have fin:∀(k:Option Nat)(i:aT)(M:Gh)(w':ab)(val:an),R k i->i.length=hi -lo->(∀m,k=some m->m<=hi -lo)->g.to M->Sim M (setPos st ps (.own nw e (rows.take lo++i++rows.drop hi))) a w'->
      aA M a w' ps=aA g a w ps->val=(match k with|none=>.tuple #[]|some m=>.slice q0 m cap)->K' (a.put o.dst val) w':=by
    intro k i M w' val F hl hk t1 s1 J U
    have E:=hR k i F hl hk
    have ad:cX M.N o.dst:=by rw[t1.N];exact hd
    cases aw:o.dst with
    |none=>rw[aw]at E;exact hK _ M _ w' E t1 s1
    |some d=>
      rw[aw]at E ad
      cases k with
      |none=>
        refine hK _ M _ w' E t1 ?_
        rw[U]
        exact s1.put ad ⟨rfl,#[],rfl,rfl⟩ trivial rfl
      |some m=>
        refine hK _ M _ w' E t1 ?_
        rw[U]
        have hm:=hk m rfl
        refine s1.put ad rfl ?_ rfl
        intro bb e1 rows1 aG
        have:aj (setPos st ps (.own nw e (rows.take lo++i++rows.drop hi))) ps=.own nw e (rows.take lo++i++rows.drop hi):=by
          rw[da y]
        rw[this]at aG
        cases aG
        have aF:lo+m -lo=m:=by omega
        have aX:lo+m<=(rows.take lo++i++rows.drop hi).length:=by
          simp only[Vz,Vy,Wf];omega
        refine⟨by omega,aX,q0,cap,by rw[aF],by rw[aF];omega,?_,λh0=>?_⟩
        · by_cases a9:m=0
          · left;omega
          · right
            rcases jq with jq|⟨c,n,cp,h5,h6⟩
            · omega
            · exact⟨c,n,cp,J.trans h5,h6⟩
        · obtain⟨n0,aZ⟩:=jz h0
          exact⟨n0,J.trans aZ⟩
  unfold Oper.wp
  rw[aI,Oper.upon_enter,←au,jv]
  by_cases aE:lo=hi
  · -- nothing is handed
    subst aE
    have hz:(rows.take lo).drop lo=[]:=by apply VS;rw[Vy];omega
    have G:ax (dZ w) (Db 3 (setPos st ps (.pv .bot)) xs++eG (bE (setPos st ps (.pv .bot)).h 3) q) (xs.map a.eval++v.toList):=by
      refine ax.append ?_ (ax.frz s0.I (mB s0 3) _ _ aJ)
      rw[qb];exact sq s0 3 xs h3
    have r:=ar hz w q0 cap _ G
    rw[Xr]
    refine r.mono λe1 w' ⟨k,F,hk,he,af,ak,t⟩=>?_
    subst he
    obtain⟨s1,t1,_⟩:=h.grown af ak t (λ_=>none) (λ_ _ hh=>by cases hh)
    have J:aA {g with I:=λc=>if w.heap.size<=c then(λ_=>none) c else g.I c} a w' ps=aA g a w ps:=by
      cases ps with
      |slot s=>rfl
      |cell b j=>
        simp only[aj]at y
        cases D:st.h[b]?with
        |none=>simp[List.getD,D,SV.isOwn]at y
        |some ys=>
          obtain⟨arr,T,h7,_⟩:=hb.blocks b ys D
          simp only[aA];rw[t _ (VD.1 h7).1]
    refine fin k [] _ w' _ F (by simp) (λm hm=>?_) t1 ?_ J ?_
    · rcases hk with hk|hk
      · rw[hk]at hm;cases hm
      · rw[hk]at hm;cases hm;omega
    · have:rows.take lo++[]++rows.drop lo=rows:=by simp
      rw[this]
      exact s1.setSame B
    · rfl
  · rcases ay with⟨_,rfl,_⟩|⟨c,X,aq,arr,T,vs,e1,e2,e3,e4,e5,e6,e7⟩
    · simp at j2;omega
    obtain⟨aR,a8,aS,aU⟩:=hb.free ps c X
    have a1:q0=some ⟨c,lo*e,none⟩:=by
      rcases jq with jq|⟨c1,n,cp,h5,h6⟩
      · exact absurd jq aE
      · rw[e1]at h5;cases h5;exact h6
    subst a1
    have ao:Sim g (setPos st ps (.pv .bot)) a (sm w c):=s0.turn aQ (ag c X) rfl (by simp[sm]) (λk hk=>mF w hk)
    have G:ax (oL w c) (Db 3 (setPos st ps (.pv .bot)) xs++eG (bE (setPos st ps (.pv .bot)).h 3) q) (xs.map a.eval++v.toList):=by
      refine ax.monoC (AP w c) _ _ (.inl (VH _)) (.inl rfl) ?_
      refine ax.append ?_ (ax.frz ao.I (mB ao 3) _ _ aJ)
      rw[qb];exact sq ao 3 xs h3
    -- the rows' cells
    have O:=aK.cut e5 lo hi j1 j2
    have av:=aK.cut e5 0 lo (VH _) (Wb j1 j2)
    have Y:=aK.cut e5 hi rows.length j2 (Vu _)
    simp only[YW,YZ,VX]at av Y
    have aM:=e5.length
    have a4:vs.take (rows.length*e)=vs:=by rw[←aM,VX]
    rw[a4]at Y
    have aC:lo*e<=hi*e:=Xc _ j1
    have a6:hi*e<=vs.length:=by rw[aM];exact Xc _ j2
    obtain⟨rest,H⟩:=e6
    have C:arr.toList=vs.take (lo*e)++(vs.take (hi*e)).drop (lo*e)++(vs.drop (hi*e)++rest):=by
      rw[←H,←VV]
      congr 1
      have h8:vs.take (lo*e)=(vs.take (hi*e)).take (lo*e):=by rw[aal,WL aC]
      rw[h8,Wz,Wz]
    have aH:(vs.take (lo*e)).length=lo*e:=by rw[Vy];omega
    have a0:(rows.take hi).drop lo≠[]:=λh9=>by rw[h9]at z;simp at z;omega
    have aY:((rows.take hi).drop lo).length<=maxLen:=by rw[z];have:=e4.1;have:=e4.2.1;omega
    have r:=hA a0 w c cap arr T (vs.take (lo*e)) _ _ (xs.map a.eval++v.toList) e2 C (by rw[z];exact jc) aY (aK.monoC (Qh h.I aR) e _ _ (.inl (VH _)) (.inr h2) O) G e4.2.2
    rw[z,aH]at r
    refine r.mono λe9 w' ⟨k,i,L,F,aB,hk,he,af,ak,t,⟨T',Z⟩,hG⟩=>?_
    subst he
    have A:=hG g O
    let w1:ab:={w with heap:=w.heap.setIfInBounds c (.cells (vs.take (lo*e)++L++(vs.drop (hi*e)++rest)).toArray T' (0,0))}
    have aN:∀k,k≠c->w1.heap[k]?=w.heap[k]?:=λk hk=>by
      show(w.heap.setIfInBounds c _)[k]?=_
      rw[Wy,Vs (Yg hk)]
    have V:w1.heap[c]?=some (.cells (vs.take (lo*e)++L++(vs.drop (hi*e)++rest)).toArray T' (0,0)):=by
      show(w.heap.setIfInBounds c _)[c]?=_
      rw[Wy,Vt rfl,Vt aS]
    have aL:L.length=hi*e -lo*e:=by
      rw[A.length,aB,Nat.sub_mul]
    have a2:Sim g (setPos st ps (.own nw e (rows.take lo++i++rows.drop hi))) a w1:=by
      refine h.ownWrite hb y X rfl (by simp[w1]) aN ?_ rfl ?_
      · right
        refine⟨c,rfl,aq,_,T',vs.take (lo*e)++L++vs.drop (hi*e),?_,V,?_,?_,?_,?_,e7⟩
        · rw[e1]
          congr 1
          simp only[Vz,Vy,Wf];omega
        · have aP:arr.size=arr.toList.length:=(Wm ..).symm
          rw[←e3,aP,C]
          simp only[Ww,Vz,aL,Wf,Vy]
          omega
        · refine⟨?_,e4.2.1,eM (eM (λv hv=>e5.one v (Wn hv)) A.one) (eM (λv hv=>e5.one v (XB hv)) (λv hv=>e4.2.2 v (by rw[←H];exact Xi _ hv)))⟩
          simp only[Vz,Vy,Wf];omega
        · exact aK.append (aK.append av A) Y
        · exact⟨rest,by simp⟩
      · intro ba e' rows1 hh
        cases hh
        exact⟨nw,rows,B,by simp only[Vz,Vy,Wf];omega⟩
    have S:w1.heap.size=w.heap.size:=by simp[w1]
    obtain ⟨s1, t1, _⟩ := a2.grown (w' := w') (af.trans rfl) (by rw [S]; exact ak) (λ k hk => by
      by_cases ek:k=c
      · subst ek;rw[Z,V]
      · rw[t k (by rw[←S];exact hk) ek,aN k ek]) (λ_=>none) (λ_ _ hh=>by cases hh)
    refine fin k i _ w' _ F aB (λm hm=>hk m hm) t1 s1 ?_ rfl
    cases ps with
    |slot s=>rfl
    |cell b j=>
      simp only[aj]at y
      cases D:st.h[b]?with
      |none=>simp[List.getD,D,SV.isOwn]at y
      |some ys=>
        obtain⟨arr,T,h7,_⟩:=hb.blocks b ys D
        have aO:w'.heap[g.μ b]?=w.heap[g.μ b]?:=t _ (VD.1 h7).1 (aU b (by rw[h.n];exact(Vp.1 D).1))
        simp only[aA]
        rw[show w'.heap[({g with I:=λc=>if w1.heap.size<=c then(λ_=>none) c else g.I c}:Gh).μ b]?=w.heap[g.μ b]?from aO]
theorem xt.x{P:aa}{st:St}{x:ae}{args:Array ae}{d:Option Tmp}{K:St->Prop}{f:az}{p q:aD}(h:gc st x)(g:b8 st x=some (f,p,q))(e:xt P st f p args q d K):cd P st x args d K:=
 λo b ho a _ _ _ hs hd _ _ c=>Kd hs o x args b f p q ho h g (by rw[a];exact hd) (by rw[a];exact e) c
def DD(P:aa)(st:St)(t:ah)(x y:ae)(d:Tmp)(K:St->Prop):Prop:=
 match cF P t,eq P t with
 |some (e,b),some zs=>cz zs=true∧0<b∧gc st x∧gc st y∧iu (mv st x)∧iu (mv st y)∧0<=bC (mv st x)∧bC (mv st x)<=bC (mv st y)∧bC (mv st y)*b<=140737488355328∧
  K ⟨(d,.own true e (List.replicate (bC (mv st x)).toNat zs))::aW (dx d) st.t,st.h⟩
 |_,_=>False
def AR(P:aa)(st:St)(t:ah)(m k x:ae)(K:St->Prop):Prop:=
 lI P t=true∧(cR st x).2.2∧gc (cR st x).2.1 m∧gc (cR st x).2.1 k∧iu (mv (cR st x).2.1 k)∧ir (mv (cR st x).2.1 k)=.i64∧
 match mv (cR st x).2.1 m with
 |.al p=>match aj (cR st x).2.1 p with
  |.omap nw es=>K (setPos (cR st x).2.1 p (.omap nw (iz es (bC (mv (cR st x).2.1 k)) (cR st x).1)))
  |_=>False
 |_=>False
def Ke(P:aa)(st:St)(t:ah)(m k:ae)(K:St->Prop):Prop:=
 lI P t=true∧gc st m∧gc st k∧iu (mv st k)∧ir (mv st k)=.i64∧
 match mv st m with
 |.al p=>match aj st p with
  |.omap nw es=>K (setPos st p (.omap nw (jy (bC (mv st k)) es)))
  |_=>False
 |_=>False
def Qi(st:St)(x:ae)(d:Tmp)(K:St->Prop):Prop:=
 match mv st x with
 |.agl xs=>gc st x∧AN st xs∧(nO st.h.length xs 0 (st.grow ((xs.map (·.1)).map .pv))).2∧K ((nO st.h.length xs 0 (st.grow ((xs.map (·.1)).map .pv))).1.put d (.pv (.ptr st.h.length 0)))
 |_=>(cR st x).2.2∧((cR st x).1.one=true∨d9 (.pv (cR st x).1))∧cz (bn (cR st x).1)=true∧
  K (((cR st x).2.1.grow ((bn (cR st x).1).map .pv)).put d (.pv (.ptr (cR st x).2.1.h.length 0)))
def uG(P:aa)(st:St)(o:Op)(d:Option Tmp)(K:St->Prop):Prop:=
 (pop P st o).2∧(pop P st o).1.isOwn=false∧K (putD d (pop P st o).1 st)
def nR(b:Nat):Nat->Nat->St->St
 |_,0,st=>st
 | k, n + 1, st => nR b (k + 1) n (match aj st (.cell b k) with
  |.own nw e rows=>setPos st (.cell b k) (.pv (.seq nw e rows))
  |.omap nw es=>setPos st (.cell b k) (.pv (.amap nw es))
  |_=>st)
theorem k8{a:Act}{w:ab}{b:Nat}:∀(n k:Nat){g:Gh}{st:St},Sim g st a w->∃g',g.to g'∧g.le g'∧g'.n=g.n∧Sim g' (nR b k n st) a w
 |0,_,g,st,h=>⟨g,h.refl_to,Gh.le.refl g,rfl,h⟩
 |n+1,k,g,st,h=>by
  simp only[nR];split;rename_i nw e rows hp;obtain⟨s,t1,f,j,_,m,_⟩:=h.freeze (p:=.cell b k) (by rw[hp];rfl);rw[hp]at m;obtain⟨g2,r,i,l,q⟩:=k8 n (k+1) m;exact⟨g2,t1.trans r,⟨λc o d=>i.I _ _ (f.I _ _ d),Wb i.B f.B,by rw[l,j];exact Vu _,λc d=>by rw[i.μ c (by rw[j];exact d),f.μ c d]⟩,l.trans j,q⟩;rename_i nw es hp;obtain⟨s,t1,f,j,_,m,_⟩:=h.freeze (p:=.cell b k) (by rw[hp];rfl);rw[hp]at m;obtain⟨g2,r,i,l,q⟩:=k8 n (k+1) m;exact⟨g2,t1.trans r,⟨λc o d=>i.I _ _ (f.I _ _ d),Wb i.B f.B,by rw[l,j];exact Vu _,λc d=>by rw[i.μ c (by rw[j];exact d),f.μ c d]⟩,l.trans j,q⟩;exact k8 n (k+1) h
def iD(P:aa)(st:St)(t:ah)(x:ae):St:=
 match mv st x,aZ P t with
 |.pv (.ptr b off),some (true,n)=>nR b off n st
 |_,_=>st
theorem xu{P:aa}{a:Act}{w:ab}(t:ah)(x:ae){g:Gh}{st:St}(h:Sim g st a w):∃g',g.to g'∧g.le g'∧g'.n=g.n∧Sim g' (iD P st t x) a w:=by
 unfold iD;split;exact k8 _ _ h;exact⟨g,h.refl_to,Gh.le.refl g,rfl,h⟩
def DF(P:aa)(st:St)(t:ah)(x:ae)(yes:Bool)(d:Option Tmp)(K:St->Prop):Prop:=
 match bU P t with
 |some e=>match mv st x with
  |.pv (.lit (.slice none _ _))=>gc st x∧K (putD d (.bool yes) st)
  |.pv (.bsl ..)=>gc st x∧K (putD d (.bool (!yes)) st)
  |y=>gc st x∧jV st e y∧(rowsOf st y=[]->∀b,K (putD d (.bool b) st))∧(rowsOf st y≠[]->K (putD d (.bool (!yes)) st))
 |none=>False
theorem Kf{P:aa}{st:St}(o:ai)(t u:ah)(x:ae)(yes:Bool){K:St->Prop}(ho:o.op=.binOp (if yes=true then .eql else .neq) t x (.const (.slice none 0 0)) u)(h:DF P st t x yes o.dst K){g:Gh}{a:Act}{w:ab}(hs:Sim g st a w)(hd:cX g.N o.dst){K':Act->ab->Prop}{Q:Exit->Act->ab->Prop}
 (A:∀st' g' r w',K st'->g.to g'->Sim g' st' r w'->K' r w'):o.wp P a w K' Q:=by
 unfold DF at h;split at h
 case h_2=>exact h.elim
 rename_i e f;unfold bU at f;split at f
 case h_2=>cases f
 rename_i s v;have run:∀(p:Option Addr)(n c:Nat),a.eval x=.slice p n c->(execOp a.eval o).run P w=.ok (.value (.bool (p.isNone==yes))) w:=by
  intro p n c d;have h1:=Go.Lib.run_eql_slice_nil (P:=P) w t s p n c 0 0 v;have k:=Go.Lib.run_equalIn_slice_nil (P:=P) w 9999 t s p n c 0 0 v;have hn:a.eval (.const (.slice none 0 0))=.slice none 0 0:=rfl;cases yes with
  |true=>
   simp only[execOp,ho,Xl,d,hn,eqGuard_at_slice,bD,h1,bK,bN];cases p<;>rfl
  |false=>
   simp only[execOp,ho,We,WM,d,hn,eqGuard_at_slice,binOp,Op.equal,Op.maxDepth,bD,k,bK,bN];cases p<;>rfl
 have fin:∀b,K (putD o.dst (.bool b) st)->(execOp a.eval o).run P w=.ok (.value (.bool b)) w->o.wp P a w K' Q:=by
  intro b hk j;unfold Oper.wp;rw[j];exact A _ g _ w hk hs.refl_to (hs.putD hd ⟨rfl,rfl⟩ trivial rfl)
 split at h;rename_i n c l;obtain⟨i,_⟩:=bm hs x h.1;rw[l]at i;have d:a.eval x=_:=i.2;exact fin yes h.2 (by rw[run none n c d];cases yes<;>rfl);rename_i b e' off n cap l;obtain⟨i,_⟩:=bm hs x h.1;rw[l]at i;obtain⟨_,_,_,d⟩:=i;exact fin _ h.2 (by rw[run _ n cap d];cases yes<;>rfl);obtain⟨h1,k,y,z⟩:=h;obtain⟨q,cap,vs,d,_,m⟩:=gH hs h1 k;by_cases j:rowsOf st (mv st x)=[];exact fin _ (y j _) (run q _ cap d);rcases m with m|⟨B,rfl,_⟩;exact absurd m j;exact fin _ (z j) (by rw[run _ _ cap d];cases yes<;>rfl)
def uH(P:aa)(t:ah):Bool:=match P.underlying t with
 |some (.slice e)=>match P.underlying e with
  |some (.int .u8)=>true
  |_=>false
 |_=>false
def R1:aT->Option af
 |[]=>some []
 |[.lit (.int .u8 n)]::r=>match R1 r with
  |some xs=>some (n::xs)
  |none=>none
 |_=>none
theorem Gb{g:Gh}:∀{rows:aT}{xs:af}{vs:aG},R1 rows=some xs->aK g 1 rows vs->vs=xs.map (Value.int .u8)
 |[],xs,vs,h,m=>by
  cases h;exact m
 |row::r,xs,vs,h,⟨p,q,h1,_,f,i⟩=>by
  unfold R1 at h;split at h;rename_i e;cases e;rename_i n o e;cases e;split at h;rename_i ys hy;cases h;obtain⟨a,b,j,k,l⟩:=f;have c:a=Value.int .u8 n:=k;have d:b=[]:=l;subst c d j;rw[h1,Gb hy i];rfl;cases h;cases h
def TY(P:aa)(st:St)(dst:ah)(x:ae)(d:Option Tmp)(K:St->Prop):Prop:=
 match P.underlying dst,mv st x with
 |some .string,.al (.slot s)=>gc st x∧match look st.t s with
  |.own _ 1 rows=>rows≠[]∧match R1 rows with
   |some xs=>K (putD d (.pv (.lit (.string (strOfNums xs)))) st)
   |none=>False
  |_=>False
 |_,_=>False
theorem Qj{P:aa}{st:St}(o:ai){d dst:ah}{x:ae}(ho:o.op=.convert d dst x)(b:uH P d=true){K:St->Prop}(h:TY P st dst x o.dst K){g:Gh}{a:Act}{w:ab}(hs:Sim g st a w)(hd:cX g.N o.dst){K':Act->ab->Prop}{Q:Exit->Act->ab->Prop}
 (A:∀st' g' u w',K st'->g.to g'->Sim g' st' u w'->K' u w'):o.wp P a w K' Q:=by
 unfold uH at b;split at b
 case h_2=>cases b
 rename_i e n;split at b
 case h_2=>cases b
 rename_i D;unfold TY at h;split at h
 case h_2=>exact h.elim
 rename_i s f E;obtain⟨hx,h⟩:=h;split at h
 case h_2=>exact h.elim
 rename_i nw rows z;obtain⟨r,h⟩:=h;split at h
 case h_2=>exact h.elim
 rename_i xs G;obtain⟨_,y⟩:=bm hs x hx;rw[E]at y;obtain⟨bl,B⟩:=hs.own;have m:=B.slots s;rw[z]at m;have q:a.eval x=a.tmps.getD s undef:=y (by simp only[aj];rw[z];rfl);rcases m with⟨_,h0,_⟩|⟨c,_,cap,arr,T,vs,H,C,_,_,v,k,_⟩;exact absurd h0 r;have p:=Gb G v;have j:xs.length=rows.length:=by
  have:=v.length;rw[p,VA]at this;omega
 have l:(convert d dst (a.eval x)).run P w=.ok (.string (strOfNums xs)) w:=by
  rw[q,H];refine run_convert_bytes_arg w d e n D c 0 rows.length cap xs j (λi hi=>?_) dst f;obtain⟨t,ht⟩:=k;rw[Wr,cell_of C,←Vw,←ht,p,Vv (by rw[VA];omega),VO,Vq (by omega)];simp only[Wq,Vr];rw[Vq (by omega)];rfl
 have F:(execOp a.eval o).run P w=.ok (.value (.string (strOfNums xs))) w:=by
  simp only[execOp,ho,bD,l,bK,bN]
 unfold Oper.wp;rw[F];exact A _ g _ w h hs.refl_to (hs.putD hd (sv:=.pv (.lit (.string (strOfNums xs)))) ⟨rfl,rfl⟩ trivial rfl)
def AE(P:aa)(st:St)(o:Op)(d:Option Tmp)(K:St->Prop):Prop:=
 match o with
 |.assign (.tmp s)=>match d with
  |some d'=>if(look st.t s).isOwn=true then K (FX st s d')else match F4 st s d' with
   |some st'=>K st'
   |none=>uG P st (.assign (.tmp s)) d K
  |none=>uG P st (.assign (.tmp s)) d K
 |.alloc t=>match d,dL P t with
  |some d,some zs=>cz zs=true∧K ((st.grow (zs.map .pv)).put d (.pv (.ptr st.h.length 0)))
  |_,_=>False
 |.box _ x=>match d with
  |some d=>Qi st x d K
  |none=>False
 |.store t x y=>match d with
  |none=>Dz P st t x y K
  |some _=>False
 |.buildSlice t len a=>match d with
  |some d=>zb P st t len a d K
  |none=>False
 |.makeSlice t x y=>match d with
  |some d=>DD P st t x y d K
  |none=>False
 |.makeMap t r=>match d,r with
  |some d,r=>lI P t=true∧Do st r∧K ⟨(d,.omap true [])::aW (dx d) st.t,st.h⟩
  |_,_=>False
 |.mapUpdate t m k x=>match d with
  |none=>AR P st t m k x K
  |some _=>False
 |.insert t m k x=>match d with
  |none=>AR P st t m k x K
  |some _=>False
 |.load t x=>uG P (iD P st t x) (.load t x) d K
 |.binOp .eql t x (.const (.slice none 0 0)) _=>DF P st t x true d K
 |.binOp .neq t x (.const (.slice none 0 0)) _=>DF P st t x false d K
 |.build t a=>(dE st (a.toList.map (·.2))).2.2∧uG P (dE st (a.toList.map (·.2))).2.1 (.build t a) d K
 |.convert b dst x=>if uH P b=true then TY P st dst x d K else uG P st (.convert b dst x) d K
 |.call c=>match c.callee with
  |.value x=>Ga P st x c.args d K
  |.builtin .append=>match c.args.toList,c.argTypes.toList,d with
   |[s,x],[t,e],some d=>e=t∧zc P st t s x d K
   |_,_,_=>False
  |.builtin .clear=>match c.args.toList,c.argTypes.toList,d with
   |[x],[t],none=>Dp P st t x K
   |_,_,_=>False
  |.builtin .copy=>match c.args.toList,c.argTypes.toList with
   |[x,y],[t,_]=>F7 P st t x y d K
   |_,_=>False
  |.builtin .delete=>match c.args.toList,c.argTypes.toList,d with
   |[m,k],[t,_],none=>Ke P st t m k K
   |_,_,_=>False
  |_=>uG P st (.call c) d K
 |o=>uG P st o d K
theorem ze{P:aa}{st:St}(o:ai){K:St->Prop}(h:uG P st o.op o.dst K){g:Gh}{a:Act}{w:ab}(hs:Sim g st a w)(hd:cX g.N o.dst){K':Act->ab->Prop}{Q:Exit->Act->ab->Prop}
 (e:∀st' g' b w',K st'->g.to g'->Sim g' st' b w'->K' b w'):o.wp P a w K' Q:=by
 obtain⟨h1,c,d⟩:=h;obtain⟨v,j,i,f⟩:=J2 o g a w hs h1;unfold Oper.wp;rw[j];exact e _ g _ w d hs.refl_to (hs.putD hd i f c)
theorem cP{P:aa}{o:ai}{g:Gh}{st':St}{a:Act}{w:ab}{K':Act->ab->Prop}{Q:Exit->Act->ab->Prop}
 (h:∃v w' g',(execOp a.eval o).run P w=.ok (.value v) w'∧g.to g'∧Sim g' st' (a.put o.dst v) w') (e:∀g' b w',g.to g'->Sim g' st' b w'->K' b w'):o.wp P a w K' Q:=by
 obtain⟨v,w',g',h1,c,d⟩:=h;unfold Oper.wp;rw[h1];exact e g' _ w' c d
theorem iE{P:aa}{o:ai}{g:Gh}{st':St}{a:Act}{w:ab}{K':Act->ab->Prop}{Q:Exit->Act->ab->Prop}(hd:o.dst=none)
 (h:∃w' g',(execOp a.eval o).run P w=.ok .skip w'∧g.to g'∧Sim g' st' a w') (e:∀g' b w',g.to g'->Sim g' st' b w'->K' b w'):o.wp P a w K' Q:=by
 obtain⟨w',g',h1,c,d⟩:=h;unfold Oper.wp;rw[h1];show K' (a.put o.dst undef) w';rw[hd];exact e g' _ w' c d
theorem ub{c:Call}{f:Callee}{xs:List ae}{ts:List ah}(h1:c.callee=f)(e:c.args.toList=xs)(g:c.argTypes.toList=ts):c={callee:=f,args:=xs.toArray,argTypes:=ts.toArray}:=by
 cases c with
 |mk a b d=>simp only at h1 e g;subst h1 e g;simp
theorem Kg{P:aa}{st:St}(o:ai){K:St->Prop}(h:AE P st o.op o.dst K){g:Gh}{a:Act}{w:ab}(hs:Sim g st a w)(hd:cX g.N o.dst){K':Act->ab->Prop}{Q:Exit->Act->ab->Prop}
 (C:∀st' g' B w',K st'->g.to g'->Sim g' st' B w'->K' B w'):o.wp P a w K' Q:=by
 have A:uG P st o.op o.dst K->o.wp P a w K' Q:=λh=>ze o h hs hd C;cases j:o.op
 case assign x=>
  rw[j]at h A;cases x with
  |tmp s=>
   cases l:o.dst with
   |none=>rw[l]at h A;exact A h
   |some d=>
    rw[l]at h A;simp only[AE]at h;split at h;rename_i ad;exact cP (Dk o s d j l ad (by rw[l]at hd;exact hd) g a w rfl hs) (λg' B w'=>C _ g' B w' h);split at h;rename_i st' T;exact cP (J6 T o j l (by rw[l]at hd;exact hd) g a w rfl hs) (λg' B w'=>C _ g' B w' h);exact A h
  |const v=>exact A h
  |func f=>exact A h
  |global n=>exact A h
 case alloc t=>
  rw[j]at h;simp only[AE]at h;split at h;rename_i d zs l hz;exact cP (J3 o t d zs j l hz h.1 (by rw[l]at hd;exact hd) g a w rfl hs) (λg' B w'=>C _ g' B w' h.2);exact h.elim
 case box t x=>
  rw[j]at h;simp only[AE]at h;split at h;rename_i d l;unfold Qi at h;split at h;rename_i xs I;exact cP (N9 o t x d xs j l h.1 I (mD h.2.1) (qW h.2.1) h.2.2.1 (ua h.2.1) (by rw[l]at hd;exact hd) g a w rfl hs) (λg' B w'=>C _ g' B w' h.2.2.2);exact cP (Qg o t x d j l h.1 h.2.1 h.2.2.1 (by rw[l]at hd;exact hd) g a w rfl hs) (λg' B w'=>C _ g' B w' h.2.2.2);exact h.elim
 case store t x y=>
  rw[j]at h;simp only[AE]at h;split at h;rename_i l;unfold Dz at h;split at h;rename_i st' ok I;obtain⟨h1,D,H⟩:=h;split at h1;rename_i ag n hl;subst h1;exact iE l (HZ I D o t j hl g a w hs) (λg' B w'=>C _ g' B w' H);exact h1.elim;split at h;rename_i st' m ok I;obtain⟨h1,D,H⟩:=h;split at h1;rename_i ag n hl;subst h1;exact iE l (H9 I D o t j hl g a w hs) (λg' B w'=>C _ g' B w' H);exact h1.elim;unfold Dy at h;split at h;rename_i ag n hl;obtain⟨h1,D,H,J,G,F⟩:=h;split at F;rename_i b off I;exact iE l (HW o t x y b off n ag j l hl h1 D H J I G F.1 g a w hs) (λg' B w'=>C _ g' B w' F.2);rename_i p i k I;split at F;rename_i nw e rows hp;exact iE l (Dl o t x y p i k n e nw rows ag j hl h1 D H J I G hp F.1 F.2.1 g a w hs) (λg' B w'=>C _ g' B w' F.2.2);exact F.elim;exact F.elim;exact h.elim;exact h.elim
 case buildSlice t len M=>
  rw[j]at h;simp only[AE]at h;split at h;rename_i d l;unfold zb at h;split at h;rename_i e zs an ao;obtain⟨h1,D,H,J,G,F⟩:=h;exact cP (uz o t len e M zs d j l an ao h1 D H J G (by rw[l]at hd;exact hd) g a w rfl hs) (λg' B w'=>C _ g' B w' F);exact h.elim;exact h.elim
 case makeSlice t x y=>
  rw[j]at h;simp only[AE]at h;split at h;rename_i d l;unfold DD at h;split at h;rename_i e b zs hi hz;obtain⟨h1,D,H,J,G,F,L,h8,h9,ae⟩:=h;exact cP (wP o t x y d e b zs j l hi hz h1 D H J G F L h8 h9 (by rw[l]at hd;exact hd) g a w rfl hs) (λg' B w'=>C _ g' B w' ae);exact h.elim;exact h.elim
 case makeMap t r=>
  rw[j]at h;simp only[AE]at h;split at h;rename_i d l;exact cP (yV o t _ d j l h.1 h.2.1 (by rw[l]at hd;exact hd) g a w rfl hs) (λg' B w'=>C _ g' B w' h.2.2);exact h.elim
 case mapUpdate t m k x=>
  rw[j]at h;simp only[AE]at h;split at h;rename_i l;unfold AR at h;obtain⟨h1,D,H,J,G,F,L⟩:=h;split at L;rename_i p I;split at L;rename_i nw es hp;exact iE l (pE o t m k x p nw es (.inl j) h1 D H I hp J G F g a w hs) (λg' B w'=>C _ g' B w' L);exact L.elim;exact L.elim;exact h.elim
 case insert t m k x=>
  rw[j]at h;simp only[AE]at h;split at h;rename_i l;unfold AR at h;obtain⟨h1,D,H,J,G,F,L⟩:=h;split at L;rename_i p I;split at L;rename_i nw es hp;exact iE l (pE o t m k x p nw es (.inr j) h1 D H I hp J G F g a w hs) (λg' B w'=>C _ g' B w' L);exact L.elim;exact L.elim;exact h.elim
 case call c=>
  rw[j]at h A;simp only[AE]at h;split at h;rename_i x E;unfold Ga at h;split at h
  .rename_i f p q V;have T:c={callee:=.value x,args:=c.args,argTypes:=c.argTypes}:=by cases c;simp only at E;rw[E]
   rw[T]at j;split at h
   .obtain⟨h1,⟨D,H⟩|⟨D,R,hA,hR⟩|hS⟩:=h;rotate_left 2;exact hS o c.argTypes j rfl g a w hs hd K' Q C;exact DB hs o x c.args c.argTypes f p q j h1 V D hd H C;rw[qb,dY,dY]at hA;exact F8 hs o x c.args c.argTypes f p q 3 j h1 V D hd hA K' Q (λr Y=>(hR r Y).1) (λr g2 v w' Y U Z=>C _ g2 _ w' (hR r Y).2 U Z)
   obtain⟨h1,D,⟨R,hA,hR⟩|⟨ak,ah⟩|hS⟩:=h;rotate_left 2;exact hS o c.argTypes j rfl g a w hs hd K' Q C;rotate_left;obtain⟨c1,c2⟩:=ah.plain ak;exact DB hs o x c.args c.argTypes f p q j h1 V c1 hd c2 C;rw[qb,dY,dY]at hA;exact F8 hs o x c.args c.argTypes f p q 3 j h1 V D hd hA K' Q (λr Y=>(hR r Y).1) (λr g2 v w' Y U Z=>C _ g2 _ w' (hR r Y).2 U Z)
  exact h.elim;rename_i E;split at h;rename_i s x t t' d O S l;obtain⟨rfl,h⟩:=h;have T:=ub E O S;rw[T]at j;unfold zc at h;split at h;rename_i e b hi;obtain⟨h1,D,H,J,G⟩:=h;split at G;rename_i p I;split at G;rename_i nw e' rows hp;obtain⟨rfl,F,L⟩:=G;exact cP (Dm o _ s x d e' b p nw rows j l hi h1 D I hp H J F (by rw[l]at hd;exact hd) g a w rfl hs) (λg' B w'=>C _ g' B w' L);exact G.elim;rename_i p lo aj I;split at G;rename_i nw e' rows hp;obtain⟨rfl,rfl,F,L⟩:=G;exact cP (Dt o _ s x d e' b p aj nw rows j l hi h1 D I hp H J F (by rw[l]at hd;exact hd) g a w rfl hs) (λg' B w'=>C _ g' B w' L);exact G.elim;rename_i u I;exact cP (append_nil o _ s x d e b u j l hi h1 D I G.1 H J G.2.1 (by rw[l]at hd;exact hd) g a w rfl hs) (λg' B w'=>C _ g' B w' G.2.2);exact G.elim;exact h.elim;exact h.elim;rename_i E;split at h;rename_i x t O S l;have T:=ub E O S;rw[T]at j;unfold Dp at h;split at h;rename_i b off n cap z I hz;obtain⟨h1,D,H,J,G,F⟩:=h;exact cP (HX o t x b off n cap z j l I hz h1 D H J G g a w hs) (λg' B w'=>C _ g' B w' F);rename_i b e off n cap zs _ I hz;obtain⟨h1,D,H,J,G,F,L⟩:=h;exact cP (Dq o t x b e off n cap zs j l I hz h1 D H J G F g a w hs) (λg' B w'=>C _ g' B w' L);exact h.elim;exact h.elim;rename_i E;split at h;rename_i x y t U O S;have T:=ub E O S;rw[T]at j;obtain⟨v,w',g',st',r1,r2,r3,r4⟩:=Kb o t U x y o.dst j rfl h g a w hs hd;exact cP ⟨v,w',g',r1,r2,r4⟩ (λg' B w'=>C _ g' B w' r3);exact h.elim;rename_i E;split at h;rename_i m k t U O S l;have T:=ub E O S;rw[T]at j;unfold Ke at h;obtain⟨h1,D,H,J,G,F⟩:=h;split at F;rename_i p I;split at F;rename_i nw es hp;exact cP (Dn o t U m k p nw es j l h1 D I hp H J G g a w hs) (λg' B w'=>C _ g' B w' F);exact F.elim;exact F.elim;exact h.elim;exact A h
 case load t x=>
  rw[j]at h;simp only[AE]at h;obtain⟨g1,t1,_,_,s1⟩:=xu (P:=P) t x hs;exact ze (st:=iD P st t x) o (by rw[j];exact h) s1 (by rw[show g1.N=g.N from t1.N.symm▸rfl];exact hd) (λst' g' B w' W U Z=>C st' g' B w' W (t1.trans U) Z)
 case convert aq dst x=>
  rw[j]at h A;simp only[AE]at h;split at h;rename_i af;exact Qj o j af h hs hd C;exact A h
 case build t M=>
  rw[j]at h;simp only[AE]at h;obtain⟨h1,D⟩:=h;obtain⟨g1,t1,_,_,s1,_⟩:=oI _ hs h1;exact ze (st:=(dE st (M.toList.map (·.2))).2.1) o (by rw[j];exact D) s1 (by rw[show g1.N=g.N from t1.N.symm▸rfl];exact hd) (λst' g' B w' W U Z=>C st' g' B w' W (t1.trans U) Z)
 case binOp op t x y u=>
  rw[j]at h A;unfold AE at h;split at h<;>first|exact A h|skip
  all_goals
   first
    |(rename_i X;cases X;done)
    |(rename_i X;injection X with O S e3 e4 e5;subst O S e3 e4 e5;exact Kf o _ _ _ true (by rw[j];rfl) h hs hd C)
    |(rename_i X;injection X with O S e3 e4 e5;subst O S e3 e4 e5;exact Kf o _ _ _ false (by rw[j];rfl) h hs hd C)
    |(rename_i X;rw[X]at A;exact A h)
 all_goals (rw[j]at h A;exact A h)
theorem Sim.weak{g:Gh}{st st':St}{a:Act}{w:ab}(h:Sim g st a w)(j:st'.h=st.h)(ht:∀s,look st'.t s=look st.t s∨look st'.t s=.pv .bot):Sim g st' a w:=by
 obtain⟨bl,i⟩:=h.own;have f:∀p,(aj st' p).isOwn=true->aj st' p=aj st p∧aA g a w p=aA g a w p:=by
  intro p hp;refine⟨?_,rfl⟩;cases p with
  |cell b k=>simp only[aj,j]
  |slot s=>
   simp only[aj]at hp⊢;rcases ht s with e|e;exact e;rw[e]at hp;cases hp
 have m:∀s,look st'.t s≠look st.t s->look st'.t s=.pv .bot:=λs l=>(ht s).resolve_left l;refine{
  size:=h.size,defs:=h.defs,env:=h.env,n:=by rw[j];exact h.n,n0:=h.n0,B:=h.B,I:=h.I,F:=h.F,μI:=h.μI,μinj:=h.μinj,
  own:=⟨λp=>match p with|.slot s=>(match look st'.t s with|.pv .bot=>none|_=>bl (.slot s))|.cell b k=>bl (.cell b k),?_⟩,al:=λs=>?_}
 have d:∀p c,(match p with|.slot s=>(match look st'.t s with|.pv .bot=>none|_=>bl (.slot s))|.cell b k=>bl (.cell b k))=some c->bl p=some c:=by
  intro p c hp;cases p with
  |cell b k=>exact hp
  |slot s=>
   simp only at hp;split at hp;cases hp;exact hp
 refine{slots:=λs=>?_,blocks:=λb xs hx=>?_,inj:=λp q c hp r=>i.inj p q c (d p c hp) (d q c r),free:=λp c hp=>i.free p c (d p c hp)};simp only;rcases ht s with e|e;split;rename_i o;rw[o];exact⟨rfl,trivial⟩;rw[e];exact i.slots s;rw[e];exact⟨rfl,trivial⟩;rw[j]at hx;exact i.blocks b xs hx;rcases ht s with e|e;rw[e];exact cL.congr f (h.al s);rw[e];trivial
theorem Sim.same{g:Gh}{st st':St}{a:Act}{w:ab}(h:Sim g st a w)(b:st'.h=st.h)(ht:∀s,look st'.t s=look st.t s):Sim g st' a w:=h.weak b λs=>.inl (ht s)
def jX(ops:List ai)(j:Nat):Option Nat:=(ops[j]?).bind (·.dst)
def xv(st:St)(d:Nat)(a:Bool):Option Prop:=
 match look st.t d with
 |.pv (.lit (.bool b))=>some (b=a)
 |.opt c (.pv (.lit (.bool b)))=>some (c∧b=a)
 |_=>none
theorem qc{g:Gh}{st:St}{a:Act}{w:ab}(h:Sim g st a w){ops:Array ai}{o:ai}{j d:Nat}{l:Bool}(t:o.guard=some (j,l))(hs:jX ops.toList j=some d){s:Prop}(m:xv st d l=some s):
 Region.wanted o (yielded ops a.tmps)=true↔s:=by
 have n:(ops[j]?).bind (·.dst)=some d:=by simpa[jX]using hs
 obtain⟨u,e⟩:=h.slot d;have k:∀b,a.tmps.getD d undef=.bool b->yielded ops a.tmps j=some b:=by
  intro b f;simp only[yielded,n,Yr];rw[VJ]at f;cases q:a.tmps[d]?with
  |none=>rw[q]at f;cases f
  |some v=>rw[q]at f;simp only[V7]at f;subst f;rfl
 have p:a.tmps.getD d undef=undef->yielded ops a.tmps j=none:=by
  intro f;simp only[yielded,n,Yr];rw[VJ]at f;cases q:a.tmps[d]?with
  |none=>rfl
  |some v=>rw[q]at f;simp only[V7]at f;subst f;rfl
 simp only[Region.wanted,t];unfold xv at m;split at m;rename_i b r;cases m;rw[r]at e;rw[k b e.2];simp;rename_i c b r;cases m;rw[r]at e;by_cases i:c;rw[k b (e.2.2 i).2];simp[i];rw[p (e.2.1 i)];simp[i];cases m
def uI:SV->PV
 |.own nw e rows=>.seq nw e rows
 |.omap nw es=>.amap nw es
 |.pv x=>x
 |_=>.bot
theorem Sim.resultF{g:Gh}{st:St}{a:Act}{w w':ab}{g':Gh}(h:Sim g st a w){r:SV}{v:an}{o:Option Nat}(f:PureEnd w w' g')(s:aO g' w' r v o)
 (ho:∀c,o=some c->w.heap.size<=c∧g'.I c=none) (hn:r.nwS):∃J,(∀c o,g.I c=some o->J c=some o)∧(∀g3 j,g3.I=g.I->Sim g3 j a w->Sim {g3 with I:=J} j a w'∧g3.to {g3 with I:=J})∧Fit {g with I:=J} (uI r) v:=by
 let J:Nat->Option Obj:=λc=>if o=some c then w'.heap[c]?else g'.I c
 have y:∀c b,J c=some b->w'.heap[c]?=some b:=λc b i=>by
  change(if o=some c then w'.heap[c]?else g'.I c)=some b at i
  split at i;exact i;exact f.I c b i
 let g2:Gh:={g with I:=λc=>if w.heap.size<=c then J c else g.I c}
 refine⟨g2.I,(h.grown f.env f.size f.keep J y).2.1.I,λg3 j D u=>?_,?_⟩;have:=u.grown f.env f.size f.keep J y;rw[D]at this;exact⟨this.1,this.2.1⟩;have q:∀c b,g'.I c=some b->g'.B<=c->g2.I c=some b:=λc b i E=>by
  show(if w.heap.size<=c then J c else g.I c)=some b;rw[Vt (by rw[←f.B];exact E)];show(if o=some c then w'.heap[c]?else g'.I c)=some b;split;exact f.I c b i;exact i
 have d:g2.B<=g'.B:=by rw[f.B];exact h.B
 have l:∀c,o=some c->g2.I c=w'.heap[c]?:=λc k=>by
  show(if w.heap.size<=c then J c else g.I c)=_;rw[Vt (ho c k).1];show(if o=some c then w'.heap[c]?else g'.I c)=_;rw[Vt k]
 cases r with
 |pv x=>exact Fit.new (g:=g') q d x v hn s.2
 |own nw e rows=>
  rcases s with⟨_,p,C⟩|⟨c,k,cap,arr,T,vs,m,n,a3,a4,a5,z,A⟩;exact⟨none,0,by rw[C,p];rfl,by rw[p];exact Vu _,.inl p⟩;exact⟨_,cap,m,a4.1,.inr ⟨c,0,arr,T,(0,0),vs,rfl,(l c k).trans n,λt=>Wb d (A t),aK.new (g:=g') q d e rows vs hn.2 a5,by simpa using z⟩⟩
 |omap nw es=>
  obtain⟨c,k,en,ck,m,n,a3,a4⟩:=s;exact⟨c,en,ck,m,(l c k).trans n,λt=>Wb d (a4.1 t),cu.new (g:=g') q d es _ hn.2 a3,a4.2⟩
 |_=>cases hn
def SV.isFree:SV->Bool
 |.own .. =>false
 |.omap .. =>false
 |_=>true
def Kh(P:aa)(st:St)(t:ah)(len:Nat)(a:Array (Nat×ae)):SV×Prop:=
 match bU P t,eq P t with
 | some e, some _ => (.pv (.seq true e ((k7 st (a.toList.map (·.2))).map bn)), len * e <= 16777216 ∧ 0 < e ∧ a.toList.map (·.1) = List.range len ∧ pC st (a.toList.map (·.2)) ∧
  ∀y∈k7 st (a.toList.map (·.2)),(bn y).length=e∧cz (bn y)=true∧(y.one=true∨d9 (.pv y)))
 |_,_=>(.pv .bot,False)
def sr(P:aa)(st:St)(o:Op):SV×Prop:=
 match o with
 |.buildSlice t len a=>Kh P st t len a
 |o=>pop P st o
def QE(P:aa)(st:St)(o:Op)(r:SV):Prop:=
 match o with
 |.call c=>match c.callee with
  |.value x=>match b8 st x with
   |some (f,p,q)=>gc st x∧lK st c.args.toList∧∃R,aw P f (eG (bE st.h 3) p++(Db 3 st c.args.toList++eG (bE st.h 3) q)) R∧∀a,R a->a.nwS∧r=.pv (uI a)
   |none=>False
  |_=>(pop P st (.call c)).2∧r=(pop P st (.call c)).1
 |o=>(sr P st o).2∧r=(sr P st o).1
theorem Qk{P:aa}{st:St}(o:ai){t:ah}{len:Nat}{b:Array (Nat×ae)}(ho:o.op=.buildSlice t len b){r:SV}(h:(Kh P st t len b).2∧r=(Kh P st t len b).1){g:Gh}{a:Act}{w:ab}(hs:Sim g st a w){K':Act->ab->Prop}{Q:Exit->Act->ab->Prop}
 (s:∀v J n,(∀c o,g.I c=some o->J c=some o)->(∀g3 d,g3.I=g.I->Sim g3 d a w->Sim {g3 with I:=J} d a n∧g3.to {g3 with I:=J})->aO {g with I:=J} n r v none->cL {g with I:=J} st a n r v->K' (a.put o.dst v) n):o.wp P a w K' Q:=by
 obtain⟨h,A⟩:=h;subst A;unfold Kh at h s;split at h;rename_i e zs k l;obtain⟨h1,E,p,y,z⟩:=h;simp only[k,l]at s;obtain⟨arr,T,C,D,r3⟩:=nk (w:=w) o t len e b zs _ ho k l h1 p (nJ hs _ y) z;unfold Oper.wp;rw[D]
 let m:Nat->Option Obj:=λc=>if c=w.heap.size then some (.cells arr.toArray T (0,0))else none
 have j:(w.alloc (.cells arr.toArray T)).heap[w.heap.size]?=some (.cells arr.toArray T (0,0)):=heap_alloc_new w _;have q:∀c o,m c=some o->(w.alloc (.cells arr.toArray T)).heap[c]?=some o:=λc o f=>by
  change(if c=w.heap.size then _ else _)=_ at f
  split at f;rename_i x;subst x;rw[j];exact f;cases f
 have u:=λ(g3:Gh) d (i:Sim g3 d a w)=>i.grown (w':=w.alloc (.cells arr.toArray T)) rfl (by simp) (λc f=>heap_alloc_old w _ f) m q;refine s _ (λc=>if w.heap.size<=c then m c else g.I c) _ ?_ ?_ ?_ trivial;exact(u g st hs).2.1.I;intro g3 d p i;have:=u g3 d i;rw[p]at this;exact⟨this.1,this.2.1⟩;refine⟨rfl,_,len,by rw[r3],by rw[r3];exact Vu _,.inr ⟨w.heap.size,0,arr.toArray,T,(0,0),arr,rfl,?_,λ_=>hs.B,aK.mono ?_ e _ _ C,by simp⟩⟩;show(if w.heap.size<=w.heap.size then m w.heap.size else _)=_;rw[Vt (Vu _)];exact Vt rfl;exact⟨λc o f=>(u g st hs).2.1.I c o f,Vu _,Vu _,λ_ _=>rfl⟩;exact h.elim
theorem Ki{P:aa}{st:St}(o:ai){r:SV}(h:(pop P st o.op).2∧r=(pop P st o.op).1){g:Gh}{a:Act}{w:ab}(hs:Sim g st a w){K':Act->ab->Prop}{Q:Exit->Act->ab->Prop}
 (k:∀v J e,(∀c o,g.I c=some o->J c=some o)->(∀g3 b,g3.I=g.I->Sim g3 b a w->Sim {g3 with I:=J} b a e∧g3.to {g3 with I:=J})->aO {g with I:=J} e r v none->cL {g with I:=J} st a e r v->K' (a.put o.dst v) e):o.wp P a w K' Q:=by
 obtain⟨v,l,i,f⟩:=J2 o g a w hs h.1;rw[←h.2]at i f;unfold Oper.wp;rw[l];exact k v g.I w (λ_ _ h=>h) (λg3 b j d=>by rw[←j];exact⟨d,d.refl_to⟩) i f
theorem Kj{P:aa}{st:St}(o:ai){r:SV}(h:QE P st o.op r){g:Gh}{a:Act}{w:ab}(hs:Sim g st a w){K':Act->ab->Prop}{Q:Exit->Act->ab->Prop}
 (k:∀v J z,(∀c o,g.I c=some o->J c=some o)->(∀g3 y,g3.I=g.I->Sim g3 y a w->Sim {g3 with I:=J} y a z∧g3.to {g3 with I:=J})->aO {g with I:=J} z r v none->cL {g with I:=J} st a z r v->K' (a.put o.dst v) z):o.wp P a w K' Q:=by
 cases j:o.op
 case call c=>
  rw[j]at h;simp only[QE]at h;split at h;rename_i x d;split at h
  .rename_i f p q B;rw[qb,dY,dY]at h;obtain⟨h1,K,R,⟨b,O⟩,U⟩:=h;have Y:c={callee:=.value x,args:=c.args,argTypes:=c.argTypes}:=by cases c;simp only at d;rw[d]
   obtain⟨u,v,hx,W,F⟩:=fZ hs h1 B;have H:=mB hs 3;have m:ax (dZ w) (p.map (jD (bE st.h 3))++(c.args.toList.map (vw 3 st)++q.map (jD (bE st.h 3)))) (u.toList++(c.args.toList.map a.eval++v.toList)):=by
    refine ax.append ?_ (ax.append (sq hs 3 _ K) ?_);rw[←dY];exact ax.frz hs.I H _ _ W;rw[←dY];exact ax.frz hs.I H _ _ F
   have i:=O w _ m;have l:(u.toList++(c.args.toList.map a.eval++v.toList)).toArray=u++c.args.map a.eval++v:=by
    apply WW;simp
   rw[l]at i;unfold Oper.wp;have s:(execOp a.eval o).run P w=.ok (.enter f (u++c.args.map a.eval++v)) w:=by
    unfold aV at b;split at b
    case h_2=>cases b
    rename_i fn C;simp only[VC,Wp]at b;simp only[execOp,j,resolve,d,hx,Deferred.ofValue,invoke,callFunc,bD,bN,bK,run_program,C,b.1,b.2,We,WM]
   rw[s,Oper.upon_enter];refine i.mono λe w' ⟨val,X,g',Z,V,A,S,T,hin,E⟩=>?_;subst V;obtain⟨D,n⟩:=U X A;obtain⟨J,L,M,N⟩:=hs.resultF S T E D;rw[n]at k;exact k val J w' L M ⟨rfl,N⟩ trivial
  exact h.elim;rename_i d;exact Ki o (by rw[j];exact h) hs k
 case buildSlice t len G=>rw[j]at h;exact Qk o j h hs k
 all_goals exact Ki o (by rw[j]at h⊢;exact h) hs k
theorem aO.undef{g:Gh}{w:ab}{c:Prop}(h:¬c)(r:SV):aO g w (.opt c r) Go.undef none:=⟨rfl,λ_=>rfl,λa=>absurd a h⟩
theorem aO.opt{g:Gh}{w:ab}{c:Prop}(h:c){r:SV}{v:an}(a:aO g w r v none):aO g w (.opt c r) v none:=⟨rfl,λhn=>absurd h hn,λ_=>a⟩
def Vd(P:aa)(st:St)(a:Prop)(o:Op)(d:Option Tmp)(K:St->Prop):Prop:=
 ∃r,(a->QE P st o r)∧K (putD d (.opt a r) st)
def Rd(P:aa)(st:St)(a:Prop)(o:Op)(d:Option Tmp)(K:St->Prop):Prop:=
 (a->(pop P st o).2)∧K (putD d (.opt a (pop P st o).1) st)
def Gc(P:aa)(st:St)(a:Prop)(o:Op)(d:Option Tmp)(K:St->Prop):Prop:=
 (a->AE P st o d K)∧(¬a->K (putD d (.opt False (.pv (.lit (.bool false)))) st))
def uc(st:St)(args:Array ae)(p q:aD):aD:=eG (bE st.h 3) p++(Db 3 st args.toList++eG (bE st.h 3) q)
def bz(P:aa)(st:St)(a:Prop)(f:az)(b:aD)(d:Option Tmp)(K:St->Prop)(ok:Prop)(x:ae)(args:Array ae):Prop:=
 (∃r,(a->aw P f b (λc=>c=r))∧r.nwS∧K (putD d (.opt a (.pv (uI r))) st))∨((a->ap P st ok f b d K x args)∧(¬a->K (putD d (.opt False (.pv (.lit (.bool false)))) st)))
def zf(st:St)(x:ae)(args:Array ae):Bool:=
 match b8 st x with
 |some (_,p,q)=>qX st args p q
 |none=>false
def Ge(P:aa)(st:St)(a:Prop)(x:ae)(args:Array ae)(d:Option Tmp)(K:St->Prop):Prop:=
 match b8 st x with
 |some (f,p,q)=>(a->gc st x∧lK st args.toList)∧bz P st a f (uc st args p q) d K (oN st args p q) x args
 |none=>False
theorem Ob{P:aa}{st:St}{e:Prop}{c:Call}{x:ae}{d:Option Tmp}{K:St->Prop}(k:c.callee=.value x)(hp:zf st x c.args=false)(h:Ge P st e x c.args d K):Vd P st e (.call c) d K∨Gc P st e (.call c) d K:=by
 unfold Ge at h;unfold zf at hp;split at h;rename_i f p q a;rw[a]at hp;obtain⟨h1,⟨r,g,i,l⟩|⟨g,i⟩⟩:=h;refine .inl ⟨_,λb=>?_,l⟩;simp only[QE,k,a];exact⟨(h1 b).1,(h1 b).2,_,g b,λm j=>by subst j;exact⟨i,rfl⟩⟩;refine .inr ⟨λb=>?_,i⟩;simp only[AE,k,Ga,a];have hp:qX st c.args p q=false:=hp;rw[Vs (by rw[hp];simp)];exact⟨(h1 b).1,(h1 b).2,g b⟩;exact h.elim
theorem bz.intro{P:aa}{st:St}{a:Prop}{f:az}{b:aD}{d:Option Tmp}{K:St->Prop}{ok:Prop}{x:ae}{args:Array ae}{r:SV}(h:a->aw P f b (λe=>e=r))(c:K (putD d (.opt a (.pv (uI r))) st))(hn:r.nwS:=by simp):bz P st a f b d K ok x args:=.inl ⟨r,h,hn,c⟩
theorem ap.intro{P:aa}{st:St}{ok:Prop}{f:az}{b:aD}{d:Option Tmp}{K:St->Prop}{x:ae}{args:Array ae}{r:SV}(h:aw P f b (λc=>c=r))(e:K (jE d r st))(hn:r.nwS:=by simp):ap P st ok f b d K x args:=
 .inl ⟨_,h,λc a=>by subst a;exact⟨hn,e⟩⟩
theorem ap.introR{P:aa}{st:St}{ok:Prop}{f:az}{a:aD}{d:Option Tmp}{K:St->Prop}{x:ae}{args:Array ae}{R:SV->Prop}(h:aw P f a R)(b:∀r,R r->r.nwS∧K (jE d r st)):ap P st ok f a d K x args:=.inl ⟨_,h,b⟩
theorem ap.introX{P:aa}{st:St}{ok:Prop}{f:az}{a:aD}{d:Option Tmp}{K:St->Prop}{x:ae}{args:Array ae}(h:cd P st x args d K):ap P st ok f a d K x args:=.inr (.inr h)
theorem cd.introS{P:aa}{st:St}{f:az}{d:Option Tmp}{K:St->Prop}{c:ae}{args:Array ae}{q:aD}{x:ae}{xs:List ae}{o:Pos}{lo hi e:Nat}{rows:aT}{j:aD}{R:Option Nat->aT->Prop}
 (h:qP P f e rows j R) (g:gc st c) (b:b8 st c=some (f,[],q)) (n:args.toList=x::xs) (hp:partOf st x=some (o,lo,hi)) (s:gc st x) (r:tJ st o=e) (t:((dQ st o).take hi).drop lo=rows) (p:bV 0 rows) (u:lK (setPos st o (.pv .bot)) xs)
 (i:Db 3 (setPos st o (.pv .bot)) xs++eG (bE (setPos st o (.pv .bot)).h 3) q=j)
 (l:∀k a,R k a->a.length=hi -lo->(∀m,k=some m->m<=hi -lo)->K (Ia d k o lo (setPos st o (.own (pG st o) (tJ st o) ((dQ st o).take lo++a++(dQ st o).drop hi))))):cd P st c args d K:=by
 subst r;subst t;subst i;refine xt.x g b ?_;unfold xt;simp only[n,hp];exact⟨s,p,u,R,h,l⟩
theorem ap.introM{P:aa}{st:St}{ok:Prop}{f:az}{b:aD}{d:Option Tmp}{K:St->Prop}{x:ae}{args:Array ae}{R:SV->ao->Prop}(h:aI P f b st.h R)(c:∀r h',R r h'->K (jE d r ⟨aW fE st.t,h'⟩))(a:ok:=by simp):ap P st ok f b d K x args:=.inr (.inl ⟨a,R,h,c⟩)
def uJ(st:St)(x:ae)(args:Array ae):Bool:=
 match b8 st x with
 |some (_,p,q)=>qX st args p q
 |none=>false
theorem DG(st:St)(x:ae)(args:Array ae):uJ st x args=zf st x args:=rfl
def AG(P:aa)(st:St)(a:Prop)(o:Op)(d:Option Tmp)(K:St->Prop):Prop:=
 match o with
 |.alloc t=>Gc P st a (.alloc t) d K
 |.box t x=>Gc P st a (.box t x) d K
 |.store t x y=>Gc P st a (.store t x y) d K
 |.buildSlice t n ps=>Gc P st a (.buildSlice t n ps) d K
 |.makeSlice t x y=>Gc P st a (.makeSlice t x y) d K
 |.makeMap t r=>Gc P st a (.makeMap t r) d K
 |.mapUpdate t m k x=>Gc P st a (.mapUpdate t m k x) d K
 |.build t ps=>if yZ st ps.toList=true then Gc P st a (.build t ps) d K else Rd P st a (.build t ps) d K
 |.call c=>match c.callee with
  |.value x=>if uJ st x c.args=true then Gc P st a (.call c) d K else Ge P st a x c.args d K
  |.builtin .append=>Gc P st a (.call c) d K
  |_=>Rd P st a (.call c) d K
 |o=>Rd P st a o d K
def R2(P:aa)(st:St)(t:ah)(a:Array (Nat×ae))(d:Option Tmp)(K:St->Prop):Prop:=(Du P st t a).2∧K (putD d (Du P st t a).1 st)
def Oc(P:aa)(ops:List ai)(st:St)(o:Op)(d:Option Tmp)(K:St->Prop):Prop:=
 match o with
 |.build t a=>if(mE ops d&&yZ st a.toList)=true then R2 P st t a d K else AE P st (.build t a) d K
 |o=>AE P st o d K
theorem DH(P:aa)(st:St)(t:ah)(a:Array (Nat×ae)):(Du P st t a).1.isOwn=false:=by
 unfold Du;split<;>rfl
theorem Ql{P:aa}{ops:List ai}{st:St}(o:ai){K:St->Prop}(h:Oc P ops st o.op o.dst K){g:Gh}{a:Act}{w:ab}(hs:Sim g st a w)(hd:cX g.N o.dst){K':Act->ab->Prop}{Q:Exit->Act->ab->Prop}
 (d:∀st' g' e w',K st'->g.to g'->Sim g' st' e w'->K' e w'):o.wp P a w K' Q:=by
 unfold Oc at h;split at h;rename_i t b c;split at h;obtain⟨h1,f⟩:=h;obtain⟨v,k,j,i⟩:=N8 o t b c g a w hs h1;unfold Oper.wp;rw[k];exact d _ g _ w f hs.refl_to (hs.putD hd j i (DH P st t b));exact Kg o (by rw[c];exact h) hs hd d;exact Kg o h hs hd d
def gq(P:aa)(ops:List ai)(o:ai)(K:St->Prop)(st:St):Prop:=
 match o.guard with
 |none=>Oc P ops st o.op o.dst K
 |some (j,a)=>match jX ops j with
  |some d=>match xv st d a with
   |some b=>AG P st b o.op o.dst K
   |none=>False
  |none=>False
def lL(P:aa)(ops:List ai)(K:St->Prop):List ai->St->Prop
 |[],st=>K st
 |o::rest,st=>gq P ops o (lL P ops K rest) st
theorem oO{P:aa}{st:St}{o:Op}(a:∀c x,o=.call c->c.callee≠.value x)(h:(sr P st o).2):QE P st o (sr P st o).1:=by
 cases o with
 |call c=>
  simp only[QE];split;rename_i x hx;exact absurd hx (a c x rfl);exact⟨h,rfl⟩
 |_=>exact⟨h,rfl⟩
theorem DI{P:aa}{st:St}{o:Op}(b:∀c x,o=.call c->c.callee≠.value x)(h:(pop P st o).2):QE P st o (pop P st o).1:=by
 cases o with
 |call c=>
  simp only[QE];split;rename_i x hx;exact absurd hx (b c x rfl);exact⟨h,trivial⟩
 |buildSlice t len a=>exact h.elim
 |_=>exact⟨h,rfl⟩
theorem Kk{P:aa}{st:St}(o:ai){c:Prop}{K:St->Prop}(h:Vd P st c o.op o.dst K){g:Gh}{a:Act}{w:ab}(hs:Sim g st a w)(hd:cX g.N o.dst){K':Act->ab->Prop}{Q:Exit->Act->ab->Prop}
 (f:∀st' g' d w',K st'->g.to g'->Sim g' st' d w'->K' d w'):(c->o.wp P a w K' Q)∧(¬c->K' (a.put o.dst undef) w):=by
 obtain⟨r,h1,e⟩:=h;refine⟨λb=>?_,λb=>f _ g _ w e hs.refl_to (hs.putD hd (aO.undef b r) (λl=>absurd l b) rfl)⟩;refine Kj o (h1 b) hs λv J m n i k j=>f _ _ _ m e (i g _ rfl hs).2 ((i g _ rfl hs).1.putD hd (aO.opt b k) (λ_=>j) rfl)
theorem jY{P:aa}{st:St}(o:ai){b:Prop}{K:St->Prop}(h:Gc P st b o.op o.dst K){g:Gh}{a:Act}{w:ab}(hs:Sim g st a w)(hd:cX g.N o.dst){K':Act->ab->Prop}{Q:Exit->Act->ab->Prop}
 (e:∀st' g' d w',K st'->g.to g'->Sim g' st' d w'->K' d w'):(b->o.wp P a w K' Q)∧(¬b->K' (a.put o.dst undef) w):=
 ⟨λc=>Kg o (h.1 c) hs hd e,λc=>e _ g _ w (h.2 c) hs.refl_to (hs.putD hd (aO.undef (λh=>h) _) (λf=>f.elim) rfl)⟩
theorem R3{P:aa}{st:St}(o:ai){f:Prop}{K:St->Prop}(h:AG P st f o.op o.dst K){g:Gh}{a:Act}{w:ab}(hs:Sim g st a w)(hd:cX g.N o.dst){K':Act->ab->Prop}{Q:Exit->Act->ab->Prop}
 (d:∀st' g' i w',K st'->g.to g'->Sim g' st' i w'->K' i w'):(f->o.wp P a w K' Q)∧(¬f->K' (a.put o.dst undef) w):=by
 have hp:(∀c x,o.op=.call c->c.callee≠.value x)->Rd P st f o.op o.dst K->(f->o.wp P a w K' Q)∧(¬f->K' (a.put o.dst undef) w):=
  λe h=>Kk o ⟨(pop P st o.op).1,λj=>DI e (h.1 j),h.2⟩ hs hd d
 cases b:o.op
 case alloc t=>rw[b]at h;exact jY o (by rw[b];exact h) hs hd d
 case box t x=>rw[b]at h;exact jY o (by rw[b];exact h) hs hd d
 case store t x y=>rw[b]at h;exact jY o (by rw[b];exact h) hs hd d
 case buildSlice t n ps=>rw[b]at h;exact jY o (by rw[b];exact h) hs hd d
 case makeSlice t x y=>rw[b]at h;exact jY o (by rw[b];exact h) hs hd d
 case makeMap t r=>rw[b]at h;exact jY o (by rw[b];exact h) hs hd d
 case mapUpdate t m k x=>rw[b]at h;exact jY o (by rw[b];exact h) hs hd d
 case build t ps=>
  rw[b]at h;simp only[AG]at h;split at h;exact jY o (by rw[b];exact h) hs hd d;exact hp (λc' x e=>by rw[b]at e;cases e) (by rw[b];exact h)
 case call c=>
  rw[b]at h;simp only[AG]at h;split at h;rename_i x hx;split at h;exact jY o (by rw[b];exact h) hs hd d;rename_i hn;rcases Ob hx (by rw[←DG];simpa using hn) h with h|h;exact Kk o (by rw[b];exact h) hs hd d;exact jY o (by rw[b];exact h) hs hd d;exact jY o (by rw[b];exact h) hs hd d;rename_i hn _;exact hp (λc' x e hx=>by rw[b]at e;cases e;exact hn x hx) (by rw[b];exact h)
 all_goals (rw[b]at h;exact hp (λc' x e=>by rw[b]at e;cases e) (by rw[b];exact h))
theorem xw{P:aa}{ops:Array ai}{L:List ai}(n:∀j d,jX L j=some d->jX ops.toList j=some d){st:St}(o:ai){K:St->Prop}(h:gq P L o K st){g:Gh}{a:Act}{w:ab}(hs:Sim g st a w)(hd:cX g.N o.dst){K':Act->ab->Prop}{Q:Exit->Act->ab->Prop}
 (i:∀st' g' f w',K st'->g.to g'->Sim g' st' f w'->K' f w'):if Region.wanted o (yielded ops a.tmps)=true then o.wp P a w K' Q else K' (a.put o.dst undef) w:=by
 unfold gq at h;split at h;rename_i b;rw[Vt (by simp[Region.wanted,b])];exact Ql o h hs hd i;rename_i j l b;split at h;rename_i d c;split at h;rename_i q p;have k:=qc hs b (n _ _ c) p;have:=R3 o h hs hd (Q:=Q) i;split;rename_i e;exact this.1 (k.1 e);rename_i e;exact this.2 (λm=>e (k.2 m));exact h.elim;exact h.elim
theorem jZ{P:aa}{ops:Array ai}{st:St}(o:ai){K:St->Prop}(h:gq P ops.toList o K st){g:Gh}{a:Act}{w:ab}(hs:Sim g st a w)(hd:cX g.N o.dst){K':Act->ab->Prop}{Q:Exit->Act->ab->Prop}
 (c:∀st' g' b w',K st'->g.to g'->Sim g' st' b w'->K' b w'):if Region.wanted o (yielded ops a.tmps)=true then o.wp P a w K' Q else K' (a.put o.dst undef) w:=xw (λ_ _ h=>h) o h hs hd c
def cV(N:Nat)(l:List ai):Bool:=l.all λo=>match o.dst with|some d=>decide (d<N)|none=>true
theorem iY{N:Nat}{o:ai}{l:List ai}(h:cV N (o::l)=true):cX N o.dst∧cV N l=true:=by
 simp only[cV,List.all_cons,VC]at h;refine⟨?_,h.2⟩;unfold cX;split;rename_i d hd;rw[hd]at h;simpa using h.1;trivial
theorem AS{P:aa}{ops:Array ai}{L:List ai}(i:∀j d,jX L j=some d->jX ops.toList j=some d):∀(l:List ai){st:St}{K:St->Prop}(_:lL P L K l st){g:Gh}{a:Act}{w:ab}(_:Sim g st a w)(_:cV g.N l=true){Q:Exit->Act->ab->Prop}
 (_:∀st' g' b w',K st'->g.to g'->Sim g' st' b w'->Q .normal b w'),wpList P ops Q l a w
 |[],st,K,h,g,a,w,hs,_,Q,c=>c st g a w h hs.refl_to hs
 |o::rest,st,K,h,g,a,w,hs,hd,Q,c=>by
  obtain⟨h1,n⟩:=iY hd;have:=xw (ops:=ops) i o h hs h1 (Q:=Q) (K':=wpList P ops Q rest)
   (λst' g' b w' hk k s'=>AS i rest hk s' (by rw[k.N];exact n) (λf g2 m s p r q=>c f g2 m s p (k.trans r) q))
  unfold wpList;split;rename_i e;rw[Vt e]at this;exact .inl this;rename_i e;rw[Vs e]at this;exact this
theorem ud{P:aa}{ops:Array ai}(l:List ai){st:St}{K:St->Prop}(h:lL P ops.toList K l st){g:Gh}{a:Act}{w:ab}(hs:Sim g st a w)(hd:cV g.N l=true){Q:Exit->Act->ab->Prop}
 (c:∀st' g' b w',K st'->g.to g'->Sim g' st' b w'->Q .normal b w'):wpList P ops Q l a w:=AS (λ_ _ h=>h) l h hs hd c
theorem Sim.allocF{g:Gh}{st:St}{a:Act}{w:ab}(h:Sim g st a w)(arr:Array an)(T:ah):
 g.F w.heap.size=none∧g.I w.heap.size=none∧Sim {g with F:=λc=>if c=w.heap.size then some (.cells arr T (0,0))else g.F c} st a (w.alloc (.cells arr T)):=by
 obtain⟨bl,i⟩:=h.own;have l:∀{c o},w.heap[c]?=some o->c<w.heap.size:=λG=>(VD.1 G).1;have t:(w.alloc (.cells arr T)).heap[w.heap.size]?=some (.cells arr T (0,0)):=heap_alloc_new w _;have d:∀k,k<w.heap.size->(w.alloc (.cells arr T)).heap[k]?=w.heap[k]?:=λk hk=>heap_alloc_old w _ hk;have A:∀b,b<g.n->g.μ b<w.heap.size:=λb f=>by
  obtain⟨_,_,u,_⟩:=i.blocks b _ (Vq (h.n▸f));exact l u
 have y:g.I w.heap.size=none:=(h.fresh i (Vu _)).I;have v:g.F w.heap.size=none:=(h.fresh i (Vu _)).F;refine⟨v,y,?_⟩
 let g':Gh:={g with F:=λc=>if c=w.heap.size then some (.cells arr T (0,0))else g.F c}
 have hle:g.le g':=⟨λ_ _ h=>h,Vu _,Vu _,λ_ _=>rfl⟩;have q:∀p c,bl p=some c->(w.alloc (.cells arr T)).heap[c]?=w.heap[c]?:=λp c j=>d c (i.free p c j).2.2.1;have m:∀b k,(aj st (.cell b k)).isOwn=true->b<g.n:=by
  intro b k hp;rw[h.n];apply Yy;intro r;simp only[aj,Vr,V4 r]at hp;simp[SV.isOwn]at hp
 have z:∀p,(aj st p).isOwn=true->aj st p=aj st p∧aA g' a (w.alloc (.cells arr T)) p=aA g a w p:=by
  intro p hp;refine⟨rfl,?_⟩;cases p with
  |slot s=>rfl
  |cell b k=>simp only[aA];rw[d _ (A b (m b k hp))]
 refine{size:=h.size,defs:=h.defs,env:=h.env,n:=h.n,n0:=h.n0,B:=?_,I:=λc o j=>?_,F:=λc o j=>?_,μI:=λb f=>⟨(h.μI b f).1,?_⟩,μinj:=h.μinj,own:=⟨bl,?_⟩,al:=λs=>cL.congr z (h.al s)};have:=h.B;simp only[World.size_alloc];exact Nat.le_succ_of_le this;have:=h.I c o j;rw[d c (l this)];exact this
 change(if c=w.heap.size then some (.cells arr T (0,0))else g.F c)=some o at j
 split at j;rename_i e;subst e;rw[t];exact j;have:=h.F c o j;rw[d c (l this)];exact this;show(if g.μ b=w.heap.size then _ else _)=none;have:=A b f;rw[Vs (by omega)];exact(h.μI b f).2;refine{slots:=λs=>aO.frame hle (q (.slot s)) (i.slots s),blocks:=λb ys hy=>?_,inj:=i.inj,free:=λp c hp=>?_};obtain⟨arr',T',h1,E,u⟩:=i.blocks b ys hy;have f:b<g.n:=by rw[h.n];exact(Vp.1 hy).1
 exact⟨arr',T',by show(w.alloc _).heap[g.μ b]?=_;rw[d _ (A b f)];exact h1,E,λk x hk=>⟨(u k x hk).1,aO.frame hle (q (.cell b k)) (u k x hk).2⟩⟩;obtain⟨C,D,a3,a4⟩:=i.free p c hp;refine⟨C,?_,by simp only[World.size_alloc];omega,a4⟩;show(if c=w.heap.size then _ else _)=none;rw[Vs (by omega)];exact D
theorem Sim.takeF{g:Gh}{st:St}{a:Act}{w:ab}(h:Sim g st a w)(xs:aD)(arr:Array an)(T:ah)(c:Nat)(K:g.F c=some (.cells arr T (0,0)))(L:g.I c=none)(V:ax g xs arr.toList)(J:∀v∈arr.toList,v.oneCell'=true){d:Nat}(hd:d<g.N)(E:a.tmps.getD d undef=.pointer (some ⟨c,0,none⟩)):
 Sim {g with F:=λc'=>if c'=c then none else g.F c',n:=g.n+1,μ:=λb=>if b=g.n then c else g.μ b} ((st.grow (xs.map .pv)).put d (.pv (.ptr st.h.length 0))) a w:=by
 obtain⟨bl,D⟩:=h.own;have R:w.heap[c]?=some (.cells arr T (0,0)):=h.F _ _ K
 let g':Gh:={g with F:=λc'=>if c'=c then none else g.F c',n:=g.n+1,μ:=λb=>if b=g.n then c else g.μ b}
 have hle:g.le g':=⟨λ_ _ h=>h,Vu _,Xt _,λb f=>by show(if b=g.n then _ else _)=_;rw[Vs (by omega)]⟩;have z:∀b,b<g.n->g.μ b≠c:=λb f e=>by have:=(h.μI b f).2;rw[e,K]at this;cases this
 have Q:∀p,(aj (st.grow (xs.map .pv)) p).isOwn=true->aj (st.grow (xs.map .pv)) p=aj st p∧aA g' a w p=aA g a w p:=by
  intro p hp;cases p with
  |slot s=>exact⟨rfl,rfl⟩
  |cell b k=>
   simp only[aj,St.grow,Vr]at hp⊢;rcases Xd b st.h.length with r|r|r;rw[Vv r]at hp⊢;refine⟨rfl,?_⟩;have f:b<g.n:=by rw[h.n];exact r
   simp only[aA];rw[hle.μ b f];exfalso;rw[r,VM (Vu _)]at hp;simp only[Xr,Wu,V7,VO]at hp;cases hx:xs[k]?with
   |none=>simp[hx,SV.isOwn]at hp
   |some y=>simp[hx,SV.isOwn]at hp
   exfalso;have hz:(st.h++[xs.map SV.pv])[b]?=none:=V4 (by simp only[Vz,VR,List.length_nil];omega);rw[hz]at hp;simp[SV.isOwn]at hp
 have l:∀p c,(match p with|.cell b _=>if b=g.n then none else bl p|.slot _=>bl p)=some c->bl p=some c:=by
  intro p c hp;cases p with
  |slot s=>exact hp
  |cell b k=>
   have u:(if b=g.n then none else bl (.cell b k))=some c:=hp;split at u;cases u;exact u
 have hs:Sim g' (st.grow (xs.map .pv)) a w:=by
  refine{size:=h.size,defs:=h.defs,env:=h.env,n:=?_,n0:=Wb h.n0 (Xt _),B:=h.B,I:=h.I,F:=λc' o m=>?_,μI:=λb f=>?_,μinj:=λb b' f j t=>?_,own:=⟨λp=>match p with|.cell b _=>if b=g.n then none else bl p|.slot _=>bl p,?_⟩,al:=λs=>cL.congr Q (h.al s)};show g.n+1=_;rw[h.n];simp[St.grow]
  change(if c'=c then none else g.F c')=some o at m
  split at m;cases m;exact h.F c' o m;show g.I (if b=g.n then _ else _)=none∧(if(if b=g.n then _ else _)=c then none else g.F (if b=g.n then _ else _))=none;by_cases i:b=g.n;rw[Vt i,Vt rfl];exact⟨L,rfl⟩;have j:b<g.n:=by have:b<g.n+1:=f;omega
  rw[Vs i,Vs (z b j)];exact h.μI b j
  change(if b=g.n then c else g.μ b)=(if b'=g.n then c else g.μ b')at t
  have h1:b<g.n+1:=f;have S:b'<g.n+1:=j;by_cases H:b=g.n;by_cases C:b'=g.n;omega;rw[Vt H,Vs C]at t;exact absurd t.symm (z b' (by omega));by_cases C:b'=g.n;rw[Vs H,Vt C]at t;exact absurd t (z b (by omega));rw[Vs H,Vs C]at t;exact h.μinj b b' (by omega) (by omega) t;refine{slots:=λs=>aO.frame hle (λ_ _=>rfl) (D.slots s),blocks:=λb ys hy=>?_,inj:=λp q c hp X=>D.inj p q c (l p c hp) (l q c X),free:=λp c' hp=>?_};simp only[St.grow]at hy;by_cases r:b<st.h.length;rw[Vv r]at hy;have f:b<g.n:=by rw[h.n];exact r
  obtain⟨arr',T',h1,S,U⟩:=D.blocks b ys hy;refine⟨arr',T',by rw[hle.μ b f];exact h1,S,λk x hk=>?_⟩;simp only[Vs (ZP f)];exact⟨(U k x hk).1,aO.frame hle (λ_ _=>rfl) (U k x hk).2⟩;have i:b=st.h.length:=by
   have:=(Vp.1 hy).1;simp at this;omega
  rw[i,VM (Vu _)]at hy;simp only[Xr,Wu,Wc]at hy;subst hy;have f:b=g.n:=by rw[i,h.n]
  refine⟨arr,T,by show w.heap[if b=g.n then _ else _]?=_;rw[Vt f];exact R,⟨by have:=V.length;simpa using this,J⟩,λk x hk=>?_⟩;rw[VO,VW]at hk;obtain⟨y,hy,rfl⟩:=hk;obtain⟨v,E,O⟩:=V.get k y hy;simp only[Vt f];refine⟨rfl,rfl,?_⟩;have:arr.getD k undef=v:=by
   rw[Vw]at E;simp[VJ,E]
  rw[this];exact Fit.mono hle _ _ O;have P:=l p c' hp;obtain⟨W,G,a3,a4⟩:=D.free p c' P;have A:c'≠c:=λe=>by rw[e,K]at G;cases G
  refine⟨W,?_,a3,λb f=>?_⟩;show(if c'=c then none else g.F c')=none;rw[Vs A];exact G;show(if b=g.n then c else g.μ b)≠c';by_cases i:b=g.n;rw[Vt i];exactλe=>A e.symm;rw[Vs i];exact a4 b (by have:b<g.n+1:=f;omega)
 have M:d<a.tmps.size:=by rw[h.size];exact hd
 have:=hs.put (d:=d) (sv:=.pv (.ptr st.h.length 0)) (v:=a.tmps.getD d undef) hd ⟨rfl,by show st.h.length<g.n+1;rw[h.n];omega,by rw[E];show _=Value.pointer (some ⟨if st.h.length=g.n then c else g.μ _,0,none⟩);rw[Vt h.n.symm]⟩ trivial rfl;rw[qT M]at this;exact this
def lB(o:ai):Option (Nat×ah):=
 match o.op,o.dst with
 |.alloc t,some d=>some (d,t)
 |_,_=>none
theorem Kl{o:ai}{d:Nat}{t:ah}(h:lB o=some (d,t)):o.dst=some d:=by
 unfold lB at h;split at h;rename_i h1 a;cases h;exact a;cases h
def Id(P:aa)(K:St->Prop):List ai->St->Prop
 |[],st=>K st
 |o::r,st=>match lB o with
  |some (d,t)=>match dL P t with
   |some zs=>cz zs=true∧Id P K r ((st.grow (zs.map .pv)).put d (.pv (.ptr st.h.length 0)))
   |none=>False
  |none=>Id P K r st
def zeroOf(P:aa)(t:ah)(z:Array an):Prop:=∃i v,P.info? t=some i∧i.zero=some v∧z=v.cells
theorem AT{P:aa}{t:ah}{z:Array an}(h:zeroOf P t z){zs:aD}(hz:dL P t=some zs):zs=z.toList.map PV.lit:=by
 obtain⟨i,v,h1,a,rfl⟩:=h;unfold dL at hz;rw[h1]at hz;simp only[a,Wq,Wc]at hz;exact hz.symm
structure Out (g0 g:Gh) (a:Act) (cf:Nat->Option (Nat×Array an×ah)):Prop where
  on:∀d c z T,cf d=some (c,z,T)->g.F c=some (.cells z T (0,0))∧g.I c=none∧g0.F c=none∧a.tmps.getD d undef=.pointer (some ⟨c,0,none⟩)
  off:∀c,(∀d z T,cf d≠some (c,z,T))->g.F c=g0.F c
  inj:∀d d' c z T z' T',cf d=some (c,z,T)->cf d'=some (c,z',T')->d=d'
  to:g0.to {g with F:=g0.F}
theorem Out.start{g:Gh}{st:St}{a:Act}{w:ab}(hs:Sim g st a w):Out g g a (λ_=>none):=
 ⟨λ_ _ _ _ h=>(by cases h),λ_ _=>rfl,λ_ _ _ _ _ _ _ h=>(by cases h),⟨λ_ _ h=>h,rfl,rfl,rfl,rfl,rfl,hs.n0,λ_ _=>rfl,λ_ _ h=>h⟩⟩
theorem Out.sub{g0 g:Gh}{a:Act}{cf:Nat->Option (Nat×Array an×ah)}(h:Out g0 g a cf){c:Nat}(b:g0.F c≠none):g.F c=g0.F c:=
 h.off c λd z T e=>b (h.on d c z T e).2.2.1
theorem Out.step{g0 g:Gh}{a i:Act}{cf:Nat->Option (Nat×Array an×ah)}(h:Out g0 g a cf){J:Nat->Option Obj}(ht:g.to {g with I:=J})(p:∀d,cf d≠none->i.tmps.getD d undef=a.tmps.getD d undef):Out g0 {g with I:=J} i cf:=by
 refine⟨λd c z T e=>?_,h.off,h.inj,?_⟩;obtain⟨h1,j,k,l⟩:=h.on d c z T e;exact⟨h1,ht.FI c (by rw[h1];exactλf=>by cases f) j,k,by rw[p d (by rw[e];exactλf=>by cases f)];exact l⟩;exact⟨λc o q=>ht.I c o (h.to.I c o q),rfl,h.to.B,h.to.n0,h.to.N,h.to.env,h.to.n,h.to.μ,λc b m=>ht.FI c (by rw[h.sub b];exact b) (h.to.FI c b m)⟩
theorem Out.alloc{g0 g:Gh}{st:St}{a i:Act}{w:ab}{cf:Nat->Option (Nat×Array an×ah)}(h:Out g0 g a cf)(hs:Sim g st a w)(z:Array an)(T:ah){d:Nat}(hd:cf d=none)
 (v:i.tmps.getD d undef=.pointer (some ⟨w.heap.size,0,none⟩)) (t:∀d',d'≠d->i.tmps.getD d' undef=a.tmps.getD d' undef):
 Out g0 {g with F:=λc=>if c=w.heap.size then some (.cells z T (0,0))else g.F c} i (λx=>if x=d then some (w.heap.size,z,T)else cf x):=by
 obtain⟨l,s,_⟩:=hs.allocF z T;have h0:g0.F w.heap.size=none:=by
  cases b:g0.F w.heap.size with
  |none=>rfl
  |some o=>have:=h.sub (c:=w.heap.size) (by rw[b];exactλu=>by cases u);rw[l,b]at this;cases this
 have f:∀x c z T,cf x=some (c,z,T)->c≠w.heap.size:=λx c z T e b=>by
  have:=(h.on x c z T e).1;rw[b,l]at this;cases this
 refine⟨λx c z' T' e=>?_,λc b=>?_,λx m c C y D A e e'=>?_,?_⟩
 skip
 split at e;rename_i hx;subst hx;cases e;exact⟨Vt rfl,s,h0,v⟩;rename_i hx;obtain⟨h1,p,q,r⟩:=h.on x c z' T' e;exact⟨(Vs (f x c z' T' e)).trans h1,p,q,by rw[t x hx];exact r⟩;have j:c≠w.heap.size:=λe=>b d z T (by rw[Vt rfl,e]);show(if c=w.heap.size then _ else _)=_;rw[Vs j];refine h.off c λx z' T' e=>?_;by_cases hx:x=d;rw[hx,hd]at e;cases e;exact b x z' T' (by rw[Vs hx];exact e)
 skip
 split at e;rename_i hx;cases e;split at e';rename_i k;rw[hx,k];exact absurd rfl (f m _ _ _ e');split at e';cases e';exact absurd rfl (f x _ _ _ e);exact h.inj x m c _ _ _ _ e e';exact⟨h.to.I,rfl,h.to.B,h.to.n0,h.to.N,h.to.env,h.to.n,h.to.μ,h.to.FI⟩
theorem DJ{P:aa}{K:St->Prop}{g0:Gh}{a:Act}{w:ab}:∀(l:List ai)(st:St)(g:Gh)(cf:Nat->Option (Nat×Array an×ah)),Out g0 g a cf->Sim g st a w->
 (∀o∈l,∀d t,lB o=some (d,t)->d<g.N∧∃c z,cf d=some (c,z,t)∧zeroOf P t z)->(∀d,cf d≠none->∃o∈l,∃t,lB o=some (d,t))->((l.filterMap lB).map (·.1)).Nodup->Id P K l st->
 ∃g' st',K st'∧g0.to g'∧Sim g' st' a w
 |[],st,g,cf,ho,hs,_,C,_,hk=>by
  have hn:∀d,cf d=none:=λd=>by
   cases h:cf d with
   |none=>rfl
   |some x=>obtain⟨o,h1,_⟩:=C d (by rw[h];exactλhh=>by cases hh);cases h1
  have Z:g.F=g0.F:=funext λc=>ho.off c λd z T e=>by rw[hn d]at e;cases e
  have ht:=ho.to;rw[←Z]at ht;exact⟨g,st,hk,ht,hs⟩
 |o::r,st,g,cf,ho,hs,u,C,i,hk=>by
  unfold Id at hk;split at hk;rename_i d t f;split at hk;rename_i zs hz;obtain⟨A,hk⟩:=hk;obtain⟨H,c,z,s,Q⟩:=u o (VN) d t f;obtain⟨h1,W,X,Y⟩:=ho.on d c z t s;have R:=AT Q hz;subst R;have m:=fi g z.toList;have M:=hs.takeF (z.toList.map PV.lit) z t c h1 W m (ep A m) H Y;simp only[aaq,f,VP,Xj]at i;have y:∀x c' z' T',x≠d->cf x=some (c',z',T')->c'≠c:=λx c' z' T' hx e G=>hx (ho.inj x d c z' T' z t (by rw[←G];exact e) s);refine DJ r _ _ (λx=>if x=d then none else cf x) ⟨λx c' z' T' e=>?_,λc' E=>?_,λx x' c' z1 T1 z2 T2 e e'=>?_,?_⟩ M (λp j d' v k=>?_) (λx hx=>?_) i.2 hk
  skip
  split at e;cases e;rename_i hx;obtain⟨S,U,V,k4⟩:=ho.on x c' z' T' e;exact⟨(Vs (y x c' z' T' hx e)).trans S,U,V,k4⟩;show(if c'=c then none else g.F c')=g0.F c';split;rename_i e;rw[e,X];rename_i L;refine ho.off c' λx z' T' e=>?_;by_cases hx:x=d;rw[hx,s]at e;cases e;exact L rfl;exact E x z' T' (by rw[Vs hx];exact e)
  skip
  split at e;cases e;split at e';cases e';exact ho.inj x x' c' _ _ _ _ e e';have J:g0.n0<=g.n:=ho.to.n;refine⟨ho.to.I,rfl,ho.to.B,ho.to.n0,ho.to.N,ho.to.env,Wb J (Xt _),λb hb=>?_,ho.to.FI⟩;show(if b=g.n then c else g.μ b)=g0.μ b;rw[Vs (by omega)];exact ho.to.μ b hb;obtain⟨S,c',z',U,V⟩:=u p (VG _ j) d' v k;refine⟨S,c',z',?_,V⟩;have:d'≠d:=λe=>i.1 (by rw[←e];exact VB.2 ⟨(d',v),List.mem_filterMap.2 ⟨p,j,k⟩,rfl⟩);simp only[Vs this];exact U
  skip
  split at hx;exact absurd rfl hx;rename_i O;obtain⟨p,D,v,q⟩:=C x hx;rcases VU.1 D with e|e;subst e;rw[f]at q;cases q;exact absurd rfl O;exact⟨p,e,v,q⟩;exact hk.elim;rename_i f;refine DJ r st g cf ho hs (λp j=>u p (VG _ j)) (λd hd=>?_) (by simpa[aaq,f]using i) hk;obtain⟨p,D,v,q⟩:=C d hd;rcases VU.1 D with e|e;subst e;rw[f]at q;cases q;exact⟨p,e,v,q⟩
theorem uK{P:aa}{K:St->Prop}:∀(l:List ai)(st:St),Id P K l st->∀o∈l,∀d t,lB o=some (d,t)->∃zs,dL P t=some zs
 |[],_,_,o,ho,_,_,_=>by cases ho
 |f::r,st,hk,o,ho,d,t,b=>by
  unfold Id at hk;split at hk;rename_i c t1 a;split at hk;rename_i zs hz;rcases VU.1 ho with e|e;subst e;rw[b]at a;cases a;exact⟨_,hz⟩;exact uK r _ hk.2 o e d t b;exact hk.elim;rename_i a;rcases VU.1 ho with e|e;subst e;rw[b]at a;cases a;exact uK r _ hk o e d t b
theorem Ie{P:aa}{o:ai}{d:Nat}{t:ah}{zs:aD}(ho:lB o=some (d,t))(hz:dL P t=some zs):o.dst=some d∧∃z,zeroOf P t z∧∀(a:Act)(w:ab),(execOp a.eval o).run P w=.ok (.value (.pointer (some ⟨w.heap.size,0,none⟩))) (w.alloc (.cells z t)):=by
 unfold lB at ho;split at ho;rename_i e d' b hd;cases ho;refine⟨hd,?_⟩;unfold dL at hz;split at hz;rename_i i hi;simp only[VW]at hz;obtain⟨v,c,_⟩:=hz;refine⟨v.cells,⟨i,v,hi,c,rfl⟩,λa w=>?_⟩;simp only[execOp,b,Instr.alloc,zeroValue,typeInfo,bD,run_program,bK,hi,bN,c];simp[newVar,newRow];cases hz;cases ho
def nv:bJ->Nat->Bool
 |[],_=>false
 |d::a,s=>if d=s then true else nv a s
theorem qY:∀(a:bJ)(s:Nat),nv a s=true↔s∈a
 |[],s=>by simp[nv]
 |d::a,s=>by
  simp only[nv,VU];by_cases h:d=s;subst h;simp;rw[Vs h,qY a s];exact⟨.inr,λh'=>h'.resolve_left (λe=>h e.symm)⟩
def iZ:ae->bJ
 |.tmp t=>[t]
 |_=>[]
def tmpsOf:List ae->bJ
 |[]=>[]
 |x::xs=>iZ x++tmpsOf xs
def zg:Option ae->bJ
 |some x=>iZ x
 |none=>[]
def uL:Op->bJ
 |.move x|.assign x|.load _ x|.nilCheck x|.unOp _ _ x|.convert _ _ x|.fieldAddr _ x _|.field _ x _|.extract x _=>iZ x
 |.pick c a b=>iZ c++(iZ a++iZ b)
 |.build _ ps=>tmpsOf (ps.toList.map (·.2))
 |.buildSlice _ _ ps=>tmpsOf (ps.toList.map (·.2))
 |.binOp _ _ a v _|.indexAddr _ a v|.index _ a v|.lookup _ a v _=>iZ a++iZ v
 |.slice _ x l h _=>iZ x++(zg l++zg h)
 |.call c=>match c.callee with
  |.value x=>iZ x++tmpsOf c.args.toList
  |_=>tmpsOf c.args.toList
 |_=>[]
def looks(ops:List ai)(o:ai):bJ:=
 match o.guard with
 |none=>uL o.op
 |some (j,_)=>match jX ops j with
  |some d=>d::uL o.op
  |none=>uL o.op
def DL(all:List ai)(d:Nat):Bool:=all.all λo=>!(uL o.op).contains d
def Km(d:Nat)(o:ai):Bool:=
 match o.op with
 |.buildSlice _ _ _=>true
 |.build _ _=>true
 |.call c=>match c.callee with
  |.value _=>true
  |.builtin .append=>match c.args.toList with
   |x::_=>!nv (iZ x) d
   |[]=>true
  |_=>true
 |.assign x=>!nv (iZ x) d
 |.store _ _ y=>!nv (iZ y) d
 |.box _ x=>!nv (iZ x) d
 |.mapUpdate _ _ _ x=>!nv (iZ x) d
 |.insert _ _ _ x=>!nv (iZ x) d
 |_=>true
def Kn(d:Nat):List ai->Bool
 |[]=>true
 |o::r=>Km d o&&Kn d r
def iT(all:List ai):List ai->Nat
 |[]=>0
 |o::r=>match o.op with
  |.assign _=>match o.dst with
   |some d=>if DL all d=true then iT all r+1 else 0
   |none=>0
  |.alloc _=>match o.dst,o.guard with
   |some d,none=>if DL all d=true then iT all r+1 else 0
   |_,_=>0
  |.buildSlice _ _ _=>match o.dst with
   |some d=>if Kn d all=true then iT all r+1 else 0
   |none=>0
  |.move _|.load _ _|.nilCheck _|.unOp _ _ _|.convert _ _ _|.fieldAddr _ _ _|.field _ _ _|.extract _ _|.pick _ _ _|.build _ _|.binOp _ _ _ _ _|.indexAddr _ _ _|.index _ _ _|.lookup _ _ _ _|.slice _ _ _ _ _=>iT all r+1
  |.call c=>match c.callee with
   |.value _=>iT all r+1
   |.builtin .len=>iT all r+1
   |.builtin .min=>iT all r+1
   |.builtin .max=>iT all r+1
   |_=>0
  |_=>0
def de(ops:List ai):Nat:=iT ops ops
def la(o:ai)(j:Nat):Bool:=o.after.toList.any λe=>Region.binds .any e&&e.on==j
def Gf(ops:List ai)(m:Nat):Bool:=
 decide (m<=ops.length)&&
 (List.range ops.length).all (λi=>match ops[i]?with|some o=>o.after.toList.all λe=>!Region.binds .any e||decide (e.on<i)|none=>false)&&
 (List.range m).all (λ i => match ops[i]? with
  |some o=>match o.dst with
   |some d=>(List.range i).all λj=>match(ops[j]?).bind (·.dst)with
    |some dj=>dj !=d&&(!(looks ops o).contains dj||la o j)
    |none=>false
   |none=>false
  |none=>false)&&
 (m==ops.length||(List.range m).all λi=>(List.range (m+1)).any λj=>decide (i<j)&&match ops[j]?with|some o=>la o i|none=>false)&&
 (List.range ops.length).all λk=>!decide (m<=k)||match ops[k+1]?with|some o=>la o k|none=>true
def PT:List (Nat×SV)->Nat->Option SV
 |[],_=>none
 |(j,v)::r,s=>if j=s then some v else PT r s
def fk:bJ->List (Nat×SV)->List (Nat×SV)->List (Nat×SV)
 |[],_,base=>base
 |s::L,acc,base=>match PT acc s with
  |some v=>(s,v)::fk L acc base
  |none=>fk L acc base
def AU(a:bJ):Pos->Bool
 |.slot s=>a.contains s
 |.cell _ _=>false
def kq(q:Pos->Bool):SV->SV
 |.own _ _ _=>.pv .bot
 |.omap _ _=>.pv .bot
 |.pv x=>.pv x
 |.opt c x=>dq q (.opt c x)
 |.al p=>dq q (.al p)
 |.loc p lo hi=>dq q (.loc p lo hi)
 |.sptr p i k=>dq q (.sptr p i k)
 |.agl xs=>dq q (.agl xs)
theorem uM(q:Pos->Bool)(x:SV):(kq q x).isOwn=false∧(kq q x=.pv .bot∨(kq q x=x∧x.avoids q)):=by
 cases x with
 |own _ _ _=>exact⟨rfl,.inl rfl⟩
 |omap _ _=>exact⟨rfl,.inl rfl⟩
 |pv x=>exact⟨rfl,.inr ⟨rfl,trivial⟩⟩
 |opt c y=>
  refine⟨?_,b6 q (.opt c y)⟩;cases h:(kq q (.opt c y)).isOwn with
  |false=>rfl
  |true=>simp only[kq]at h;have:=fh h;rw[this]at h;cases h
 |al p=>
  refine⟨?_,b6 q (.al p)⟩;cases h:(kq q (.al p)).isOwn with
  |false=>rfl
  |true=>simp only[kq]at h;have:=fh h;rw[this]at h;cases h
 |loc p lo hi=>
  refine⟨?_,b6 q (.loc p lo hi)⟩;cases h:(kq q (.loc p lo hi)).isOwn with
  |false=>rfl
  |true=>simp only[kq]at h;have:=fh h;rw[this]at h;cases h
 |sptr p lo hi=>
  refine⟨?_,b6 q (.sptr p lo hi)⟩;cases h:(kq q (.sptr p lo hi)).isOwn with
  |false=>rfl
  |true=>simp only[kq]at h;have:=fh h;rw[this]at h;cases h
 |agl xs=>
  refine⟨?_,b6 q (.agl xs)⟩;cases h:(kq q (.agl xs)).isOwn with
  |false=>rfl
  |true=>simp only[kq]at h;have:=fh h;rw[this]at h;cases h
def bots(a:bJ):List (Nat×SV)->List (Nat×SV)
 |[]=>[]
 |(s,v)::t=>if nv a s=true then bots a t else(s,v)::bots a t
def QG(P:aa)(ops:List ai)(st:St)(o:ai)(r:SV):Prop:=
 match o.guard with
 |none=>QE P st o.op r
 |some (j,a)=>match jX ops j with
  |some d=>match xv st d a with
   |some b=>∃c,r=.opt b c∧(b->QE P st o.op c)
   |none=>False
  |none=>False
def HG(P:aa)(ops:List ai)(st:St)(o:ai)(r:SV):Prop:=
 match lB o with
 |some _=>o.guard=none∧r=.pv .bot
 |none=>QG P ops st o r
def bW(P:aa)(f:az)(a:aD)(d:Nat)(acc:List (Nat×SV))(k:List (Nat×SV)->Prop):Prop:=
 ∃r,aw P f a (λb=>b=r)∧r.nwS∧k ((d,.pv (uI r))::acc)
def eh(P:aa)(a:Prop)(f:az)(b:aD)(q:Pos->Bool)(d:Nat)(acc:List (Nat×SV))(k:List (Nat×SV)->Prop):Prop:=
 ∃r,(a->aw P f b (λc=>c=r))∧r.nwS∧k ((d,kq q (.opt a (.pv (uI r))))::acc)
theorem bW.intro{P:aa}{f:az}{a:aD}{d:Nat}{acc:List (Nat×SV)}{k:List (Nat×SV)->Prop}{r:SV}(h:aw P f a (λc=>c=r))(b:k ((d,.pv (uI r))::acc))(hn:r.nwS:=by simp):bW P f a d acc k:=⟨r,h,hn,b⟩
theorem eh.intro{P:aa}{a:Prop}{f:az}{b:aD}{q:Pos->Bool}{d:Nat}{acc:List (Nat×SV)}{k:List (Nat×SV)->Prop}{r:SV}(h:a->aw P f b (λe=>e=r))(c:k ((d,kq q (.opt a (.pv (uI r))))::acc))(hn:r.nwS:=by simp):eh P a f b q d acc k:=⟨r,h,hn,c⟩
def zh(P:aa)(st:St)(x:ae)(args:Array ae)(d:Nat)(acc:List (Nat×SV))(k:List (Nat×SV)->Prop):Prop:=
 match b8 st x with
 |some (f,p,q)=>gc st x∧lK st args.toList∧bW P f (uc st args p q) d acc k
 |none=>False
def Gg(P:aa)(st:St)(a:Prop)(x:ae)(args:Array ae)(b:Pos->Bool)(d:Nat)(acc:List (Nat×SV))(k:List (Nat×SV)->Prop):Prop:=
 match b8 st x with
 |some (f,p,q)=>(a->gc st x∧lK st args.toList)∧eh P a f (uc st args p q) b d acc k
 |none=>False
theorem If{P:aa}{st:St}{c:Call}{x:ae}{d:Nat}{acc:List (Nat×SV)}{k:List (Nat×SV)->Prop}(q:Pos->Bool)(j:c.callee=.value x)(h:zh P st x c.args d acc k):∃r,QE P st (.call c) r∧k ((d,kq q r)::acc):=by
 unfold zh at h;split at h;rename_i f p q' a;obtain⟨h0,h1,r,e,g,i⟩:=h;refine⟨.pv (uI r),?_,i⟩;simp only[QE,j,a];exact⟨h0,h1,_,e,λl b=>by subst b;exact⟨g,rfl⟩⟩;exact h.elim
theorem Ko{P:aa}{st:St}{a:Prop}{c:Call}{x:ae}{q:Pos->Bool}{d:Nat}{acc:List (Nat×SV)}{k:List (Nat×SV)->Prop}(m:c.callee=.value x)(h:Gg P st a x c.args q d acc k):∃r,(a->QE P st (.call c) r)∧k ((d,kq q (.opt a r))::acc):=by
 unfold Gg at h;split at h;rename_i f p q' b;obtain⟨h1,r,i,j,l⟩:=h;refine⟨.pv (uI r),λe=>?_,l⟩;simp only[QE,m,b];exact⟨(h1 e).1,(h1 e).2,_,i e,λn g=>by subst g;exact⟨j,rfl⟩⟩;exact h.elim
def TZ(P:aa)(ops:List ai)(q:Pos->Bool)(base:St)(o:ai)(k:List (Nat×SV)->Prop)(acc:List (Nat×SV)):Prop:=
  match o.dst with
    |none=>False
    |some d=>match lB o with
     |some _=>o.guard=none∧k ((d,.pv .bot)::acc)
     |none=>match o.guard with
      |none=>match o.op with
        |.call c=>match c.callee with
          |.value x=>zh P ⟨fk (looks ops o) acc base.t,base.h⟩ x c.args d acc k
          |_=>(sr P ⟨fk (looks ops o) acc base.t,base.h⟩ (.call c)).2∧k ((d,kq q (sr P ⟨fk (looks ops o) acc base.t,base.h⟩ (.call c)).1)::acc)
        |op=>(sr P ⟨fk (looks ops o) acc base.t,base.h⟩ op).2∧k ((d,kq q (sr P ⟨fk (looks ops o) acc base.t,base.h⟩ op).1)::acc)
      |some (j,b)=>match jX ops j with
        |some dj=>match xv ⟨fk (looks ops o) acc base.t,base.h⟩ dj b with
          |some a=>match o.op with
            |.call c=>match c.callee with
              |.value x=>Gg P ⟨fk (looks ops o) acc base.t,base.h⟩ a x c.args q d acc k
              |_=>(a->(sr P ⟨fk (looks ops o) acc base.t,base.h⟩ (.call c)).2)∧k ((d,kq q (.opt a (sr P ⟨fk (looks ops o) acc base.t,base.h⟩ (.call c)).1))::acc)
            |op=>(a->(sr P ⟨fk (looks ops o) acc base.t,base.h⟩ op).2)∧k ((d,kq q (.opt a (sr P ⟨fk (looks ops o) acc base.t,base.h⟩ op).1))::acc)
          |none=>False
        |none=>False
def AQ(P:aa)(ops:List ai)(q:Pos->Bool)(base:St)(K:List (Nat×SV)->Prop):List ai->List (Nat×SV)->Prop
 |[],acc=>K acc
 |o::rest,acc=>TZ P ops q base o (AQ P ops q base K rest) acc
def dstsOf(l:List ai):bJ:=l.filterMap (·.dst)
def DM(P:aa)(ops:List ai)(K:St->Prop)(base:St)(acc:List (Nat×SV)):Prop:=
 Id P (lL P ops K (ops.drop (de ops))) (ops.take (de ops)) ⟨acc++base.t,base.h⟩
def AV(P:aa)(ops:List ai)(K:St->Prop)(st:St):Prop:=
 AQ P ops (AU (dstsOf (ops.take (de ops)))) ⟨bots (dstsOf (ops.take (de ops))) (aW (AU (dstsOf (ops.take (de ops)))) st.t),st.h⟩
  (DM P ops K ⟨bots (dstsOf (ops.take (de ops))) (aW (AU (dstsOf (ops.take (de ops)))) st.t),st.h⟩) (ops.take (de ops)) []
theorem Od{P:aa}{ops:List ai}{q:Pos->Bool}{base:St}{K:List (Nat×SV)->Prop}{o:ai}{rest:List ai}{acc:List (Nat×SV)}(h:AQ P ops q base K (o::rest) acc):
 ∃d r,o.dst=some d∧HG P ops ⟨fk (looks ops o) acc base.t,base.h⟩ o r∧AQ P ops q base K rest ((d,kq q r)::acc):=by
 unfold AQ TZ at h;split at h;exact h.elim;rename_i d hd;generalize m:(⟨fk (looks ops o) acc base.t,base.h⟩:St)=n at h⊢;split at h;rename_i e;exact⟨d,.pv .bot,hd,by simp only[HG,e];exact⟨h.1,trivial⟩,h.2⟩;rename_i e;simp only[HG,e];split at h;rename_i i;simp only[QG,i];split at h;rename_i c a;split at h;rename_i x hx;obtain⟨r,h1,f⟩:=If q hx h;exact⟨d,r,hd,by rw[a];exact h1,f⟩;rename_i hn;exact⟨d,_,hd,by rw[a];exact oO (λc' x b hx=>by cases b;exact hn x hx) h.1,h.2⟩;rename_i hn;exact⟨d,_,hd,oO (λc' x b _=>hn c' b) h.1,h.2⟩;rename_i j l i;split at h;rename_i dj k;split at h;rename_i p b;simp only[QG,i,k,b];split at h;rename_i c a;split at h;rename_i x hx;obtain⟨r,h1,f⟩:=Ko hx h;exact⟨d,_,hd,⟨r,rfl,by rw[a];exact h1⟩,f⟩;rename_i hn;exact⟨d,_,hd,⟨_,rfl,λg=>by rw[a];exact oO (λc' x b hx=>by cases b;exact hn x hx) (h.1 g)⟩,h.2⟩;rename_i hn;exact⟨d,_,hd,⟨_,rfl,λg=>oO (λc' x b _=>hn c' b) (h.1 g)⟩,h.2⟩;exact h.elim;exact h.elim
theorem Kp{P:aa}{ops:List ai}{q:Pos->Bool}{base:St}{K:List (Nat×SV)->Prop}:∀(l:List ai)(acc:List (Nat×SV)),AQ P ops q base K l acc->
 ∃E:List (Nat×SV),E.length=l.length∧K (E.reverse++acc)∧∀i o,l[i]?=some o->∃d r,o.dst=some d∧E[i]?=some (d,kq q r)∧HG P ops ⟨fk (looks ops o) ((E.take i).reverse++acc) base.t,base.h⟩ o r
 |[],acc,h=>⟨[],rfl,h,λi o ho=>by simp at ho⟩
 |o::rest,acc,h=>by
  obtain⟨d,r,hd,g,j⟩:=Od h;obtain⟨E,h1,e,f⟩:=Kp rest _ j;refine⟨(d,kq q r)::E,by simp[h1],by simpa using e,λi k ho=>?_⟩;cases i with
  |zero=>simp at ho;subst ho;exact⟨d,r,hd,rfl,by simpa using g⟩
  |succ i=>
   obtain⟨d',m,a,b,c⟩:=f i k (by simpa using ho);exact⟨d',m,a,by simpa using b,by simpa using c⟩
theorem R4{P:aa}{ops:Array ai}{st:St}(o:ai){r:SV}(h:QG P ops.toList st o r){g:Gh}{a:Act}{w:ab}(hs:Sim g st a w){K':Act->ab->Prop}{Q:Exit->Act->ab->Prop}
 (k:∀v J f,(∀c o,g.I c=some o->J c=some o)->(∀g3 e,g3.I=g.I->Sim g3 e a w->Sim {g3 with I:=J} e a f∧g3.to {g3 with I:=J})->aO {g with I:=J} f r v none->cL {g with I:=J} st a f r v->K' (a.put o.dst v) f):
 if Region.wanted o (yielded ops a.tmps)=true then o.wp P a w K' Q else K' (a.put o.dst undef) w:=by
 unfold QG at h;split at h;rename_i m;rw[Vt (by simp[Region.wanted,m])];exact Kj o h hs k;rename_i j s m;split at h;rename_i d n;split at h;rename_i t l;obtain⟨z,rfl,h⟩:=h;have q:=qc hs m n l;split;rename_i p;have b:=q.1 p;exact Kj o (h b) hs λv J f B A x u=>k v J f B A (aO.opt b x) (λ_=>u);rename_i p;have b:¬t:=λb=>p (q.2 b);exact k undef g.I w (λ_ _ h=>h) (λg3 e y i=>by rw[←y];exact⟨i,i.refl_to⟩) (aO.undef b z) (λl=>absurd l b);exact h.elim;exact h.elim
theorem AW{s:Nat}{v:SV}:∀(acc base:List (Nat×SV)),PT acc s=some v->look (acc++base) s=v
 |[],_,h=>by cases h
 |(j,x)::r,base,h=>by
  simp only[PT]at h;simp only[Wh,look];split at h;rename_i e;rw[Vt e];cases h;rfl;rename_i e;rw[Vs e];exact AW r base h
theorem AY{s:Nat}:∀(acc base:List (Nat×SV)),PT acc s=none->look (acc++base) s=look base s
 |[],_,_=>rfl
 |(j,x)::r,base,h=>by
  simp only[PT]at h;simp only[Wh,look];split at h;cases h;rename_i e;rw[Vs e];exact AY r base h
theorem qd:∀(L:bJ)(acc base:List (Nat×SV))(s:Nat),look (fk L acc base) s=if L.contains s=true then look (acc++base) s else look base s
 |[],acc,base,s=>by simp[fk]
 |j::L,acc,base,s=>by
  have f:=qd L acc base s;have b:(j::L).contains s=true↔s=j∨L.contains s=true:=by simp
  simp only[fk];cases d:PT acc j with
  |some v=>
   simp only[look];by_cases h:j=s;subst h;rw[Vt rfl,Vt (b.2 (.inl rfl)),AW acc base d];rw[Vs h,f];by_cases a:L.contains s=true;rw[Vt a,Vt (b.2 (.inr a))];rw[Vs a,Vs (λc=>(b.1 c).elim (λe=>h e.symm) a)]
  |none=>
   simp only[];rw[f];by_cases h:j=s;subst h;rw[Vt (b.2 (.inl rfl)),AY acc base d,ite_self];by_cases a:L.contains s=true;rw[Vt a,Vt (b.2 (.inr a))];rw[Vs a,Vs (λc=>(b.1 c).elim (λe=>h e.symm) a)]
theorem oP(a:bJ):∀(t:List (Nat×SV))(s:Nat),look (bots a t) s=if s∈a then .pv .bot else look t s
 |[],s=>by simp[bots,look]
 |(j,v)::t,s=>by
  have b:=oP a t s;simp only[bots];split;rename_i h;rw[b];simp only[look];by_cases e:j=s;subst e;rw[Vt ((qY a j).1 h),Vt ((qY a j).1 h)];rw[Vs e];rename_i h;simp only[look];by_cases e:j=s;subst e;rw[Vt rfl,Vs (λc=>h ((qY a j).2 c)),Vt rfl];rw[Vs e,Vs e,b]
structure DrawOk (l:List ai) (m:Nat):Prop where
  le:m<=l.length
  back:∀(i:Nat)(o:ai),l[i]?=some o->∀e∈o.after,Region.binds .any e=true->e.on<i
  dst:∀(i:Nat)(o:ai),i<m->l[i]?=some o->∃d,o.dst=some d∧∀(j:Nat)(oj:ai),j<i->l[j]?=some oj->∃dj,oj.dst=some dj∧dj≠d∧(dj∈looks l o->la o j=true)
  up:m<l.length->∀i,i<m->∃j o,i<j∧j<=m∧l[j]?=some o∧la o i=true
  chain:∀(k:Nat)(o:ai),m<=k->l[k+1]?=some o->la o k=true
theorem Kq{l:List ai}{m:Nat}(h:Gf l m=true):DrawOk l m:=by
 simp only[Gf,VC,Wa,WN,WI,YC,Wp,XS,Zv]at h;obtain⟨⟨⟨⟨h1,s⟩,t⟩,f⟩,u⟩:=h;have c:∀{i:Nat}{o:ai},l[i]?=some o->i<l.length:=λw=>(Vp.1 w).1;refine⟨h1,λi o ho e v q=>?_,λi o hi ho=>?_,λr i hi=>?_,λk o hk ho=>?_⟩;have:=s i (c ho);rw[ho]at this;simp only[Wa,WI,Wp,YC]at this;rcases this e (by simpa using v)with a|a;rw[a]at q;cases q;exact a;have:=t i hi;rw[ho]at this;simp only at this;split at this;rename_i d hd;refine⟨d,hd,λj oj hj p=>?_⟩;simp only[Wa,WN]at this;have a:=this j hj;rw[p]at a;simp only[Yr]at a;split at a;rename_i dj g;simp only[VC,bne_iff_ne,WI,Wp,List.contains_eq_mem,WX]at a;exact⟨dj,g,a.1,λr=>a.2.resolve_left (λhn=>hn r)⟩;cases a;cases this;rcases f with f|f;omega;obtain⟨j,x,n,b⟩:=f i hi;split at b;rename_i o ho;exact⟨j,o,n,by omega,ho,b⟩;cases b;rcases u k (by have:=c ho;omega)with a|a;have y:=of_decide_eq_false a;omega;rw[ho]at a;exact a
theorem lc{o:ai}{j:Nat}:la o j=true↔∃e∈o.after,Region.binds .any e=true∧e.on=j:=by
 simp only[la,XS,VC,Zv];constructor;rintro⟨e,h1,a⟩;exact⟨e,by simpa using h1,a⟩;rintro⟨e,h1,a⟩;exact⟨e,by simpa using h1,a⟩
def nx:dC->Nat
 |[]=>0
 |true::r=>nx r
 |false::r=>nx r+1
theorem AZ:∀(l:dC)(i:Nat),l[i]?=some false->nx (l.set i true)+1=nx l
 |[],i,h=>by simp at h
 |b::r,0,h=>by simp at h;subst h;rfl
 |b::r,i+1,h=>by
  have:=AZ r i (by simpa using h);cases b<;>simp[nx,this]
theorem A0:∀(l:dC),0<nx l->∃i:Nat,l[i]?=some false∧∀j<i,l[j]?=some true
 |[],h=>by simp[nx]at h
 |false::r,_=>⟨0,rfl,λj hj=>by omega⟩
 |true::r,h=>by
  obtain⟨i,h1,a⟩:=A0 r (by simpa[nx]using h);refine⟨i+1,by simpa using h1,λj hj=>?_⟩;cases j with
  |zero=>rfl
  |succ j=>simpa using a j (by omega)
theorem xx:∀(l:dC),nx l=0->∀i:Nat,i<l.length->l[i]?=some true
 |[],_,i,hi=>by simp at hi
 |false::r,h,_,_=>by simp[nx]at h
 |true::r,h,0,_=>rfl
 |true::r,h,i+1,hi=>by simpa using xx r (by simpa[nx]using h) i (by simpa using hi)
theorem nS:∀n,nx (List.replicate n false)=n
 |0=>rfl
 |n+1=>by simp[Yv,nx,nS n]
theorem gA{s:Nat}{v:SV}:∀(l t:List (Nat×SV)),(l.map (·.1)).Nodup->(s,v)∈l->look (l++t) s=v
 |[],_,_,h=>by simp at h
 |(j,u)::r,t,hn,h=>by
  simp only[VP,Xj]at hn;simp only[Wh,look];rcases VU.1 h with e|e;cases e;simp;have:j≠s:=λa=>hn.1 (by subst a;exact VB.2 ⟨_,e,rfl⟩);rw[Vs this,gA r t hn.2 e]
theorem cO{s:Nat}:∀(l t:List (Nat×SV)),s∉l.map (·.1)->look (l++t) s=look t s
 |[],_,_=>rfl
 |(j,u)::r,t,h=>by
  simp only[VP,VU,aac]at h;simp only[Wh,look];rw[Vs (λe=>h.1 e.symm),cO r t h.2]
theorem qf:∀(l:dC)(k:Nat),k<=l.length->(∀j:Nat,j<k->l[j]?=some true)->(∀j:Nat,k<=j->j<l.length->l[j]?=some false)->k+nx l=l.length
 |[],k,hk,_,_=>by simp at hk;subst hk;rfl
 |b::r,0,_,_,a=>by
  have:=a 0 (Vu _) (by simp);simp at this;subst this;have:=qf r 0 (VH _) (λj hj=>by omega) (λj _ hj=>by simpa using a (j+1) (by omega) (by simpa using hj));simp[nx];omega
 |b::r,k+1,hk,h1,a=>by
  have:=h1 0 (by omega);simp at this;subst this;have:=qf r k (by simpa using hk) (λj hj=>by simpa using h1 (j+1) (by omega)) (λj c hj=>by simpa using a (j+1) (by omega) (by simpa using hj));simp[nx];omega
structure Inv (E:List (Nat×SV)) (base:List (Nat×SV)) (S:Nat->Bool) (t:List (Nat×SV)):Prop where
  on:∀(i:Nat)(d:Nat)(v:SV),E[i]?=some (d,v)->look t d=if S i=true then v else .pv .bot
  off:∀s,s∉E.map (·.1)->look t s=look base s
theorem A1{P:aa}{ops:Array ai}{m:Nat}(B:DrawOk ops.toList m){Q:Exit->Act->ab->Prop}{K:St->Prop}:∀(rest:List ai)(k f:Nat)(b:Array Bool)(st:St)(g:Gh)(a:Act)(w:ab),
 rest=ops.toList.drop k->m<=k->k+f=ops.size->b.size=ops.size->(∀j,j<k->b[j]?=some true)->(∀j,k<=j->j<ops.size->b[j]?=some false)->
 lL P ops.toList K rest st->Sim g st a w->cV g.N ops.toList=true->(∀st' g' y w',K st'->g.to g'->Sim g' st' y w'->Q .normal y w')->wpAny P .any ops Q f b a w
 |rest,k,0,b,st,g,a,w,x,U,S,n,h1,q,r,hs,hd,z=>by
  have u:rest=[]:=by rw[x];apply VS;simp;omega
  subst u;refine⟨?_,z st g a w r hs.refl_to hs⟩;rw[YO];intro i hi;obtain⟨A,o,ho,_⟩:=mem_ready.1 hi;have L:=(VD.1 ho).1;have:=h1 i (by omega);simp[this]at A
 |[],k,f+1,b,st,g,a,w,x,U,S,n,h1,q,r,hs,hd,z=>by
  have:=List.drop_eq_nil_iff.1 x.symm;simp at this;omega
 |o::rest,k,f+1,b,st,g,a,w,x,U,S,n,h1,q,r,hs,hd,z=>by
  have hk:k<ops.size:=by omega
  have c:=V3 (l:=ops.toList) (i:=k) (by simpa using hk);rw[←x]at c;simp only[XR]at c;have p:ops[k]?=some o:=by rw[c.1];simp[hk]
  have t:o∈ops.toList:=by rw[c.1];exact Vx _
  have E:cX g.N o.dst:=by
   have:=Wa.1 hd o t;unfold cX;split;rename_i d D;rw[D]at this;simpa using this;trivial
  have h:k∈Region.ready .any ops b:=by
   rw[mem_ready];refine⟨by simp[q k (Vu _) hk],o,p,λe F C=>?_⟩;have:=B.back k o (by simpa using p) e F C;simp[h1 _ this]
  refine⟨λhn=>(by rw[hn]at h;cases h),λi hi=>?_⟩;have H:i=k:=by
   obtain⟨A,Y,v,s⟩:=mem_ready.1 hi;have L:=(VD.1 v).1;have G:k<=i:=by
    apply W5;intro T;simp[h1 i T]at A
   apply aad _ G;apply W5;intro T;obtain⟨e,F,C,M⟩:=lc.1 (B.chain (i -1) Y (by omega) (by rw[Nat.sub_add_cancel (by omega)];simpa using v));have:=s e F C;rw[M,VJ,q (i -1) (by omega) (by omega)]at this;cases this
  subst H;unfold wpOp;rw[p];simp only[lL]at r;have:=jZ (ops:=ops) o r hs E (Q:=Q) (K':=wpAny P .any ops Q f (b.setIfInBounds i true))
   (λ st' g' y w' J V s' => A1 B rest (i + 1) f _ st' g' y w' c.2 (by omega) (by omega) (by simp [n])
    (λ j hj => by
     rw[Wy];split;rename_i e;rw[Vt (by rw[n];omega)];exact h1 j (by omega))
    (λ j hj I => by
     rw[Wy,Vs (by omega)];exact q j (by omega) I)
    J s' (by rw[V.N];exact hd) (λR g2 W w2 X t2 Z=>z R g2 W w2 X (V.trans t2) Z))
  simp only;split;rename_i O;rw[Vt O]at this;exact .inl this;rename_i O;rw[Vs O]at this;exact this
theorem pH{α:Type}{l:List α}(h:l.Nodup):l.reverse.Nodup:=by
 unfold List.Nodup at*;rw[List.pairwise_reverse];exact h.imp (λa e=>a e.symm)
theorem td{α:Type}{l:List α}(h:l.Nodup){i j:Nat}{x:α}(hi:l[i]?=some x)(hj:l[j]?=some x):i=j:=by
 obtain⟨h1,c⟩:=Vp.1 hi;obtain⟨d,e⟩:=Vp.1 hj;unfold List.Nodup at h;rw[V5]at h;rcases Xd i j with b|heq|a;exact absurd (c.trans e.symm) (h i j h1 d b);exact heq;exact absurd (e.trans c.symm) (h j i d h1 a)
theorem Kr{P:aa}{ops:Array ai}{m:Nat}(hB:DrawOk ops.toList m){Q:Exit->Act->ab->Prop}{K:St->Prop}{base:St}{E:List (Nat×SV)}{q:Pos->Bool}
 (a0:E.length=m) (ay:(E.map (·.1)).Nodup) (hq:∀s,q (.slot s)=true↔s∈E.map (·.1)) (ag:∀s,s∈E.map (·.1)->look base.t s=.pv .bot)
 (hE:∀i o,i<m->ops[i]?=some o->∃d r,o.dst=some d∧E[i]?=some (d,kq q r)∧HG P ops.toList ⟨fk (looks ops.toList o) (E.take i).reverse base.t,base.h⟩ o r)
 (hA:Id P (lL P ops.toList K (ops.toList.drop m)) (ops.toList.take m) ⟨E.reverse++base.t,base.h⟩) {g0:Gh} (hQ:∀st' g' a' w',K st'->g0.to g'->Sim g' st' a' w'->Q .normal a' w'):
 ∀(l:Nat)(f:Array Bool)(t:List (Nat×SV))(cf:Nat->Option (Nat×Array an×ah))(g:Gh)(a:Act)(w:ab),Out g0 g a cf->(∀(i:Nat)(o:ai) d t,f[i]?=some true->ops[i]?=some o->lB o=some (d,t)->∃c z,cf d=some (c,z,t)∧zeroOf P t z)->(∀d,cf d≠none->∃(i:Nat)(o:ai),∃t,f[i]?=some true∧ops[i]?=some o∧lB o=some (d,t))->f.size=ops.size->nx f.toList=l->(∀i:Nat,f[i]?=some true->i<m)->
  (∀(i:Nat)(o:ai),f[i]?=some true->ops[i]?=some o->∀e∈o.after,Region.binds .any e=true->f[e.on]?=some true)->Inv E base.t (λi=>f.getD i false) t->Sim g ⟨t,base.h⟩ a w->
  cV g.N ops.toList=true->wpAny P .any ops Q l f a w:=by
 have bf:m<=ops.size:=by simpa using hB.le
 have aL:∀{f:Array Bool}{t:List (Nat×SV)},(∀i,i<m->f[i]?=some true)->Inv E base.t (λi=>f.getD i false) t->∀s,look (E.reverse++base.t) s=look t s:=by
  intro f t hl Y s;have hn:((E.reverse).map (·.1)).Nodup:=by rw[Zf];exact pH ay
  by_cases hm:s∈E.map (·.1);obtain⟨p,hp,D⟩:=VB.1 hm;obtain⟨d,v⟩:=p;simp only at D;subst D;rw[gA _ _ hn (Zg.2 hp)];obtain⟨i,hi⟩:=Xh.1 hp;have:=Y.on i d v hi;rw[this];have W:i<m:=by rw[←a0];exact(Vp.1 hi).1
  simp[hl i W];rw[cO _ _ (by rw[Zf,Zg];exact hm)];exact(Y.off s hm).symm
 have R:∀{o:ai}{d:Nat}{t:ah},lB o=some (d,t)->o.dst=some d:=λh=>Kl h;have bh:(((ops.toList.take m).filterMap lB).map (·.1)).Nodup:=by
  unfold List.Nodup;rw[Xe,List.pairwise_filterMap,V5];intro i j hi hj ba p hp p' bi;have a8:i<m:=by simp at hi;omega
  have aP:j<m:=by simp at hj;omega
  obtain⟨d,h1,O⟩:=hB.dst j _ aP (by rw[←XY aP];exact Vq hj);obtain⟨d',M,h4,_⟩:=O i _ ba (by rw[←XY a8];exact Vq hi);rw[R bi]at h1;cases h1;rw[R hp]at M;cases M;exact h4
 have aA:∀{f:Array Bool}{t:List (Nat×SV)}{cf:Nat->Option (Nat×Array an×ah)}{g:Gh}{a:Act}{w:ab},Out g0 g a cf->(∀(i:Nat)(o:ai) d t,f[i]?=some true->ops[i]?=some o->lB o=some (d,t)->∃c z,cf d=some (c,z,t)∧zeroOf P t z)->(∀d,cf d≠none->∃(i:Nat)(o:ai),∃t,f[i]?=some true∧ops[i]?=some o∧lB o=some (d,t))->
  (∀i,i<m->f[i]?=some true)->(∀i:Nat,f[i]?=some true->i<m)->Inv E base.t (λi=>f.getD i false) t->Sim g ⟨t,base.h⟩ a w->cV g.N ops.toList=true->∃g' st',lL P ops.toList K (ops.toList.drop m) st'∧g0.to g'∧Sim g' st' a w:=by
  intro f t cf g a w A u y hl G Y hs hd;refine DJ (ops.toList.take m) ⟨E.reverse++base.t,base.h⟩ g cf A (hs.same rfl (aL hl Y)) (λo ho d t F=>?_) (λd Z=>?_) bh hA;obtain⟨i,hi⟩:=Xh.1 ho;have V:i<m:=by have:=(Vp.1 hi).1;simp at this;omega
  rw[XY V]at hi;refine⟨?_,u i o d t (hl i V) (by simpa using hi) F⟩;have:=Wa.1 hd o (WQ hi);rw[R F]at this;simpa using this;obtain⟨i,o,t,h1,O,M⟩:=y d Z;refine⟨o,?_,t,M⟩;have:=G i h1;exact WQ (i:=i) (by rw[XY this];simpa using O)
 intro l
 induction l with
 |zero=>
  intro f t cf g a w A u y H ak G aE Y hs hd;have hl:∀i,i<ops.size->f[i]?=some true:=λi hi=>by
   have:=xx _ ak i (by simpa[H]using hi);simpa using this
  have bg:m=ops.size:=by
   apply aad bf;apply W5;intro W;have:=G m (hl m W);omega
  obtain⟨g',st',hk,ht,X⟩:=aA A u y (λi hi=>hl i (by omega)) G Y hs hd;rw[bg,show ops.toList.drop ops.size=[]from by apply VS;simp]at hk;refine⟨?_,hQ _ g' a w hk ht X⟩;rw[YO];intro i hi;obtain⟨M,o,ho,_⟩:=mem_ready.1 hi;have W:=(VD.1 ho).1;simp[hl i W]at M
 |succ l ih=>
  intro f t cf g a w A u y H ak G aE Y hs hd;refine⟨λhn=>?_,λi hi=>?_⟩;exfalso;obtain⟨i,aH,a9⟩:=A0 f.toList (by omega);have ad:i<ops.size:=by rw[←H];simpa using(Vp.1 aH).1
  have:i∈Region.ready .any ops f:=by
   rw[mem_ready];refine⟨by rw[Vw]at aH;simp[aH],ops[i],by simp[ad],λe D U=>?_⟩;have L:=hB.back i ops[i] (by simp[ad]) e D U;have h6:=a9 _ L;rw[Vw]at h6;simp[h6]
  rw[hn]at this;cases this;obtain⟨M,o,ho,aF⟩:=mem_ready.1 hi;have ad:=(VD.1 ho).1;have aN:f[i]?=some false:=by
   have:i<f.size:=by rw[H];exact ad
   simp only[VJ,VK this,V7]at M;rw[VK this,M]
  have B:∀e∈o.after,Region.binds .any e=true->f[e.on]?=some true:=λe D U=>by
   have:=aF e D U;rw[VJ]at this;cases L:f[e.on]?with
   |none=>rw[L]at this;cases this
   |some b=>rw[L]at this;simp at this;rw[this]
  have aC:nx (f.setIfInBounds i true).toList=l:=by
   have:=AZ f.toList i (by simpa using aN);rw[Y9];omega
  have n:∀j,(f.setIfInBounds i true)[j]?=if i=j then some true else f[j]?:=λj=>by
   rw[Wy];split;rename_i e;rw[Vt (by rw[H];exact ad)];rfl
  by_cases V:i<m;obtain⟨d,r,S,ax,az⟩:=hE i o V ho;have a5:d∈E.map (·.1):=VB.2 ⟨_,WQ ax,rfl⟩;obtain⟨d',Z,aK⟩:=hB.dst i o V (by simpa using ho);rw[S]at Z;cases Z;have hR:∀s,look (fk (looks ops.toList o) (E.take i).reverse base.t) s=look t s∨look (fk (looks ops.toList o) (E.take i).reverse base.t) s=.pv .bot:=by
   intro s;rw[qd];by_cases hm:s∈E.map (·.1);split;rename_i hL;have hn:(((E.take i).reverse).map (·.1)).Nodup:=by
    rw[Zf];exact pH (ay.sublist ((XZ i E).map _))
   by_cases aU:s∈(E.take i).reverse.map (·.1);obtain⟨p,hp,D⟩:=VB.1 aU;obtain⟨s',v⟩:=p;simp only at D;subst D;rw[gA _ _ hn hp];rw[Zg]at hp;obtain⟨j,hj⟩:=Xh.1 hp;rw[Wg]at hj;split at hj;rename_i ao;obtain⟨oj,ae⟩:∃oj,ops[j]?=some oj:=⟨ops[j]'(by omega),by simp[show j<ops.size by omega]⟩;obtain⟨dj,a4,_,be⟩:=aK j oj ao (by simpa using ae);obtain⟨bq,rj,e1,e2,_⟩:=hE j oj (by omega) ae;rw[a4]at e1;cases e1;rw[hj]at e2;cases e2;have aT:=be (by simpa using hL);obtain⟨e,D,U,u⟩:=lc.1 aT;have aS:=B e D U;rw[u]at aS;left;rw[Y.on j _ _ hj];simp[aS];cases hj;right;rw[cO _ _ aU];exact ag s hm;right;exact ag s hm;left;rw[Y.off s hm];split;apply cO;intro hc;apply hm;rw[Zf,Zg]at hc;obtain⟨p,hp,D⟩:=VB.1 hc;exact VB.2 ⟨p,Wn hp,D⟩;rfl
  have bj:=hs.weak (st':=⟨fk (looks ops.toList o) (E.take i).reverse base.t,base.h⟩) rfl hR;have aG:d<g.N:=by
   have:=Wa.1 hd o (by rw[←Array.mem_def];exact Array.mem_of_getElem? ho);rw[S]at this;simpa using this
  have aq:∀(g':Gh)(a':Act)(w':ab)(af:Nat->Option (Nat×Array an×ah)),Sim g' ⟨(d,kq q r)::t,base.h⟩ a' w'->Out g0 g' a' af->g'.N=g.N->
   (∀(i2:Nat)(o:ai) d t,(f.setIfInBounds i true)[i2]?=some true->ops[i2]?=some o->lB o=some (d,t)->∃c z,af d=some (c,z,t)∧zeroOf P t z)->
   (∀d,af d≠none->∃(i2:Nat)(o:ai),∃t,(f.setIfInBounds i true)[i2]?=some true∧ops[i2]?=some o∧lB o=some (d,t))->wpAny P .any ops Q l (f.setIfInBounds i true) a' w':=by
   intro g' a' w' af av aJ a1 aX aD;refine ih (f.setIfInBounds i true) ((d,kq q r)::t) af g' a' w' aJ aX aD (by simp[H]) aC (λj hj=>?_) (λj oj hj ae e D U=>?_) ?_ av (by rw[a1];exact hd);rw[n]at hj;split at hj;rename_i e;omega;exact G j hj;rw[n]at hj⊢;split at hj;rename_i e1;subst e1;rw[ho]at ae;cases ae;split;rfl;exact B e D U;split;rfl;exact aE j oj hj ae e D U;refine⟨λj dj vj hj=>?_,λs aZ=>?_⟩;simp only[look];by_cases ao:i=j;subst ao;rw[ax]at hj;cases hj;simp[n];have aI:d≠dj:=by
    intro e1;subst e1;exact ao (td ay (x:=d) (by rw[VO,ax];rfl) (by rw[VO,hj];rfl))
   rw[Vs aI,Y.on j dj vj hj];simp only[VJ,n,Vs ao];simp only[look];rw[Vs (λe=>aZ (by rw[←e];exact a5))];exact Y.off s aZ
  have C:cf d=none:=by
   cases a3:cf d with
   |none=>rfl
   |some x=>
    obtain⟨j,oj,tj,h1,O,M⟩:=y d (by rw[a3];exactλhh=>by cases hh);have bd:=G j h1;obtain⟨dj,rj,e1,e2,_⟩:=hE j oj bd O;rw[R M]at e1;cases e1;have:i=j:=td ay (x:=d) (by rw[VO,ax];rfl) (by rw[VO,e2];rfl);subst this;rw[aN]at h1;cases h1
  have aw:∀(v:an)(d':Nat),d'≠d->(a.put (some d) v).tmps.getD d' undef=a.tmps.getD d' undef:=λv d' aI=>by
   simp only[Act.put,VJ,Wy];rw[Vs (λe=>aI e.symm)]
  unfold wpOp;rw[ho];unfold HG at az;split at az;rename_i p F;obtain⟨d2,T⟩:=p;obtain⟨a7,hr⟩:=az;subst hr;have aM:=R F;rw[S]at aM;cases aM;have aV:o∈ops.toList.take m:=WQ (i:=i) (by rw[XY V];simpa using ho);obtain⟨zs,hz⟩:=uK _ _ hA o aV d T F;obtain⟨_,z,bm,aY⟩:=Ie F hz;obtain⟨_,_,X⟩:=hs.allocF z T;simp only;rw[Vt (by simp[Region.wanted,a7])];refine .inl ?_;unfold Oper.wp;rw[aY a w];show wpAny P .any ops Q l (f.setIfInBounds i true) (a.put o.dst _) _;rw[S];have bk:d<a.tmps.size:=by rw[hs.size];exact aG
  have bl:(a.put (some d) (.pointer (some ⟨w.heap.size,0,none⟩))).tmps.getD d undef=.pointer (some ⟨w.heap.size,0,none⟩):=by
   simp[Act.put,VJ,Wy,bk]
  refine aq _ _ _ _ (Sim.put X aG (sv:=.pv .bot) ⟨rfl,trivial⟩ trivial rfl) (A.alloc hs z T C bl (aw _)) rfl (λi2 o2 d2 t2 h1 O M=>?_) (λd2 h1=>?_);rw[n]at h1;split at h1;rename_i e;subst e;rw[ho]at O;cases O;rw[F]at M;cases M;exact⟨w.heap.size,z,Vt rfl,bm⟩;obtain⟨c,z',L,h6⟩:=u i2 o2 d2 t2 h1 O M;have:d2≠d:=λe=>by rw[e,C]at L;cases L
  exact ⟨c, z', (Vs this).trans L, h6⟩; by_cases e : d2 = d; subst e; exact ⟨i, o, T, by rw [n, Vt rfl], ho, F⟩; simp only [Vs e] at h1; obtain ⟨j, oj, tj, L, h6, h7⟩ := y d2 h1; exact ⟨j, oj, tj, by rw [n]; split; rfl; exact L, h6, h7⟩; rename_i F; have key := R4 (ops := ops) o az bj (Q := Q) (K' := wpAny P .any ops Q l (f.setIfInBounds i true)) (λ v J w2 _ s2 f2 a2 => by
   have X:=(s2 g _ rfl hs).1;have t2:=(s2 g _ rfl hs).2;have av:Sim {g with I:=J} ⟨(d,kq q r)::t,base.h⟩ (a.put (some d) v) w2:=by
    refine Sim.put X (by rw[t2.N];exact aG) ?_ ?_ (uM q r).1;rcases(uM q r).2 with L|⟨L,h6⟩;rw[L];exact⟨rfl,trivial⟩;rw[L];exact f2;rcases(uM q r).2 with L|⟨L,h6⟩;rw[L];trivial;rw[L];refine cL.congrA (q:=q) (λp hp bp=>?_) h6 a2;refine⟨?_,rfl⟩;cases p with
    |cell b k=>rfl
    |slot s=>
     have aW:s∉E.map (·.1):=λhc=>by rw[(hq s).2 hc]at hp;cases hp
     simp only[aj];rw[Y.off s aW,qd];split;symm;apply cO;intro hc;apply aW;rw[Zf,Zg]at hc;obtain⟨p,hp,D⟩:=VB.1 hc;exact VB.2 ⟨p,Wn hp,D⟩;rfl
   rw[S];refine aq _ _ w2 cf av (A.step t2 λd' Z=>aw v d' (λe=>Z (by rw[e];exact C))) rfl (λi2 o2 d2 t3 h1 O M=>?_) (λd2 h1=>?_);rw[n]at h1;split at h1;rename_i e;subst e;rw[ho]at O;cases O;rw[F]at M;cases M;exact u i2 o2 d2 t3 h1 O M;obtain⟨j,oj,tj,L,h6,h7⟩:=y d2 h1;exact⟨j,oj,tj,by rw[n];split;rfl;exact L,h6,h7⟩)
  simp only;split;rename_i hw;rw[Vt hw]at key;exact .inl key;rename_i hw;rw[Vs hw]at key;exact key;have aO:i=m:=by
   apply aad _ (W5 V);apply W5;intro hl;obtain⟨e,D,U,u⟩:=lc.1 (hB.chain (i -1) o (by omega) (by rw[Nat.sub_add_cancel (by omega)];simpa using ho));have:=G _ (B e D U);omega
  subst aO;have au:∀k j:Nat,i<=j+k->j<i->f[j]?=some true:=by
   intro k
   induction k with
   |zero=>intro j h1 O;omega
   |succ k bn=>
    intro j h1 O;obtain⟨j',o',bs,bb,aQ,bc⟩:=hB.up (by simpa using ad) j O;obtain⟨e,D,U,u⟩:=lc.1 bc;rcases aat j' i with W|br;have:=aE j' o' (bn j' (by omega) W) (by simpa using aQ) e D U;rw[u]at this;exact this;have:j'=i:=by omega
    subst this;have aB:ops[j']?=some o':=by simpa using aQ
    rw[ho]at aB;cases aB;have:=B e D U;rw[u]at this;exact this
  obtain⟨g',st',hk,ht,X⟩:=aA A u y (λj hj=>au i j (by omega) hj) G Y hs hd;have ar:∀j:Nat,i<=j->j<ops.size->f[j]?=some false:=λj hj bb=>by
   have aR:j<f.size:=by omega
   cases U:f[j]with
   |false=>rw[VK aR,U]
   |true=>have:=G j (by rw[VK aR,U]);omega
  have a6:i+(l+1)=ops.size:=by
   have:=qf f.toList i (by simp[H];omega) (λj hj=>by simpa using au i j (by omega) hj) (λj h1 O=>by simpa using ar j h1 (by simpa[H]using O));rw[ak]at this;simpa[H]using this
  have:=A1 hB (Q:=Q) (K:=K) (ops.toList.drop i) i (l+1) f _ g' a w rfl (Vu _) a6 H (λj hj=>au i j (by omega) hj) ar hk X (by rw[ht.N,←A.to.N];exact hd) (λbo g2 a2 w2 k2 t2 s2=>hQ bo g2 a2 w2 k2 (ht.trans t2) s2);exact this.2 i hi
theorem DN{l:List ai}{s:Nat}:s∈dstsOf l↔∃(i:Nat)(o:ai),l[i]?=some o∧o.dst=some s:=by
 simp only[dstsOf,List.mem_filterMap];constructor;rintro⟨o,h1,a⟩;obtain⟨i,hi⟩:=Xh.1 h1;exact⟨i,o,hi,a⟩;rintro⟨i,o,h1,a⟩;exact⟨o,WQ h1,a⟩
theorem Sim.cast_I{g:Gh}{J:Nat->Option Obj}{st:St}{a:Act}{w:ab}(h:Sim {g with I:=J} st a w)(b:∀c,g.I c=J c):Sim g st a w:=by
 have:J=g.I:=funext λc=>(b c).symm;subst this;exact h
theorem Kt{P:aa}{ops:Array ai}{id:Nat}{st:St}{K:St->Prop}(aP:P.follows .mixedOrders=true)(hB:Gf ops.toList (de ops.toList)=true)(h:AV P ops.toList K st){g:Gh}{a:Act}{w:ab}(hs:Sim g st a w)
 (hd:cV g.N ops.toList=true) {Q:Exit->Act->ab->Prop} (hQ:∀st' g' T w',K st'->g.to g'->Sim g' st' T w'->Q .normal T w'):(Code.region id ops true).wp P Q a w:=by
 refine wp_region_any aP ?_;have l:=Kq hB;unfold AV at h;obtain⟨E,b,hK,A⟩:=Kp _ _ h;have W:(ops.toList.take (de ops.toList)).length=de ops.toList:=by rw[Vy];exact WL l.le
 rw[W]at b;have f:∀(i:Nat)(o:ai),i<de ops.toList->ops[i]?=some o->(ops.toList.take (de ops.toList))[i]?=some o:=λi o hi ho=>by
  rw[Wg,Vt hi];simpa using ho
 have x:∀s,s∈E.map (·.1)↔s∈dstsOf (ops.toList.take (de ops.toList)):=by
  intro s;rw[DN];constructor;intro z;obtain⟨p,hp,V⟩:=VB.1 z;obtain⟨i,hi⟩:=Xh.1 hp;have O:i<de ops.toList:=by rw[←b];exact(Vp.1 hi).1
  have u:i<(ops.toList.take (de ops.toList)).length:=by rw[W];exact O
  obtain⟨d,r,k,n,_⟩:=A i _ (Vq u);rw[hi]at n;cases n;exact⟨i,_,Vq u,by rw[k];simp at V;rw[V]⟩;rintro⟨i,o,h1,G⟩;obtain⟨d,r,k,n,_⟩:=A i o h1;rw[G]at k;cases k;exact VB.2 ⟨_,WQ n,rfl⟩
 have R:(E.map (·.1)).Nodup:=by
  unfold List.Nodup;rw[V5];intro i j hi hj L e;have J:i<de ops.toList:=by rw[←b];simpa using hi
  have y:j<de ops.toList:=by rw[←b];simpa using hj
  have S:j<ops.size:=WK y (by simpa using l.le);have B:ops[i]?=some (ops[i]'(by omega)):=by simp[show i<ops.size by omega]
  have C:ops[j]?=some ops[j]:=by simp[S]
  obtain⟨d,h1,G⟩:=l.dst j ops[j] y (by rw[Vw];exact C);obtain⟨d',Y,Z,_⟩:=G i _ L (by rw[Vw];exact B);obtain⟨dj,rj,k,n,_⟩:=A j _ (f j _ y C);obtain⟨di,ri,F,X,_⟩:=A i _ (f i _ J B);rw[h1]at k;cases k;rw[Y]at F;cases F;apply Z;have U:(E.map (·.1))[i]?=some d':=by rw[VO,X];rfl
  have g2:(E.map (·.1))[j]?=some d:=by rw[VO,n];rfl
  rw[Vq hi]at U;rw[Vq hj]at g2;cases U;cases g2;exact e
 let base:St:=⟨bots (dstsOf (ops.toList.take (de ops.toList))) (aW (AU (dstsOf (ops.toList.take (de ops.toList)))) st.t),st.h⟩
 have M:∀s,look base.t s=look st.t s∨look base.t s=.pv .bot:=by
  intro s;show look (bots _ _) s=_∨look (bots _ _) s=_;rw[oP];split;exact .inr rfl;rw[bI];rcases b6 (AU (dstsOf (ops.toList.take (de ops.toList)))) (look st.t s)with e|⟨e,_⟩;exact .inr e;exact .inl e
 have D:Sim g base a {w with drawn:=w.drawn+1}:=by
  have h1 : Sim g st a { w with drawn := w.drawn + 1 } := (hs.grown (w' := { w with drawn := w.drawn + 1 }) rfl (Vu _) (λ _ _ => rfl) g.I hs.I).1.cast_I (λ c => by
   show g.I c=if w.heap.size<=c then g.I c else g.I c;split<;>rfl)
  exact h1.weak rfl M
 refine Kr (Q:=Q) (K:=K) (m:=de ops.toList) (base:=base) (E:=E) (q:=AU (dstsOf (ops.toList.take (de ops.toList)))) l b R ?_ ?_ ?_ (by simpa[DM]using hK) hQ ops.size (Array.replicate ops.size false) base.t (λ_=>none) g a _ (Out.start D) ?_ (λ_ h=>absurd rfl h) (by simp) (by simpa using nS _)
  ?_ ?_ ?_ D hd
 intro s;rw[x];simp[AU];intro s z;show look (bots _ _) s=_;rw[oP,Vt ((x s).1 z)];intro i o hi ho;obtain⟨d,r,k,n,F⟩:=A i o (f i o hi ho);exact⟨d,r,k,n,by simpa using F⟩;intro i o d t hi;rw[Xb]at hi;split at hi<;>cases hi;intro i hi;rw[Xb]at hi;split at hi<;>cases hi;intro i o hi;rw[Xb]at hi;split at hi<;>cases hi;refine⟨λi d v hi=>?_,λs _=>rfl⟩;show look (bots _ _) d=_;rw[oP,Vt ((x d).1 (VB.2 ⟨_,WQ hi,rfl⟩))];split;rename_i H;rw[VJ,Xb]at H;split at H<;>cases H;rfl
def jr(P:aa):Op->Bool
 |.move _|.assign _|.extract _ _|.unOp _ _ _|.field _ _ _|.fieldAddr _ _ _|.indexAddr _ _ _|.slice _ _ _ _ none|.pick _ _ _|.nilCheck _=>true
 |.convert s _ _=>!uH P s
 |.binOp _ t _ _ _=>match tk P t with
  |.int|.bool|.string|.ptr=>true
  |_=>false
 |.call c=>match c.callee,c.args.toList,c.argTypes.toList with
  |.builtin .len,[_],[t]=>match tk P t with
   |.slice|.string=>true
   |_=>false
  |_,_,_=>false
 |_=>false
def su(P:aa)(o:ai)(a:Act):Prop:=∃v,∀w':ab,(execOp a.eval o).run P w'=.ok (.value v) w'
theorem kz.one{P:aa}{st:St}{o:ai}{r:SV×Prop}(h:kz P st o r){g:Gh}{a:Act}{w:ab}(hs:Sim g st a w)(b:r.2):su P o a:=by
 obtain⟨v,h1,_⟩:=h g a w hs b;exact⟨v,h1⟩
theorem uN{P:aa}{st:St}(o:ai)(k:jr P o.op=true)(h:(pop P st o.op).2){g:Gh}{a:Act}{w:ab}(hs:Sim g st a w):su P o a:=by
 cases j:o.op
 case move x=>rw[j]at h;exact(yO o x (.inl j)).one hs h
 case assign x=>rw[j]at h;exact(yO o x (.inr j)).one hs h
 case pick c x y=>rw[j]at h;exact(AA o c x y j).one hs h
 case unOp op t x=>rw[j]at h;exact(JR o op t x j).one hs h
 case fieldAddr t x f=>rw[j]at h;exact(xd o t f x j).one hs h
 case indexAddr t x i=>rw[j]at h;exact(FP o t x i j).one hs h
 case extract x i=>rw[j]at h;exact(FR o x i j).one hs h
 case field t x f=>rw[j]at h;exact(AD o t x f j).one hs h
 case convert s d x=>rw[j]at h;exact(FT o s d x j).one hs h
 case nilCheck x=>rw[j]at h;exact(JT o x j).one hs h
 case slice t x lo hi v=>
  rw[j]at h k;cases v with
  |none=>exact(FU o t x lo hi j).one hs h
  |some m=>cases k
 case binOp op t x y u=>
  rw[j]at h k;simp only[jr]at k;simp only[pop,JX]at h;cases l:yT st op x y with
  |some b=>rw[l]at h;rw[h.2]at k;cases k
  |none=>
   rw[l]at h;cases ht:tk P t with
   |int=>simp only[ht]at h;exact(FK o op t u x y j).one hs h
   |bool=>simp only[ht]at h;exact(FL o op t u x y j (FW ht)).one hs h
   |string=>simp only[ht]at h;exact(FM o op t u x y j).one hs h
   |ptr=>simp only[ht]at h;obtain⟨e,r⟩:=JZ ht;exact(FN o op t u e x y j r).one hs h
   |_=>rw[ht]at k;cases k
 case call c=>
  rw[j]at h k;simp only[jr]at k;split at k;rename_i x t h1 n p;have q:c={callee:=.builtin .len,args:=#[x],argTypes:=#[t]}:=by
   cases c with
   |mk a b d=>
    simp only at h1 n p;rw[h1,show b=#[x]from by rw[←XN (xs:=b),n],show d=#[t]from by rw[←XN (xs:=d),p]]
  simp only[pop,FV,h1,n,p]at h;rw[q]at j;cases ht:tk P t with
  |slice=>simp only[ht]at h;exact(Ay o t x j).one hs h
  |string=>simp only[ht]at h;exact(xb o t x j (xk ht)).one hs h
  |_=>rw[ht]at k;cases k
  cases k
 all_goals (rw[j]at k;cases k)
theorem Ig{P:aa}{st:St}(o:ai)(d:jr P o.op=true){K:St->Prop}(h:AE P st o.op o.dst K){g:Gh}{a:Act}{w:ab}(hs:Sim g st a w):su P o a:=by
 have hp:uG P st o.op o.dst K->su P o a:=λh=>uN o d h.1 hs;cases b:o.op
 case assign x=>exact⟨a.eval x,λw'=>by simp[execOp,b]⟩
 case convert s t x=>
  rw[b]at d h hp;simp only[jr,Wp]at d;simp only[AE,d]at h;exact hp h
 case binOp op t x y u=>
  have nil:∀yes,DF P st t x yes o.dst K->False:=λyes h=>by
   unfold DF bU at h;split at h;rename_i e i;split at i;rename_i q p;rw[b]at d;simp[jr,tk,p]at d;cases i;exact h
  rw[b]at h hp;unfold AE at h;split at h<;>first|exact hp h|skip
  all_goals
   first
    |(rename_i f;cases f;done)
    |(rename_i f;injection f with j k l m n;subst j k l m n;exact(nil _ h).elim)
    |(rename_i f;rw[f]at hp;exact hp h)
 case call c=>
  rw[b]at d h hp;simp only[jr]at d;split at d;rename_i x t h1 r v;unfold AE at h;simp only[h1]at h;exact hp h;cases d
 all_goals first
  |(rw[b]at d;cases d;done)
  |(rw[b]at h hp;exact hp h)
theorem Ku{P:aa}{o:ai}{a:Act}{w:ab}{v:an}(b:∀w':ab,(execOp a.eval o).run P w'=.ok (.value v) w'){K:Act->ab->Prop}{Q:Exit->Act->ab->Prop}(h:o.wp P a w K Q):K (a.put o.dst v) w:=by
 unfold Oper.wp at h;rw[b w]at h;exact h
theorem zi{P:aa}{ops:Array ai}{st:St}(o:ai)(e:jr P o.op=true){K:St->Prop}(h:gq P ops.toList o K st){g:Gh}{a:Act}{w:ab}(hs:Sim g st a w)(hd:cX g.N o.dst):
 ∃v,Yields P ops o v a∧∃st' g',K st'∧g.to g'∧Sim g' st' (a.put o.dst v) w:=by
 have key:=jZ (ops:=ops) o h hs hd (K':=λq w'=>∃st' g',K st'∧g.to g'∧Sim g' st' q w') (Q:=λ_ _ _=>False) λst' g' q w' h1 l m=>⟨st',g',h1,l,m⟩;by_cases k:Region.wanted o (yielded ops a.tmps)=true;rw[Vt k]at key;have i:su P o a:=by
  unfold gq at h;split at h;unfold Oc at h;split at h;rename_i b;rw[b]at e;cases e;exact Ig o e h hs;rename_i j s z;split at h;rename_i d n;split at h
  .rename_i p y;have u:p:=(qc hs z n y).1 k;have f:Rd P st p o.op o.dst K->su P o a:=λh=>uN o e (h.1 u) hs;cases b:o.op
   case call c=>
    rw[b]at e h f;simp only[jr]at e;split at e;rename_i x t h1 l m;unfold AG at h;simp only[h1]at h;exact f h;cases e
   all_goals first
    |(rw[b]at e;cases e;done)
    |(rw[b]at h f;exact f h)
  exact h.elim;exact h.elim
 obtain⟨v,r⟩:=i;obtain⟨st',g',h1,l,m⟩:=Ku r key;exact⟨v,.inl ⟨k,r⟩,st',g',h1,l,m⟩;rw[Vs k]at key;exact⟨undef,.inr ⟨by simpa using k,rfl⟩,key⟩
inductive Sch where
  |done
  |take (i:Nat) (r:Sch)
  |fork (l:List (Nat×Sch))
mutual
def lC(P:aa)(ops:Array ai):Nat->Array Bool->Sch->Bool
  |_,listed,.done=>(Region.ready .any ops listed).isEmpty
  | n + 1, listed, .take i r => (match ops[i]? with
    |some o=>jr P o.op&&Region.free .any ops listed i
    |none=>false)&&(Region.ready .any ops listed).contains i&&lC P ops n (listed.setIfInBounds i true) r
  |n+1,listed,.fork l=>(Region.ready .any ops listed==l.map (·.1))&&!l.isEmpty&&A2 P ops n listed l
  |_,_,_=>false
def A2(P:aa)(ops:Array ai):Nat->Array Bool->List (Nat×Sch)->Bool
  |_,_,[]=>true
  |n,listed,(i,r)::l=>lC P ops n (listed.setIfInBounds i true) r&&A2 P ops n listed l
end
def gB(P:aa)(ops:List ai)(i:Nat)(K:St->Prop)(st:St):Prop:=
 match ops[i]?with
 |some o=>gq P ops o K st
 |none=>False
mutual
def qg(P:aa)(ops:List ai)(K:St->Prop):Sch->St->Prop
  |.done,st=>K st
  |.take i r,st=>gB P ops i (qg P ops K r) st
  |.fork l,st=>te P ops K l st
def te(P:aa)(ops:List ai)(K:St->Prop):List (Nat×Sch)->St->Prop
  |[],_=>True
  |(i,r)::l,st=>gB P ops i (qg P ops K r) st∧te P ops K l st
end
theorem eO{N:Nat}{l:List ai}(h:cV N l=true){i:Nat}{o:ai}(hi:l[i]?=some o):cX N o.dst:=by
 have:=Wa.1 h o (WQ hi);unfold cX;split;rename_i d hd;rw[hd]at this;simpa using this;trivial
mutual
theorem zj{P:aa}{ops:Array ai}{K:St->Prop}{Q:Exit->Act->ab->Prop}(hsel:Region.noSelect ops=true)(hQp:∀c a w,¬Q (.panic c) a w):∀(S:Sch)(n:Nat)(listed:Array Bool)(_:lC P ops n listed S=true){st:St}(_:qg P ops.toList K S st){g:Gh}{a:Act}{w:ab}(_:Sim g st a w)(_:cV g.N ops.toList=true)
    (_:∀st' g' a' w',K st'->g.to g'->Sim g' st' a' w'->Q .normal a' w'),wpAny P .any ops Q n listed a w
  |.done,n,listed,hb,st,h,g,a,w,hs,_,hQ=>by
    have hb':(Region.ready .any ops listed).isEmpty=true:=by cases n<;>simpa[lC]using hb
    exact wpAny_done (Z3.1 hb') (hQ st g a w h hs.refl_to hs) n
  |.take i r,0,listed,hb,st,h,g,a,w,hs,hd,hQ=>by simp[lC]at hb
  |.take i r,n+1,listed,hb,st,h,g,a,w,hs,hd,hQ=>by
    simp only[lC,VC]at hb
    obtain⟨⟨hb1,hb2⟩,hb3⟩:=hb
    simp only[qg,gB]at h
    cases ho:ops[i]?with
    |none=>rw[ho]at hb1;cases hb1
    |some o=>
      rw[ho]at hb1
      rw[Vw,ho]at h
      simp only[VC]at hb1
      obtain⟨v,hy,st',g',h1,h2,h3⟩:=zi o hb1.1 h hs (eO hd (by rw[Vw];exact ho))
      exact wpAny_take ho hsel hb1.2 hb2 (λc a w hq=>absurd hq (hQp c _ w)) hy (zj hsel hQp r n _ hb3 h1 h3 (by rw[h2.N];exact hd) λst2 g2 a2 w2 k2 t2 s2=>hQ st2 g2 a2 w2 k2 (h2.trans t2) s2)
  |.fork l,0,listed,hb,st,h,g,a,w,hs,hd,hQ=>by simp[lC]at hb
  |.fork l,n+1,listed,hb,st,h,g,a,w,hs,hd,hQ=>by
    simp only[lC,VC]at hb
    obtain⟨⟨hb1,hb2⟩,hb3⟩:=hb
    simp only[qg]at h
    have hr:Region.ready .any ops listed=l.map (·.1):=by simpa using hb1
    refine wpAny_all hr (λe=>?_) λi hi=>A3 hsel hQp l n listed hb3 h hs hd hQ i hi
    cases l with
    |nil=>simp at hb2
    |cons _ _=>cases e
theorem A3{P:aa}{ops:Array ai}{K:St->Prop}{Q:Exit->Act->ab->Prop}(hsel:Region.noSelect ops=true)(hQp:∀c a w,¬Q (.panic c) a w):∀(l:List (Nat×Sch))(n:Nat)(listed:Array Bool)(_:A2 P ops n listed l=true){st:St}(_:te P ops.toList K l st){g:Gh}{a:Act}{w:ab}(_:Sim g st a w)(_:cV g.N ops.toList=true)
    (_:∀st' g' a' w',K st'->g.to g'->Sim g' st' a' w'->Q .normal a' w'),∀i∈l.map (·.1),wpOp P ops Q i (wpAny P .any ops Q n (listed.setIfInBounds i true)) a w
  |[],n,listed,_,st,_,g,a,w,_,_,_,i,hi=>by cases hi
  |(i0,r)::l,n,listed,hb,st,h,g,a,w,hs,hd,hQ,i,hi=>by
    simp only[A2,VC]at hb
    simp only[te]at h
    simp only[VP,VU]at hi
    rcases hi with e|hi
    subst e
    have h1:=h.1
    simp only[gB]at h1
    unfold wpOp
    cases ho:ops[i]?with
    |none=>rw[Vw,ho]at h1;exact h1.elim
    |some o=>
      rw[Vw,ho]at h1
      have key:=jZ (ops:=ops) o h1 hs (eO hd (by rw[Vw];exact ho)) (K':=wpAny P .any ops Q n (listed.setIfInBounds i true)) (Q:=Q) λst' g' a' w' k' t' s'=>
        zj hsel hQp r n _ hb.1 k' s' (by rw[t'.N];exact hd) λst2 g2 a2 w2 k2 t2 s2=>hQ st2 g2 a2 w2 k2 (t'.trans t2) s2
      simp only
      split
      rename_i hw;rw[Vt hw]at key;exact .inl key
      rename_i hw;rw[Vs hw]at key;exact key
    exact A3 hsel hQp l n listed hb.2 h.2 hs hd hQ i hi
end
def qZ(P:aa)(ops:Array ai)(S:Sch):Bool:=Region.noSelect ops&&lC P ops ops.size (Array.replicate ops.size false) S
theorem Gi{P:aa}{ops:Array ai}{id:Nat}{st:St}{K:St->Prop}(aP:P.follows .mixedOrders=true){S:Sch}(d:qZ P ops S=true)(h:qg P ops.toList K S st){g:Gh}{a:Act}{w:ab}(hs:Sim g st a w)
 (hd:cV g.N ops.toList=true) {Q:Exit->Act->ab->Prop} (i:∀st' g' b w',K st'->g.to g'->Sim g' st' b w'->Q .normal b w'):(Code.region id ops true).wp P Q a w:=by
 simp only [qZ, VC] at d; have f : Sim g st a { w with drawn := w.drawn + 1 } := (hs.grown (w' := { w with drawn := w.drawn + 1 }) rfl (Vu _) (λ _ _ => rfl) g.I hs.I).1.cast_I (λ c => by
  show g.I c=if w.heap.size<=c then g.I c else g.I c;split<;>rfl)
 refine wp_mono (wp_region_any (Q:=λe a w=>e=.normal∧Q .normal a w) aP ?_) λe a w h=>h.1▸h.2;exact zj d.1 (λc a w h=>by cases h.1) S _ _ d.2 h f hd λst' g' b w' k' j s'=>⟨rfl,i st' g' b w' k' j s'⟩
def av(k0:Nat)(st st1:St):Prop:=∀g a w,g.n0<=k0->Sim g st a w->∃g',g.to g'∧Sim g' st1 a w
theorem av.trans{k0:Nat}{a b c:St}(h:av k0 a b)(h':av k0 b c):av k0 a c:=λg ac w h0 hs=>by
 obtain⟨d,t1,e⟩:=h g ac w h0 hs;obtain⟨g2,i,f⟩:=h' d ac w (by rw[t1.n0];exact h0) e;exact⟨g2,t1.trans i,f⟩
def Ve(v a:SV):Prop:=a=v∨a=.pv .bot
def PU(t:List (Nat×SV)):List (Nat×SV)->Prop
 |[]=>True
 |(s,v)::r=>Ve (look t s) v∧PU t r
theorem Kv{t:List (Nat×SV)}:∀{t1:List (Nat×SV)},PU t t1->∀s,look t1 s=look t s∨look t1 s=.pv .bot
 |[],_,s=>.inr rfl
 |(j,v)::r,h,s=>by
  simp only[look];by_cases e:j=s;subst e;rw[Vt rfl];exact h.1;rw[Vs e];exact Kv h.2 s
section
variable {g : Gh} {k : Nat}
mutual
theorem Fit.below:∀(x:PV)(v:an),x.bel k->Fit g x v->Fit {g with n:=k} x v
  |.bot,_,_,_=>trivial
  |.lit _,_,_,h=>h
  |.agg xs,_,hn,⟨vs,h1,h2⟩=>⟨vs,h1,ax.below xs _ hn h2⟩
  |.tup xs,_,hn,⟨vs,h1,h2⟩=>⟨vs,h1,ax.below xs _ hn h2⟩
  |.seq _ e rows,_,hn,⟨p,cap,h1,hc,h2⟩=>⟨p,cap,h1,hc,h2.imp id λ⟨c,off,arr,T,fz,vs,a,b,n,q1,q2⟩=>⟨c,off,arr,T,fz,vs,a,b,n,aK.below e rows vs hn q1,q2⟩⟩
  |.iptr e rows _ _,_,hn,⟨c,off,arr,T,fz,vs,a,b,q1,q2⟩=>⟨c,off,arr,T,fz,vs,a,b,aK.below e rows vs hn q1,q2⟩
  |.ptr _ _,_,hn,⟨_,h2⟩=>⟨hn,h2⟩
  |.bsl _ _ _ _ _,_,hn,⟨_,h2⟩=>⟨hn,h2⟩
  |.fn _ first cap,_,⟨n1,n2⟩,⟨a,b,h1,h2,h3⟩=>⟨a,b,h1,ax.below first _ n1 h2,ax.below cap _ n2 h3⟩
  |.amap _ es,_,hn,⟨c,en,ck,a,b,n,q⟩=>⟨c,en,ck,a,b,n,cu.below es _ hn q.1,q.2⟩
  |.ifc _ x,_,hn,⟨y,h1,h2⟩=>⟨y,h1,Fit.below x y hn h2⟩
theorem ax.below:∀(xs:aD)(vs:aG),b7 k xs->ax g xs vs->ax {g with n:=k} xs vs
  |[],_,_,h=>h
  |x::xs,_,⟨n1,n2⟩,⟨v,r',h1,h2,h3⟩=>⟨v,r',h1,Fit.below x v n1 h2,ax.below xs r' n2 h3⟩
theorem aK.below(e:Nat):∀(rows:aT)(vs:aG),bV k rows->aK g e rows vs->aK {g with n:=k} e rows vs
  |[],_,_,h=>h
  |row::rows,_,⟨n1,n2⟩,⟨v1,v2,h1,h2,h3,h4⟩=>⟨v1,v2,h1,h2,ax.below row v1 n1 h3,aK.below e rows v2 n2 h4⟩
theorem cu.below:∀(es:dw)(en:List MapEntry),fB k es->cu g es en->cu {g with n:=k} es en
  |[],_,_,h=>h
  |(_,x)::es,_,⟨n1,n2⟩,⟨m,r',h1,h2,h3,h4⟩=>⟨m,r',h1,h2,Fit.below x m.val n1 h3,cu.below es r' n2 h4⟩
end
end
def SV.bel(k:Nat):SV->Prop
 |.pv x=>x.bel k
 |.own _ _ rows=>bV k rows
 |.omap _ es=>fB k es
 |.opt _ x=>x.bel k
 |.agl xs=>b7 k (xs.map (·.1))
 |_=>True
theorem aO.below{g:Gh}{w:ab}{k:Nat}:∀{x:SV}{v:an}{b:Option Nat},x.bel k->aO g w x v b->aO {g with n:=k} w x v b
 |.pv x,_,_,hn,h=>⟨h.1,Fit.below x _ hn h.2⟩
 |.own _ e rows,_,_,hn,h=>h.imp id λ⟨c,h1,cap,arr,T,vs,a,d,a3,a4,a5,f,i⟩=>⟨c,h1,cap,arr,T,vs,a,d,a3,a4,aK.below e rows vs hn a5,f,i⟩
 |.omap _ es,_,_,hn,⟨c,h1,en,ck,a,d,a3,a4⟩=>⟨c,h1,en,ck,a,d,cu.below es _ hn a3,a4⟩
 |.opt _ _,_,_,hn,h=>⟨h.1,h.2.1,λl=>aO.below hn (h.2.2 l)⟩
 |.al _,_,_,_,h=>h
 |.loc _ _ _,_,_,_,h=>h
 |.sptr _ _ _,_,_,_,h=>h
 |.agl xs,_,_,hn,⟨h,vs,h1,j⟩=>⟨h,vs,h1,ax.below _ _ hn j⟩
def mG(k:Nat):List (Nat×SV)->Prop
 |[]=>True
 |(_,v)::r=>v.bel k∧mG k r
def cA(k:Nat):bj->Prop
 |[]=>True
 |v::r=>v.bel k∧cA k r
def er(k:Nat):ao->Prop
 |[]=>True
 |v::r=>cA k v∧er k r
theorem ld{k:Nat}:∀{t:List (Nat×SV)},mG k t->∀s,(look t s).bel k
 |[],_,s=>trivial
 |(j,v)::r,h,s=>by
  simp only[look];split;exact h.1;exact ld h.2 s
theorem mH{k:Nat}:∀{l:bj},cA k l->∀(i:Nat)(x:SV),l[i]?=some x->x.bel k
 |[],_,i,x,h=>by simp at h
 |v::r,a,0,x,h=>by simp at h;subst h;exact a.1
 |v::r,a,i+1,x,h=>mH a.2 i x (by simpa using h)
theorem mI{k:Nat}:∀{l:ao},er k l->∀(i:Nat)(x:bj),l[i]?=some x->cA k x
 |[],_,i,x,h=>by simp at h
 |v::r,a,0,x,h=>by simp at h;subst h;exact a.1
 |v::r,a,i+1,x,h=>mI a.2 i x (by simpa using h)
theorem Sim.dropB{st:St}{h1:ao}(r:st.h.take h1.length=h1)(ht:mG h1.length st.t)(G:er h1.length h1){g:Gh}{a:Act}{w:ab}(h0:g.n0<=h1.length)(hs:Sim g st a w):g.to {g with n:=h1.length}∧Sim {g with n:=h1.length} ⟨st.t,h1⟩ a w:=by
 obtain⟨bl,e⟩:=hs.own;have hle:h1.length<=g.n:=by rw[hs.n,←r,Vy];exact ZF _ _
 have f:∀b xs,h1[b]?=some xs->st.h[b]?=some xs:=λb xs hx=>by
  have m:=(Vp.1 hx).1;rw[←r,Wg,Vt (by exact m)]at hx;exact hx
 have l:∀p,(aj ⟨st.t,h1⟩ p).isOwn=true->aj ⟨st.t,h1⟩ p=aj st p∧aA {g with n:=h1.length} a w p=aA g a w p:=by
  intro p hp;refine⟨?_,rfl⟩;cases p with
  |slot s=>rfl
  |cell b k=>
   simp only[aj]at hp⊢;cases hx:h1[b]?with
   |none=>simp[List.getD,hx,SV.isOwn]at hp
   |some xs=>simp only[Vr,hx,f b xs hx]
 refine⟨⟨λ_ _ h=>h,rfl,rfl,rfl,rfl,rfl,h0,λ_ _=>rfl,λ_ _ h=>h⟩,?_⟩;refine{
  size:=hs.size,defs:=hs.defs,env:=hs.env,n:=rfl,n0:=h0,B:=hs.B,I:=hs.I,F:=hs.F,μI:=λb i=>hs.μI b (WK i hle),μinj:=λb b' D E=>hs.μinj b b' (WK D hle) (WK E hle),
  own:=⟨λp=>match p with|.slot s=>bl (.slot s)|.cell b k=>if b<h1.length then bl (.cell b k)else none,?_⟩,al:=λs=>cL.congr l (hs.al s)}
 have d:∀p c,(match p with|.slot s=>bl (.slot s)|.cell b k=>if b<h1.length then bl (.cell b k)else none)=some c->bl p=some c:=by
  intro p c hp;cases p with
  |slot s=>exact hp
  |cell b k=>
   simp only at hp;split at hp;exact hp;cases hp
 refine{slots:=λs=>aO.below (ld ht s) (e.slots s),blocks:=λb xs hx=>?_,inj:=λp q c hp H=>e.inj p q c (d p c hp) (d q c H),free:=λp c hp=>?_};obtain⟨arr,T,u,v,o⟩:=e.blocks b xs (f b xs hx);refine⟨arr,T,u,v,λk x j=>?_⟩;simp only[Vt (Vp.1 hx).1];exact⟨(o k x j).1,aO.below (mH (mI G b xs hx) k x j) (o k x j).2⟩;obtain⟨y,z,A,C⟩:=e.free p c (d p c hp);exact⟨y,z,A,λb i=>C b (WK i hle)⟩
theorem av.slots{k0:Nat}{st:St}{t1:List (Nat×SV)}(h:PU st.t t1):av k0 st ⟨t1,st.h⟩:=λg _ _ _ hs=>⟨g,hs.refl_to,hs.weak rfl (Kv h)⟩
theorem av.drop{k0:Nat}{st:St}{h1:ao}(b:st.h.take h1.length=h1)(hk:k0<=h1.length)(ht:mG h1.length st.t)(a:er h1.length h1):av k0 st ⟨st.t,h1⟩:=λg _ _ h0 hs=>
 ⟨_,hs.dropB b ht a (Wb h0 hk)⟩
theorem av.to{k0:Nat}{st:St}{t1:List (Nat×SV)}{h1:ao}(h:PU st.t t1)(b:st.h.take h1.length=h1)(hk:k0<=h1.length)(ht:mG h1.length t1)(a:er h1.length h1):av k0 st ⟨t1,h1⟩:=
 (av.slots h).trans (av.drop (st:=⟨t1,st.h⟩) b hk ht a)
theorem av.nilOwn{k0:Nat}{st:St}{s:Nat}(e:Nat)(nw:Bool)(h:look st.t s=.pv (.lit (.slice none 0 0))):av k0 st ⟨(s,.own nw e [])::aW (dx s) st.t,st.h⟩:=λg a w _ hs=>by
 obtain⟨bl,i⟩:=hs.own;have b:a.tmps.getD s undef=.slice none 0 0:=by have:=i.slots s;rw[h]at this;exact this.2
 have f:s<a.tmps.size:=by
  apply Yy;intro hle;rw[VJ,W9 hle]at b;cases b
 have:=hs.putOwn i (d:=s) (sv:=.own nw e []) (v:=a.tmps.getD s undef) (o:=none) (w':=w) (by rw[←hs.size];exact f) rfl (Vu _) (λ_ _ _=>rfl) (.inl ⟨rfl,rfl,b⟩) rfl (λc j=>by cases j);rw[qT f]at this;exact⟨g,hs.refl_to,this⟩
def Kw(K:St->Prop)(Q:Exit->St->Prop)(e:Exit)(st:St):Prop:=
 match e with
 |.normal=>K st
 |e=>Q e st
def zk(id:Nat)(Q:Exit->St->Prop)(e:Exit)(st:St):Prop:=
 match e with
 |.exit i=>if i=id then Q .normal st else Q (.exit i) st
 |e=>Q e st
def DO(Q:Exit->St->Prop)(e:Exit)(st:St):Prop:=
 match e with
 |.goto _=>False
 |e=>Q e st
def aM(k0:Nat)(a:(Exit->St->Prop)->St->Prop)(Q:Exit->St->Prop)(st:St):Prop:=
 ∃I:Nat->St->Prop,(∃n st1,av k0 st st1∧I n st1)∧∀n st,I n st->a (Kw (λst'=>∃m b,m<n∧av k0 st' b∧I m b) Q) st
def PW{α:Type}(S:α->St)(J:α->Prop)(μ:α->Nat)(k0 n:Nat)(st:St):Prop:=∃y,μ y<n∧J y∧av k0 st (S y)
def DP(k0:Nat)(S st:St):Prop:=av k0 st S
def Vf(P:aa)(k0:Nat)(ops:Array ai)(K:St->Prop)(n:Nat)(l:Array Bool)(st:St):Prop:=
 ∀(g:Gh)(a:Act)(w:ab),g.n0<=k0->Sim g st a w->cV g.N ops.toList=true->∀(Q:Exit->Act->ab->Prop),(∀c a w,¬Q (.panic c) a w)->(∀st' g' b w',K st'->g.to g'->Sim g' st' b w'->Q .normal b w')->wpAny P .any ops Q n l a w
def Kx(P:aa)(ops:Array ai)(C:Nat->Array Bool->St->Prop)(n:Nat)(st:St):List (Nat×Array Bool)->Prop
 |[]=>True
 |(i,l')::r=>gB P ops.toList i (C n l') st∧Kx P ops C n st r
def PX(P:aa)(ops:Array ai)(l:Array Bool)(i:Nat)(l':Array Bool):Bool:=
 Region.noSelect ops && (match ops[i]? with
  |some o=>jr P o.op&&Region.free .any ops l i
  |none=>false)&&(Region.ready .any ops l).contains i&&(l.setIfInBounds i true==l')
def PY(ops:Array ai)(l:Array Bool)(rs:List (Nat×Array Bool)):Bool:=
 (Region.ready .any ops l==rs.map (·.1))&&!rs.isEmpty&&rs.all λp=>l.setIfInBounds p.1 true==p.2
def bP(P:aa)(k0:Nat)(ops:Array ai)(K:St->Prop)(st:St):Prop:=
 (∃S,qZ P ops S=true∧(qg P ops.toList K S st∨∃st1,qg P ops.toList (DP k0 st1) S st∧K st1))∨Vf P k0 ops K ops.size (Array.replicate ops.size false) st
theorem bP.one{P:aa}{k0:Nat}{ops:Array ai}{K:St->Prop}{st:St}(S:Sch)(h:qZ P ops S=true)(a:qg P ops.toList K S st):bP P k0 ops K st:=.inl ⟨S,h,.inl a⟩
theorem bP.meet{P:aa}{k0:Nat}{ops:Array ai}{K:St->Prop}{st:St}(S:Sch)(st1:St)(h:qZ P ops S=true)(a:qg P ops.toList (DP k0 st1) S st)(b:K st1):bP P k0 ops K st:=.inl ⟨S,h,.inr ⟨st1,a,b⟩⟩
def zm(stp:Nat->(St->Prop)->St->Prop)(C:Nat->Array Bool->St->Prop)(n:Nat)(st:St):List (Nat×Array Bool)->Prop
 |[]=>True
 |(i,l')::r=>stp i (C n l') st∧zm stp C n st r
structure WalkerO (P:aa) (k0:Nat) (ops:Array ai) (stp:Nat->(St->Prop)->St->Prop) (K:St->Prop) (C:Nat->Array Bool->St->Prop):Prop where
  done:∀n l st,(Region.ready .any ops l).isEmpty=true->K st->C n l st
  weak:∀{n l st st1},C n l st1->av k0 st st1->C n l st
  take:∀{n l st}(i l'),PX P ops l i l'=true->stp i (C n l') st->C (n+1) l st
  fork:∀{n l st}(rs),PY ops l rs=true->zm stp C n st rs->C (n+1) l st
theorem Ky{P:aa}{k0:Nat}{ops:Array ai}{id:Nat}{st:St}{K:St->Prop}(aP:P.follows .mixedOrders=true)(h:bP P k0 ops K st){g:Gh}{a:Act}{w:ab}(h0:g.n0<=k0)(hs:Sim g st a w)
 (hd:cV g.N ops.toList=true) {Q:Exit->Act->ab->Prop} (f:∀st' g' b w',K st'->g.to g'->Sim g' st' b w'->Q .normal b w'):(Code.region id ops true).wp P Q a w:=by
 rcases h with ⟨S, j, h | ⟨st1, h, hk⟩⟩ | h; exact Gi aP j h hs hd f; refine Gi aP j h hs hd λ st' g' b w' k d s' => ?_; obtain ⟨g2, m, l⟩ := k g' b w' (by rw [d.n0]; exact h0) s'; exact f st1 g2 b w' hk (d.trans m) l; have i : Sim g st a { w with drawn := w.drawn + 1 } := (hs.grown (w' := { w with drawn := w.drawn + 1 }) rfl (Vu _) (λ _ _ => rfl) g.I hs.I).1.cast_I (λ c => by
  show g.I c=if w.heap.size<=c then g.I c else g.I c;split<;>rfl)
 refine wp_mono (wp_region_any (Q:=λe a w=>e=.normal∧Q .normal a w) aP ?_) λe a w h=>h.1▸h.2;exact h _ _ _ h0 i hd _ (λc a w h=>by cases h.1) λst' g' b w' k' d s'=>⟨rfl,f st' g' b w' k' d s'⟩
def jF(P:aa)(k0:Nat)(ops:Array ai)(K:St->Prop)(st:St):Prop:=
 ∀(g:Gh)(a:Act)(w:ab),g.n0<=k0->Sim g st a w->cV g.N ops.toList=true->∀(Q:Exit->Act->ab->Prop),(∀st' g' b w',K st'->g.to g'->Sim g' st' b w'->Q .normal b w')->wpList P ops Q ops.toList a w
def AC(P:aa)(k0:Nat)(bad:bJ):Code->(Exit->St->Prop)->St->Prop
 |.skip,Q,st=>Q .normal st
 |.region id ops a,Q,st=>if a=true then(if nv bad id=true then bP P k0 ops (Q .normal) st else AV P ops.toList (Q .normal) st)else if nv bad id=true then jF P k0 ops (Q .normal) st else lL P ops.toList (Q .normal) ops.toList st
 |.seq x y,Q,st=>AC P k0 bad x (Kw (AC P k0 bad y Q) Q) st
 |.cond c x y,Q,st=>gc st c∧C8 (mv st c)∧(tX (mv st c)=true->AC P k0 bad x Q st)∧(tX (mv st c)=false->AC P k0 bad y Q st)
 |.block id x,Q,st=>AC P k0 bad x (zk id Q) st
 |.exit id,Q,st=>Q (.exit id) st
 |.ret,Q,st=>Q .ret st
 |.loop x,Q,st=>aM k0 (AC P k0 bad x) Q st
 |.label _,Q,st=>Q .normal st
 |.scope x,Q,st=>AC P k0 bad x (DO Q) st
 |_,_,_=>False
theorem aM.intro{α:Type}{P:aa}{k0:Nat}{bad:bJ}{x:Code}{Q:Exit->St->Prop}{st:St}(S:α->St)(J:α->Prop)(μ:α->Nat)(b:α)(g:av k0 st (S b))(e:J b)
 (f:∀y,J y->AC P k0 bad x (Kw (PW S J μ k0 (μ y)) Q) (S y)):aM k0 (AC P k0 bad x) Q st:=by
 refine⟨λn st=>∃y,n=μ y∧J y∧st=S y,⟨μ b,S b,g,b,rfl,e,rfl⟩,λn st ⟨y,hn,hy,hs⟩=>?_⟩;subst hn;subst hs;have:(λst'=>∃m a,m<μ y∧av k0 st' a∧∃z,m=μ z∧J z∧a=S z)=PW S J μ k0 (μ y):=by
  funext st';apply propext;constructor;rintro⟨m,a,h1,c,z,rfl,d,rfl⟩;exact⟨z,h1,d,c⟩;rintro⟨z,h1,c,d⟩;exact⟨_,_,h1,d,z,rfl,c,rfl⟩
 rw[this];exact f y hy
def pn(N:Nat)(bad:bJ):Code->Bool
 |.region id ops a=>cV N ops.toList&&(!a||(nv bad id||Gf ops.toList (de ops.toList)))
 |.seq x y=>pn N bad x&&pn N bad y
 |.cond _ x y=>pn N bad x&&pn N bad y
 |.block _ x=>pn N bad x
 |.loop x=>pn N bad x
 |.scope x=>pn N bad x
 |_=>true
theorem A4{P:aa}{c:Code}{Q:Exit->Act->ab->Prop}(I:Nat->Act->ab->Prop)(round:∀n a w,I n a w->c.wp P (Exit.then (λh w'=>∃m,m<n∧I m h w') Q) a w){n:Nat}{a:Act}{w:ab}(u:I n a w):(Code.loop c).wp P Q a w:=by
 intro b k cs;have key:∀n a w,I n a w->∃e h w',Q e h w'∧Arrives P (lone (b.at a (.code c::.inLoop c::k)) cs w) b k cs e h w':=by
  intro n
  induction n using Nat.strongRecOn with
  |_ n v=>
   intro a w t;obtain⟨e,i,j,f,d⟩:=round n a w t b (.inLoop c::k) cs;cases e with
   |normal=>
    obtain⟨m,p,o⟩:=f;obtain⟨s,r,y,q,g⟩:=v m p i j o;exact⟨s,r,y,q,.of_steps (Steps.trans d (.one step_inLoop)) g⟩
   |exit id=>exact⟨_,i,j,f,.pass (x:=.inLoop c) rfl (λ_ _=>.inl (by simp)) d⟩
   |goto l=>exact⟨_,i,j,f,.pass (x:=.inLoop c) rfl (λ_ _=>.inl (by simp)) d⟩
   |ret=>exact⟨_,i,j,f,.pass (x:=.inLoop c) rfl (λ_ _=>.inl (by simp)) d⟩
   |panic z=>exact⟨_,i,j,f,.pass (x:=.inLoop c) rfl (λ_ _=>.inl (by simp)) d⟩
   |outgrown=>exact⟨_,i,j,f,.pass (x:=.inLoop c) rfl (λ_ _=>.inl (by simp)) d⟩
 obtain⟨e,h,w',f,d⟩:=key _ a w u;exact⟨e,h,w',f,.of_steps (.one step_loop) d⟩
theorem pI{P:aa}{k0:Nat}{bad:bJ}(aP:P.follows .mixedOrders=true):∀(c:Code){Q:Exit->St->Prop}{st:St}(_:AC P k0 bad c Q st){g:Gh}{a:Act}{w:ab}(_:pn g.N bad c=true∧g.n0<=k0)(_:Sim g st a w){k:Exit->Act->ab->Prop}
 (_:∀e st' g' d w',Q e st'->g.to g'->Sim g' st' d w'->k e d w'),c.wp P k a w
 |.skip,Q,st,h,g,a,w,⟨ho,h0⟩,hs,k,b=>wp_skip (b _ _ g _ _ h hs.refl_to hs)
 |.exit id,Q,st,h,g,a,w,⟨ho,h0⟩,hs,k,b=>wp_exit (b _ _ g _ _ h hs.refl_to hs)
 |.ret,Q,st,h,g,a,w,⟨ho,h0⟩,hs,k,b=>wp_ret (b _ _ g _ _ h hs.refl_to hs)
 |.region id ops q,Q,st,h,g,a,w,⟨ho,h0⟩,hs,k,b=>by
  simp only[pn,VC,WI,Wp]at ho;simp only[AC]at h;cases q with
  |false=>
   rw[Vs (by simp)]at h;split at h;exact wp_region_list (h g a w h0 hs ho.1 _ λst' g' d w'=>b _ st' g' d w');exact wp_region_list (ud ops.toList h hs ho.1 λst' g' d w'=>b _ st' g' d w')
  |true=>
   rw[Vt rfl]at h;split at h;exact Ky aP h h0 hs ho.1 λst' g' d w'=>b _ st' g' d w';rename_i F;refine Kt aP ((ho.2.resolve_left (by simp)).resolve_left (by simpa using F)) h hs ho.1 λst' g' d w'=>b _ st' g' d w'
 |.seq x y,Q,st,h,g,a,w,⟨ho,h0⟩,hs,k,b=>by
  simp only[pn,VC]at ho;simp only[AC]at h;refine wp_seq (pI aP x h ⟨ho.1,h0⟩ hs λe st' g' d w' f j s'=>?_);cases e with
  |normal=>exact pI aP y f ⟨by rw[j.N];exact ho.2,by rw[j.n0];exact h0⟩ s' λA p g2 z R J O L=>b A p g2 z R J (j.trans O) L
  |exit id=>exact b _ st' g' d w' f j s'
  |goto l=>exact b _ st' g' d w' f j s'
  |ret=>exact b _ st' g' d w' f j s'
  |panic r=>exact b _ st' g' d w' f j s'
  |outgrown=>exact b _ st' g' d w' f j s'
 |.cond c x y,Q,st,h,g,a,w,⟨ho,h0⟩,hs,k,b=>by
  simp only[pn,VC]at ho;simp only[AC]at h;obtain⟨h1,o,t,C⟩:=h;exact wp_cond_split (ml hs h1 o) (λht=>pI aP x (t ht) ⟨ho.1,h0⟩ hs b) (λE=>pI aP y (C E) ⟨ho.2,h0⟩ hs b)
 |.block id x,Q,st,h,g,a,w,⟨ho,h0⟩,hs,k,b=>by
  simp only[pn]at ho;simp only[AC]at h;refine wp_block (pI aP x h ⟨ho,h0⟩ hs λe st' g' d w' f j s'=>?_);cases e with
  |exit i=>
   simp only[zk]at f;simp only[Exit.inBlock];split;rename_i s;rw[Vt s]at f;exact b _ st' g' d w' f j s';rename_i s;rw[Vs s]at f;exact b _ st' g' d w' f j s'
  |normal=>exact b _ st' g' d w' f j s'
  |goto l=>exact b _ st' g' d w' f j s'
  |ret=>exact b _ st' g' d w' f j s'
  |panic r=>exact b _ st' g' d w' f j s'
  |outgrown=>exact b _ st' g' d w' f j s'
 |.loop x,Q,st,h,g,a,w,⟨ho,h0⟩,hs,k,b=>by
  simp only[pn]at ho;simp only[AC]at h;unfold aM at h;obtain⟨I,⟨n,st1,H,D⟩,G⟩:=h;obtain⟨B,t1,K⟩:=H g a w h0 hs;refine A4 (λn a w=>∃st g',I n st∧g.to g'∧Sim g' st a w) (λn a w ⟨st,g',h1,o,t⟩=>?_) (n:=n) ⟨st1,B,D,t1,K⟩;refine pI aP x (G n st h1) ⟨by rw[o.N];exact ho,by rw[o.n0];exact h0⟩ t λe st' g2 d w' f j s'=>?_;cases e with
  |normal=>
   obtain⟨m,p,v,hwk,u⟩:=f;obtain⟨g3,t3,M⟩:=hwk g2 d w' (by rw[j.n0,o.n0];exact h0) s';exact⟨m,v,p,g3,u,(o.trans j).trans t3,M⟩
  |exit id=>exact b _ st' g2 d w' f (o.trans j) s'
  |goto l=>exact b _ st' g2 d w' f (o.trans j) s'
  |ret=>exact b _ st' g2 d w' f (o.trans j) s'
  |panic r=>exact b _ st' g2 d w' f (o.trans j) s'
  |outgrown=>exact b _ st' g2 d w' f (o.trans j) s'
 |.rangeFunc ..,_,_,h,_,_,_,_,_,_,_=>by simp only[AC]at h
 |.scope x,Q,st,h,g,a,w,⟨ho,h0⟩,hs,k,b=>by
  simp only[pn]at ho;simp only[AC]at h;refine wp_scope_straight (pI aP x h ⟨ho,h0⟩ hs λe st' g' d w' f j s'=>?_);cases e with
  |goto l=>exact f.elim
  |normal=>exact b _ st' g' d w' f j s'
  |exit i=>exact b _ st' g' d w' f j s'
  |ret=>exact b _ st' g' d w' f j s'
  |panic r=>exact b _ st' g' d w' f j s'
  |outgrown=>exact b _ st' g' d w' f j s'
 |.label _,Q,st,h,g,a,w,⟨ho,h0⟩,hs,k,b=>wp_label (b _ _ g _ _ h hs.refl_to hs)
 |.goto _,_,_,h,_,_,_,_,_,_,_=>by simp only[AC]at h
 |.refuse _,_,_,h,_,_,_,_,_,_,_=>by simp only[AC]at h
def gX:Nat->aD->List (Nat×SV)
 |_,[]=>[]
 |k,x::xs=>(k,.pv x)::gX (k+1) xs
def lM(K:St->Prop)(e:Exit)(st:St):Prop:=
 match e with
 |.normal=>K st
 |.ret=>K st
 |_=>False
def Oe(t:Nat)(R:SV->Prop)(st:St):Prop:=
 match look st.t t with
 |.pv x=>R (.pv x)
 |.own nw e rows=>R (.own nw e rows)
 |.omap nw es=>R (.omap nw es)
 |.al p=>(aj st p).isOwn=true∧R (aj st p)
 |.opt c (.pv x)=>c∧R (.pv x)
 |.loc p lo hi=>match aj st p with
  |.own nw e rows=>lo=0∧R (.own nw e (rows.take hi))
  |_=>False
 |_=>False
def Qm(ts:bJ)(R:SV->Prop)(st:St):Prop:=(dE st (ts.map .tmp)).2.2∧R (.pv (.tup (dE st (ts.map .tmp)).1))
theorem lN(g:Gh):∀(args:aD)(vs:aG)(k s:Nat),ax g args vs->∀(w:ab),aO g w (look (gX k args) s) (if s<k then undef else vs.getD (s -k) undef) none
 |[],vs,k,s,h,w=>⟨rfl,trivial⟩
 |x::xs,_,k,s,⟨v,r,h1,c,a⟩,w=>by
  subst h1;simp only[gX,look];by_cases e:k=s;subst e;rw[Vt rfl,Vs (by omega),Xr];exact⟨rfl,c⟩;rw[Vs e];by_cases b:s<k;rw[Vt b];have:=lN g xs r (k+1) s a w;rw[Vt (by omega)]at this;exact this;rw[Vs b];have:=lN g xs r (k+1) s a w;rw[Vs (by omega)]at this;rw[show s -k=(s -(k+1))+1 by omega];exact this
theorem mJ:∀(args:aD)(k s:Nat),(∃x,look (gX k args) s=.pv x)
 |[],_,_=>⟨_,rfl⟩
 |x::xs,k,s=>by
  simp only[gX,look];split;exact⟨_,rfl⟩;exact mJ xs (k+1) s
def mK(w:ab)(N:Nat):Gh:={dZ w with N:=N}
theorem xy{w:ab}{N:Nat}{args:aD}{vs:aG}(h:ax (dZ w) args vs):ax (mK w N) args vs:=ax.mono (g:=dZ w) (g':=mK w N) ⟨λ_ _ h=>h,Vu _,Vu _,λ_ _=>rfl⟩ _ _ h
theorem xz{w:ab}{N:Nat}{args:aD}{vs:aG}(h:ax (dZ w) args vs)(hn:args.length<=N):
 Sim (mK w N) ⟨gX 0 args,[]⟩ {tmps:=vs.toArray++Array.replicate (N -vs.toArray.size) undef,defers:=[]} w:=by
 have f:=h.length;have e:∀s,(vs.toArray++Array.replicate (N -vs.toArray.size) undef).getD s undef=vs.getD s undef:=by
  intro s;simp only[VJ,Vr,Y1,Ww,ZA,Xb];split;rfl;rename_i hs;rw[V4 (by omega)];split<;>rfl
 refine{
  size:=?_,defs:=rfl,env:=rfl,n:=rfl,n0:=Vu _,B:=Vu _,I:=λc o d=>d,F:=λc o d=>(by cases d),μI:=λb a=>absurd a (XD _),μinj:=λb b' a=>absurd a (XD _),
  own:=⟨λ_=>none,?_⟩,al:=λs=>?_}
 show(vs.toArray++Array.replicate (N -vs.toArray.size) undef).size=N;simp;omega;refine{slots:=λs=>?_,blocks:=λb xs hx=>(by simp at hx),inj:=λp q c hp=>(by cases hp),free:=λp c hp=>by cases hp};show aO _ w _ ((vs.toArray++Array.replicate (N -vs.toArray.size) undef).getD s undef) none;rw[e];have:=lN (mK w N) args vs 0 s (xy h) w;simpa using this;obtain⟨x,hx⟩:=mJ args 0 s;simp only[hx];trivial
theorem j0{w w':ab}{N:Nat}{g':Gh}{st':St}{b:Act}(ht:(mK w N).to g')(hs:Sim g' st' b w'):PureEnd w w' g':=by
 have a:∀c,c<w.heap.size->w'.heap[c]?=w.heap[c]?:=λc d=>by
  have:w.heap[c]?=some w.heap[c]:=VK d;rw[hs.I c _ (ht.I c _ this),this]
 refine⟨ht.B,hs.env.trans ht.env,a,?_,hs.I⟩;cases e:w.heap.size with
 |zero=>exact VH _
 |succ n=>
  have h1:=a n (by omega);rw[VK (show n<w.heap.size by omega)]at h1;have:=(VD.1 h1).1;omega
theorem ue{w w':ab}{N:Nat}{g':Gh}{st':St}{b:Act}(ht:(mK w N).to g'){bl:Pos->Option Nat}(d:Owns g' st' b w' bl){p:Pos}:∀c,bl p=some c->w.heap.size<=c∧g'.I c=none:=λc e=>by
 have h1:=(d.free p c e).1;refine⟨W5 λa=>?_,h1⟩;have:=ht.I c _ (show w.heap[c]?=some w.heap[c]from VK a);rw[h1]at this;cases this
theorem ra{P:aa}{bad:bJ}{f:az}{fn:Func}{c:Code}{args:aD}{R:SV->Prop}{K:St->Prop}(aP:P.follows .mixedOrders=true)(t:P.funcs[f]?=some fn)(a:aV P f=true)(s:fn.body=some c)(d:pn fn.ntmps bad c=true)
 (hn:args.length<=fn.ntmps) (h:AC P 0 bad c (lM K) ⟨gX 0 args,[]⟩)
 (q:∀(w w':ab)(g':Gh)(st':St)(b:Act),K st'->(mK w fn.ntmps).to g'->Sim g' st' b w'->∃v r g2 o,(results fn b.tmps).run P w'=.ok v w'∧R r∧PureEnd w w' g2∧aO g2 w' r v o∧r.inCell=true∧∀c,o=some c->w.heap.size<=c∧g2.I c=none):
 aw P f args R:=by
 refine⟨a,λw vs u=>?_⟩;refine calls_of_wp t s ?_;have hs:=xz (N:=fn.ntmps) u hn;refine pI aP c h (g:=mK w fn.ntmps) ⟨d,Vu _⟩ hs λe st' g' b w' i x s'=>?_;have fin:K st'->b.defers=[]∧∃v,(results fn b.tmps).run P w'=.ok v w'∧∃j r g' o,Ending.returned v=.returned j∧R r∧PureEnd w w' g'∧aO g' w' r j o∧r.inCell=true∧∀c,o=some c->w.heap.size<=c∧g'.I c=none:=λhk=>by
  obtain⟨v,r,g2,o,h1,k,l,m,n,p⟩:=q w w' g' st' b hk x s';exact⟨s'.defs,v,h1,v,r,g2,o,rfl,k,l,m,n,p⟩
 cases e with
 |normal=>exact fin i
 |ret=>exact fin i
 |_=>exact i.elim
theorem re{P:aa}(bad:bJ){f:az}{fn:Func}{c:Code}{args:aD}{R:SV->Prop}{t:Nat}(aP:P.follows .mixedOrders=true)(n:P.funcs[f]?=some fn)(h:AC P 0 bad c (lM (Oe t R)) ⟨gX 0 args,[]⟩)(i:aV P f=true:=by kernel_rfl)(g:fn.body=some c:=by rfl)(j:fn.results=#[.tmp t]:=by rfl) (m:pn fn.ntmps bad c=true:=by kernel_rfl) (hn:args.length<=fn.ntmps:=by exact WC rfl):aw P f args R:=by
 refine ra aP n i g m hn h λw w' g' st' q hk k s'=>?_;obtain⟨bl,g⟩:=s'.own;have a:=g.slots t;have d:=s'.al t;have b:=j0 k s';unfold Oe at hk;split at hk;rename_i x hx;rw[hx]at a;exact⟨_,.pv x,g',none,results_tmp j _ _ _,hk,b,⟨rfl,a.2⟩,rfl,λc l=>by cases l⟩;rename_i nw e rows hx;rw[hx]at a;exact⟨_,_,g',_,results_tmp j _ _ _,hk,b,a,rfl,ue k g⟩;rename_i nw es hx;rw[hx]at a;exact⟨_,_,g',_,results_tmp j _ _ _,hk,b,a,rfl,ue k g⟩;rename_i p hx;rw[hx]at d;have o:=d hk.1;refine⟨_,aj st' p,g',bl p,results_tmp j _ _ _,hk.2,b,by rw[o];exact bT g hk.1,?_,ue k g⟩;cases hp:aj st' p<;>first|rfl|(rw[hp]at hk;cases hk.1)
 rename_i r x hx;rw[hx]at a;exact⟨_,.pv x,g',none,results_tmp j _ _ _,hk.2,b,⟨rfl,(a.2.2 hk.1).2⟩,rfl,λc l=>by cases l⟩;rename_i p lo hi hx;rw[hx]at d;split at hk;rename_i nw e rows hp;obtain⟨rfl,hk⟩:=hk;exact⟨_,_,g',bl p,results_tmp j _ _ _,hk,b,t7 g hp d,rfl,ue k g⟩;exact hk.elim;exact hk.elim
theorem aB{P:aa}{f:az}{fn:Func}{c:Code}{args:aD}{R:SV->Prop}{t:Nat}(aP:P.follows .mixedOrders=true)(e:P.funcs[f]?=some fn)(h:AC P 0 [] c (lM (Oe t R)) ⟨gX 0 args,[]⟩)(a:aV P f=true:=by kernel_rfl)(d:fn.body=some c:=by rfl)(g:fn.results=#[.tmp t]:=by rfl) (b:pn fn.ntmps [] c=true:=by kernel_rfl) (hn:args.length<=fn.ntmps:=by exact WC rfl):aw P f args R:=re [] aP e h a d g b hn
def Qn(P:aa)(t:Nat)(T:ah)(R:SV->Prop)(st:St):Prop:=
 gc st (.tmp t)∧(C9 P st T (mv st (.tmp t))).2∧yN (C9 P st T (mv st (.tmp t))).1∧R (C9 P st T (mv st (.tmp t))).1
theorem zn{P:aa}{fn:Func}{t:Nat}{T:ah}(e:fn.results=#[.cell t T]) {g:Gh} {st:St} {a:Act} {w:ab} (hs:Sim g st a w) (d:gc st (.tmp t)) (hd:(C9 P st T (mv st (.tmp t))).2):
 ∃v,(results fn a.tmps).run P w=.ok v w∧aO g w (C9 P st T (mv st (.tmp t))).1 v none:=by
 obtain⟨v,h1,c,_⟩:=Dh (P:=P) (st:=st) {dst:=none,op:=.load T (.tmp t),type:=0,pos:= "",after:=#[],guard:=none} T (.tmp t) rfl g a w hs ⟨d,hd⟩;refine⟨v,?_,c⟩;simp only[execOp,Act.eval]at h1;have key:(asAddr (a.tmps.getD t undef)>>=loadVar T).run P w=.ok v w:=by
  generalize a.tmps.getD t undef=u at h1;cases u with
  |pointer q=>
   cases q with
   |some q=>
    simp only[Instr.loadAt,Instr.sureAddr,bD,bN,bK]at h1;simp only[asAddr,bD,bN,bK];cases b:(loadVar T q).run P w with
    |ok x f=>rw[b]at h1;simp at h1;obtain⟨rfl,rfl⟩:=h1;rfl
    |halt x f=>rw[b]at h1;cases h1
   |none=>simp[Instr.loadAt,Instr.sureAddr,stuck]at h1
  |_=>simp[Instr.loadAt,Instr.sureAddr,stuck]at h1
 simp only[results,e];simpa using key
theorem Of{P:aa}(bad:bJ){f:az}{fn:Func}{c:Code}{args:aD}{R:SV->Prop}{t:Nat}{T:ah}(aP:P.follows .mixedOrders=true)(l:P.funcs[f]?=some fn)(h:AC P 0 bad c (lM (Qn P t T R)) ⟨gX 0 args,[]⟩)(a:aV P f=true:=by kernel_rfl)(j:fn.body=some c:=by rfl)(m:fn.results=#[.cell t T]:=by rfl) (d:pn fn.ntmps bad c=true:=by kernel_rfl) (hn:args.length<=fn.ntmps:=by exact WC rfl):aw P f args R:=by
 refine ra aP l a j d hn h λw w' g' st' p hk o s'=>?_;obtain⟨h1,g,i,e⟩:=hk;obtain⟨v,n,b⟩:=zn (P:=P) m s' h1 g;rw[ms i]at b e;exact⟨_,_,g',none,n,e,j0 o s',b,rfl,λc k=>by cases k⟩
theorem Qo{P:aa}{f:az}{fn:Func}{c:Code}{args:aD}{R:SV->Prop}{t:Nat}{T:ah}(aP:P.follows .mixedOrders=true)(e:P.funcs[f]?=some fn)(h:AC P 0 [] c (lM (Qn P t T R)) ⟨gX 0 args,[]⟩)(a:aV P f=true:=by kernel_rfl)(d:fn.body=some c:=by rfl)(g:fn.results=#[.cell t T]:=by rfl) (b:pn fn.ntmps [] c=true:=by kernel_rfl) (hn:args.length<=fn.ntmps:=by exact WC rfl):aw P f args R:=Of [] aP e h a d g b hn
theorem Og{P:aa}(bad:bJ){f:az}{fn:Func}{c:Code}{args:aD}{R:SV->Prop}(ts:bJ)(aP:P.follows .mixedOrders=true)(i:P.funcs[f]?=some fn)(j:∀tmps w,(results fn tmps).run P w=.ok (.tuple (ts.map λt=>tmps.getD t undef).toArray) w)(h:AC P 0 bad c (lM (Qm ts R)) ⟨gX 0 args,[]⟩)(a:aV P f=true:=by kernel_rfl)(e:fn.body=some c:=by rfl)(b:pn fn.ntmps bad c=true:=by kernel_rfl)(hn:args.length<=fn.ntmps:=by exact WC rfl):aw P f args R:=by
 refine ra aP i a e b hn h λw w' g' st' n hk l s'=>?_;obtain⟨g2,m,_,_,k,d⟩:=oI _ s' hk.1;refine⟨_,_,g2,none,j _ _,hk.2,j0 (l.trans m) k,⟨rfl,_,rfl,?_⟩,rfl,λc g=>by cases g⟩;simpa[Wo,YL,Act.eval]using d
theorem sx{P:aa}{f:az}{fn:Func}{c:Code}{args:aD}{R:SV->Prop}(ts:bJ)(aP:P.follows .mixedOrders=true)(e:P.funcs[f]?=some fn)(g:∀tmps w,(results fn tmps).run P w=.ok (.tuple (ts.map λt=>tmps.getD t undef).toArray) w)(h:AC P 0 [] c (lM (Qm ts R)) ⟨gX 0 args,[]⟩)(a:aV P f=true:=by kernel_rfl)(d:fn.body=some c:=by rfl)(b:pn fn.ntmps [] c=true:=by kernel_rfl)(hn:args.length<=fn.ntmps:=by exact WC rfl):aw P f args R:=Og [] ts aP e g h a d b hn
def zo(P:aa)(st:St):ResultVar->PV×St×Prop
 |.tmp t=>cR st (.tmp t)
 | .cell t T => (mr (C9 P (iD P st T (.tmp t)) T (mv (iD P st T (.tmp t)) (.tmp t))).1, iD P st T (.tmp t),
  gc (iD P st T (.tmp t)) (.tmp t)∧(C9 P (iD P st T (.tmp t)) T (mv (iD P st T (.tmp t)) (.tmp t))).2∧yN (C9 P (iD P st T (.tmp t)) T (mv (iD P st T (.tmp t)) (.tmp t))).1)
def gY(P:aa)(st:St):List ResultVar->aD×St×Prop
 |[]=>([],st,True)
 |r::rs=>((zo P st r).1::(gY P (zo P st r).2.1 rs).1,(gY P (zo P st r).2.1 rs).2.1,(zo P st r).2.2∧(gY P (zo P st r).2.1 rs).2.2)
def nT:aD->PV
 |[x]=>x
 |xs=>.tup xs
def uO(tmps:Array an):ResultVar->Sem an
 |.tmp t=>pure (tmps.getD t undef)
 |.cell a t=>do loadVar t (←asAddr (tmps.getD a undef))
theorem A5{P:aa}{t:Nat}{T:ah}{g:Gh}{st:St}{a:Act}{w:ab}(hs:Sim g st a w)(d:gc st (.tmp t))(hd:(C9 P st T (mv st (.tmp t))).2):
 ∃v,(uO a.tmps (.cell t T)).run P w=.ok v w∧aO g w (C9 P st T (mv st (.tmp t))).1 v none:=by
 obtain⟨v,h1,c,_⟩:=Dh (P:=P) (st:=st) {dst:=none,op:=.load T (.tmp t),type:=0,pos:= "",after:=#[],guard:=none} T (.tmp t) rfl g a w hs ⟨d,hd⟩;refine⟨v,?_,c⟩;simp only[execOp,Act.eval]at h1;have key:(asAddr (a.tmps.getD t undef)>>=loadVar T).run P w=.ok v w:=by
  generalize a.tmps.getD t undef=u at h1;cases u with
  |pointer q=>
   cases q with
   |some q=>
    simp only[Instr.loadAt,Instr.sureAddr,bD,bN,bK]at h1;simp only[asAddr,bD,bN,bK];cases b:(loadVar T q).run P w with
    |ok x e=>rw[b]at h1;simp at h1;obtain⟨rfl,rfl⟩:=h1;rfl
    |halt x e=>rw[b]at h1;cases h1
   |none=>simp[Instr.loadAt,Instr.sureAddr,stuck]at h1
  |_=>simp[Instr.loadAt,Instr.sureAddr,stuck]at h1
 exact key
theorem Oh{P:aa}(r:ResultVar){g:Gh}{st:St}{a:Act}{w:ab}(h:Sim g st a w)(hd:(zo P st r).2.2):
 ∃g',g.to g'∧g.le g'∧g'.n=g.n∧Sim g' (zo P st r).2.1 a w∧∃v,(uO a.tmps r).run P w=.ok v w∧Fit g' (zo P st r).1 v:=by
 cases r with
 |tmp t=>
  obtain⟨c,t1,d,e,b,i⟩:=nK h (.tmp t) hd;exact⟨c,t1,d,e,b,a.tmps.getD t undef,rfl,i⟩
 |cell t T=>
  obtain⟨h1,j,k⟩:=hd;obtain⟨c,t1,d,e,b⟩:=xu (P:=P) T (.tmp t) h;obtain⟨v,l,f⟩:=A5 b h1 j;rw[ms k]at f;exact⟨c,t1,d,e,b,v,l,f.2⟩
theorem oQ{P:aa}:∀(rs:List ResultVar){g:Gh}{st:St}{a:Act}{w:ab},Sim g st a w->(gY P st rs).2.2->
 ∃g',g.to g'∧g.le g'∧g'.n=g.n∧Sim g' (gY P st rs).2.1 a w∧∃vs,(rs.mapM (uO a.tmps)).run P w=.ok vs w∧ax g' (gY P st rs).1 vs
 |[],g,st,a,w,h,_=>⟨g,h.refl_to,Gh.le.refl g,rfl,h,[],rfl,rfl⟩
 |r::rs,g,st,a,w,h,hd=>by
  obtain⟨x,t1,e,f,s,v,k,m⟩:=Oh r h hd.1;obtain⟨g2,u,d,j,t,vs,l,p⟩:=oQ rs s hd.2;refine⟨g2,t1.trans u,⟨λc o q=>d.I _ _ (e.I _ _ q),Wb d.B e.B,by rw[j,f];exact Vu _,λb i=>by rw[d.μ b (by rw[f];exact i),e.μ b i]⟩,j.trans f,t,v::vs,?_,v,vs,rfl,Fit.mono d _ _ m,p⟩;simp only[List.mapM_cons,bD,k,bK,l,bN]
theorem i7{P:aa}{fn:Func}{rs:List ResultVar}(j:fn.results=rs.toArray){g:Gh}{a:Act}{w:ab}{xs:aD}{vs:aG}(d:xs.length=rs.length)(h:(rs.mapM (uO a.tmps)).run P w=.ok vs w)(c:ax g xs vs):
 ∃v,(results fn a.tmps).run P w=.ok v w∧Fit g (nT xs) v:=by
 have i:results fn a.tmps=(do let vs←fn.results.mapM (uO a.tmps);pure (if h:vs.size=1 then vs[0]else .tuple vs)):=by
  unfold results;congr 1
 have b:=c.length;rw[i,j,List.mapM_toArray];simp only[bD,Sem.run_map,h,bK,bN];by_cases h1:vs.length=1;obtain⟨v,rfl⟩:=XQ.1 h1;obtain⟨x,rfl⟩:∃x,xs=[x]:=XQ.1 (by rw[←b];rfl);refine⟨v,by simp,?_⟩;obtain⟨k,r,e,f,_⟩:=c;cases e;exact f;refine⟨.tuple vs.toArray,by rw[dif_neg (by simpa using h1)],?_⟩;have:nT xs=.tup xs:=by
  match xs,b with
  |[],_=>rfl
  |[x],d=>exact absurd d h1
  |x::y::r,_=>rfl
 rw[this];exact⟨vs.toArray,rfl,by simpa using c⟩
theorem lO{P:aa}:∀(rs:List ResultVar)(st:St),(gY P st rs).1.length=rs.length
 |[],_=>rfl
 |r::rs,st=>by simp only[gY,VR,lO rs]
def R5(P:aa)(rs:List ResultVar)(R:SV->Prop)(st:St):Prop:=(gY P st rs).2.2∧R (.pv (nT (gY P st rs).1))
theorem iF{P:aa}(bad:bJ){f:az}{fn:Func}{c:Code}{args:aD}{R:SV->Prop}(rs:List ResultVar)(aP:P.follows .mixedOrders=true)(l:P.funcs[f]?=some fn)(h:AC P 0 bad c (lM (R5 P rs R)) ⟨gX 0 args,[]⟩)(a:aV P f=true:=by kernel_rfl)(j:fn.body=some c:=by rfl)(m:fn.results=rs.toArray:=by rfl)(b:pn fn.ntmps bad c=true:=by kernel_rfl)(hn:args.length<=fn.ntmps:=by exact WC rfl):aw P f args R:=by
 refine ra aP l a j b hn h λw w' g' st' q hk o s'=>?_;obtain⟨g2,p,r,s,n,vs,d,g⟩:=oQ rs s' hk.1;obtain⟨v,e,i⟩:=i7 m (lO rs st') d g;exact⟨v,_,g2,none,e,hk.2,j0 (o.trans p) n,⟨rfl,i⟩,rfl,λc k=>by cases k⟩
section
open Classical
noncomputable def NV (g:Gh) (w:ab) (bl:Pos->Option Nat) (N:Nat):Gh:=
 {I:=g.I,F:=λc=>if∃s,bl (.slot s)=some c then w.heap[c]?else g.F c,B:=g.B,μ:=g.μ,n:=g.n,n0:=g.n,N:=N,env:=g.env}
theorem A6{g:Gh}{st:St}{a:Act}{w:ab}{bl:Pos->Option Nat}(d:Owns g st a w bl)(N:Nat){s c:Nat}(h:bl (.slot s)=some c):∃o,(NV g w bl N).F c=some o∧w.heap[c]?=some o:=by
 have b:=(d.free _ c h).2.2.1;refine⟨w.heap[c],?_,VK b⟩;show(if∃s,bl (.slot s)=some c then w.heap[c]?else g.F c)=_;rw[Vt ⟨s,h⟩,VK b]
theorem uP{g:Gh}{st:St}{a:Act}{w:ab}{bl:Pos->Option Nat}(d:Owns g st a w bl){N c:Nat}(h:(NV g w bl N).F c=none):g.F c=none∧∀s,bl (.slot s)≠some c:=by
 have b:∀s,bl (.slot s)≠some c:=λs hs=>by
  obtain⟨o,h1,_⟩:=A6 d N hs;rw[h]at h1;cases h1
 refine⟨?_,b⟩;have:(if∃s,bl (.slot s)=some c then w.heap[c]?else g.F c)=none:=h
 rwa [Vs (λ⟨s,hs⟩=>b s hs)]at this
theorem Kz{g:Gh}{st:St}{a:Act}{w:ab}(h:Sim g st a w){bl:Pos->Option Nat}(e:Owns g st a w bl){N:Nat}{args:aD}{vs:aG}(m:ax g args vs)(hn:args.length<=N):
 Sim (NV g w bl N) ⟨gX 0 args,st.h⟩ {tmps:=vs.toArray++Array.replicate (N -vs.toArray.size) undef,defers:=[]} w:=by
 have z:=m.length;have hle:g.le (NV g w bl N):=⟨λ_ _ h=>h,Vu _,Vu _,λ_ _=>rfl⟩;have i:∀s,(vs.toArray++Array.replicate (N -vs.toArray.size) undef).getD s undef=vs.getD s undef:=by
  intro s;simp only[VJ,Vr,Y1,Ww,ZA,Xb];split;rfl;rename_i hs;rw[V4 (by omega)];split<;>rfl
 refine{
  size:=?_,defs:=rfl,env:=h.env,n:=h.n,n0:=Vu _,B:=h.B,I:=h.I,F:=λc o f=>?_,μI:=λb d=>⟨(h.μI b d).1,?_⟩,μinj:=h.μinj,
  own:=⟨λp=>match p with|.slot _=>none|.cell b k=>bl (.cell b k),?_⟩,al:=λs=>?_}
 show(vs.toArray++Array.replicate (N -vs.toArray.size) undef).size=N;simp;omega
 change(if∃s,bl (.slot s)=some c then w.heap[c]?else g.F c)=some o at f
 split at f;exact f;exact h.F c o f;show(if∃s,bl (.slot s)=some (g.μ b)then w.heap[g.μ b]?else g.F (g.μ b))=none;rw[Vs (λ⟨s,hs⟩=>(e.free _ _ hs).2.2.2 b d rfl)];exact(h.μI b d).2;refine{slots:=λs=>?_,blocks:=λb xs hx=>?_,inj:=λp q c hp l=>?_,free:=λp c hp=>?_};show aO _ w _ ((vs.toArray++Array.replicate (N -vs.toArray.size) undef).getD s undef) none;rw[i];have:=lN (NV g w bl N) args vs 0 s (ax.mono hle _ _ m) w;simpa using this;obtain⟨arr,T,h1,y,j⟩:=e.blocks b xs hx;exact⟨arr,T,h1,y,λk x hk=>⟨(j k x hk).1,aO.frame hle (λ_ _=>rfl) (j k x hk).2⟩⟩;cases p with
 |slot s=>cases hp
 |cell b k=>
  cases q with
  |slot s=>cases l
  |cell b' k'=>exact e.inj _ _ c hp l
 cases p with
 |slot s=>cases hp
 |cell b k=>
  obtain⟨r,t,u,v⟩:=e.free _ c hp;refine⟨r,?_,u,v⟩;show(if∃s,bl (.slot s)=some c then w.heap[c]?else g.F c)=none;rw[Vs (λ⟨s,hs⟩=>by have:=e.inj _ _ c hs hp;cases this)];exact t
 obtain⟨x,hx⟩:=mJ args 0 s;simp only[hx];trivial
def uQ(g g2:Gh):Gh:={g2 with F:=g.F,n0:=g.n0,N:=g.N}
theorem KA{g:Gh}{st:St}{a:Act}{w:ab}(h:Sim g st a w){bl:Pos->Option Nat}(i:Owns g st a w bl){N:Nat}{g2:Gh}(t:(NV g w bl N).to g2):g.to (uQ g g2):=
 ⟨t.I,rfl,t.B,rfl,rfl,t.env,Wb h.n0 t.n,λb d=>t.μ b (WK d h.n0),λc e f=>t.FI c (λhn=>e (uP i hn).1) f⟩
theorem Gj{g:Gh}{st:St}{a:Act}{w:ab}(h:Sim g st a w){bl:Pos->Option Nat}(A:Owns g st a w bl){N:Nat}{g2:Gh}(t:(NV g w bl N).to g2){j:St}{M:Act}{C:ab}(l:Sim g2 j M C)
 {y:Pos->Option Nat} (f:Owns g2 j M C y):Sim (uQ g g2) ⟨aW fE st.t,j.h⟩ a C∧
  Owns (uQ g g2) ⟨aW fE st.t,j.h⟩ a C (λp=>match p with|.slot s=>bl (.slot s)|.cell b k=>y (.cell b k)):=by
 have m:g2.F=(NV g w bl N).F:=t.F;have hle:g.le (uQ g g2):=⟨t.I,by show g2.B<=g.B;rw[t.B];exact Vu _,t.n,λb d=>t.μ b d⟩;have E:g2.le (uQ g g2):=⟨λ_ _ h=>h,Vu _,Vu _,λ_ _=>rfl⟩;have i:∀s c,bl (.slot s)=some c->∃o,g2.F c=some o∧w.heap[c]?=some o∧C.heap[c]?=some o:=λs c hs=>by
  obtain⟨o,h1,D⟩:=A6 A N hs;rw[←m]at h1;exact⟨o,h1,D,l.F c o h1⟩
 have r:∀c,g2.F c=none->g.F c=none∧∀s,bl (.slot s)≠some c:=λc u=>uP (N:=N) A (by rw[←m];exact u);have v:Owns (uQ g g2) ⟨aW fE st.t,j.h⟩ a C (λp=>match p with|.slot s=>bl (.slot s)|.cell b k=>y (.cell b k)):=by
  refine{slots:=λs=>?_,blocks:=λb xs hx=>?_,inj:=λp q c hp G=>?_,free:=λp c hp=>?_};simp only[bI];exact aO.frame hle (λc u=>by obtain⟨o,_,D,z⟩:=i s c u;rw[D,z]) (aO.kill fE (A.slots s));obtain⟨arr,T,h1,D,z⟩:=f.blocks b xs hx;exact⟨arr,T,h1,D,λk x hk=>⟨(z k x hk).1,aO.frame E (λ_ _=>rfl) (z k x hk).2⟩⟩;cases p with
  |slot s=>
   cases q with
   |slot s'=>exact A.inj _ _ c hp G
   |cell b k=>exact absurd hp ((r c (f.free _ c G).2.1).2 s)
  |cell b k=>
   cases q with
   |slot s'=>exact absurd G ((r c (f.free _ c hp).2.1).2 s')
   |cell b' k'=>exact f.inj _ _ c hp G
  cases p with
  |slot s=>
   obtain⟨H,J,O,P⟩:=A.free _ c hp;obtain⟨o,h1,_,z⟩:=i s c hp;refine⟨t.FI c (λhn=>by rw[m,hn]at h1;cases h1) H,J,(VD.1 z).1,λb d e=>?_⟩;have:=(l.μI b d).2
   change g2.μ b=c at e
   rw[e,h1]at this;cases this
  |cell b k=>
   obtain⟨H,J,O,P⟩:=f.free _ c hp;exact⟨H,(r c J).1,O,P⟩
 refine⟨{size:=h.size,defs:=h.defs,env:=l.env,n:=l.n,n0:=Wb h.n0 t.n,B:=l.B,I:=l.I,F:=λc o u=>?_,μI:=λb d=>⟨(l.μI b d).1,(r _ (l.μI b d).2).1⟩,μinj:=l.μinj,own:=⟨_,v⟩,al:=λs=>?_},v⟩;refine l.F c o ?_;rw[m];show(if∃s,bl (.slot s)=some c then w.heap[c]?else g.F c)=some o;rw[Vs (λ⟨s,hs⟩=>by have:=(A.free _ c hs).2.1;change g.F c=some o at u;rw[this]at u;cases u)];exact u;simp only[bI];rcases b6 fE (look st.t s)with e|⟨e,K⟩;rw[e];trivial;rw[e];refine cL.congrA (q:=fE) (λp L hp=>?_) K (h.al s);cases p with
 |cell b k=>cases L
 |slot s'=>
  simp only[aj,bI]at hp⊢;exact⟨fh hp,rfl⟩
theorem oR{P:aa}{bad:bJ}{f:az}{fn:Func}{c:Code}{args:aD}{h:ao}{R:SV->ao->Prop}{K:St->Prop}(aP:P.follows .mixedOrders=true)(hf:P.funcs[f]?=some fn)(y:aV P f=true)(hb:fn.body=some c)
 (G:pn fn.ntmps bad c=true) (hn:args.length<=fn.ntmps) (hA:AC P h.length bad c (lM K) ⟨gX 0 args,h⟩)
 (hK:∀(g':Gh)(st':St)(u:Act)(w':ab),K st'->g'.n0<=h.length->Sim g' st' u w'->∃v r g2 l m o,(results fn u.tmps).run P w'=.ok v w'∧g'.to g2∧Sim g2 l u w'∧Owns g2 l u w' m∧R r l.h∧aO g2 w' r v o∧r.inCell=true∧∀c,o=some c->∃t,m (.slot t)=some c):
 aI P f args h R:=by
 refine⟨y,λg st a w vs hs E hv=>?_⟩;refine calls_of_wp hf hb ?_;obtain⟨bl,q⟩:=hs.own;have B:=Kz hs q (N:=fn.ntmps) hv hn;rw[E]at B;refine pI aP c hA (g:=NV g w bl fn.ntmps) ⟨G,by show g.n<=h.length;rw[hs.n,E];exact Vu _⟩ B λe st' g' u w' H L s'=>?_;have fin:K st'->u.defers=[]∧∃v,(results fn u.tmps).run P w'=.ok v w'∧∃M r h' g',Ending.returned v=.returned M∧R r h'∧g.to g'∧∀d,cX g.N d->Sim g' (jE d r ⟨aW fE st.t,h'⟩) (a.put d M) w':=λhk=>by
  obtain⟨v,r,g2,l,m,o,h1,U,V,D,W,X,Y,Z⟩:=hK g' st' u w' hk (by rw[L.n0];show g.n<=_;rw[hs.n,E];exact Vu _) s';have I:=L.trans U;obtain⟨C,J⟩:=Gj hs q I V D;refine⟨s'.defs,v,h1,v,r,l.h,uQ g g2,rfl,W,KA hs q I,λd hd=>?_⟩;have A:g2.le (uQ g g2):=⟨λ_ _ h=>h,Vu _,Vu _,λ_ _=>rfl⟩;have i:aO (uQ g g2) w' r v o:=aO.frame A (λ_ _=>rfl) X;cases d with
  |none=>exact C
  |some d=>
   have j:∀c,o=some c->c<w'.heap.size∧FreeAt (uQ g g2) (λp=>match p with|.slot s=>bl (.slot s)|.cell b k=>m (.cell b k)) c:=λc hc=>by
    obtain⟨t,ht⟩:=Z c hc;obtain⟨O,Q,S,T⟩:=D.free _ c ht;have z:=uP (N:=fn.ntmps) q (c:=c) (by rw[←I.F];exact Q);refine⟨S,O,z.1,T,λp hp=>?_⟩;cases p with
    |slot s=>exact z.2 s hp
    |cell b k=>have:=D.inj _ _ c ht hp;cases this
   cases r with
   |pv x=>exact C.put hd (by rw[i.1]at i;exact i) trivial rfl
   |own nw e rows=>exact C.putOwn J hd rfl (Vu _) (λ_ _ _=>rfl) i rfl j
   |omap nw es=>exact C.putOwn J hd rfl (Vu _) (λ_ _ _=>rfl) i rfl j
   |_=>cases Y
 cases e with
 |normal=>exact fin H
 |ret=>exact fin H
 |_=>exact H.elim
def Oi(t:Nat)(R:SV->ao->Prop)(st:St):Prop:=
 match look st.t t with
 |.pv x=>R (.pv x) st.h
 |.own nw e rows=>R (.own nw e rows) st.h
 |.omap nw es=>R (.omap nw es) st.h
 |.opt c (.pv x)=>c∧R (.pv x) st.h
 |_=>False
def KB(ts:bJ)(R:SV->ao->Prop)(st:St):Prop:=(dE st (ts.map .tmp)).2.2∧R (.pv (.tup (dE st (ts.map .tmp)).1)) (dE st (ts.map .tmp)).2.1.h
theorem Qp{P:aa}(bad:bJ){f:az}{fn:Func}{c:Code}{args:aD}{h:ao}{R:SV->ao->Prop}{t:Nat}(aP:P.follows .mixedOrders=true)(l:P.funcs[f]?=some fn)(k:AC P h.length bad c (lM (Oi t R)) ⟨gX 0 args,h⟩)(g:aV P f=true:=by kernel_rfl)(b:fn.body=some c:=by rfl)(i:fn.results=#[.tmp t]:=by rfl) (j:pn fn.ntmps bad c=true:=by kernel_rfl) (hn:args.length<=fn.ntmps:=by exact WC rfl):aI P f args h R:=by
 refine oR aP l g b j hn k λg' st' m w' hk _ s'=>?_;obtain⟨bl,b⟩:=s'.own;have a:=b.slots t;unfold Oi at hk;split at hk;rename_i x hx;rw[hx]at a;exact⟨_,.pv x,g',st',bl,none,results_tmp i _ _ _,s'.refl_to,s',b,hk,⟨rfl,a.2⟩,rfl,λc d=>by cases d⟩;rename_i nw e rows hx;rw[hx]at a;exact⟨_,_,g',st',bl,_,results_tmp i _ _ _,s'.refl_to,s',b,hk,a,rfl,λc d=>⟨t,d⟩⟩;rename_i nw es hx;rw[hx]at a;exact⟨_,_,g',st',bl,_,results_tmp i _ _ _,s'.refl_to,s',b,hk,a,rfl,λc d=>⟨t,d⟩⟩;rename_i n x hx;rw[hx]at a;exact⟨_,.pv x,g',st',bl,none,results_tmp i _ _ _,s'.refl_to,s',b,hk.2,⟨rfl,(a.2.2 hk.1).2⟩,rfl,λc d=>by cases d⟩;exact hk.elim
theorem lg{P:aa}{f:az}{fn:Func}{c:Code}{args:aD}{h:ao}{R:SV->ao->Prop}{t:Nat}(aP:P.follows .mixedOrders=true)(g:P.funcs[f]?=some fn)(d:AC P h.length [] c (lM (Oi t R)) ⟨gX 0 args,h⟩)(a:aV P f=true:=by kernel_rfl)(e:fn.body=some c:=by rfl)(i:fn.results=#[.tmp t]:=by rfl) (b:pn fn.ntmps [] c=true:=by kernel_rfl) (hn:args.length<=fn.ntmps:=by exact WC rfl):aI P f args h R:=Qp [] aP g d a e i b hn
theorem KC{P:aa}(bad:bJ){f:az}{fn:Func}{c:Code}{args:aD}{h:ao}{R:SV->ao->Prop}(ts:bJ)(aP:P.follows .mixedOrders=true)(m:P.funcs[f]?=some fn)(n:∀tmps w,(results fn tmps).run P w=.ok (.tuple (ts.map λt=>tmps.getD t undef).toArray) w)(j:AC P h.length bad c (lM (KB ts R)) ⟨gX 0 args,h⟩)(a:aV P f=true:=by kernel_rfl)(k:fn.body=some c:=by rfl)(e:pn fn.ntmps bad c=true:=by kernel_rfl)(hn:args.length<=fn.ntmps:=by exact WC rfl):aI P f args h R:=by
 refine oR aP m a k e hn j λg' st' p w' hk _ s'=>?_;obtain⟨g2,o,_,_,g,i⟩:=oI _ s' hk.1;obtain⟨b,d⟩:=g.own;refine⟨_,_,g2,_,b,none,n _ _,o,g,d,hk.2,⟨rfl,_,rfl,?_⟩,rfl,λc l=>by cases l⟩;simpa[Wo,YL,Act.eval]using i
theorem xA{P:aa}{f:az}{fn:Func}{c:Code}{args:aD}{h:ao}{R:SV->ao->Prop}(ts:bJ)(aP:P.follows .mixedOrders=true)(g:P.funcs[f]?=some fn)(i:∀tmps w,(results fn tmps).run P w=.ok (.tuple (ts.map λt=>tmps.getD t undef).toArray) w)(d:AC P h.length [] c (lM (KB ts R)) ⟨gX 0 args,h⟩)(a:aV P f=true:=by kernel_rfl)(e:fn.body=some c:=by rfl)(b:pn fn.ntmps [] c=true:=by kernel_rfl)(hn:args.length<=fn.ntmps:=by exact WC rfl):aI P f args h R:=KC [] ts aP g i d a e b hn
def PZ(P:aa)(rs:List ResultVar)(R:SV->ao->Prop)(st:St):Prop:=(gY P st rs).2.2∧R (.pv (nT (gY P st rs).1)) (gY P st rs).2.1.h
theorem dh{P:aa}(bad:bJ){f:az}{fn:Func}{c:Code}{args:aD}{h:ao}{R:SV->ao->Prop}(rs:List ResultVar)(aP:P.follows .mixedOrders=true)(p:P.funcs[f]?=some fn)(m:AC P h.length bad c (lM (PZ P rs R)) ⟨gX 0 args,h⟩)(a:aV P f=true:=by kernel_rfl)(n:fn.body=some c:=by rfl)(q:fn.results=rs.toArray:=by rfl)(e:pn fn.ntmps bad c=true:=by kernel_rfl)(hn:args.length<=fn.ntmps:=by exact WC rfl):aI P f args h R:=by
 refine oR aP p a n e hn m λg' st' s w' hk _ s'=>?_;obtain⟨g2,r,t,u,g,vs,i,k⟩:=oQ rs s' hk.1;obtain⟨v,j,l⟩:=i7 q (lO rs st') i k;obtain⟨b,d⟩:=g.own;exact⟨v,_,g2,_,b,none,j,r,g,d,hk.2,⟨rfl,l⟩,rfl,λc o=>by cases o⟩
end
section
attribute [simp] look aj SV.isOwn SV.inCell ev UR mv US gc ir bC iu tX C8 nj tY JK JM JN mq jU HK nG gG pZ HL Ax ic rowsOf jV xa uu tH live sg FO HN Dg ld1 yN mr UT C9 Ra Az HP bn d9 xe HQ Rb PO bnd dI HR St.put dq aW SV.avoids dx setPos St.grow splice a8 nI FV JX pop PV.one cz p9 cR dE putD FX jD eG mA nL frzC vw N4 PV.nw N5 Da N6 SV.nwS jE b8 lK Dz zb zc Ga uG AE jX xv uI SV.isFree Rd Gc AG iZ tmpsOf zg uL looks de fk AU kq bots dstsOf Ve PU Kw zk DO gX lM Oe Qm uc Ge zh Gg uJ qX DA Kc fE Oi KB yR ta t6 p6 sj pC k7 Dj dJ entriesOf isMap xj DD AR iz Ke jy PV.bel b7 bV fB SV.bel mG cA er DL iT gq TZ AV SV.int SV.bool oN Qn sr Kh Km Kn lB nv PT Db gm zd Dy yW yY F3 nP yX carry F4 tc pF mC qU Du R2 Oc nO lJ AN mE yZ Qi gB mw DP iD nR zo gY nT R5 PZ partOf tJ dQ pG Ia nQ za J7 PV.old Do Dp qa F7 PQ copyV PR isLit F5 Ka DF yT xg R1 uH TY Kx zm
@[simp] theorem Re(k:ce)(n:Int):(Value.int k n).cells=#[.int k n]:=rfl
@[simp] theorem UU(k:ce)(n:Int):(Value.int k n).oneCell'=true:=rfl
@[simp] theorem T4(b:Bool):(Value.bool b).oneCell'=true:=rfl
@[simp] theorem Rf(s:ByteArray):(Value.string s).oneCell'=true:=rfl
@[simp] theorem UV(p:Option Addr):(Value.pointer p).oneCell'=true:=rfl
@[simp] theorem R6(p:Option Addr)(n c:Nat):(Value.slice p n c).oneCell'=true:=rfl
@[simp] theorem UW(r:Option Nat):(Value.map r).oneCell'=true:=rfl
@[simp] theorem T5(f:Fn)(a b:Array an):(Value.func f a b).oneCell'=true:=rfl
@[simp] theorem T6:List.range 0=[]:=rfl
@[simp] theorem T7:List.range 1=[0]:=rfl
@[simp] theorem T8:List.range 2=[0,1]:=rfl
@[simp] theorem T9:List.range 3=[0,1,2]:=rfl
@[simp] theorem Ua:List.range 4=[0,1,2,3]:=rfl
@[simp] theorem Ub:List.range 5=[0,1,2,3,4]:=rfl
@[simp] theorem Uc:List.range 6=[0,1,2,3,4,5]:=rfl
@[simp] theorem Ud:List.range 7=[0,1,2,3,4,5,6]:=rfl
@[simp] theorem Ue:List.range 8=[0,1,2,3,4,5,6,7]:=rfl
@[simp] theorem Uf:List.range 9=[0,1,2,3,4,5,6,7,8]:=rfl
@[simp] theorem R7:List.range 10=[0,1,2,3,4,5,6,7,8,9]:=rfl
@[simp] theorem R8:List.range 11=[0,1,2,3,4,5,6,7,8,9,10]:=rfl
@[simp] theorem R9:List.range 12=[0,1,2,3,4,5,6,7,8,9,10,11]:=rfl
@[simp] theorem Sa:List.range 13=[0,1,2,3,4,5,6,7,8,9,10,11,12]:=rfl
@[simp] theorem Sb:List.range 14=[0,1,2,3,4,5,6,7,8,9,10,11,12,13]:=rfl
@[simp] theorem Sc:List.range 15=[0,1,2,3,4,5,6,7,8,9,10,11,12,13,14]:=rfl
@[simp] theorem Se:List.range 16=[0,1,2,3,4,5,6,7,8,9,10,11,12,13,14,15]:=rfl
section
variable {P : aa} {k0 : Nat} {bad : bJ} {Q : Exit -> St -> Prop} {st : St} {K : St -> Prop} {ops : List ai}
@[simp] theorem Ug:AC P k0 bad .skip Q st=Q .normal st:=rfl
@[simp] theorem Qq(id:Nat)(ops:Array ai):AC P k0 bad (.region id ops false) Q st=if nv bad id=true then jF P k0 ops (Q .normal) st else lL P ops.toList (Q .normal) ops.toList st:=rfl
@[simp] theorem Qr(id:Nat)(ops:Array ai):AC P k0 bad (.region id ops true) Q st=if nv bad id=true then bP P k0 ops (Q .normal) st else AV P ops.toList (Q .normal) st:=rfl
@[simp] theorem UX(x y:Code):AC P k0 bad (.seq x y) Q st=AC P k0 bad x (Kw (AC P k0 bad y Q) Q) st:=rfl
@[simp] theorem Gk(c:ae)(x y:Code):AC P k0 bad (.cond c x y) Q st=(gc st c∧C8 (mv st c)∧(tX (mv st c)=true->AC P k0 bad x Q st)∧(tX (mv st c)=false->AC P k0 bad y Q st)):=rfl
@[simp high] theorem Rg(c:ae)(x y:Code)(h:tX (mv st c)=true):AC P k0 bad (.cond c x y) Q st=(gc st c∧C8 (mv st c)∧AC P k0 bad x Q st):=by
 rw[Gk,h];exact propext ⟨λ⟨a,b,c,_⟩=>⟨a,b,c rfl⟩,λ⟨a,b,c⟩=>⟨a,b,λ_=>c,λh=>by cases h⟩⟩
@[simp high] theorem Rh(c:ae)(x y:Code)(h:tX (mv st c)=false):AC P k0 bad (.cond c x y) Q st=(gc st c∧C8 (mv st c)∧AC P k0 bad y Q st):=by
 rw[Gk,h];exact propext ⟨λ⟨a,b,_,c⟩=>⟨a,b,c rfl⟩,λ⟨a,b,c⟩=>⟨a,b,(λh=>by cases h),λ_=>c⟩⟩
@[simp] theorem Sf(id:Nat)(x:Code):AC P k0 bad (.block id x) Q st=AC P k0 bad x (zk id Q) st:=rfl
@[simp] theorem Sg(l:Nat):AC P k0 bad (.label l) Q st=Q .normal st:=rfl
@[simp] theorem Si(x:Code):AC P k0 bad (.scope x) Q st=AC P k0 bad x (DO Q) st:=rfl
@[simp] theorem Uh(id:Nat):AC P k0 bad (.exit id) Q st=Q (.exit id) st:=rfl
@[simp] theorem UY:AC P k0 bad .ret Q st=Q .ret st:=rfl
@[simp] theorem Ui(x:Code):AC P k0 bad (.loop x) Q st=aM k0 (AC P k0 bad x) Q st:=rfl
@[simp] theorem Sj:lL P ops K [] st=K st:=rfl
@[simp] theorem Ri(o:ai)(rest:List ai):lL P ops K (o::rest) st=gq P ops o (lL P ops K rest) st:=rfl
end
section
variable {P : aa} {ops : List ai} {q : Pos -> Bool} {base : St} {K : List (Nat × SV) -> Prop} {acc : List (Nat × SV)} {K0 : St -> Prop}
@[simp] theorem Uj:Id P K0 [] base=K0 base:=rfl
@[simp] theorem Sk (o : ai) (rest : List ai) : Id P K0 (o :: rest) base = (match lB o with
 |some (d,t)=>match dL P t with
  |some zs=>cz zs=true∧Id P K0 rest ((base.grow (zs.map .pv)).put d (.pv (.ptr base.h.length 0)))
  |none=>False
 |none=>Id P K0 rest base):=rfl
@[simp] theorem Rj:DM P ops K0 base acc=Id P (lL P ops K0 (ops.drop (de ops))) (ops.take (de ops)) ⟨acc++base.t,base.h⟩:=rfl
@[simp] theorem UZ:AQ P ops q base K [] acc=K acc:=rfl
@[simp] theorem Qs(o:ai)(rest:List ai):AQ P ops q base K (o::rest) acc=TZ P ops q base o (AQ P ops q base K rest) acc:=rfl
end
section
variable {P : aa} {ops : List ai} {K : St -> Prop} {st : St}
@[simp] theorem Rk:qg P ops K .done st=K st:=rfl
@[simp] theorem Rl(i:Nat)(r:Sch):qg P ops K (.take i r) st=gB P ops i (qg P ops K r) st:=rfl
@[simp] theorem Rm(l:List (Nat×Sch)):qg P ops K (.fork l) st=te P ops K l st:=rfl
@[simp] theorem Rn:te P ops K [] st=True:=rfl
@[simp] theorem Qt(i:Nat)(r:Sch)(l:List (Nat×Sch)):te P ops K ((i,r)::l) st=(gB P ops i (qg P ops K r) st∧te P ops K l st):=rfl
end
end
abbrev ak(n:Int):PV:=.lit (.int .i64 n)
abbrev BL(b:Bool):PV:=.lit (.bool b)
def bG(n:Int):Int:=IntKind.i64.wrap n
@[simp] theorem Uk(n:Int):IntKind.i64.wrap n=bG n:=rfl
theorem KD(n:Int):bG n=(n+9223372036854775808) %18446744073709551616 -9223372036854775808:=by
 unfold bG;rw[IntKind.wrap_i64]
theorem aC{n:Int}(h1:-9223372036854775808<=n)(a:n<=9223372036854775807):bG n=n:=by rw[KD];omega
theorem dU(i:Nat)(h:i<9223372036854775807:=by omega):bG ((i:Int)+1)=((i+1:Nat):Int):=by rw[aC (by omega) (by omega)];omega
@[simp] theorem Rp(a b:Int):bG (bG a+b)=bG (a+b):=by simp only[KD];omega
@[simp] theorem pJ(k:Nat)(a b:aT):bV k (a++b)↔bV k a∧bV k b:=by
 simp only[iC,VF];constructor;intro h;exact⟨λr c=>h r (.inl c),λr c=>h r (.inr c)⟩;rintro⟨h1,d⟩ r (c|c);exact h1 r c;exact d r c
def PV.as(x y:PV):Prop:=∀(w:ab)(v:an),Fit (dZ w) x v->Fit (dZ w) y v
theorem PV.as.refl(x:PV):PV.as x x:=λ_ _ h=>h
def Sl:aD->aD->Prop
 |[],ys=>ys=[]
 |x::xs,ys=>∃y r,ys=y::r∧PV.as x y∧Sl xs r
theorem Gl{w:ab}:∀{xs ys:aD}{vs:aG},Sl xs ys->ax (dZ w) xs vs->ax (dZ w) ys vs
 |[],_,_,h,h'=>by simp only[Sl]at h;subst h;exact h'
 |x::xs,_,_,h,h'=>by
  simp only[Sl]at h;obtain⟨y,r,rfl,h1,a⟩:=h;obtain⟨v,q,rfl,b,c⟩:=h';exact⟨v,q,rfl,h1 w v b,Gl a c⟩
theorem aw.conv{P:aa}{f:az}{xs ys:aD}{R:SV->Prop}(h:aw P f ys R)(a:Sl xs ys):aw P f xs R:=
 ⟨h.1,λw vs b=>h.2 w vs (Gl a b)⟩
section
mutual
def cr:PV->PV->Prop
  |.agg xs,.agg ys=>bX xs ys
  |.tup xs,.tup ys=>bX xs ys
  |.seq nw e rows,.seq nw' e' rows'=>(nw'=true->nw=true)∧e=e'∧rows=rows'
  |.lit v,.seq _ _ rows=>ic v=true∧rows=[]
  |x,y=>x=y
def bX:aD->aD->Prop
  |[],[]=>True
  |x::xs,y::ys=>cr x y∧bX xs ys
  |_,_=>False
end
mutual
theorem zy{g:Gh}:∀(x y:PV)(v:an),cr x y->Fit g x v->Fit g y v
  |.agg xs,.agg ys,_,h,⟨vs,h1,h2⟩=>⟨vs,h1,rh xs ys _ (by simpa only[cr]using h) h2⟩
  |.tup xs,.tup ys,_,h,⟨vs,h1,h2⟩=>⟨vs,h1,rh xs ys _ (by simpa only[cr]using h) h2⟩
  |.seq nw e rows,.seq nw' e' rows',v,h,⟨p,cap,h1,hc,h2⟩=>by
    simp only[cr]at h
    obtain⟨hn,rfl,rfl⟩:=h
    exact⟨p,cap,h1,hc,h2.imp id λ⟨c,off,arr,T,fz,vs,a,b,n,r,q⟩=>⟨c,off,arr,T,fz,vs,a,b,λhh=>n (hn hh),r,q⟩⟩
  |.lit u,.seq nw e rows,v,h,hf=>by
    simp only[cr]at h
    obtain⟨hn,rfl⟩:=h
    have hv:v=u:=hf
    rw[hv,iB hn]
    exact⟨none,0,rfl,Vu _,.inl rfl⟩
  |.bot,y,v,h,hf=>by cases y<;>first|exact hf|(simp only[cr]at h;cases h)
  |.iptr _ _ _ _,y,v,h,hf=>by cases y<;>simp only[cr]at h<;>first|(cases h;exact hf)|cases h
  |.ptr _ _,y,v,h,hf=>by cases y<;>simp only[cr]at h<;>first|(cases h;exact hf)|cases h
  |.bsl _ _ _ _ _,y,v,h,hf=>by cases y<;>simp only[cr]at h<;>first|(cases h;exact hf)|cases h
  |.fn _ _ _,y,v,h,hf=>by cases y<;>simp only[cr]at h<;>first|(cases h;exact hf)|cases h
  |.amap _ _,y,v,h,hf=>by cases y<;>simp only[cr]at h<;>first|(cases h;exact hf)|cases h
  |.ifc _ _,y,v,h,hf=>by cases y<;>simp only[cr]at h<;>first|(cases h;exact hf)|cases h
  |.lit u,.bot,v,h,hf=>trivial
  |.lit u,.lit u',v,h,hf=>by simp only[cr]at h;cases h;exact hf
  |.lit u,.agg _,v,h,hf=>by simp only[cr]at h;cases h
  |.lit u,.tup _,v,h,hf=>by simp only[cr]at h;cases h
  |.lit u,.iptr _ _ _ _,v,h,hf=>by simp only[cr]at h;cases h
  |.lit u,.ptr _ _,v,h,hf=>by simp only[cr]at h;cases h
  |.lit u,.bsl _ _ _ _ _,v,h,hf=>by simp only[cr]at h;cases h
  |.lit u,.fn _ _ _,v,h,hf=>by simp only[cr]at h;cases h
  |.lit u,.amap _ _,v,h,hf=>by simp only[cr]at h;cases h
  |.lit u,.ifc _ _,v,h,hf=>by simp only[cr]at h;cases h
  |.agg xs,.bot,v,h,hf=>trivial
  |.agg xs,.lit _,v,h,hf=>by simp only[cr]at h;cases h
  |.agg xs,.tup _,v,h,hf=>by simp only[cr]at h;cases h
  |.agg xs,.seq _ _ _,v,h,hf=>by simp only[cr]at h;cases h
  |.agg xs,.iptr _ _ _ _,v,h,hf=>by simp only[cr]at h;cases h
  |.agg xs,.ptr _ _,v,h,hf=>by simp only[cr]at h;cases h
  |.agg xs,.bsl _ _ _ _ _,v,h,hf=>by simp only[cr]at h;cases h
  |.agg xs,.fn _ _ _,v,h,hf=>by simp only[cr]at h;cases h
  |.agg xs,.amap _ _,v,h,hf=>by simp only[cr]at h;cases h
  |.agg xs,.ifc _ _,v,h,hf=>by simp only[cr]at h;cases h
  |.tup xs,.bot,v,h,hf=>trivial
  |.tup xs,.lit _,v,h,hf=>by simp only[cr]at h;cases h
  |.tup xs,.agg _,v,h,hf=>by simp only[cr]at h;cases h
  |.tup xs,.seq _ _ _,v,h,hf=>by simp only[cr]at h;cases h
  |.tup xs,.iptr _ _ _ _,v,h,hf=>by simp only[cr]at h;cases h
  |.tup xs,.ptr _ _,v,h,hf=>by simp only[cr]at h;cases h
  |.tup xs,.bsl _ _ _ _ _,v,h,hf=>by simp only[cr]at h;cases h
  |.tup xs,.fn _ _ _,v,h,hf=>by simp only[cr]at h;cases h
  |.tup xs,.amap _ _,v,h,hf=>by simp only[cr]at h;cases h
  |.tup xs,.ifc _ _,v,h,hf=>by simp only[cr]at h;cases h
  |.seq _ _ _,.bot,v,h,hf=>trivial
  |.seq _ _ _,.lit _,v,h,hf=>by simp only[cr]at h;cases h
  |.seq _ _ _,.agg _,v,h,hf=>by simp only[cr]at h;cases h
  |.seq _ _ _,.tup _,v,h,hf=>by simp only[cr]at h;cases h
  |.seq _ _ _,.iptr _ _ _ _,v,h,hf=>by simp only[cr]at h;cases h
  |.seq _ _ _,.ptr _ _,v,h,hf=>by simp only[cr]at h;cases h
  |.seq _ _ _,.bsl _ _ _ _ _,v,h,hf=>by simp only[cr]at h;cases h
  |.seq _ _ _,.fn _ _ _,v,h,hf=>by simp only[cr]at h;cases h
  |.seq _ _ _,.amap _ _,v,h,hf=>by simp only[cr]at h;cases h
  |.seq _ _ _,.ifc _ _,v,h,hf=>by simp only[cr]at h;cases h
theorem rh{g:Gh}:∀(xs ys:aD)(vs:aG),bX xs ys->ax g xs vs->ax g ys vs
  |[],[],_,_,h=>h
  |[],_::_,_,h,_=>by simp only[bX]at h
  |_::_,[],_,h,_=>by simp only[bX]at h
  |x::xs,y::ys,_,h,⟨v,r,h1,h2,h3⟩=>by
    simp only[bX]at h
    exact⟨v,r,h1,zy x y v h.1 h2,rh xs ys r h.2 h3⟩
end
def Gm:SV->SV->Prop
 |.pv x,.pv y=>y=.bot∨cr x y
 |.own nw e rows,.own b e' a=>(b=true->nw=true)∧e=e'∧rows=a
 |x,y=>y=x∨y=.pv .bot
theorem oU{x y:SV}(h:Gm x y):y=x∨y=.pv .bot∨(∃a b,x=.pv a∧y=.pv b∧cr a b)∨(∃nw c e rows,x=.own nw e rows∧y=.own c e rows∧(c=true->nw=true)):=by
 unfold Gm at h;split at h;rename_i a b;rcases h with rfl|h;exact .inr (.inl rfl);exact .inr (.inr (.inl ⟨a,b,rfl,rfl,h⟩));obtain⟨h1,rfl,rfl⟩:=h;exact .inr (.inr (.inr ⟨_,_,_,_,rfl,rfl,h1⟩));exact h.imp id .inl
theorem uf{x y:SV}(h:Gm x y)(ho:y.isOwn=true):x.isOwn=true∧(y=x∨∃nw c e rows,x=.own nw e rows∧y=.own c e rows∧(c=true->nw=true)):=by
 rcases oU h with rfl|rfl|⟨a,b,rfl,rfl,_⟩|⟨nw,c,e,rows,rfl,rfl,h1⟩;exact⟨ho,.inl rfl⟩;cases ho;cases ho;exact⟨rfl,.inr ⟨_,_,_,_,rfl,rfl,h1⟩⟩
theorem Gn{g:Gh}{w:ab}{x y:SV}{v:an}{o:Option Nat}(h:Gm x y)(d:aO g w x v o):aO g w y v (if y.isOwn=true then o else none):=by
 rcases oU h with rfl|rfl|⟨a,b,rfl,rfl,h1⟩|⟨nw,n,e,rows,rfl,rfl,h1⟩;cases y with
 |own _ _ _=>exact d
 |omap _ _=>exact d
 |pv _=>exact⟨rfl,d.2⟩
 |opt _ _=>exact⟨rfl,d.2⟩
 |agl _=>exact⟨rfl,d.2⟩
 |_=>rfl
 exact⟨rfl,trivial⟩;exact⟨rfl,zy a b v h1 d.2⟩;exact d.imp id λ⟨c,l,cap,arr,T,vs,f,i,a3,a4,a5,j,k⟩=>⟨c,l,cap,arr,T,vs,f,i,a3,a4,a5,j,λm=>k (h1 m)⟩
theorem Sim.le{g:Gh}{st st':St}{a:Act}{w:ab}(h:Sim g st a w)(hp:∀p,Gm (aj st p) (aj st' p))(L:st'.h.length=st.h.length)(P:∀b,(st'.h.getD b []).length=(st.h.getD b []).length):Sim g st' a w:=by
 obtain⟨bl,ho⟩:=h.own;have A:∀(b:Nat)(j:bj),st'.h[b]?=some j->∃xs:bj,st.h[b]?=some xs∧j.length=xs.length:=λb j hx=>by
  have D:b<st.h.length:=by rw[←L];exact(Vp.1 hx).1
  refine⟨st.h[b],Vq D,?_⟩;have:=P b;rw[Vr,Vr,hx,Vq D]at this;simpa using this
 have G:∀{sv:SV}{v:an},cL g st a w sv v->cL g st' a w sv v:=by
  intro sv
  induction sv with
  |al p=>intro v f t;exact f (uf (hp p) t).1
  |loc p lo hi=>
   intro v f nw e rows r;rcases(uf (hp p) (by rw[r];rfl)).2 with m|⟨H,J,m,rows1,u,o,_⟩;exact f nw e rows (by rw[←m];exact r);rw[r]at o;cases o;exact f _ _ _ u
  |sptr p i k=>
   intro v f nw e rows r;rcases(uf (hp p) (by rw[r];rfl)).2 with m|⟨H,J,m,rows1,u,o,_⟩;exact f nw e rows (by rw[←m];exact r);rw[r]at o;cases o;exact f _ _ _ u
  |agl xs=>intro v f k x p hk t;exact f k x p hk (uf (hp p) t).1
  |opt c x Q=>intro v f z;exact Q (f z)
  |_=>intro v _;trivial
 refine{
  size:=h.size,defs:=h.defs,env:=h.env,n:=by rw[L];exact h.n,n0:=h.n0,B:=h.B,I:=h.I,F:=h.F,μI:=h.μI,μinj:=h.μinj,
  own:=⟨λp=>if(aj st' p).isOwn=true then bl p else none,?_⟩,al:=λs=>?_}
 have d:∀p c,(if(aj st' p).isOwn=true then bl p else none)=some c->bl p=some c:=λp c z=>by
  split at z;exact z;cases z
 refine{slots:=λs=>Gn (hp (.slot s)) (ho.slots s),blocks:=λb j hx=>?_,inj:=λp q c h1 N=>ho.inj p q c (d p c h1) (d q c N),free:=λp c h1=>ho.free p c (d p c h1)};obtain⟨xs,E,l⟩:=A b j hx;obtain⟨arr,T,m,u,o⟩:=ho.blocks b xs E;refine⟨arr,T,m,⟨by rw[l];exact u.1,u.2⟩,λk x hk=>?_⟩;have C:k<xs.length:=by rw[←l];exact(Vp.1 hk).1
 have K:aj st' (.cell b k)=x:=by simp only[aj,Vr,hx,V7,hk]
 have g2:aj st (.cell b k)=xs[k]:=by simp only[aj,Vr,E,V7,Vq C]
 have y:=hp (.cell b k);rw[K,g2]at y;obtain⟨c1,c2⟩:=o k xs[k] (Vq C);rw[K];refine⟨?_,Gn y c2⟩;rcases oU y with e|e|⟨M,b1,_,e,_⟩|⟨_,_,_,_,_,e,_⟩;rw[e];exact c1;rw[e];rfl;rw[e];rfl;rw[e];rfl;have y:=hp (.slot s);simp only[aj]at y;have O:=h.al s;rcases oU y with e|e|⟨M,b1,_,e,_⟩|⟨_,_,_,_,_,e,_⟩;rw[e];exact G O;rw[e];trivial;rw[e];trivial;rw[e];trivial
def On(t:List (Nat×SV)):List (Nat×SV)->Prop
 |[]=>True
 |(s,v)::r=>Gm (look t s) v∧On t r
def Bf:bj->bj->Prop
 |[],[]=>True
 |x::xs,y::ys=>Gm x y∧Bf xs ys
 |_,_=>False
def zA:ao->ao->Prop
 |[],[]=>True
 |x::xs,y::ys=>Bf x y∧zA xs ys
 |_,_=>False
theorem zB(x:SV):Gm x (.pv .bot):=by cases x<;>simp[Gm]
mutual
theorem Bg:∀x:PV,cr x x
  |.agg xs=>by simp only[cr];exact lP xs
  |.tup xs=>by simp only[cr];exact lP xs
  |.seq _ _ _=>by simp[cr]
  |.bot=>by simp[cr]
  |.lit _=>by simp[cr]
  |.iptr _ _ _ _=>by simp[cr]
  |.ptr _ _=>by simp[cr]
  |.bsl _ _ _ _ _=>by simp[cr]
  |.fn _ _ _=>by simp[cr]
  |.amap _ _=>by simp[cr]
  |.ifc _ _=>by simp[cr]
theorem lP:∀xs:aD,bX xs xs
  |[]=>by simp[bX]
  |x::xs=>by simp only[bX];exact⟨Bg x,lP xs⟩
end
theorem rk(x:SV):Gm x x:=by
 cases x with
 |pv x=>exact .inr (Bg x)
 |own _ _ _=>exact⟨id,rfl,rfl⟩
 |_=>exact .inl rfl
theorem Gp{t:List (Nat×SV)}:∀{t1:List (Nat×SV)},On t t1->∀s,Gm (look t s) (look t1 s)
 |[],_,s=>zB _
 |(j,v)::r,h,s=>by
  simp only[look];by_cases e:j=s;subst e;rw[Vt rfl];exact h.1;rw[Vs e];exact Gp h.2 s
theorem Gq:∀{xs ys:bj},Bf xs ys->ys.length=xs.length∧∀k,Gm (xs.getD k (.pv .bot)) (ys.getD k (.pv .bot))
 |[],[],_=>⟨rfl,λk=>by simp;exact zB _⟩
 |[],_::_,h=>by simp only[Bf]at h
 |_::_,[],h=>by simp only[Bf]at h
 |x::xs,y::ys,h=>by
  simp only[Bf]at h;obtain⟨h1,a⟩:=Gq h.2;refine⟨by simp[h1],λk=>?_⟩;cases k with
  |zero=>exact h.1
  |succ k=>simpa using a k
theorem Gs:∀{xs ys:ao},zA xs ys->ys.length=xs.length∧∀b,(ys.getD b []).length=(xs.getD b []).length∧∀k,Gm ((xs.getD b []).getD k (.pv .bot)) ((ys.getD b []).getD k (.pv .bot))
 |[],[],_=>⟨rfl,λb=>⟨rfl,λk=>by simp;exact zB _⟩⟩
 |[],_::_,h=>by simp only[zA]at h
 |_::_,[],h=>by simp only[zA]at h
 |x::xs,y::ys,h=>by
  simp only[zA]at h;obtain⟨h1,a⟩:=Gs h.2;refine⟨by simp[h1],λb=>?_⟩;cases b with
  |zero=>exact Gq h.1
  |succ b=>simpa using a b
theorem av.le{k0:Nat}{st:St}{t1:List (Nat×SV)}{h1:ao}(ht:On st.t t1)(a:zA st.h h1):av k0 st ⟨t1,h1⟩:=λg _ _ _ hs=>by
 obtain⟨c,hk⟩:=Gs a;refine⟨g,hs.refl_to,hs.le (λp=>?_) c λb=>(hk b).1⟩;cases p with
 |slot s=>exact Gp ht s
 |cell b k=>exact(hk b).2 k
theorem aI.args{P:aa}{f:az}{xs ys:aD}{h:ao}{R:SV->ao->Prop}(b:aI P f ys h R)(e:bX xs ys):aI P f xs h R:=
 ⟨b.1,λg st a w vs hs c d=>b.2 g st a w vs hs c (rh _ _ _ e d)⟩
theorem aI.res{P:aa}{f:az}{args:aD}{h:ao}{R R':SV->ao->Prop}(c:aI P f args h R)(q:∀r h',R r h'->∃x y,r=.pv x∧cr x y∧R' (.pv y) h'):aI P f args h R':=
 ⟨c.1,λg st a w vs hs o t=>(c.2 g st a w vs hs o t).mono λe w' ⟨v,r,h',g',i,j,l,m⟩=>by
  obtain⟨x,y,rfl,u,n⟩:=q r h' j;refine⟨v,.pv y,h',g',i,n,l,λd hd=>(m d hd).le (λp=>?_) ?_ ?_⟩;cases d with
  |none=>exact rk _
  |some d=>
   cases p with
   |cell b k=>exact rk _
   |slot s=>
    simp only[aj,jE,putD,St.put,look];split;exact .inr u;exact rk _
  cases d<;>rfl;intro b;cases d<;>rfl⟩
section
variable {g : Gh}
mutual
theorem Fit.bel:∀(x:PV)(v:an),Fit g x v->x.bel g.n
  |.bot,_,_=>trivial
  |.lit _,_,_=>trivial
  |.agg xs,_,⟨vs,_,h2⟩=>ax.bel xs _ h2
  |.tup xs,_,⟨vs,_,h2⟩=>ax.bel xs _ h2
  |.seq _ e [],_,_=>trivial
  |.seq _ e (r::rows),_,⟨p,cap,_,_,h2⟩=>by
    rcases h2 with h2|⟨c,off,arr,T,fz,vs,a,b,n,q,_⟩
    cases h2
    exact aK.bel e (r::rows) vs q
  |.iptr e rows _ _,_,⟨c,off,arr,T,fz,vs,_,_,q,_⟩=>aK.bel e rows vs q
  |.ptr b _,_,⟨h1,_⟩=>h1
  |.bsl b _ _ _ _,_,⟨h1,_⟩=>h1
  |.fn _ first cap,_,⟨a,b,_,h2,h3⟩=>⟨ax.bel first _ h2,ax.bel cap _ h3⟩
  |.amap _ es,_,⟨r,en,ck,_,_,_,q⟩=>cu.bel es _ q.1
  |.ifc _ x,_,⟨y,_,h2⟩=>Fit.bel x y h2
theorem ax.bel:∀(xs:aD)(vs:aG),ax g xs vs->b7 g.n xs
  |[],_,_=>trivial
  |x::xs,_,⟨v,r,_,h2,h3⟩=>⟨Fit.bel x v h2,ax.bel xs r h3⟩
theorem aK.bel(e:Nat):∀(rows:aT)(vs:aG),aK g e rows vs->bV g.n rows
  |[],_,_=>trivial
  |row::rows,_,⟨v1,v2,_,_,h3,h4⟩=>⟨ax.bel row v1 h3,aK.bel e rows v2 h4⟩
theorem cu.bel:∀(es:dw)(en:List MapEntry),cu g es en->fB g.n es
  |[],_,_=>trivial
  |(_,x)::es,_,⟨m,r,_,_,h3,h4⟩=>⟨Fit.bel x m.val h3,cu.bel es r h4⟩
end
end
theorem aO.bel{g:Gh}{w:ab}{x:SV}{v:an}{o:Option Nat}(a:x.inCell=true)(h:aO g w x v o):x.bel g.n:=by
 cases x with
 |pv x=>exact Fit.bel x v h.2
 |own nw e rows=>
  rcases h with⟨_,rfl,_⟩|⟨c,_,cap,arr,T,vs,_,_,_,_,q,_⟩;trivial;exact aK.bel e rows vs q
 |omap nw es=>obtain⟨c,_,en,ck,_,_,q,_⟩:=h;exact cu.bel es _ q
 |_=>cases a
theorem oV{k:Nat}:∀{l:bj},(∀x∈l,x.bel k)->cA k l
 |[],_=>trivial
 |x::l,h=>⟨h x (VN),oV λy hy=>h y (VG _ hy)⟩
theorem xF{k:Nat}:∀{l:ao},(∀xs∈l,∀x∈xs,x.bel k)->er k l
 |[],_=>trivial
 |x::l,h=>⟨oV (h x (VN)),xF λy hy=>h y (VG _ hy)⟩
theorem Sim.belH{g:Gh}{st:St}{a:Act}{w:ab}(h:Sim g st a w):er g.n st.h:=by
 obtain⟨bl,f⟩:=h.own;refine xF λxs d x hx=>?_;obtain⟨b,c⟩:=Xh.1 d;obtain⟨k,hk⟩:=Xh.1 hx;obtain⟨arr,T,_,_,e⟩:=f.blocks b xs c;obtain⟨c1,c2⟩:=e k x hk;exact c2.bel c1
def ii(P:aa)(rs:List ResultVar)(h:ao)(R:SV->Prop)(st:St):Prop:=
 (gY P st rs).2.2∧(gY P st rs).2.1.h.take h.length=h∧(nT (gY P st rs).1).bel h.length∧R (.pv (nT (gY P st rs).1))
theorem ij{P:aa}(bad:bJ){f:az}{fn:Func}{c:Code}{args:aD}{h:ao}{R:SV->Prop}(rs:List ResultVar)(aP:P.follows .mixedOrders=true)(A:P.funcs[f]?=some fn)(x:AC P h.length bad c (lM (ii P rs h R)) ⟨gX 0 args,h⟩)(b:aV P f=true:=by kernel_rfl)(y:fn.body=some c:=by rfl)(B:fn.results=rs.toArray:=by rfl)(k:pn fn.ntmps bad c=true:=by kernel_rfl)(hn:args.length<=fn.ntmps:=by exact WC rfl):aI P f args h (λr h'=>h'=h∧R r):=by
 refine⟨b,λg st a w vs hs l C=>?_⟩;have d:er h.length h:=by have:=hs.belH;rwa [hs.n,l]at this
 have key:=oR (R:=λr h'=>h'=h∧R r) aP A b y k hn x λg' st' K w' hk j s'=>?_;exact key.2 g st a w vs hs l C;obtain⟨D,E,F,G⟩:=hk;obtain⟨g2,o,L,M,H,J,p,t⟩:=oQ rs s' D;obtain⟨v,q,u⟩:=i7 B (lO rs st') p t;have I:=H.weak (st':=⟨[],(gY P st' rs).2.1.h⟩) rfl λs=>.inr rfl;obtain⟨t4,m⟩:=Sim.dropB (st:=⟨[],(gY P st' rs).2.1.h⟩) (h1:=h) E (ht:=trivial) d (hs:=I) (h0:=by rw[o.n0];exact j);obtain⟨e,i⟩:=m.own;exact⟨v,_,_,_,e,none,q,o.trans t4,m,i,⟨rfl,G⟩,⟨rfl,Fit.below _ _ F u⟩,rfl,λc z=>by cases z⟩
theorem fJ{P:aa}(bad:bJ){f:az}{fn:Func}{c:Code}{args:aD}{h:ao}{y:PV}(rs:List ResultVar)(aP:P.follows .mixedOrders=true)(j:P.funcs[f]?=some fn)(g:AC P h.length bad c (lM (ii P rs h (λr=>∃x,r=.pv x∧cr x y))) ⟨gX 0 args,h⟩)(a:aV P f=true:=by kernel_rfl)(i:fn.body=some c:=by rfl)(k:fn.results=rs.toArray:=by rfl)(b:pn fn.ntmps bad c=true:=by kernel_rfl)(hn:args.length<=fn.ntmps:=by exact WC rfl):aI P f args h (λr h'=>h'=h∧r=.pv y):=
 (ij bad rs aP j g a i k b hn).res λr h' ⟨h1,x,d,e⟩=>⟨x,y,d,e,h1,rfl⟩
attribute [simp] cr bX Gm On Bf zA ii
end
end Go.AX
