/-
  AX, part W: maps that are made and written; slices that are made of zeros.
  AX, part U: what is owned moves: into cells of blocks; it is cut short; structs are made of it.
-/
import Derived.Test.YtepodadinenmnaaGreatAxI
import Derived.MapKept
import Derived.Carry
import Derived.Laws.MakeOwn
namespace Go.AX
def gk:List (Int×PV)→Int→PV→List (Int×PV)
 |[],n,y=>[(n,y)]
 |(k,x)::r,n,y=>if k=n then(k,y)::r else(k,x)::gk r n y
theorem zA{g:Gh}{kk:IntKind}{n:Int}:∀{es:List (Int×PV)}{en:List MapEntry}(_:bm g es en)(j:Nat),
 ∃ r, Instr.findNow (.int kk) (.int .i64 n) en j = some r ∧ (r = none ∧ (∀ m ∈ en, m.key ≠ .int .i64 n) ∧ (∀ y u born, Fit g y u → bm g (gk es n y) (en ++ [{ key := .int .i64 n, val := u, born := born }])) ∨
  ∃i m,r=some (j+i,m.val)∧en[i]?=some m∧m.key=.int .i64 n∧∀y u,Fit g y u→bm g (gk es n y) (en.set i {m with key:=.int .i64 n,val:=u}))
 |[],en,h,j=>by
  simp only[bm]at h;subst h;exact⟨none,rfl,.inl ⟨rfl,by simp,fun y u born hy=>⟨_,_,rfl,rfl,hy,rfl⟩⟩⟩
 |(k,x)::es,en,⟨m,r,h1,h2,h3,h4⟩,j=>by
  subst h1;simp only[Instr.findNow,h2,Instr.sameNow,if_true]
  by_cases hk:k=n
  ·subst hk;simp only[beq_self_eq_true];refine⟨_,rfl,.inr ⟨0,m,rfl,rfl,h2,fun y u hy=>?_⟩⟩;simp only[gk,if_true,List.set_cons_zero];exact⟨_,_,rfl,rfl,hy,h4⟩
  ·have hb:(n==k)=false:=by simp;exact fun e=>hk e.symm
   simp only[hb];obtain⟨r',e1,e2⟩:=zA (n:=n) h4 (j+1);refine⟨r',e1,?_⟩;rcases e2 with⟨rfl,e0,e2⟩|⟨i,m',rfl,e3,e4,e5⟩
   ·refine .inl ⟨rfl,fun m2 hm2=>?_,fun y u born hy=>?_⟩
    ·rcases List.mem_cons.1 hm2 with rfl|hm2
     ·rw[h2];intro e;cases e;exact hk rfl
     ·exact e0 m2 hm2
    simp only[gk,if_neg hk];exact⟨m,_,rfl,h2,h3,e2 y u born hy⟩
   ·refine .inr ⟨i+1,m',by rw[Nat.add_assoc,Nat.add_comm 1 i],by simpa using e3,e4,fun y u hy=>?_⟩;simp only[gk,if_neg hk,List.set_cons_succ];exact⟨m,_,rfl,h2,h3,e5 y u hy⟩
theorem tL(k:IntKind)(n:Int):Instr.sameBits 10000 (.int k n) (.int k n)=true:=by
 show Instr.sameBits (9999+1) _ _=true;simp[Instr.sameBits]
def jN(P:Program)(t:TypeId):Bool:=
 match P.underlying t with
 |some (.map k _)=>match P.underlying k with
  |some (.int _)=>true
  |_=>false
 |_=>false
theorem l4{P:Program}{st:St}(o:Oper)(t:TypeId)(m k x:Operand)(p:Pos)(nw:Bool)(es:List (Int×PV))(ho:o.op=.mapUpdate t m k x∨o.op=.insert t m k x)(ht:jN P t=true)
 (he:(bL st x).2.2) (hgm:gc (bL st x).2.1 m) (hm:mv (bL st x).2.1 m=.al p) (hp:aa (bL st x).2.1 p=.omap nw es) (hgk:gc (bL st x).2.1 k) (hk:fl (mv (bL st x).2.1 k)) (hkk:fk (mv (bL st x).2.1 k)=.i64):
 ∀g a w,Sim g st a w→∃w' g',(execOp a.eval o).run P w=.ok .skip w'∧g.to g'∧Sim g' (setPos (bL st x).2.1 p (.omap nw (gk es (aQ (mv (bL st x).2.1 k)) (bL st x).1))) a w':=by
 intro g a w h;have hex:execOp a.eval o=execOp a.eval {o with op:=.mapUpdate t m k x}:=by
  rcases ho with ho|ho<;>simp only[execOp,ho]
 obtain⟨g1,t1,l1,n1,s1,f1⟩:=kb h x he;obtain⟨bl,hb⟩:=s1.own;obtain⟨_,ha⟩:=aL s1 m hgm;rw[hm]at ha;have hv:=ha (by rw[hp];rfl);have hfp:=aX hb (p:=p) (by rw[hp];rfl);rw[hp]at hfp;obtain⟨c,hc,en,ck,e1,e2,e3,e4⟩:=hfp;have hkv:=bD s1 hgk hk;rw[hkk]at hkv;unfold jN at ht;split at ht
 case h_2=>cases ht
 rename_i kt et hu;split at ht
 case h_2=>cases ht
 rename_i kk hku;have hobj:(getObj c).run P w=.ok (.map en ck) w:=MapKept.run_getObj_map e2;obtain⟨r,k1,k2⟩:=zA (kk:=kk) (n:=aQ (mv (bL st x).2.1 k)) e3 0;have hfind:(Instr.findKey kt (.int .i64 (aQ (mv (bL st x).2.1 k))) en.toList).run P w=.ok r w:=by
  simp only[Instr.findKey,Sem.run_bind,run_underlying hku,Result.andThen_ok,k1,Sem.run_pure]
 have hlt:=(Array.getElem?_eq_some_iff.1 e2).1;have fin:∀(en':Array MapEntry)(ck':Nat),MapKept.Stamped en' ck'→bm g1 (gk es (aQ (mv (bL st x).2.1 k)) (bL st x).1) en'.toList→
  Sim g1 (setPos (bL st x).2.1 p (.omap nw (gk es (aQ (mv (bL st x).2.1 k)) (bL st x).1))) a {w with heap:=w.heap.setIfInBounds c (.map en' ck')}:=by
  intro en' ck' hst hf;refine s1.ownWrite hb (by rw[hp];rfl) hc rfl (by simp) (fun j hj=>?_) ⟨c,rfl,en',ck',e1,?_,hf,e4.1,hst⟩ rfl (fun _ _ _ hh=>by cases hh)
  ·show(w.heap.setIfInBounds c _)[j]?=_;rw[Array.getElem?_setIfInBounds_ne (Ne.symm hj)]
  ·show(w.heap.setIfInBounds c _)[c]?=_;simp[hlt]
 have hev:a.eval m=.map (some c):=hv.trans e1;rcases k2 with⟨rfl,k0,k2⟩|⟨i,me,rfl,k3,k4,k5⟩
 ·refine⟨_,g1,?_,t1,fin (en.push {key:=.int .i64 (aQ (mv (bL st x).2.1 k)),val:=a.eval x,born:=ck}) (ck+1) (MapKept.stamped_push e4.2 k0) (by rw[Array.toList_push];exact k2 _ _ _ f1)⟩;rw[hex];simp only[execOp,hev,hkv,Instr.mapUpdate,Sem.run_bind,run_underlying hu,Result.andThen_ok,hobj,bT w _ kt kk .i64 _ hku,hfind,MapKept.run_setObj_map _ e2,Sem.run_pure]
 ·rw[Nat.zero_add]at hfind;refine⟨_,g1,?_,t1,fin (en.modify i fun e=>{e with key:=.int .i64 (aQ (mv (bL st x).2.1 k)),val:=a.eval x}) ck (MapKept.stamped_modify e4.2 i _ (fun _ _=>rfl) (fun e _ he=>by rw[←Array.getElem?_toList,k3]at he;cases he;exact k4.symm)) ?_⟩
  ·have hkk':((en[i]?).map (·.key)).getD (.int .i64 (aQ (mv (bL st x).2.1 k)))=.int .i64 (aQ (mv (bL st x).2.1 k)):=by
    rw[←Array.getElem?_toList,k3];exact k4
   rw[hex];simp only[execOp,hev,hkv,Instr.mapUpdate,Sem.run_bind,run_underlying hu,Result.andThen_ok,hobj,bT w _ kt kk .i64 _ hku,hfind,hkk',Instr.keyThatStays,tL,if_true,Sem.run_pure,MapKept.run_setObj_map _ e2]
  ·have:(en.modify i fun e=>{e with key:=.int .i64 (aQ (mv (bL st x).2.1 k)),val:=a.eval x}).toList=en.toList.set i {me with key:=.int .i64 (aQ (mv (bL st x).2.1 k)),val:=a.eval x}:=by
    apply List.ext_getElem?;intro j;rw[Array.getElem?_toList,Array.getElem?_modify,List.getElem?_set];split
    ·rename_i hij;subst hij;rw[←Array.getElem?_toList,k3,Option.map_some];simp only[if_pos (List.getElem?_eq_some_iff.1 k3).1]
    ·rw[Array.getElem?_toList]
   rw[this];exact k5 _ _ f1
/-! ### What is deleted of a map -/
def ij(n:Int):List (Int×PV)→List (Int×PV)
 |[]=>[]
 |(k,x)::r=>if k=n then r else(k,x)::ij n r
theorem zB{g:Gh}{kk:IntKind}{n:Int}:∀{es:List (Int×PV)}{en:List MapEntry}(_:bm g es en)(j:Nat),
 ∃r,Instr.findNow (.int kk) (.int .i64 n) en j=some r∧(r=none∧bm g (ij n es) en∨∃i u,r=some (j+i,u)∧i<en.length∧bm g (ij n es) (en.eraseIdx i))
 |[],en,h,j=>by
  simp only[bm]at h;subst h;exact⟨none,rfl,.inl ⟨rfl,rfl⟩⟩
 |(k,x)::es,en,⟨m,r,h1,h2,h3,h4⟩,j=>by
  subst h1;simp only[Instr.findNow,h2,Instr.sameNow,if_true]
  by_cases hk:k=n
  ·subst hk;simp only[beq_self_eq_true];refine⟨_,rfl,.inr ⟨0,m.val,rfl,by simp,?_⟩⟩;simp only[ij,if_true,List.eraseIdx_cons_zero];exact h4
  ·have hb:(n==k)=false:=by simp;exact fun e=>hk e.symm
   simp only[hb];obtain⟨r',e1,e2⟩:=zB (n:=n) h4 (j+1);refine⟨r',e1,?_⟩;simp only[ij,if_neg hk];rcases e2 with⟨rfl,e2⟩|⟨i,u,rfl,e3,e4⟩
   ·exact .inl ⟨rfl,m,r,rfl,h2,h3,e2⟩
   ·refine .inr ⟨i+1,u,by rw[Nat.add_assoc,Nat.add_comm 1 i],by simp;omega,?_⟩;rw[List.eraseIdx_cons_succ];exact⟨m,_,rfl,h2,h3,e4⟩
theorem xB{P:Program}{st:St}(o:Oper)(t t2:TypeId)(m k:Operand)(p:Pos)(nw:Bool)(es:List (Int×PV))(ho:o.op=.call {callee:=.builtin .delete,args:=#[m,k],argTypes:=#[t,t2]}) (hd:o.dst=none) (ht:jN P t=true)
 (hgm:gc st m) (hm:mv st m=.al p) (hp:aa st p=.omap nw es) (hgk:gc st k) (hk:fl (mv st k)) (hkk:fk (mv st k)=.i64):
 ∀g a w,Sim g st a w→∃v w' g',(execOp a.eval o).run P w=.ok (.value v) w'∧g.to g'∧Sim g' (setPos st p (.omap nw (ij (aQ (mv st k)) es))) (a.put o.dst v) w':=by
 intro g a w h;obtain⟨bl,hb⟩:=h.own;obtain⟨_,ha⟩:=aL h m hgm;rw[hm]at ha;have hv:=ha (by rw[hp];rfl);have hfp:=aX hb (p:=p) (by rw[hp];rfl);rw[hp]at hfp;obtain⟨c,hc,en,ck,e1,e2,e3,e4⟩:=hfp;have hkv:=bD h hgk hk;rw[hkk]at hkv;unfold jN at ht;split at ht
 case h_2=>cases ht
 rename_i kt et hu;split at ht
 case h_2=>cases ht
 rename_i kk hku;have hobj:(getObj c).run P w=.ok (.map en ck) w:=MapKept.run_getObj_map e2;obtain⟨r,k1,k2⟩:=zB (kk:=kk) (n:=aQ (mv st k)) e3 0;have hfind:(Instr.findKey kt (.int .i64 (aQ (mv st k))) en.toList).run P w=.ok r w:=by
  simp only[Instr.findKey,Sem.run_bind,run_underlying hku,Result.andThen_ok,k1,Sem.run_pure]
 have hlt:=(Array.getElem?_eq_some_iff.1 e2).1;have fin:∀en':Array MapEntry,MapKept.Stamped en' ck→bm g (ij (aQ (mv st k)) es) en'.toList→
  Sim g (setPos st p (.omap nw (ij (aQ (mv st k)) es))) a {w with heap:=w.heap.setIfInBounds c (.map en' ck)}:=by
  intro en' hst hf;refine h.ownWrite hb (by rw[hp];rfl) hc rfl (by simp) (fun j hj=>?_) ⟨c,rfl,en',ck,e1,?_,hf,e4.1,hst⟩ rfl (fun _ _ _ hh=>by cases hh)
  ·show(w.heap.setIfInBounds c _)[j]?=_;rw[Array.getElem?_setIfInBounds_ne (Ne.symm hj)]
  ·show(w.heap.setIfInBounds c _)[c]?=_;simp[hlt]
 have hev:a.eval m=.map (some c):=hv.trans e1;rw[hd];rcases k2 with⟨rfl,k2⟩|⟨i,u,rfl,k3,k4⟩
 ·refine⟨.tuple #[],_,g,?_,h.refl_to,fin en e4.2 k2⟩;simp[execOp,ho,resolve,invoke,builtin,hev,hkv,Builtin.delete_,run_underlying hu,hobj,bT w _ kt kk .i64 _ hku,hfind,MapKept.run_setObj_map _ e2]
 ·refine⟨.tuple #[],_,g,?_,h.refl_to,fin (en.eraseIdxIfInBounds i) (MapKept.stamped_erase e4.2 i) ?_⟩
  ·rw[Nat.zero_add]at hfind;simp[execOp,ho,resolve,invoke,builtin,hev,hkv,Builtin.delete_,run_underlying hu,hobj,bT w _ kt kk .i64 _ hku,hfind,MapKept.run_setObj_map _ e2]
  ·have hi:i<en.size:=by simpa using k3
   rw[Array.eraseIdxIfInBounds,dif_pos hi,Array.toList_eraseIdx];exact k4
theorem vh{P:Program}{st:St}(o:Oper)(t:TypeId)(d:Nat)(ho:o.op=.makeMap t none)(hd:o.dst=some d){N:Nat}(hN:d<N):
 ∀g a w,g.N=N→Sim g st a w→∃v w' g',(execOp a.eval o).run P w=.ok (.value v) w'∧g.to g'∧Sim g' ⟨(d,.omap true [])::aA (cN d) st.t,st.h⟩ (a.put o.dst v) w':=by
 intro g a w hg h;obtain⟨bl,hb⟩:=h.own;refine⟨.map (some w.heap.size),w.alloc (.map #[] 0),g,?_,h.refl_to,?_⟩
 ·simp only[execOp,ho,Option.map_none,Sem.run_bind,Go.RowKit.run_makeMap,Result.andThen_ok,Sem.run_pure]
 ·rw[hd];refine h.putOwn hb (hg▸hN) rfl (by simp) (fun c hc _=>heap_alloc_old w _ hc) (o:=some w.heap.size) ⟨w.heap.size,rfl,#[],0,rfl,heap_alloc_new w _,rfl,fun _=>h.B,MapKept.stamped_empty 0⟩ rfl (fun c hc=>?_);cases hc
  exact⟨by simp,h.fresh hb (Nat.le_refl _)⟩
def xC(st:St):Option Operand→Prop
 |none=>True
 |some x=>gc st x∧fl (mv st x)
theorem tM{P:Program}{st:St}(o:Oper)(t:TypeId)(r:Option Operand)(d:Nat)(ho:o.op=.makeMap t r)(hd:o.dst=some d)(hm:jN P t=true)(hr:xC st r){N:Nat}(hN:d<N):
 ∀g a w,g.N=N→Sim g st a w→∃v w' g',(execOp a.eval o).run P w=.ok (.value v) w'∧g.to g'∧Sim g' ⟨(d,.omap true [])::aA (cN d) st.t,st.h⟩ (a.put o.dst v) w':=by
 intro g a w hg h;cases r with
 |none=>exact vh o t d ho hd hN g a w hg h
 |some x=>
  obtain⟨bl,hb⟩:=h.own;unfold jN at hm;split at hm
  case h_2=>cases hm
  rename_i k e hu;refine⟨.map (some w.heap.size),w.alloc (.map #[] 0),g,?_,h.refl_to,?_⟩
  ·simp only[execOp,ho,Option.map_some,Sem.run_bind,bD h hr.1 hr.2,Instr.makeMap,run_underlying hu,Result.andThen_ok,asInt,asIntOf,Sem.run_pure];rfl
  ·rw[hd];refine h.putOwn hb (hg▸hN) rfl (by simp) (fun c hc _=>heap_alloc_old w _ hc) (o:=some w.heap.size) ⟨w.heap.size,rfl,#[],0,rfl,heap_alloc_new w _,rfl,fun _=>h.B,MapKept.stamped_empty 0⟩ rfl (fun c hc=>?_);cases hc
   exact⟨by simp,h.fresh hb (Nat.le_refl _)⟩
/-! ### A part of a block is cleared -/
def mA:List PV→Bool
 |[]=>true
 |.lit v::r=>v.oneCell'&&mA r
 |_=>false
def xD(P:Program)(st:St)(t:TypeId)(x:Operand)(K:St→Prop):Prop:=
 match mv st x,df P t with
 |.pv (.bsl b 1 off n _),some [.lit z]=>gc st x∧z.cells=#[z]∧z.oneCell'=true∧0<n∧off+n≤(st.h.getD b []).length∧
  K ⟨aA (aC b off n) st.t,st.h.set b (splice (st.h.getD b []) off (List.replicate n (.pv (.lit z))))⟩
 |.pv (.bsl b e off n _),some zs=>gc st x∧mA zs=true∧zs.length=e∧0<e∧0<n∧off+n*e≤(st.h.getD b []).length∧
  K ⟨aA (aC b off (n*e)) st.t,st.h.set b (splice (st.h.getD b []) off (List.replicate n (zs.map .pv)).flatten)⟩
 |_,_=>False
theorem sq:∀{zs:List PV},mA zs=true→∃vs:List Value,zs=vs.map .lit∧∀v∈vs,v.oneCell'=true
 |[],_=>⟨[],rfl,by simp⟩
 |x::r,h=>by
  cases x with
  |lit v=>
   simp only[mA,Bool.and_eq_true]at h;obtain⟨vs,e,h1⟩:=sq h.2;exact⟨v::vs,by rw[e];rfl,fun u hu=>by
    rcases List.mem_cons.1 hu with rfl|hu
    ·exact h.1
    ·exact h1 u hu⟩
  |_=>simp[mA]at h
theorem oN:∀{a b:List Value},a.map PV.lit=b.map PV.lit→a=b
 |[],[],_=>rfl
 |[],_::_,h=>by simp at h
 |_::_,[],h=>by simp at h
 |x::a,y::b,h=>by
  simp only[List.map_cons,List.cons.injEq,PV.lit.injEq]at h;rw[h.1,oN h.2]
theorem kg(z:Array Value):∀n,(Builtin.zeroCells z n).toList=(List.replicate n z.toList).flatten
 |0=>by simp[Builtin.zeroCells]
 |n+1=>by
  have ih:=kg z n;simp only[Builtin.zeroCells,Array.toList_map,Array.toList_range]at ih⊢;rw[Nat.succ_mul,List.range_add,List.map_append,ih,List.replicate_succ',List.flatten_append];congr 1;simp only[List.flatten_cons,List.flatten_nil,List.append_nil];apply List.ext_getElem
  ·simp
  ·intro i h1 h2;have hi:i<z.size:=by simpa using h2
   simp only[List.getElem_map,List.getElem_range];have hm:(n*z.size+i) %z.size=i:=by rw[Nat.mul_comm,Nat.mul_add_mod,Nat.mod_eq_of_lt hi]
   rw[hm,getElem!_pos z i hi];simp
theorem xE{P:Program}{st:St}(o:Oper)(t:TypeId)(x:Operand)(b e off n cap:Nat)(zs:List PV)(ho:o.op=.call {callee:=.builtin .clear,args:=#[x],argTypes:=#[t]}) (hd:o.dst=none)
 (hm:mv st x=.pv (.bsl b e off n cap)) (hz:df P t=some zs) (hg:gc st x) (hc:mA zs=true) (he:zs.length=e) (h0:0<e) (hn:0<n) (hfit:off+n*e≤(st.h.getD b []).length):
 ∀g a w,Sim g st a w→∃v w' g',(execOp a.eval o).run P w=.ok (.value v) w'∧g.to g'∧Sim g' ⟨aA (aC b off (n*e)) st.t,st.h.set b (splice (st.h.getD b []) off (List.replicate n (zs.map .pv)).flatten)⟩ (a.put o.dst v) w':=by
 intro g a w h;obtain⟨vs,rfl,h1⟩:=sq hc;have hvl:vs.length=e:=by simpa using he
 obtain⟨hf,_⟩:=aL h x hg;rw[hm]at hf;obtain⟨_,hb1,_,hvx⟩:=hf;have hbl:b<st.h.length:=h.n▸hb1;have hbe:st.h[b]?=some (st.h.getD b []):=by simp[List.getD,List.getElem?_eq_getElem hbl]
 obtain⟨bl,hbo⟩:=h.own;obtain⟨arr,T,a1,⟨a2,_⟩,_⟩:=hbo.blocks b _ hbe;unfold df at hz;split at hz
 case h_2=>cases hz
 rename_i el hu;unfold dX at hz;split at hz
 case h_2=>cases hz
 rename_i inf hinf;simp only[Option.map_eq_some_iff]at hz;obtain⟨z',hz',hzz⟩:=hz;have hzc:z'.cells.toList=vs:=oN hzz;have hflen:((List.replicate n vs).flatten).length=n*e:=by
  rw[List.length_flatten,List.map_replicate,List.sum_replicate_nat,hvl]
 have hone:∀v∈(List.replicate n vs).flatten,v.oneCell'=true:=fun v hv=>by
  obtain⟨l,hl,hvl⟩:=List.mem_flatten.1 hv;rw[List.eq_of_mem_replicate hl]at hvl;exact h1 v hvl
 have hrun:(Builtin.clear_ #[t] o.type #[.slice (some ⟨g.μ b,off,none⟩) n cap]).run P w=.ok (.tuple #[]) (w.setRow (g.μ b) (splice arr.toList off (List.replicate n vs).flatten).toArray):=by
  have hzl:(Builtin.zeroCells z'.cells n).toList=(List.replicate n vs).flatten:=by rw[kg,hzc]
  have hst:=run_storeCells_at P (g.μ b) off T ((List.replicate n vs).flatten) 0 arr w a1 (by rw[a2,hflen];simpa using hfit) hone;simp only[Nat.add_zero]at hst;obtain⟨m,rfl⟩:∃m,n=m+1:=⟨n -1,by omega⟩;have hzv:(zeroValue el).run P w=.ok z' w:=by simp[zeroValue,typeInfo,hinf,hz']
  simp only[Builtin.clear_];simp[run_underlying hu,hzv,hzl,hst,splice]
 refine⟨.tuple #[],w.setRow (g.μ b) (splice arr.toList off (List.replicate n vs).flatten).toArray,g,?_,h.refl_to,?_⟩
 ·simp[execOp,ho,resolve,invoke,builtin,hvx,hrun]
 ·rw[hd];have hf2:ai g ((List.replicate n (vs.map PV.lit)).flatten) ((List.replicate n vs).flatten):=by
   have:=dI g ((List.replicate n vs).flatten)
   rwa [List.map_flatten,List.map_replicate]at this
  have hl2:((List.replicate n (vs.map PV.lit)).flatten).length=n*e:=by
   rw[List.length_flatten,List.map_replicate,List.sum_replicate_nat,List.length_map,hvl]
  have:=h.blockWrite (ys:=(List.replicate n (vs.map PV.lit)).flatten) (w':=w.setRow (g.μ b) (splice arr.toList off (List.replicate n vs).flatten).toArray) hbe (by rw[hl2];exact hfit) a1 hf2 hone rfl (size_setRow _ _ _) (fun c hc=>setRow_other w _ c _ hc) ⟨T,setRow_heap w _ arr _ T _ a1⟩ (by simp);rw[hl2,List.map_flatten,List.map_replicate]at this;exact this
theorem Ba{P:Program}{st:St}(o:Oper)(t:TypeId)(x:Operand)(b off n cap:Nat)(z:Value)(ho:o.op=.call {callee:=.builtin .clear,args:=#[x],argTypes:=#[t]}) (hd:o.dst=none)
 (hm:mv st x=.pv (.bsl b 1 off n cap)) (hz:df P t=some [.lit z]) (hg:gc st x) (hc:z.cells=#[z]) (h1:z.oneCell'=true) (hn:0<n) (hfit:off+n≤(st.h.getD b []).length):
 ∀g a w,Sim g st a w→∃v w' g',(execOp a.eval o).run P w=.ok (.value v) w'∧g.to g'∧Sim g' ⟨aA (aC b off n) st.t,st.h.set b (splice (st.h.getD b []) off (List.replicate n (.pv (.lit z))))⟩ (a.put o.dst v) w':=by
 intro g a w h;obtain⟨hf,_⟩:=aL h x hg;rw[hm]at hf;obtain⟨_,hb1,_,hvx⟩:=hf;have hbl:b<st.h.length:=h.n▸hb1;have hbe:st.h[b]?=some (st.h.getD b []):=by simp[List.getD,List.getElem?_eq_getElem hbl]
 obtain⟨bl,hbo⟩:=h.own;obtain⟨arr,T,a1,⟨a2,_⟩,_⟩:=hbo.blocks b _ hbe;unfold df at hz;split at hz
 case h_2=>cases hz
 rename_i el hu;unfold dX at hz;split at hz
 case h_2=>cases hz
 rename_i inf hinf;simp only[Option.map_eq_some_iff]at hz;obtain⟨z',hz',hzz⟩:=hz;have hzv:z'=z∨z'.cells=#[z]:=by
  have:z'.cells.toList=[z]:=by
   cases hl:z'.cells.toList with
   |nil=>rw[hl]at hzz;simp at hzz
   |cons y ys=>
    rw[hl]at hzz;simp only[List.map_cons,List.cons.injEq,PV.lit.injEq,List.map_eq_nil_iff]at hzz;rw[hzz.1,hzz.2]
  exact .inr (by apply Array.ext';rw[this])
 have hzc:z'.cells=#[z]:=hzv.elim (fun e=>e▸hc) id;have hone:z'.cells.size=1:=by rw[hzc];rfl
 have hrun:(Builtin.clear_ #[t] o.type #[.slice (some ⟨g.μ b,off,none⟩) n cap]).run P w=.ok (.tuple #[]) (w.setRow (g.μ b) (splice arr.toList off (List.replicate n z)).toArray):=by
  have hzl:(Builtin.zeroCells z'.cells n).toList=List.replicate n z:=by
   rw[hzc];simp[Builtin.zeroCells];apply List.ext_getElem
   ·simp
   ·intro i h1 h2;simp[Nat.mod_one]
  have hst:=run_storeCells_at P (g.μ b) off T (List.replicate n z) 0 arr w a1 (by rw[a2];simpa using hfit) (by intro v hv';rw[List.eq_of_mem_replicate hv'];exact h1);simp only[Nat.add_zero]at hst;obtain⟨m,rfl⟩:∃m,n=m+1:=⟨n -1,by omega⟩;have hzv:(zeroValue el).run P w=.ok z' w:=by simp[zeroValue,typeInfo,hinf,hz']
  simp[Builtin.clear_,run_underlying hu,hzv,hzl,hst,splice]
 refine⟨.tuple #[],w.setRow (g.μ b) (splice arr.toList off (List.replicate n z)).toArray,g,?_,h.refl_to,?_⟩
 ·simp[execOp,ho,resolve,invoke,builtin,hvx,hrun]
 ·rw[hd];have hf2:ai g (List.replicate n (.lit z)) (List.replicate n z):=by
   have:=dI g (List.replicate n z)
   rwa [List.map_replicate]at this
  have:=h.blockWrite (ys:=List.replicate n (.lit z)) (w':=w.setRow (g.μ b) (splice arr.toList off (List.replicate n z)).toArray) hbe (by simpa using hfit) a1 hf2 (fun v hv=>by rw[List.eq_of_mem_replicate hv];exact h1) rfl (size_setRow _ _ _) (fun c hc=>setRow_other w _ c _ hc) ⟨T,setRow_heap w _ arr _ T _ a1⟩ (by simp);rw[List.length_replicate,List.map_replicate]at this;exact this
/-! ### A slice of zeros -/
theorem od(z:Array Value)(e:Nat)(he:z.size=e):∀k,(madeCells z (k*e)).toList=(List.replicate k z.toList).flatten
 |0=>by simp[madeCells]
 |k+1=>by
  have ih:=od z e he k;simp only[madeCells,Array.toList_map,Array.toList_range]at ih⊢;rw[Nat.succ_mul,List.range_add,List.map_append,ih,List.replicate_succ',List.flatten_append];congr 1;simp only[List.flatten_cons,List.flatten_nil,List.append_nil,List.map_map];apply List.ext_getElem?;intro i;simp only[List.getElem?_map]
  by_cases hi:i<e
  ·rw[List.getElem?_range hi];simp only[Option.map_some,Function.comp_apply];rw[he,Nat.add_comm (k*e) i,Nat.add_mul_mod_self_right,Nat.mod_eq_of_lt hi];have:i<z.size:=by omega
   simp[this]
  ·rw[List.getElem?_eq_none (by simpa using hi),List.getElem?_eq_none (by simp[he];omega)];rfl
theorem kh{g:Gh}{e:Nat}{zs:List PV}{zl:List Value}(h:ai g zs zl)(hl:zs.length=e)(ho:∀v∈zl,v.oneCell'=true):∀n,au g e (List.replicate n zs) ((List.replicate n zl).flatten)
 |0=>rfl
 |n+1=>by
  simp only[List.replicate_succ,List.flatten_cons];exact⟨zl,_,rfl,⟨hl,ho⟩,h,kh h hl ho n⟩
theorem rN{P:Program}{st:St}(o:Oper)(t:TypeId)(x y:Operand)(d e b:Nat)(zs:List PV)(ho:o.op=.makeSlice t x y)(hd:o.dst=some d)(hi:bG P t=some (e,b))(hz:df P t=some zs)(h1:bn zs=true)(hb1:0<b)
 (hgx:gc st x) (hgy:gc st y) (hx:fl (mv st x)) (hy:fl (mv st y)) (h0:0≤aQ (mv st x)) (hle:aQ (mv st x)≤aQ (mv st y)) (hbytes:aQ (mv st y)*b≤140737488355328) {N:Nat} (hN:d<N):
 ∀g a w,g.N=N→Sim g st a w→∃v w' g',(execOp a.eval o).run P w=.ok (.value v) w'∧g.to g'∧
  Sim g' ⟨(d,.own true e (List.replicate (aQ (mv st x)).toNat zs))::aA (cN d) st.t,st.h⟩ (a.put o.dst v) w':=by
 intro g a w hg h;obtain⟨bl,hb⟩:=h.own;unfold bG at hi;split at hi
 case h_2=>cases hi
 rename_i el hu;unfold df at hz;rw[hu]at hz;simp only at hz;cases hinf:P.info? el with
 |none=>rw[hinf]at hi;cases hi
 |some inf=>
  rw[hinf]at hi;simp only[dX,hinf,Option.map_eq_some_iff]at hz;obtain⟨z,hz,rfl⟩:=hz;simp only at hi;rw[hz]at hi;simp only at hi;split at hi
  case isFalse=>cases hi
  rename_i hsz;cases hi
  have ex:=bD h hgx hx;have ey:=bD h hgy hy;generalize aQ (mv st x)=l at*;generalize aQ (mv st y)=c at*;have hc0:0≤c:=by omega
  have hcb:c*1≤c*(inf.bytes:Int):=Int.mul_le_mul_of_nonneg_left (by omega) hc0;have hrun:=run_make (P:=P) (w:=w) t el inf z hu hinf hz (fk (mv st x)) (fk (mv st y)) l c h0 hle (by rw[Int.mul_comm];omega) (by omega);have hlits:ai g (z.cells.toList.map PV.lit) z.cells.toList:=dI g _;have hone:=db h1 hlits;refine⟨.slice (some ⟨w.heap.size,0,none⟩) l.toNat c.toNat,w.alloc (.cells (madeCells z.cells (c.toNat*inf.size)) el),g,?_,h.refl_to,?_⟩
  ·simp only[execOp,ho,ex,ey,Sem.run_bind,hrun,Result.andThen_ok,Sem.run_pure]
  ·rw[hd];refine h.putOwn hb (hg▸hN) rfl (by simp) (fun k hk _=>heap_alloc_old w _ hk) (o:=some w.heap.size) ?_ rfl (fun k hk=>?_)
   ·refine .inr ⟨w.heap.size,rfl,c.toNat,_,el,(List.replicate l.toNat z.cells.toList).flatten,by rw[List.length_replicate],heap_alloc_new w _,?_,⟨?_,?_,?_⟩,?_,?_,fun _=>h.B⟩
    ·exact size_madeCells _ _
    ·rw[List.length_replicate];omega
    ·show c.toNat≤2^63 -1;omega
    ·rw[od z.cells inf.size hsz.1];intro v hv;obtain⟨l',hl',hv⟩:=List.mem_flatten.1 hv;rw[List.eq_of_mem_replicate hl']at hv;exact hone v hv
    ·exact kh hlits (by simpa using hsz.1) hone _
    ·rw[od z.cells inf.size hsz.1];refine⟨(List.replicate (c.toNat -l.toNat) z.cells.toList).flatten,?_⟩;rw[←List.flatten_append,List.replicate_append_replicate];congr 2;omega
   ·cases hk
    exact⟨by simp,h.fresh hb (Nat.le_refl _)⟩
end Go.AX
namespace Go.AX
theorem nf{a:Act}{s:Nat}(h:s<a.tmps.size):a.put (some s) (a.tmps.getD s undef)=a:=by
 cases a with
 |mk t d=>
  simp only at h;simp only[Act.put,Act.mk.injEq,and_true];apply Array.ext_getElem?;intro i;rw[Array.getElem?_setIfInBounds];split
  ·rename_i e;subst e;simp[h]
  ·rfl
theorem Sim.looks{g:Gh}{st st':St}{a:Act}{w:World}(h:Sim g st a w)(hh:st'.h=st.h)(ht:∀s,look st'.t s=look st.t s):Sim g st' a w:=by
  obtain⟨bl,hb⟩:=h.own
  have hp:∀p,aa st' p=aa st p:=fun p=>by
    cases p with
    |slot s=>exact ht s
    |cell b k=>simp only[aa,hh]
  exact { size := h.size, defs := h.defs, env := h.env, n := by rw [hh]; exact h.n, n0 := h.n0, B := h.B, I := h.I, F := h.F, μI := h.μI, μinj := h.μinj,
          own:=⟨bl,{slots:=fun s=>by rw[ht s];exact hb.slots s,blocks:=fun b xs hx=>hb.blocks b xs (by rw[←hh];exact hx),inj:=hb.inj,free:=hb.free}⟩,
          al:=fun s=>by rw[ht s];exact bN.congr (fun p _=>⟨hp p,rfl⟩) (h.al s)}
theorem F7{g:Gh}{w:World}{nw:Bool}{e:Nat}{rows:List (List PV)}{v:Value}{o:Option Nat}(h:av g w (.own nw e rows) v o){hi:Nat}(hh:hi≤rows.length){q:Option Addr}{n cap:Nat}(hv:v=.slice q n cap):
 av g w (.own nw e (rows.take hi)) (.slice q hi cap) o:=by
 rcases h with⟨rfl,rfl,e1⟩|⟨c,hc,cap',arr,T,vs,e1,e2,e3,e4,e5,e6,e7⟩
 ·left;simp only[List.length_nil,Nat.le_zero]at hh;subst hh;rw[hv]at e1;simp only[Value.slice.injEq]at e1;obtain⟨rfl,_,rfl⟩:=e1;exact⟨rfl,by simp,rfl⟩
 ·right;rw[hv]at e1;simp only[Value.slice.injEq]at e1;obtain⟨rfl,rfl,rfl⟩:=e1;refine⟨c,hc,cap,arr,T,vs.take (hi*e),by rw[List.length_take,Nat.min_eq_left hh],e2,e3,⟨by rw[List.length_take];omega,e4.2⟩,?_,(List.take_prefix _ _).trans e6,e7⟩;have:=au.cut e5 0 hi (Nat.zero_le _) hh;simpa using this
theorem pI{g:Gh}{st:St}{a:Act}{w:World}{bl:Pos→Option Nat}(hb:Owns g st a w bl){p:Pos}{hi:Nat}{nw:Bool}{e:Nat}{rows:List (List PV)}{v:Value}(hp:aa st p=.own nw e rows)(ha:bN g st a w (.loc p 0 hi) v):
 av g w (.own nw e (rows.take hi)) v (bl p):=by
 have hf:=aX hb (p:=p) (by rw[hp];rfl);rw[hp]at hf;obtain⟨_,h2,q,cap,hv,_,_,hz⟩:=ha _ _ _ hp;obtain⟨n0,hz⟩:=hz rfl;have:=F7 hf h2 hz;rw[hv];simpa using this
theorem gv{g:Gh}{w:World}{x:SV}{v:Value}{o:Option Nat}(hx:x.isOwn=true)(h:av g w x v o):v.cells=#[v]∧v.oneCell'=true:=by
 cases x with
 |own nw e rows=>
  rcases h with⟨_,_,rfl⟩|⟨c,_,cap,arr,T,vs,rfl,_⟩<;>exact⟨rfl,rfl⟩
 |omap nw es=>obtain⟨c,_,en,ck,rfl,_⟩:=h;exact⟨rfl,rfl⟩
 |_=>cases hx
theorem qa(q:Pos→Bool)(x:SV):cb q (cb q x)=cb q x:=by
 rcases a8 q x with e|⟨e,_⟩
 ·rw[e];rfl
 ·rw[e,e]
theorem Sim.adopt{g:Gh}{st:St}{a:Act}{w:World}(h:Sim g st a w){bl:Pos→Option Nat}(hb:Owns g st a w bl){b k:Nat}{xs:List SV}(hx:st.h[b]?=some xs)(hk:k<xs.length){sv:SV}{o:Option Nat}
 (hs:av g w sv (an g a w (.cell b k)) o) (ho:sv.isOwn=true) (hc:∀c,o=some c→c<w.heap.size∧FreeAt g bl c):
 Sim g ⟨aA (aC b k 1) st.t,st.h.set b (xs.set k sv)⟩ a w∧Owns g ⟨aA (aC b k 1) st.t,st.h.set b (xs.set k sv)⟩ a w (fun p=>if p=.cell b k then o else bl p):=by
 have hbl:b<st.h.length:=(List.getElem?_eq_some_iff.1 hx).1;have hpos:∀p,aC b k 1 p=false→(aa ⟨aA (aC b k 1) st.t,st.h.set b (xs.set k sv)⟩ p).isOwn=true→
  aa ⟨aA (aC b k 1) st.t,st.h.set b (xs.set k sv)⟩ p=aa st p∧an g a w p=an g a w p:=by
  intro p hq hp;refine⟨?_,rfl⟩;cases p with
  |slot s=>simp only[aa,aS]at hp⊢;exact dH hp
  |cell b' k'=>
   simp only[aa,List.getD_eq_getElem?_getD,List.getElem?_set]
   by_cases hbb:b=b'
   ·subst hbb;have hkk:k≠k':=fun e=>by subst e;simp[aC]at hq
    rw[if_pos rfl,if_pos hbl,hx];simp only[Option.getD_some,List.getElem?_set_ne hkk]
   ·rw[if_neg hbb]
 have hown:Owns g ⟨aA (aC b k 1) st.t,st.h.set b (xs.set k sv)⟩ a w (fun p=>if p=.cell b k then o else bl p):=by
  refine{slots:=fun s=>?_,blocks:=fun b' xs' hx'=>?_,inj:=fun p q c hp hq=>?_,free:=fun p c hp=>?_}
  ·rw[if_neg (by intro e;cases e),aS];exact av.kill _ (hb.slots s)
  ·rw[List.getElem?_set]at hx';split at hx'
   ·rename_i hbb;subst hbb
    try rw[if_pos hbl]at hx'
    cases hx'
    obtain⟨arr,T,e1,e2,e3⟩:=hb.blocks b xs hx;refine⟨arr,T,e1,⟨by rw[List.length_set];exact e2.1,e2.2⟩,fun k' x hk'=>?_⟩;rw[List.getElem?_set]at hk';split at hk'
    ·rename_i hkk;subst hkk
     try rw[if_pos hk]at hk'
     cases hk'
     rw[if_pos rfl];refine⟨(by cases sv<;>first|rfl|cases ho),?_⟩;simpa[an,e1]using hs
    ·rename_i hkk;rw[if_neg (by intro e;cases e;exact hkk rfl)];exact e3 k' x hk'
   ·rename_i hbb;obtain⟨arr,T,e1,e2,e3⟩:=hb.blocks b' xs' hx';refine⟨arr,T,e1,e2,fun k' x hk'=>?_⟩;rw[if_neg (by intro e;cases e;exact hbb rfl)];exact e3 k' x hk'
  ·split at hp
   ·rename_i e1;split at hq
    ·rename_i e2;rw[e1,e2]
    ·exact absurd hq ((hc c hp).2.own q)
   ·split at hq
    ·exact absurd hp ((hc c hq).2.own p)
    ·exact hb.inj p q c hp hq
  ·split at hp
   ·obtain⟨h1,h2⟩:=hc c hp;exact⟨h2.I,h2.F,h1,h2.μ⟩
   ·exact hb.free p c hp
 refine⟨{size:=h.size,defs:=h.defs,env:=h.env,n:=by simp only[List.length_set];exact h.n,n0:=h.n0,B:=h.B,I:=h.I,F:=h.F,μI:=h.μI,μinj:=h.μinj,own:=⟨_,hown⟩,al:=fun s=>?_},hown⟩;rw[aS];rcases a8 (aC b k 1) (look st.t s)with e|⟨e,hav⟩
 ·rw[e];trivial
 ·rw[e];exact bN.congrA hpos hav (h.al s)
def iK(st:St)(s b k:Nat):St:=⟨(s,.al (.cell b k))::aA (aC b k 1) st.t,st.h.set b ((st.h.getD b []).set k (look st.t s))⟩
theorem zC{g:Gh}{st:St}{a:Act}{w:World}(h:Sim g st a w){s:Nat}(ho:(look st.t s).isOwn=true):s<a.tmps.size:=by
 obtain⟨bl,hb⟩:=h.own;have hs:=hb.slots s;apply Nat.lt_of_not_le;intro hle;have hu:a.tmps.getD s undef=undef:=by rw[Array.getD_eq_getD_getElem?,Array.getElem?_eq_none hle];rfl
 rw[hu]at hs;cases hl:look st.t s with
 |own nw e rows=>rw[hl]at hs;rcases hs with⟨_,_,e1⟩|⟨c,_,cap,arr,T,vs,e1,_⟩<;>cases e1
 |omap nw es=>rw[hl]at hs;obtain⟨c,_,en,ck,e1,_⟩:=hs;cases e1
 |_=>rw[hl]at ho;cases ho
theorem Sim.moveTo{g:Gh}{st:St}{a:Act}{w:World}(h:Sim g st a w){s b k:Nat}{xs:List SV}(ho:(look st.t s).isOwn=true)(hx:st.h[b]?=some xs)(hk:k<xs.length)(hv:an g a w (.cell b k)=a.tmps.getD s undef):
 Sim g (iK st s b k) a w:=by
 obtain⟨bl,hb⟩:=h.own;have hlt:=zC h ho;obtain⟨h1,bl1,hb1,_,_,hfree⟩:=h.drop hb (.slot s);have hs:=hb.slots s;have hx1:(setPos st (.slot s) (.pv .bot)).h[b]?=some xs:=hx;obtain⟨h2,_⟩:=h1.adopt hb1 hx1 hk (sv:=look st.t s) (o:=bl (.slot s)) (by rw[hv];exact hs) ho (fun c hc=>⟨(hb.free _ c hc).2.2.1,hfree c hc⟩);have h3:=h2.put (d:=s) (sv:=.al (.cell b k)) (v:=a.tmps.getD s undef) (by rw[←h.size];exact hlt) rfl (fun _=>hv.symm) rfl;rw[nf hlt]at h3;refine h3.looks ?_ ?_
 ·simp[iK,St.put,setPos,List.getD_eq_getElem?_getD,hx]
 ·intro s';simp only[iK,St.put,look,setPos,aS];split<;>rfl
theorem xF{P:Program}{st:St}(o:Oper)(t:TypeId)(x y:Operand)(b off s:Nat)(ag:Bool)(ho:o.op=.store t x y)(hl:aJ P t=some (ag,1))(hy:mv st y=.al (.slot s))(hgy:gc st y)(hown:(look st.t s).isOwn=true)
 (hx:mv st x=.pv (.ptr b off)) (hgx:gc st x) (hfit:off<(st.h.getD b []).length):
 ∀g a w,Sim g st a w→∃w' g',(execOp a.eval o).run P w=.ok .skip w'∧g.to g'∧Sim g' (iK st s b off) a w':=by
 intro g a w h;obtain⟨hfx,_⟩:=aL h x hgx;rw[hx]at hfx;obtain⟨_,hb1,hvx⟩:=hfx;obtain⟨_,hay⟩:=aL h y hgy;rw[hy]at hay;have hvy:a.eval y=a.tmps.getD s undef:=hay hown;have hbl:b<st.h.length:=h.n▸hb1;have hbe:st.h[b]?=some (st.h.getD b []):=by simp[List.getD,List.getElem?_eq_getElem hbl]
 obtain⟨bl,hb⟩:=h.own;have hlt:=zC h hown;have hs:=hb.slots s;obtain⟨hcl,hone⟩:=gv hown hs;rw[←hvy]at hs hcl hone;obtain⟨arr,T,a1,⟨a2,_⟩,_⟩:=hb.blocks b _ hbe;have hr:=dF w hl (a.eval y) (by rw[hcl];rfl) (g.μ b) off T arr a1 (by rw[a2];exact hfit) (by rw[hcl];simpa using hone);obtain⟨h1,bl1,hb1',_,_,hfree⟩:=h.drop hb (.slot s);rw[hcl]at hr;have hbe1:(setPos st (.slot s) (.pv .bot)).h[b]?=some (st.h.getD b []):=hbe;obtain⟨h2,hb2⟩:=h1.blockWriteO hb1' (w':=w.setRow (g.μ b) (splice arr.toList off [a.eval y]).toArray) (k0:=off) (ys:=[.bot]) (vs:=[a.eval y]) (arr':=(splice arr.toList off [a.eval y]).toArray) hbe1 hfit a1 ⟨_,_,rfl,trivial,rfl⟩ (by simpa using hone) rfl (size_setRow _ _ _) (fun c hc=>setRow_other w _ c _ hc) ⟨T,setRow_heap w _ arr _ T _ a1⟩ (by simp);have hfr2:∀c,bl (.slot s)=some c→FreeAt g (fun p=>if aC b off 1 p=true then none else bl1 p) c:=fun c hc=>by
  obtain⟨f1,f2,f3,f4⟩:=hfree c hc;refine⟨f1,f2,f3,fun p hp=>?_⟩;split at hp
  ·cases hp
  ·exact f4 p hp
 have hval:an g a (w.setRow (g.μ b) (splice arr.toList off [a.eval y]).toArray) (.cell b off)=a.eval y:=by
  simp only[an,setRow_heap w _ arr _ T _ a1];rw[Array.getD_eq_getD_getElem?,←Array.getElem?_toList,dW (by simp[a2];exact hfit)];simp
 have hs2:av g (w.setRow (g.μ b) (splice arr.toList off [a.eval y]).toArray) (look st.t s) (a.eval y) (bl (.slot s)):=
  av.frame (Gh.le.refl g) (fun c hc=>setRow_other w _ c _ (fun e=>(hfree c hc).μ b hb1 e.symm)) hs
 have hget2:(st.h.set b (splice (st.h.getD b []) off ([PV.bot].map .pv)))[b]?=some (splice (st.h.getD b []) off ([PV.bot].map .pv)):=by
  rw[List.getElem?_set,if_pos rfl,if_pos hbl]
 obtain⟨h3,_⟩:=h2.adopt hb2 (k:=off) (xs:=splice (st.h.getD b []) off ([PV.bot].map .pv)) hget2 (by rw[bB hfit];exact hfit) (sv:=look st.t s) (o:=bl (.slot s)) (by rw[hval];exact hs2) hown
  (fun c hc=>⟨by rw[size_setRow];exact(hb.free _ c hc).2.2.1,hfr2 c hc⟩)
 have h4:=h3.put (d:=s) (sv:=.al (.cell b off)) (v:=a.tmps.getD s undef) (by rw[←h.size];exact hlt) rfl (fun _=>by rw[hval,hvy]) rfl;rw[nf hlt]at h4;refine⟨_,g,?_,h.refl_to,h4.looks ?_ ?_⟩
 ·simp only[execOp,ho,hvx,Instr.storeAt,Instr.sureAddr,Sem.run_bind,Sem.run_pure,Result.andThen_ok,hr]
 ·have e1:(splice (st.h.getD b []) off ([PV.bot].map .pv)).set off (look st.t s)=(st.h.getD b []).set off (look st.t s):=by
   apply List.ext_getElem?;intro i;rw[List.getElem?_set,List.getElem?_set,bB hfit,dW hfit]
   by_cases hi:off=i
   ·rw[if_pos hi,if_pos hi]
   ·rw[if_neg hi,if_neg hi,if_neg (by simp;omega)]
  simp only[iK,St.put,setPos,List.set_set,e1]
 ·intro s';simp only[iK,St.put,look,setPos,aS];split
  ·rfl
  ·exact(qa (aC b off 1) (look st.t s')).symm
theorem Bb{P:Program}{st:St}(o:Oper)(t:TypeId)(x y:Operand)(b off hi:Nat)(nw:Bool)(e:Nat)(rows:List (List PV))(ag:Bool)(ho:o.op=.store t x y)(hl:aJ P t=some (ag,1))(hy:mv st y=.loc (.cell b off) 0 hi)(hgy:gc st y)(hp:aa st (.cell b off)=.own nw e rows)
 (hx:mv st x=.pv (.ptr b off)) (hgx:gc st x):
 ∀g a w,Sim g st a w→∃w' g',(execOp a.eval o).run P w=.ok .skip w'∧g.to g'∧Sim g' ⟨aA (aC b off 1) st.t,st.h.set b ((st.h.getD b []).set off (.own nw e (rows.take hi)))⟩ a w':=by
 intro g a w h;obtain⟨hfx,_⟩:=aL h x hgx;rw[hx]at hfx;obtain⟨_,hb1,hvx⟩:=hfx;obtain⟨_,hay⟩:=aL h y hgy;rw[hy]at hay;have hbl:b<st.h.length:=h.n▸hb1;have hbe:st.h[b]?=some (st.h.getD b []):=by simp[List.getD,List.getElem?_eq_getElem hbl]
 have hfit:off<(st.h.getD b []).length:=by
  apply Nat.lt_of_not_le;intro hle;simp only[aa]at hp;rw[List.getD_eq_getElem?_getD,List.getElem?_eq_none hle]at hp;cases hp
 obtain⟨bl,hb⟩:=h.own;have hs:=pI hb hp hay;obtain⟨hcl,hone⟩:=gv (x:=.own nw e (rows.take hi)) rfl hs;obtain⟨arr,T,a1,⟨a2,_⟩,_⟩:=hb.blocks b _ hbe;have hr:=dF w hl (a.eval y) (by rw[hcl];rfl) (g.μ b) off T arr a1 (by rw[a2];exact hfit) (by rw[hcl];simpa using hone);rw[hcl]at hr;obtain⟨h2,hb2⟩:=h.blockWriteO hb (w':=w.setRow (g.μ b) (splice arr.toList off [a.eval y]).toArray) (k0:=off) (ys:=[.bot]) (vs:=[a.eval y]) (arr':=(splice arr.toList off [a.eval y]).toArray) hbe hfit a1 ⟨_,_,rfl,trivial,rfl⟩ (by simpa using hone) rfl (size_setRow _ _ _) (fun c hc=>setRow_other w _ c _ hc) ⟨T,setRow_heap w _ arr _ T _ a1⟩ (by simp);have hfr2:∀c,bl (.cell b off)=some c→FreeAt g (fun p=>if aC b off 1 p=true then none else bl p) c:=fun c hc=>by
  obtain⟨f1,f2,f3,f4⟩:=hb.free _ c hc;refine⟨f1,f2,f4,fun p hp=>?_⟩;split at hp
  ·cases hp
  ·rename_i hq;have:=hb.inj p (.cell b off) c hp hc;subst this;exact hq (by simp[aC])
 have hval:an g a (w.setRow (g.μ b) (splice arr.toList off [a.eval y]).toArray) (.cell b off)=a.eval y:=by
  simp only[an,setRow_heap w _ arr _ T _ a1];rw[Array.getD_eq_getD_getElem?,←Array.getElem?_toList,dW (by simp[a2];exact hfit)];simp
 have hs2:av g (w.setRow (g.μ b) (splice arr.toList off [a.eval y]).toArray) (.own nw e (rows.take hi)) (a.eval y) (bl (.cell b off)):=
  av.frame (Gh.le.refl g) (fun c hc=>setRow_other w _ c _ (fun e=>(hb.free _ c hc).2.2.2 b hb1 e.symm)) hs
 have hget2:(st.h.set b (splice (st.h.getD b []) off ([PV.bot].map .pv)))[b]?=some (splice (st.h.getD b []) off ([PV.bot].map .pv)):=by
  rw[List.getElem?_set,if_pos rfl,if_pos hbl]
 obtain⟨h3,_⟩:=h2.adopt hb2 (k:=off) (xs:=splice (st.h.getD b []) off ([PV.bot].map .pv)) hget2 (by rw[bB hfit];exact hfit) (sv:=.own nw e (rows.take hi)) (o:=bl (.cell b off)) (by rw[hval];exact hs2) rfl
  (fun c hc=>⟨by rw[size_setRow];exact(hb.free _ c hc).2.2.1,hfr2 c hc⟩)
 refine⟨_,g,?_,h.refl_to,h3.looks ?_ ?_⟩
 ·simp only[execOp,ho,hvx,Instr.storeAt,Instr.sureAddr,Sem.run_bind,Sem.run_pure,Result.andThen_ok,hr]
 ·have e1:(splice (st.h.getD b []) off ([PV.bot].map .pv)).set off (.own nw e (rows.take hi))=(st.h.getD b []).set off (.own nw e (rows.take hi)):=by
   apply List.ext_getElem?;intro i;rw[List.getElem?_set,List.getElem?_set,bB hfit,dW hfit]
   by_cases hi:off=i
   ·rw[if_pos hi,if_pos hi]
   ·rw[if_neg hi,if_neg hi,if_neg (by simp;omega)]
  simp only[List.set_set,e1]
 ·intro s';simp only[aS];exact(qa (aC b off 1) (look st.t s')).symm
theorem xG{P:Program}{st:St}(o:Oper)(s d hi:Nat)(nw:Bool)(e:Nat)(rows:List (List PV))(ho:o.op=.assign (.tmp s))(hd:o.dst=some d)(hs:look st.t s=.loc (.slot d) 0 hi)(hp:look st.t d=.own nw e rows){N:Nat}(hN:d<N):
 ∀g a w,g.N=N→Sim g st a w→∃v w' g',(execOp a.eval o).run P w=.ok (.value v) w'∧g.to g'∧Sim g' ⟨(d,.own nw e (rows.take hi))::aA (cN d) st.t,st.h⟩ (a.put o.dst v) w':=by
 intro g a w hg h;obtain⟨bl,hb⟩:=h.own;have ha:=h.al s;rw[hs]at ha;have hf:=pI hb (p:=.slot d) hp ha;obtain⟨h1,bl1,hb1,_,_,hfree⟩:=h.drop hb (.slot d);refine⟨a.tmps.getD s undef,w,g,by simp[execOp,ho,Act.eval],h.refl_to,?_⟩;rw[hd];have h2:=h1.putOwn hb1 (d:=d) (hg▸hN) rfl (Nat.le_refl _) (fun _ _ _=>rfl) hf rfl (fun c hc=>⟨(hb.free _ c hc).2.2.1,hfree c hc⟩);refine h2.looks rfl fun k=>?_;simp only[look,aS,setPos];split<;>rfl
theorem xH{P:Program}{st:St}(o:Oper)(t:TypeId)(s x:Operand)(d e b:Nat)(p:Pos)(hi0:Nat)(nw:Bool)(rows:List (List PV))(ho:o.op=.call {callee:=.builtin .append,args:=#[s,x],argTypes:=#[t,t]}) (hd:o.dst=some d)
 (hi:bG P t=some (e,b)) (hb1:0<b) (hgs:gc st s) (hs:mv st s=.loc p 0 hi0) (hp:aa st p=.own nw e rows) (hgx:gc st x) (hx:ia st e (mv st x))
 (hbytes:((rows.take hi0).length+(rowsOf st (mv st x)).length)*b≤140737488355328) {N:Nat} (hN:d<N):
 ∀g a w,g.N=N→Sim g st a w→∃v w' g',(execOp a.eval o).run P w=.ok (.value v) w'∧g.to g'∧
  Sim g' ⟨(d,.own nw e (rows.take hi0++rowsOf st (mv st x)))::aA (cN d) (setPos st p (.pv .bot)).t,(setPos st p (.pv .bot)).h⟩ (a.put o.dst v) w':=by
 intro g a w hg h;obtain⟨bl,hb⟩:=h.own;obtain⟨_,has⟩:=aL h s hgs;rw[hs]at has;have hfp:=pI hb hp has;obtain⟨q,cap,news,hvx,hfx,hcx⟩:=fQ h hgx hx;obtain⟨v',w',o',hr,hen,hsz,hf',hw',hc'⟩:=jj (ty:=o.type) (k:=cap) hi hb1 h.B hfp hfx hcx hbytes;refine⟨v',w',g,?_,h.refl_to,?_⟩
 ·simp only[execOp,ho,resolve,invoke,builtin,List.map_toArray,List.map_cons,List.map_nil,Sem.run_bind,Sem.run_pure,Result.andThen_ok,hvx,hr]
 ·obtain⟨h1,bl',hb',_,_,h4⟩:=h.drop hb p;rw[hd];exact h1.putOwn hb' (hg▸hN) hen hsz hw' hf' rfl (fun c hc=>⟨(hc' c hc).1,(hc' c hc).2.elim (fun e=>h4 c e) (fun hge=>h1.fresh hb' hge)⟩)
/-! ### Structs that are made of what is owned -/
def oO(st:St)(x:Operand):List (PV×Option Pos)×Prop:=
 match mv st x with
 |.al p=>([(.bot,some p)],gc st x∧(aa st p).isOwn=true)
 |.pv y=>((aK y).map (fun z=>(z,none)),gc st x∧(y.one=true∨cY (.pv y)))
 |_=>([],False)
def l5(pl:List (Nat×Nat))(cells:List (PV×Option Pos)):List (Nat×List (PV×Option Pos))→List (PV×Option Pos)×Prop
 |[]=>(cells,True)
 |(i,ys)::rest=>match pl[i]?with
  |some (off,n)=>((l5 pl (splice cells off ys) rest).1,ys.length=n∧off+n≤cells.length∧(l5 pl (splice cells off ys) rest).2)
  |none=>(cells,False)
def jn(st:St):List (Nat×Operand)→List (Nat×List (PV×Option Pos))
 |[]=>[]
 |(i,x)::r=>(i,(oO st x).1)::jn st r
def ng(st:St):List (Nat×Operand)→Prop
 |[]=>True
 |(_,x)::r=>(oO st x).2∧ng st r
def xI(P:Program)(st:St)(t:TypeId)(parts:Array (Nat×Operand)):SV×Prop:=
 match bInfo P t,zeroV P t with
 |some pl,some zs=>(.agl (l5 pl (zs.map fun z=>(z,none)) (jn st parts.toList)).1,ng st parts.toList∧(l5 pl (zs.map fun z=>(z,none)) (jn st parts.toList)).2)
 |_,_=>(.pv .bot,False)
def vi(g:Gh)(a:Act)(w:World):PV×Option Pos→PV
 |(x,none)=>x
 |(_,some p)=>.lit (an g a w p)
theorem xJ{α β:Type}(f:α→β)(xs ys:List α)(k:Nat):(splice xs k ys).map f=splice (xs.map f) k (ys.map f):=by
 simp[splice,List.map_take,List.map_drop]
theorem CO{g:Gh}{st:St}{a:Act}{w:World}(h:Sim g st a w)(x:Operand)(hd:(oO st x).2):ai g ((oO st x).1.map (vi g a w)) (a.eval x).cells.toList:=by
 unfold oO at hd⊢;split at hd
 ·rename_i p hm;simp only[hm];obtain⟨h1,h2⟩:=hd;obtain⟨_,ha⟩:=aL h x h1;rw[hm]at ha;obtain⟨bl,hb⟩:=h.own;obtain⟨hc,_⟩:=gv h2 (aX hb h2);rw[ha h2,hc];exact⟨_,_,rfl,rfl,rfl⟩
 ·rename_i y hm;simp only[hm];obtain⟨h1,h2⟩:=hd;obtain⟨hf,_⟩:=aL h x h1;rw[hm]at hf;have:=gu hf.2 h2;simpa[Function.comp_def,vi]using this
 ·exact hd.elim
theorem vk{g:Gh}{st:St}{a:Act}{w:World}(h:Sim g st a w)(pl:List (Nat×Nat)):∀(l:List (Nat×Operand))(cs:List (PV×Option Pos))(cells:Array Value),ai g (cs.map (vi g a w)) cells.toList→ng st l→(l5 pl cs (jn st l)).2→
 ∃out,Instr.fill (pl[·]?) cells (l.map fun p=>(p.1,a.eval p.2))=some out∧ai g ((l5 pl cs (jn st l)).1.map (vi g a w)) out.toList
 |[],cs,cells,hc,_,_=>⟨cells,rfl,hc⟩
 |(i,x)::rest,cs,cells,hc,hp,hd=>by
  obtain⟨hp1,hp2⟩:=hp;have hpc:=CO h x hp1;simp only[jn,l5]at hd⊢;cases hpl:pl[i]?with
  |none=>rw[hpl]at hd;exact hd.elim
  |some y=>
   obtain⟨off,n⟩:=y;rw[hpl]at hd;obtain⟨h1,h2,h4⟩:=hd;have hsz:(a.eval x).cells.size=n:=by have:=hpc.length;rw[List.length_map,h1]at this;simpa using this
   have hcl:=hc.length;rw[List.length_map]at hcl;simp only[List.map_cons];rw[nY (pl[·]?) cells i off n (a.eval x) _ hpl hsz (by rw[←Array.length_toList,hcl];exact h2)];refine vk h pl rest _ _ ?_ hp2 h4;rw[xJ];simpa using hc.splice hpc off
theorem CP{g:Gh}{a:Act}{w:World}{xs:List (PV×Option Pos)}{vs:List Value}(h:ai g (xs.map (vi g a w)) vs){k:Nat}{x:PV}{p:Pos}(hk:xs[k]?=some (x,some p)):vs[k]?=some (an g a w p):=by
 obtain⟨v,h1,h2⟩:=h.get k (.lit (an g a w p)) (by rw[List.getElem?_map,hk];rfl);have:v=an g a w p:=h2;rw[h1,this]
def nh:List (PV×Option Pos)→Prop
 |[]=>True
 |(x,some _)::r=>x=.bot∧nh r
 |(_,none)::r=>nh r
theorem qb{g:Gh}{a:Act}{w:World}:∀{xs:List (PV×Option Pos)}{vs:List Value},nh xs→ai g (xs.map (vi g a w)) vs→ai g (xs.map (·.1)) vs
 |[],_,_,h=>h
 |(x,some p)::r,_,⟨hb,hr⟩,⟨v,u,h1,h2,h3⟩=>by subst hb;exact⟨v,u,h1,trivial,qb hr h3⟩
 |(x,none)::r,_,hr,⟨v,u,h1,h2,h3⟩=>⟨v,u,h1,h2,qb (xs:=r) hr h3⟩
theorem gx:∀{xs:List (PV×Option Pos)},nh xs↔∀x p,(x,some p)∈xs→x=.bot
 |[]=>by simp[nh]
 |(x,some p)::r=>by
  simp only[nh,gx (xs:=r),List.mem_cons,Prod.mk.injEq,Option.some.injEq];constructor
  ·rintro⟨h1,h2⟩ y q (⟨rfl,_⟩|h)
   ·exact h1
   ·exact h2 y q h
  ·intro h;exact⟨h x p (.inl ⟨rfl,rfl⟩),fun y q hq=>h y q (.inr hq)⟩
 |(x,none)::r=>by
  simp only[nh,gx (xs:=r),List.mem_cons,Prod.mk.injEq];constructor
  ·rintro h y q (⟨_,h2⟩|h2)
   ·cases h2
   ·exact h y q h2
  ·intro h y q hq;exact h y q (.inr hq)
theorem xK(st:St)(x:Operand):∀y p,(y,some p)∈(oO st x).1→y=.bot:=by
 intro y p hy;unfold oO at hy;split at hy
 ·simp at hy;exact hy.1
 ·simp at hy
 ·simp at hy
theorem qc(st:St)(pl:List (Nat×Nat)):∀(l:List (Nat×Operand))(cs:List (PV×Option Pos)),nh cs→nh (l5 pl cs (jn st l)).1
 |[],cs,h=>h
 |(i,x)::r,cs,h=>by
  simp only[jn,l5];split
  ·refine qc st pl r _ (gx.2 fun y p hy=>?_);simp only[splice,List.mem_append]at hy;rcases hy with(hy|hy)|hy
   ·exact gx.1 h y p (List.mem_of_mem_take hy)
   ·exact xK st x y p hy
   ·exact gx.1 h y p (List.mem_of_mem_drop hy)
  ·exact h
theorem F8{P:Program}{st:St}(o:Oper)(t:TypeId)(parts:Array (Nat×Operand))(ho:o.op=.build t parts):F0 P st o (xI P st t parts):=by
 intro g a w h hd;unfold xI at hd⊢;split at hd
 ·rename_i pl zs hb hz;obtain⟨hp,hd⟩:=hd;unfold zeroV at hz;cases hi:P.info? t with
  |none=>rw[hi]at hz;cases hz
  |some it=>
   rw[hi]at hz;simp only[Option.map_eq_some_iff]at hz;obtain⟨z,hz,rfl⟩:=hz;have hz0:ai g (((z.cells.toList.map PV.lit).map fun z=>(z,(none:Option Pos))).map (vi g a w)) z.cells.toList:=by
    rw[List.map_map];have:(vi g a w∘fun z=>(z,none))=id:=by funext x;rfl
    rw[this,List.map_id];exact dI g _
   obtain⟨out,ho1,ho2⟩:=vk h pl parts.toList _ z.cells hz0 hp hd;have hbots:=qc st pl parts.toList ((z.cells.toList.map PV.lit).map fun z=>(z,(none:Option Pos))) (gx.2 fun y p hy=>by simp at hy);have hbuilt:P.built t (parts.toList.map fun p=>(p.1,a.eval p.2))=some out:=by
    unfold bInfo at hb;unfold Program.built;rw[hi];split at hb
    ·rename_i fs hu;rw[hu];simp only[hz,hb];simpa using ho1
    ·rename_i n e hu;simp only[Option.map_eq_some_iff]at hb;obtain⟨ie,hie,rfl⟩:=hb;rw[hu];simp only[hz,hie];refine my _ _ (fun i x hx=>?_) _ _ _ ho1;simp only[List.getElem?_map,Option.map_eq_some_iff]at hx;obtain⟨k,hk,rfl⟩:=hx;have:=List.getElem?_eq_some_iff.1 hk;obtain⟨hlt,he⟩:=this;simp at he;subst he;rfl
    ·cases hb
   refine⟨.agg out,?_,⟨rfl,out,rfl,qb hbots ho2⟩,fun k x p hk _=>⟨out,rfl,?_⟩⟩
   ·simp only[execOp,ho,Sem.run_bind];rw[run_build w t _ out (by rw[←hbuilt];simp)];simp
   ·have:=CP ho2 hk;simpa using this
 ·exact hd.elim
def ki(n:Nat):List (PV×Option Pos)→Nat→St→St×Prop
 |[],_,st=>(st,True)
 |(_,none)::r,k,st=>ki n r (k+1) st
 |(_,some (.slot s))::r,k,st=>((ki n r (k+1) (iK st s n k)).1,(look st.t s).isOwn=true∧(ki n r (k+1) (iK st s n k)).2)
 |(_,some (.cell _ _))::_,_,st=>(st,False)
theorem pJ{g:Gh}{a:Act}{w:World}{n:Nat}:∀(xs:List (PV×Option Pos))(k:Nat){st:St}(_:Sim g st a w)(_:(ki n xs k st).2)(_:n<st.h.length)(_:(st.h.getD n []).length=k+xs.length)
 (_:∀(j:Nat)(x:PV)(s:Nat),xs[j]?=some (x,some (.slot s))→an g a w (.cell n (k+j))=a.tmps.getD s undef),Sim g (ki n xs k st).1 a w
 |[],_,_,h,_,_,_,_=>h
 |(x,none)::r,k,st,h,hd,hn,hl,hv=>by
  simp only[ki]at hd⊢;exact pJ r (k+1) h hd hn (by rw[hl,List.length_cons];omega) fun j y s hj=>by have:=hv (j+1) y s (by simpa using hj);rwa [show k+(j+1)=k+1+j by omega]at this
 |(x,some (.slot s))::r,k,st,h,hd,hn,hl,hv=>by
  simp only[ki]at hd⊢;have hx:st.h[n]?=some (st.h.getD n []):=by simp[List.getD,List.getElem?_eq_getElem hn]
  have h2:=h.moveTo hd.1 hx (k:=k) (by rw[hl];simp) (hv 0 x s rfl);have hl2:((st.h.getD n []).set k (look st.t s)).length=k+1+r.length:=by rw[List.length_set,hl,List.length_cons];omega
  refine pJ r (k+1) h2 hd.2 (by simpa[iK]using hn) ?_ fun j y s' hj=>by have:=hv (j+1) y s' (by simpa using hj);rwa [show k+(j+1)=k+1+j by omega]at this
  have:(iK st s n k).h.getD n []=(st.h.getD n []).set k (look st.t s):=by
   simp only[iK];rw[List.getD_eq_getElem?_getD,List.getElem?_set,if_pos rfl,if_pos hn];rfl
  rw[this];exact hl2
 |(x,some (.cell _ _))::r,k,st,h,hd,hn,hl,hv=>by simp only[ki]at hd
theorem F9{P:Program}{st:St}(o:Oper)(t:TypeId)(x:Operand)(d:Nat)(xs:List (PV×Option Pos))(ho:o.op=.box t x)(hd:o.dst=some d)(hg:gc st x)(hm:mv st x=.agl xs)(hslots:∀(j:Nat)(y:PV)(s:Nat),xs[j]?=some (y,some (.slot s))→(look st.t s).isOwn=true)(hone:bn ((xs.filter fun y=>y.2.isNone).map (·.1))=true)(hin:(ki st.h.length xs 0 (st.grow ((xs.map (·.1)).map .pv))).2)(hnc:∀(y:PV)(p:Pos),(y,some p)∈xs→∃s,p=.slot s){N:Nat}(hN:d<N):
 ∀g a w,g.N=N→Sim g st a w→∃v w' g',(execOp a.eval o).run P w=.ok (.value v) w'∧g.to g'∧Sim g' ((ki st.h.length xs 0 (st.grow ((xs.map (·.1)).map .pv))).1.put d (.pv (.ptr st.h.length 0))) (a.put o.dst v) w':=by
 intro g a w hgN h;obtain⟨hf,hal⟩:=aL h x hg;rw[hm]at hf hal;obtain⟨_,vs,hv,hfl⟩:=hf;obtain⟨bl,hb⟩:=h.own;have hval:∀(j:Nat)(y:PV)(s:Nat),xs[j]?=some (y,some (.slot s))→vs[j]?=some (a.tmps.getD s undef):=fun j y s hj=>by
  obtain⟨vs',e1,e2⟩:=hal j y (.slot s) hj (hslots j y s hj);rw[hv]at e1;cases e1;exact e2
 have h1c:∀u∈vs.toList,u.oneCell'=true:=by
  intro u hu;obtain⟨j,hj⟩:=List.mem_iff_getElem?.1 hu;have hlen:=hfl.length;have hjl:j<xs.length:=by
   have:=(List.getElem?_eq_some_iff.1 hj).1;rw[hlen,List.length_map]at this;exact this
  obtain⟨yq,hxj⟩:∃yq,xs[j]?=some yq:=⟨xs[j],List.getElem?_eq_getElem hjl⟩;obtain⟨y,q⟩:=yq;have hxj':xs[j]?=some (y,q):=hxj;cases q with
  |none=>
   obtain⟨v',e1,e2⟩:=hfl.get j y (by rw[List.getElem?_map,hxj'];rfl);rw[hj]at e1;cases e1;have hy1:y.one=true:=by
    have hmem:y∈(xs.filter fun y=>y.2.isNone).map (·.1):=List.mem_map.2 ⟨(y,none),List.mem_filter.2 ⟨List.mem_of_getElem? hxj',rfl⟩,rfl⟩;have:∀(l:List PV),bn l=true→∀z∈l,z.one=true:=fun l=>by
     induction l with
     |nil=>intro _ z hz;cases hz
     |cons z0 l ih=>
      intro hl z hz;simp only[bn,Bool.and_eq_true]at hl;rcases List.mem_cons.1 hz with rfl|hz
      ·exact hl.1
      ·exact ih hl.2 z hz
    exact this _ hone y hmem
   exact tG hy1 e2
  |some p=>
   obtain⟨s,rfl⟩:=hnc y p (List.mem_of_getElem? hxj');have e1:=hval j y s hxj';rw[Array.getElem?_toList]at hj;rw[hj]at e1;cases e1;exact(gv (hslots j y s hxj') (hb.slots s)).2
 have hcells:(a.eval x).cells=vs:=by rw[hv];rfl
 obtain⟨g2,t2,l2,n2,m2,s2⟩:=h.blockNew (xs.map (·.1)) vs t hfl h1c;have hpv:∀j v,vs[j]?=some v→an g2 a (w.alloc (.cells vs t)) (.cell st.h.length j)=v:=fun j v hj=>by
  simp only[an,←h.n,m2,heap_alloc_new];simp[Array.getD_eq_getD_getElem?,hj]
 have s3 := pJ xs 0 s2 hin (by simp [St.grow]) (by simp [St.grow]) (fun j y s hj => by
  rw[Nat.zero_add];exact hpv j _ (hval j y s hj))
 refine⟨.pointer (some ⟨w.heap.size,0,none⟩),w.alloc (.cells vs t),g2,?_,t2,?_⟩
 ·simp[execOp,ho,Instr.box,newVar,newRow,hcells]
 ·rw[hd];refine s3.put (by rw[t2.N,hgN];exact hN) ⟨rfl,?_,?_⟩ trivial rfl
  ·rw[n2,←h.n];omega
  ·rw[←h.n,m2]
/-! ### What a walk asks -/
def tN(st:St)(x y:Operand):Option (St×Prop):=
 match mv st y,mv st x with
 |.al (.slot s),.pv (.ptr b off)=>if(look st.t s).isOwn=true then some (iK st s b off,gc st y∧gc st x∧off<(st.h.getD b []).length)else none
 |.loc (.cell b' k') lo hi,.pv (.ptr b off)=>if lo=0∧b'=b∧k'=off then
  match aa st (.cell b off)with
  |.own nw e rows=>some (⟨aA (aC b off 1) st.t,st.h.set b ((st.h.getD b []).set off (.own nw e (rows.take hi)))⟩,gc st y∧gc st x)
  |_=>none
  else none
 |_,_=>none
theorem Bc{P:Program}{st st':St}{x y:Operand}{ok:Prop}(hm:tN st x y=some (st',ok))(hok:ok)(o:Oper)(t:TypeId){ag:Bool}(ho:o.op=.store t x y)(hl:aJ P t=some (ag,1)):
 ∀g a w,Sim g st a w→∃w' g',(execOp a.eval o).run P w=.ok .skip w'∧g.to g'∧Sim g' st' a w':=by
 unfold tN at hm;split at hm
 ·rename_i s b off hy hx;split at hm
  ·rename_i hown;simp only[Option.some.injEq,Prod.mk.injEq]at hm;obtain⟨rfl,rfl⟩:=hm;exact xF o t x y b off s ag ho hl hy hok.1 hown hx hok.2.1 hok.2.2
  ·cases hm
 ·rename_i b' k' lo hi b off hy hx;split at hm
  ·rename_i hc;obtain⟨rfl,rfl,rfl⟩:=hc;split at hm
   ·rename_i nw e rows hp;simp only[Option.some.injEq,Prod.mk.injEq]at hm;obtain⟨rfl,rfl⟩:=hm;exact Bb o t x y _ _ hi nw e rows ag ho hl hy hok.1 hp hx hok.2
   ·cases hm
  ·cases hm
 ·cases hm
/-! ### A struct with a part of its own, stored into a new block -/
def tO:List (PV×Option Pos)→Bool
 |[]=>true
 |(_,none)::r=>tO r
 |(_,some _)::_=>false
def kj:List (PV×Option Pos)→Option (Nat×Nat×Nat)
 |[]=>none
 |(_,none)::r=>match kj r with
  |some (k,b,c)=>some (k+1,b,c)
  |none=>none
 |(_,some (.cell b c))::r=>if tO r=true then some (0,b,c)else none
 |(_,some (.slot _))::_=>none
theorem sr:∀{xs:List (PV×Option Pos)},tO xs=true→∀(j:Nat)(y:PV)(p:Pos),xs[j]?≠some (y,some p)
 |[],_,j,y,p,h=>by simp at h
 |(x,none)::r,hn,0,y,p,h=>by simp at h
 |(x,none)::r,hn,j+1,y,p,h=>sr (xs:=r) hn j y p (by simpa using h)
 |(x,some _)::r,hn,_,_,_,_=>by cases hn
theorem su:∀{xs:List (PV×Option Pos)}{k b c:Nat},kj xs=some (k,b,c)→(∃x,xs[k]?=some (x,some (.cell b c)))∧∀(j:Nat)(y:PV)(p:Pos),xs[j]?=some (y,some p)→j=k∧p=.cell b c
 |[],k,b,c,h=>by cases h
 |(x,none)::r,k,b,c,h=>by
  simp only[kj]at h;cases hr:kj r with
  |none=>rw[hr]at h;cases h
  |some q=>
   obtain⟨k2,b2,c2⟩:=q;rw[hr]at h;simp only[Option.some.injEq,Prod.mk.injEq]at h;obtain⟨rfl,rfl,rfl⟩:=h;obtain⟨⟨y,hy⟩,hu⟩:=su hr;refine⟨⟨y,by simpa using hy⟩,fun j z p hj=>?_⟩;cases j with
   |zero=>simp at hj
   |succ j=>obtain⟨e1,e2⟩:=hu j z p (by simpa using hj);exact⟨by omega,e2⟩
 |(x,some (.cell b2 c2))::r,k,b,c,h=>by
  simp only[kj]at h;split at h
  ·rename_i hn;simp only[Option.some.injEq,Prod.mk.injEq]at h;obtain⟨rfl,rfl,rfl⟩:=h;refine⟨⟨x,rfl⟩,fun j z p hj=>?_⟩;cases j with
   |zero=>simp at hj;exact⟨rfl,hj.2.symm⟩
   |succ j=>exact absurd (by simpa using hj) (sr hn j z p)
  ·cases h
 |(x,some (.slot _))::r,k,b,c,h=>by cases h
def carry(st:St)(b' k' b k:Nat):St:=⟨aA (aC b k 1) st.t,(st.h.set b' ((st.h.getD b' []).set k' (.pv .bot))).set b (((st.h.set b' ((st.h.getD b' []).set k' (.pv .bot))).getD b []).set k (aa st (.cell b' k')))⟩
theorem Sim.carry{g:Gh}{st:St}{a:Act}{w:World}(h:Sim g st a w){b' k' b k:Nat}(ho:(aa st (.cell b' k')).isOwn=true)(hne:b'≠b)(hbl:b<st.h.length)(hk:k<(st.h.getD b []).length)(hv:an g a w (.cell b k)=an g a w (.cell b' k')):
 Sim g (AX.carry st b' k' b k) a w:=by
 obtain⟨bl,hb⟩:=h.own;obtain⟨h1,bl1,hb1,_,_,hfree⟩:=h.drop hb (.cell b' k');have hbe:(st.h.set b' ((st.h.getD b' []).set k' (.pv .bot))).getD b []=st.h.getD b []:=by
  rw[List.getD_eq_getElem?_getD,List.getElem?_set,if_neg hne,List.getD_eq_getElem?_getD]
 have hb':st.h[b']?=some (st.h.getD b' []):=by
  cases hq:st.h[b']?with
  |some xs=>simp[List.getD,hq]
  |none=>simp only[aa,List.getD,hq]at ho;cases ho
 have hk':(st.h.getD b' [])[k']?=some (aa st (.cell b' k')):=by
  cases hq:(st.h.getD b' [])[k']?with
  |some z=>simp only[aa];rw[List.getD_eq_getElem?_getD (l:=st.h.getD b' []),hq];rfl
  |none=>
   simp only[aa]at ho;rw[List.getD_eq_getElem?_getD (l:=st.h.getD b' []),hq]at ho;cases ho
 obtain⟨arr,T,c1,c2,c3⟩:=hb.blocks b' _ hb';have hs:=(c3 k' _ hk').2;have hpv:an g a w (.cell b' k')=arr.getD k' undef:=by simp only[an,c1]
 have hx1:(setPos st (.cell b' k') (.pv .bot)).h[b]?=some (st.h.getD b []):=by
  simp only[setPos];rw[List.getElem?_set,if_neg hne,List.getD_eq_getElem?_getD,List.getElem?_eq_getElem hbl];rfl
 obtain⟨h2,_⟩:=h1.adopt hb1 hx1 hk (sv:=aa st (.cell b' k')) (o:=bl (.cell b' k')) (by rw[hv,hpv];exact hs) ho (fun c hc=>⟨(hb.free _ c hc).2.2.1,hfree c hc⟩);unfold AX.carry;rw[hbe];exact h2
theorem Ga{g:Gh}{st:St}{a:Act}{w:World}{bl:Pos→Option Nat}(hb:Owns g st a w bl):∀{p:Pos},(aa st p).isOwn=true→(an g a w p).oneCell'=true
 |.slot s,ho=>(gv ho (hb.slots s)).2
 |.cell b' k',ho=>by
  have hb':st.h[b']?=some (st.h.getD b' []):=by
   cases hq:st.h[b']?with
   |some xs=>simp[List.getD,hq]
   |none=>simp only[aa,List.getD,hq]at ho;cases ho
  have hk':(st.h.getD b' [])[k']?=some (aa st (.cell b' k')):=by
   cases hq:(st.h.getD b' [])[k']?with
   |some z=>simp only[aa];rw[List.getD_eq_getElem?_getD (l:=st.h.getD b' []),hq];rfl
   |none=>
    simp only[aa]at ho;rw[List.getD_eq_getElem?_getD (l:=st.h.getD b' []),hq]at ho;cases ho
  obtain⟨arr',T',c1,c2,c3⟩:=hb.blocks b' _ hb';have hpv:an g a w (.cell b' k')=arr'.getD k' undef:=by simp only[an,c1]
  rw[hpv];exact(gv ho (c3 k' _ hk').2).2
theorem qd{P:Program}{st:St}(o:Oper)(t:TypeId)(x y:Operand)(b:Nat)(xs:List (PV×Option Pos))(ag:Bool)(ho:o.op=.store t x y)(hl:aJ P t=some (ag,xs.length))(hy:mv st y=.agl xs)(hgy:gc st y)
 (hx:mv st x=.pv (.ptr b 0)) (hgx:gc st x) (hlen:(st.h.getD b []).length=xs.length) (hpart:∀(j:Nat)(y:PV)(p:Pos),xs[j]?=some (y,some p)→(aa st p).isOwn=true) (hone:bn ((xs.filter fun y=>y.2.isNone).map (·.1))=true) {g:Gh} {a:Act} {w:World} (h:Sim g st a w):
 ∃vs:Array Value,b<st.h.length∧(execOp a.eval o).run P w=.ok .skip (w.setRow (g.μ b) vs)∧Sim g ⟨aA (aC b 0 xs.length) st.t,st.h.set b ((xs.map (·.1)).map .pv)⟩ a (w.setRow (g.μ b) vs)∧
  (∀j v,vs[j]?=some v→an g a (w.setRow (g.μ b) vs) (.cell b j)=v)∧(∀(j:Nat)(y:PV)(p:Pos),xs[j]?=some (y,some p)→vs[j]?=some (an g a w p))∧
  ∀b' k',b'≠b→b'<st.h.length→an g a (w.setRow (g.μ b) vs) (.cell b' k')=an g a w (.cell b' k'):=by
 obtain⟨hfx,_⟩:=aL h x hgx;rw[hx]at hfx;obtain⟨_,hb1,hvx⟩:=hfx;obtain⟨hfy,hay⟩:=aL h y hgy;rw[hy]at hfy hay;obtain⟨_,vs,hvy,hfl⟩:=hfy;have e2:∀(j:Nat)(y:PV)(p:Pos),xs[j]?=some (y,some p)→vs[j]?=some (an g a w p):=fun j x0 p hj=>by
  obtain⟨vs',e1,e2⟩:=hay j x0 p hj (hpart j x0 p hj);rw[hvy]at e1;cases e1;exact e2
 have hbl:b<st.h.length:=h.n▸hb1;have hbe:st.h[b]?=some (st.h.getD b []):=by simp[List.getD,List.getElem?_eq_getElem hbl]
 obtain⟨bl,hb⟩:=h.own;obtain⟨arr,T,a1,⟨a2,_⟩,_⟩:=hb.blocks b _ hbe;have hvl:vs.toList.length=xs.length:=by rw[hfl.length,List.length_map]
 have h1c:∀u∈vs.toList,u.oneCell'=true:=by
  intro u hu;obtain⟨j,hj⟩:=List.mem_iff_getElem?.1 hu;have hjl:j<xs.length:=by
   have:=(List.getElem?_eq_some_iff.1 hj).1;rw[hvl]at this;exact this
  obtain⟨yq,hxj⟩:∃yq,xs[j]?=some yq:=⟨xs[j],List.getElem?_eq_getElem hjl⟩;obtain⟨y,q⟩:=yq;cases q with
  |none=>
   obtain⟨v',e1,e3⟩:=hfl.get j y (by rw[List.getElem?_map,hxj];rfl);rw[hj]at e1;cases e1;have hmem:y∈(xs.filter fun y=>y.2.isNone).map (·.1):=List.mem_map.2 ⟨(y,none),List.mem_filter.2 ⟨List.mem_of_getElem? hxj,rfl⟩,rfl⟩;have:∀(l:List PV),bn l=true→∀z∈l,z.one=true:=fun l=>by
    induction l with
    |nil=>intro _ z hz;cases hz
    |cons z0 l ih=>
     intro hl z hz;simp only[bn,Bool.and_eq_true]at hl;rcases List.mem_cons.1 hz with rfl|hz
     ·exact hl.1
     ·exact ih hl.2 z hz
   exact tG (this _ hone y hmem) e3
  |some p=>
   rw[Array.getElem?_toList,e2 j y p hxj]at hj;cases hj
   exact Ga hb (hpart j y p hxj)
 have hcells:(a.eval y).cells=vs:=by rw[hvy];rfl
 have hr:=dF w hl (a.eval y) (by rw[hcells,←Array.length_toList,hvl]) (g.μ b) 0 T arr a1 (by rw[a2,hlen];omega) (by rw[hcells];exact h1c);rw[hcells]at hr;obtain⟨h2,hb2⟩:=h.blockWriteO hb (w':=w.setRow (g.μ b) (splice arr.toList 0 vs.toList).toArray) (k0:=0) (ys:=xs.map (·.1)) (vs:=vs.toList) (arr':=(splice arr.toList 0 vs.toList).toArray) hbe (by rw[List.length_map,hlen];omega) a1 hfl h1c rfl (size_setRow _ _ _) (fun c hc=>setRow_other w _ c _ hc) ⟨T,setRow_heap w _ arr _ T _ a1⟩ (by simp);have hsp:splice (st.h.getD b []) 0 ((xs.map (·.1)).map SV.pv)=(xs.map (·.1)).map SV.pv:=by
  unfold splice;rw[List.take_zero,List.nil_append,List.drop_eq_nil_of_le (by rw[List.length_map,List.length_map,hlen];omega),List.append_nil]
 rw[hsp,List.length_map]at h2;have hsp2:(splice arr.toList 0 vs.toList).toArray=vs:=by
  apply Array.ext';show splice arr.toList 0 vs.toList=vs.toList;unfold splice;rw[List.take_zero,List.nil_append,List.drop_eq_nil_of_le (by rw[Array.length_toList,a2,hlen,hvl];omega),List.append_nil]
 rw[hsp2]at h2 hr;refine⟨vs,hbl,?_,h2,fun j v hj=>?_,e2,fun b' k' hne hb'=>?_⟩
 ·simp only[execOp,ho,hvx,Instr.storeAt,Instr.sureAddr,Sem.run_bind,Sem.run_pure,Result.andThen_ok,hr]
 ·simp only[an,setRow_heap w _ arr _ T _ a1];rw[Array.getD_eq_getD_getElem?,hj];rfl
 ·have hμ:g.μ b'≠g.μ b:=fun e=>hne (h.μinj b' b (by rw[h.n];exact hb') hb1 e);simp only[an];rw[setRow_other w _ _ _ hμ]
theorem Bd{P:Program}{st:St}(o:Oper)(t:TypeId)(x y:Operand)(b b' k k':Nat)(xs:List (PV×Option Pos))(ag:Bool)(ho:o.op=.store t x y)(hl:aJ P t=some (ag,xs.length))(hy:mv st y=.agl xs)(hgy:gc st y)
 (hx:mv st x=.pv (.ptr b 0)) (hgx:gc st x) (hlen:(st.h.getD b []).length=xs.length) (hp:kj xs=some (k,b',k')) (hne:b'≠b) (hown:(aa st (.cell b' k')).isOwn=true) (hone:bn ((xs.filter fun y=>y.2.isNone).map (·.1))=true):
 ∀g a w,Sim g st a w→∃w' g',(execOp a.eval o).run P w=.ok .skip w'∧g.to g'∧Sim g' (AX.carry ⟨aA (aC b 0 xs.length) st.t,st.h.set b ((xs.map (·.1)).map .pv)⟩ b' k' b k) a w':=by
 intro g a w h;obtain⟨⟨x0,hk0⟩,huniq⟩:=su hp;obtain⟨vs,hbl,hr,h2,hv,he,hk⟩:=qd (P:=P) o t x y b xs ag ho hl hy hgy hx hgx hlen (fun j y p hj=>by obtain⟨_,rfl⟩:=huniq j y p hj;exact hown) hone h;have hb':b'<st.h.length:=by
  apply Nat.lt_of_not_le;intro hle;simp only[aa,List.getD_eq_getElem?_getD (l:=st.h),List.getElem?_eq_none hle]at hown;cases hown
 have hp2:aa ⟨aA (aC b 0 xs.length) st.t,st.h.set b ((xs.map (·.1)).map .pv)⟩ (.cell b' k')=aa st (.cell b' k'):=by
  simp only[aa];rw[List.getD_eq_getElem?_getD (l:=st.h.set b _),List.getElem?_set,if_neg (Ne.symm hne),List.getD_eq_getElem?_getD (l:=st.h)]
 refine⟨_,g,hr,h.refl_to,h2.carry (by rw[hp2];exact hown) hne (by simpa using hbl) ?_ ?_⟩
 ·have:k<xs.length:=(List.getElem?_eq_some_iff.1 hk0).1;rw[List.getD_eq_getElem?_getD,List.getElem?_set,if_pos rfl,if_pos hbl];simpa using this
 ·rw[hv k _ (he k x0 _ hk0),hk b' k' hne hb']
theorem xL{P:Program}{st:St}(o:Oper)(t:TypeId)(x y:Operand)(b:Nat)(xs:List (PV×Option Pos))(ag:Bool)(ho:o.op=.store t x y)(hl:aJ P t=some (ag,xs.length))(hy:mv st y=.agl xs)(hgy:gc st y)
 (hx:mv st x=.pv (.ptr b 0)) (hgx:gc st x) (hlen:(st.h.getD b []).length=xs.length) (hown:∀(j:Nat)(y:PV)(s:Nat),xs[j]?=some (y,some (.slot s))→(look st.t s).isOwn=true) (hnc:∀(y:PV)(p:Pos),(y,some p)∈xs→∃s,p=.slot s) (hone:bn ((xs.filter fun y=>y.2.isNone).map (·.1))=true)
 (hin:(ki b xs 0 ⟨aA (aC b 0 xs.length) st.t,st.h.set b ((xs.map (·.1)).map .pv)⟩).2):
 ∀g a w,Sim g st a w→∃w' g',(execOp a.eval o).run P w=.ok .skip w'∧g.to g'∧Sim g' (ki b xs 0 ⟨aA (aC b 0 xs.length) st.t,st.h.set b ((xs.map (·.1)).map .pv)⟩).1 a w':=by
 intro g a w h;obtain⟨vs,hbl,hr,h2,hv,he,hk⟩:=qd (P:=P) o t x y b xs ag ho hl hy hgy hx hgx hlen (fun j y p hj=>by obtain⟨s,rfl⟩:=hnc y p (List.mem_of_getElem? hj);exact hown j y s hj) hone h;refine⟨_,g,hr,h.refl_to,pJ xs 0 h2 hin (by simpa using hbl) ?_ fun j y s hj=>?_⟩
 ·simp only;rw[List.getD_eq_getElem?_getD,List.getElem?_set,if_pos rfl,if_pos hbl];simp
 ·rw[Nat.zero_add,hv j _ (he j y _ hj)];rfl
def zD(xs:List (PV×Option Pos)):Bool:=xs.any fun z=>z.2.isSome
def vl(st:St):List (PV×Option Pos)→Prop
 |[]=>True
 |(_,some (.slot s))::r=>(look st.t s).isOwn=true∧vl st r
 |(_,some (.cell _ _))::_=>False
 |(x,none)::r=>x.one=true∧vl st r
theorem jo{st:St}:∀{xs:List (PV×Option Pos)},vl st xs→∀(j:Nat)(y:PV)(s:Nat),xs[j]?=some (y,some (.slot s))→(look st.t s).isOwn=true
 |[],_,j,y,s,h=>by simp at h
 |(x,some (.slot s'))::r,ho,0,y,s,h=>by simp at h;rw[←h.2];exact ho.1
 |(x,some (.slot s'))::r,ho,j+1,y,s,h=>jo ho.2 j y s (by simpa using h)
 |(x,some (.cell _ _))::r,ho,_,y,s,h=>ho.elim
 |(x,none)::r,ho,0,y,s,h=>by simp at h
 |(x,none)::r,ho,j+1,y,s,h=>jo ho.2 j y s (by simpa using h)
theorem pK{st:St}:∀{xs:List (PV×Option Pos)},vl st xs→∀(y:PV)(p:Pos),(y,some p)∈xs→∃s,p=.slot s
 |[],_,y,p,h=>by cases h
 |(x,some (.slot s'))::r,ho,y,p,h=>by
  rcases List.mem_cons.1 h with e|h
  ·cases e;exact⟨_,rfl⟩
  ·exact pK ho.2 y p h
 |(x,some (.cell _ _))::r,ho,_,_,h=>ho.elim
 |(x,none)::r,ho,y,p,h=>by
  rcases List.mem_cons.1 h with e|h
  ·cases e
  ·exact pK ho.2 y p h
theorem nj{st:St}:∀{xs:List (PV×Option Pos)},vl st xs→bn ((xs.filter fun y=>y.2.isNone).map (·.1))=true
 |[],_=>rfl
 |(x,some (.slot s'))::r,ho=>by simpa using nj ho.2
 |(x,some (.cell _ _))::r,ho=>ho.elim
 |(x,none)::r,ho=>by
  have:=nj ho.2;simp only[List.filter_cons,Option.isNone_none,if_true,List.map_cons,bn,Bool.and_eq_true];exact⟨ho.1,this⟩
def tP(st:St)(x y:Operand):Option (St×Nat×Prop):=
 match mv st y,mv st x with
 |.agl xs,.pv (.ptr b 0)=>match kj xs with
  |some (k,b',k')=>if b=b'+1∧b+1=st.h.length then
   some (carry ⟨aA (aC b 0 xs.length) st.t, st.h.set b ((xs.map (·.1)).map .pv)⟩ b' k' b k, xs.length,
    gc st y∧gc st x∧(st.h.getD b []).length=xs.length∧(aa st (.cell b' k')).isOwn=true∧bn ((xs.filter fun y=>y.2.isNone).map (·.1))=true)
   else none
  |none=>if zD xs=true∧b+1=st.h.length then
   some ((ki b xs 0 ⟨aA (aC b 0 xs.length) st.t, st.h.set b ((xs.map (·.1)).map .pv)⟩).1, xs.length,
    gc st y∧gc st x∧(st.h.getD b []).length=xs.length∧vl st xs∧(ki b xs 0 ⟨aA (aC b 0 xs.length) st.t,st.h.set b ((xs.map (·.1)).map .pv)⟩).2)
   else none
 |_,_=>none
theorem Be{P:Program}{st st':St}{x y:Operand}{n:Nat}{ok:Prop}(hm:tP st x y=some (st',n,ok))(hok:ok)(o:Oper)(t:TypeId){ag:Bool}(ho:o.op=.store t x y)(hl:aJ P t=some (ag,n)):
 ∀g a w,Sim g st a w→∃w' g',(execOp a.eval o).run P w=.ok .skip w'∧g.to g'∧Sim g' st' a w':=by
 unfold tP at hm;split at hm
 ·rename_i xs b hy hx;split at hm
  ·rename_i k b' k' hp;split at hm
   ·rename_i hc;simp only[Option.some.injEq,Prod.mk.injEq]at hm;obtain⟨rfl,rfl,rfl⟩:=hm;exact Bd o t x y b b' k k' xs ag ho hl hy hok.1 hx hok.2.1 hok.2.2.1 hp (by omega) hok.2.2.2.1 hok.2.2.2.2
   ·cases hm
  ·split at hm
   ·rename_i hc;simp only[Option.some.injEq,Prod.mk.injEq]at hm;obtain⟨rfl,rfl,rfl⟩:=hm;exact xL o t x y b xs ag ho hl hy hok.1 hx hok.2.1 hok.2.2.1 (jo hok.2.2.2.1) (pK hok.2.2.2.1) (nj hok.2.2.2.1) hok.2.2.2.2
   ·cases hm
 ·cases hm
def zE(st:St)(s d:Nat):Option St:=
 match look st.t s with
 |.loc (.slot d') lo hi=>if d'=d∧lo=0 then
  match look st.t d with
  |.own nw e rows=>some ⟨(d,.own nw e (rows.take hi))::aA (cN d) st.t,st.h⟩
  |_=>none
  else none
 |_=>none
theorem CQ{P:Program}{st st':St}{s d:Nat}(hc:zE st s d=some st')(o:Oper)(ho:o.op=.assign (.tmp s))(hd:o.dst=some d){N:Nat}(hN:d<N):
 ∀g a w,g.N=N→Sim g st a w→∃v w' g',(execOp a.eval o).run P w=.ok (.value v) w'∧g.to g'∧Sim g' st' (a.put o.dst v) w':=by
 unfold zE at hc;split at hc
 ·rename_i d' lo hi hs;split at hc
  ·rename_i he;obtain⟨rfl,rfl⟩:=he;split at hc
   ·rename_i nw e rows hp;cases hc
    exact xG o s _ hi nw e rows ho hd hs hp hN
   ·cases hc
  ·cases hc
 ·cases hc
def jp:List Oper→Option Nat→Bool
 |[],_=>false
 | o :: r, d => (match o.op, d with
  |.box _ (.tmp s),some d=>s==d
  |_,_=>false)||jp r d
def tQ(st:St):List (Nat×Operand)→Bool
 |[]=>false
 | (_, x) :: r => (match mv st x with
  |.al p=>(aa st p).isOwn
  |_=>false)||tQ st r
end Go.AX