/-
  AX, part W: maps that are made and written; slices that are made of zeros; and what follows.
-/
import Derived.Test.YtepodadinenmnaaGreatAxI
import Derived.MapKept
import Derived.Carry
import Derived.Laws.MakeOwn
namespace Go.AX
def im:List (Int×PV)->Int->PV->List (Int×PV)
 |[],n,y=>[(n,y)]
 |(k,x)::r,n,y=>if k=n then(k,y)::r else(k,x)::im r n y
theorem Dv{g:Gh}{kk:IntKind}{n:Int}:∀{es:List (Int×PV)}{en:List MapEntry}(_:bD g es en)(j:Nat),
 ∃ r, Instr.findNow (.int kk) (.int .i64 n) en j = some r ∧ (r = none ∧ (∀ m ∈ en, m.key ≠ .int .i64 n) ∧ (∀ y u born, Fit g y u -> bD g (im es n y) (en ++ [{ key := .int .i64 n, val := u, born := born }])) ∨
  ∃i m,r=some (j+i,m.val)∧en[i]?=some m∧m.key=.int .i64 n∧∀y u,Fit g y u->bD g (im es n y) (en.set i {m with key:=.int .i64 n,val:=u}))
 |[],en,h,j=>by
  simp only[bD]at h;subst h;exact⟨none,rfl,.inl ⟨rfl,by simp,λy u born hy=>⟨_,_,rfl,rfl,hy,rfl⟩⟩⟩
 |(k,x)::es,en,⟨m,r,h1,b,d,f⟩,j=>by
  subst h1;simp only[Instr.findNow,b,Instr.sameNow,UU]
  by_cases hk:k=n
  .subst hk;simp only[Wl];refine⟨_,rfl,.inr ⟨0,m,rfl,rfl,b,λy u hy=>?_⟩⟩;simp only[im,UU,WC];exact⟨_,_,rfl,rfl,hy,f⟩
  .have t:(n==k)=false:=by simp;exactλe=>hk e.symm
   simp only[t];obtain⟨z,o,c⟩:=Dv (n:=n) f (j+1);refine⟨z,o,?_⟩;rcases c with⟨rfl,l,c⟩|⟨i,v,rfl,p,q,s⟩
   .refine .inl ⟨rfl,λw a=>?_,λy u born hy=>?_⟩
    .rcases Tx.1 a with rfl|a
     .rw[b];intro e;cases e;exact hk rfl
     .exact l w a
    simp only[im,SU hk];exact⟨m,_,rfl,b,d,c y u born hy⟩
   .refine .inr ⟨i+1,v,by rw[U4,WP 1 i],by simpa using p,q,λy u hy=>?_⟩;simp only[im,SU hk,List.set_cons_succ];exact⟨m,_,rfl,b,d,s y u hy⟩
theorem wR(k:IntKind)(n:Int):Instr.sameBits 10000 (.int k n) (.int k n)=true:=by
 show Instr.sameBits (9999+1) _ _=true;simp[Instr.sameBits]
def lW(P:Program)(t:TypeId):Bool:=
 match P.underlying t with
 |some (.map k _)=>match P.underlying k with
  |some (.int _)=>true
  |_=>false
 |_=>false
theorem nN{P:Program}{st:St}(o:Oper)(t:TypeId)(m k x:Operand)(p:Pos)(nw:Bool)(es:List (Int×PV))(ho:o.op=.mapUpdate t m k x∨o.op=.insert t m k x)(ht:lW P t=true)
 (C:(b6 st x).2.2) (H:gc (b6 st x).2.1 m) (Z:mv (b6 st x).2.1 m=.al p) (hp:aa (b6 st x).2.1 p=.omap nw es) (G:gc (b6 st x).2.1 k) (hk:gj (mv (b6 st x).2.1 k)) (J:gi (mv (b6 st x).2.1 k)=.i64):
 ∀g a w,Sim g st a w->∃w' g',(execOp a.eval o).run P w=.ok .skip w'∧g.to g'∧Sim g' (setPos (b6 st x).2.1 p (.omap nw (im es (aS (mv (b6 st x).2.1 k)) (b6 st x).1))) a w':=by
 intro g a w h;have v:execOp a.eval o=execOp a.eval {o with op:=.mapUpdate t m k x}:=by
  rcases ho with ho|ho<;>simp only[execOp,ho]
 obtain⟨B,t1,l1,n1,E,Q⟩:=mq h x C;obtain⟨bl,S⟩:=E.own;obtain⟨_,R⟩:=aN E m H;rw[Z]at R;have hv:=R (by rw[hp];rfl);have y:=bn S (p:=p) (by rw[hp];rfl);rw[hp]at y;obtain⟨c,W,en,ck,O,A,V,F⟩:=y;have s:=bX E G hk;rw[J]at s;unfold lW at ht;split at ht
 case h_2=>cases ht
 rename_i N et T;split at ht
 case h_2=>cases ht
 rename_i kk q;have l:(getObj c).run P w=.ok (.map en ck) w:=MapKept.run_getObj_map A;obtain⟨r,k1,M⟩:=Dv (kk:=kk) (n:=aS (mv (b6 st x).2.1 k)) V 0;have b:(Instr.findKey N (.int .i64 (aS (mv (b6 st x).2.1 k))) en.toList).run P w=.ok r w:=by
  simp only[Instr.findKey,Sem.run_bind,run_underlying q,Result.andThen_ok,k1,Sem.run_pure]
 have K:=(Td.1 A).1;have fin:∀(d:Array MapEntry)(f:Nat),MapKept.Stamped d f->bD B (im es (aS (mv (b6 st x).2.1 k)) (b6 st x).1) d.toList->
  Sim B (setPos (b6 st x).2.1 p (.omap nw (im es (aS (mv (b6 st x).2.1 k)) (b6 st x).1))) a {w with heap:=w.heap.setIfInBounds c (.map d f)}:=by
  intro d f L X;refine E.ownWrite S (by rw[hp];rfl) W rfl (by simp) (λj hj=>?_) ⟨c,rfl,d,f,O,?_,X,F.1,L⟩ rfl (λ_ _ _ Y=>by cases Y)
  .show(w.heap.setIfInBounds c _)[j]?=_;rw[WK (VC hj)]
  .show(w.heap.setIfInBounds c _)[c]?=_;simp[K]
 have u:a.eval m=.map (some c):=hv.trans O;rcases M with⟨rfl,k0,M⟩|⟨i,me,rfl,D,U,k5⟩
 .refine⟨_,B,?_,t1,fin (en.push {key:=.int .i64 (aS (mv (b6 st x).2.1 k)),val:=a.eval x,born:=ck}) (ck+1) (MapKept.stamped_push F.2 k0) (by rw[Array.toList_push];exact M _ _ _ Q)⟩;rw[v];simp only[execOp,u,s,Instr.mapUpdate,Sem.run_bind,run_underlying T,Result.andThen_ok,l,ce w _ N kk .i64 _ q,b,MapKept.run_setObj_map _ A,Sem.run_pure]
 .rw[T4]at b;refine⟨_,B,?_,t1,fin (en.modify i λe=>{e with key:=.int .i64 (aS (mv (b6 st x).2.1 k)),val:=a.eval x}) ck (MapKept.stamped_modify F.2 i _ (λ_ _=>rfl) (λe _ C=>by rw[←S4,D]at C;cases C;exact U.symm)) ?_⟩
  .have z:((en[i]?).map (·.key)).getD (.int .i64 (aS (mv (b6 st x).2.1 k)))=.int .i64 (aS (mv (b6 st x).2.1 k)):=by
    rw[←S4,D];exact U
   rw[v];simp only[execOp,u,s,Instr.mapUpdate,Sem.run_bind,run_underlying T,Result.andThen_ok,l,ce w _ N kk .i64 _ q,b,z,Instr.keyThatStays,wR,UU,Sem.run_pure,MapKept.run_setObj_map _ A]
  .have:(en.modify i λe=>{e with key:=.int .i64 (aS (mv (b6 st x).2.1 k)),val:=a.eval x}).toList=en.toList.set i {me with key:=.int .i64 (aS (mv (b6 st x).2.1 k)),val:=a.eval x}:=by
    apply Uf;intro j;rw[S4,UC,Tz];split
    .rename_i I;subst I;rw[←S4,D,TZ];simp only[SX (SQ.1 D).1]
    .rw[S4]
   rw[this];exact k5 _ _ Q
/-! ### What is deleted of a map -/
def jf(n:Int):List (Int×PV)->List (Int×PV)
 |[]=>[]
 |(k,x)::r=>if k=n then r else(k,x)::jf n r
theorem Dw{g:Gh}{kk:IntKind}{n:Int}:∀{es:List (Int×PV)}{en:List MapEntry}(_:bD g es en)(j:Nat),
 ∃r,Instr.findNow (.int kk) (.int .i64 n) en j=some r∧(r=none∧bD g (jf n es) en∨∃i u,r=some (j+i,u)∧i<en.length∧bD g (jf n es) (en.eraseIdx i))
 |[],en,h,j=>by
  simp only[bD]at h;subst h;exact⟨none,rfl,.inl ⟨rfl,rfl⟩⟩
 |(k,x)::es,en,⟨m,r,h1,b,c,d⟩,j=>by
  subst h1;simp only[Instr.findNow,b,Instr.sameNow,UU]
  by_cases hk:k=n
  .subst hk;simp only[Wl];refine⟨_,rfl,.inr ⟨0,m.val,rfl,by simp,?_⟩⟩;simp only[jf,UU,List.eraseIdx_cons_zero];exact d
  .have o:(n==k)=false:=by simp;exactλe=>hk e.symm
   simp only[o];obtain⟨p,f,a⟩:=Dw (n:=n) d (j+1);refine⟨p,f,?_⟩;simp only[jf,SU hk];rcases a with⟨rfl,a⟩|⟨i,u,rfl,q,l⟩
   .exact .inl ⟨rfl,m,r,rfl,b,c,a⟩
   .refine .inr ⟨i+1,u,by rw[U4,WP 1 i],by simp;omega,?_⟩;rw[List.eraseIdx_cons_succ];exact⟨m,_,rfl,b,c,l⟩
theorem Bq{P:Program}{st:St}(o:Oper)(t U:TypeId)(m k:Operand)(p:Pos)(nw:Bool)(es:List (Int×PV))(ho:o.op=.call {callee:=.builtin .delete,args:=#[m,k],argTypes:=#[t,U]}) (hd:o.dst=none) (ht:lW P t=true)
 (A:gc st m) (O:mv st m=.al p) (hp:aa st p=.omap nw es) (z:gc st k) (hk:gj (mv st k)) (B:gi (mv st k)=.i64):
 ∀g a w,Sim g st a w->∃v w' g',(execOp a.eval o).run P w=.ok (.value v) w'∧g.to g'∧Sim g' (setPos st p (.omap nw (jf (aS (mv st k)) es))) (a.put o.dst v) w':=by
 intro g a w h;obtain⟨bl,I⟩:=h.own;obtain⟨_,H⟩:=aN h m A;rw[O]at H;have Q:=H (by rw[hp];rfl);have s:=bn I (p:=p) (by rw[hp];rfl);rw[hp]at s;obtain⟨c,L,en,ck,G,x,K,y⟩:=s;have l:=bX h z hk;rw[B]at l;unfold lW at ht;split at ht
 case h_2=>cases ht
 rename_i F V J;split at ht
 case h_2=>cases ht
 rename_i kk f;have e:(getObj c).run P w=.ok (.map en ck) w:=MapKept.run_getObj_map x;obtain⟨r,R,E⟩:=Dw (kk:=kk) (n:=aS (mv st k)) K 0;have b:(Instr.findKey F (.int .i64 (aS (mv st k))) en.toList).run P w=.ok r w:=by
  simp only[Instr.findKey,Sem.run_bind,run_underlying f,Result.andThen_ok,R,Sem.run_pure]
 have C:=(Td.1 x).1;have fin:∀d:Array MapEntry,MapKept.Stamped d ck->bD g (jf (aS (mv st k)) es) d.toList->
  Sim g (setPos st p (.omap nw (jf (aS (mv st k)) es))) a {w with heap:=w.heap.setIfInBounds c (.map d ck)}:=by
  intro d D M;refine h.ownWrite I (by rw[hp];rfl) L rfl (by simp) (λj hj=>?_) ⟨c,rfl,d,ck,G,?_,M,y.1,D⟩ rfl (λ_ _ _ N=>by cases N)
  .show(w.heap.setIfInBounds c _)[j]?=_;rw[WK (VC hj)]
  .show(w.heap.setIfInBounds c _)[c]?=_;simp[C]
 have q:a.eval m=.map (some c):=Q.trans G;rw[hd];rcases E with⟨rfl,E⟩|⟨i,u,rfl,S,T⟩
 .refine⟨.tuple #[],_,g,?_,h.refl_to,fin en y.2 E⟩;simp[execOp,ho,resolve,invoke,builtin,q,l,Builtin.delete_,run_underlying J,e,ce w _ F kk .i64 _ f,b,MapKept.run_setObj_map _ x]
 .refine⟨.tuple #[],_,g,?_,h.refl_to,fin (en.eraseIdxIfInBounds i) (MapKept.stamped_erase y.2 i) ?_⟩
  .rw[T4]at b;simp[execOp,ho,resolve,invoke,builtin,q,l,Builtin.delete_,run_underlying J,e,ce w _ F kk .i64 _ f,b,MapKept.run_setObj_map _ x]
  .have hi:i<en.size:=by simpa using S
   rw[Array.eraseIdxIfInBounds,dif_pos hi,Array.toList_eraseIdx];exact T
theorem yz{P:Program}{st:St}(o:Oper)(t:TypeId)(d:Nat)(ho:o.op=.makeMap t none)(hd:o.dst=some d){N:Nat}(f:d<N):
 ∀g a w,g.N=N->Sim g st a w->∃v w' g',(execOp a.eval o).run P w=.ok (.value v) w'∧g.to g'∧Sim g' ⟨(d,.omap true [])::aG (cX d) st.t,st.h⟩ (a.put o.dst v) w':=by
 intro g a w i h;obtain⟨bl,e⟩:=h.own;refine⟨.map (some w.heap.size),w.alloc (.map #[] 0),g,?_,h.refl_to,?_⟩
 .simp only[execOp,ho,Vv,Sem.run_bind,Go.RowKit.run_makeMap,Result.andThen_ok,Sem.run_pure]
 .rw[hd];refine h.putOwn e (i▸f) rfl (by simp) (λc b _=>heap_alloc_old w _ b) (o:=some w.heap.size) ⟨w.heap.size,rfl,#[],0,rfl,heap_alloc_new w _,rfl,λ_=>h.B,MapKept.stamped_empty 0⟩ rfl (λc b=>?_);cases b
  exact⟨by simp,h.fresh e (SY _)⟩
def Br(st:St):Option Operand->Prop
 |none=>True
 |some x=>gc st x∧gj (mv st x)
theorem wS{P:Program}{st:St}(o:Oper)(t:TypeId)(r:Option Operand)(d:Nat)(ho:o.op=.makeMap t r)(hd:o.dst=some d)(f:lW P t=true)(m:Br st r){N:Nat}(i:d<N):
 ∀g a w,g.N=N->Sim g st a w->∃v w' g',(execOp a.eval o).run P w=.ok (.value v) w'∧g.to g'∧Sim g' ⟨(d,.omap true [])::aG (cX d) st.t,st.h⟩ (a.put o.dst v) w':=by
 intro g a w l h;cases r with
 |none=>exact yz o t d ho hd i g a w l h
 |some x=>
  obtain⟨bl,j⟩:=h.own;unfold lW at f;split at f
  case h_2=>cases f
  rename_i k e n;refine⟨.map (some w.heap.size),w.alloc (.map #[] 0),g,?_,h.refl_to,?_⟩
  .simp only[execOp,ho,TZ,Sem.run_bind,bX h m.1 m.2,Instr.makeMap,run_underlying n,Result.andThen_ok,asInt,asIntOf,Sem.run_pure];rfl
  .rw[hd];refine h.putOwn j (l▸i) rfl (by simp) (λc b _=>heap_alloc_old w _ b) (o:=some w.heap.size) ⟨w.heap.size,rfl,#[],0,rfl,heap_alloc_new w _,rfl,λ_=>h.B,MapKept.stamped_empty 0⟩ rfl (λc b=>?_);cases b
   exact⟨by simp,h.fresh j (SY _)⟩
/-! ### A part of a block is cleared -/
def ot:List PV->Bool
 |[]=>true
 |.lit v::r=>v.oneCell'&&ot r
 |_=>false
def Bt(P:Program)(st:St)(t:TypeId)(x:Operand)(K:St->Prop):Prop:=
 match mv st x,cZ P t with
 |.pv (.bsl b 1 off n _),some [.lit z]=>gc st x∧z.cells=#[z]∧z.oneCell'=true∧0<n∧off+n<=(st.h.getD b []).length∧
  K ⟨aG (aJ b off n) st.t,st.h.set b (splice (st.h.getD b []) off (List.replicate n (.pv (.lit z))))⟩
 |.pv (.bsl b e off n _),some zs=>gc st x∧ot zs=true∧zs.length=e∧0<e∧0<n∧off+n*e<=(st.h.getD b []).length∧
  K ⟨aG (aJ b off (n*e)) st.t,st.h.set b (splice (st.h.getD b []) off (List.replicate n (zs.map .pv)).flatten)⟩
 |_,_=>False
theorem vi:∀{zs:List PV},ot zs=true->∃vs:List Value,zs=vs.map .lit∧∀v∈vs,v.oneCell'=true
 |[],_=>⟨[],rfl,by simp⟩
 |x::r,h=>by
  cases x with
  |lit v=>
   simp only[ot,S9]at h;obtain⟨vs,e,h1⟩:=vi h.2;exact⟨v::vs,by rw[e];rfl,λu a=>by
    rcases Tx.1 a with rfl|a
    .exact h.1
    .exact h1 u a⟩
  |_=>simp[ot]at h
theorem qY:∀{a b:List Value},a.map PV.lit=b.map PV.lit->a=b
 |[],[],_=>rfl
 |[],_::_,h=>by simp at h
 |_::_,[],h=>by simp at h
 |x::a,y::b,h=>by
  simp only[Tn,Vi,PV.lit.injEq]at h;rw[h.1,qY h.2]
theorem mr(z:Array Value):∀n,(Builtin.zeroCells z n).toList=(List.replicate n z.toList).flatten
 |0=>by simp[Builtin.zeroCells]
 |n+1=>by
  have a:=mr z n;simp only[Builtin.zeroCells,Wn,Array.toList_range]at a⊢;rw[UR,List.range_add,Tu,a,XE,V1];congr 1;simp only[VF,List.flatten_nil,Ut];apply VJ
  .simp
  .intro i h1 b;have hi:i<z.size:=by simpa using b
   simp only[WV,Xe];have c:(n*z.size+i) %z.size=i:=by rw[Nat.mul_comm,Nat.mul_add_mod,WW hi]
   rw[c,Vq z i hi];simp
theorem Bu{P:Program}{st:St}(o:Oper)(t:TypeId)(x:Operand)(b e off n cap:Nat)(zs:List PV)(ho:o.op=.call {callee:=.builtin .clear,args:=#[x],argTypes:=#[t]}) (hd:o.dst=none)
 (Q:mv st x=.pv (.bsl b e off n cap)) (hz:cZ P t=some zs) (N:gc st x) (B:ot zs=true) (M:zs.length=e) (h0:0<e) (hn:0<n) (f:off+n*e<=(st.h.getD b []).length):
 ∀g a w,Sim g st a w->∃v w' g',(execOp a.eval o).run P w=.ok (.value v) w'∧g.to g'∧Sim g' ⟨aG (aJ b off (n*e)) st.t,st.h.set b (splice (st.h.getD b []) off (List.replicate n (zs.map .pv)).flatten)⟩ (a.put o.dst v) w':=by
 intro g a w h;obtain⟨vs,rfl,h1⟩:=vi B;have d:vs.length=e:=by simpa using M
 obtain⟨J,_⟩:=aN h x N;rw[Q]at J;obtain⟨_,y,_,D⟩:=J;have z:b<st.h.length:=h.n▸y;have k:st.h[b]?=some (st.h.getD b []):=by simp[List.getD,SR z]
 obtain⟨bl,A⟩:=h.own;obtain⟨arr,T,u,⟨K,_⟩,_⟩:=A.blocks b _ k;unfold cZ at hz;split at hz
 case h_2=>cases hz
 rename_i L R;unfold dA at hz;split at hz
 case h_2=>cases hz
 rename_i U p;simp only[Tp]at hz;obtain⟨z',E,I⟩:=hz;have F:z'.cells.toList=vs:=qY I;have j:((List.replicate n vs).flatten).length=n*e:=by
  rw[XN,Vh,Xw,d]
 have i:∀v∈(List.replicate n vs).flatten,v.oneCell'=true:=λv S=>by
  obtain⟨l,O,d⟩:=Xr.1 S;rw[Vz O]at d;exact h1 v d
 have r:(Builtin.clear_ #[t] o.type #[.slice (some ⟨g.μ b,off,none⟩) n cap]).run P w=.ok (.tuple #[]) (w.setRow (g.μ b) (splice arr.toList off (List.replicate n vs).flatten).toArray):=by
  have G:(Builtin.zeroCells z'.cells n).toList=(List.replicate n vs).flatten:=by rw[mr,F]
  have s:=run_storeCells_at P (g.μ b) off T ((List.replicate n vs).flatten) 0 arr w u (by rw[K,j];simpa using f) i;simp only[VE]at s;obtain⟨m,rfl⟩:∃m,n=m+1:=⟨n -1,by omega⟩;have H:(zeroValue L).run P w=.ok z' w:=by simp[zeroValue,typeInfo,p,E]
  simp only[Builtin.clear_];simp[run_underlying R,H,G,s,splice]
 refine⟨.tuple #[],w.setRow (g.μ b) (splice arr.toList off (List.replicate n vs).flatten).toArray,g,?_,h.refl_to,?_⟩
 .simp[execOp,ho,resolve,invoke,builtin,D,r]
 .rw[hd];have C:ak g ((List.replicate n (vs.map PV.lit)).flatten) ((List.replicate n vs).flatten):=by
   have:=d5 g ((List.replicate n vs).flatten)
   rwa [Xs,Vh]at this
  have q:((List.replicate n (vs.map PV.lit)).flatten).length=n*e:=by
   rw[XN,Vh,Xw,S7,d]
  have:=h.blockWrite (ys:=(List.replicate n (vs.map PV.lit)).flatten) (w':=w.setRow (g.μ b) (splice arr.toList off (List.replicate n vs).flatten).toArray) k (by rw[q];exact f) u C i rfl (size_setRow _ _ _) (λc B=>setRow_other w _ c _ B) ⟨T,setRow_heap w _ arr _ T _ u⟩ (by simp);rw[q,Xs,Vh]at this;exact this
theorem Ft{P:Program}{st:St}(o:Oper)(t:TypeId)(x:Operand)(b off n cap:Nat)(z:Value)(ho:o.op=.call {callee:=.builtin .clear,args:=#[x],argTypes:=#[t]}) (hd:o.dst=none)
 (O:mv st x=.pv (.bsl b 1 off n cap)) (hz:cZ P t=some [.lit z]) (N:gc st x) (C:z.cells=#[z]) (h1:z.oneCell'=true) (hn:0<n) (f:off+n<=(st.h.getD b []).length):
 ∀g a w,Sim g st a w->∃v w' g',(execOp a.eval o).run P w=.ok (.value v) w'∧g.to g'∧Sim g' ⟨aG (aJ b off n) st.t,st.h.set b (splice (st.h.getD b []) off (List.replicate n (.pv (.lit z))))⟩ (a.put o.dst v) w':=by
 intro g a w h;obtain⟨I,_⟩:=aN h x N;rw[O]at I;obtain⟨_,u,_,F⟩:=I;have A:b<st.h.length:=h.n▸u;have k:st.h[b]?=some (st.h.getD b []):=by simp[List.getD,SR A]
 obtain⟨bl,B⟩:=h.own;obtain⟨arr,T,s,⟨L,_⟩,_⟩:=B.blocks b _ k;unfold cZ at hz;split at hz
 case h_2=>cases hz
 rename_i M Q;unfold dA at hz;split at hz
 case h_2=>cases hz
 rename_i S l;simp only[Tp]at hz;obtain⟨z',G,d⟩:=hz;have j:z'=z∨z'.cells=#[z]:=by
  have:z'.cells.toList=[z]:=by
   cases J:z'.cells.toList with
   |nil=>rw[J]at d;simp at d
   |cons y ys=>
    rw[J]at d;simp only[Tn,Vi,PV.lit.injEq,XO]at d;rw[d.1,d.2]
  exact .inr (by apply UJ;rw[this])
 have r:z'.cells=#[z]:=j.elim (λe=>e▸C) id;have K:z'.cells.size=1:=by rw[r];rfl
 have p:(Builtin.clear_ #[t] o.type #[.slice (some ⟨g.μ b,off,none⟩) n cap]).run P w=.ok (.tuple #[]) (w.setRow (g.μ b) (splice arr.toList off (List.replicate n z)).toArray):=by
  have H:(Builtin.zeroCells z'.cells n).toList=List.replicate n z:=by
   rw[r];simp[Builtin.zeroCells];apply VJ
   .simp
   .intro i h1 U;simp[Nat.mod_one]
  have q:=run_storeCells_at P (g.μ b) off T (List.replicate n z) 0 arr w s (by rw[L];simpa using f) (by intro v E;rw[Vz E];exact h1);simp only[VE]at q;obtain⟨m,rfl⟩:∃m,n=m+1:=⟨n -1,by omega⟩;have j:(zeroValue M).run P w=.ok z' w:=by simp[zeroValue,typeInfo,l,G]
  simp[Builtin.clear_,run_underlying Q,j,H,q,splice]
 refine⟨.tuple #[],w.setRow (g.μ b) (splice arr.toList off (List.replicate n z)).toArray,g,?_,h.refl_to,?_⟩
 .simp[execOp,ho,resolve,invoke,builtin,F,p]
 .rw[hd];have D:ak g (List.replicate n (.lit z)) (List.replicate n z):=by
   have:=d5 g (List.replicate n z)
   rwa [Vh]at this
  have:=h.blockWrite (ys:=List.replicate n (.lit z)) (w':=w.setRow (g.μ b) (splice arr.toList off (List.replicate n z)).toArray) k (by simpa using f) s D (λv R=>by rw[Vz R];exact h1) rfl (size_setRow _ _ _) (λc C=>setRow_other w _ c _ C) ⟨T,setRow_heap w _ arr _ T _ s⟩ (by simp);rw[Vx,Vh]at this;exact this
/-! ### A slice of zeros -/
theorem qn(z:Array Value)(e:Nat)(a:z.size=e):∀k,(madeCells z (k*e)).toList=(List.replicate k z.toList).flatten
 |0=>by simp[madeCells]
 |k+1=>by
  have b:=qn z e a k;simp only[madeCells,Wn,Array.toList_range]at b⊢;rw[UR,List.range_add,Tu,b,XE,V1];congr 1;simp only[VF,List.flatten_nil,Ut,TX];apply Uf;intro i;simp only[Tm]
  by_cases hi:i<e
  .rw[XK hi];simp only[TZ,Function.comp_apply];rw[a,WP (k*e) i,Nat.add_mul_mod_self_right,WW hi];have:i<z.size:=by omega
   simp[this]
  .rw[TL (by simpa using hi),TL (by simp[a];omega)];rfl
theorem ms{g:Gh}{e:Nat}{zs:List PV}{a:List Value}(h:ak g zs a)(b:zs.length=e)(ho:∀v∈a,v.oneCell'=true):∀n,ay g e (List.replicate n zs) ((List.replicate n a).flatten)
 |0=>rfl
 |n+1=>by
  simp only[Wr,VF];exact⟨a,_,rfl,⟨b,ho⟩,h,ms h b ho n⟩
theorem uI{P:Program}{st:St}(o:Oper)(t:TypeId)(x y:Operand)(d e b:Nat)(zs:List PV)(ho:o.op=.makeSlice t x y)(hd:o.dst=some d)(hi:bM P t=some (e,b))(hz:cZ P t=some zs)(h1:bH zs=true)(J:0<b)
 (A:gc st x) (C:gc st y) (hx:gj (mv st x)) (hy:gj (mv st y)) (h0:0<=aS (mv st x)) (hle:aS (mv st x)<=aS (mv st y)) (r:aS (mv st y)*b<=140737488355328) {N:Nat} (I:d<N):
 ∀g a w,g.N=N->Sim g st a w->∃v w' g',(execOp a.eval o).run P w=.ok (.value v) w'∧g.to g'∧
  Sim g' ⟨(d,.own true e (List.replicate (aS (mv st x)).toNat zs))::aG (cX d) st.t,st.h⟩ (a.put o.dst v) w':=by
 intro g a w L h;obtain⟨bl,E⟩:=h.own;unfold bM at hi;split at hi
 case h_2=>cases hi
 rename_i q F;unfold cZ at hz;rw[F]at hz;simp only at hz;cases f:P.info? q with
 |none=>rw[f]at hi;cases hi
 |some j=>
  rw[f]at hi;simp only[dA,f,Tp]at hz;obtain⟨z,hz,rfl⟩:=hz;simp only at hi;rw[hz]at hi;simp only at hi;split at hi
  case isFalse=>cases hi
  rename_i n;cases hi
  have G:=bX h A hx;have H:=bX h C hy;generalize aS (mv st x)=l at*;generalize aS (mv st y)=c at*;have u:0<=c:=by omega
  have K:c*1<=c*(j.bytes:Int):=Int.mul_le_mul_of_nonneg_left (by omega) u;have p:=run_make (P:=P) (w:=w) t q j z F f hz (gi (mv st x)) (gi (mv st y)) l c h0 hle (by rw[Int.mul_comm];omega) (by omega);have i:ak g (z.cells.toList.map PV.lit) z.cells.toList:=d5 g _;have m:=dy h1 i;refine⟨.slice (some ⟨w.heap.size,0,none⟩) l.toNat c.toNat,w.alloc (.cells (madeCells z.cells (c.toNat*j.size)) q),g,?_,h.refl_to,?_⟩
  .simp only[execOp,ho,G,H,Sem.run_bind,p,Result.andThen_ok,Sem.run_pure]
  .rw[hd];refine h.putOwn E (L▸I) rfl (by simp) (λk hk _=>heap_alloc_old w _ hk) (o:=some w.heap.size) ?_ rfl (λk hk=>?_)
   .refine .inr ⟨w.heap.size,rfl,c.toNat,_,q,(List.replicate l.toNat z.cells.toList).flatten,by rw[Vx],heap_alloc_new w _,?_,⟨?_,?_,?_⟩,?_,?_,λ_=>h.B⟩
    .exact size_madeCells _ _
    .rw[Vx];omega
    .show c.toNat<=2^63 -1;omega
    .rw[qn z.cells j.size n.1];intro v s;obtain⟨l',D,s⟩:=Xr.1 s;rw[Vz D]at s;exact m v s
    .exact ms i (by simpa using n.1) m _
    .rw[qn z.cells j.size n.1];refine⟨(List.replicate (c.toNat -l.toNat) z.cells.toList).flatten,?_⟩;rw[←V1,List.replicate_append_replicate];congr 2;omega
   .cases hk
    exact⟨by simp,h.fresh E (SY _)⟩
end Go.AX
namespace Go.AX
theorem pc{a:Act}{s:Nat}(h:s<a.tmps.size):a.put (some s) (a.tmps.getD s undef)=a:=by
 cases a with
 |mk t d=>
  simp only at h;simp only[Act.put,Act.mk.injEq,XU];apply Array.ext_getElem?;intro i;rw[T6];split
  .rename_i e;subst e;simp[h]
  .rfl
theorem Sim.looks{g:Gh}{st st':St}{a:Act}{w:World}(h:Sim g st a w)(hh:st'.h=st.h)(ht:∀s,look st'.t s=look st.t s):Sim g st' a w:=by
  obtain⟨bl,hb⟩:=h.own
  have hp:∀p,aa st' p=aa st p:=λp=>by
    cases p with
    |slot s=>exact ht s
    |cell b k=>simp only[aa,hh]
  exact { size := h.size, defs := h.defs, env := h.env, n := by rw [hh]; exact h.n, n0 := h.n0, B := h.B, I := h.I, F := h.F, μI := h.μI, μinj := h.μinj,
          own:=⟨bl,{slots:=λs=>by rw[ht s];exact hb.slots s,blocks:=λb xs hx=>hb.blocks b xs (by rw[←hh];exact hx),inj:=hb.inj,free:=hb.free}⟩,
          al:=λs=>by rw[ht s];exact bW.congr (λp _=>⟨hp p,rfl⟩) (h.al s)}
theorem Ld{g:Gh}{w:World}{nw:Bool}{e:Nat}{rows:List (List PV)}{v:Value}{o:Option Nat}(h:az g w (.own nw e rows) v o){hi:Nat}(b:hi<=rows.length){q:Option Addr}{n cap:Nat}(f:v=.slice q n cap):
 az g w (.own nw e (rows.take hi)) (.slice q hi cap) o:=by
 rcases h with⟨rfl,rfl,a⟩|⟨c,r,d,arr,T,vs,a,i,j,k,l,m,p⟩
 .left;simp only[List.length_nil,Nat.le_zero]at b;subst b;rw[f]at a;simp only[Value.slice.injEq]at a;obtain⟨rfl,_,rfl⟩:=a;exact⟨rfl,by simp,rfl⟩
 .right;rw[f]at a;simp only[Value.slice.injEq]at a;obtain⟨rfl,rfl,rfl⟩:=a;refine⟨c,r,cap,arr,T,vs.take (hi*e),by rw[S6,Uw b],i,j,⟨by rw[S6];omega,k.2⟩,?_,(Wm _ _).trans m,p⟩;have:=ay.cut l 0 hi (Tf _) b;simpa using this
theorem rU{g:Gh}{st:St}{a:Act}{w:World}{bl:Pos->Option Nat}(f:Owns g st a w bl){p:Pos}{hi:Nat}{nw:Bool}{e:Nat}{rows:List (List PV)}{v:Value}(hp:aa st p=.own nw e rows)(d:bW g st a w (.loc p 0 hi) v):
 az g w (.own nw e (rows.take hi)) v (bl p):=by
 have b:=bn f (p:=p) (by rw[hp];rfl);rw[hp]at b;obtain⟨_,c,q,cap,h,_,_,hz⟩:=d _ _ _ hp;obtain⟨n0,hz⟩:=hz rfl;have:=Ld b c hz;rw[h];simpa using this
theorem iC{g:Gh}{w:World}{x:SV}{v:Value}{o:Option Nat}(hx:x.isOwn=true)(h:az g w x v o):v.cells=#[v]∧v.oneCell'=true:=by
 cases x with
 |own nw e rows=>
  rcases h with⟨_,_,rfl⟩|⟨c,_,cap,arr,T,vs,rfl,_⟩<;>exact⟨rfl,rfl⟩
 |omap nw es=>obtain⟨c,_,en,ck,rfl,_⟩:=h;exact⟨rfl,rfl⟩
 |_=>cases hx
theorem sG(q:Pos->Bool)(x:SV):ct q (ct q x)=ct q x:=by
 rcases bs q x with e|⟨e,_⟩
 .rw[e];rfl
 .rw[e,e]
theorem Sim.adopt{g:Gh}{st:St}{a:Act}{w:World}(h:Sim g st a w){bl:Pos->Option Nat}(v:Owns g st a w bl){b k:Nat}{xs:List SV}(hx:st.h[b]?=some xs)(hk:k<xs.length){sv:SV}{o:Option Nat}
 (hs:az g w sv (an g a w (.cell b k)) o) (ho:sv.isOwn=true) (E:∀c,o=some c->c<w.heap.size∧FreeAt g bl c):
 Sim g ⟨aG (aJ b k 1) st.t,st.h.set b (xs.set k sv)⟩ a w∧Owns g ⟨aG (aJ b k 1) st.t,st.h.set b (xs.set k sv)⟩ a w (λp=>if p=.cell b k then o else bl p):=by
 have y:b<st.h.length:=(SQ.1 hx).1;have z:∀p,aJ b k 1 p=false->(aa ⟨aG (aJ b k 1) st.t,st.h.set b (xs.set k sv)⟩ p).isOwn=true->
  aa ⟨aG (aJ b k 1) st.t,st.h.set b (xs.set k sv)⟩ p=aa st p∧an g a w p=an g a w p:=by
  intro p m hp;refine⟨?_,rfl⟩;cases p with
  |slot s=>simp only[aa,aW]at hp⊢;exact d4 hp
  |cell b' k'=>
   simp only[aa,SS,Tz]
   by_cases f:b=b'
   .subst f;have i:k≠k':=λe=>by subst e;simp[aJ]at m
    rw[SX rfl,SX y,hx];simp only[TC,Tj i]
   .rw[SU f]
 have l:Owns g ⟨aG (aJ b k 1) st.t,st.h.set b (xs.set k sv)⟩ a w (λp=>if p=.cell b k then o else bl p):=by
  refine{slots:=λs=>?_,blocks:=λb' G j=>?_,inj:=λp q c hp m=>?_,free:=λp c hp=>?_}
  .rw[SU (by intro e;cases e),aW];exact az.kill _ (v.slots s)
  .rw[Tz]at j;split at j
   .rename_i f;subst f
    try rw[SX y]at j
    cases j
    obtain⟨arr,T,r,u,A⟩:=v.blocks b xs hx;refine⟨arr,T,r,⟨by rw[Tt];exact u.1,u.2⟩,λk' x d=>?_⟩;rw[Tz]at d;split at d
    .rename_i i;subst i
     try rw[SX hk]at d
     cases d
     rw[SX rfl];refine⟨(by cases sv<;>first|rfl|cases ho),?_⟩;simpa[an,r]using hs
    .rename_i i;rw[SU (by intro e;cases e;exact i rfl)];exact A k' x d
   .rename_i f;obtain⟨arr,T,r,u,A⟩:=v.blocks b' G j;refine⟨arr,T,r,u,λk' x d=>?_⟩;rw[SU (by intro e;cases e;exact f rfl)];exact A k' x d
  .split at hp
   .rename_i r;split at m
    .rename_i u;rw[r,u]
    .exact absurd m ((E c hp).2.own q)
   .split at m
    .exact absurd hp ((E c m).2.own p)
    .exact v.inj p q c hp m
  .split at hp
   .obtain⟨h1,C⟩:=E c hp;exact⟨C.I,C.F,h1,C.μ⟩
   .exact v.free p c hp
 refine⟨{size:=h.size,defs:=h.defs,env:=h.env,n:=by simp only[Tt];exact h.n,n0:=h.n0,B:=h.B,I:=h.I,F:=h.F,μI:=h.μI,μinj:=h.μinj,own:=⟨_,l⟩,al:=λs=>?_},l⟩;rw[aW];rcases bs (aJ b k 1) (look st.t s)with e|⟨e,D⟩
 .rw[e];trivial
 .rw[e];exact bW.congrA z D (h.al s)
def jO(st:St)(s b k:Nat):St:=⟨(s,.al (.cell b k))::aG (aJ b k 1) st.t,st.h.set b ((st.h.getD b []).set k (look st.t s))⟩
theorem Dx{g:Gh}{st:St}{a:Act}{w:World}(h:Sim g st a w){s:Nat}(ho:(look st.t s).isOwn=true):s<a.tmps.size:=by
 obtain⟨bl,f⟩:=h.own;have hs:=f.slots s;apply VK;intro hle;have i:a.tmps.getD s undef=undef:=by rw[Tg,UI hle];rfl
 rw[i]at hs;cases d:look st.t s with
 |own nw e rows=>rw[d]at hs;rcases hs with⟨_,_,b⟩|⟨c,_,cap,arr,T,vs,b,_⟩<;>cases b
 |omap nw es=>rw[d]at hs;obtain⟨c,_,en,ck,b,_⟩:=hs;cases b
 |_=>rw[d]at ho;cases ho
theorem Sim.moveTo{g:Gh}{st:St}{a:Act}{w:World}(h:Sim g st a w){s b k:Nat}{xs:List SV}(ho:(look st.t s).isOwn=true)(hx:st.h[b]?=some xs)(hk:k<xs.length)(p:an g a w (.cell b k)=a.tmps.getD s undef):
 Sim g (jO st s b k) a w:=by
 obtain⟨bl,i⟩:=h.own;have f:=Dx h ho;obtain⟨h1,q,j,_,_,e⟩:=h.drop i (.slot s);have hs:=i.slots s;have l:(setPos st (.slot s) (.pv .bot)).h[b]?=some xs:=hx;obtain⟨r,_⟩:=h1.adopt j l hk (sv:=look st.t s) (o:=bl (.slot s)) (by rw[p];exact hs) ho (λc n=>⟨(i.free _ c n).2.2.1,e c n⟩);have m:=r.put (d:=s) (sv:=.al (.cell b k)) (v:=a.tmps.getD s undef) (by rw[←h.size];exact f) rfl (λ_=>p.symm) rfl;rw[pc f]at m;refine m.looks ?_ ?_
 .simp[jO,St.put,setPos,SS,hx]
 .intro s';simp only[jO,St.put,look,setPos,aW];split<;>rfl
theorem Bv{P:Program}{st:St}(o:Oper)(t:TypeId)(x y:Operand)(b off s:Nat)(W:Bool)(ho:o.op=.store t x y)(hl:aI P t=some (W,1))(hy:mv st y=.al (.slot s))(O:gc st y)(j:(look st.t s).isOwn=true)
 (hx:mv st x=.pv (.ptr b off)) (N:gc st x) (f:off<(st.h.getD b []).length):
 ∀g a w,Sim g st a w->∃w' g',(execOp a.eval o).run P w=.ok .skip w'∧g.to g'∧Sim g' (jO st s b off) a w':=by
 intro g a w h;obtain⟨G,_⟩:=aN h x N;rw[hx]at G;obtain⟨_,A,R⟩:=G;obtain⟨_,z⟩:=aN h y O;rw[hy]at z;have I:a.eval y=a.tmps.getD s undef:=z j;have E:b<st.h.length:=h.n▸A;have C:st.h[b]?=some (st.h.getD b []):=by simp[List.getD,SR E]
 obtain⟨bl,K⟩:=h.own;have H:=Dx h j;have hs:=K.slots s;obtain⟨hcl,m⟩:=iC j hs;rw[←I]at hs hcl m;obtain⟨arr,T,J,⟨S,_⟩,_⟩:=K.blocks b _ C;have V:=dW w hl (a.eval y) (by rw[hcl];rfl) (g.μ b) off T arr J (by rw[S];exact f) (by rw[hcl];simpa using m);obtain⟨h1,L,B,_,_,l⟩:=h.drop K (.slot s);rw[hcl]at V;have D:(setPos st (.slot s) (.pv .bot)).h[b]?=some (st.h.getD b []):=C;obtain⟨h2,M⟩:=h1.blockWriteO B (w':=w.setRow (g.μ b) (splice arr.toList off [a.eval y]).toArray) (k0:=off) (ys:=[.bot]) (vs:=[a.eval y]) (arr':=(splice arr.toList off [a.eval y]).toArray) D f J ⟨_,_,rfl,trivial,rfl⟩ (by simpa using m) rfl (size_setRow _ _ _) (λc q=>setRow_other w _ c _ q) ⟨T,setRow_heap w _ arr _ T _ J⟩ (by simp);have F:∀c,bl (.slot s)=some c->FreeAt g (λp=>if aJ b off 1 p=true then none else L p) c:=λc q=>by
  obtain⟨Y,Z,f3,f4⟩:=l c q;refine⟨Y,Z,f3,λp hp=>?_⟩;split at hp
  .cases hp
  .exact f4 p hp
 have r:an g a (w.setRow (g.μ b) (splice arr.toList off [a.eval y]).toArray) (.cell b off)=a.eval y:=by
  simp only[an,setRow_heap w _ arr _ T _ J];rw[Tg,←S4,eA (by simp[S];exact f)];simp
 have Q:az g (w.setRow (g.μ b) (splice arr.toList off [a.eval y]).toArray) (look st.t s) (a.eval y) (bl (.slot s)):=
  az.frame (Gh.le.refl g) (λc q=>setRow_other w _ c _ (λe=>(l c q).μ b A e.symm)) hs
 have u:(st.h.set b (splice (st.h.getD b []) off ([PV.bot].map .pv)))[b]?=some (splice (st.h.getD b []) off ([PV.bot].map .pv)):=by
  rw[Tz,SX rfl,SX E]
 obtain⟨h3,_⟩:=h2.adopt M (k:=off) (xs:=splice (st.h.getD b []) off ([PV.bot].map .pv)) u (by rw[bU f];exact f) (sv:=look st.t s) (o:=bl (.slot s)) (by rw[r];exact Q) j
  (λc q=>⟨by rw[size_setRow];exact(K.free _ c q).2.2.1,F c q⟩)
 have U:=h3.put (d:=s) (sv:=.al (.cell b off)) (v:=a.tmps.getD s undef) (by rw[←h.size];exact H) rfl (λ_=>by rw[r,I]) rfl;rw[pc H]at U;refine⟨_,g,?_,h.refl_to,U.looks ?_ ?_⟩
 .simp only[execOp,ho,R,Instr.storeAt,Instr.sureAddr,Sem.run_bind,Sem.run_pure,Result.andThen_ok,V]
 .have X:(splice (st.h.getD b []) off ([PV.bot].map .pv)).set off (look st.t s)=(st.h.getD b []).set off (look st.t s):=by
   apply Uf;intro i;rw[Tz,Tz,bU f,eA f]
   by_cases hi:off=i
   .rw[SX hi,SX hi]
   .rw[SU hi,SU hi,SU (by simp;omega)]
  simp only[jO,St.put,setPos,Wy,X]
 .intro s';simp only[jO,St.put,look,setPos,aW];split
  .rfl
  .exact(sG (aJ b off 1) (look st.t s')).symm
theorem Fu{P:Program}{st:St}(o:Oper)(t:TypeId)(x y:Operand)(b off hi:Nat)(nw:Bool)(e:Nat)(rows:List (List PV))(J:Bool)(ho:o.op=.store t x y)(R:aI P t=some (J,1))(hy:mv st y=.loc (.cell b off) 0 hi)(E:gc st y)(hp:aa st (.cell b off)=.own nw e rows)
 (hx:mv st x=.pv (.ptr b off)) (D:gc st x):
 ∀g a w,Sim g st a w->∃w' g',(execOp a.eval o).run P w=.ok .skip w'∧g.to g'∧Sim g' ⟨aG (aJ b off 1) st.t,st.h.set b ((st.h.getD b []).set off (.own nw e (rows.take hi)))⟩ a w':=by
 intro g a w h;obtain⟨z,_⟩:=aN h x D;rw[hx]at z;obtain⟨_,r,G⟩:=z;obtain⟨_,q⟩:=aN h y E;rw[hy]at q;have u:b<st.h.length:=h.n▸r;have s:st.h[b]?=some (st.h.getD b []):=by simp[List.getD,SR u]
 have d:off<(st.h.getD b []).length:=by
  apply VK;intro hle;simp only[aa]at hp;rw[SS,TL hle]at hp;cases hp
 obtain⟨bl,l⟩:=h.own;have hs:=rU l hp q;obtain⟨hcl,j⟩:=iC (x:=.own nw e (rows.take hi)) rfl hs;obtain⟨arr,T,B,⟨H,_⟩,_⟩:=l.blocks b _ s;have I:=dW w R (a.eval y) (by rw[hcl];rfl) (g.μ b) off T arr B (by rw[H];exact d) (by rw[hcl];simpa using j);rw[hcl]at I;obtain⟨O,C⟩:=h.blockWriteO l (w':=w.setRow (g.μ b) (splice arr.toList off [a.eval y]).toArray) (k0:=off) (ys:=[.bot]) (vs:=[a.eval y]) (arr':=(splice arr.toList off [a.eval y]).toArray) s d B ⟨_,_,rfl,trivial,rfl⟩ (by simpa using j) rfl (size_setRow _ _ _) (λc f=>setRow_other w _ c _ f) ⟨T,setRow_heap w _ arr _ T _ B⟩ (by simp);have v:∀c,bl (.cell b off)=some c->FreeAt g (λp=>if aJ b off 1 p=true then none else bl p) c:=λc f=>by
  obtain⟨L,M,U,N⟩:=l.free _ c f;refine⟨L,M,N,λp hp=>?_⟩;split at hp
  .cases hp
  .rename_i S;have:=l.inj p (.cell b off) c hp f;subst this;exact S (by simp[aJ])
 have A:an g a (w.setRow (g.μ b) (splice arr.toList off [a.eval y]).toArray) (.cell b off)=a.eval y:=by
  simp only[an,setRow_heap w _ arr _ T _ B];rw[Tg,←S4,eA (by simp[H];exact d)];simp
 have F:az g (w.setRow (g.μ b) (splice arr.toList off [a.eval y]).toArray) (.own nw e (rows.take hi)) (a.eval y) (bl (.cell b off)):=
  az.frame (Gh.le.refl g) (λc f=>setRow_other w _ c _ (λe=>(l.free _ c f).2.2.2 b r e.symm)) hs
 have m:(st.h.set b (splice (st.h.getD b []) off ([PV.bot].map .pv)))[b]?=some (splice (st.h.getD b []) off ([PV.bot].map .pv)):=by
  rw[Tz,SX rfl,SX u]
 obtain⟨Q,_⟩:=O.adopt C (k:=off) (xs:=splice (st.h.getD b []) off ([PV.bot].map .pv)) m (by rw[bU d];exact d) (sv:=.own nw e (rows.take hi)) (o:=bl (.cell b off)) (by rw[A];exact F) rfl
  (λc f=>⟨by rw[size_setRow];exact(l.free _ c f).2.2.1,v c f⟩)
 refine⟨_,g,?_,h.refl_to,Q.looks ?_ ?_⟩
 .simp only[execOp,ho,G,Instr.storeAt,Instr.sureAddr,Sem.run_bind,Sem.run_pure,Result.andThen_ok,I]
 .have K:(splice (st.h.getD b []) off ([PV.bot].map .pv)).set off (.own nw e (rows.take hi))=(st.h.getD b []).set off (.own nw e (rows.take hi)):=by
   apply Uf;intro i;rw[Tz,Tz,bU d,eA d]
   by_cases hi:off=i
   .rw[SX hi,SX hi]
   .rw[SU hi,SU hi,SU (by simp;omega)]
  simp only[Wy,K]
 .intro s';simp only[aW];exact(sG (aJ b off 1) (look st.t s')).symm
theorem Bw{P:Program}{st:St}(o:Oper)(s d hi:Nat)(nw:Bool)(e:Nat)(rows:List (List PV))(ho:o.op=.assign (.tmp s))(hd:o.dst=some d)(hs:look st.t s=.loc (.slot d) 0 hi)(hp:look st.t d=.own nw e rows){N:Nat}(q:d<N):
 ∀g a w,g.N=N->Sim g st a w->∃v w' g',(execOp a.eval o).run P w=.ok (.value v) w'∧g.to g'∧Sim g' ⟨(d,.own nw e (rows.take hi))::aG (cX d) st.t,st.h⟩ (a.put o.dst v) w':=by
 intro g a w u h;obtain⟨bl,f⟩:=h.own;have j:=h.al s;rw[hs]at j;have r:=rU f (p:=.slot d) hp j;obtain⟨h1,m,i,_,_,b⟩:=h.drop f (.slot d);refine⟨a.tmps.getD s undef,w,g,by simp[execOp,ho,Act.eval],h.refl_to,?_⟩;rw[hd];have n:=h1.putOwn i (d:=d) (u▸q) rfl (SY _) (λ_ _ _=>rfl) r rfl (λc l=>⟨(f.free _ c l).2.2.1,b c l⟩);refine n.looks rfl λk=>?_;simp only[look,aW,setPos];split<;>rfl
theorem Bx{P:Program}{st:St}(o:Oper)(t:TypeId)(s x:Operand)(d e b:Nat)(p:Pos)(i:Nat)(nw:Bool)(rows:List (List PV))(ho:o.op=.call {callee:=.builtin .append,args:=#[s,x],argTypes:=#[t,t]}) (hd:o.dst=some d)
 (hi:bM P t=some (e,b)) (m:0<b) (C:gc st s) (hs:mv st s=.loc p 0 i) (hp:aa st p=.own nw e rows) (D:gc st x) (hx:i9 st e (mv st x))
 (f:((rows.take i).length+(rowsOf st (mv st x)).length)*b<=140737488355328) {N:Nat} (L:d<N):
 ∀g a w,g.N=N->Sim g st a w->∃v w' g',(execOp a.eval o).run P w=.ok (.value v) w'∧g.to g'∧
  Sim g' ⟨(d,.own nw e (rows.take i++rowsOf st (mv st x)))::aG (cX d) (setPos st p (.pv .bot)).t,(setPos st p (.pv .bot)).h⟩ (a.put o.dst v) w':=by
 intro g a w M h;obtain⟨bl,H⟩:=h.own;obtain⟨_,has⟩:=aN h s C;rw[hs]at has;have y:=rU H hp has;obtain⟨q,cap,news,F,z,n⟩:=gN h D hx;obtain⟨Q,w',R,O,r,E,u,G,l⟩:=k8 (ty:=o.type) (k:=cap) hi m h.B y z n f;refine⟨Q,w',g,?_,h.refl_to,?_⟩
 .simp only[execOp,ho,resolve,invoke,builtin,Wo,Tn,Vg,Sem.run_bind,Sem.run_pure,Result.andThen_ok,F,O]
 .obtain⟨h1,J,j,_,_,K⟩:=h.drop H p;rw[hd];exact h1.putOwn j (M▸L) r E G u rfl (λc I=>⟨(l c I).1,(l c I).2.elim (λe=>K c e) (λA=>h1.fresh j A)⟩)
/-! ### Structs that are made of what is owned -/
def qZ(st:St)(x:Operand):List (PV×Option Pos)×Prop:=
 match mv st x with
 |.al p=>([(.bot,some p)],gc st x∧(aa st p).isOwn=true)
 |.pv y=>((aO y).map (λz=>(z,none)),gc st x∧(y.one=true∨dm (.pv y)))
 |_=>([],False)
def nO(pl:List (Nat×Nat))(cells:List (PV×Option Pos)):List (Nat×List (PV×Option Pos))->List (PV×Option Pos)×Prop
 |[]=>(cells,True)
 |(i,ys)::rest=>match pl[i]?with
  |some (off,n)=>((nO pl (splice cells off ys) rest).1,ys.length=n∧off+n<=cells.length∧(nO pl (splice cells off ys) rest).2)
  |none=>(cells,False)
def ld(st:St):List (Nat×Operand)->List (Nat×List (PV×Option Pos))
 |[]=>[]
 |(i,x)::r=>(i,(qZ st x).1)::ld st r
def pd(st:St):List (Nat×Operand)->Prop
 |[]=>True
 |(_,x)::r=>(qZ st x).2∧pd st r
def Bz(P:Program)(st:St)(t:TypeId)(a:Array (Nat×Operand)):SV×Prop:=
 match bInfo P t,zeroV P t with
 |some pl,some zs=>(.agl (nO pl (zs.map λz=>(z,none)) (ld st a.toList)).1,pd st a.toList∧(nO pl (zs.map λz=>(z,none)) (ld st a.toList)).2)
 |_,_=>(.pv .bot,False)
def yA(g:Gh)(a:Act)(w:World):PV×Option Pos->PV
 |(x,none)=>x
 |(_,some p)=>.lit (an g a w p)
theorem BA{α β:Type}(f:α->β)(xs ys:List α)(k:Nat):(splice xs k ys).map f=splice (xs.map f) k (ys.map f):=by
 simp[splice,UB,VD]
theorem Hr{g:Gh}{st:St}{a:Act}{w:World}(h:Sim g st a w)(x:Operand)(hd:(qZ st x).2):ak g ((qZ st x).1.map (yA g a w)) (a.eval x).cells.toList:=by
 unfold qZ at hd⊢;split at hd
 .rename_i p c;simp only[c];obtain⟨h1,b⟩:=hd;obtain⟨_,d⟩:=aN h x h1;rw[c]at d;obtain⟨bl,f⟩:=h.own;obtain⟨i,_⟩:=iC b (bn f b);rw[d b,i];exact⟨_,_,rfl,rfl,rfl⟩
 .rename_i y c;simp only[c];obtain⟨h1,b⟩:=hd;obtain⟨e,_⟩:=aN h x h1;rw[c]at e;have:=iB e.2 b;simpa[VV,yA]using this
 .exact hd.elim
theorem yB{g:Gh}{st:St}{a:Act}{w:World}(h:Sim g st a w)(pl:List (Nat×Nat)):∀(l:List (Nat×Operand))(cs:List (PV×Option Pos))(cells:Array Value),ak g (cs.map (yA g a w)) cells.toList->pd st l->(nO pl cs (ld st l)).2->
 ∃out,Instr.fill (pl[·]?) cells (l.map λp=>(p.1,a.eval p.2))=some out∧ak g ((nO pl cs (ld st l)).1.map (yA g a w)) out.toList
 |[],cs,cells,d,_,_=>⟨cells,rfl,d⟩
 |(i,x)::rest,cs,cells,d,hp,hd=>by
  obtain⟨e,f⟩:=hp;have c:=Hr h x e;simp only[ld,nO]at hd⊢;cases b:pl[i]?with
  |none=>rw[b]at hd;exact hd.elim
  |some y=>
   obtain⟨off,n⟩:=y;rw[b]at hd;obtain⟨h1,k,m⟩:=hd;have j:(a.eval x).cells.size=n:=by have:=c.length;rw[S7,h1]at this;simpa using this
   have hcl:=d.length;rw[S7]at hcl;simp only[Tn];rw[qj (pl[·]?) cells i off n (a.eval x) _ b j (by rw[←TR,hcl];exact k)];refine yB h pl rest _ _ ?_ f m;rw[BA];simpa using d.splice c off
theorem Hs{g:Gh}{a:Act}{w:World}{xs:List (PV×Option Pos)}{vs:List Value}(h:ak g (xs.map (yA g a w)) vs){k:Nat}{x:PV}{p:Pos}(hk:xs[k]?=some (x,some p)):vs[k]?=some (an g a w p):=by
 obtain⟨v,h1,b⟩:=h.get k (.lit (an g a w p)) (by rw[Tm,hk];rfl);have:v=an g a w p:=b;rw[h1,this]
def pg:List (PV×Option Pos)->Prop
 |[]=>True
 |(x,some _)::r=>x=.bot∧pg r
 |(_,none)::r=>pg r
theorem sH{g:Gh}{a:Act}{w:World}:∀{xs:List (PV×Option Pos)}{vs:List Value},pg xs->ak g (xs.map (yA g a w)) vs->ak g (xs.map (·.1)) vs
 |[],_,_,h=>h
 |(x,some p)::r,_,⟨e,c⟩,⟨v,u,h1,d,b⟩=>by subst e;exact⟨v,u,h1,trivial,sH c b⟩
 |(x,none)::r,_,c,⟨v,u,h1,d,b⟩=>⟨v,u,h1,d,sH (xs:=r) c b⟩
theorem iD:∀{xs:List (PV×Option Pos)},pg xs↔∀x p,(x,some p)∈xs->x=.bot
 |[]=>by simp[pg]
 |(x,some p)::r=>by
  simp only[pg,iD (xs:=r),Tx,UH,TF];constructor
  .rintro⟨h1,a⟩ y q (⟨rfl,_⟩|h)
   .exact h1
   .exact a y q h
  .intro h;exact⟨h x p (.inl ⟨rfl,rfl⟩),λy q b=>h y q (.inr b)⟩
 |(x,none)::r=>by
  simp only[pg,iD (xs:=r),Tx,UH];constructor
  .rintro h y q (⟨_,a⟩|a)
   .cases a
   .exact h y q a
  .intro h y q b;exact h y q (.inr b)
theorem BB(st:St)(x:Operand):∀y p,(y,some p)∈(qZ st x).1->y=.bot:=by
 intro y p hy;unfold qZ at hy;split at hy
 .simp at hy;exact hy.1
 .simp at hy
 .simp at hy
theorem sI(st:St)(pl:List (Nat×Nat)):∀(l:List (Nat×Operand))(cs:List (PV×Option Pos)),pg cs->pg (nO pl cs (ld st l)).1
 |[],cs,h=>h
 |(i,x)::r,cs,h=>by
  simp only[ld,nO];split
  .refine sI st pl r _ (iD.2 λy p hy=>?_);simp only[splice,Te]at hy;rcases hy with(hy|hy)|hy
   .exact iD.1 h y p (TV hy)
   .exact BB st x y p hy
   .exact iD.1 h y p (U3 hy)
  .exact h
theorem Le{P:Program}{st:St}(o:Oper)(t:TypeId)(b:Array (Nat×Operand))(ho:o.op=.build t b):K6 P st o (Bz P st t b):=by
 intro g a w h hd;unfold Bz at hd⊢;split at hd
 .rename_i pl zs f hz;obtain⟨hp,hd⟩:=hd;unfold zeroV at hz;cases hi:P.info? t with
  |none=>rw[hi]at hz;cases hz
  |some B=>
   rw[hi]at hz;simp only[Tp]at hz;obtain⟨z,hz,rfl⟩:=hz;have r:ak g (((z.cells.toList.map PV.lit).map λz=>(z,(none:Option Pos))).map (yA g a w)) z.cells.toList:=by
    rw[TX];have:(yA g a w∘λz=>(z,none))=id:=by funext x;rfl
    rw[this,XV];exact d5 g _
   obtain⟨out,j,l⟩:=yB h pl b.toList _ z.cells r hp hd;have d:=sI st pl b.toList ((z.cells.toList.map PV.lit).map λz=>(z,(none:Option Pos))) (iD.2 λy p hy=>by simp at hy);have c:P.built t (b.toList.map λp=>(p.1,a.eval p.2))=some out:=by
    unfold bInfo at f;unfold Program.built;rw[hi];split at f
    .rename_i v q;rw[q];simp only[hz,f];simpa using j
    .rename_i n e q;simp only[Tp]at f;obtain⟨A,m,rfl⟩:=f;rw[q];simp only[hz,m];refine om _ _ (λi x hx=>?_) _ _ _ j;simp only[Tm,Tp]at hx;obtain⟨k,hk,rfl⟩:=hx;have:=SQ.1 hk;obtain⟨u,s⟩:=this;simp at s;subst s;rfl
    .cases f
   refine⟨.agg out,?_,⟨rfl,out,rfl,sH d l⟩,λk x p hk _=>⟨out,rfl,?_⟩⟩
   .simp only[execOp,ho,Sem.run_bind];rw[run_build w t _ out (by rw[←c];simp)];simp
   .have:=Hs l hk;simpa using this
 .exact hd.elim
def mu(n:Nat):List (PV×Option Pos)->Nat->St->St×Prop
 |[],_,st=>(st,True)
 |(_,none)::r,k,st=>mu n r (k+1) st
 |(_,some (.slot s))::r,k,st=>((mu n r (k+1) (jO st s n k)).1,(look st.t s).isOwn=true∧(mu n r (k+1) (jO st s n k)).2)
 |(_,some (.cell _ _))::_,_,st=>(st,False)
theorem rV{g:Gh}{a:Act}{w:World}{n:Nat}:∀(xs:List (PV×Option Pos))(k:Nat){st:St}(_:Sim g st a w)(_:(mu n xs k st).2)(_:n<st.h.length)(_:(st.h.getD n []).length=k+xs.length)
 (_:∀(j:Nat)(x:PV)(s:Nat),xs[j]?=some (x,some (.slot s))->an g a w (.cell n (k+j))=a.tmps.getD s undef),Sim g (mu n xs k st).1 a w
 |[],_,_,h,_,_,_,_=>h
 |(x,none)::r,k,st,h,hd,hn,b,c=>by
  simp only[mu]at hd⊢;exact rV r (k+1) h hd hn (by rw[b,Ty];omega) λj y s hj=>by have:=c (j+1) y s (by simpa using hj);rwa [show k+(j+1)=k+1+j by omega]at this
 |(x,some (.slot s))::r,k,st,h,hd,hn,b,c=>by
  simp only[mu]at hd⊢;have hx:st.h[n]?=some (st.h.getD n []):=by simp[List.getD,SR hn]
  have e:=h.moveTo hd.1 hx (k:=k) (by rw[b];simp) (c 0 x s rfl);have d:((st.h.getD n []).set k (look st.t s)).length=k+1+r.length:=by rw[Tt,b,Ty];omega
  refine rV r (k+1) e hd.2 (by simpa[jO]using hn) ?_ λj y s' hj=>by have:=c (j+1) y s' (by simpa using hj);rwa [show k+(j+1)=k+1+j by omega]at this
  have:(jO st s n k).h.getD n []=(st.h.getD n []).set k (look st.t s):=by
   simp only[jO];rw[SS,Tz,SX rfl,SX hn];rfl
  rw[this];exact d
 |(x,some (.cell _ _))::r,k,st,h,hd,hn,b,c=>by simp only[mu]at hd
theorem Lf{P:Program}{st:St}(o:Oper)(t:TypeId)(x:Operand)(d:Nat)(xs:List (PV×Option Pos))(ho:o.op=.box t x)(hd:o.dst=some d)(U:gc st x)(V:mv st x=.agl xs)(c:∀(j:Nat)(y:PV)(s:Nat),xs[j]?=some (y,some (.slot s))->(look st.t s).isOwn=true)(B:bH ((xs.filter λy=>y.2.isNone).map (·.1))=true)(hin:(mu st.h.length xs 0 (st.grow ((xs.map (·.1)).map .pv))).2)(H:∀(y:PV)(p:Pos),(y,some p)∈xs->∃s,p=.slot s){N:Nat}(S:d<N):
 ∀g a w,g.N=N->Sim g st a w->∃v w' g',(execOp a.eval o).run P w=.ok (.value v) w'∧g.to g'∧Sim g' ((mu st.h.length xs 0 (st.grow ((xs.map (·.1)).map .pv))).1.put d (.pv (.ptr st.h.length 0))) (a.put o.dst v) w':=by
 intro g a w E h;obtain⟨M,m⟩:=aN h x U;rw[V]at M m;obtain⟨_,vs,O,k⟩:=M;obtain⟨bl,T⟩:=h.own;have i:∀(j:Nat)(y:PV)(s:Nat),xs[j]?=some (y,some (.slot s))->vs[j]?=some (a.tmps.getD s undef):=λj y s hj=>by
  obtain⟨aa,f,C⟩:=m j y (.slot s) hj (c j y s hj);rw[O]at f;cases f;exact C
 have D:∀u∈vs.toList,u.oneCell'=true:=by
  intro u W;obtain⟨j,hj⟩:=UN.1 W;have r:=k.length;have F:j<xs.length:=by
   have:=(SQ.1 hj).1;rw[r,S7]at this;exact this
  obtain⟨L,J⟩:∃L,xs[j]?=some L:=⟨xs[j],SR F⟩;obtain⟨y,q⟩:=L;have b:xs[j]?=some (y,q):=J;cases q with
  |none=>
   obtain⟨v',f,C⟩:=k.get j y (by rw[Tm,b];rfl);rw[hj]at f;cases f;have K:y.one=true:=by
    have A:y∈(xs.filter λy=>y.2.isNone).map (·.1):=S8.2 ⟨(y,none),TJ.2 ⟨Ud b,rfl⟩,rfl⟩;have:∀(l:List PV),bH l=true->∀z∈l,z.one=true:=λl=>by
     induction l with
     |nil=>intro _ z hz;cases hz
     |cons z0 l X=>
      intro G z hz;simp only[bH,S9]at G;rcases Tx.1 hz with rfl|hz
      .exact G.1
      .exact X G.2 z hz
    exact this _ B y A
   exact wN K C
  |some p=>
   obtain⟨s,rfl⟩:=H y p (Ud b);have f:=i j y s b;rw[S4]at hj;rw[hj]at f;cases f;exact(iC (c j y s b) (T.slots s)).2
 have e:(a.eval x).cells=vs:=by rw[O];rfl
 obtain⟨g2,R,l2,Y,Q,Z⟩:=h.blockNew (xs.map (·.1)) vs t k D;have I:∀j v,vs[j]?=some v->an g2 a (w.alloc (.cells vs t)) (.cell st.h.length j)=v:=λj v hj=>by
  simp only[an,←h.n,Q,heap_alloc_new];simp[Tg,hj]
 have s3 := rV xs 0 Z hin (by simp [St.grow]) (by simp [St.grow]) (λ j y s hj => by
  rw[T4];exact I j _ (i j y s hj))
 refine⟨.pointer (some ⟨w.heap.size,0,none⟩),w.alloc (.cells vs t),g2,?_,R,?_⟩
 .simp[execOp,ho,Instr.box,newVar,newRow,e]
 .rw[hd];refine s3.put (by rw[R.N,E];exact S) ⟨rfl,?_,?_⟩ trivial rfl
  .rw[Y,←h.n];omega
  .rw[←h.n,Q]
/-! ### What a walk asks -/
def wT(st:St)(x y:Operand):Option (St×Prop):=
 match mv st y,mv st x with
 |.al (.slot s),.pv (.ptr b off)=>if(look st.t s).isOwn=true then some (jO st s b off,gc st y∧gc st x∧off<(st.h.getD b []).length)else none
 |.loc (.cell b' k') lo hi,.pv (.ptr b off)=>if lo=0∧b'=b∧k'=off then
  match aa st (.cell b off)with
  |.own nw e rows=>some (⟨aG (aJ b off 1) st.t,st.h.set b ((st.h.getD b []).set off (.own nw e (rows.take hi)))⟩,gc st y∧gc st x)
  |_=>none
  else none
 |_,_=>none
theorem Fv{P:Program}{st st':St}{x y:Operand}{ok:Prop}(c:wT st x y=some (st',ok))(d:ok)(o:Oper)(t:TypeId){h:Bool}(ho:o.op=.store t x y)(i:aI P t=some (h,1)):
 ∀g a w,Sim g st a w->∃w' g',(execOp a.eval o).run P w=.ok .skip w'∧g.to g'∧Sim g' st' a w':=by
 unfold wT at c;split at c
 .rename_i s b off hy hx;split at c
  .rename_i f;simp only[TF,UH]at c;obtain⟨rfl,rfl⟩:=c;exact Bv o t x y b off s h ho i hy d.1 f hx d.2.1 d.2.2
  .cases c
 .rename_i b' k' lo hi b off hy hx;split at c
  .rename_i j;obtain⟨rfl,rfl,rfl⟩:=j;split at c
   .rename_i nw e rows hp;simp only[TF,UH]at c;obtain⟨rfl,rfl⟩:=c;exact Fu o t x y _ _ hi nw e rows h ho i hy d.1 hp hx d.2
   .cases c
  .cases c
 .cases c
/-! ### A struct with a part of its own, stored into a new block -/
def wU:List (PV×Option Pos)->Bool
 |[]=>true
 |(_,none)::r=>wU r
 |(_,some _)::_=>false
def mw:List (PV×Option Pos)->Option (Nat×Nat×Nat)
 |[]=>none
 |(_,none)::r=>match mw r with
  |some (k,b,c)=>some (k+1,b,c)
  |none=>none
 |(_,some (.cell b c))::r=>if wU r=true then some (0,b,c)else none
 |(_,some (.slot _))::_=>none
theorem vk:∀{xs:List (PV×Option Pos)},wU xs=true->∀(j:Nat)(y:PV)(p:Pos),xs[j]?≠some (y,some p)
 |[],_,j,y,p,h=>by simp at h
 |(x,none)::r,hn,0,y,p,h=>by simp at h
 |(x,none)::r,hn,j+1,y,p,h=>vk (xs:=r) hn j y p (by simpa using h)
 |(x,some _)::r,hn,_,_,_,_=>by cases hn
theorem vl:∀{xs:List (PV×Option Pos)}{k b c:Nat},mw xs=some (k,b,c)->(∃x,xs[k]?=some (x,some (.cell b c)))∧∀(j:Nat)(y:PV)(p:Pos),xs[j]?=some (y,some p)->j=k∧p=.cell b c
 |[],k,b,c,h=>by cases h
 |(x,none)::r,k,b,c,h=>by
  simp only[mw]at h;cases a:mw r with
  |none=>rw[a]at h;cases h
  |some q=>
   obtain⟨g,b2,c2⟩:=q;rw[a]at h;simp only[TF,UH]at h;obtain⟨rfl,rfl,rfl⟩:=h;obtain⟨⟨y,hy⟩,e⟩:=vl a;refine⟨⟨y,by simpa using hy⟩,λj z p hj=>?_⟩;cases j with
   |zero=>simp at hj
   |succ j=>obtain⟨f,d⟩:=e j z p (by simpa using hj);exact⟨by omega,d⟩
 |(x,some (.cell b2 c2))::r,k,b,c,h=>by
  simp only[mw]at h;split at h
  .rename_i hn;simp only[TF,UH]at h;obtain⟨rfl,rfl,rfl⟩:=h;refine⟨⟨x,rfl⟩,λj z p hj=>?_⟩;cases j with
   |zero=>simp at hj;exact⟨rfl,hj.2.symm⟩
   |succ j=>exact absurd (by simpa using hj) (vk hn j z p)
  .cases h
 |(x,some (.slot _))::r,k,b,c,h=>by cases h
def carry(st:St)(b' k' b k:Nat):St:=⟨aG (aJ b k 1) st.t,(st.h.set b' ((st.h.getD b' []).set k' (.pv .bot))).set b (((st.h.set b' ((st.h.getD b' []).set k' (.pv .bot))).getD b []).set k (aa st (.cell b' k')))⟩
theorem Sim.carry{g:Gh}{st:St}{a:Act}{w:World}(h:Sim g st a w){b' k' b k:Nat}(ho:(aa st (.cell b' k')).isOwn=true)(e:b'≠b)(p:b<st.h.length)(hk:k<(st.h.getD b []).length)(x:an g a w (.cell b k)=an g a w (.cell b' k')):
 Sim g (AX.carry st b' k' b k) a w:=by
 obtain⟨bl,i⟩:=h.own;obtain⟨h1,u,m,_,_,d⟩:=h.drop i (.cell b' k');have n:(st.h.set b' ((st.h.getD b' []).set k' (.pv .bot))).getD b []=st.h.getD b []:=by
  rw[SS,Tz,SU e,SS]
 have j:st.h[b']?=some (st.h.getD b' []):=by
  cases f:st.h[b']?with
  |some xs=>simp[List.getD,f]
  |none=>simp only[aa,List.getD,f]at ho;cases ho
 have q:(st.h.getD b' [])[k']?=some (aa st (.cell b' k')):=by
  cases f:(st.h.getD b' [])[k']?with
  |some z=>simp only[aa];rw[SS (l:=st.h.getD b' []),f];rfl
  |none=>
   simp only[aa]at ho;rw[SS (l:=st.h.getD b' []),f]at ho;cases ho
 obtain⟨arr,T,c1,c2,c3⟩:=i.blocks b' _ j;have hs:=(c3 k' _ q).2;have r:an g a w (.cell b' k')=arr.getD k' undef:=by simp only[an,c1]
 have s:(setPos st (.cell b' k') (.pv .bot)).h[b]?=some (st.h.getD b []):=by
  simp only[setPos];rw[Tz,SU e,SS,SR p];rfl
 obtain⟨v,_⟩:=h1.adopt m s hk (sv:=aa st (.cell b' k')) (o:=bl (.cell b' k')) (by rw[x,r];exact hs) ho (λc t=>⟨(i.free _ c t).2.2.1,d c t⟩);unfold AX.carry;rw[n];exact v
theorem Lg{g:Gh}{st:St}{a:Act}{w:World}{bl:Pos->Option Nat}(f:Owns g st a w bl):∀{p:Pos},(aa st p).isOwn=true->(an g a w p).oneCell'=true
 |.slot s,ho=>(iC ho (f.slots s)).2
 |.cell b' k',ho=>by
  have c:st.h[b']?=some (st.h.getD b' []):=by
   cases b:st.h[b']?with
   |some xs=>simp[List.getD,b]
   |none=>simp only[aa,List.getD,b]at ho;cases ho
  have d:(st.h.getD b' [])[k']?=some (aa st (.cell b' k')):=by
   cases b:(st.h.getD b' [])[k']?with
   |some z=>simp only[aa];rw[SS (l:=st.h.getD b' []),b];rfl
   |none=>
    simp only[aa]at ho;rw[SS (l:=st.h.getD b' []),b]at ho;cases ho
  obtain⟨arr',T',c1,c2,c3⟩:=f.blocks b' _ c;have e:an g a w (.cell b' k')=arr'.getD k' undef:=by simp only[an,c1]
  rw[e];exact(iC ho (c3 k' _ d).2).2
theorem sJ{P:Program}{st:St}(o:Oper)(t:TypeId)(x y:Operand)(b:Nat)(xs:List (PV×Option Pos))(ag:Bool)(ho:o.op=.store t x y)(H:aI P t=some (ag,xs.length))(hy:mv st y=.agl xs)(U:gc st y)
 (hx:mv st x=.pv (.ptr b 0)) (S:gc st x) (f:(st.h.getD b []).length=xs.length) (i:∀(j:Nat)(y:PV)(p:Pos),xs[j]?=some (y,some p)->(aa st p).isOwn=true) (J:bH ((xs.filter λy=>y.2.isNone).map (·.1))=true) {g:Gh} {a:Act} {w:World} (h:Sim g st a w):
 ∃vs:Array Value,b<st.h.length∧(execOp a.eval o).run P w=.ok .skip (w.setRow (g.μ b) vs)∧Sim g ⟨aG (aJ b 0 xs.length) st.t,st.h.set b ((xs.map (·.1)).map .pv)⟩ a (w.setRow (g.μ b) vs)∧
  (∀j v,vs[j]?=some v->an g a (w.setRow (g.μ b) vs) (.cell b j)=v)∧(∀(j:Nat)(y:PV)(p:Pos),xs[j]?=some (y,some p)->vs[j]?=some (an g a w p))∧
  ∀b' k',b'≠b->b'<st.h.length->an g a (w.setRow (g.μ b) vs) (.cell b' k')=an g a w (.cell b' k'):=by
 obtain⟨F,_⟩:=aN h x S;rw[hx]at F;obtain⟨_,C,Z⟩:=F;obtain⟨G,B⟩:=aN h y U;rw[hy]at G B;obtain⟨_,vs,L,m⟩:=G;have N:∀(j:Nat)(y:PV)(p:Pos),xs[j]?=some (y,some p)->vs[j]?=some (an g a w p):=λj x0 p hj=>by
  obtain⟨ad,s,N⟩:=B j x0 p hj (i j x0 p hj);rw[L]at s;cases s;exact N
 have E:b<st.h.length:=h.n▸C;have D:st.h[b]?=some (st.h.getD b []):=by simp[List.getD,SR E]
 obtain⟨bl,Q⟩:=h.own;obtain⟨arr,T,M,⟨a2,_⟩,_⟩:=Q.blocks b _ D;have r:vs.toList.length=xs.length:=by rw[m.length,S7]
 have A:∀u∈vs.toList,u.oneCell'=true:=by
  intro u hu;obtain⟨j,hj⟩:=UN.1 hu;have V:j<xs.length:=by
   have:=(SQ.1 hj).1;rw[r]at this;exact this
  obtain⟨yq,k⟩:∃yq,xs[j]?=some yq:=⟨xs[j],SR V⟩;obtain⟨y,q⟩:=yq;cases q with
  |none=>
   obtain⟨v',s,e3⟩:=m.get j y (by rw[Tm,k];rfl);rw[hj]at s;cases s;have I:y∈(xs.filter λy=>y.2.isNone).map (·.1):=S8.2 ⟨(y,none),TJ.2 ⟨Ud k,rfl⟩,rfl⟩;have:∀(l:List PV),bH l=true->∀z∈l,z.one=true:=λl=>by
    induction l with
    |nil=>intro _ z hz;cases hz
    |cons z0 l ih=>
     intro H z hz;simp only[bH,S9]at H;rcases Tx.1 hz with rfl|hz
     .exact H.1
     .exact ih H.2 z hz
   exact wN (this _ J y I) e3
  |some p=>
   rw[S4,N j y p k]at hj;cases hj
   exact Lg Q (i j y p k)
 have d:(a.eval y).cells=vs:=by rw[L];rfl
 have X:=dW w H (a.eval y) (by rw[d,←TR,r]) (g.μ b) 0 T arr M (by rw[a2,f];omega) (by rw[d];exact A);rw[d]at X;obtain⟨O,ab⟩:=h.blockWriteO Q (w':=w.setRow (g.μ b) (splice arr.toList 0 vs.toList).toArray) (k0:=0) (ys:=xs.map (·.1)) (vs:=vs.toList) (arr':=(splice arr.toList 0 vs.toList).toArray) D (by rw[S7,f];omega) M m A rfl (size_setRow _ _ _) (λc hc=>setRow_other w _ c _ hc) ⟨T,setRow_heap w _ arr _ T _ M⟩ (by simp);have Y:splice (st.h.getD b []) 0 ((xs.map (·.1)).map SV.pv)=(xs.map (·.1)).map SV.pv:=by
  unfold splice;rw[WO,TI,Tq (by rw[S7,S7,f];omega),Ut]
 rw[Y,S7]at O;have K:(splice arr.toList 0 vs.toList).toArray=vs:=by
  apply UJ;show splice arr.toList 0 vs.toList=vs.toList;unfold splice;rw[WO,TI,Tq (by rw[TR,a2,f,r];omega),Ut]
 rw[K]at O X;refine⟨vs,E,?_,O,λj v hj=>?_,N,λb' k' W R=>?_⟩
 .simp only[execOp,ho,Z,Instr.storeAt,Instr.sureAddr,Sem.run_bind,Sem.run_pure,Result.andThen_ok,X]
 .simp only[an,setRow_heap w _ arr _ T _ M];rw[Tg,hj];rfl
 .have hμ:g.μ b'≠g.μ b:=λe=>W (h.μinj b' b (by rw[h.n];exact R) C e);simp only[an];rw[setRow_other w _ _ _ hμ]
theorem Fw{P:Program}{st:St}(o:Oper)(t:TypeId)(x y:Operand)(b b' k k':Nat)(xs:List (PV×Option Pos))(v:Bool)(ho:o.op=.store t x y)(B:aI P t=some (v,xs.length))(hy:mv st y=.agl xs)(s:gc st y)
 (hx:mv st x=.pv (.ptr b 0)) (r:gc st x) (m:(st.h.getD b []).length=xs.length) (hp:mw xs=some (k,b',k')) (d:b'≠b) (c:(aa st (.cell b' k')).isOwn=true) (n:bH ((xs.filter λy=>y.2.isNone).map (·.1))=true):
 ∀g a w,Sim g st a w->∃w' g',(execOp a.eval o).run P w=.ok .skip w'∧g.to g'∧Sim g' (AX.carry ⟨aG (aJ b 0 xs.length) st.t,st.h.set b ((xs.map (·.1)).map .pv)⟩ b' k' b k) a w':=by
 intro g a w h;obtain⟨⟨E,i⟩,e⟩:=vl hp;obtain⟨vs,f,C,z,D,A,hk⟩:=sJ (P:=P) o t x y b xs v ho B hy s hx r m (λj y p hj=>by obtain⟨_,rfl⟩:=e j y p hj;exact c) n h;have q:b'<st.h.length:=by
  apply VK;intro hle;simp only[aa,SS (l:=st.h),TL hle]at c;cases c
 have u:aa ⟨aG (aJ b 0 xs.length) st.t,st.h.set b ((xs.map (·.1)).map .pv)⟩ (.cell b' k')=aa st (.cell b' k'):=by
  simp only[aa];rw[SS (l:=st.h.set b _),Tz,SU (VC d),SS (l:=st.h)]
 refine⟨_,g,C,h.refl_to,z.carry (by rw[u];exact c) d (by simpa using f) ?_ ?_⟩
 .have:k<xs.length:=(SQ.1 i).1;rw[SS,Tz,SX rfl,SX f];simpa using this
 .rw[D k _ (A k E _ i),hk b' k' d q]
theorem BC{P:Program}{st:St}(o:Oper)(t:TypeId)(x y:Operand)(b:Nat)(xs:List (PV×Option Pos))(m:Bool)(ho:o.op=.store t x y)(r:aI P t=some (m,xs.length))(hy:mv st y=.agl xs)(k:gc st y)
 (hx:mv st x=.pv (.ptr b 0)) (i:gc st x) (d:(st.h.getD b []).length=xs.length) (f:∀(j:Nat)(y:PV)(s:Nat),xs[j]?=some (y,some (.slot s))->(look st.t s).isOwn=true) (l:∀(y:PV)(p:Pos),(y,some p)∈xs->∃s,p=.slot s) (e:bH ((xs.filter λy=>y.2.isNone).map (·.1))=true)
 (hin:(mu b xs 0 ⟨aG (aJ b 0 xs.length) st.t,st.h.set b ((xs.map (·.1)).map .pv)⟩).2):
 ∀g a w,Sim g st a w->∃w' g',(execOp a.eval o).run P w=.ok .skip w'∧g.to g'∧Sim g' (mu b xs 0 ⟨aG (aJ b 0 xs.length) st.t,st.h.set b ((xs.map (·.1)).map .pv)⟩).1 a w':=by
 intro g a w h;obtain⟨vs,c,u,n,v,q,hk⟩:=sJ (P:=P) o t x y b xs m ho r hy k hx i d (λj y p hj=>by obtain⟨s,rfl⟩:=l y p (Ud hj);exact f j y s hj) e h;refine⟨_,g,u,h.refl_to,rV xs 0 n hin (by simpa using c) ?_ λj y s hj=>?_⟩
 .simp only;rw[SS,Tz,SX rfl,SX c];simp
 .rw[T4,v j _ (q j y _ hj)];rfl
def Dy(xs:List (PV×Option Pos)):Bool:=xs.any λz=>z.2.isSome
def yC(st:St):List (PV×Option Pos)->Prop
 |[]=>True
 |(_,some (.slot s))::r=>(look st.t s).isOwn=true∧yC st r
 |(_,some (.cell _ _))::_=>False
 |(x,none)::r=>x.one=true∧yC st r
theorem lg{st:St}:∀{xs:List (PV×Option Pos)},yC st xs->∀(j:Nat)(y:PV)(s:Nat),xs[j]?=some (y,some (.slot s))->(look st.t s).isOwn=true
 |[],_,j,y,s,h=>by simp at h
 |(x,some (.slot s'))::r,ho,0,y,s,h=>by simp at h;rw[←h.2];exact ho.1
 |(x,some (.slot s'))::r,ho,j+1,y,s,h=>lg ho.2 j y s (by simpa using h)
 |(x,some (.cell _ _))::r,ho,_,y,s,h=>ho.elim
 |(x,none)::r,ho,0,y,s,h=>by simp at h
 |(x,none)::r,ho,j+1,y,s,h=>lg ho.2 j y s (by simpa using h)
theorem rW{st:St}:∀{xs:List (PV×Option Pos)},yC st xs->∀(y:PV)(p:Pos),(y,some p)∈xs->∃s,p=.slot s
 |[],_,y,p,h=>by cases h
 |(x,some (.slot s'))::r,ho,y,p,h=>by
  rcases Tx.1 h with e|h
  .cases e;exact⟨_,rfl⟩
  .exact rW ho.2 y p h
 |(x,some (.cell _ _))::r,ho,_,_,h=>ho.elim
 |(x,none)::r,ho,y,p,h=>by
  rcases Tx.1 h with e|h
  .cases e
  .exact rW ho.2 y p h
theorem pi{st:St}:∀{xs:List (PV×Option Pos)},yC st xs->bH ((xs.filter λy=>y.2.isNone).map (·.1))=true
 |[],_=>rfl
 |(x,some (.slot s'))::r,ho=>by simpa using pi ho.2
 |(x,some (.cell _ _))::r,ho=>ho.elim
 |(x,none)::r,ho=>by
  have:=pi ho.2;simp only[TO,Option.isNone_none,UU,Tn,bH,S9];exact⟨ho.1,this⟩
def wV(st:St)(x y:Operand):Option (St×Nat×Prop):=
 match mv st y,mv st x with
 |.agl xs,.pv (.ptr b 0)=>match mw xs with
  |some (k,b',k')=>if b=b'+1∧b+1=st.h.length then
   some (carry ⟨aG (aJ b 0 xs.length) st.t, st.h.set b ((xs.map (·.1)).map .pv)⟩ b' k' b k, xs.length,
    gc st y∧gc st x∧(st.h.getD b []).length=xs.length∧(aa st (.cell b' k')).isOwn=true∧bH ((xs.filter λy=>y.2.isNone).map (·.1))=true)
   else none
  |none=>if Dy xs=true∧b+1=st.h.length then
   some ((mu b xs 0 ⟨aG (aJ b 0 xs.length) st.t, st.h.set b ((xs.map (·.1)).map .pv)⟩).1, xs.length,
    gc st y∧gc st x∧(st.h.getD b []).length=xs.length∧yC st xs∧(mu b xs 0 ⟨aG (aJ b 0 xs.length) st.t,st.h.set b ((xs.map (·.1)).map .pv)⟩).2)
   else none
 |_,_=>none
theorem Fx{P:Program}{st st':St}{x y:Operand}{n:Nat}{ok:Prop}(d:wV st x y=some (st',n,ok))(c:ok)(o:Oper)(t:TypeId){e:Bool}(ho:o.op=.store t x y)(f:aI P t=some (e,n)):
 ∀g a w,Sim g st a w->∃w' g',(execOp a.eval o).run P w=.ok .skip w'∧g.to g'∧Sim g' st' a w':=by
 unfold wV at d;split at d
 .rename_i xs b hy hx;split at d
  .rename_i k b' k' hp;split at d
   .rename_i h;simp only[TF,UH]at d;obtain⟨rfl,rfl,rfl⟩:=d;exact Fw o t x y b b' k k' xs e ho f hy c.1 hx c.2.1 c.2.2.1 hp (by omega) c.2.2.2.1 c.2.2.2.2
   .cases d
  .split at d
   .rename_i h;simp only[TF,UH]at d;obtain⟨rfl,rfl,rfl⟩:=d;exact BC o t x y b xs e ho f hy c.1 hx c.2.1 c.2.2.1 (lg c.2.2.2.1) (rW c.2.2.2.1) (pi c.2.2.2.1) c.2.2.2.2
   .cases d
 .cases d
def Dz(st:St)(s d:Nat):Option St:=
 match look st.t s with
 |.loc (.slot d') lo hi=>if d'=d∧lo=0 then
  match look st.t d with
  |.own nw e rows=>some ⟨(d,.own nw e (rows.take hi))::aG (cX d) st.t,st.h⟩
  |_=>none
  else none
 |_=>none
theorem Ht{P:Program}{st st':St}{s d:Nat}(b:Dz st s d=some st')(o:Oper)(ho:o.op=.assign (.tmp s))(hd:o.dst=some d){N:Nat}(c:d<N):
 ∀g a w,g.N=N->Sim g st a w->∃v w' g',(execOp a.eval o).run P w=.ok (.value v) w'∧g.to g'∧Sim g' st' (a.put o.dst v) w':=by
 unfold Dz at b;split at b
 .rename_i d' lo hi hs;split at b
  .rename_i f;obtain⟨rfl,rfl⟩:=f;split at b
   .rename_i nw e rows hp;cases b
    exact Bw o s _ hi nw e rows ho hd hs hp c
   .cases b
  .cases b
 .cases b
def jg:List Oper->Option Nat->Bool
 |[],_=>false
 | o :: r, d => (match o.op, d with
  |.box _ (.tmp s),some d=>s==d
  |_,_=>false)||jg r d
def wW(st:St):List (Nat×Operand)->Bool
 |[]=>false
 | (_, x) :: r => (match mv st x with
  |.al p=>(aa st p).isOwn
  |_=>false)||wW st r
end Go.AX