/-
  AX, part W: maps that are made and written; slices that are made of zeros.
  AX, part U: what is owned moves: into cells of blocks; it is cut short; structs are made of it.
-/
import Derived.Test.YtepodadinenmnaaGreatAxI
import Derived.MapKept
import Derived.Carry
import Derived.Laws.MakeOwn
namespace Go.AX
def gt:List (Int×PV)->Int->PV->List (Int×PV)
 |[],n,y=>[(n,y)]
 |(k,x)::r,n,y=>if k=n then(k,y)::r else(k,x)::gt r n y
theorem zM{g:Gh}{kk:IntKind}{n:Int}:∀{es:List (Int×PV)}{en:List MapEntry}(_:bn g es en)(j:Nat),
 ∃ r, Instr.findNow (.int kk) (.int .i64 n) en j = some r ∧ (r = none ∧ (∀ m ∈ en, m.key ≠ .int .i64 n) ∧ (∀ y u born, Fit g y u -> bn g (gt es n y) (en ++ [{ key := .int .i64 n, val := u, born := born }])) ∨
  ∃i m,r=some (j+i,m.val)∧en[i]?=some m∧m.key=.int .i64 n∧∀y u,Fit g y u->bn g (gt es n y) (en.set i {m with key:=.int .i64 n,val:=u}))
 |[],en,h,j=>by
  simp only[bn]at h;subst h;exact⟨none,rfl,.inl ⟨rfl,by simp,λy u born hy=>⟨_,_,rfl,rfl,hy,rfl⟩⟩⟩
 |(k,x)::es,en,⟨m,r,h1,b,d,f⟩,j=>by
  subst h1;simp only[Instr.findNow,b,Instr.sameNow,PT]
  by_cases hk:k=n
  .subst hk;simp only[Rh];refine⟨_,rfl,.inr ⟨0,m,rfl,rfl,b,λy u hy=>?_⟩⟩;simp only[gt,PT,Rz];exact⟨_,_,rfl,rfl,hy,f⟩
  .have t:(n==k)=false:=by simp;exactλe=>hk e.symm
   simp only[t];obtain⟨z,o,c⟩:=zM (n:=n) f (j+1);refine⟨z,o,?_⟩;rcases c with⟨rfl,l,c⟩|⟨i,v,rfl,p,q,s⟩
   .refine .inl ⟨rfl,λw a=>?_,λy u born hy=>?_⟩
    .rcases OB.1 a with rfl|a
     .rw[b];intro e;cases e;exact hk rfl
     .exact l w a
    simp only[gt,N8 hk];exact⟨m,_,rfl,b,d,c y u born hy⟩
   .refine .inr ⟨i+1,v,by rw[Qd,Sx 1 i],by simpa using p,q,λy u hy=>?_⟩;simp only[gt,N8 hk,List.set_cons_succ];exact⟨m,_,rfl,b,d,s y u hy⟩
theorem tN(k:IntKind)(n:Int):Instr.sameBits 10000 (.int k n) (.int k n)=true:=by
 show Instr.sameBits (9999+1) _ _=true;simp[Instr.sameBits]
def jV(P:Program)(t:TypeId):Bool:=
 match P.underlying t with
 |some (.map k _)=>match P.underlying k with
  |some (.int _)=>true
  |_=>false
 |_=>false
theorem mg{P:Program}{st:St}(o:Oper)(t:TypeId)(m k x:Operand)(p:Pos)(nw:Bool)(es:List (Int×PV))(ho:o.op=.mapUpdate t m k x∨o.op=.insert t m k x)(ht:jV P t=true)
 (C:(bO st x).2.2) (H:gc (bO st x).2.1 m) (Z:mv (bO st x).2.1 m=.al p) (hp:aa (bO st x).2.1 p=.omap nw es) (G:gc (bO st x).2.1 k) (hk:fp (mv (bO st x).2.1 k)) (J:fo (mv (bO st x).2.1 k)=.i64):
 ∀g a w,Sim g st a w->∃w' g',(execOp a.eval o).run P w=.ok .skip w'∧g.to g'∧Sim g' (setPos (bO st x).2.1 p (.omap nw (gt es (aP (mv (bO st x).2.1 k)) (bO st x).1))) a w':=by
 intro g a w h;have v:execOp a.eval o=execOp a.eval {o with op:=.mapUpdate t m k x}:=by
  rcases ho with ho|ho<;>simp only[execOp,ho]
 obtain⟨B,t1,l1,n1,E,Q⟩:=ku h x C;obtain⟨bl,S⟩:=E.own;obtain⟨_,R⟩:=aM E m H;rw[Z]at R;have hv:=R (by rw[hp];rfl);have y:=aW S (p:=p) (by rw[hp];rfl);rw[hp]at y;obtain⟨c,W,en,ck,O,A,V,F⟩:=y;have s:=bI E G hk;rw[J]at s;unfold jV at ht;split at ht
 case h_2=>cases ht
 rename_i N et T;split at ht
 case h_2=>cases ht
 rename_i kk q;have l:(getObj c).run P w=.ok (.map en ck) w:=MapKept.run_getObj_map A;obtain⟨r,k1,M⟩:=zM (kk:=kk) (n:=aP (mv (bO st x).2.1 k)) V 0;have b:(Instr.findKey N (.int .i64 (aP (mv (bO st x).2.1 k))) en.toList).run P w=.ok r w:=by
  simp only[Instr.findKey,Sem.run_bind,run_underlying q,Result.andThen_ok,k1,Sem.run_pure]
 have K:=(Oh.1 A).1;have fin:∀(d:Array MapEntry)(f:Nat),MapKept.Stamped d f->bn B (gt es (aP (mv (bO st x).2.1 k)) (bO st x).1) d.toList->
  Sim B (setPos (bO st x).2.1 p (.omap nw (gt es (aP (mv (bO st x).2.1 k)) (bO st x).1))) a {w with heap:=w.heap.setIfInBounds c (.map d f)}:=by
  intro d f L X;refine E.ownWrite S (by rw[hp];rfl) W rfl (by simp) (λj hj=>?_) ⟨c,rfl,d,f,O,?_,X,F.1,L⟩ rfl (λ_ _ _ Y=>by cases Y)
  .show(w.heap.setIfInBounds c _)[j]?=_;rw[RH (QZ hj)]
  .show(w.heap.setIfInBounds c _)[c]?=_;simp[K]
 have u:a.eval m=.map (some c):=hv.trans O;rcases M with⟨rfl,k0,M⟩|⟨i,me,rfl,D,U,k5⟩
 .refine⟨_,B,?_,t1,fin (en.push {key:=.int .i64 (aP (mv (bO st x).2.1 k)),val:=a.eval x,born:=ck}) (ck+1) (MapKept.stamped_push F.2 k0) (by rw[Array.toList_push];exact M _ _ _ Q)⟩;rw[v];simp only[execOp,u,s,Instr.mapUpdate,Sem.run_bind,run_underlying T,Result.andThen_ok,l,bX w _ N kk .i64 _ q,b,MapKept.run_setObj_map _ A,Sem.run_pure]
 .rw[O3]at b;refine⟨_,B,?_,t1,fin (en.modify i λe=>{e with key:=.int .i64 (aP (mv (bO st x).2.1 k)),val:=a.eval x}) ck (MapKept.stamped_modify F.2 i _ (λ_ _=>rfl) (λe _ C=>by rw[←Ob,D]at C;cases C;exact U.symm)) ?_⟩
  .have z:((en[i]?).map (·.key)).getD (.int .i64 (aP (mv (bO st x).2.1 k)))=.int .i64 (aP (mv (bO st x).2.1 k)):=by
    rw[←Ob,D];exact U
   rw[v];simp only[execOp,u,s,Instr.mapUpdate,Sem.run_bind,run_underlying T,Result.andThen_ok,l,bX w _ N kk .i64 _ q,b,z,Instr.keyThatStays,tN,PT,Sem.run_pure,MapKept.run_setObj_map _ A]
  .have:(en.modify i λe=>{e with key:=.int .i64 (aP (mv (bO st x).2.1 k)),val:=a.eval x}).toList=en.toList.set i {me with key:=.int .i64 (aP (mv (bO st x).2.1 k)),val:=a.eval x}:=by
    apply Px;intro j;rw[Ob,PP,OD];split
    .rename_i I;subst I;rw[←Ob,D,O2];simp only[N9 (N5.1 D).1]
    .rw[Ob]
   rw[this];exact k5 _ _ Q
/-! ### What is deleted of a map -/
def io(n:Int):List (Int×PV)->List (Int×PV)
 |[]=>[]
 |(k,x)::r=>if k=n then r else(k,x)::io n r
theorem zN{g:Gh}{kk:IntKind}{n:Int}:∀{es:List (Int×PV)}{en:List MapEntry}(_:bn g es en)(j:Nat),
 ∃r,Instr.findNow (.int kk) (.int .i64 n) en j=some r∧(r=none∧bn g (io n es) en∨∃i u,r=some (j+i,u)∧i<en.length∧bn g (io n es) (en.eraseIdx i))
 |[],en,h,j=>by
  simp only[bn]at h;subst h;exact⟨none,rfl,.inl ⟨rfl,rfl⟩⟩
 |(k,x)::es,en,⟨m,r,h1,b,c,d⟩,j=>by
  subst h1;simp only[Instr.findNow,b,Instr.sameNow,PT]
  by_cases hk:k=n
  .subst hk;simp only[Rh];refine⟨_,rfl,.inr ⟨0,m.val,rfl,by simp,?_⟩⟩;simp only[io,PT,List.eraseIdx_cons_zero];exact d
  .have o:(n==k)=false:=by simp;exactλe=>hk e.symm
   simp only[o];obtain⟨p,f,a⟩:=zN (n:=n) d (j+1);refine⟨p,f,?_⟩;simp only[io,N8 hk];rcases a with⟨rfl,a⟩|⟨i,u,rfl,q,l⟩
   .exact .inl ⟨rfl,m,r,rfl,b,c,a⟩
   .refine .inr ⟨i+1,u,by rw[Qd,Sx 1 i],by simp;omega,?_⟩;rw[List.eraseIdx_cons_succ];exact⟨m,_,rfl,b,c,l⟩
theorem xI{P:Program}{st:St}(o:Oper)(t U:TypeId)(m k:Operand)(p:Pos)(nw:Bool)(es:List (Int×PV))(ho:o.op=.call {callee:=.builtin .delete,args:=#[m,k],argTypes:=#[t,U]}) (hd:o.dst=none) (ht:jV P t=true)
 (A:gc st m) (O:mv st m=.al p) (hp:aa st p=.omap nw es) (z:gc st k) (hk:fp (mv st k)) (B:fo (mv st k)=.i64):
 ∀g a w,Sim g st a w->∃v w' g',(execOp a.eval o).run P w=.ok (.value v) w'∧g.to g'∧Sim g' (setPos st p (.omap nw (io (aP (mv st k)) es))) (a.put o.dst v) w':=by
 intro g a w h;obtain⟨bl,I⟩:=h.own;obtain⟨_,H⟩:=aM h m A;rw[O]at H;have Q:=H (by rw[hp];rfl);have s:=aW I (p:=p) (by rw[hp];rfl);rw[hp]at s;obtain⟨c,L,en,ck,G,x,K,y⟩:=s;have l:=bI h z hk;rw[B]at l;unfold jV at ht;split at ht
 case h_2=>cases ht
 rename_i F V J;split at ht
 case h_2=>cases ht
 rename_i kk f;have e:(getObj c).run P w=.ok (.map en ck) w:=MapKept.run_getObj_map x;obtain⟨r,R,E⟩:=zN (kk:=kk) (n:=aP (mv st k)) K 0;have b:(Instr.findKey F (.int .i64 (aP (mv st k))) en.toList).run P w=.ok r w:=by
  simp only[Instr.findKey,Sem.run_bind,run_underlying f,Result.andThen_ok,R,Sem.run_pure]
 have C:=(Oh.1 x).1;have fin:∀d:Array MapEntry,MapKept.Stamped d ck->bn g (io (aP (mv st k)) es) d.toList->
  Sim g (setPos st p (.omap nw (io (aP (mv st k)) es))) a {w with heap:=w.heap.setIfInBounds c (.map d ck)}:=by
  intro d D M;refine h.ownWrite I (by rw[hp];rfl) L rfl (by simp) (λj hj=>?_) ⟨c,rfl,d,ck,G,?_,M,y.1,D⟩ rfl (λ_ _ _ N=>by cases N)
  .show(w.heap.setIfInBounds c _)[j]?=_;rw[RH (QZ hj)]
  .show(w.heap.setIfInBounds c _)[c]?=_;simp[C]
 have q:a.eval m=.map (some c):=Q.trans G;rw[hd];rcases E with⟨rfl,E⟩|⟨i,u,rfl,S,T⟩
 .refine⟨.tuple #[],_,g,?_,h.refl_to,fin en y.2 E⟩;simp[execOp,ho,resolve,invoke,builtin,q,l,Builtin.delete_,run_underlying J,e,bX w _ F kk .i64 _ f,b,MapKept.run_setObj_map _ x]
 .refine⟨.tuple #[],_,g,?_,h.refl_to,fin (en.eraseIdxIfInBounds i) (MapKept.stamped_erase y.2 i) ?_⟩
  .rw[O3]at b;simp[execOp,ho,resolve,invoke,builtin,q,l,Builtin.delete_,run_underlying J,e,bX w _ F kk .i64 _ f,b,MapKept.run_setObj_map _ x]
  .have hi:i<en.size:=by simpa using S
   rw[Array.eraseIdxIfInBounds,dif_pos hi,Array.toList_eraseIdx];exact T
theorem vn{P:Program}{st:St}(o:Oper)(t:TypeId)(d:Nat)(ho:o.op=.makeMap t none)(hd:o.dst=some d){N:Nat}(f:d<N):
 ∀g a w,g.N=N->Sim g st a w->∃v w' g',(execOp a.eval o).run P w=.ok (.value v) w'∧g.to g'∧Sim g' ⟨(d,.omap true [])::aA (cK d) st.t,st.h⟩ (a.put o.dst v) w':=by
 intro g a w i h;obtain⟨bl,e⟩:=h.own;refine⟨.map (some w.heap.size),w.alloc (.map #[] 0),g,?_,h.refl_to,?_⟩
 .simp only[execOp,ho,Qr,Sem.run_bind,Go.RowKit.run_makeMap,Result.andThen_ok,Sem.run_pure]
 .rw[hd];refine h.putOwn e (i▸f) rfl (by simp) (λc b _=>heap_alloc_old w _ b) (o:=some w.heap.size) ⟨w.heap.size,rfl,#[],0,rfl,heap_alloc_new w _,rfl,λ_=>h.B,MapKept.stamped_empty 0⟩ rfl (λc b=>?_);cases b
  exact⟨by simp,h.fresh e (Oc _)⟩
def xJ(st:St):Option Operand->Prop
 |none=>True
 |some x=>gc st x∧fp (mv st x)
theorem tO{P:Program}{st:St}(o:Oper)(t:TypeId)(r:Option Operand)(d:Nat)(ho:o.op=.makeMap t r)(hd:o.dst=some d)(f:jV P t=true)(m:xJ st r){N:Nat}(i:d<N):
 ∀g a w,g.N=N->Sim g st a w->∃v w' g',(execOp a.eval o).run P w=.ok (.value v) w'∧g.to g'∧Sim g' ⟨(d,.omap true [])::aA (cK d) st.t,st.h⟩ (a.put o.dst v) w':=by
 intro g a w l h;cases r with
 |none=>exact vn o t d ho hd i g a w l h
 |some x=>
  obtain⟨bl,j⟩:=h.own;unfold jV at f;split at f
  case h_2=>cases f
  rename_i k e n;refine⟨.map (some w.heap.size),w.alloc (.map #[] 0),g,?_,h.refl_to,?_⟩
  .simp only[execOp,ho,O2,Sem.run_bind,bI h m.1 m.2,Instr.makeMap,run_underlying n,Result.andThen_ok,asInt,asIntOf,Sem.run_pure];rfl
  .rw[hd];refine h.putOwn j (l▸i) rfl (by simp) (λc b _=>heap_alloc_old w _ b) (o:=some w.heap.size) ⟨w.heap.size,rfl,#[],0,rfl,heap_alloc_new w _,rfl,λ_=>h.B,MapKept.stamped_empty 0⟩ rfl (λc b=>?_);cases b
   exact⟨by simp,h.fresh j (Oc _)⟩
/-! ### A part of a block is cleared -/
def mK:List PV->Bool
 |[]=>true
 |.lit v::r=>v.oneCell'&&mK r
 |_=>false
def xK(P:Program)(st:St)(t:TypeId)(x:Operand)(K:St->Prop):Prop:=
 match mv st x,df P t with
 |.pv (.bsl b 1 off n _),some [.lit z]=>gc st x∧z.cells=#[z]∧z.oneCell'=true∧0<n∧off+n<=(st.h.getD b []).length∧
  K ⟨aA (aD b off n) st.t,st.h.set b (splice (st.h.getD b []) off (List.replicate n (.pv (.lit z))))⟩
 |.pv (.bsl b e off n _),some zs=>gc st x∧mK zs=true∧zs.length=e∧0<e∧0<n∧off+n*e<=(st.h.getD b []).length∧
  K ⟨aA (aD b off (n*e)) st.t,st.h.set b (splice (st.h.getD b []) off (List.replicate n (zs.map .pv)).flatten)⟩
 |_,_=>False
theorem su:∀{zs:List PV},mK zs=true->∃vs:List Value,zs=vs.map .lit∧∀v∈vs,v.oneCell'=true
 |[],_=>⟨[],rfl,by simp⟩
 |x::r,h=>by
  cases x with
  |lit v=>
   simp only[mK,Og]at h;obtain⟨vs,e,h1⟩:=su h.2;exact⟨v::vs,by rw[e];rfl,λu a=>by
    rcases OB.1 a with rfl|a
    .exact h.1
    .exact h1 u a⟩
  |_=>simp[mK]at h
theorem oX:∀{a b:List Value},a.map PV.lit=b.map PV.lit->a=b
 |[],[],_=>rfl
 |[],_::_,h=>by simp at h
 |_::_,[],h=>by simp at h
 |x::a,y::b,h=>by
  simp only[Ow,Ql,PV.lit.injEq]at h;rw[h.1,oX h.2]
theorem kz(z:Array Value):∀n,(Builtin.zeroCells z n).toList=(List.replicate n z.toList).flatten
 |0=>by simp[Builtin.zeroCells]
 |n+1=>by
  have a:=kz z n;simp only[Builtin.zeroCells,Rj,Array.toList_range]at a⊢;rw[PO,List.range_add,OJ,a,SF,Rp];congr 1;simp only[QP,List.flatten_nil,Pt];apply Qw
  .simp
  .intro i h1 b;have hi:i<z.size:=by simpa using b
   simp only[RN,Sb];have c:(n*z.size+i) %z.size=i:=by rw[Nat.mul_comm,Nat.mul_add_mod,RO hi]
   rw[c,QX z i hi];simp
theorem xL{P:Program}{st:St}(o:Oper)(t:TypeId)(x:Operand)(b e off n cap:Nat)(zs:List PV)(ho:o.op=.call {callee:=.builtin .clear,args:=#[x],argTypes:=#[t]}) (hd:o.dst=none)
 (Q:mv st x=.pv (.bsl b e off n cap)) (hz:df P t=some zs) (N:gc st x) (B:mK zs=true) (M:zs.length=e) (h0:0<e) (hn:0<n) (f:off+n*e<=(st.h.getD b []).length):
 ∀g a w,Sim g st a w->∃v w' g',(execOp a.eval o).run P w=.ok (.value v) w'∧g.to g'∧Sim g' ⟨aA (aD b off (n*e)) st.t,st.h.set b (splice (st.h.getD b []) off (List.replicate n (zs.map .pv)).flatten)⟩ (a.put o.dst v) w':=by
 intro g a w h;obtain⟨vs,rfl,h1⟩:=su B;have d:vs.length=e:=by simpa using M
 obtain⟨J,_⟩:=aM h x N;rw[Q]at J;obtain⟨_,y,_,D⟩:=J;have z:b<st.h.length:=h.n▸y;have k:st.h[b]?=some (st.h.getD b []):=by simp[List.getD,N6 z]
 obtain⟨bl,A⟩:=h.own;obtain⟨arr,T,u,⟨K,_⟩,_⟩:=A.blocks b _ k;unfold df at hz;split at hz
 case h_2=>cases hz
 rename_i L R;unfold dM at hz;split at hz
 case h_2=>cases hz
 rename_i U p;simp only[Oy]at hz;obtain⟨z',E,I⟩:=hz;have F:z'.cells.toList=vs:=oX I;have j:((List.replicate n vs).flatten).length=n*e:=by
  rw[SO,Qu,Sv,d]
 have i:∀v∈(List.replicate n vs).flatten,v.oneCell'=true:=λv S=>by
  obtain⟨l,O,d⟩:=List.mem_flatten.1 S;rw[Qv O]at d;exact h1 v d
 have r:(Builtin.clear_ #[t] o.type #[.slice (some ⟨g.μ b,off,none⟩) n cap]).run P w=.ok (.tuple #[]) (w.setRow (g.μ b) (splice arr.toList off (List.replicate n vs).flatten).toArray):=by
  have G:(Builtin.zeroCells z'.cells n).toList=(List.replicate n vs).flatten:=by rw[kz,F]
  have s:=run_storeCells_at P (g.μ b) off T ((List.replicate n vs).flatten) 0 arr w u (by rw[K,j];simpa using f) i;simp only[QF]at s;obtain⟨m,rfl⟩:∃m,n=m+1:=⟨n -1,by omega⟩;have H:(zeroValue L).run P w=.ok z' w:=by simp[zeroValue,typeInfo,p,E]
  simp only[Builtin.clear_];simp[run_underlying R,H,G,s,splice]
 refine⟨.tuple #[],w.setRow (g.μ b) (splice arr.toList off (List.replicate n vs).flatten).toArray,g,?_,h.refl_to,?_⟩
 .simp[execOp,ho,resolve,invoke,builtin,D,r]
 .rw[hd];have C:ah g ((List.replicate n (vs.map PV.lit)).flatten) ((List.replicate n vs).flatten):=by
   have:=dH g ((List.replicate n vs).flatten)
   rwa [List.map_flatten,Qu]at this
  have q:((List.replicate n (vs.map PV.lit)).flatten).length=n*e:=by
   rw[SO,Qu,Sv,Oj,d]
  have:=h.blockWrite (ys:=(List.replicate n (vs.map PV.lit)).flatten) (w':=w.setRow (g.μ b) (splice arr.toList off (List.replicate n vs).flatten).toArray) k (by rw[q];exact f) u C i rfl (size_setRow _ _ _) (λc B=>setRow_other w _ c _ B) ⟨T,setRow_heap w _ arr _ T _ u⟩ (by simp);rw[q,List.map_flatten,Qu]at this;exact this
theorem Bk{P:Program}{st:St}(o:Oper)(t:TypeId)(x:Operand)(b off n cap:Nat)(z:Value)(ho:o.op=.call {callee:=.builtin .clear,args:=#[x],argTypes:=#[t]}) (hd:o.dst=none)
 (O:mv st x=.pv (.bsl b 1 off n cap)) (hz:df P t=some [.lit z]) (N:gc st x) (C:z.cells=#[z]) (h1:z.oneCell'=true) (hn:0<n) (f:off+n<=(st.h.getD b []).length):
 ∀g a w,Sim g st a w->∃v w' g',(execOp a.eval o).run P w=.ok (.value v) w'∧g.to g'∧Sim g' ⟨aA (aD b off n) st.t,st.h.set b (splice (st.h.getD b []) off (List.replicate n (.pv (.lit z))))⟩ (a.put o.dst v) w':=by
 intro g a w h;obtain⟨I,_⟩:=aM h x N;rw[O]at I;obtain⟨_,u,_,F⟩:=I;have A:b<st.h.length:=h.n▸u;have k:st.h[b]?=some (st.h.getD b []):=by simp[List.getD,N6 A]
 obtain⟨bl,B⟩:=h.own;obtain⟨arr,T,s,⟨L,_⟩,_⟩:=B.blocks b _ k;unfold df at hz;split at hz
 case h_2=>cases hz
 rename_i M Q;unfold dM at hz;split at hz
 case h_2=>cases hz
 rename_i S l;simp only[Oy]at hz;obtain⟨z',G,d⟩:=hz;have j:z'=z∨z'.cells=#[z]:=by
  have:z'.cells.toList=[z]:=by
   cases J:z'.cells.toList with
   |nil=>rw[J]at d;simp at d
   |cons y ys=>
    rw[J]at d;simp only[Ow,Ql,PV.lit.injEq,SP]at d;rw[d.1,d.2]
  exact .inr (by apply PX;rw[this])
 have r:z'.cells=#[z]:=j.elim (λe=>e▸C) id;have K:z'.cells.size=1:=by rw[r];rfl
 have p:(Builtin.clear_ #[t] o.type #[.slice (some ⟨g.μ b,off,none⟩) n cap]).run P w=.ok (.tuple #[]) (w.setRow (g.μ b) (splice arr.toList off (List.replicate n z)).toArray):=by
  have H:(Builtin.zeroCells z'.cells n).toList=List.replicate n z:=by
   rw[r];simp[Builtin.zeroCells];apply Qw
   .simp
   .intro i h1 U;simp[Nat.mod_one]
  have q:=run_storeCells_at P (g.μ b) off T (List.replicate n z) 0 arr w s (by rw[L];simpa using f) (by intro v E;rw[Qv E];exact h1);simp only[QF]at q;obtain⟨m,rfl⟩:∃m,n=m+1:=⟨n -1,by omega⟩;have j:(zeroValue M).run P w=.ok z' w:=by simp[zeroValue,typeInfo,l,G]
  simp[Builtin.clear_,run_underlying Q,j,H,q,splice]
 refine⟨.tuple #[],w.setRow (g.μ b) (splice arr.toList off (List.replicate n z)).toArray,g,?_,h.refl_to,?_⟩
 .simp[execOp,ho,resolve,invoke,builtin,F,p]
 .rw[hd];have D:ah g (List.replicate n (.lit z)) (List.replicate n z):=by
   have:=dH g (List.replicate n z)
   rwa [Qu]at this
  have:=h.blockWrite (ys:=List.replicate n (.lit z)) (w':=w.setRow (g.μ b) (splice arr.toList off (List.replicate n z)).toArray) k (by simpa using f) s D (λv R=>by rw[Qv R];exact h1) rfl (size_setRow _ _ _) (λc C=>setRow_other w _ c _ C) ⟨T,setRow_heap w _ arr _ T _ s⟩ (by simp);rw[Qs,Qu]at this;exact this
/-! ### A slice of zeros -/
theorem ot(z:Array Value)(e:Nat)(a:z.size=e):∀k,(madeCells z (k*e)).toList=(List.replicate k z.toList).flatten
 |0=>by simp[madeCells]
 |k+1=>by
  have b:=ot z e a k;simp only[madeCells,Rj,Array.toList_range]at b⊢;rw[PO,List.range_add,OJ,b,SF,Rp];congr 1;simp only[QP,List.flatten_nil,Pt,Pa];apply Px;intro i;simp only[Oq]
  by_cases hi:i<e
  .rw[SI hi];simp only[O2,Function.comp_apply];rw[a,Sx (k*e) i,Nat.add_mul_mod_self_right,RO hi];have:i<z.size:=by omega
   simp[this]
  .rw[ON (by simpa using hi),ON (by simp[a];omega)];rfl
theorem kJ{g:Gh}{e:Nat}{zs:List PV}{a:List Value}(h:ah g zs a)(b:zs.length=e)(ho:∀v∈a,v.oneCell'=true):∀n,av g e (List.replicate n zs) ((List.replicate n a).flatten)
 |0=>rfl
 |n+1=>by
  simp only[Rq,QP];exact⟨a,_,rfl,⟨b,ho⟩,h,kJ h b ho n⟩
theorem rQ{P:Program}{st:St}(o:Oper)(t:TypeId)(x y:Operand)(d e b:Nat)(zs:List PV)(ho:o.op=.makeSlice t x y)(hd:o.dst=some d)(hi:bJ P t=some (e,b))(hz:df P t=some zs)(h1:bq zs=true)(J:0<b)
 (A:gc st x) (C:gc st y) (hx:fp (mv st x)) (hy:fp (mv st y)) (h0:0<=aP (mv st x)) (hle:aP (mv st x)<=aP (mv st y)) (r:aP (mv st y)*b<=140737488355328) {N:Nat} (I:d<N):
 ∀g a w,g.N=N->Sim g st a w->∃v w' g',(execOp a.eval o).run P w=.ok (.value v) w'∧g.to g'∧
  Sim g' ⟨(d,.own true e (List.replicate (aP (mv st x)).toNat zs))::aA (cK d) st.t,st.h⟩ (a.put o.dst v) w':=by
 intro g a w L h;obtain⟨bl,E⟩:=h.own;unfold bJ at hi;split at hi
 case h_2=>cases hi
 rename_i q F;unfold df at hz;rw[F]at hz;simp only at hz;cases f:P.info? q with
 |none=>rw[f]at hi;cases hi
 |some j=>
  rw[f]at hi;simp only[dM,f,Oy]at hz;obtain⟨z,hz,rfl⟩:=hz;simp only at hi;rw[hz]at hi;simp only at hi;split at hi
  case isFalse=>cases hi
  rename_i n;cases hi
  have G:=bI h A hx;have H:=bI h C hy;generalize aP (mv st x)=l at*;generalize aP (mv st y)=c at*;have u:0<=c:=by omega
  have K:c*1<=c*(j.bytes:Int):=Int.mul_le_mul_of_nonneg_left (by omega) u;have p:=run_make (P:=P) (w:=w) t q j z F f hz (fo (mv st x)) (fo (mv st y)) l c h0 hle (by rw[Int.mul_comm];omega) (by omega);have i:ah g (z.cells.toList.map PV.lit) z.cells.toList:=dH g _;have m:=db h1 i;refine⟨.slice (some ⟨w.heap.size,0,none⟩) l.toNat c.toNat,w.alloc (.cells (madeCells z.cells (c.toNat*j.size)) q),g,?_,h.refl_to,?_⟩
  .simp only[execOp,ho,G,H,Sem.run_bind,p,Result.andThen_ok,Sem.run_pure]
  .rw[hd];refine h.putOwn E (L▸I) rfl (by simp) (λk hk _=>heap_alloc_old w _ hk) (o:=some w.heap.size) ?_ rfl (λk hk=>?_)
   .refine .inr ⟨w.heap.size,rfl,c.toNat,_,q,(List.replicate l.toNat z.cells.toList).flatten,by rw[Qs],heap_alloc_new w _,?_,⟨?_,?_,?_⟩,?_,?_,λ_=>h.B⟩
    .exact size_madeCells _ _
    .rw[Qs];omega
    .show c.toNat<=2^63 -1;omega
    .rw[ot z.cells j.size n.1];intro v s;obtain⟨l',D,s⟩:=List.mem_flatten.1 s;rw[Qv D]at s;exact m v s
    .exact kJ i (by simpa using n.1) m _
    .rw[ot z.cells j.size n.1];refine⟨(List.replicate (c.toNat -l.toNat) z.cells.toList).flatten,?_⟩;rw[←Rp,List.replicate_append_replicate];congr 2;omega
   .cases hk
    exact⟨by simp,h.fresh E (Oc _)⟩
end Go.AX
namespace Go.AX
theorem np{a:Act}{s:Nat}(h:s<a.tmps.size):a.put (some s) (a.tmps.getD s undef)=a:=by
 cases a with
 |mk t d=>
  simp only at h;simp only[Act.put,Act.mk.injEq,and_true];apply Array.ext_getElem?;intro i;rw[O1];split
  .rename_i e;subst e;simp[h]
  .rfl
theorem Sim.looks{g:Gh}{st st':St}{a:Act}{w:World}(h:Sim g st a w)(hh:st'.h=st.h)(ht:∀s,look st'.t s=look st.t s):Sim g st' a w:=by
  obtain⟨bl,hb⟩:=h.own
  have hp:∀p,aa st' p=aa st p:=λp=>by
    cases p with
    |slot s=>exact ht s
    |cell b k=>simp only[aa,hh]
  exact { size := h.size, defs := h.defs, env := h.env, n := by rw [hh]; exact h.n, n0 := h.n0, B := h.B, I := h.I, F := h.F, μI := h.μI, μinj := h.μinj,
          own:=⟨bl,{slots:=λs=>by rw[ht s];exact hb.slots s,blocks:=λb xs hx=>hb.blocks b xs (by rw[←hh];exact hx),inj:=hb.inj,free:=hb.free}⟩,
          al:=λs=>by rw[ht s];exact bQ.congr (λp _=>⟨hp p,rfl⟩) (h.al s)}
theorem Gp{g:Gh}{w:World}{nw:Bool}{e:Nat}{rows:List (List PV)}{v:Value}{o:Option Nat}(h:aw g w (.own nw e rows) v o){hi:Nat}(b:hi<=rows.length){q:Option Addr}{n cap:Nat}(f:v=.slice q n cap):
 aw g w (.own nw e (rows.take hi)) (.slice q hi cap) o:=by
 rcases h with⟨rfl,rfl,a⟩|⟨c,r,d,arr,T,vs,a,i,j,k,l,m,p⟩
 .left;simp only[List.length_nil,Nat.le_zero]at b;subst b;rw[f]at a;simp only[Value.slice.injEq]at a;obtain⟨rfl,_,rfl⟩:=a;exact⟨rfl,by simp,rfl⟩
 .right;rw[f]at a;simp only[Value.slice.injEq]at a;obtain⟨rfl,rfl,rfl⟩:=a;refine⟨c,r,cap,arr,T,vs.take (hi*e),by rw[Oe,Ps b],i,j,⟨by rw[Oe];omega,k.2⟩,?_,(Ri _ _).trans m,p⟩;have:=av.cut l 0 hi (Oz _) b;simpa using this
theorem pM{g:Gh}{st:St}{a:Act}{w:World}{bl:Pos->Option Nat}(f:Owns g st a w bl){p:Pos}{hi:Nat}{nw:Bool}{e:Nat}{rows:List (List PV)}{v:Value}(hp:aa st p=.own nw e rows)(d:bQ g st a w (.loc p 0 hi) v):
 aw g w (.own nw e (rows.take hi)) v (bl p):=by
 have b:=aW f (p:=p) (by rw[hp];rfl);rw[hp]at b;obtain⟨_,c,q,cap,h,_,_,hz⟩:=d _ _ _ hp;obtain⟨n0,hz⟩:=hz rfl;have:=Gp b c hz;rw[h];simpa using this
theorem gC{g:Gh}{w:World}{x:SV}{v:Value}{o:Option Nat}(hx:x.isOwn=true)(h:aw g w x v o):v.cells=#[v]∧v.oneCell'=true:=by
 cases x with
 |own nw e rows=>
  rcases h with⟨_,_,rfl⟩|⟨c,_,cap,arr,T,vs,rfl,_⟩<;>exact⟨rfl,rfl⟩
 |omap nw es=>obtain⟨c,_,en,ck,rfl,_⟩:=h;exact⟨rfl,rfl⟩
 |_=>cases hx
theorem qf(q:Pos->Bool)(x:SV):cd q (cd q x)=cd q x:=by
 rcases bc q x with e|⟨e,_⟩
 .rw[e];rfl
 .rw[e,e]
theorem Sim.adopt{g:Gh}{st:St}{a:Act}{w:World}(h:Sim g st a w){bl:Pos->Option Nat}(v:Owns g st a w bl){b k:Nat}{xs:List SV}(hx:st.h[b]?=some xs)(hk:k<xs.length){sv:SV}{o:Option Nat}
 (hs:aw g w sv (ak g a w (.cell b k)) o) (ho:sv.isOwn=true) (E:∀c,o=some c->c<w.heap.size∧FreeAt g bl c):
 Sim g ⟨aA (aD b k 1) st.t,st.h.set b (xs.set k sv)⟩ a w∧Owns g ⟨aA (aD b k 1) st.t,st.h.set b (xs.set k sv)⟩ a w (λp=>if p=.cell b k then o else bl p):=by
 have y:b<st.h.length:=(N5.1 hx).1;have z:∀p,aD b k 1 p=false->(aa ⟨aA (aD b k 1) st.t,st.h.set b (xs.set k sv)⟩ p).isOwn=true->
  aa ⟨aA (aD b k 1) st.t,st.h.set b (xs.set k sv)⟩ p=aa st p∧ak g a w p=ak g a w p:=by
  intro p m hp;refine⟨?_,rfl⟩;cases p with
  |slot s=>simp only[aa,aR]at hp⊢;exact dG hp
  |cell b' k'=>
   simp only[aa,N7,OD]
   by_cases f:b=b'
   .subst f;have i:k≠k':=λe=>by subst e;simp[aD]at m
    rw[N9 rfl,N9 y,hx];simp only[OH,On i]
   .rw[N8 f]
 have l:Owns g ⟨aA (aD b k 1) st.t,st.h.set b (xs.set k sv)⟩ a w (λp=>if p=.cell b k then o else bl p):=by
  refine{slots:=λs=>?_,blocks:=λb' G j=>?_,inj:=λp q c hp m=>?_,free:=λp c hp=>?_}
  .rw[N8 (by intro e;cases e),aR];exact aw.kill _ (v.slots s)
  .rw[OD]at j;split at j
   .rename_i f;subst f
    try rw[N9 y]at j
    cases j
    obtain⟨arr,T,r,u,A⟩:=v.blocks b xs hx;refine⟨arr,T,r,⟨by rw[OE];exact u.1,u.2⟩,λk' x d=>?_⟩;rw[OD]at d;split at d
    .rename_i i;subst i
     try rw[N9 hk]at d
     cases d
     rw[N9 rfl];refine⟨(by cases sv<;>first|rfl|cases ho),?_⟩;simpa[ak,r]using hs
    .rename_i i;rw[N8 (by intro e;cases e;exact i rfl)];exact A k' x d
   .rename_i f;obtain⟨arr,T,r,u,A⟩:=v.blocks b' G j;refine⟨arr,T,r,u,λk' x d=>?_⟩;rw[N8 (by intro e;cases e;exact f rfl)];exact A k' x d
  .split at hp
   .rename_i r;split at m
    .rename_i u;rw[r,u]
    .exact absurd m ((E c hp).2.own q)
   .split at m
    .exact absurd hp ((E c m).2.own p)
    .exact v.inj p q c hp m
  .split at hp
   .obtain⟨h1,C⟩:=E c hp;exact⟨C.I,C.F,h1,C.μ⟩
   .exact v.free p c hp
 refine⟨{size:=h.size,defs:=h.defs,env:=h.env,n:=by simp only[OE];exact h.n,n0:=h.n0,B:=h.B,I:=h.I,F:=h.F,μI:=h.μI,μinj:=h.μinj,own:=⟨_,l⟩,al:=λs=>?_},l⟩;rw[aR];rcases bc (aD b k 1) (look st.t s)with e|⟨e,D⟩
 .rw[e];trivial
 .rw[e];exact bQ.congrA z D (h.al s)
def iQ(st:St)(s b k:Nat):St:=⟨(s,.al (.cell b k))::aA (aD b k 1) st.t,st.h.set b ((st.h.getD b []).set k (look st.t s))⟩
theorem zO{g:Gh}{st:St}{a:Act}{w:World}(h:Sim g st a w){s:Nat}(ho:(look st.t s).isOwn=true):s<a.tmps.size:=by
 obtain⟨bl,f⟩:=h.own;have hs:=f.slots s;apply QA;intro hle;have i:a.tmps.getD s undef=undef:=by rw[Ol,Qc hle];rfl
 rw[i]at hs;cases d:look st.t s with
 |own nw e rows=>rw[d]at hs;rcases hs with⟨_,_,b⟩|⟨c,_,cap,arr,T,vs,b,_⟩<;>cases b
 |omap nw es=>rw[d]at hs;obtain⟨c,_,en,ck,b,_⟩:=hs;cases b
 |_=>rw[d]at ho;cases ho
theorem Sim.moveTo{g:Gh}{st:St}{a:Act}{w:World}(h:Sim g st a w){s b k:Nat}{xs:List SV}(ho:(look st.t s).isOwn=true)(hx:st.h[b]?=some xs)(hk:k<xs.length)(p:ak g a w (.cell b k)=a.tmps.getD s undef):
 Sim g (iQ st s b k) a w:=by
 obtain⟨bl,i⟩:=h.own;have f:=zO h ho;obtain⟨h1,q,j,_,_,e⟩:=h.drop i (.slot s);have hs:=i.slots s;have l:(setPos st (.slot s) (.pv .bot)).h[b]?=some xs:=hx;obtain⟨r,_⟩:=h1.adopt j l hk (sv:=look st.t s) (o:=bl (.slot s)) (by rw[p];exact hs) ho (λc n=>⟨(i.free _ c n).2.2.1,e c n⟩);have m:=r.put (d:=s) (sv:=.al (.cell b k)) (v:=a.tmps.getD s undef) (by rw[←h.size];exact f) rfl (λ_=>p.symm) rfl;rw[np f]at m;refine m.looks ?_ ?_
 .simp[iQ,St.put,setPos,N7,hx]
 .intro s';simp only[iQ,St.put,look,setPos,aR];split<;>rfl
theorem xM{P:Program}{st:St}(o:Oper)(t:TypeId)(x y:Operand)(b off s:Nat)(X:Bool)(ho:o.op=.store t x y)(hl:aI P t=some (X,1))(hy:mv st y=.al (.slot s))(Q:gc st y)(j:(look st.t s).isOwn=true)
 (hx:mv st x=.pv (.ptr b off)) (O:gc st x) (f:off<(st.h.getD b []).length):
 ∀g a w,Sim g st a w->∃w' g',(execOp a.eval o).run P w=.ok .skip w'∧g.to g'∧Sim g' (iQ st s b off) a w':=by
 intro g a w h;obtain⟨H,_⟩:=aM h x O;rw[hx]at H;obtain⟨_,B,S⟩:=H;obtain⟨_,A⟩:=aM h y Q;rw[hy]at A;have J:a.eval y=a.tmps.getD s undef:=A j;have F:b<st.h.length:=h.n▸B;have D:st.h[b]?=some (st.h.getD b []):=by simp[List.getD,N6 F]
 obtain⟨bl,L⟩:=h.own;have I:=zO h j;have hs:=L.slots s;obtain⟨q,m⟩:=gC j hs;rw[←J]at hs q m;obtain⟨arr,T,K,⟨U,_⟩,_⟩:=L.blocks b _ D;have W:=dD w hl (a.eval y) (by rw[q];rfl) (g.μ b) off T arr K (by rw[U];exact f) (by rw[q];simpa using m);obtain⟨h1,M,C,_,_,l⟩:=h.drop L (.slot s);rw[q]at W;have E:(setPos st (.slot s) (.pv .bot)).h[b]?=some (st.h.getD b []):=D;obtain⟨h2,N⟩:=h1.blockWriteO C (w':=w.setRow (g.μ b) (splice arr.toList off [a.eval y]).toArray) (k0:=off) (ys:=[.bot]) (vs:=[a.eval y]) (arr':=(splice arr.toList off [a.eval y]).toArray) E f K ⟨_,_,rfl,trivial,rfl⟩ (by simpa using m) rfl (size_setRow _ _ _) (λc r=>setRow_other w _ c _ r) ⟨T,setRow_heap w _ arr _ T _ K⟩ (by simp);have G:∀c,bl (.slot s)=some c->FreeAt g (λp=>if aD b off 1 p=true then none else M p) c:=λc r=>by
  obtain⟨Z,f2,f3,f4⟩:=l c r;refine⟨Z,f2,f3,λp hp=>?_⟩;split at hp
  .cases hp
  .exact f4 p hp
 have u:ak g a (w.setRow (g.μ b) (splice arr.toList off [a.eval y]).toArray) (.cell b off)=a.eval y:=by
  simp only[ak,setRow_heap w _ arr _ T _ K];rw[Ol,←Ob,dX (by simp[U];exact f)];simp
 have R:aw g (w.setRow (g.μ b) (splice arr.toList off [a.eval y]).toArray) (look st.t s) (a.eval y) (bl (.slot s)):=
  aw.frame (Gh.le.refl g) (λc r=>setRow_other w _ c _ (λe=>(l c r).μ b B e.symm)) hs
 have z:(st.h.set b (splice (st.h.getD b []) off ([PV.bot].map .pv)))[b]?=some (splice (st.h.getD b []) off ([PV.bot].map .pv)):=by
  rw[OD,N9 rfl,N9 F]
 obtain⟨h3,_⟩:=h2.adopt N (k:=off) (xs:=splice (st.h.getD b []) off ([PV.bot].map .pv)) z (by rw[bG f];exact f) (sv:=look st.t s) (o:=bl (.slot s)) (by rw[u];exact R) j
  (λc r=>⟨by rw[size_setRow];exact(L.free _ c r).2.2.1,G c r⟩)
 have V:=h3.put (d:=s) (sv:=.al (.cell b off)) (v:=a.tmps.getD s undef) (by rw[←h.size];exact I) rfl (λ_=>by rw[u,J]) rfl;rw[np I]at V;refine⟨_,g,?_,h.refl_to,V.looks ?_ ?_⟩
 .simp only[execOp,ho,S,Instr.storeAt,Instr.sureAddr,Sem.run_bind,Sem.run_pure,Result.andThen_ok,W]
 .have Y:(splice (st.h.getD b []) off ([PV.bot].map .pv)).set off (look st.t s)=(st.h.getD b []).set off (look st.t s):=by
   apply Px;intro i;rw[OD,OD,bG f,dX f]
   by_cases hi:off=i
   .rw[N9 hi,N9 hi]
   .rw[N8 hi,N8 hi,N8 (by simp;omega)]
  simp only[iQ,St.put,setPos,RJ,Y]
 .intro s';simp only[iQ,St.put,look,setPos,aR];split
  .rfl
  .exact(qf (aD b off 1) (look st.t s')).symm
theorem Bl{P:Program}{st:St}(o:Oper)(t:TypeId)(x y:Operand)(b off hi:Nat)(nw:Bool)(e:Nat)(rows:List (List PV))(K:Bool)(ho:o.op=.store t x y)(S:aI P t=some (K,1))(hy:mv st y=.loc (.cell b off) 0 hi)(F:gc st y)(hp:aa st (.cell b off)=.own nw e rows)
 (hx:mv st x=.pv (.ptr b off)) (E:gc st x):
 ∀g a w,Sim g st a w->∃w' g',(execOp a.eval o).run P w=.ok .skip w'∧g.to g'∧Sim g' ⟨aA (aD b off 1) st.t,st.h.set b ((st.h.getD b []).set off (.own nw e (rows.take hi)))⟩ a w':=by
 intro g a w h;obtain⟨A,_⟩:=aM h x E;rw[hx]at A;obtain⟨_,s,H⟩:=A;obtain⟨_,r⟩:=aM h y F;rw[hy]at r;have v:b<st.h.length:=h.n▸s;have u:st.h[b]?=some (st.h.getD b []):=by simp[List.getD,N6 v]
 have d:off<(st.h.getD b []).length:=by
  apply QA;intro hle;simp only[aa]at hp;rw[N7,ON hle]at hp;cases hp
 obtain⟨bl,l⟩:=h.own;have hs:=pM l hp r;obtain⟨m,j⟩:=gC (x:=.own nw e (rows.take hi)) rfl hs;obtain⟨arr,T,C,⟨I,_⟩,_⟩:=l.blocks b _ u;have J:=dD w S (a.eval y) (by rw[m];rfl) (g.μ b) off T arr C (by rw[I];exact d) (by rw[m];simpa using j);rw[m]at J;obtain⟨Q,D⟩:=h.blockWriteO l (w':=w.setRow (g.μ b) (splice arr.toList off [a.eval y]).toArray) (k0:=off) (ys:=[.bot]) (vs:=[a.eval y]) (arr':=(splice arr.toList off [a.eval y]).toArray) u d C ⟨_,_,rfl,trivial,rfl⟩ (by simpa using j) rfl (size_setRow _ _ _) (λc f=>setRow_other w _ c _ f) ⟨T,setRow_heap w _ arr _ T _ C⟩ (by simp);have z:∀c,bl (.cell b off)=some c->FreeAt g (λp=>if aD b off 1 p=true then none else bl p) c:=λc f=>by
  obtain⟨M,N,V,O⟩:=l.free _ c f;refine⟨M,N,O,λp hp=>?_⟩;split at hp
  .cases hp
  .rename_i U;have:=l.inj p (.cell b off) c hp f;subst this;exact U (by simp[aD])
 have B:ak g a (w.setRow (g.μ b) (splice arr.toList off [a.eval y]).toArray) (.cell b off)=a.eval y:=by
  simp only[ak,setRow_heap w _ arr _ T _ C];rw[Ol,←Ob,dX (by simp[I];exact d)];simp
 have G:aw g (w.setRow (g.μ b) (splice arr.toList off [a.eval y]).toArray) (.own nw e (rows.take hi)) (a.eval y) (bl (.cell b off)):=
  aw.frame (Gh.le.refl g) (λc f=>setRow_other w _ c _ (λe=>(l.free _ c f).2.2.2 b s e.symm)) hs
 have q:(st.h.set b (splice (st.h.getD b []) off ([PV.bot].map .pv)))[b]?=some (splice (st.h.getD b []) off ([PV.bot].map .pv)):=by
  rw[OD,N9 rfl,N9 v]
 obtain⟨R,_⟩:=Q.adopt D (k:=off) (xs:=splice (st.h.getD b []) off ([PV.bot].map .pv)) q (by rw[bG d];exact d) (sv:=.own nw e (rows.take hi)) (o:=bl (.cell b off)) (by rw[B];exact G) rfl
  (λc f=>⟨by rw[size_setRow];exact(l.free _ c f).2.2.1,z c f⟩)
 refine⟨_,g,?_,h.refl_to,R.looks ?_ ?_⟩
 .simp only[execOp,ho,H,Instr.storeAt,Instr.sureAddr,Sem.run_bind,Sem.run_pure,Result.andThen_ok,J]
 .have L:(splice (st.h.getD b []) off ([PV.bot].map .pv)).set off (.own nw e (rows.take hi))=(st.h.getD b []).set off (.own nw e (rows.take hi)):=by
   apply Px;intro i;rw[OD,OD,bG d,dX d]
   by_cases hi:off=i
   .rw[N9 hi,N9 hi]
   .rw[N8 hi,N8 hi,N8 (by simp;omega)]
  simp only[RJ,L]
 .intro s';simp only[aR];exact(qf (aD b off 1) (look st.t s')).symm
theorem xN{P:Program}{st:St}(o:Oper)(s d hi:Nat)(nw:Bool)(e:Nat)(rows:List (List PV))(ho:o.op=.assign (.tmp s))(hd:o.dst=some d)(hs:look st.t s=.loc (.slot d) 0 hi)(hp:look st.t d=.own nw e rows){N:Nat}(q:d<N):
 ∀g a w,g.N=N->Sim g st a w->∃v w' g',(execOp a.eval o).run P w=.ok (.value v) w'∧g.to g'∧Sim g' ⟨(d,.own nw e (rows.take hi))::aA (cK d) st.t,st.h⟩ (a.put o.dst v) w':=by
 intro g a w u h;obtain⟨bl,f⟩:=h.own;have j:=h.al s;rw[hs]at j;have r:=pM f (p:=.slot d) hp j;obtain⟨h1,m,i,_,_,b⟩:=h.drop f (.slot d);refine⟨a.tmps.getD s undef,w,g,by simp[execOp,ho,Act.eval],h.refl_to,?_⟩;rw[hd];have n:=h1.putOwn i (d:=d) (u▸q) rfl (Oc _) (λ_ _ _=>rfl) r rfl (λc l=>⟨(f.free _ c l).2.2.1,b c l⟩);refine n.looks rfl λk=>?_;simp only[look,aR,setPos];split<;>rfl
theorem xO{P:Program}{st:St}(o:Oper)(t:TypeId)(s x:Operand)(d e b:Nat)(p:Pos)(i:Nat)(nw:Bool)(rows:List (List PV))(ho:o.op=.call {callee:=.builtin .append,args:=#[s,x],argTypes:=#[t,t]}) (hd:o.dst=some d)
 (hi:bJ P t=some (e,b)) (m:0<b) (C:gc st s) (hs:mv st s=.loc p 0 i) (hp:aa st p=.own nw e rows) (D:gc st x) (hx:ii st e (mv st x))
 (f:((rows.take i).length+(rowsOf st (mv st x)).length)*b<=140737488355328) {N:Nat} (L:d<N):
 ∀g a w,g.N=N->Sim g st a w->∃v w' g',(execOp a.eval o).run P w=.ok (.value v) w'∧g.to g'∧
  Sim g' ⟨(d,.own nw e (rows.take i++rowsOf st (mv st x)))::aA (cK d) (setPos st p (.pv .bot)).t,(setPos st p (.pv .bot)).h⟩ (a.put o.dst v) w':=by
 intro g a w M h;obtain⟨bl,H⟩:=h.own;obtain⟨_,has⟩:=aM h s C;rw[hs]at has;have y:=pM H hp has;obtain⟨q,cap,news,F,z,n⟩:=fV h D hx;obtain⟨Q,w',R,O,r,E,u,G,l⟩:=jp (ty:=o.type) (k:=cap) hi m h.B y z n f;refine⟨Q,w',g,?_,h.refl_to,?_⟩
 .simp only[execOp,ho,resolve,invoke,builtin,Rk,Ow,Qi,Sem.run_bind,Sem.run_pure,Result.andThen_ok,F,O]
 .obtain⟨h1,J,j,_,_,K⟩:=h.drop H p;rw[hd];exact h1.putOwn j (M▸L) r E G u rfl (λc I=>⟨(l c I).1,(l c I).2.elim (λe=>K c e) (λA=>h1.fresh j A)⟩)
/-! ### Structs that are made of what is owned -/
def oY(st:St)(x:Operand):List (PV×Option Pos)×Prop:=
 match mv st x with
 |.al p=>([(.bot,some p)],gc st x∧(aa st p).isOwn=true)
 |.pv y=>((aL y).map (λz=>(z,none)),gc st x∧(y.one=true∨cW (.pv y)))
 |_=>([],False)
def mh(pl:List (Nat×Nat))(cells:List (PV×Option Pos)):List (Nat×List (PV×Option Pos))->List (PV×Option Pos)×Prop
 |[]=>(cells,True)
 |(i,ys)::rest=>match pl[i]?with
  |some (off,n)=>((mh pl (splice cells off ys) rest).1,ys.length=n∧off+n<=cells.length∧(mh pl (splice cells off ys) rest).2)
  |none=>(cells,False)
def ju(st:St):List (Nat×Operand)->List (Nat×List (PV×Option Pos))
 |[]=>[]
 |(i,x)::r=>(i,(oY st x).1)::ju st r
def nq(st:St):List (Nat×Operand)->Prop
 |[]=>True
 |(_,x)::r=>(oY st x).2∧nq st r
def xP(P:Program)(st:St)(t:TypeId)(a:Array (Nat×Operand)):SV×Prop:=
 match bInfo P t,zeroV P t with
 |some pl,some zs=>(.agl (mh pl (zs.map λz=>(z,none)) (ju st a.toList)).1,nq st a.toList∧(mh pl (zs.map λz=>(z,none)) (ju st a.toList)).2)
 |_,_=>(.pv .bot,False)
def vo(g:Gh)(a:Act)(w:World):PV×Option Pos->PV
 |(x,none)=>x
 |(_,some p)=>.lit (ak g a w p)
theorem xQ{α β:Type}(f:α->β)(xs ys:List α)(k:Nat):(splice xs k ys).map f=splice (xs.map f) k (ys.map f):=by
 simp[splice,QI,RW]
theorem CX{g:Gh}{st:St}{a:Act}{w:World}(h:Sim g st a w)(x:Operand)(hd:(oY st x).2):ah g ((oY st x).1.map (vo g a w)) (a.eval x).cells.toList:=by
 unfold oY at hd⊢;split at hd
 .rename_i p c;simp only[c];obtain⟨h1,b⟩:=hd;obtain⟨_,d⟩:=aM h x h1;rw[c]at d;obtain⟨bl,f⟩:=h.own;obtain⟨i,_⟩:=gC b (aW f b);rw[d b,i];exact⟨_,_,rfl,rfl,rfl⟩
 .rename_i y c;simp only[c];obtain⟨h1,b⟩:=hd;obtain⟨e,_⟩:=aM h x h1;rw[c]at e;have:=gB e.2 b;simpa[Q8,vo]using this
 .exact hd.elim
theorem vp{g:Gh}{st:St}{a:Act}{w:World}(h:Sim g st a w)(pl:List (Nat×Nat)):∀(l:List (Nat×Operand))(cs:List (PV×Option Pos))(cells:Array Value),ah g (cs.map (vo g a w)) cells.toList->nq st l->(mh pl cs (ju st l)).2->
 ∃out,Instr.fill (pl[·]?) cells (l.map λp=>(p.1,a.eval p.2))=some out∧ah g ((mh pl cs (ju st l)).1.map (vo g a w)) out.toList
 |[],cs,cells,e,_,_=>⟨cells,rfl,e⟩
 |(i,x)::rest,cs,cells,e,hp,hd=>by
  obtain⟨f,j⟩:=hp;have d:=CX h x f;simp only[ju,mh]at hd⊢;cases b:pl[i]?with
  |none=>rw[b]at hd;exact hd.elim
  |some y=>
   obtain⟨off,n⟩:=y;rw[b]at hd;obtain⟨h1,m,o⟩:=hd;have k:(a.eval x).cells.size=n:=by have:=d.length;rw[Oj,h1]at this;simpa using this
   have c:=e.length;rw[Oj]at c;simp only[Ow];rw[oi (pl[·]?) cells i off n (a.eval x) _ b k (by rw[←OS,c];exact m)];refine vp h pl rest _ _ ?_ j o;rw[xQ];simpa using e.splice d off
theorem CY{g:Gh}{a:Act}{w:World}{xs:List (PV×Option Pos)}{vs:List Value}(h:ah g (xs.map (vo g a w)) vs){k:Nat}{x:PV}{p:Pos}(hk:xs[k]?=some (x,some p)):vs[k]?=some (ak g a w p):=by
 obtain⟨v,h1,b⟩:=h.get k (.lit (ak g a w p)) (by rw[Oq,hk];rfl);have:v=ak g a w p:=b;rw[h1,this]
def nr:List (PV×Option Pos)->Prop
 |[]=>True
 |(x,some _)::r=>x=.bot∧nr r
 |(_,none)::r=>nr r
theorem qg{g:Gh}{a:Act}{w:World}:∀{xs:List (PV×Option Pos)}{vs:List Value},nr xs->ah g (xs.map (vo g a w)) vs->ah g (xs.map (·.1)) vs
 |[],_,_,h=>h
 |(x,some p)::r,_,⟨e,c⟩,⟨v,u,h1,d,b⟩=>by subst e;exact⟨v,u,h1,trivial,qg c b⟩
 |(x,none)::r,_,c,⟨v,u,h1,d,b⟩=>⟨v,u,h1,d,qg (xs:=r) c b⟩
theorem gD:∀{xs:List (PV×Option Pos)},nr xs↔∀x p,(x,some p)∈xs->x=.bot
 |[]=>by simp[nr]
 |(x,some p)::r=>by
  simp only[nr,gD (xs:=r),OB,Py,OI];constructor
  .rintro⟨h1,a⟩ y q (⟨rfl,_⟩|h)
   .exact h1
   .exact a y q h
  .intro h;exact⟨h x p (.inl ⟨rfl,rfl⟩),λy q b=>h y q (.inr b)⟩
 |(x,none)::r=>by
  simp only[nr,gD (xs:=r),OB,Py];constructor
  .rintro h y q (⟨_,a⟩|a)
   .cases a
   .exact h y q a
  .intro h y q b;exact h y q (.inr b)
theorem xR(st:St)(x:Operand):∀y p,(y,some p)∈(oY st x).1->y=.bot:=by
 intro y p hy;unfold oY at hy;split at hy
 .simp at hy;exact hy.1
 .simp at hy
 .simp at hy
theorem qh(st:St)(pl:List (Nat×Nat)):∀(l:List (Nat×Operand))(cs:List (PV×Option Pos)),nr cs->nr (mh pl cs (ju st l)).1
 |[],cs,h=>h
 |(i,x)::r,cs,h=>by
  simp only[ju,mh];split
  .refine qh st pl r _ (gD.2 λy p hy=>?_);simp only[splice,Om]at hy;rcases hy with(hy|hy)|hy
   .exact gD.1 h y p (OX hy)
   .exact xR st x y p hy
   .exact gD.1 h y p (PZ hy)
  .exact h
theorem Gq{P:Program}{st:St}(o:Oper)(t:TypeId)(b:Array (Nat×Operand))(ho:o.op=.build t b):Gg P st o (xP P st t b):=by
 intro g a w h hd;unfold xP at hd⊢;split at hd
 .rename_i pl zs f hz;obtain⟨hp,hd⟩:=hd;unfold zeroV at hz;cases hi:P.info? t with
  |none=>rw[hi]at hz;cases hz
  |some B=>
   rw[hi]at hz;simp only[Oy]at hz;obtain⟨z,hz,rfl⟩:=hz;have r:ah g (((z.cells.toList.map PV.lit).map λz=>(z,(none:Option Pos))).map (vo g a w)) z.cells.toList:=by
    rw[Pa];have:(vo g a w∘λz=>(z,none))=id:=by funext x;rfl
    rw[this,List.map_id];exact dH g _
   obtain⟨out,j,l⟩:=vp h pl b.toList _ z.cells r hp hd;have d:=qh st pl b.toList ((z.cells.toList.map PV.lit).map λz=>(z,(none:Option Pos))) (gD.2 λy p hy=>by simp at hy);have c:P.built t (b.toList.map λp=>(p.1,a.eval p.2))=some out:=by
    unfold bInfo at f;unfold Program.built;rw[hi];split at f
    .rename_i v q;rw[q];simp only[hz,f];simpa using j
    .rename_i n e q;simp only[Oy]at f;obtain⟨A,m,rfl⟩:=f;rw[q];simp only[hz,m];refine mI _ _ (λi x hx=>?_) _ _ _ j;simp only[Oq,Oy]at hx;obtain⟨k,hk,rfl⟩:=hx;have:=N5.1 hk;obtain⟨u,s⟩:=this;simp at s;subst s;rfl
    .cases f
   refine⟨.agg out,?_,⟨rfl,out,rfl,qg d l⟩,λk x p hk _=>⟨out,rfl,?_⟩⟩
   .simp only[execOp,ho,Sem.run_bind];rw[run_build w t _ out (by rw[←c];simp)];simp
   .have:=CY l hk;simpa using this
 .exact hd.elim
def kQ(n:Nat):List (PV×Option Pos)->Nat->St->St×Prop
 |[],_,st=>(st,True)
 |(_,none)::r,k,st=>kQ n r (k+1) st
 |(_,some (.slot s))::r,k,st=>((kQ n r (k+1) (iQ st s n k)).1,(look st.t s).isOwn=true∧(kQ n r (k+1) (iQ st s n k)).2)
 |(_,some (.cell _ _))::_,_,st=>(st,False)
theorem pN{g:Gh}{a:Act}{w:World}{n:Nat}:∀(xs:List (PV×Option Pos))(k:Nat){st:St}(_:Sim g st a w)(_:(kQ n xs k st).2)(_:n<st.h.length)(_:(st.h.getD n []).length=k+xs.length)
 (_:∀(j:Nat)(x:PV)(s:Nat),xs[j]?=some (x,some (.slot s))->ak g a w (.cell n (k+j))=a.tmps.getD s undef),Sim g (kQ n xs k st).1 a w
 |[],_,_,h,_,_,_,_=>h
 |(x,none)::r,k,st,h,hd,hn,b,c=>by
  simp only[kQ]at hd⊢;exact pN r (k+1) h hd hn (by rw[b,OC];omega) λj y s hj=>by have:=c (j+1) y s (by simpa using hj);rwa [show k+(j+1)=k+1+j by omega]at this
 |(x,some (.slot s))::r,k,st,h,hd,hn,b,c=>by
  simp only[kQ]at hd⊢;have hx:st.h[n]?=some (st.h.getD n []):=by simp[List.getD,N6 hn]
  have e:=h.moveTo hd.1 hx (k:=k) (by rw[b];simp) (c 0 x s rfl);have d:((st.h.getD n []).set k (look st.t s)).length=k+1+r.length:=by rw[OE,b,OC];omega
  refine pN r (k+1) e hd.2 (by simpa[iQ]using hn) ?_ λj y s' hj=>by have:=c (j+1) y s' (by simpa using hj);rwa [show k+(j+1)=k+1+j by omega]at this
  have:(iQ st s n k).h.getD n []=(st.h.getD n []).set k (look st.t s):=by
   simp only[iQ];rw[N7,OD,N9 rfl,N9 hn];rfl
  rw[this];exact d
 |(x,some (.cell _ _))::r,k,st,h,hd,hn,b,c=>by simp only[kQ]at hd
theorem Gs{P:Program}{st:St}(o:Oper)(t:TypeId)(x:Operand)(d:Nat)(xs:List (PV×Option Pos))(ho:o.op=.box t x)(hd:o.dst=some d)(U:gc st x)(V:mv st x=.agl xs)(c:∀(j:Nat)(y:PV)(s:Nat),xs[j]?=some (y,some (.slot s))->(look st.t s).isOwn=true)(B:bq ((xs.filter λy=>y.2.isNone).map (·.1))=true)(hin:(kQ st.h.length xs 0 (st.grow ((xs.map (·.1)).map .pv))).2)(H:∀(y:PV)(p:Pos),(y,some p)∈xs->∃s,p=.slot s){N:Nat}(S:d<N):
 ∀g a w,g.N=N->Sim g st a w->∃v w' g',(execOp a.eval o).run P w=.ok (.value v) w'∧g.to g'∧Sim g' ((kQ st.h.length xs 0 (st.grow ((xs.map (·.1)).map .pv))).1.put d (.pv (.ptr st.h.length 0))) (a.put o.dst v) w':=by
 intro g a w E h;obtain⟨M,m⟩:=aM h x U;rw[V]at M m;obtain⟨_,vs,O,k⟩:=M;obtain⟨bl,T⟩:=h.own;have i:∀(j:Nat)(y:PV)(s:Nat),xs[j]?=some (y,some (.slot s))->vs[j]?=some (a.tmps.getD s undef):=λj y s hj=>by
  obtain⟨aa,f,C⟩:=m j y (.slot s) hj (c j y s hj);rw[O]at f;cases f;exact C
 have D:∀u∈vs.toList,u.oneCell'=true:=by
  intro u W;obtain⟨j,hj⟩:=PB.1 W;have r:=k.length;have F:j<xs.length:=by
   have:=(N5.1 hj).1;rw[r,Oj]at this;exact this
  obtain⟨L,J⟩:∃L,xs[j]?=some L:=⟨xs[j],N6 F⟩;obtain⟨y,q⟩:=L;have b:xs[j]?=some (y,q):=J;cases q with
  |none=>
   obtain⟨v',f,C⟩:=k.get j y (by rw[Oq,b];rfl);rw[hj]at f;cases f;have K:y.one=true:=by
    have A:y∈(xs.filter λy=>y.2.isNone).map (·.1):=Of.2 ⟨(y,none),OW.2 ⟨O9 b,rfl⟩,rfl⟩;have:∀(l:List PV),bq l=true->∀z∈l,z.one=true:=λl=>by
     induction l with
     |nil=>intro _ z hz;cases hz
     |cons z0 l X=>
      intro G z hz;simp only[bq,Og]at G;rcases OB.1 hz with rfl|hz
      .exact G.1
      .exact X G.2 z hz
    exact this _ B y A
   exact tI K C
  |some p=>
   obtain⟨s,rfl⟩:=H y p (O9 b);have f:=i j y s b;rw[Ob]at hj;rw[hj]at f;cases f;exact(gC (c j y s b) (T.slots s)).2
 have e:(a.eval x).cells=vs:=by rw[O];rfl
 obtain⟨g2,R,l2,Y,Q,Z⟩:=h.blockNew (xs.map (·.1)) vs t k D;have I:∀j v,vs[j]?=some v->ak g2 a (w.alloc (.cells vs t)) (.cell st.h.length j)=v:=λj v hj=>by
  simp only[ak,←h.n,Q,heap_alloc_new];simp[Ol,hj]
 have s3 := pN xs 0 Z hin (by simp [St.grow]) (by simp [St.grow]) (λ j y s hj => by
  rw[O3];exact I j _ (i j y s hj))
 refine⟨.pointer (some ⟨w.heap.size,0,none⟩),w.alloc (.cells vs t),g2,?_,R,?_⟩
 .simp[execOp,ho,Instr.box,newVar,newRow,e]
 .rw[hd];refine s3.put (by rw[R.N,E];exact S) ⟨rfl,?_,?_⟩ trivial rfl
  .rw[Y,←h.n];omega
  .rw[←h.n,Q]
/-! ### What a walk asks -/
def tP(st:St)(x y:Operand):Option (St×Prop):=
 match mv st y,mv st x with
 |.al (.slot s),.pv (.ptr b off)=>if(look st.t s).isOwn=true then some (iQ st s b off,gc st y∧gc st x∧off<(st.h.getD b []).length)else none
 |.loc (.cell b' k') lo hi,.pv (.ptr b off)=>if lo=0∧b'=b∧k'=off then
  match aa st (.cell b off)with
  |.own nw e rows=>some (⟨aA (aD b off 1) st.t,st.h.set b ((st.h.getD b []).set off (.own nw e (rows.take hi)))⟩,gc st y∧gc st x)
  |_=>none
  else none
 |_,_=>none
theorem Bn{P:Program}{st st':St}{x y:Operand}{ok:Prop}(c:tP st x y=some (st',ok))(d:ok)(o:Oper)(t:TypeId){h:Bool}(ho:o.op=.store t x y)(i:aI P t=some (h,1)):
 ∀g a w,Sim g st a w->∃w' g',(execOp a.eval o).run P w=.ok .skip w'∧g.to g'∧Sim g' st' a w':=by
 unfold tP at c;split at c
 .rename_i s b off hy hx;split at c
  .rename_i f;simp only[OI,Py]at c;obtain⟨rfl,rfl⟩:=c;exact xM o t x y b off s h ho i hy d.1 f hx d.2.1 d.2.2
  .cases c
 .rename_i b' k' lo hi b off hy hx;split at c
  .rename_i j;obtain⟨rfl,rfl,rfl⟩:=j;split at c
   .rename_i nw e rows hp;simp only[OI,Py]at c;obtain⟨rfl,rfl⟩:=c;exact Bl o t x y _ _ hi nw e rows h ho i hy d.1 hp hx d.2
   .cases c
  .cases c
 .cases c
/-! ### A struct with a part of its own, stored into a new block -/
def tQ:List (PV×Option Pos)->Bool
 |[]=>true
 |(_,none)::r=>tQ r
 |(_,some _)::_=>false
def kU:List (PV×Option Pos)->Option (Nat×Nat×Nat)
 |[]=>none
 |(_,none)::r=>match kU r with
  |some (k,b,c)=>some (k+1,b,c)
  |none=>none
 |(_,some (.cell b c))::r=>if tQ r=true then some (0,b,c)else none
 |(_,some (.slot _))::_=>none
theorem sx:∀{xs:List (PV×Option Pos)},tQ xs=true->∀(j:Nat)(y:PV)(p:Pos),xs[j]?≠some (y,some p)
 |[],_,j,y,p,h=>by simp at h
 |(x,none)::r,hn,0,y,p,h=>by simp at h
 |(x,none)::r,hn,j+1,y,p,h=>sx (xs:=r) hn j y p (by simpa using h)
 |(x,some _)::r,hn,_,_,_,_=>by cases hn
theorem sy:∀{xs:List (PV×Option Pos)}{k b c:Nat},kU xs=some (k,b,c)->(∃x,xs[k]?=some (x,some (.cell b c)))∧∀(j:Nat)(y:PV)(p:Pos),xs[j]?=some (y,some p)->j=k∧p=.cell b c
 |[],k,b,c,h=>by cases h
 |(x,none)::r,k,b,c,h=>by
  simp only[kU]at h;cases a:kU r with
  |none=>rw[a]at h;cases h
  |some q=>
   obtain⟨g,b2,c2⟩:=q;rw[a]at h;simp only[OI,Py]at h;obtain⟨rfl,rfl,rfl⟩:=h;obtain⟨⟨y,hy⟩,e⟩:=sy a;refine⟨⟨y,by simpa using hy⟩,λj z p hj=>?_⟩;cases j with
   |zero=>simp at hj
   |succ j=>obtain⟨f,d⟩:=e j z p (by simpa using hj);exact⟨by omega,d⟩
 |(x,some (.cell b2 c2))::r,k,b,c,h=>by
  simp only[kU]at h;split at h
  .rename_i hn;simp only[OI,Py]at h;obtain⟨rfl,rfl,rfl⟩:=h;refine⟨⟨x,rfl⟩,λj z p hj=>?_⟩;cases j with
   |zero=>simp at hj;exact⟨rfl,hj.2.symm⟩
   |succ j=>exact absurd (by simpa using hj) (sx hn j z p)
  .cases h
 |(x,some (.slot _))::r,k,b,c,h=>by cases h
def carry(st:St)(b' k' b k:Nat):St:=⟨aA (aD b k 1) st.t,(st.h.set b' ((st.h.getD b' []).set k' (.pv .bot))).set b (((st.h.set b' ((st.h.getD b' []).set k' (.pv .bot))).getD b []).set k (aa st (.cell b' k')))⟩
theorem Sim.carry{g:Gh}{st:St}{a:Act}{w:World}(h:Sim g st a w){b' k' b k:Nat}(ho:(aa st (.cell b' k')).isOwn=true)(e:b'≠b)(p:b<st.h.length)(hk:k<(st.h.getD b []).length)(x:ak g a w (.cell b k)=ak g a w (.cell b' k')):
 Sim g (AX.carry st b' k' b k) a w:=by
 obtain⟨bl,i⟩:=h.own;obtain⟨h1,u,m,_,_,d⟩:=h.drop i (.cell b' k');have n:(st.h.set b' ((st.h.getD b' []).set k' (.pv .bot))).getD b []=st.h.getD b []:=by
  rw[N7,OD,N8 e,N7]
 have j:st.h[b']?=some (st.h.getD b' []):=by
  cases f:st.h[b']?with
  |some xs=>simp[List.getD,f]
  |none=>simp only[aa,List.getD,f]at ho;cases ho
 have q:(st.h.getD b' [])[k']?=some (aa st (.cell b' k')):=by
  cases f:(st.h.getD b' [])[k']?with
  |some z=>simp only[aa];rw[N7 (l:=st.h.getD b' []),f];rfl
  |none=>
   simp only[aa]at ho;rw[N7 (l:=st.h.getD b' []),f]at ho;cases ho
 obtain⟨arr,T,c1,c2,c3⟩:=i.blocks b' _ j;have hs:=(c3 k' _ q).2;have r:ak g a w (.cell b' k')=arr.getD k' undef:=by simp only[ak,c1]
 have s:(setPos st (.cell b' k') (.pv .bot)).h[b]?=some (st.h.getD b []):=by
  simp only[setPos];rw[OD,N8 e,N7,N6 p];rfl
 obtain⟨v,_⟩:=h1.adopt m s hk (sv:=aa st (.cell b' k')) (o:=bl (.cell b' k')) (by rw[x,r];exact hs) ho (λc t=>⟨(i.free _ c t).2.2.1,d c t⟩);unfold AX.carry;rw[n];exact v
theorem Gt{g:Gh}{st:St}{a:Act}{w:World}{bl:Pos->Option Nat}(f:Owns g st a w bl):∀{p:Pos},(aa st p).isOwn=true->(ak g a w p).oneCell'=true
 |.slot s,ho=>(gC ho (f.slots s)).2
 |.cell b' k',ho=>by
  have c:st.h[b']?=some (st.h.getD b' []):=by
   cases b:st.h[b']?with
   |some xs=>simp[List.getD,b]
   |none=>simp only[aa,List.getD,b]at ho;cases ho
  have d:(st.h.getD b' [])[k']?=some (aa st (.cell b' k')):=by
   cases b:(st.h.getD b' [])[k']?with
   |some z=>simp only[aa];rw[N7 (l:=st.h.getD b' []),b];rfl
   |none=>
    simp only[aa]at ho;rw[N7 (l:=st.h.getD b' []),b]at ho;cases ho
  obtain⟨arr',T',c1,c2,c3⟩:=f.blocks b' _ c;have e:ak g a w (.cell b' k')=arr'.getD k' undef:=by simp only[ak,c1]
  rw[e];exact(gC ho (c3 k' _ d).2).2
theorem qi{P:Program}{st:St}(o:Oper)(t:TypeId)(x y:Operand)(b:Nat)(xs:List (PV×Option Pos))(ag:Bool)(ho:o.op=.store t x y)(H:aI P t=some (ag,xs.length))(hy:mv st y=.agl xs)(U:gc st y)
 (hx:mv st x=.pv (.ptr b 0)) (S:gc st x) (f:(st.h.getD b []).length=xs.length) (i:∀(j:Nat)(y:PV)(p:Pos),xs[j]?=some (y,some p)->(aa st p).isOwn=true) (J:bq ((xs.filter λy=>y.2.isNone).map (·.1))=true) {g:Gh} {a:Act} {w:World} (h:Sim g st a w):
 ∃vs:Array Value,b<st.h.length∧(execOp a.eval o).run P w=.ok .skip (w.setRow (g.μ b) vs)∧Sim g ⟨aA (aD b 0 xs.length) st.t,st.h.set b ((xs.map (·.1)).map .pv)⟩ a (w.setRow (g.μ b) vs)∧
  (∀j v,vs[j]?=some v->ak g a (w.setRow (g.μ b) vs) (.cell b j)=v)∧(∀(j:Nat)(y:PV)(p:Pos),xs[j]?=some (y,some p)->vs[j]?=some (ak g a w p))∧
  ∀b' k',b'≠b->b'<st.h.length->ak g a (w.setRow (g.μ b) vs) (.cell b' k')=ak g a w (.cell b' k'):=by
 obtain⟨F,_⟩:=aM h x S;rw[hx]at F;obtain⟨_,C,Z⟩:=F;obtain⟨G,B⟩:=aM h y U;rw[hy]at G B;obtain⟨_,vs,L,m⟩:=G;have N:∀(j:Nat)(y:PV)(p:Pos),xs[j]?=some (y,some p)->vs[j]?=some (ak g a w p):=λj x0 p hj=>by
  obtain⟨ad,s,N⟩:=B j x0 p hj (i j x0 p hj);rw[L]at s;cases s;exact N
 have E:b<st.h.length:=h.n▸C;have D:st.h[b]?=some (st.h.getD b []):=by simp[List.getD,N6 E]
 obtain⟨bl,Q⟩:=h.own;obtain⟨arr,T,M,⟨a2,_⟩,_⟩:=Q.blocks b _ D;have r:vs.toList.length=xs.length:=by rw[m.length,Oj]
 have A:∀u∈vs.toList,u.oneCell'=true:=by
  intro u hu;obtain⟨j,hj⟩:=PB.1 hu;have V:j<xs.length:=by
   have:=(N5.1 hj).1;rw[r]at this;exact this
  obtain⟨yq,k⟩:∃yq,xs[j]?=some yq:=⟨xs[j],N6 V⟩;obtain⟨y,q⟩:=yq;cases q with
  |none=>
   obtain⟨v',s,e3⟩:=m.get j y (by rw[Oq,k];rfl);rw[hj]at s;cases s;have I:y∈(xs.filter λy=>y.2.isNone).map (·.1):=Of.2 ⟨(y,none),OW.2 ⟨O9 k,rfl⟩,rfl⟩;have:∀(l:List PV),bq l=true->∀z∈l,z.one=true:=λl=>by
    induction l with
    |nil=>intro _ z hz;cases hz
    |cons z0 l ih=>
     intro H z hz;simp only[bq,Og]at H;rcases OB.1 hz with rfl|hz
     .exact H.1
     .exact ih H.2 z hz
   exact tI (this _ J y I) e3
  |some p=>
   rw[Ob,N j y p k]at hj;cases hj
   exact Gt Q (i j y p k)
 have d:(a.eval y).cells=vs:=by rw[L];rfl
 have X:=dD w H (a.eval y) (by rw[d,←OS,r]) (g.μ b) 0 T arr M (by rw[a2,f];omega) (by rw[d];exact A);rw[d]at X;obtain⟨O,ab⟩:=h.blockWriteO Q (w':=w.setRow (g.μ b) (splice arr.toList 0 vs.toList).toArray) (k0:=0) (ys:=xs.map (·.1)) (vs:=vs.toList) (arr':=(splice arr.toList 0 vs.toList).toArray) D (by rw[Oj,f];omega) M m A rfl (size_setRow _ _ _) (λc hc=>setRow_other w _ c _ hc) ⟨T,setRow_heap w _ arr _ T _ M⟩ (by simp);have Y:splice (st.h.getD b []) 0 ((xs.map (·.1)).map SV.pv)=(xs.map (·.1)).map SV.pv:=by
  unfold splice;rw[RI,OL,OK (by rw[Oj,Oj,f];omega),Pt]
 rw[Y,Oj]at O;have K:(splice arr.toList 0 vs.toList).toArray=vs:=by
  apply PX;show splice arr.toList 0 vs.toList=vs.toList;unfold splice;rw[RI,OL,OK (by rw[OS,a2,f,r];omega),Pt]
 rw[K]at O X;refine⟨vs,E,?_,O,λj v hj=>?_,N,λb' k' W R=>?_⟩
 .simp only[execOp,ho,Z,Instr.storeAt,Instr.sureAddr,Sem.run_bind,Sem.run_pure,Result.andThen_ok,X]
 .simp only[ak,setRow_heap w _ arr _ T _ M];rw[Ol,hj];rfl
 .have hμ:g.μ b'≠g.μ b:=λe=>W (h.μinj b' b (by rw[h.n];exact R) C e);simp only[ak];rw[setRow_other w _ _ _ hμ]
theorem Bo{P:Program}{st:St}(o:Oper)(t:TypeId)(x y:Operand)(b b' k k':Nat)(xs:List (PV×Option Pos))(v:Bool)(ho:o.op=.store t x y)(B:aI P t=some (v,xs.length))(hy:mv st y=.agl xs)(s:gc st y)
 (hx:mv st x=.pv (.ptr b 0)) (r:gc st x) (m:(st.h.getD b []).length=xs.length) (hp:kU xs=some (k,b',k')) (d:b'≠b) (c:(aa st (.cell b' k')).isOwn=true) (n:bq ((xs.filter λy=>y.2.isNone).map (·.1))=true):
 ∀g a w,Sim g st a w->∃w' g',(execOp a.eval o).run P w=.ok .skip w'∧g.to g'∧Sim g' (AX.carry ⟨aA (aD b 0 xs.length) st.t,st.h.set b ((xs.map (·.1)).map .pv)⟩ b' k' b k) a w':=by
 intro g a w h;obtain⟨⟨E,i⟩,e⟩:=sy hp;obtain⟨vs,f,C,z,D,A,hk⟩:=qi (P:=P) o t x y b xs v ho B hy s hx r m (λj y p hj=>by obtain⟨_,rfl⟩:=e j y p hj;exact c) n h;have q:b'<st.h.length:=by
  apply QA;intro hle;simp only[aa,N7 (l:=st.h),ON hle]at c;cases c
 have u:aa ⟨aA (aD b 0 xs.length) st.t,st.h.set b ((xs.map (·.1)).map .pv)⟩ (.cell b' k')=aa st (.cell b' k'):=by
  simp only[aa];rw[N7 (l:=st.h.set b _),OD,N8 (QZ d),N7 (l:=st.h)]
 refine⟨_,g,C,h.refl_to,z.carry (by rw[u];exact c) d (by simpa using f) ?_ ?_⟩
 .have:k<xs.length:=(N5.1 i).1;rw[N7,OD,N9 rfl,N9 f];simpa using this
 .rw[D k _ (A k E _ i),hk b' k' d q]
theorem xS{P:Program}{st:St}(o:Oper)(t:TypeId)(x y:Operand)(b:Nat)(xs:List (PV×Option Pos))(m:Bool)(ho:o.op=.store t x y)(r:aI P t=some (m,xs.length))(hy:mv st y=.agl xs)(k:gc st y)
 (hx:mv st x=.pv (.ptr b 0)) (i:gc st x) (d:(st.h.getD b []).length=xs.length) (f:∀(j:Nat)(y:PV)(s:Nat),xs[j]?=some (y,some (.slot s))->(look st.t s).isOwn=true) (l:∀(y:PV)(p:Pos),(y,some p)∈xs->∃s,p=.slot s) (e:bq ((xs.filter λy=>y.2.isNone).map (·.1))=true)
 (hin:(kQ b xs 0 ⟨aA (aD b 0 xs.length) st.t,st.h.set b ((xs.map (·.1)).map .pv)⟩).2):
 ∀g a w,Sim g st a w->∃w' g',(execOp a.eval o).run P w=.ok .skip w'∧g.to g'∧Sim g' (kQ b xs 0 ⟨aA (aD b 0 xs.length) st.t,st.h.set b ((xs.map (·.1)).map .pv)⟩).1 a w':=by
 intro g a w h;obtain⟨vs,c,u,n,v,q,hk⟩:=qi (P:=P) o t x y b xs m ho r hy k hx i d (λj y p hj=>by obtain⟨s,rfl⟩:=l y p (O9 hj);exact f j y s hj) e h;refine⟨_,g,u,h.refl_to,pN xs 0 n hin (by simpa using c) ?_ λj y s hj=>?_⟩
 .simp only;rw[N7,OD,N9 rfl,N9 c];simp
 .rw[O3,v j _ (q j y _ hj)];rfl
def zP(xs:List (PV×Option Pos)):Bool:=xs.any λz=>z.2.isSome
def vt(st:St):List (PV×Option Pos)->Prop
 |[]=>True
 |(_,some (.slot s))::r=>(look st.t s).isOwn=true∧vt st r
 |(_,some (.cell _ _))::_=>False
 |(x,none)::r=>x.one=true∧vt st r
theorem jw{st:St}:∀{xs:List (PV×Option Pos)},vt st xs->∀(j:Nat)(y:PV)(s:Nat),xs[j]?=some (y,some (.slot s))->(look st.t s).isOwn=true
 |[],_,j,y,s,h=>by simp at h
 |(x,some (.slot s'))::r,ho,0,y,s,h=>by simp at h;rw[←h.2];exact ho.1
 |(x,some (.slot s'))::r,ho,j+1,y,s,h=>jw ho.2 j y s (by simpa using h)
 |(x,some (.cell _ _))::r,ho,_,y,s,h=>ho.elim
 |(x,none)::r,ho,0,y,s,h=>by simp at h
 |(x,none)::r,ho,j+1,y,s,h=>jw ho.2 j y s (by simpa using h)
theorem pO{st:St}:∀{xs:List (PV×Option Pos)},vt st xs->∀(y:PV)(p:Pos),(y,some p)∈xs->∃s,p=.slot s
 |[],_,y,p,h=>by cases h
 |(x,some (.slot s'))::r,ho,y,p,h=>by
  rcases OB.1 h with e|h
  .cases e;exact⟨_,rfl⟩
  .exact pO ho.2 y p h
 |(x,some (.cell _ _))::r,ho,_,_,h=>ho.elim
 |(x,none)::r,ho,y,p,h=>by
  rcases OB.1 h with e|h
  .cases e
  .exact pO ho.2 y p h
theorem ns{st:St}:∀{xs:List (PV×Option Pos)},vt st xs->bq ((xs.filter λy=>y.2.isNone).map (·.1))=true
 |[],_=>rfl
 |(x,some (.slot s'))::r,ho=>by simpa using ns ho.2
 |(x,some (.cell _ _))::r,ho=>ho.elim
 |(x,none)::r,ho=>by
  have:=ns ho.2;simp only[O5,Option.isNone_none,PT,Ow,bq,Og];exact⟨ho.1,this⟩
def tR(st:St)(x y:Operand):Option (St×Nat×Prop):=
 match mv st y,mv st x with
 |.agl xs,.pv (.ptr b 0)=>match kU xs with
  |some (k,b',k')=>if b=b'+1∧b+1=st.h.length then
   some (carry ⟨aA (aD b 0 xs.length) st.t, st.h.set b ((xs.map (·.1)).map .pv)⟩ b' k' b k, xs.length,
    gc st y∧gc st x∧(st.h.getD b []).length=xs.length∧(aa st (.cell b' k')).isOwn=true∧bq ((xs.filter λy=>y.2.isNone).map (·.1))=true)
   else none
  |none=>if zP xs=true∧b+1=st.h.length then
   some ((kQ b xs 0 ⟨aA (aD b 0 xs.length) st.t, st.h.set b ((xs.map (·.1)).map .pv)⟩).1, xs.length,
    gc st y∧gc st x∧(st.h.getD b []).length=xs.length∧vt st xs∧(kQ b xs 0 ⟨aA (aD b 0 xs.length) st.t,st.h.set b ((xs.map (·.1)).map .pv)⟩).2)
   else none
 |_,_=>none
theorem Bp{P:Program}{st st':St}{x y:Operand}{n:Nat}{ok:Prop}(d:tR st x y=some (st',n,ok))(c:ok)(o:Oper)(t:TypeId){e:Bool}(ho:o.op=.store t x y)(f:aI P t=some (e,n)):
 ∀g a w,Sim g st a w->∃w' g',(execOp a.eval o).run P w=.ok .skip w'∧g.to g'∧Sim g' st' a w':=by
 unfold tR at d;split at d
 .rename_i xs b hy hx;split at d
  .rename_i k b' k' hp;split at d
   .rename_i h;simp only[OI,Py]at d;obtain⟨rfl,rfl,rfl⟩:=d;exact Bo o t x y b b' k k' xs e ho f hy c.1 hx c.2.1 c.2.2.1 hp (by omega) c.2.2.2.1 c.2.2.2.2
   .cases d
  .split at d
   .rename_i h;simp only[OI,Py]at d;obtain⟨rfl,rfl,rfl⟩:=d;exact xS o t x y b xs e ho f hy c.1 hx c.2.1 c.2.2.1 (jw c.2.2.2.1) (pO c.2.2.2.1) (ns c.2.2.2.1) c.2.2.2.2
   .cases d
 .cases d
def zQ(st:St)(s d:Nat):Option St:=
 match look st.t s with
 |.loc (.slot d') lo hi=>if d'=d∧lo=0 then
  match look st.t d with
  |.own nw e rows=>some ⟨(d,.own nw e (rows.take hi))::aA (cK d) st.t,st.h⟩
  |_=>none
  else none
 |_=>none
theorem CZ{P:Program}{st st':St}{s d:Nat}(b:zQ st s d=some st')(o:Oper)(ho:o.op=.assign (.tmp s))(hd:o.dst=some d){N:Nat}(c:d<N):
 ∀g a w,g.N=N->Sim g st a w->∃v w' g',(execOp a.eval o).run P w=.ok (.value v) w'∧g.to g'∧Sim g' st' (a.put o.dst v) w':=by
 unfold zQ at b;split at b
 .rename_i d' lo hi hs;split at b
  .rename_i f;obtain⟨rfl,rfl⟩:=f;split at b
   .rename_i nw e rows hp;cases b
    exact xN o s _ hi nw e rows ho hd hs hp c
   .cases b
  .cases b
 .cases b
def jx:List Oper->Option Nat->Bool
 |[],_=>false
 | o :: r, d => (match o.op, d with
  |.box _ (.tmp s),some d=>s==d
  |_,_=>false)||jx r d
def tT(st:St):List (Nat×Operand)->Bool
 |[]=>false
 | (_, x) :: r => (match mv st x with
  |.al p=>(aa st p).isOwn
  |_=>false)||tT st r
end Go.AX