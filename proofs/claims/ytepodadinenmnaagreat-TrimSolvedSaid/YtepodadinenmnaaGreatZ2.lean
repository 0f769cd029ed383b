/-
  AX, part W: maps that are made and written; slices that are made of zeros; and what follows.
-/
import Derived.Test.YtepodadinenmnaaGreatZ1
import Derived.Carry
import Derived.Laws.MakeOwn
namespace Go.AX
def iz:dw->Int->PV->dw
 |[],n,y=>[(n,y)]
 |(k,x)::r,n,y=>if k=n then(k,y)::r else(k,x)::iz r n y
theorem FZ{g:Gh}{kk:ce}{n:Int}:∀{es:dw}{en:List MapEntry}(_:cu g es en)(j:Nat),
 ∃ r, Instr.findNow (.int kk) (.int .i64 n) en j = some r ∧ (r = none ∧ (∀ m ∈ en, m.key ≠ .int .i64 n) ∧ (∀ y u born, Fit g y u -> cu g (iz es n y) (en ++ [{ key := .int .i64 n, val := u, born := born }])) ∨
  ∃i m,r=some (j+i,m.val)∧en[i]?=some m∧m.key=.int .i64 n∧∀y u,Fit g y u->cu g (iz es n y) (en.set i {m with key:=.int .i64 n,val:=u}))
 |[],en,h,j=>by
  simp only[cu]at h;subst h;exact⟨none,rfl,.inl ⟨rfl,by simp,λy u born hy=>⟨_,_,rfl,rfl,hy,rfl⟩⟩⟩
 |(k,x)::es,en,⟨m,r,h1,b,d,f⟩,j=>by
  subst h1;simp only[Instr.findNow,b,Instr.sameNow,Xl];by_cases hk:k=n;subst hk;simp only[Zd];refine⟨_,rfl,.inr ⟨0,m,rfl,rfl,b,λy u hy=>?_⟩⟩;simp only[iz,Xl,Zr];exact⟨_,_,rfl,rfl,hy,f⟩;have t:(n==k)=false:=by simp;exactλe=>hk e.symm
  simp only[t];obtain⟨z,o,c⟩:=FZ (n:=n) f (j+1);refine⟨z,o,?_⟩;rcases c with⟨rfl,l,c⟩|⟨i,v,rfl,p,q,s⟩;refine .inl ⟨rfl,λw a=>?_,λy u born hy=>?_⟩;rcases VU.1 a with rfl|a;rw[b];intro e;cases e;exact hk rfl;exact l w a;simp only[iz,Vs hk];exact⟨m,_,rfl,b,d,c y u born hy⟩;refine .inr ⟨i+1,v,by rw[Xf,Zz 1 i],by simpa using p,q,λy u hy=>?_⟩;simp only[iz,Vs hk,List.set_cons_succ];exact⟨m,_,rfl,b,d,s y u hy⟩
theorem yU(k:ce)(n:Int):Instr.sameBits 10000 (.int k n) (.int k n)=true:=by
 show Instr.sameBits (9999+1) _ _=true;simp[Instr.sameBits]
def lI(P:aa)(t:ah):Bool:=
 match P.underlying t with
 |some (.map k _)=>match P.underlying k with
  |some (.int _)=>true
  |_=>false
 |_=>false
theorem pE{P:aa}{st:St}(o:ai)(t:ah)(m k x:ae)(p:Pos)(nw:Bool)(es:dw)(ho:o.op=.mapUpdate t m k x∨o.op=.insert t m k x)(ht:lI P t=true)
 (C:(cR st x).2.2) (H:gc (cR st x).2.1 m) (Z:mv (cR st x).2.1 m=.al p) (hp:aj (cR st x).2.1 p=.omap nw es) (G:gc (cR st x).2.1 k) (hk:iu (mv (cR st x).2.1 k)) (J:ir (mv (cR st x).2.1 k)=.i64):
 ∀g a w,Sim g st a w->∃w' g',(execOp a.eval o).run P w=.ok .skip w'∧g.to g'∧Sim g' (setPos (cR st x).2.1 p (.omap nw (iz es (bC (mv (cR st x).2.1 k)) (cR st x).1))) a w':=by
 intro g a w h;have v:execOp a.eval o=execOp a.eval {o with op:=.mapUpdate t m k x}:=by
  rcases ho with ho|ho<;>simp only[execOp,ho]
 obtain⟨B,t1,l1,n1,E,Q⟩:=nK h x C;obtain⟨bl,S⟩:=E.own;obtain⟨_,R⟩:=bm E m H;rw[Z]at R;have hv:=R (by rw[hp];rfl);have y:=bT S (p:=p) (by rw[hp];rfl);rw[hp]at y;obtain⟨c,W,en,ck,O,A,V,F⟩:=y;have s:=cM E G hk;rw[J]at s;unfold lI at ht;split at ht
 case h_2=>cases ht
 rename_i N et T;split at ht
 case h_2=>cases ht
 rename_i kk q;have l:(getObj c).run P w=.ok (.map en ck) w:=MapKept.run_getObj_map A;obtain⟨r,k1,M⟩:=FZ (kk:=kk) (n:=bC (mv (cR st x).2.1 k)) V 0;have b:(Instr.findKey N (.int .i64 (bC (mv (cR st x).2.1 k))) en.toList).run P w=.ok r w:=by
  simp only[Instr.findKey,bD,cq q,bK,k1,bN]
 have K:=(VD.1 A).1;have fin:∀(d:Array MapEntry)(f:Nat),MapKept.Stamped d f->cu B (iz es (bC (mv (cR st x).2.1 k)) (cR st x).1) d.toList->
  Sim B (setPos (cR st x).2.1 p (.omap nw (iz es (bC (mv (cR st x).2.1 k)) (cR st x).1))) a {w with heap:=w.heap.setIfInBounds c (.map d f)}:=by
  intro d f L X;refine E.ownWrite S (by rw[hp];rfl) W rfl (by simp) (λj hj=>?_) ⟨c,rfl,d,f,O,?_,X,F.1,L⟩ rfl (λ_ _ _ Y=>by cases Y);show(w.heap.setIfInBounds c _)[j]?=_;rw[Zx (Yg hj)];show(w.heap.setIfInBounds c _)[c]?=_;simp[K]
 have u:a.eval m=.map (some c):=hv.trans O;rcases M with⟨rfl,k0,M⟩|⟨i,me,rfl,D,U,k5⟩;refine⟨_,B,?_,t1,fin (en.push {key:=.int .i64 (bC (mv (cR st x).2.1 k)),val:=a.eval x,born:=ck}) (ck+1) (MapKept.stamped_push F.2 k0) (by rw[Array.toList_push];exact M _ _ _ Q)⟩;rw[v];simp only[execOp,u,s,Instr.mapUpdate,bD,cq T,bK,l,db w _ N kk .i64 _ q,b,MapKept.run_setObj_map _ A,bN];rw[Wr]at b;refine⟨_,B,?_,t1,fin (en.modify i λe=>{e with key:=.int .i64 (bC (mv (cR st x).2.1 k)),val:=a.eval x}) ck (MapKept.stamped_modify F.2 i _ (λ_ _=>rfl) (λe _ C=>by rw[←Vw,D]at C;cases C;exact U.symm)) ?_⟩;have z:((en[i]?).map (·.key)).getD (.int .i64 (bC (mv (cR st x).2.1 k)))=.int .i64 (bC (mv (cR st x).2.1 k)):=by
  rw[←Vw,D];exact U
 rw[v];simp only[execOp,u,s,Instr.mapUpdate,bD,cq T,bK,l,db w _ N kk .i64 _ q,b,z,Instr.keyThatStays,yU,Xl,bN,MapKept.run_setObj_map _ A];have:(en.modify i λe=>{e with key:=.int .i64 (bC (mv (cR st x).2.1 k)),val:=a.eval x}).toList=en.toList.set i {me with key:=.int .i64 (bC (mv (cR st x).2.1 k)),val:=a.eval x}:=by
  apply Wv;intro j;rw[Vw,WZ,V2];split;rename_i I;subst I;rw[←Vw,D,Wq];simp only[Vt (Vp.1 D).1];rw[Vw]
 rw[this];exact k5 _ _ Q
def jy(n:Int):dw->dw
 |[]=>[]
 |(k,x)::r=>if k=n then r else(k,x)::jy n r
theorem F0{g:Gh}{kk:ce}{n:Int}:∀{es:dw}{en:List MapEntry}(_:cu g es en)(j:Nat),
 ∃r,Instr.findNow (.int kk) (.int .i64 n) en j=some r∧(r=none∧cu g (jy n es) en∨∃i u,r=some (j+i,u)∧i<en.length∧cu g (jy n es) (en.eraseIdx i))
 |[],en,h,j=>by
  simp only[cu]at h;subst h;exact⟨none,rfl,.inl ⟨rfl,rfl⟩⟩
 |(k,x)::es,en,⟨m,r,h1,b,c,d⟩,j=>by
  subst h1;simp only[Instr.findNow,b,Instr.sameNow,Xl];by_cases hk:k=n;subst hk;simp only[Zd];refine⟨_,rfl,.inr ⟨0,m.val,rfl,by simp,?_⟩⟩;simp only[jy,Xl,List.eraseIdx_cons_zero];exact d;have o:(n==k)=false:=by simp;exactλe=>hk e.symm
  simp only[o];obtain⟨p,f,a⟩:=F0 (n:=n) d (j+1);refine⟨p,f,?_⟩;simp only[jy,Vs hk];rcases a with⟨rfl,a⟩|⟨i,u,rfl,q,l⟩;exact .inl ⟨rfl,m,r,rfl,b,c,a⟩;refine .inr ⟨i+1,u,by rw[Xf,Zz 1 i],by simp;omega,?_⟩;rw[List.eraseIdx_cons_succ];exact⟨m,_,rfl,b,c,l⟩
theorem Dn{P:aa}{st:St}(o:ai)(t U:ah)(m k:ae)(p:Pos)(nw:Bool)(es:dw)(ho:o.op=.call {callee:=.builtin .delete,args:=#[m,k],argTypes:=#[t,U]}) (hd:o.dst=none) (ht:lI P t=true)
 (A:gc st m) (O:mv st m=.al p) (hp:aj st p=.omap nw es) (z:gc st k) (hk:iu (mv st k)) (B:ir (mv st k)=.i64):
 ∀g a w,Sim g st a w->∃v w' g',(execOp a.eval o).run P w=.ok (.value v) w'∧g.to g'∧Sim g' (setPos st p (.omap nw (jy (bC (mv st k)) es))) (a.put o.dst v) w':=by
 intro g a w h;obtain⟨bl,I⟩:=h.own;obtain⟨_,H⟩:=bm h m A;rw[O]at H;have Q:=H (by rw[hp];rfl);have s:=bT I (p:=p) (by rw[hp];rfl);rw[hp]at s;obtain⟨c,L,en,ck,G,x,K,y⟩:=s;have l:=cM h z hk;rw[B]at l;unfold lI at ht;split at ht
 case h_2=>cases ht
 rename_i F V J;split at ht
 case h_2=>cases ht
 rename_i kk f;have e:(getObj c).run P w=.ok (.map en ck) w:=MapKept.run_getObj_map x;obtain⟨r,R,E⟩:=F0 (kk:=kk) (n:=bC (mv st k)) K 0;have b:(Instr.findKey F (.int .i64 (bC (mv st k))) en.toList).run P w=.ok r w:=by
  simp only[Instr.findKey,bD,cq f,bK,R,bN]
 have C:=(VD.1 x).1;have fin:∀d:Array MapEntry,MapKept.Stamped d ck->cu g (jy (bC (mv st k)) es) d.toList->
  Sim g (setPos st p (.omap nw (jy (bC (mv st k)) es))) a {w with heap:=w.heap.setIfInBounds c (.map d ck)}:=by
  intro d D M;refine h.ownWrite I (by rw[hp];rfl) L rfl (by simp) (λj hj=>?_) ⟨c,rfl,d,ck,G,?_,M,y.1,D⟩ rfl (λ_ _ _ N=>by cases N);show(w.heap.setIfInBounds c _)[j]?=_;rw[Zx (Yg hj)];show(w.heap.setIfInBounds c _)[c]?=_;simp[C]
 have q:a.eval m=.map (some c):=Q.trans G;rw[hd];rcases E with⟨rfl,E⟩|⟨i,u,rfl,S,T⟩;refine⟨.tuple #[],_,g,?_,h.refl_to,fin en y.2 E⟩;simp[execOp,ho,resolve,invoke,builtin,q,l,Builtin.delete_,cq J,e,db w _ F kk .i64 _ f,b,MapKept.run_setObj_map _ x];refine⟨.tuple #[],_,g,?_,h.refl_to,fin (en.eraseIdxIfInBounds i) (MapKept.stamped_erase y.2 i) ?_⟩;rw[Wr]at b;simp[execOp,ho,resolve,invoke,builtin,q,l,Builtin.delete_,cq J,e,db w _ F kk .i64 _ f,b,MapKept.run_setObj_map _ x];have hi:i<en.size:=by simpa using S
 rw[Array.eraseIdxIfInBounds,dif_pos hi,Array.toList_eraseIdx];exact T
theorem AK{P:aa}{st:St}(o:ai)(t:ah)(d:Nat)(ho:o.op=.makeMap t none)(hd:o.dst=some d){N:Nat}(f:d<N):
 ∀g a w,g.N=N->Sim g st a w->∃v w' g',(execOp a.eval o).run P w=.ok (.value v) w'∧g.to g'∧Sim g' ⟨(d,.omap true [])::aW (dx d) st.t,st.h⟩ (a.put o.dst v) w':=by
 intro g a w i h;obtain⟨bl,e⟩:=h.own;refine⟨.map (some w.heap.size),w.alloc (.map #[] 0),g,?_,h.refl_to,?_⟩;simp only[execOp,ho,X0,bD,Go.RowKit.run_makeMap,bK,bN];rw[hd];refine h.putOwn e (i▸f) rfl (by simp) (λc b _=>heap_alloc_old w _ b) (o:=some w.heap.size) ⟨w.heap.size,rfl,#[],0,rfl,heap_alloc_new w _,rfl,λ_=>h.B,MapKept.stamped_empty 0⟩ rfl (λc b=>?_);cases b;exact⟨by simp,h.fresh e (Vu _)⟩
def Do(st:St):Option ae->Prop
 |none=>True
 |some x=>gc st x∧iu (mv st x)
theorem yV{P:aa}{st:St}(o:ai)(t:ah)(r:Option ae)(d:Nat)(ho:o.op=.makeMap t r)(hd:o.dst=some d)(f:lI P t=true)(m:Do st r){N:Nat}(i:d<N):
 ∀g a w,g.N=N->Sim g st a w->∃v w' g',(execOp a.eval o).run P w=.ok (.value v) w'∧g.to g'∧Sim g' ⟨(d,.omap true [])::aW (dx d) st.t,st.h⟩ (a.put o.dst v) w':=by
 intro g a w l h;cases r with
 |none=>exact AK o t d ho hd i g a w l h
 |some x=>
  obtain⟨bl,j⟩:=h.own;unfold lI at f;split at f
  case h_2=>cases f
  rename_i k e n;refine⟨.map (some w.heap.size),w.alloc (.map #[] 0),g,?_,h.refl_to,?_⟩;simp only[execOp,ho,Wq,bD,cM h m.1 m.2,Instr.makeMap,cq n,bK,asInt,asIntOf,bN];rfl;rw[hd];refine h.putOwn j (l▸i) rfl (by simp) (λc b _=>heap_alloc_old w _ b) (o:=some w.heap.size) ⟨w.heap.size,rfl,#[],0,rfl,heap_alloc_new w _,rfl,λ_=>h.B,MapKept.stamped_empty 0⟩ rfl (λc b=>?_);cases b;exact⟨by simp,h.fresh j (Vu _)⟩
def qa:aD->Bool
 |[]=>true
 |.lit v::r=>v.oneCell'&&qa r
 |_=>false
def Dp(P:aa)(st:St)(t:ah)(x:ae)(K:St->Prop):Prop:=
 match mv st x,eq P t with
 |.pv (.bsl b 1 off n _),some [.lit z]=>gc st x∧z.cells=#[z]∧z.oneCell'=true∧0<n∧off+n<=(st.h.getD b []).length∧
  K ⟨aW (a8 b off n) st.t,st.h.set b (splice (st.h.getD b []) off (List.replicate n (.pv (.lit z))))⟩
 |.pv (.bsl b e off n _),some zs=>gc st x∧qa zs=true∧zs.length=e∧0<e∧0<n∧off+n*e<=(st.h.getD b []).length∧
  K ⟨aW (a8 b off (n*e)) st.t,st.h.set b (splice (st.h.getD b []) off (List.replicate n (zs.map .pv)).flatten)⟩
 |_,_=>False
theorem xm:∀{zs:aD},qa zs=true->∃vs:aG,zs=vs.map .lit∧∀v∈vs,v.oneCell'=true
 |[],_=>⟨[],rfl,by simp⟩
 |x::r,h=>by
  cases x with
  |lit v=>
   simp only[qa,VC]at h;obtain⟨vs,e,h1⟩:=xm h.2;exact⟨v::vs,by rw[e];rfl,λu a=>by
    rcases VU.1 a with rfl|a;exact h.1;exact h1 u a⟩
  |_=>simp[qa]at h
theorem tb:∀{a b:aG},a.map PV.lit=b.map PV.lit->a=b
 |[],[],_=>rfl
 |[],_::_,h=>by simp at h
 |_::_,[],h=>by simp at h
 |x::a,y::b,h=>by
  simp only[VP,XR,PV.lit.injEq]at h;rw[h.1,tb h.2]
theorem nM(z:Array an):∀n,(Builtin.zeroCells z n).toList=(List.replicate n z.toList).flatten
 |0=>by simp[Builtin.zeroCells]
 |n+1=>by
  have a:=nM z n;simp only[Builtin.zeroCells,YT,Array.toList_range]at a⊢;rw[Xm,List.range_add,V1,a,aah,Zi];congr 1;simp only[Yu,List.flatten_nil,WF];apply Yq;simp;intro i h1 b;have hi:i<z.size:=by simpa using b
  simp only[ZC,ZQ];have c:(n*z.size+i) %z.size=i:=by rw[Nat.mul_comm,Nat.mul_add_mod,ZD hi]
  rw[c,XW z i hi];simp
theorem Dq{P:aa}{st:St}(o:ai)(t:ah)(x:ae)(b e off n cap:Nat)(zs:aD)(ho:o.op=.call {callee:=.builtin .clear,args:=#[x],argTypes:=#[t]}) (hd:o.dst=none)
 (Q:mv st x=.pv (.bsl b e off n cap)) (hz:eq P t=some zs) (N:gc st x) (B:qa zs=true) (M:zs.length=e) (h0:0<e) (hn:0<n) (f:off+n*e<=(st.h.getD b []).length):
 ∀g a w,Sim g st a w->∃v w' g',(execOp a.eval o).run P w=.ok (.value v) w'∧g.to g'∧Sim g' ⟨aW (a8 b off (n*e)) st.t,st.h.set b (splice (st.h.getD b []) off (List.replicate n (zs.map .pv)).flatten)⟩ (a.put o.dst v) w':=by
 intro g a w h;obtain⟨vs,rfl,h1⟩:=xm B;have d:vs.length=e:=by simpa using M
 obtain⟨J,_⟩:=bm h x N;rw[Q]at J;obtain⟨_,y,_,D⟩:=J;have z:b<st.h.length:=h.n▸y;have k:st.h[b]?=some (st.h.getD b []):=by simp[List.getD,Vq z]
 obtain⟨bl,A⟩:=h.own;obtain⟨arr,T,u,⟨K,_⟩,_⟩:=A.blocks b _ k;unfold eq at hz;split at hz
 case h_2=>cases hz
 rename_i L R;unfold dL at hz;split at hz
 case h_2=>cases hz
 rename_i U p;simp only[VW]at hz;obtain⟨z',E,I⟩:=hz;have F:z'.cells.toList=vs:=tb I;have j:((List.replicate n vs).flatten).length=n*e:=by
  rw[aap,Xq,Z7,d]
 have i:∀v∈(List.replicate n vs).flatten,v.oneCell'=true:=λv S=>by
  obtain⟨l,O,d⟩:=List.mem_flatten.1 S;rw[Yn O]at d;exact h1 v d
 have r:(Builtin.clear_ #[t] o.type #[.slice (some ⟨g.μ b,off,none⟩) n cap]).run P w=.ok (.tuple #[]) (w.setRow (g.μ b) (splice arr.toList off (List.replicate n vs).flatten).toArray):=by
  have G:(Builtin.zeroCells z'.cells n).toList=(List.replicate n vs).flatten:=by rw[nM,F]
  have s:=run_storeCells_at P (g.μ b) off T ((List.replicate n vs).flatten) 0 arr w u (by rw[K,j];simpa using f) i;simp only[Ye]at s;obtain⟨m,rfl⟩:∃m,n=m+1:=⟨n -1,by omega⟩;have H:(zeroValue L).run P w=.ok z' w:=by simp[zeroValue,typeInfo,p,E]
  simp only[Builtin.clear_];simp[cq R,H,G,s,splice]
 refine⟨.tuple #[],w.setRow (g.μ b) (splice arr.toList off (List.replicate n vs).flatten).toArray,g,?_,h.refl_to,?_⟩;simp[execOp,ho,resolve,invoke,builtin,D,r];rw[hd];have C:ax g ((List.replicate n (vs.map PV.lit)).flatten) ((List.replicate n vs).flatten):=by
  have:=fi g ((List.replicate n vs).flatten)
  rwa [ZE,Xq]at this
 have q:((List.replicate n (vs.map PV.lit)).flatten).length=n*e:=by
  rw[aap,Xq,Z7,VA,d]
 have:=h.blockWrite (ys:=(List.replicate n (vs.map PV.lit)).flatten) (w':=w.setRow (g.μ b) (splice arr.toList off (List.replicate n vs).flatten).toArray) k (by rw[q];exact f) u C i rfl (size_setRow _ _ _) (λc B=>setRow_other w _ c _ B) ⟨T,setRow_heap w _ arr _ T _ u⟩ (by simp);rw[q,ZE,Xq]at this;exact this
theorem HX{P:aa}{st:St}(o:ai)(t:ah)(x:ae)(b off n cap:Nat)(z:an)(ho:o.op=.call {callee:=.builtin .clear,args:=#[x],argTypes:=#[t]}) (hd:o.dst=none)
 (O:mv st x=.pv (.bsl b 1 off n cap)) (hz:eq P t=some [.lit z]) (N:gc st x) (C:z.cells=#[z]) (h1:z.oneCell'=true) (hn:0<n) (f:off+n<=(st.h.getD b []).length):
 ∀g a w,Sim g st a w->∃v w' g',(execOp a.eval o).run P w=.ok (.value v) w'∧g.to g'∧Sim g' ⟨aW (a8 b off n) st.t,st.h.set b (splice (st.h.getD b []) off (List.replicate n (.pv (.lit z))))⟩ (a.put o.dst v) w':=by
 intro g a w h;obtain⟨I,_⟩:=bm h x N;rw[O]at I;obtain⟨_,u,_,F⟩:=I;have A:b<st.h.length:=h.n▸u;have k:st.h[b]?=some (st.h.getD b []):=by simp[List.getD,Vq A]
 obtain⟨bl,B⟩:=h.own;obtain⟨arr,T,s,⟨L,_⟩,_⟩:=B.blocks b _ k;unfold eq at hz;split at hz
 case h_2=>cases hz
 rename_i M Q;unfold dL at hz;split at hz
 case h_2=>cases hz
 rename_i S l;simp only[VW]at hz;obtain⟨z',G,d⟩:=hz;have j:z'=z∨z'.cells=#[z]:=by
  have:z'.cells.toList=[z]:=by
   cases J:z'.cells.toList with
   |nil=>rw[J]at d;simp at d
   |cons y ys=>
    rw[J]at d;simp only[VP,XR,PV.lit.injEq,Zj]at d;rw[d.1,d.2]
  exact .inr (by apply WW;rw[this])
 have r:z'.cells=#[z]:=j.elim (λe=>e▸C) id;have K:z'.cells.size=1:=by rw[r];rfl
 have p:(Builtin.clear_ #[t] o.type #[.slice (some ⟨g.μ b,off,none⟩) n cap]).run P w=.ok (.tuple #[]) (w.setRow (g.μ b) (splice arr.toList off (List.replicate n z)).toArray):=by
  have H:(Builtin.zeroCells z'.cells n).toList=List.replicate n z:=by
   rw[r];simp[Builtin.zeroCells];apply Yq;simp;intro i h1 U;simp[Nat.mod_one]
  have q:=run_storeCells_at P (g.μ b) off T (List.replicate n z) 0 arr w s (by rw[L];simpa using f) (by intro v E;rw[Yn E];exact h1);simp only[Ye]at q;obtain⟨m,rfl⟩:∃m,n=m+1:=⟨n -1,by omega⟩;have j:(zeroValue M).run P w=.ok z' w:=by simp[zeroValue,typeInfo,l,G]
  simp[Builtin.clear_,cq Q,j,H,q,splice]
 refine⟨.tuple #[],w.setRow (g.μ b) (splice arr.toList off (List.replicate n z)).toArray,g,?_,h.refl_to,?_⟩;simp[execOp,ho,resolve,invoke,builtin,F,p];rw[hd];have D:ax g (List.replicate n (.lit z)) (List.replicate n z):=by
  have:=fi g (List.replicate n z)
  rwa [Xq]at this
 have:=h.blockWrite (ys:=List.replicate n (.lit z)) (w':=w.setRow (g.μ b) (splice arr.toList off (List.replicate n z)).toArray) k (by simpa using f) s D (λv R=>by rw[Yn R];exact h1) rfl (size_setRow _ _ _) (λc C=>setRow_other w _ c _ C) ⟨T,setRow_heap w _ arr _ T _ s⟩ (by simp);rw[Ym,Xq]at this;exact this
theorem sk(z:Array an)(e:Nat)(a:z.size=e):∀k,(madeCells z (k*e)).toList=(List.replicate k z.toList).flatten
 |0=>by simp[madeCells]
 |k+1=>by
  have b:=sk z e a k;simp only[madeCells,YT,Array.toList_range]at b⊢;rw[Xm,List.range_add,V1,b,aah,Zi];congr 1;simp only[Yu,List.flatten_nil,WF,Wo];apply Wv;intro i;simp only[VO];by_cases hi:i<e;rw[aao hi];simp only[Wq,Function.comp_apply];rw[a,Zz (k*e) i,Nat.add_mul_mod_self_right,ZD hi];have:i<z.size:=by omega
  simp[this];rw[V4 (by simpa using hi),V4 (by simp[a];omega)];rfl
theorem nN{g:Gh}{e:Nat}{zs:aD}{a:aG}(h:ax g zs a)(b:zs.length=e)(ho:∀v∈a,v.oneCell'=true):∀n,aK g e (List.replicate n zs) ((List.replicate n a).flatten)
 |0=>rfl
 |n+1=>by
  simp only[Yv,Yu];exact⟨a,_,rfl,⟨b,ho⟩,h,nN h b ho n⟩
theorem wP{P:aa}{st:St}(o:ai)(t:ah)(x y:ae)(d e b:Nat)(zs:aD)(ho:o.op=.makeSlice t x y)(hd:o.dst=some d)(hi:cF P t=some (e,b))(hz:eq P t=some zs)(h1:cz zs=true)(J:0<b)
 (A:gc st x) (C:gc st y) (hx:iu (mv st x)) (hy:iu (mv st y)) (h0:0<=bC (mv st x)) (hle:bC (mv st x)<=bC (mv st y)) (r:bC (mv st y)*b<=140737488355328) {N:Nat} (I:d<N):
 ∀g a w,g.N=N->Sim g st a w->∃v w' g',(execOp a.eval o).run P w=.ok (.value v) w'∧g.to g'∧
  Sim g' ⟨(d,.own true e (List.replicate (bC (mv st x)).toNat zs))::aW (dx d) st.t,st.h⟩ (a.put o.dst v) w':=by
 intro g a w L h;obtain⟨bl,E⟩:=h.own;unfold cF at hi;split at hi
 case h_2=>cases hi
 rename_i q F;unfold eq at hz;rw[F]at hz;simp only at hz;cases f:P.info? q with
 |none=>rw[f]at hi;cases hi
 |some j=>
  rw[f]at hi;simp only[dL,f,VW]at hz;obtain⟨z,hz,rfl⟩:=hz;simp only at hi;rw[hz]at hi;simp only at hi;split at hi
  case isFalse=>cases hi
  rename_i n;cases hi;have G:=cM h A hx;have H:=cM h C hy;generalize bC (mv st x)=l at*;generalize bC (mv st y)=c at*;have u:0<=c:=by omega
  have K:c*1<=c*(j.bytes:Int):=Int.mul_le_mul_of_nonneg_left (by omega) u;have p:=run_make (P:=P) (w:=w) t q j z F f hz (ir (mv st x)) (ir (mv st y)) l c h0 hle (by rw[Int.mul_comm];omega) (by omega);have i:ax g (z.cells.toList.map PV.lit) z.cells.toList:=fi g _;have m:=ep h1 i;refine⟨.slice (some ⟨w.heap.size,0,none⟩) l.toNat c.toNat,w.alloc (.cells (madeCells z.cells (c.toNat*j.size)) q),g,?_,h.refl_to,?_⟩;simp only[execOp,ho,G,H,bD,p,bK,bN];rw[hd];refine h.putOwn E (L▸I) rfl (by simp) (λk hk _=>heap_alloc_old w _ hk) (o:=some w.heap.size) ?_ rfl (λk hk=>?_);refine .inr ⟨w.heap.size,rfl,c.toNat,_,q,(List.replicate l.toNat z.cells.toList).flatten,by rw[Ym],heap_alloc_new w _,?_,⟨?_,?_,?_⟩,?_,?_,λ_=>h.B⟩;exact size_madeCells _ _;rw[Ym];omega;show c.toNat<=2^63 -1;omega;rw[sk z.cells j.size n.1];intro v s;obtain⟨l',D,s⟩:=List.mem_flatten.1 s;rw[Yn D]at s;exact m v s;exact nN i (by simpa using n.1) m _;rw[sk z.cells j.size n.1];refine⟨(List.replicate (c.toNat -l.toNat) z.cells.toList).flatten,?_⟩;rw[←Zi,List.replicate_append_replicate];congr 2;omega;cases hk;exact⟨by simp,h.fresh E (Vu _)⟩
theorem qT{a:Act}{s:Nat}(h:s<a.tmps.size):a.put (some s) (a.tmps.getD s undef)=a:=by
 cases a with
 |mk t d=>
  simp only at h;simp only[Act.put,Act.mk.injEq,aaw];apply Array.ext_getElem?;intro i;rw[Wy];split;rename_i e;subst e;simp[h];rfl
theorem Sim.looks{g:Gh}{st st':St}{a:Act}{w:ab}(h:Sim g st a w)(d:st'.h=st.h)(ht:∀s,look st'.t s=look st.t s):Sim g st' a w:=by
 obtain⟨bl,c⟩:=h.own;have hp:∀p,aj st' p=aj st p:=λp=>by
  cases p with
  |slot s=>exact ht s
  |cell b k=>simp only[aj,d]
 exact{
  size:=h.size,defs:=h.defs,env:=h.env,n:=by rw[d];exact h.n,n0:=h.n0,B:=h.B,I:=h.I,F:=h.F,μI:=h.μI,μinj:=h.μinj,
  own:=⟨bl,{slots:=λs=>by rw[ht s];exact c.slots s,blocks:=λb xs hx=>c.blocks b xs (by rw[←d];exact hx),inj:=c.inj,free:=c.free}⟩,
  al:=λs=>by rw[ht s];exact cL.congr (λp _=>⟨hp p,rfl⟩) (h.al s)}
theorem N7{g:Gh}{w:ab}{nw:Bool}{e:Nat}{rows:aT}{v:an}{o:Option Nat}(h:aO g w (.own nw e rows) v o){hi:Nat}(b:hi<=rows.length){q:Option Addr}{n cap:Nat}(f:v=.slice q n cap):
 aO g w (.own nw e (rows.take hi)) (.slice q hi cap) o:=by
 rcases h with⟨rfl,rfl,a⟩|⟨c,r,d,arr,T,vs,a,i,j,k,l,m,p⟩;left;simp only[List.length_nil,Nat.le_zero]at b;subst b;rw[f]at a;simp only[Value.slice.injEq]at a;obtain⟨rfl,_,rfl⟩:=a;exact⟨rfl,by simp,rfl⟩;right;rw[f]at a;simp only[Value.slice.injEq]at a;obtain⟨rfl,rfl,rfl⟩:=a;refine⟨c,r,cap,arr,T,vs.take (hi*e),by rw[Vy,WL b],i,j,⟨by rw[Vy];omega,k.2⟩,?_,(Ze _ _).trans m,p⟩;have:=aK.cut l 0 hi (VH _) b;simpa using this
theorem t7{g:Gh}{st:St}{a:Act}{w:ab}{bl:Pos->Option Nat}(f:Owns g st a w bl){p:Pos}{hi:Nat}{nw:Bool}{e:Nat}{rows:aT}{v:an}(hp:aj st p=.own nw e rows)(d:cL g st a w (.loc p 0 hi) v):
 aO g w (.own nw e (rows.take hi)) v (bl p):=by
 have b:=bT f (p:=p) (by rw[hp];rfl);rw[hp]at b;obtain⟨_,c,q,cap,h,_,_,hz⟩:=d _ _ _ hp;obtain⟨n0,hz⟩:=hz rfl;have:=N7 b c hz;rw[h];simpa using this
theorem jN{g:Gh}{w:ab}{x:SV}{v:an}{o:Option Nat}(hx:x.isOwn=true)(h:aO g w x v o):v.cells=#[v]∧v.oneCell'=true:=by
 cases x with
 |own nw e rows=>
  rcases h with⟨_,_,rfl⟩|⟨c,_,cap,arr,T,vs,rfl,_⟩<;>exact⟨rfl,rfl⟩
 |omap nw es=>obtain⟨c,_,en,ck,rfl,_⟩:=h;exact⟨rfl,rfl⟩
 |_=>cases hx
theorem uA(q:Pos->Bool)(x:SV):dq q (dq q x)=dq q x:=by
 rcases b6 q x with e|⟨e,_⟩;rw[e];rfl;rw[e,e]
theorem Sim.adopt{g:Gh}{st:St}{a:Act}{w:ab}(h:Sim g st a w){bl:Pos->Option Nat}(v:Owns g st a w bl){b k:Nat}{xs:bj}(hx:st.h[b]?=some xs)(hk:k<xs.length){sv:SV}{o:Option Nat}
 (hs:aO g w sv (aA g a w (.cell b k)) o) (ho:sv.isOwn=true) (E:∀c,o=some c->c<w.heap.size∧FreeAt g bl c):
 Sim g ⟨aW (a8 b k 1) st.t,st.h.set b (xs.set k sv)⟩ a w∧Owns g ⟨aW (a8 b k 1) st.t,st.h.set b (xs.set k sv)⟩ a w (λp=>if p=.cell b k then o else bl p):=by
 have y:b<st.h.length:=(Vp.1 hx).1;have z:∀p,a8 b k 1 p=false->(aj ⟨aW (a8 b k 1) st.t,st.h.set b (xs.set k sv)⟩ p).isOwn=true->
  aj ⟨aW (a8 b k 1) st.t,st.h.set b (xs.set k sv)⟩ p=aj st p∧aA g a w p=aA g a w p:=by
  intro p m hp;refine⟨?_,rfl⟩;cases p with
  |slot s=>simp only[aj,bI]at hp⊢;exact fh hp
  |cell b' k'=>
   simp only[aj,Vr,V2];by_cases f:b=b';subst f;have i:k≠k':=λe=>by subst e;simp[a8]at m
   rw[Vt rfl,Vt y,hx];simp only[V7,VL i];rw[Vs f]
 have l:Owns g ⟨aW (a8 b k 1) st.t,st.h.set b (xs.set k sv)⟩ a w (λp=>if p=.cell b k then o else bl p):=by
  refine{slots:=λs=>?_,blocks:=λb' G j=>?_,inj:=λp q c hp m=>?_,free:=λp c hp=>?_};rw[Vs (by intro e;cases e),bI];exact aO.kill _ (v.slots s);rw[V2]at j;split at j
  .rename_i f;subst f
   try rw[Vt y]at j
   cases j;obtain⟨arr,T,r,u,A⟩:=v.blocks b xs hx;refine⟨arr,T,r,⟨by rw[VQ];exact u.1,u.2⟩,λk' x d=>?_⟩;rw[V2]at d;split at d
   .rename_i i;subst i
    try rw[Vt hk]at d
    cases d;rw[Vt rfl];refine⟨(by cases sv<;>first|rfl|cases ho),?_⟩;simpa[aA,r]using hs
   rename_i i;rw[Vs (by intro e;cases e;exact i rfl)];exact A k' x d
  rename_i f;obtain⟨arr,T,r,u,A⟩:=v.blocks b' G j;refine⟨arr,T,r,u,λk' x d=>?_⟩;rw[Vs (by intro e;cases e;exact f rfl)];exact A k' x d;split at hp;rename_i r;split at m;rename_i u;rw[r,u];exact absurd m ((E c hp).2.own q);split at m;exact absurd hp ((E c m).2.own p);exact v.inj p q c hp m;split at hp;obtain⟨h1,C⟩:=E c hp;exact⟨C.I,C.F,h1,C.μ⟩;exact v.free p c hp
 refine⟨{size:=h.size,defs:=h.defs,env:=h.env,n:=by simp only[VQ];exact h.n,n0:=h.n0,B:=h.B,I:=h.I,F:=h.F,μI:=h.μI,μinj:=h.μinj,own:=⟨_,l⟩,al:=λs=>?_},l⟩;rw[bI];rcases b6 (a8 b k 1) (look st.t s)with e|⟨e,D⟩;rw[e];trivial;rw[e];exact cL.congrA z D (h.al s)
def lJ(st:St)(s b k:Nat):St:=⟨(s,.al (.cell b k))::aW (a8 b k 1) st.t,st.h.set b ((st.h.getD b []).set k (look st.t s))⟩
theorem F2{g:Gh}{st:St}{a:Act}{w:ab}(h:Sim g st a w){s:Nat}(ho:(look st.t s).isOwn=true):s<a.tmps.size:=by
 obtain⟨bl,f⟩:=h.own;have hs:=f.slots s;apply Yy;intro hle;have i:a.tmps.getD s undef=undef:=by rw[VJ,W9 hle];rfl
 rw[i]at hs;cases d:look st.t s with
 |own nw e rows=>rw[d]at hs;rcases hs with⟨_,_,b⟩|⟨c,_,cap,arr,T,vs,b,_⟩<;>cases b
 |omap nw es=>rw[d]at hs;obtain⟨c,_,en,ck,b,_⟩:=hs;cases b
 |_=>rw[d]at ho;cases ho
theorem Sim.moveTo{g:Gh}{st:St}{a:Act}{w:ab}(h:Sim g st a w){s b k:Nat}{xs:bj}(ho:(look st.t s).isOwn=true)(hx:st.h[b]?=some xs)(hk:k<xs.length)(p:aA g a w (.cell b k)=a.tmps.getD s undef):
 Sim g (lJ st s b k) a w:=by
 obtain⟨bl,i⟩:=h.own;have f:=F2 h ho;obtain⟨h1,q,j,_,_,e⟩:=h.drop i (.slot s);have hs:=i.slots s;have l:(setPos st (.slot s) (.pv .bot)).h[b]?=some xs:=hx;obtain⟨r,_⟩:=h1.adopt j l hk (sv:=look st.t s) (o:=bl (.slot s)) (by rw[p];exact hs) ho (λc n=>⟨(i.free _ c n).2.2.1,e c n⟩);have m:=r.put (d:=s) (sv:=.al (.cell b k)) (v:=a.tmps.getD s undef) (by rw[←h.size];exact f) rfl (λ_=>p.symm) rfl;rw[qT f]at m;refine m.looks ?_ ?_;simp[lJ,St.put,setPos,Vr,hx];intro s';simp only[lJ,St.put,look,setPos,bI];split<;>rfl
theorem Dr{P:aa}{st:St}(o:ai)(t:ah)(x y:ae)(b off s:Nat)(W:Bool)(ho:o.op=.store t x y)(hl:aZ P t=some (W,1))(hy:mv st y=.al (.slot s))(O:gc st y)(j:(look st.t s).isOwn=true)
 (hx:mv st x=.pv (.ptr b off)) (N:gc st x) (f:off<(st.h.getD b []).length):
 ∀g a w,Sim g st a w->∃w' g',(execOp a.eval o).run P w=.ok .skip w'∧g.to g'∧Sim g' (lJ st s b off) a w':=by
 intro g a w h;obtain⟨G,_⟩:=bm h x N;rw[hx]at G;obtain⟨_,A,R⟩:=G;obtain⟨_,z⟩:=bm h y O;rw[hy]at z;have I:a.eval y=a.tmps.getD s undef:=z j;have E:b<st.h.length:=h.n▸A;have C:st.h[b]?=some (st.h.getD b []):=by simp[List.getD,Vq E]
 obtain⟨bl,K⟩:=h.own;have H:=F2 h j;have hs:=K.slots s;obtain⟨hcl,m⟩:=jN j hs;rw[←I]at hs hcl m;obtain⟨arr,T,J,⟨S,_⟩,_⟩:=K.blocks b _ C;have V:=eZ w hl (a.eval y) (by rw[hcl];rfl) (g.μ b) off T arr J (by rw[S];exact f) (by rw[hcl];simpa using m);obtain⟨h1,L,B,_,_,l⟩:=h.drop K (.slot s);rw[hcl]at V;have D:(setPos st (.slot s) (.pv .bot)).h[b]?=some (st.h.getD b []):=C;obtain⟨h2,M⟩:=h1.blockWriteO B (w':=w.setRow (g.μ b) (splice arr.toList off [a.eval y]).toArray) (k0:=off) (ys:=[.bot]) (vs:=[a.eval y]) (arr':=(splice arr.toList off [a.eval y]).toArray) D f J ⟨_,_,rfl,trivial,rfl⟩ (by simpa using m) rfl (size_setRow _ _ _) (λc q=>setRow_other w _ c _ q) ⟨T,setRow_heap w _ arr _ T _ J⟩ (by simp);have F:∀c,bl (.slot s)=some c->FreeAt g (λp=>if a8 b off 1 p=true then none else L p) c:=λc q=>by
  obtain⟨Y,Z,f3,f4⟩:=l c q;refine⟨Y,Z,f3,λp hp=>?_⟩;split at hp;cases hp;exact f4 p hp
 have r:aA g a (w.setRow (g.μ b) (splice arr.toList off [a.eval y]).toArray) (.cell b off)=a.eval y:=by
  simp only[aA,setRow_heap w _ arr _ T _ J];rw[VJ,←Vw,fA (by simp[S];exact f)];simp
 have Q:aO g (w.setRow (g.μ b) (splice arr.toList off [a.eval y]).toArray) (look st.t s) (a.eval y) (bl (.slot s)):=
  aO.frame (Gh.le.refl g) (λc q=>setRow_other w _ c _ (λe=>(l c q).μ b A e.symm)) hs
 have u:(st.h.set b (splice (st.h.getD b []) off ([PV.bot].map .pv)))[b]?=some (splice (st.h.getD b []) off ([PV.bot].map .pv)):=by
  rw[V2,Vt rfl,Vt E]
 obtain⟨h3,_⟩:=h2.adopt M (k:=off) (xs:=splice (st.h.getD b []) off ([PV.bot].map .pv)) u (by rw[cJ f];exact f) (sv:=look st.t s) (o:=bl (.slot s)) (by rw[r];exact Q) j
  (λc q=>⟨by rw[size_setRow];exact(K.free _ c q).2.2.1,F c q⟩)
 have U:=h3.put (d:=s) (sv:=.al (.cell b off)) (v:=a.tmps.getD s undef) (by rw[←h.size];exact H) rfl (λ_=>by rw[r,I]) rfl;rw[qT H]at U;refine⟨_,g,?_,h.refl_to,U.looks ?_ ?_⟩;simp only[execOp,ho,R,Instr.storeAt,Instr.sureAddr,bD,bN,bK,V];have X:(splice (st.h.getD b []) off ([PV.bot].map .pv)).set off (look st.t s)=(st.h.getD b []).set off (look st.t s):=by
  apply Wv;intro i;rw[V2,V2,cJ f,fA f];by_cases hi:off=i;rw[Vt hi,Vt hi];rw[Vs hi,Vs hi,Vs (by simp;omega)]
 simp only[lJ,St.put,setPos,YD,X];intro s';simp only[lJ,St.put,look,setPos,bI];split;rfl;exact(uA (a8 b off 1) (look st.t s')).symm
theorem HY{P:aa}{st:St}(o:ai)(t:ah)(x y:ae)(b off hi:Nat)(nw:Bool)(e:Nat)(rows:aT)(J:Bool)(ho:o.op=.store t x y)(R:aZ P t=some (J,1))(hy:mv st y=.loc (.cell b off) 0 hi)(E:gc st y)(hp:aj st (.cell b off)=.own nw e rows)
 (hx:mv st x=.pv (.ptr b off)) (D:gc st x):
 ∀g a w,Sim g st a w->∃w' g',(execOp a.eval o).run P w=.ok .skip w'∧g.to g'∧Sim g' ⟨aW (a8 b off 1) st.t,st.h.set b ((st.h.getD b []).set off (.own nw e (rows.take hi)))⟩ a w':=by
 intro g a w h;obtain⟨z,_⟩:=bm h x D;rw[hx]at z;obtain⟨_,r,G⟩:=z;obtain⟨_,q⟩:=bm h y E;rw[hy]at q;have u:b<st.h.length:=h.n▸r;have s:st.h[b]?=some (st.h.getD b []):=by simp[List.getD,Vq u]
 have d:off<(st.h.getD b []).length:=by
  apply Yy;intro hle;simp only[aj]at hp;rw[Vr,V4 hle]at hp;cases hp
 obtain⟨bl,l⟩:=h.own;have hs:=t7 l hp q;obtain⟨hcl,j⟩:=jN (x:=.own nw e (rows.take hi)) rfl hs;obtain⟨arr,T,B,⟨H,_⟩,_⟩:=l.blocks b _ s;have I:=eZ w R (a.eval y) (by rw[hcl];rfl) (g.μ b) off T arr B (by rw[H];exact d) (by rw[hcl];simpa using j);rw[hcl]at I;obtain⟨O,C⟩:=h.blockWriteO l (w':=w.setRow (g.μ b) (splice arr.toList off [a.eval y]).toArray) (k0:=off) (ys:=[.bot]) (vs:=[a.eval y]) (arr':=(splice arr.toList off [a.eval y]).toArray) s d B ⟨_,_,rfl,trivial,rfl⟩ (by simpa using j) rfl (size_setRow _ _ _) (λc f=>setRow_other w _ c _ f) ⟨T,setRow_heap w _ arr _ T _ B⟩ (by simp);have v:∀c,bl (.cell b off)=some c->FreeAt g (λp=>if a8 b off 1 p=true then none else bl p) c:=λc f=>by
  obtain⟨L,M,U,N⟩:=l.free _ c f;refine⟨L,M,N,λp hp=>?_⟩;split at hp;cases hp;rename_i S;have:=l.inj p (.cell b off) c hp f;subst this;exact S (by simp[a8])
 have A:aA g a (w.setRow (g.μ b) (splice arr.toList off [a.eval y]).toArray) (.cell b off)=a.eval y:=by
  simp only[aA,setRow_heap w _ arr _ T _ B];rw[VJ,←Vw,fA (by simp[H];exact d)];simp
 have F:aO g (w.setRow (g.μ b) (splice arr.toList off [a.eval y]).toArray) (.own nw e (rows.take hi)) (a.eval y) (bl (.cell b off)):=
  aO.frame (Gh.le.refl g) (λc f=>setRow_other w _ c _ (λe=>(l.free _ c f).2.2.2 b r e.symm)) hs
 have m:(st.h.set b (splice (st.h.getD b []) off ([PV.bot].map .pv)))[b]?=some (splice (st.h.getD b []) off ([PV.bot].map .pv)):=by
  rw[V2,Vt rfl,Vt u]
 obtain⟨Q,_⟩:=O.adopt C (k:=off) (xs:=splice (st.h.getD b []) off ([PV.bot].map .pv)) m (by rw[cJ d];exact d) (sv:=.own nw e (rows.take hi)) (o:=bl (.cell b off)) (by rw[A];exact F) rfl
  (λc f=>⟨by rw[size_setRow];exact(l.free _ c f).2.2.1,v c f⟩)
 refine⟨_,g,?_,h.refl_to,Q.looks ?_ ?_⟩;simp only[execOp,ho,G,Instr.storeAt,Instr.sureAddr,bD,bN,bK,I];have K:(splice (st.h.getD b []) off ([PV.bot].map .pv)).set off (.own nw e (rows.take hi))=(st.h.getD b []).set off (.own nw e (rows.take hi)):=by
  apply Wv;intro i;rw[V2,V2,cJ d,fA d];by_cases hi:off=i;rw[Vt hi,Vt hi];rw[Vs hi,Vs hi,Vs (by simp;omega)]
 simp only[YD,K];intro s';simp only[bI];exact(uA (a8 b off 1) (look st.t s')).symm
theorem Ds{P:aa}{st:St}(o:ai)(s d hi:Nat)(nw:Bool)(e:Nat)(rows:aT)(ho:o.op=.assign (.tmp s))(hd:o.dst=some d)(hs:look st.t s=.loc (.slot d) 0 hi)(hp:look st.t d=.own nw e rows){N:Nat}(q:d<N):
 ∀g a w,g.N=N->Sim g st a w->∃v w' g',(execOp a.eval o).run P w=.ok (.value v) w'∧g.to g'∧Sim g' ⟨(d,.own nw e (rows.take hi))::aW (dx d) st.t,st.h⟩ (a.put o.dst v) w':=by
 intro g a w u h;obtain⟨bl,f⟩:=h.own;have j:=h.al s;rw[hs]at j;have r:=t7 f (p:=.slot d) hp j;obtain⟨h1,m,i,_,_,b⟩:=h.drop f (.slot d);refine⟨a.tmps.getD s undef,w,g,by simp[execOp,ho,Act.eval],h.refl_to,?_⟩;rw[hd];have n:=h1.putOwn i (d:=d) (u▸q) rfl (Vu _) (λ_ _ _=>rfl) r rfl (λc l=>⟨(f.free _ c l).2.2.1,b c l⟩);refine n.looks rfl λk=>?_;simp only[look,bI,setPos];split<;>rfl
theorem Dt{P:aa}{st:St}(o:ai)(t:ah)(s x:ae)(d e b:Nat)(p:Pos)(i:Nat)(nw:Bool)(rows:aT)(ho:o.op=.call {callee:=.builtin .append,args:=#[s,x],argTypes:=#[t,t]}) (hd:o.dst=some d)
 (hi:cF P t=some (e,b)) (m:0<b) (C:gc st s) (hs:mv st s=.loc p 0 i) (hp:aj st p=.own nw e rows) (D:gc st x) (hx:jV st e (mv st x))
 (f:((rows.take i).length+(rowsOf st (mv st x)).length)*b<=140737488355328) {N:Nat} (L:d<N):
 ∀g a w,g.N=N->Sim g st a w->∃v w' g',(execOp a.eval o).run P w=.ok (.value v) w'∧g.to g'∧
  Sim g' ⟨(d,.own nw e (rows.take i++rowsOf st (mv st x)))::aW (dx d) (setPos st p (.pv .bot)).t,(setPos st p (.pv .bot)).h⟩ (a.put o.dst v) w':=by
 intro g a w M h;obtain⟨bl,H⟩:=h.own;obtain⟨_,has⟩:=bm h s C;rw[hs]at has;have y:=t7 H hp has;obtain⟨q,cap,news,F,z,n⟩:=gH h D hx;obtain⟨Q,w',R,O,r,E,u,G,l⟩:=mz (ty:=o.type) (k:=cap) hi m h.B y z n f;refine⟨Q,w',g,?_,h.refl_to,?_⟩;simp only[execOp,ho,resolve,invoke,builtin,YU,VP,Xg,bD,bN,bK,F,O];obtain⟨h1,J,j,_,_,K⟩:=h.drop H p;rw[hd];exact h1.putOwn j (M▸L) r E G u rfl (λc I=>⟨(l c I).1,(l c I).2.elim (λe=>K c e) (λA=>h1.fresh j A)⟩)
def tc(st:St)(x:ae):List (PV×Option Pos)×Prop:=
 match mv st x with
 |.al p=>([(.bot,some p)],gc st x∧(aj st p).isOwn=true)
 |.pv y=>((bn y).map (λz=>(z,none)),gc st x∧(y.one=true∨d9 (.pv y)))
 |_=>([],False)
def pF(pl:List (Nat×Nat))(cells:List (PV×Option Pos)):List (Nat×List (PV×Option Pos))->List (PV×Option Pos)×Prop
 |[]=>(cells,True)
 |(i,ys)::rest=>match pl[i]?with
  |some (off,n)=>((pF pl (splice cells off ys) rest).1,ys.length=n∧off+n<=cells.length∧(pF pl (splice cells off ys) rest).2)
  |none=>(cells,False)
def mC(st:St):List (Nat×ae)->List (Nat×List (PV×Option Pos))
 |[]=>[]
 |(i,x)::r=>(i,(tc st x).1)::mC st r
def qU(st:St):List (Nat×ae)->Prop
 |[]=>True
 |(_,x)::r=>(tc st x).2∧qU st r
def Du(P:aa)(st:St)(t:ah)(a:Array (Nat×ae)):SV×Prop:=
 match bInfo P t,zeroV P t with
 |some pl,some zs=>(.agl (pF pl (zs.map λz=>(z,none)) (mC st a.toList)).1,qU st a.toList∧(pF pl (zs.map λz=>(z,none)) (mC st a.toList)).2)
 |_,_=>(.pv .bot,False)
def AL(g:Gh)(a:Act)(w:ab):PV×Option Pos->PV
 |(x,none)=>x
 |(_,some p)=>.lit (aA g a w p)
theorem Dv{α β:Type}(f:α->β)(xs ys:List α)(k:Nat):(splice xs k ys).map f=splice (xs.map f) k (ys.map f):=by
 simp[splice,Xn,Yj]
theorem J4{g:Gh}{st:St}{a:Act}{w:ab}(h:Sim g st a w)(x:ae)(hd:(tc st x).2):ax g ((tc st x).1.map (AL g a w)) (a.eval x).cells.toList:=by
 unfold tc at hd⊢;split at hd;rename_i p c;simp only[c];obtain⟨h1,b⟩:=hd;obtain⟨_,d⟩:=bm h x h1;rw[c]at d;obtain⟨bl,f⟩:=h.own;obtain⟨i,_⟩:=jN b (bT f b);rw[d b,i];exact⟨_,_,rfl,rfl,rfl⟩;rename_i y c;simp only[c];obtain⟨h1,b⟩:=hd;obtain⟨e,_⟩:=bm h x h1;rw[c]at e;have:=jM e.2 b;simpa[YL,AL]using this;exact hd.elim
theorem AM{g:Gh}{st:St}{a:Act}{w:ab}(h:Sim g st a w)(pl:List (Nat×Nat)):∀(l:List (Nat×ae))(cs:List (PV×Option Pos))(cells:Array an),ax g (cs.map (AL g a w)) cells.toList->qU st l->(pF pl cs (mC st l)).2->
 ∃out,Instr.fill (pl[·]?) cells (l.map λp=>(p.1,a.eval p.2))=some out∧ax g ((pF pl cs (mC st l)).1.map (AL g a w)) out.toList
 |[],cs,cells,d,_,_=>⟨cells,rfl,d⟩
 |(i,x)::rest,cs,cells,d,hp,hd=>by
  obtain⟨e,f⟩:=hp;have c:=J4 h x e;simp only[mC,pF]at hd⊢;cases b:pl[i]?with
  |none=>rw[b]at hd;exact hd.elim
  |some y=>
   obtain⟨off,n⟩:=y;rw[b]at hd;obtain⟨h1,k,m⟩:=hd;have j:(a.eval x).cells.size=n:=by have:=c.length;rw[VA,h1]at this;simpa using this
   have hcl:=d.length;rw[VA]at hcl;simp only[VP];rw[si (pl[·]?) cells i off n (a.eval x) _ b j (by rw[←Wm,hcl];exact k)];refine AM h pl rest _ _ ?_ f m;rw[Dv];simpa using d.splice c off
theorem J5{g:Gh}{a:Act}{w:ab}{xs:List (PV×Option Pos)}{vs:aG}(h:ax g (xs.map (AL g a w)) vs){k:Nat}{x:PV}{p:Pos}(hk:xs[k]?=some (x,some p)):vs[k]?=some (aA g a w p):=by
 obtain⟨v,h1,b⟩:=h.get k (.lit (aA g a w p)) (by rw[VO,hk];rfl);have:v=aA g a w p:=b;rw[h1,this]
def qV:List (PV×Option Pos)->Prop
 |[]=>True
 |(x,some _)::r=>x=.bot∧qV r
 |(_,none)::r=>qV r
theorem uB{g:Gh}{a:Act}{w:ab}:∀{xs:List (PV×Option Pos)}{vs:aG},qV xs->ax g (xs.map (AL g a w)) vs->ax g (xs.map (·.1)) vs
 |[],_,_,h=>h
 |(x,some p)::r,_,⟨e,c⟩,⟨v,u,h1,d,b⟩=>by subst e;exact⟨v,u,h1,trivial,uB c b⟩
 |(x,none)::r,_,c,⟨v,u,h1,d,b⟩=>⟨v,u,h1,d,uB (xs:=r) c b⟩
theorem jO:∀{xs:List (PV×Option Pos)},qV xs↔∀x p,(x,some p)∈xs->x=.bot
 |[]=>by simp[qV]
 |(x,some p)::r=>by
  simp only[qV,jO (xs:=r),VU,W8,Wc];constructor;rintro⟨h1,a⟩ y q (⟨rfl,_⟩|h);exact h1;exact a y q h;intro h;exact⟨h x p (.inl ⟨rfl,rfl⟩),λy q b=>h y q (.inr b)⟩
 |(x,none)::r=>by
  simp only[qV,jO (xs:=r),VU,W8];constructor;rintro h y q (⟨_,a⟩|a);cases a;exact h y q a;intro h y q b;exact h y q (.inr b)
theorem Dw(st:St)(x:ae):∀y p,(y,some p)∈(tc st x).1->y=.bot:=by
 intro y p hy;unfold tc at hy;split at hy;simp at hy;exact hy.1;simp at hy;simp at hy
theorem uC(st:St)(pl:List (Nat×Nat)):∀(l:List (Nat×ae))(cs:List (PV×Option Pos)),qV cs->qV (pF pl cs (mC st l)).1
 |[],cs,h=>h
 |(i,x)::r,cs,h=>by
  simp only[mC,pF];split;refine uC st pl r _ (jO.2 λy p hy=>?_);simp only[splice,VF]at hy;rcases hy with(hy|hy)|hy;exact jO.1 h y p (Wn hy);exact Dw st x y p hy;exact jO.1 h y p (XB hy);exact h
theorem N8{P:aa}{st:St}(o:ai)(t:ah)(b:Array (Nat×ae))(ho:o.op=.build t b):N0 P st o (Du P st t b):=by
 intro g a w h hd;unfold Du at hd⊢;split at hd;rename_i pl zs f hz;obtain⟨hp,hd⟩:=hd;unfold zeroV at hz;cases hi:P.info? t with
 |none=>rw[hi]at hz;cases hz
 |some B=>
  rw[hi]at hz;simp only[VW]at hz;obtain⟨z,hz,rfl⟩:=hz;have r:ax g (((z.cells.toList.map PV.lit).map λz=>(z,(none:Option Pos))).map (AL g a w)) z.cells.toList:=by
   rw[Wo];have:(AL g a w∘λz=>(z,none))=id:=by funext x;rfl
   rw[this,aax];exact fi g _
  obtain⟨out,j,l⟩:=AM h pl b.toList _ z.cells r hp hd;have d:=uC st pl b.toList ((z.cells.toList.map PV.lit).map λz=>(z,(none:Option Pos))) (jO.2 λy p hy=>by simp at hy);have c:P.built t (b.toList.map λp=>(p.1,a.eval p.2))=some out:=by
   unfold bInfo at f;unfold Program.built;rw[hi];split at f;rename_i v q;rw[q];simp only[hz,f];simpa using j;rename_i n e q;simp only[VW]at f;obtain⟨A,m,rfl⟩:=f;rw[q];simp only[hz,m];refine p7 _ _ (λi x hx=>?_) _ _ _ j;simp only[VO,VW]at hx;obtain⟨k,hk,rfl⟩:=hx;have:=Vp.1 hk;obtain⟨u,s⟩:=this;simp at s;subst s;rfl;cases f
  refine⟨.agg out,?_,⟨rfl,out,rfl,uB d l⟩,λk x p hk _=>⟨out,rfl,?_⟩⟩;simp only[execOp,ho,bD];rw[run_build w t _ out (by rw[←c];simp)];simp;have:=J5 l hk;simpa using this
 exact hd.elim
def nO(n:Nat):List (PV×Option Pos)->Nat->St->St×Prop
 |[],_,st=>(st,True)
 |(_,none)::r,k,st=>nO n r (k+1) st
 |(_,some (.slot s))::r,k,st=>((nO n r (k+1) (lJ st s n k)).1,(look st.t s).isOwn=true∧(nO n r (k+1) (lJ st s n k)).2)
 |(_,some (.cell _ _))::_,_,st=>(st,False)
theorem t8{g:Gh}{a:Act}{w:ab}{n:Nat}:∀(xs:List (PV×Option Pos))(k:Nat){st:St}(_:Sim g st a w)(_:(nO n xs k st).2)(_:n<st.h.length)(_:(st.h.getD n []).length=k+xs.length)
 (_:∀(j:Nat)(x:PV)(s:Nat),xs[j]?=some (x,some (.slot s))->aA g a w (.cell n (k+j))=a.tmps.getD s undef),Sim g (nO n xs k st).1 a w
 |[],_,_,h,_,_,_,_=>h
 |(x,none)::r,k,st,h,hd,hn,b,c=>by
  simp only[nO]at hd⊢;exact t8 r (k+1) h hd hn (by rw[b,VR];omega) λj y s hj=>by have:=c (j+1) y s (by simpa using hj);rwa [show k+(j+1)=k+1+j by omega]at this
 |(x,some (.slot s))::r,k,st,h,hd,hn,b,c=>by
  simp only[nO]at hd⊢;have hx:st.h[n]?=some (st.h.getD n []):=by simp[List.getD,Vq hn]
  have e:=h.moveTo hd.1 hx (k:=k) (by rw[b];simp) (c 0 x s rfl);have d:((st.h.getD n []).set k (look st.t s)).length=k+1+r.length:=by rw[VQ,b,VR];omega
  refine t8 r (k+1) e hd.2 (by simpa[lJ]using hn) ?_ λj y s' hj=>by have:=c (j+1) y s' (by simpa using hj);rwa [show k+(j+1)=k+1+j by omega]at this
  have:(lJ st s n k).h.getD n []=(st.h.getD n []).set k (look st.t s):=by
   simp only[lJ];rw[Vr,V2,Vt rfl,Vt hn];rfl
  rw[this];exact d
 |(x,some (.cell _ _))::r,k,st,h,hd,hn,b,c=>by simp only[nO]at hd
theorem N9{P:aa}{st:St}(o:ai)(t:ah)(x:ae)(d:Nat)(xs:List (PV×Option Pos))(ho:o.op=.box t x)(hd:o.dst=some d)(U:gc st x)(V:mv st x=.agl xs)(c:∀(j:Nat)(y:PV)(s:Nat),xs[j]?=some (y,some (.slot s))->(look st.t s).isOwn=true)(B:cz ((xs.filter λy=>y.2.isNone).map (·.1))=true)(hin:(nO st.h.length xs 0 (st.grow ((xs.map (·.1)).map .pv))).2)(H:∀(y:PV)(p:Pos),(y,some p)∈xs->∃s,p=.slot s){N:Nat}(S:d<N):
 ∀g a w,g.N=N->Sim g st a w->∃v w' g',(execOp a.eval o).run P w=.ok (.value v) w'∧g.to g'∧Sim g' ((nO st.h.length xs 0 (st.grow ((xs.map (·.1)).map .pv))).1.put d (.pv (.ptr st.h.length 0))) (a.put o.dst v) w':=by
 intro g a w E h;obtain⟨M,m⟩:=bm h x U;rw[V]at M m;obtain⟨_,vs,O,k⟩:=M;obtain⟨bl,T⟩:=h.own;have i:∀(j:Nat)(y:PV)(s:Nat),xs[j]?=some (y,some (.slot s))->vs[j]?=some (a.tmps.getD s undef):=λj y s hj=>by
  obtain⟨ab,f,C⟩:=m j y (.slot s) hj (c j y s hj);rw[O]at f;cases f;exact C
 have D:∀u∈vs.toList,u.oneCell'=true:=by
  intro u W;obtain⟨j,hj⟩:=Xh.1 W;have r:=k.length;have F:j<xs.length:=by
   have:=(Vp.1 hj).1;rw[r,VA]at this;exact this
  obtain⟨L,J⟩:∃L,xs[j]?=some L:=⟨xs[j],Vq F⟩;obtain⟨y,q⟩:=L;have b:xs[j]?=some (y,q):=J;cases q with
  |none=>
   obtain⟨v',f,C⟩:=k.get j y (by rw[VO,b];rfl);rw[hj]at f;cases f;have K:y.one=true:=by
    have A:y∈(xs.filter λy=>y.2.isNone).map (·.1):=VB.2 ⟨(y,none),V9.2 ⟨WQ b,rfl⟩,rfl⟩;have:∀(l:aD),cz l=true->∀z∈l,z.one=true:=λl=>by
     induction l with
     |nil=>intro _ z hz;cases hz
     |cons z0 l X=>
      intro G z hz;simp only[cz,VC]at G;rcases VU.1 hz with rfl|hz;exact G.1;exact X G.2 z hz
    exact this _ B y A
   exact yQ K C
  |some p=>
   obtain⟨s,rfl⟩:=H y p (WQ b);have f:=i j y s b;rw[Vw]at hj;rw[hj]at f;cases f;exact(jN (c j y s b) (T.slots s)).2
 have e:(a.eval x).cells=vs:=by rw[O];rfl
 obtain⟨g2,R,l2,Y,Q,Z⟩:=h.blockNew (xs.map (·.1)) vs t k D;have I:∀j v,vs[j]?=some v->aA g2 a (w.alloc (.cells vs t)) (.cell st.h.length j)=v:=λj v hj=>by
  simp only[aA,←h.n,Q,heap_alloc_new];simp[VJ,hj]
 have s3 := t8 xs 0 Z hin (by simp [St.grow]) (by simp [St.grow]) (λ j y s hj => by
  rw[Wr];exact I j _ (i j y s hj))
 refine⟨.pointer (some ⟨w.heap.size,0,none⟩),w.alloc (.cells vs t),g2,?_,R,?_⟩;simp[execOp,ho,Instr.box,newVar,newRow,e];rw[hd];refine s3.put (by rw[R.N,E];exact S) ⟨rfl,?_,?_⟩ trivial rfl;rw[Y,←h.n];omega;rw[←h.n,Q]
def yW(st:St)(x y:ae):Option (St×Prop):=
 match mv st y,mv st x with
 |.al (.slot s),.pv (.ptr b off)=>if(look st.t s).isOwn=true then some (lJ st s b off,gc st y∧gc st x∧off<(st.h.getD b []).length)else none
 |.loc (.cell b' k') lo hi,.pv (.ptr b off)=>if lo=0∧b'=b∧k'=off then
  match aj st (.cell b off)with
  |.own nw e rows=>some (⟨aW (a8 b off 1) st.t,st.h.set b ((st.h.getD b []).set off (.own nw e (rows.take hi)))⟩,gc st y∧gc st x)
  |_=>none
  else none
 |_,_=>none
theorem HZ{P:aa}{st st':St}{x y:ae}{ok:Prop}(c:yW st x y=some (st',ok))(d:ok)(o:ai)(t:ah){h:Bool}(ho:o.op=.store t x y)(i:aZ P t=some (h,1)):
 ∀g a w,Sim g st a w->∃w' g',(execOp a.eval o).run P w=.ok .skip w'∧g.to g'∧Sim g' st' a w':=by
 unfold yW at c;split at c;rename_i s b off hy hx;split at c;rename_i f;simp only[Wc,W8]at c;obtain⟨rfl,rfl⟩:=c;exact Dr o t x y b off s h ho i hy d.1 f hx d.2.1 d.2.2;cases c;rename_i b' k' lo hi b off hy hx;split at c;rename_i j;obtain⟨rfl,rfl,rfl⟩:=j;split at c;rename_i nw e rows hp;simp only[Wc,W8]at c;obtain⟨rfl,rfl⟩:=c;exact HY o t x y _ _ hi nw e rows h ho i hy d.1 hp hx d.2;cases c;cases c;cases c
def yX:List (PV×Option Pos)->Bool
 |[]=>true
 |(_,none)::r=>yX r
 |(_,some _)::_=>false
def nP:List (PV×Option Pos)->Option (Nat×Nat×Nat)
 |[]=>none
 |(_,none)::r=>match nP r with
  |some (k,b,c)=>some (k+1,b,c)
  |none=>none
 |(_,some (.cell b c))::r=>if yX r=true then some (0,b,c)else none
 |(_,some (.slot _))::_=>none
theorem xn:∀{xs:List (PV×Option Pos)},yX xs=true->∀(j:Nat)(y:PV)(p:Pos),xs[j]?≠some (y,some p)
 |[],_,j,y,p,h=>by simp at h
 |(x,none)::r,hn,0,y,p,h=>by simp at h
 |(x,none)::r,hn,j+1,y,p,h=>xn (xs:=r) hn j y p (by simpa using h)
 |(x,some _)::r,hn,_,_,_,_=>by cases hn
theorem xo:∀{xs:List (PV×Option Pos)}{k b c:Nat},nP xs=some (k,b,c)->(∃x,xs[k]?=some (x,some (.cell b c)))∧∀(j:Nat)(y:PV)(p:Pos),xs[j]?=some (y,some p)->j=k∧p=.cell b c
 |[],k,b,c,h=>by cases h
 |(x,none)::r,k,b,c,h=>by
  simp only[nP]at h;cases a:nP r with
  |none=>rw[a]at h;cases h
  |some q=>
   obtain⟨g,b2,c2⟩:=q;rw[a]at h;simp only[Wc,W8]at h;obtain⟨rfl,rfl,rfl⟩:=h;obtain⟨⟨y,hy⟩,e⟩:=xo a;refine⟨⟨y,by simpa using hy⟩,λj z p hj=>?_⟩;cases j with
   |zero=>simp at hj
   |succ j=>obtain⟨f,d⟩:=e j z p (by simpa using hj);exact⟨by omega,d⟩
 |(x,some (.cell b2 c2))::r,k,b,c,h=>by
  simp only[nP]at h;split at h;rename_i hn;simp only[Wc,W8]at h;obtain⟨rfl,rfl,rfl⟩:=h;refine⟨⟨x,rfl⟩,λj z p hj=>?_⟩;cases j with
  |zero=>simp at hj;exact⟨rfl,hj.2.symm⟩
  |succ j=>exact absurd (by simpa using hj) (xn hn j z p)
  cases h
 |(x,some (.slot _))::r,k,b,c,h=>by cases h
def carry(st:St)(b' k' b k:Nat):St:=⟨aW (a8 b k 1) st.t,(st.h.set b' ((st.h.getD b' []).set k' (.pv .bot))).set b (((st.h.set b' ((st.h.getD b' []).set k' (.pv .bot))).getD b []).set k (aj st (.cell b' k')))⟩
theorem Sim.carry{g:Gh}{st:St}{a:Act}{w:ab}(h:Sim g st a w){b' k' b k:Nat}(ho:(aj st (.cell b' k')).isOwn=true)(e:b'≠b)(p:b<st.h.length)(hk:k<(st.h.getD b []).length)(x:aA g a w (.cell b k)=aA g a w (.cell b' k')):
 Sim g (AX.carry st b' k' b k) a w:=by
 obtain⟨bl,i⟩:=h.own;obtain⟨h1,u,m,_,_,d⟩:=h.drop i (.cell b' k');have n:(st.h.set b' ((st.h.getD b' []).set k' (.pv .bot))).getD b []=st.h.getD b []:=by
  rw[Vr,V2,Vs e,Vr]
 have j:st.h[b']?=some (st.h.getD b' []):=by
  cases f:st.h[b']?with
  |some xs=>simp[List.getD,f]
  |none=>simp only[aj,List.getD,f]at ho;cases ho
 have q:(st.h.getD b' [])[k']?=some (aj st (.cell b' k')):=by
  cases f:(st.h.getD b' [])[k']?with
  |some z=>simp only[aj];rw[Vr (l:=st.h.getD b' []),f];rfl
  |none=>
   simp only[aj]at ho;rw[Vr (l:=st.h.getD b' []),f]at ho;cases ho
 obtain⟨arr,T,c1,c2,c3⟩:=i.blocks b' _ j;have hs:=(c3 k' _ q).2;have r:aA g a w (.cell b' k')=arr.getD k' undef:=by simp only[aA,c1]
 have s:(setPos st (.cell b' k') (.pv .bot)).h[b]?=some (st.h.getD b []):=by
  simp only[setPos];rw[V2,Vs e,Vr,Vq p];rfl
 obtain⟨v,_⟩:=h1.adopt m s hk (sv:=aj st (.cell b' k')) (o:=bl (.cell b' k')) (by rw[x,r];exact hs) ho (λc t=>⟨(i.free _ c t).2.2.1,d c t⟩);unfold AX.carry;rw[n];exact v
theorem Oa{g:Gh}{st:St}{a:Act}{w:ab}{bl:Pos->Option Nat}(f:Owns g st a w bl):∀{p:Pos},(aj st p).isOwn=true->(aA g a w p).oneCell'=true
 |.slot s,ho=>(jN ho (f.slots s)).2
 |.cell b' k',ho=>by
  have c:st.h[b']?=some (st.h.getD b' []):=by
   cases b:st.h[b']?with
   |some xs=>simp[List.getD,b]
   |none=>simp only[aj,List.getD,b]at ho;cases ho
  have d:(st.h.getD b' [])[k']?=some (aj st (.cell b' k')):=by
   cases b:(st.h.getD b' [])[k']?with
   |some z=>simp only[aj];rw[Vr (l:=st.h.getD b' []),b];rfl
   |none=>
    simp only[aj]at ho;rw[Vr (l:=st.h.getD b' []),b]at ho;cases ho
  obtain⟨arr',T',c1,c2,c3⟩:=f.blocks b' _ c;have e:aA g a w (.cell b' k')=arr'.getD k' undef:=by simp only[aA,c1]
  rw[e];exact(jN ho (c3 k' _ d).2).2
theorem uD{P:aa}{st:St}(o:ai)(t:ah)(x y:ae)(b:Nat)(xs:List (PV×Option Pos))(ag:Bool)(ho:o.op=.store t x y)(H:aZ P t=some (ag,xs.length))(hy:mv st y=.agl xs)(U:gc st y)
 (hx:mv st x=.pv (.ptr b 0)) (S:gc st x) (f:(st.h.getD b []).length=xs.length) (i:∀(j:Nat)(y:PV)(p:Pos),xs[j]?=some (y,some p)->(aj st p).isOwn=true) (J:cz ((xs.filter λy=>y.2.isNone).map (·.1))=true) {g:Gh} {a:Act} {w:ab} (h:Sim g st a w):
 ∃vs:Array an,b<st.h.length∧(execOp a.eval o).run P w=.ok .skip (w.setRow (g.μ b) vs)∧Sim g ⟨aW (a8 b 0 xs.length) st.t,st.h.set b ((xs.map (·.1)).map .pv)⟩ a (w.setRow (g.μ b) vs)∧
  (∀j v,vs[j]?=some v->aA g a (w.setRow (g.μ b) vs) (.cell b j)=v)∧(∀(j:Nat)(y:PV)(p:Pos),xs[j]?=some (y,some p)->vs[j]?=some (aA g a w p))∧
  ∀b' k',b'≠b->b'<st.h.length->aA g a (w.setRow (g.μ b) vs) (.cell b' k')=aA g a w (.cell b' k'):=by
 obtain⟨F,_⟩:=bm h x S;rw[hx]at F;obtain⟨_,C,Z⟩:=F;obtain⟨G,B⟩:=bm h y U;rw[hy]at G B;obtain⟨_,vs,L,m⟩:=G;have N:∀(j:Nat)(y:PV)(p:Pos),xs[j]?=some (y,some p)->vs[j]?=some (aA g a w p):=λj x0 p hj=>by
  obtain⟨af,s,N⟩:=B j x0 p hj (i j x0 p hj);rw[L]at s;cases s;exact N
 have E:b<st.h.length:=h.n▸C;have D:st.h[b]?=some (st.h.getD b []):=by simp[List.getD,Vq E]
 obtain⟨bl,Q⟩:=h.own;obtain⟨arr,T,M,⟨a2,_⟩,_⟩:=Q.blocks b _ D;have r:vs.toList.length=xs.length:=by rw[m.length,VA]
 have A:∀u∈vs.toList,u.oneCell'=true:=by
  intro u hu;obtain⟨j,hj⟩:=Xh.1 hu;have V:j<xs.length:=by
   have:=(Vp.1 hj).1;rw[r]at this;exact this
  obtain⟨yq,k⟩:∃yq,xs[j]?=some yq:=⟨xs[j],Vq V⟩;obtain⟨y,q⟩:=yq;cases q with
  |none=>
   obtain⟨v',s,e3⟩:=m.get j y (by rw[VO,k];rfl);rw[hj]at s;cases s;have I:y∈(xs.filter λy=>y.2.isNone).map (·.1):=VB.2 ⟨(y,none),V9.2 ⟨WQ k,rfl⟩,rfl⟩;have:∀(l:aD),cz l=true->∀z∈l,z.one=true:=λl=>by
    induction l with
    |nil=>intro _ z hz;cases hz
    |cons z0 l ih=>
     intro H z hz;simp only[cz,VC]at H;rcases VU.1 hz with rfl|hz;exact H.1;exact ih H.2 z hz
   exact yQ (this _ J y I) e3
  |some p=>
   rw[Vw,N j y p k]at hj;cases hj;exact Oa Q (i j y p k)
 have d:(a.eval y).cells=vs:=by rw[L];rfl
 have X:=eZ w H (a.eval y) (by rw[d,←Wm,r]) (g.μ b) 0 T arr M (by rw[a2,f];omega) (by rw[d];exact A);rw[d]at X;obtain⟨O,ad⟩:=h.blockWriteO Q (w':=w.setRow (g.μ b) (splice arr.toList 0 vs.toList).toArray) (k0:=0) (ys:=xs.map (·.1)) (vs:=vs.toList) (arr':=(splice arr.toList 0 vs.toList).toArray) D (by rw[VA,f];omega) M m A rfl (size_setRow _ _ _) (λc hc=>setRow_other w _ c _ hc) ⟨T,setRow_heap w _ arr _ T _ M⟩ (by simp);have Y:splice (st.h.getD b []) 0 ((xs.map (·.1)).map SV.pv)=(xs.map (·.1)).map SV.pv:=by
  unfold splice;rw[Zb,V8,VS (by rw[VA,VA,f];omega),WF]
 rw[Y,VA]at O;have K:(splice arr.toList 0 vs.toList).toArray=vs:=by
  apply WW;show splice arr.toList 0 vs.toList=vs.toList;unfold splice;rw[Zb,V8,VS (by rw[Wm,a2,f,r];omega),WF]
 rw[K]at O X;refine⟨vs,E,?_,O,λj v hj=>?_,N,λb' k' W R=>?_⟩;simp only[execOp,ho,Z,Instr.storeAt,Instr.sureAddr,bD,bN,bK,X];simp only[aA,setRow_heap w _ arr _ T _ M];rw[VJ,hj];rfl;have hμ:g.μ b'≠g.μ b:=λe=>W (h.μinj b' b (by rw[h.n];exact R) C e);simp only[aA];rw[setRow_other w _ _ _ hμ]
theorem H0{P:aa}{st:St}(o:ai)(t:ah)(x y:ae)(b b' k k':Nat)(xs:List (PV×Option Pos))(v:Bool)(ho:o.op=.store t x y)(B:aZ P t=some (v,xs.length))(hy:mv st y=.agl xs)(s:gc st y)
 (hx:mv st x=.pv (.ptr b 0)) (r:gc st x) (m:(st.h.getD b []).length=xs.length) (hp:nP xs=some (k,b',k')) (d:b'≠b) (c:(aj st (.cell b' k')).isOwn=true) (n:cz ((xs.filter λy=>y.2.isNone).map (·.1))=true):
 ∀g a w,Sim g st a w->∃w' g',(execOp a.eval o).run P w=.ok .skip w'∧g.to g'∧Sim g' (AX.carry ⟨aW (a8 b 0 xs.length) st.t,st.h.set b ((xs.map (·.1)).map .pv)⟩ b' k' b k) a w':=by
 intro g a w h;obtain⟨⟨E,i⟩,e⟩:=xo hp;obtain⟨vs,f,C,z,D,A,hk⟩:=uD (P:=P) o t x y b xs v ho B hy s hx r m (λj y p hj=>by obtain⟨_,rfl⟩:=e j y p hj;exact c) n h;have q:b'<st.h.length:=by
  apply Yy;intro hle;simp only[aj,Vr (l:=st.h),V4 hle]at c;cases c
 have u:aj ⟨aW (a8 b 0 xs.length) st.t,st.h.set b ((xs.map (·.1)).map .pv)⟩ (.cell b' k')=aj st (.cell b' k'):=by
  simp only[aj];rw[Vr (l:=st.h.set b _),V2,Vs (Yg d),Vr (l:=st.h)]
 refine⟨_,g,C,h.refl_to,z.carry (by rw[u];exact c) d (by simpa using f) ?_ ?_⟩;have:k<xs.length:=(Vp.1 i).1;rw[Vr,V2,Vt rfl,Vt f];simpa using this;rw[D k _ (A k E _ i),hk b' k' d q]
theorem Dx{P:aa}{st:St}(o:ai)(t:ah)(x y:ae)(b:Nat)(xs:List (PV×Option Pos))(m:Bool)(ho:o.op=.store t x y)(r:aZ P t=some (m,xs.length))(hy:mv st y=.agl xs)(k:gc st y)
 (hx:mv st x=.pv (.ptr b 0)) (i:gc st x) (d:(st.h.getD b []).length=xs.length) (f:∀(j:Nat)(y:PV)(s:Nat),xs[j]?=some (y,some (.slot s))->(look st.t s).isOwn=true) (l:∀(y:PV)(p:Pos),(y,some p)∈xs->∃s,p=.slot s) (e:cz ((xs.filter λy=>y.2.isNone).map (·.1))=true)
 (hin:(nO b xs 0 ⟨aW (a8 b 0 xs.length) st.t,st.h.set b ((xs.map (·.1)).map .pv)⟩).2):
 ∀g a w,Sim g st a w->∃w' g',(execOp a.eval o).run P w=.ok .skip w'∧g.to g'∧Sim g' (nO b xs 0 ⟨aW (a8 b 0 xs.length) st.t,st.h.set b ((xs.map (·.1)).map .pv)⟩).1 a w':=by
 intro g a w h;obtain⟨vs,c,u,n,v,q,hk⟩:=uD (P:=P) o t x y b xs m ho r hy k hx i d (λj y p hj=>by obtain⟨s,rfl⟩:=l y p (WQ hj);exact f j y s hj) e h;refine⟨_,g,u,h.refl_to,t8 xs 0 n hin (by simpa using c) ?_ λj y s hj=>?_⟩;simp only;rw[Vr,V2,Vt rfl,Vt c];simp;rw[Wr,v j _ (q j y _ hj)];rfl
def F3(xs:List (PV×Option Pos)):Bool:=xs.any λz=>z.2.isSome
def AN(st:St):List (PV×Option Pos)->Prop
 |[]=>True
 |(_,some (.slot s))::r=>(look st.t s).isOwn=true∧AN st r
 |(_,some (.cell _ _))::_=>False
 |(x,none)::r=>x.one=true∧AN st r
theorem mD{st:St}:∀{xs:List (PV×Option Pos)},AN st xs->∀(j:Nat)(y:PV)(s:Nat),xs[j]?=some (y,some (.slot s))->(look st.t s).isOwn=true
 |[],_,j,y,s,h=>by simp at h
 |(x,some (.slot s'))::r,ho,0,y,s,h=>by simp at h;rw[←h.2];exact ho.1
 |(x,some (.slot s'))::r,ho,j+1,y,s,h=>mD ho.2 j y s (by simpa using h)
 |(x,some (.cell _ _))::r,ho,_,y,s,h=>ho.elim
 |(x,none)::r,ho,0,y,s,h=>by simp at h
 |(x,none)::r,ho,j+1,y,s,h=>mD ho.2 j y s (by simpa using h)
theorem ua{st:St}:∀{xs:List (PV×Option Pos)},AN st xs->∀(y:PV)(p:Pos),(y,some p)∈xs->∃s,p=.slot s
 |[],_,y,p,h=>by cases h
 |(x,some (.slot s'))::r,ho,y,p,h=>by
  rcases VU.1 h with e|h;cases e;exact⟨_,rfl⟩;exact ua ho.2 y p h
 |(x,some (.cell _ _))::r,ho,_,_,h=>ho.elim
 |(x,none)::r,ho,y,p,h=>by
  rcases VU.1 h with e|h;cases e;exact ua ho.2 y p h
theorem qW{st:St}:∀{xs:List (PV×Option Pos)},AN st xs->cz ((xs.filter λy=>y.2.isNone).map (·.1))=true
 |[],_=>rfl
 |(x,some (.slot s'))::r,ho=>by simpa using qW ho.2
 |(x,some (.cell _ _))::r,ho=>ho.elim
 |(x,none)::r,ho=>by
  have:=qW ho.2;simp only[Wl,Option.isNone_none,Xl,VP,cz,VC];exact⟨ho.1,this⟩
def yY(st:St)(x y:ae):Option (St×Nat×Prop):=
 match mv st y,mv st x with
 |.agl xs,.pv (.ptr b 0)=>match nP xs with
  |some (k,b',k')=>if b=b'+1∧b+1=st.h.length then
   some (carry ⟨aW (a8 b 0 xs.length) st.t, st.h.set b ((xs.map (·.1)).map .pv)⟩ b' k' b k, xs.length,
    gc st y∧gc st x∧(st.h.getD b []).length=xs.length∧(aj st (.cell b' k')).isOwn=true∧cz ((xs.filter λy=>y.2.isNone).map (·.1))=true)
   else none
  |none=>if F3 xs=true∧b+1=st.h.length then
   some ((nO b xs 0 ⟨aW (a8 b 0 xs.length) st.t, st.h.set b ((xs.map (·.1)).map .pv)⟩).1, xs.length,
    gc st y∧gc st x∧(st.h.getD b []).length=xs.length∧AN st xs∧(nO b xs 0 ⟨aW (a8 b 0 xs.length) st.t,st.h.set b ((xs.map (·.1)).map .pv)⟩).2)
   else none
 |_,_=>none
theorem H9{P:aa}{st st':St}{x y:ae}{n:Nat}{ok:Prop}(d:yY st x y=some (st',n,ok))(c:ok)(o:ai)(t:ah){e:Bool}(ho:o.op=.store t x y)(f:aZ P t=some (e,n)):
 ∀g a w,Sim g st a w->∃w' g',(execOp a.eval o).run P w=.ok .skip w'∧g.to g'∧Sim g' st' a w':=by
 unfold yY at d;split at d;rename_i xs b hy hx;split at d;rename_i k b' k' hp;split at d;rename_i h;simp only[Wc,W8]at d;obtain⟨rfl,rfl,rfl⟩:=d;exact H0 o t x y b b' k k' xs e ho f hy c.1 hx c.2.1 c.2.2.1 hp (by omega) c.2.2.2.1 c.2.2.2.2;cases d;split at d;rename_i h;simp only[Wc,W8]at d;obtain⟨rfl,rfl,rfl⟩:=d;exact Dx o t x y b xs e ho f hy c.1 hx c.2.1 c.2.2.1 (mD c.2.2.2.1) (ua c.2.2.2.1) (qW c.2.2.2.1) c.2.2.2.2;cases d;cases d
def F4(st:St)(s d:Nat):Option St:=
 match look st.t s with
 |.loc (.slot d') lo hi=>if d'=d∧lo=0 then
  match look st.t d with
  |.own nw e rows=>some ⟨(d,.own nw e (rows.take hi))::aW (dx d) st.t,st.h⟩
  |_=>none
  else none
 |_=>none
theorem J6{P:aa}{st st':St}{s d:Nat}(b:F4 st s d=some st')(o:ai)(ho:o.op=.assign (.tmp s))(hd:o.dst=some d){N:Nat}(c:d<N):
 ∀g a w,g.N=N->Sim g st a w->∃v w' g',(execOp a.eval o).run P w=.ok (.value v) w'∧g.to g'∧Sim g' st' (a.put o.dst v) w':=by
 unfold F4 at b;split at b;rename_i d' lo hi hs;split at b;rename_i f;obtain⟨rfl,rfl⟩:=f;split at b;rename_i nw e rows hp;cases b;exact Ds o s _ hi nw e rows ho hd hs hp c;cases b;cases b;cases b
def mE:List ai->Option Nat->Bool
 |[],_=>false
 | o :: r, d => (match o.op, d with
  |.box _ (.tmp s),some d=>s==d
  |_,_=>false)||mE r d
def yZ(st:St):List (Nat×ae)->Bool
 |[]=>false
 | (_, x) :: r => (match mv st x with
  |.al p=>(aj st p).isOwn
  |_=>false)||yZ st r
end Go.AX
