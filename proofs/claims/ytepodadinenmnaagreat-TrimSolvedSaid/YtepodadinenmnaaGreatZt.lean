/-
  AX, part Af: append onto a slice that is as long as its room (l[:n:n]).
-/
import Derived.Test.YtepodadinenmnaaGreatZk
namespace Go.AX
theorem sL{a:Act}{d:Option Tmp}{p:Nat}(h:d≠some p)(v:an):(a.put d v).tmps.getD p undef=a.tmps.getD p undef:=by
 cases d with
 |none=>rfl
 |some d=>
  have hd:d≠p:=λe=>h (by rw[e]);by_cases hs:d<a.tmps.size;rw[fw hs,Vs hd];simp[Act.put,VJ,hd]
theorem Lz{P:aa}{o:ai}{a:Act}{w:ab}{K' N:Act->ab->Prop}{Q:Exit->Act->ab->Prop}{p:Nat}(hp:o.dst≠some p)(h:o.wp P a w K' Q)(b:∀f w',K' f w'->f.tmps.getD p undef=a.tmps.getD p undef->N f w'):o.wp P a w N Q:=by
 unfold Oper.wp at h⊢;generalize(execOp a.eval o).run P w=r at h⊢;unfold Oper.upon at h⊢;split at h;exact b _ _ h (sL hp _);exact b _ _ h (sL hp _);exact b _ _ h (sL (a:={a with defers:=_::a.defers}) hp _);refine h.mono λe g d=>?_;cases e with
 |returned v=>exact b _ _ d (sL hp _)
 |panicked c=>exact d
 |outgrown=>exact d
 exact h.mono λv g d=>b _ _ d (sL hp _);exact h;exact h.elim
theorem BT{P:aa}{st:St}(o:ai)(t:ah)(p:Nat)(x:ae)(d bt:Nat){nw:Bool}{rows:aT}(ho:o.op=.call {callee:=.builtin .append,args:=#[.tmp p,x],argTypes:=#[t,t]}) (hd:o.dst=some d)
 (hi:cF P t=some (1,bt)) (af:0<bt) (hs:look st.t p=.pv (.seq nw 1 rows)) (an:gc st x) (hx:jV st 1 (mv st x)) (Q:rowsOf st (mv st x)≠[])
 (n:(rows.length+(rowsOf st (mv st x)).length)*bt<=140737488355328) {N:Nat} (hN:d<N):
 ∀g a w,g.N=N->Sim g st a w->(∃q,a.tmps.getD p undef=.slice q rows.length rows.length)->∃v w',(execOp a.eval o).run P w=.ok (.value v) w'∧Sim g ⟨(d,.own true 1 (rows++rowsOf st (mv st x)))::aW (dx d) st.t,st.h⟩ (a.put o.dst v) w':=by
 intro g a w hg h ⟨q0,V⟩;obtain⟨bl,hb⟩:=h.own;have M:=hb.slots p;rw[hs,V]at M;obtain⟨_,q1,az,Y,aA,au⟩:=M;simp only[Value.slice.injEq,aav]at Y;obtain⟨rfl,rfl⟩:=Y;have Z:a.eval (.tmp p)=.slice q0 rows.length rows.length:=V;obtain⟨q,k,news,av,F,aj⟩:=gH h an hx;obtain⟨K,rfl,s⟩:∃K:Addr,q=some K∧∀(j:Nat) u,news[j]?=some u->w.cell? (K.add j)=some u:=by
  rcases aj with E|E;exact absurd E Q;exact E
 obtain⟨C,i,z,hu,D,hz,J,L,ay,aw⟩:=oJ hi;have G:news.length=(rowsOf st (mv st x)).length*i.size:=by rw[J];exact F.length
 have S:news.length=(rowsOf st (mv st x)).length:=by rw[G,J,Zh]
 have ao:0<(rowsOf st (mv st x)).length:=WJ.2 Q;generalize hR:rowsOf st (mv st x)=R at*;have ax:∀m,∀v∈(Builtin.zeroCells z.cells m).toList,v.oneCell'=true:=λm v Z=>by
  simp only[Builtin.zeroCells,YT,VB]at Z;obtain⟨j,hj,rfl⟩:=Z;by_cases e:z.cells.size=0;rw[e]at hj;simp at hj;have O:j %z.cells.size<z.cells.size:=aas _ (by omega);rw[XW z.cells (j %z.cells.size) O];exact aw _ (YJ O)
 have X:rows.length+R.length<=140737488355328:=by
  have:(rows.length+R.length)*1<=(rows.length+R.length)*bt:=ZL _ af;omega
 have key:∀(f:aG)(l:Nat),aK g 1 rows f->rows.length+R.length<=l->l<=maxLen->
  Sim g ⟨(d,.own true 1 (rows++R))::aW (dx d) st.t,st.h⟩ (a.put (some d) (.slice (some ⟨w.heap.size,0,none⟩) (rows.length+R.length) l)) (w.drew.alloc (.cells (f.toArray++news.toArray++Builtin.zeroCells z.cells (l -(rows.length+R.length))) C)):=λf l r ak aq=>by
  have U:=r.length;refine h.putOwn hb (hg▸hN) (o:=some w.heap.size) rfl (by simp) (λc E _=>heap_alloc_old w.drew _ E) (.inr ⟨w.heap.size,rfl,l,_,C,f++news,by rw[Vz],heap_alloc_new w.drew _,?_,⟨by rw[Vz];exact ak,aq,by simpa only[ZM]using eM (eM r.one F.one) (ax _)⟩,aK.append r F,?_,λ_=>h.B⟩) rfl (λc E=>by cases E;exact⟨by simp,h.fresh hb (Vu _)⟩);simp only[YK,Ww,size_zeroCells,ay,U,S];omega;exact⟨(Builtin.zeroCells z.cells (l -(rows.length+R.length))).toList,by simp⟩
 have A:∀{v w'},(Builtin.append_ #[t,t] o.type #[.slice q0 rows.length rows.length,.slice (some K) R.length k]).run P w=.ok v w'->(execOp a.eval o).run P w=.ok (.value v) w':=λW=>by
  simp only[execOp,ho,resolve,invoke,builtin,YU,VP,Xg,bD,bN,bK,Z,av,W]
 rw[hd];have y:∀(b:Addr)(f:aG),q0=some b->aK g 1 rows f->(∀(j:Nat) u,f[j]?=some u->w.cell? (b.add j)=some u)->∃v w',(execOp a.eval o).run P w=.ok (.value v) w'∧Sim g ⟨(d,.own true 1 (rows++R))::aW (dx d) st.t,st.h⟩ (a.put (some d) v) w':=λb f ab r ag=>by
  subst ab;have ar:=r.length;have W:=run_append_grow (P:=P) w t o.type C i z hu D hz b rows.length rows.length f (by rw[ar,J]) ag K R.length k news G s (by omega) (by omega) (growslice_fits (by omega) (by rw[L];exact n));exact⟨_,_,A W,key f _ r (grownCap_ge w _ _ C) (grownCap_le_maxLen w _ _ C (by unfold maxLen;omega))⟩
 rcases au with rfl|⟨c,off,arr,T,fz,vs,rfl,e2,e3,e4,e5⟩;cases q0 with
 |some b=>exact y b [] rfl rfl (λj u hj=>by simp at hj)
 |none=>
  have W:=run_append_nil (P:=P) w t o.type C i z hu D hz K R.length k news G s ao (by omega) (by simp only[List.length_nil,Wr]at n;rw[L];omega);have hk:=key [] (grownCap w R.length 0 C) rfl (by simpa using grownCap_ge w R.length 0 C) (by simpa using grownCap_le_maxLen w R.length 0 C (by unfold maxLen;simp at X;omega));simp only[List.length_nil,Wr,V8,Array.empty_append]at hk A⊢;exact⟨_,_,A W,hk⟩
 refine y ⟨c,off,none⟩ vs rfl e4 (λj u hj=>?_);obtain⟨rest,H⟩:=e5;rw[gW,cell_of (h.I _ _ e2),←Vw];have:(arr.toList.drop off)[j]?=some u:=by rw[←H,Vv (Vp.1 hj).1];exact hj
 rwa [Wk]at this
def tn(P:aa)(ops:List ai)(K:St->Prop)(p:Nat):List ai->St->Prop
 |[],_=>False
 |o::rest,st=>match pK o with
  | some (t, s, x, d) => s = .tmp p ∧ (match cF P t, look st.t p with
   |some (e,bt),.pv (.seq _ 1 rows)=>e=1∧0<bt∧gc st x∧jV st 1 (mv st x)∧rowsOf st (mv st x)≠[]∧(rows.length+(rowsOf st (mv st x)).length)*bt<=140737488355328∧
    lL P ops K rest ⟨(d,.own true 1 (rows++rowsOf st (mv st x)))::aW (dx d) st.t,st.h⟩
   |_,_=>False)
  |none=>o.dst≠some p∧gq P ops o (tn P ops K p rest) st
def vE(P:aa)(ops:List ai)(K:St->Prop):List ai->St->Prop
 |[],st=>K st
 |o::rest,st=>match lD o with
  | some (t, x, hi, m, d) => (match bU P t, mv st x with
   |some e,.pv (.seq nw e' rows)=>e'=e∧gc st x∧dI st (some hi)∧dI st (some m)∧bC (mv st m)=bC (mv st hi)∧bC (mv st hi)=rows.length∧tn P ops K d rest (putD (some d) (.pv (.seq nw e' rows)) st)
   |_,_=>False)
  |none=>gq P ops o (vE P ops K rest) st
theorem BU{P:aa}{ops:Array ai}{p:Nat}:∀(l:List ai){st:St}{K:St->Prop}(_:tn P ops.toList K p l st){g:Gh}{a:Act}{w:ab}(_:Sim g st a w)(_:∃q n,a.tmps.getD p undef=.slice q n n)(_:cV g.N l=true){Q:Exit->Act->ab->Prop}
 (_:∀st' g' b w',K st'->g.to g'->Sim g' st' b w'->Q .normal b w'),wpList P ops Q l a w
 |[],_,_,h,_,_,_,_,_,_,_,_=>h.elim
 |o::rest,st,K,h,g,a,w,hs,r,hd,Q,D=>by
  obtain⟨h1,B⟩:=iY hd;rw[tn]at h;unfold wpList;split at h;rename_i t s x d M;obtain⟨b1,b2,b3⟩:=Bu M;obtain⟨rfl,h⟩:=h;split at h;rename_i e bt nw rows hi E;obtain⟨rfl,f,j,H,I,J,L⟩:=h;have O:∃q,a.tmps.getD p undef=.slice q rows.length rows.length:=by
   obtain⟨q,n,A⟩:=r;obtain⟨bl,k⟩:=hs.own;have C:=k.slots p;rw[E,A]at C;obtain⟨_,_,_,c,_⟩:=C;simp only[Value.slice.injEq]at c;obtain⟨_,i,_⟩:=c;exact⟨q,by rw[A,i]⟩
  obtain⟨v,w',S,T⟩:=BT o t p x d bt b3 b2 hi f E j H I J (N:=g.N) (by rw[b2]at h1;exact h1) g a w rfl hs O;rw[Vt (by simp[Region.wanted,b1])];left;unfold Oper.wp;rw[S];exact ud rest L T B D;exact h.elim;obtain⟨f,j⟩:=h;have:=jZ (ops:=ops) o j hs h1 (Q:=Q) (K':=λb w'=>(∃q n,b.tmps.getD p undef=.slice q n n)->wpList P ops Q rest b w')
   (λst' g' b w' hk F s' u=>BU rest hk s' u (by rw[F.N];exact B) (λz g2 G W R V U=>D z g2 G W R (F.trans V) U))
  split;rename_i y;rw[Vt y]at this;exact .inl (Lz f this λb w' hk m=>hk (by rw[m];exact r));rename_i y;rw[Vs y]at this;exact this (by rw[sL f];exact r)
theorem BV{P:aa}{ops:Array ai}:∀(l:List ai){st:St}{K:St->Prop}(_:vE P ops.toList K l st){g:Gh}{a:Act}{w:ab}(_:Sim g st a w)(_:cV g.N l=true){Q:Exit->Act->ab->Prop}
 (_:∀st' g' p w',K st'->g.to g'->Sim g' st' p w'->Q .normal p w'),wpList P ops Q l a w
 |[],st,K,h,g,a,w,hs,_,Q,n=>n st g a w h hs.refl_to hs
 |o::rest,st,K,h,g,a,w,hs,hd,Q,n=>by
  obtain⟨h1,y⟩:=iY hd;rw[vE]at h;unfold wpList;split at h;rename_i t x hi m d J;obtain⟨b1,b2,b3⟩:=xN J;split at h
  .rename_i e nw e' rows b M;obtain⟨rfl,E,F,G,H,Y,I⟩:=h;rw[Vt (by simp[Region.wanted,b1])];left;obtain⟨z,_⟩:=bm hs x E;rw[M]at z;obtain⟨_,q,cap,R,L,A⟩:=z;have B:=b;unfold bU at b;split at b
   case h_2=>cases b
   rename_i X O;simp only[VW]at b;obtain⟨i,k,rfl⟩:=b;have j:=rp (P:=P) hs rows.length cap hi m F G H (by omega) (by omega) L;have hn:(bC (mv st hi)).toNat=rows.length:=by omega
   rw[hn]at j;have f:(execOp a.eval o).run P w=.ok (.value (sliced q 0 rows.length rows.length i.size)) w:=by
    simp only[execOp,b3,R,Wq,X0];simp only[Instr.sliceAt,bD,cq O,bK,Instr.slice,j,run_sizeOf k,bN,sliced]
   have s:sliced q 0 rows.length rows.length i.size=.slice q rows.length rows.length:=by
    unfold sliced;rw[YZ,ZB];split;rfl;rcases A with rfl|⟨c,off,arr,T,fz,vs,rfl,_⟩;simp at*;simp[gW]
   rw[s]at f;unfold Oper.wp;rw[f,Oper.upon_value];rw[b2]at h1⊢;have r:Sim g (putD (some d) (.pv (.seq nw i.size rows)) st) (a.put (some d) (.slice q rows.length rows.length)) w:=hs.put h1 ⟨rfl,q,rows.length,rfl,Vu _,A⟩ trivial rfl;exact BU rest I r ⟨q,rows.length,by rw[fw (by rw[hs.size];exact h1),Vt rfl]⟩ y n
  exact h.elim;have:=jZ (ops:=ops) o h hs h1 (Q:=Q) (K':=wpList P ops Q rest)
   (λst' g' p w' hk C s'=>BV rest hk s' (by rw[C.N];exact y) (λv g2 D W S V U=>n v g2 D W S (C.trans V) U))
  split;rename_i u;rw[Vt u]at this;exact .inl this;rename_i u;rw[Vs u]at this;exact this
theorem jF.full{P:aa}{k0:Nat}{ops:Array ai}{K:St->Prop}{st:St}(h:vE P ops.toList K ops.toList st):jF P k0 ops K st:=λ_ _ _ _ hs hd _ a=>BV ops.toList h hs hd a
section
variable {P : aa} {ops : List ai} {K : St -> Prop} {st : St} {p : Nat}
@[simp] theorem RO:tn P ops K p [] st=False:=rfl
theorem Eq(o:ai)(rest:List ai):tn P ops K p (o::rest) st=match pK o with
 | some (t, s, x, d) => s = .tmp p ∧ (match cF P t, look st.t p with
  |some (e,bt),.pv (.seq _ 1 rows)=>e=1∧0<bt∧gc st x∧jV st 1 (mv st x)∧rowsOf st (mv st x)≠[]∧(rows.length+(rowsOf st (mv st x)).length)*bt<=140737488355328∧
   lL P ops K rest ⟨(d,.own true 1 (rows++rowsOf st (mv st x)))::aW (dx d) st.t,st.h⟩
  |_,_=>False)
 |none=>o.dst≠some p∧gq P ops o (tn P ops K p rest) st:=rfl
@[simp] theorem RP:vE P ops K [] st=K st:=rfl
theorem Er(o:ai)(rest:List ai):vE P ops K (o::rest) st=match lD o with
 | some (t, x, hi, m, d) => (match bU P t, mv st x with
  |some e,.pv (.seq nw e' rows)=>e'=e∧gc st x∧dI st (some hi)∧dI st (some m)∧bC (mv st m)=bC (mv st hi)∧bC (mv st hi)=rows.length∧tn P ops K d rest (putD (some d) (.pv (.seq nw e' rows)) st)
  |_,_=>False)
 |none=>gq P ops o (vE P ops K rest) st:=rfl
attribute [simp] Eq Er
end
end Go.AX
