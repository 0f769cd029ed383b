/-
  AX, part Ap: a slice of one's own becomes a block; append onto a slice of a block; regions by what is carried out.
  AX, part Af: append onto a slice that is as long as its room (l[:n:n]).
-/
import Derived.Test.YthfhellfmbllhaaGreatAxBe
namespace Go.AX
def WeakE {ι:Type} (k0:Nat) (st:St) (S:ι→St):Prop:=∀g a w,g.n0≤k0→Sim g st a w→∃g' i,g.to g'∧Sim g' (S i) a w
theorem ASem.weak {P:Program} {k0:Nat} {ops:Array Oper} {K:St→Prop} {st:St} {ι:Type} (S:ι→St) (hw:WeakE k0 st S) (h:∀i,ASem P k0 ops K (S i)):ASem P k0 ops K st:=fun g a w h0 hs hd Q hQ=>by
 obtain⟨g',i,t,s'⟩:=hw g a w h0 hs;exact h i g' a w (by rw[t.n0];exact h0) s' (by rw[t.N];exact hd) Q fun st' g2 a' w' hk t2 s2=>hQ st' g2 a' w' hk (t.trans t2) s2
theorem ASem.ops {P:Program} {k0:Nat} {ops:Array Oper} {K:St→Prop} {st:St} (h:AOps P ops.toList K ops.toList st):ASem P k0 ops K st:=fun _ _ _ _ hs hd _ hQ=>AOps_wp ops.toList h hs hd hQ
theorem FitR.flat {g:Gh} {e:Nat}:∀{rows:List (List PV)} {vs:List Value},FitR g e rows vs→FitL g rows.flatten vs
 |[],vs,h=>h
 |row::rows,vs,⟨v1,v2,h1,_,h3,h4⟩=>by
  subst h1;rw[List.flatten_cons];exact FitL.append h3 (FitR.flat h4)
theorem FitL.bots {g:Gh}:∀(vs:List Value),FitL g (List.replicate vs.length PV.bot) vs
 |[]=>rfl
 |v::vs=>⟨v,vs,rfl,trivial,FitL.bots vs⟩
theorem Sim.adoptS {g:Gh} {st:St} {a:Act} {w:World} (h:Sim g st a w) {s e:Nat} {nw:Bool} {rows:List (List PV)} (hlk:look st.t s=.own nw e rows) (hne:rows≠[]):
    ∃g' cap,g.to g'∧rows.length≤cap∧Sim g' ⟨(s,.pv (.bsl st.h.length e 0 rows.length cap))::st.t,st.h++[(rows.flatten++List.replicate ((cap -rows.length)*e) PV.bot).map SV.pv]⟩ a w:=by
  obtain⟨bl,hb⟩:=h.own
  have hfs:=hb.slots s
  rw[hlk]at hfs
  rcases hfs with⟨_,e1,_⟩|⟨c,hbc,cap,arr,T,vs,e1,hcell,e3,⟨e4,e4',hone⟩,e5,e6,e7⟩
  · exact absurd e1 hne
  obtain⟨rest,hrest⟩:=e6
  have hvl:=e5.length
  have hal:arr.toList.length=cap*e:=by rw[Array.length_toList];exact e3
  have hrl:rest.length=(cap -rows.length)*e:=by
    rw[←hrest,List.length_append,hvl]at hal
    rw[Nat.sub_mul];omega
  obtain⟨ps,hps⟩:∃ps,ps=rows.flatten++List.replicate ((cap -rows.length)*e) PV.bot:=⟨_,rfl⟩
  have hfit:FitL g ps arr.toList:=by
    rw[hps,←hrest,←hrl]
    exact FitL.append e5.flat (FitL.bots rest)
  obtain⟨s0,bl0,hb0,_,_,hfree⟩:=h.drop hb (.slot s)
  obtain⟨f1,f2,f3,f4⟩:=hfree c hbc
  obtain⟨g',hg'⟩:∃g':Gh,g'={g with n:=g.n+1,μ:=fun b=>if b=g.n then c else g.μ b}:=⟨_,rfl⟩
  have hle:g.le g':=by subst hg';exact⟨fun _ _ h=>h,Nat.le_refl _,Nat.le_succ _,fun b hb=>if_neg (by omega)⟩
  have hn:=h.n
  refine⟨g',cap,by subst hg';exact⟨fun _ _ h=>h,rfl,rfl,rfl,rfl,rfl,Nat.le_trans h.n0 (Nat.le_succ _),fun b hbn=>if_neg (by have:=h.n0;omega),fun _ _ h=>h⟩,e4,?_⟩
  rw[←hps]
  clear hps
  have hslot:∀u,u≠s→look ((s,SV.pv (.bsl st.h.length e 0 rows.length cap))::st.t) u=look ((s,SV.pv .bot)::st.t) u:=fun u hu=>by simp only[look];rw[if_neg (Ne.symm hu),if_neg (Ne.symm hu)]
  have hslot0:look ((s,SV.pv (.bsl st.h.length e 0 rows.length cap))::st.t) s=.pv (.bsl st.h.length e 0 rows.length cap):=by simp[look]
  subst hg'
  refine{size:=h.size,defs:=h.defs,env:=h.env,n:=by simp[hn],n0:=Nat.le_trans h.n0 (Nat.le_succ _),B:=h.B,I:=h.I,F:=h.F,μI:=fun b hb=>?_,μinj:=fun b b' hb hb' he=>?_,own:=⟨fun p=>match p with|.slot u=>bl0 (.slot u)|.cell b k=>if b=g.n then none else bl0 (.cell b k),?_⟩,al:=fun u=>?_}
  · by_cases e:b=g.n
    · simp only[e,if_true];exact⟨f1,f2⟩
    · simp only[e,if_false];exact h.μI b (by have:b<g.n+1:=hb;omega)
  · have hb1:b<g.n+1:=hb
    have hb1':b'<g.n+1:=hb'
    by_cases e:b=g.n
    · by_cases e':b'=g.n
      · omega
      · simp only[e,e',if_true,if_false]at he
        exact absurd he.symm (f3 b' (by omega))
    · by_cases e':b'=g.n
      · simp only[e,e',if_true,if_false]at he
        exact absurd he (f3 b (by omega))
      · simp only[e,e',if_false]at he
        exact h.μinj b b' (by omega) (by omega) he
  · refine{slots:=fun u=>?_,blocks:=fun b ys hy=>?_,inj:=fun p q k hp hq=>?_,free:=fun p k hp=>?_}
    · by_cases hu:u=s
      · subst hu
        have h5:=hb0.slots u
        rw[show look (setPos st (.slot u) (.pv .bot)).t u=.pv .bot by simp[setPos,look]]at h5
        rw[hslot0]
        refine⟨h5.1,?_,e4,?_⟩
        · show st.h.length<g.n+1;omega
        · rw[e1,←hn];simp
      · have h5:=hb0.slots u
        rw[hslot u hu]
        exact SFit.frame hle (fun _ _=>rfl) h5
    · by_cases e:b=g.n
      · subst e
        rw[hn,List.getElem?_append_right (Nat.le_refl _),Nat.sub_self]at hy
        simp only[List.getElem?_cons_zero,Option.some.injEq]at hy
        subst hy
        refine⟨arr,T,by simp only[if_true];exact hcell,⟨by rw[List.length_map,←hfit.length,Array.length_toList],hone⟩,fun k x hk=>?_⟩
        rw[List.getElem?_map]at hk
        cases hk2:ps[k]?with
        |none=>rw[hk2]at hk;cases hk
        |some y=>
          rw[hk2]at hk
          simp only[Option.map_some,Option.some.injEq]at hk
          subst hk
          obtain⟨v,hv,hf⟩:=hfit.get k y hk2
          have:arr[k]?=some v:=by rw[←Array.getElem?_toList];exact hv
          refine⟨rfl,by simp,?_⟩
          rw[Array.getD_eq_getD_getElem?,this]
          exact Fit.mono hle _ _ hf
      · have hlt:b<st.h.length:=by
          have:=(List.getElem?_eq_some_iff.1 hy).1
          simp only[List.length_append,List.length_singleton]at this
          omega
        rw[List.getElem?_append_left hlt]at hy
        obtain⟨arr',T',h1,h2,h3⟩:=hb0.blocks b ys hy
        refine⟨arr',T',by simp only[e,if_false];exact h1,h2,fun k x hk=>?_⟩
        simp only[e,if_false]
        exact⟨(h3 k x hk).1,SFit.frame hle (fun _ _=>rfl) (h3 k x hk).2⟩
    · cases p with
      |slot u=>cases q with
        |slot v=>exact hb0.inj _ _ k hp hq
        | cell b j => dsimp only at hq; split at hq
                      · cases hq
                      · exact hb0.inj _ _ k hp hq
      |cell b j=>
        dsimp only at hp;split at hp
        · cases hp
        · cases q with
          |slot v=>exact hb0.inj _ _ k hp hq
          | cell b2 j2 => dsimp only at hq; split at hq
                          · cases hq
                          · exact hb0.inj _ _ k hp hq
    · have hp0:bl0 p=some k:=by
        cases p with
        |slot u=>exact hp
        | cell b j => dsimp only at hp; split at hp
                      · cases hp
                      · exact hp
      obtain⟨q1,q2,q3,q4⟩:=hb0.free p k hp0
      refine⟨q1,q2,q3,fun b hb=>?_⟩
      by_cases e:b=g.n
      · simp only[e,if_true];intro e2;exact f4 p (e2▸hp0)
      · simp only[e,if_false];exact q4 b (by have:b<g.n+1:=hb;omega)
  · by_cases hu:u=s
    · subst hu;rw[hslot0];trivial
    · rw[hslot u hu]
      refine AlOk.congr (fun p hp=>?_) (s0.al u)
      cases p with
      |slot v=>
        by_cases hv:v=s
        · subst hv;simp only[posGet,hslot0]at hp;cases hp
        · simp only[posGet];exact⟨hslot v hv,rfl⟩
      |cell b k=>
        have hlt:b<st.h.length:=by
          apply Nat.lt_of_not_le
          intro hge
          simp only[posGet]at hp
          by_cases e:b=st.h.length
          · subst e
            have h8:(st.h++[ps.map SV.pv]).getD st.h.length []=ps.map SV.pv:=by simp[List.getD_eq_getElem?_getD]
            rw[h8,List.getD_eq_getElem?_getD,List.getElem?_map]at hp
            cases h9:ps[k]?<;>rw[h9]at hp<;>cases hp
          · have h8:(st.h++[ps.map SV.pv]).getD b []=[]:=by rw[List.getD_eq_getElem?_getD,List.getElem?_eq_none (by simp;omega)];rfl
            rw[h8]at hp
            cases hp
        refine⟨?_,?_⟩
        · simp only[posGet,setPos,List.getD_eq_getElem?_getD]
          rw[List.getElem?_append_left hlt]
        · have e:b≠g.n:=by omega
          simp only[posVal,e,if_false]
theorem FitR.sing {g:Gh}:∀{ys:List PV} {vs:List Value},(∀v∈vs,v.oneCell'=true)→FitL g ys vs→FitR g 1 (ys.map fun y=>[y]) vs
 |[],_,_,h=>h
 |y::ys,_,ho,⟨v,r,h1,h2,h3⟩=>by
  subst h1;exact⟨[v],r,rfl,⟨rfl,fun u hu=>by rw[List.mem_singleton]at hu;rw[hu];exact ho v List.mem_cons_self⟩,⟨v,[],rfl,h2,rfl⟩,FitR.sing (fun u hu=>ho u (List.mem_cons_of_mem _ hu)) h3⟩
theorem FitL.of_get {g:Gh}:∀{ys:List PV} {vs:List Value},ys.length=vs.length→(∀(k:Nat) y v,ys[k]?=some y→vs[k]?=some v→Fit g y v)→FitL g ys vs
 |[],[],_,_=>rfl
 |[],_::_,h,_=>by simp at h
 |_::_,[],h,_=>by simp at h
 |y::ys,v::vs,h,hf=>⟨v,vs,rfl,hf 0 y v rfl rfl,FitL.of_get (by simpa using h) fun k y' v' h1 h2=>hf (k+1) y' v' (by simpa using h1) (by simpa using h2)⟩
theorem flatten_sing (ys:List PV):(ys.map fun y=>[y]).flatten=ys:=by
 induction ys with
 |nil=>rfl
 |cons y ys ih=>rw[List.map_cons,List.flatten_cons,ih];rfl
theorem append_blk {P:Program} {st:St} (o:Oper) (t:TypeId) (s x:Operand) (d bt b n cap:Nat) {xs:List SV} {ys:List PV} (ho:o.op=.call {callee:=.builtin .append,args:=#[s,x],argTypes:=#[t,t]}) (hd:o.dst=some d)
    (hi:slInfo P t=some (1,bt)) (hb1:0<bt) (hgs:gc st s) (hs:mv st s=.pv (.bsl b 1 0 n cap)) (hgx:gc st x) (hx:slOk st 1 (mv st x)) (hne:rowsOf st (mv st x)≠[])
    (hxs:st.h[b]?=some xs) (hcap:cap≤xs.length) (hys:xs.take n=ys.map SV.pv) (hyl:ys.length=n)
    (hbytes:(n+(rowsOf st (mv st x)).length)*bt≤140737488355328) {N:Nat} (hN:d<N):
    ∀g a w,g.N=N→Sim g st a w→∃v w' g',(execOp a.eval o).run P w=.ok (.value v) w'∧g.to g'∧
      ((n + (rowsOf st (mv st x)).length ≤ cap ∧ Sim g' ⟨(d, .pv (.bsl b 1 0 (n + (rowsOf st (mv st x)).length) cap)) :: killL (qCells b n (rowsOf st (mv st x)).length) st.t, st.h.set b (splice xs n ((rowsOf st (mv st x)).flatten.map SV.pv))⟩ (a.put o.dst v) w') ∨
       (cap < n + (rowsOf st (mv st x)).length ∧ ∃ cap', n + (rowsOf st (mv st x)).length ≤ cap' ∧
        Sim g' ⟨(d,.pv (.bsl st.h.length 1 0 (n+(rowsOf st (mv st x)).length) cap'))::(d,.own true 1 ((ys.map fun y=>[y])++rowsOf st (mv st x)))::killL (qSlot d) st.t,st.h++[(ys++(rowsOf st (mv st x)).flatten++List.replicate (cap' -(n+(rowsOf st (mv st x)).length)) PV.bot).map SV.pv]⟩ (a.put o.dst v) w')):=by
  intro g a w hg h
  obtain⟨bl,hb⟩:=h.own
  obtain⟨hfs,has⟩:=mv_ok h s hgs
  rw[hs]at hfs
  obtain⟨_,hbn,hnc,hv⟩:=hfs
  obtain⟨q,k,news,hvx,hfx,hcx⟩:=slice_cells h hgx hx
  obtain⟨ad,rfl,hcell⟩:∃ad:Addr,q=some ad∧∀(j:Nat) u,news[j]?=some u→w.cell? (ad.add j)=some u:=by
    rcases hcx with hc|hc
    · exact absurd hc hne
    · exact hc
  obtain⟨arr,T,c1,⟨c2,cone⟩,c3⟩:=hb.blocks b xs hxs
  obtain⟨el,i,z,hu,hinf,hz,hsz,hby,hzs,hz1⟩:=slInfo_ok hi
  have hnl:news.length=(rowsOf st (mv st x)).length*i.size:=by rw[hsz];exact hfx.length
  have hnl1:news.length=(rowsOf st (mv st x)).length:=by rw[hnl,hsz,Nat.mul_one]
  have hm0:0<(rowsOf st (mv st x)).length:=List.length_pos_iff.2 hne
  generalize hR:rowsOf st (mv st x)=R at*
  have hflen:R.flatten.length=R.length:=by have:=hfx.flat.length;omega
  by_cases hroom:n+R.length≤cap
  · have hfit:n*i.size+news.length≤arr.size:=by rw[hsz,hnl1];omega
    have hr:=run_append_in (P:=P) w t o.type el i hu hinf (g.μ b) n cap T arr c1 ad R.length k news hnl hcell hfx.one hroom hfit
    rw[hsz,Nat.mul_one]at hr hfit
    have hB:=h.blockWrite (k0:=n) (ys:=R.flatten) (vs:=news) (arr':=(splice arr.toList n news).toArray) (w':=w.setRow (g.μ b) (splice arr.toList n news).toArray) hxs (by omega) c1 hfx.flat hfx.one rfl (by simp) (fun c hc=>setRow_other w (g.μ b) c _ hc) ⟨T,setRow_heap w (g.μ b) arr _ T _ c1⟩ (by simp)
    rw[hflen]at hB
    refine⟨.slice (some ⟨g.μ b,0,none⟩) (n+R.length) cap,w.setRow (g.μ b) (splice arr.toList n news).toArray,g,?_,h.refl_to,.inl ⟨hroom,?_⟩⟩
    · simp only[execOp,ho,resolve,invoke,builtin,List.map_toArray,List.map_cons,List.map_nil,Sem.run_bind,Sem.run_pure,Result.andThen_ok,hv,hvx,hr]
    · rw[hd]
      exact hB.put (hg▸hN) (sv:=.pv (.bsl b 1 0 (n+R.length) cap)) ⟨rfl,hbn,hroom,rfl⟩ trivial rfl
  · have hlt:cap<n+R.length:=by omega
    have hzo:∀m,∀v∈(Builtin.zeroCells z.cells m).toList,v.oneCell'=true:=fun m v hv=>by
      simp only[Builtin.zeroCells,Array.toList_map,List.mem_map]at hv
      obtain⟨j,hj,rfl⟩:=hv
      by_cases e:z.cells.size=0
      · rw[e]at hj;simp at hj
      · have hlt:j %z.cells.size<z.cells.size:=Nat.mod_lt _ (by omega)
        rw[getElem!_pos z.cells (j %z.cells.size) hlt]
        exact hz1 _ (Array.getElem_mem_toList hlt)
    obtain⟨olds,hol⟩:∃olds,olds=arr.toList.take n:=⟨_,rfl⟩
    have hal:arr.toList.length=xs.length:=by rw[Array.length_toList];exact c2
    have holl:olds.length=n:=by rw[hol,List.length_take];omega
    have hfy:FitL g ys olds:=FitL.of_get (by omega) fun j y v hy hv=>by
      have hj:j<n:=by have:=(List.getElem?_eq_some_iff.1 hy).1;omega
      have h1:xs[j]?=some (.pv y):=by
        have:(xs.take n)[j]?=some (.pv y):=by rw[hys,List.getElem?_map,hy];rfl
        rwa [List.getElem?_take,if_pos hj]at this
      have h2:arr[j]?=some v:=by
        rw[hol,List.getElem?_take,if_pos hj]at hv
        rw[←Array.getElem?_toList];exact hv
      have h3:=(c3 j _ h1).2.2
      rw[Array.getD_eq_getD_getElem?,h2]at h3
      exact h3
    have hoo:∀v∈olds,v.oneCell'=true:=fun v hv=>cone v (by rw[hol]at hv;exact List.mem_of_mem_take hv)
    have holds:∀(j:Nat) u,olds[j]?=some u→w.cell? ((⟨g.μ b,0,none⟩:Addr).add j)=some u:=fun j u hj=>by
      rw[Addr.add_lit,cell_of c1,Nat.zero_add,←Array.getElem?_toList]
      rw[hol,List.getElem?_take]at hj
      split at hj
      · exact hj
      · cases hj
    have hsum:n+R.length≤140737488355328:=by
      have:(n+R.length)*1≤(n+R.length)*bt:=Nat.mul_le_mul_left _ hb1
      omega
    have hr:=run_append_grow (P:=P) w t o.type el i z hu hinf hz ⟨g.μ b,0,none⟩ n cap olds (by rw[holl,hsz,Nat.mul_one]) holds ad R.length k news hnl hcell hlt (by omega) (growslice_fits hlt (by rw[hby];exact hbytes))
    have hge:=grownCap_ge w (n+R.length) cap el
    have hmx:=grownCap_le_maxLen w (n+R.length) cap el (by unfold maxLen;omega)
    generalize grownCap w (n+R.length) cap el=gc at*
    obtain⟨rows,hrows⟩:∃rows:List (List PV),rows=(ys.map fun y=>[y])++R:=⟨_,rfl⟩
    have hrl:rows.length=n+R.length:=by rw[hrows,List.length_append,List.length_map,hyl]
    have hrf:rows.flatten=ys++R.flatten:=by rw[hrows,List.flatten_append,flatten_sing]
    have hS:SFit g (w.drew.alloc (.cells (olds.toArray++news.toArray++Builtin.zeroCells z.cells (gc -(n+R.length))) el)) (.own true 1 rows) (.slice (some ⟨w.heap.size,0,none⟩) (n+R.length) gc) (some w.heap.size):=by
      refine .inr ⟨w.heap.size,rfl,gc,_,el,olds++news,by rw[hrl],heap_alloc_new w.drew _,?_,⟨by rw[hrl];exact hge,hmx,by simpa only[Array.toList_append]using one_append (one_append hoo hfx.one) (hzo _)⟩,by rw[hrows];exact FitR.append (FitR.sing hoo hfy) hfx,?_,fun _=>h.B⟩
      · simp only[Array.size_append,List.size_toArray,size_zeroCells,hzs,holl,hnl1]
        omega
      · exact⟨(Builtin.zeroCells z.cells (gc -(n+R.length))).toList,by simp⟩
    have hO:=h.putOwn hb (hg▸hN) (w':=w.drew.alloc (.cells (olds.toArray++news.toArray++Builtin.zeroCells z.cells (gc -(n+R.length))) el)) rfl (by simp) (fun c hc _=>heap_alloc_old w.drew _ hc) hS rfl (fun c hc=>by cases hc;exact⟨by simp,h.fresh hb (Nat.le_refl _)⟩)
    obtain⟨g',cap',t',hc',s'⟩:=hO.adoptS (s:=d) (e:=1) (nw:=true) (rows:=rows) (by simp[look]) (fun e=>by rw[e]at hrl;simp at hrl;omega)
    rw[hrl,hrf,Nat.mul_one]at s'
    rw[hrl]at hc'
    refine⟨_,_,g',?_,t',.inr ⟨hlt,cap',hc',by rw[hd,←hrows];exact s'⟩⟩
    simp only[execOp,ho,resolve,invoke,builtin,List.map_toArray,List.map_cons,List.map_nil,Sem.run_bind,Sem.run_pure,Result.andThen_ok,hv,hvx,hr]
/-! ### Rules -/
def appB (P:Program) (st:St) (t:TypeId) (s x:Operand) (d:Tmp) (K:St→Prop):Prop:=
 match slInfo P t,mv st s with
 |some (e,bt),.pv (.bsl b e' off n cap)=>e=1∧e'=1∧off=0∧0<bt∧gc st s∧gc st x∧slOk st 1 (mv st x)∧rowsOf st (mv st x)≠[]∧b<st.h.length∧cap≤(st.h.getD b []).length∧(n+(rowsOf st (mv st x)).length)*bt≤140737488355328∧
  ∃ys:List PV,(st.h.getD b []).take n=ys.map SV.pv∧ys.length=n∧
   (n+(rowsOf st (mv st x)).length≤cap→K ⟨(d,.pv (.bsl b 1 0 (n+(rowsOf st (mv st x)).length) cap))::killL (qCells b n (rowsOf st (mv st x)).length) st.t,st.h.set b (splice (st.h.getD b []) n ((rowsOf st (mv st x)).flatten.map SV.pv))⟩)∧
   (cap < n + (rowsOf st (mv st x)).length → ∀ cap', n + (rowsOf st (mv st x)).length ≤ cap' →
    K ⟨(d,.pv (.bsl st.h.length 1 0 (n+(rowsOf st (mv st x)).length) cap'))::(d,.own true 1 ((ys.map fun y=>[y])++rowsOf st (mv st x)))::killL (qSlot d) st.t,st.h++[(ys++(rowsOf st (mv st x)).flatten++List.replicate (cap' -(n+(rowsOf st (mv st x)).length)) PV.bot).map SV.pv]⟩)
 |_,_=>False
def cutB (P:Program) (st:St) (t:TypeId) (x hi m:Operand) (d:Tmp) (K:St→Prop):Prop:=
 match slSize P t,mv st x with
 |some e,.pv (.bsl b e' off n _)=>e'=e∧gc st x∧bndOk st (some hi)∧bndOk st (some m)∧asI (mv st m)=asI (mv st hi)∧0<asI (mv st hi)∧asI (mv st hi)≤n∧K (putD (some d) (.pv (.bsl b e' off (asI (mv st hi)).toNat (asI (mv st hi)).toNat)) st)
 |_,_=>False
def adK (D:List Nat) (d:Option Tmp) (K:St→Prop) (st:St):Prop:=
 match d with
 | some d => if memN D d = true then (match look st.t d with
  |.own _ e rows=>rows≠[]∧∀cap,rows.length≤cap→K ⟨(d,.pv (.bsl st.h.length e 0 rows.length cap))::st.t,st.h++[(rows.flatten++List.replicate ((cap -rows.length)*e) PV.bot).map SV.pv]⟩
  |_=>False)else K st
 |none=>K st
def isBslS:SV→Bool
 |.pv (.bsl _ _ _ _ _)=>true
 |_=>false
def blkOf (o:Oper):Option (TypeId×Operand×Operand×Tmp):=
 match o.guard,o.dst,o.op with
 |none,some d,.call c=>match c.callee,c.args.toList,c.argTypes.toList with
  |.builtin .append,[s,x],[t,t']=>if t=t' then some (t,s,x,d)else none
  |_,_,_=>none
 |_,_,_=>none
theorem blkOf_ok {o:Oper} {t:TypeId} {s x:Operand} {d:Tmp} (h:blkOf o=some (t,s,x,d)):o.guard=none∧o.dst=some d∧o.op=.call {callee:=.builtin .append,args:=#[s,x],argTypes:=#[t,t]}:=by
 unfold blkOf at h;split at h
 ·rename_i d' c h1 h2 h3;split at h
  ·rename_i s' x' t1 t2 h4 h5 h6;split at h
   ·rename_i e;subst e;simp only[Option.some.injEq,Prod.mk.injEq]at h;obtain⟨rfl,rfl,rfl,rfl⟩:=h;refine⟨h1,h2,?_⟩;rw[h3];obtain⟨cl,ar,ty⟩:=c;simp only at h4 h5 h6;subst h4;have h7:ar=#[s',x']:=Array.ext' h5;have h8:ty=#[t1,t1]:=Array.ext' h6;rw[h7,h8]
   ·cases h
  ·cases h
 ·cases h
def cutOfB (o:Oper):Option (TypeId×Operand×Operand×Operand×Tmp):=
 match o.guard,o.dst,o.op with
 |none,some d,.slice t x none (some hi) (some m)=>some (t,x,hi,m,d)
 |_,_,_=>none
theorem cutOfB_ok {o:Oper} {t:TypeId} {x hi m:Operand} {d:Tmp} (h:cutOfB o=some (t,x,hi,m,d)):o.guard=none∧o.dst=some d∧o.op=.slice t x none (some hi) (some m):=by
 unfold cutOfB at h;split at h
 ·rename_i h1 h2 h3;simp only[Option.some.injEq,Prod.mk.injEq]at h;obtain⟨rfl,rfl,rfl,rfl,rfl⟩:=h;exact⟨h1,h2,h3⟩
 ·cases h
def AStepM (P:Program) (D:List Nat) (ops:List Oper) (o:Oper) (K:St→Prop) (st:St):Prop:=
 match blkOf o with
 |some (t,s,x,d)=>if isBslS (mv st s)=true then appB P st t s x d K else AStep P ops o (adK D o.dst K) st
 |none=>match cutOfB o with
  |some (t,x,hi,m,d)=>cutB P st t x hi m d K
  |none=>AStep P ops o (adK D o.dst K) st
def AOpsM (P:Program) (D:List Nat) (ops:List Oper) (K:St→Prop):List Oper→St→Prop
 |[],st=>K st
 |o::rest,st=>AStepM P D ops o (AOpsM P D ops K rest) st
theorem adK_ok {D:List Nat} {d:Option Tmp} {K:St→Prop} {st:St} (h:adK D d K st) {g:Gh} {a:Act} {w:World} (hs:Sim g st a w):∃st' g',K st'∧g.to g'∧Sim g' st' a w:=by
 unfold adK at h;split at h
 ·split at h
  ·split at h
   ·rename_i hlk;obtain⟨h1,h2⟩:=h;obtain⟨g',_,t,hc,s'⟩:=hs.adoptS hlk h1;exact⟨_,g',h2 _ hc,t,s'⟩
   ·exact h.elim
  ·exact⟨st,g,h,hs.refl_to,hs⟩
 ·exact⟨st,g,h,hs.refl_to,hs⟩
theorem appB_wp {P:Program} {st:St} (o:Oper) {t:TypeId} {s x:Operand} {d:Nat} {K:St→Prop} (ho:o.op=.call {callee:=.builtin .append,args:=#[s,x],argTypes:=#[t,t]}) (hdd:o.dst=some d)
 (h:appB P st t s x d K) {g:Gh} {a:Act} {w:World} (hs:Sim g st a w) (hd:dstOk g.N o.dst) {K':Act→World→Prop} {Q:Exit→Act→World→Prop}
 (hK:∀st' g' a' w',K st'→g.to g'→Sim g' st' a' w'→K' a' w'):o.wp P a w K' Q:=by
 unfold appB at h;split at h
 ·rename_i e bt b e' off n cap hi hm;obtain⟨rfl,rfl,rfl,h1,h2,h3,h4,h5,h6,h7,h8,ys,h9,h10,h11,h12⟩:=h;have hxs:st.h[b]?=some (st.h.getD b []):=by rw[List.getD_eq_getElem?_getD,List.getElem?_eq_getElem h6];rfl
  obtain⟨v,w',g',r1,r2,r3⟩:=append_blk o t s x d bt b n cap ho hdd hi h1 h2 hm h3 h4 h5 hxs h7 h9 h10 h8 (N:=g.N) (by rw[hdd]at hd;exact hd) g a w rfl hs;unfold Oper.wp;rw[r1];rcases r3 with⟨r4,r5⟩|⟨r4,cap',r5,r6⟩
  ·exact hK _ g' _ w' (h11 r4) r2 r5
  ·exact hK _ g' _ w' (h12 r4 cap' r5) r2 r6
 ·exact h.elim
theorem run_bounds3' {P:Program} {st:St} {g:Gh} {a:Act} {w:World} (h:Sim g st a w) (len cap:Nat) (hi m:Operand) (hhi:bndOk st (some hi)) (hm:bndOk st (some m)) (he:asI (mv st m)=asI (mv st hi))
 (h1:0≤asI (mv st hi)) (h2:asI (mv st hi)≤len) (hc:len≤cap):
 ∀w':World,(Instr.sliceBounds true len cap none (some (a.eval hi)) (some (a.eval m))).run P w'=.ok (0,(asI (mv st hi)).toNat,(asI (mv st hi)).toNat) w':=by
 intro w';simp only[bndOk]at*;have e1:((asI (mv st hi)).toNat:Int)=asI (mv st hi):=Int.toNat_of_nonneg (by omega);simp only[Instr.sliceBounds,int_ok h hhi.1 hhi.2,int_ok h hm.1 hm.2,he,Sem.run_bind,Sem.run_pure,Result.andThen_ok,run_sliceBound w' _ _ cap _ (by omega:(0:Int)≤asI (mv st hi)) (by omega),
  run_sliceBound w' _ _ (asI (mv st hi)).toNat _ (by omega:(0:Int)≤asI (mv st hi)) (by omega)]
theorem cutB_wp {P:Program} {st:St} (o:Oper) {t:TypeId} {x hi m:Operand} {d:Nat} {K:St→Prop} (ho:o.op=.slice t x none (some hi) (some m)) (hdd:o.dst=some d)
 (h:cutB P st t x hi m d K) {g:Gh} {a:Act} {w:World} (hs:Sim g st a w) (hd:dstOk g.N o.dst) {K':Act→World→Prop} {Q:Exit→Act→World→Prop}
 (hK:∀st' g' a' w',K st'→g.to g'→Sim g' st' a' w'→K' a' w'):o.wp P a w K' Q:=by
 unfold cutB at h;split at h
 ·rename_i e b e' off n cap hsz hm;obtain⟨rfl,h1,h2,h3,h4,h5,h6,h7⟩:=h;obtain⟨hf,_⟩:=mv_ok hs x h1;rw[hm]at hf;obtain⟨_,hbn,hnc,hv⟩:=hf;unfold slSize at hsz;split at hsz
  case h_2=>cases hsz
  rename_i el hu;simp only[Option.map_eq_some_iff]at hsz;obtain⟨inf,hinf,rfl⟩:=hsz;have hb:=run_bounds3' (P:=P) hs n cap hi m h2 h3 h4 (by omega) h6 hnc;refine wp_of_run (st':=putD (some d) (.pv (.bsl b inf.size off (asI (mv st hi)).toNat (asI (mv st hi)).toNat)) st) (g:=g) ⟨.slice (some ⟨g.μ b,off,none⟩) (asI (mv st hi)).toNat (asI (mv st hi)).toNat,w,g,?_,hs.refl_to,?_⟩ (fun g' a' w'=>hK _ g' a' w' h7)
  ·have hne:(asI (mv st hi)).toNat≠0:=by omega
   simp only[execOp,ho,hv,Option.map_some,Option.map_none];simp only[Instr.sliceAt,Sem.run_bind,run_underlying hu,Result.andThen_ok,Instr.slice,hb,run_sizeOf hinf,Sem.run_pure];simp[Addr.add_lit]
  ·rw[hdd]at hd⊢;exact hs.put hd ⟨rfl,hbn,Nat.le_refl _,rfl⟩ trivial rfl
 ·exact h.elim
theorem AStepM_ok {P:Program} {D:List Nat} {ops:Array Oper} {st:St} (o:Oper) {K:St→Prop} (h:AStepM P D ops.toList o K st) {g:Gh} {a:Act} {w:World} (hs:Sim g st a w) (hd:dstOk g.N o.dst) {K':Act→World→Prop} {Q:Exit→Act→World→Prop}
 (hK:∀st' g' a' w',K st'→g.to g'→Sim g' st' a' w'→K' a' w'):if Region.wanted o (yielded ops a.tmps)=true then o.wp P a w K' Q else K' (a.put o.dst undef) w:=by
 have hA:AStep P ops.toList o (adK D o.dst K) st→if Region.wanted o (yielded ops a.tmps)=true then o.wp P a w K' Q else K' (a.put o.dst undef) w:=fun h1=>
  AStep_ok o h1 hs hd fun st' g' a' w' hk t s'=>by
   obtain⟨st2,g2,k2,t2,s2⟩:=adK_ok hk s';exact hK st2 g2 a' w' k2 (t.trans t2) s2
 unfold AStepM at h;split at h
 ·rename_i t s x d hb;obtain⟨h1,h2,h3⟩:=blkOf_ok hb;split at h
  ·rw[if_pos (by simp[Region.wanted,h1])];exact appB_wp o h3 h2 h hs hd hK
  ·exact hA h
 ·split at h
  ·rename_i t x hi m d hb;obtain⟨h1,h2,h3⟩:=cutOfB_ok hb;rw[if_pos (by simp[Region.wanted,h1])];exact cutB_wp o h3 h2 h hs hd hK
  ·exact hA h
theorem AOpsM_wp {P:Program} {D:List Nat} {ops:Array Oper}:∀(l:List Oper) {st:St} {K:St→Prop} (_:AOpsM P D ops.toList K l st) {g:Gh} {a:Act} {w:World} (_:Sim g st a w) (_:dstsOk g.N l=true) {Q:Exit→Act→World→Prop}
 (_:∀st' g' a' w',K st'→g.to g'→Sim g' st' a' w'→Q .normal a' w'),wpList P ops Q l a w
 |[],st,K,h,g,a,w,hs,_,Q,hQ=>hQ st g a w h hs.refl_to hs
 |o::rest,st,K,h,g,a,w,hs,hd,Q,hQ=>by
  obtain⟨h1,h2⟩:=dstsOk_cons hd;have:=AStepM_ok (ops:=ops) o h hs h1 (Q:=Q) (K':=wpList P ops Q rest)
   (fun st' g' a' w' hk t' s'=>AOpsM_wp rest hk s' (by rw[t'.N];exact h2) (fun st2 g2 a2 w2 k2 t2 s2=>hQ st2 g2 a2 w2 k2 (t'.trans t2) s2))
  unfold wpList;split
  ·rename_i hw;rw[if_pos hw]at this;exact .inl this
  ·rename_i hw;rw[if_neg hw]at this;exact this
theorem ASem.blk {P:Program} {k0:Nat} {ops:Array Oper} {K:St→Prop} {st:St} (D:List Nat) (h:AOpsM P D ops.toList K ops.toList st):ASem P k0 ops K st:=fun _ _ _ _ hs hd _ hQ=>AOpsM_wp ops.toList h hs hd hQ
section
variable {P : Program} {D : List Nat} {ops : List Oper} {K : St → Prop} {st : St}
@[simp] theorem AOpsM_nil:AOpsM P D ops K [] st=K st:=rfl
@[simp] theorem AOpsM_cons (o:Oper) (rest:List Oper):AOpsM P D ops K (o::rest) st=AStepM P D ops o (AOpsM P D ops K rest) st:=rfl
end
attribute [simp] AStepM blkOf cutOfB appB cutB adK isBslS
end Go.AX
namespace Go.AX
/-! ### Rules -/
def AOpsF (P:Program) (ops:List Oper) (K:St→Prop) (p:Nat):List Oper→St→Prop
 |[],_=>False
 |o::rest,st=>match blkOf o with
  | some (t, s, x, d) => s = .tmp p ∧ (match slInfo P t, look st.t p with
   |some (e,bt),.pv (.seq _ 1 rows)=>e=1∧0<bt∧gc st x∧slOk st 1 (mv st x)∧rowsOf st (mv st x)≠[]∧(rows.length+(rowsOf st (mv st x)).length)*bt≤140737488355328∧
    AOps P ops K rest ⟨(d,.own true 1 (rows++rowsOf st (mv st x)))::killL (qSlot d) st.t,st.h⟩
   |_,_=>False)
  |none=>o.dst≠some p∧AStep P ops o (AOpsF P ops K p rest) st
def AOpsG (P:Program) (ops:List Oper) (K:St→Prop):List Oper→St→Prop
 |[],st=>K st
 |o::rest,st=>match cutOfB o with
  | some (t, x, hi, m, d) => (match slSize P t, mv st x with
   |some e,.pv (.seq nw e' rows)=>e'=e∧gc st x∧bndOk st (some hi)∧bndOk st (some m)∧asI (mv st m)=asI (mv st hi)∧asI (mv st hi)=rows.length∧AOpsF P ops K d rest (putD (some d) (.pv (.seq nw e' rows)) st)
   |_,_=>False)
  |none=>AStep P ops o (AOpsG P ops K rest) st
section
variable {P : Program} {ops : List Oper} {K : St → Prop} {st : St} {p : Nat}
@[simp] theorem AOpsF_nil:AOpsF P ops K p [] st=False:=rfl
theorem AOpsF_cons (o:Oper) (rest:List Oper):AOpsF P ops K p (o::rest) st=match blkOf o with
 | some (t, s, x, d) => s = .tmp p ∧ (match slInfo P t, look st.t p with
  |some (e,bt),.pv (.seq _ 1 rows)=>e=1∧0<bt∧gc st x∧slOk st 1 (mv st x)∧rowsOf st (mv st x)≠[]∧(rows.length+(rowsOf st (mv st x)).length)*bt≤140737488355328∧
   AOps P ops K rest ⟨(d,.own true 1 (rows++rowsOf st (mv st x)))::killL (qSlot d) st.t,st.h⟩
  |_,_=>False)
 |none=>o.dst≠some p∧AStep P ops o (AOpsF P ops K p rest) st:=rfl
@[simp] theorem AOpsG_nil:AOpsG P ops K [] st=K st:=rfl
theorem AOpsG_cons (o:Oper) (rest:List Oper):AOpsG P ops K (o::rest) st=match cutOfB o with
 | some (t, x, hi, m, d) => (match slSize P t, mv st x with
  |some e,.pv (.seq nw e' rows)=>e'=e∧gc st x∧bndOk st (some hi)∧bndOk st (some m)∧asI (mv st m)=asI (mv st hi)∧asI (mv st hi)=rows.length∧AOpsF P ops K d rest (putD (some d) (.pv (.seq nw e' rows)) st)
  |_,_=>False)
 |none=>AStep P ops o (AOpsG P ops K rest) st:=rfl
attribute [simp] AOpsF_cons AOpsG_cons
end
end Go.AX