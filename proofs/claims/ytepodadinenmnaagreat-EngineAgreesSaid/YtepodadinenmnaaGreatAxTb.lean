/-
  AX, part Ap: a slice of one's own becomes a block; append onto a slice of a block; regions by what is carried out.
  AX, part Aq: regions that draw their order, where appends write blocks in place, or make new ones.
  AX, part Ar: slices of arrays that lie in a block, in regions that draw their order.
  AX, part As: regions that draw their order, by what is carried out, where appends write blocks in place.
  AX: drawn regions by a table: each operation once.
-/
import Derived.Test.YtepodadinenmnaaGreatAxBM
namespace Go.AX
def K2{ι:Type}(k0:Nat)(st:St)(S:ι→St):Prop:=∀g a w,g.n0≤k0→Sim g st a w→∃g' i,g.to g'∧Sim g' (S i) a w
theorem jW.weak{P:Program}{k0:Nat}{ops:Array Oper}{K:St→Prop}{st:St}{ι:Type}(S:ι→St)(hw:K2 k0 st S)(h:∀i,jW P k0 ops K (S i)):jW P k0 ops K st:=fun g a w h0 hs hd Q hQ=>by
 obtain⟨g',i,t,s'⟩:=hw g a w h0 hs;exact h i g' a w (by rw[t.n0];exact h0) s' (by rw[t.N];exact hd) Q fun st' g2 a' w' hk t2 s2=>hQ st' g2 a' w' hk (t.trans t2) s2
theorem jW.ops{P:Program}{k0:Nat}{ops:Array Oper}{K:St→Prop}{st:St}(h:iM P ops.toList K ops.toList st):jW P k0 ops K st:=fun _ _ _ _ hs hd _ hQ=>tZ ops.toList h hs hd hQ
theorem au.flat{g:Gh}{e:Nat}:∀{rows:List (List PV)}{vs:List Value},au g e rows vs→ai g rows.flatten vs
 |[],vs,h=>h
 |row::rows,vs,⟨v1,v2,h1,_,h3,h4⟩=>by
  subst h1;rw[List.flatten_cons];exact ai.append h3 (au.flat h4)
theorem ai.bots{g:Gh}:∀(vs:List Value),ai g (List.replicate vs.length PV.bot) vs
 |[]=>rfl
 |v::vs=>⟨v,vs,rfl,trivial,ai.bots vs⟩
theorem Sim.adoptS{g:Gh}{st:St}{a:Act}{w:World}(h:Sim g st a w){s e:Nat}{nw:Bool}{rows:List (List PV)}(hlk:look st.t s=.own nw e rows)(hne:rows≠[]):
    ∃g' cap,g.to g'∧rows.length≤cap∧Sim g' ⟨(s,.pv (.bsl st.h.length e 0 rows.length cap))::st.t,st.h++[(rows.flatten++List.replicate ((cap -rows.length)*e) PV.bot).map SV.pv]⟩ a w:=by
  obtain⟨bl,hb⟩:=h.own
  have hfs:=hb.slots s
  rw[hlk]at hfs
  rcases hfs with⟨_,e1,_⟩|⟨c,hbc,cap,arr,T,vs,e1,hcell,e3,⟨e4,e4',hone⟩,e5,e6,e7⟩
  · exact absurd e1 hne
  obtain⟨rest,hrest⟩:=e6
  have hvl:=e5.length
  have hal:arr.toList.length=cap*e:=by rw[Array.length_toList];exact e3
  have hrl:rest.length=(cap -rows.length)*e:=by
    rw[←hrest,List.length_append,hvl]at hal
    rw[Nat.sub_mul];omega
  obtain⟨ps,hps⟩:∃ps,ps=rows.flatten++List.replicate ((cap -rows.length)*e) PV.bot:=⟨_,rfl⟩
  have hfit:ai g ps arr.toList:=by
    rw[hps,←hrest,←hrl]
    exact ai.append e5.flat (ai.bots rest)
  obtain⟨s0,bl0,hb0,_,_,hfree⟩:=h.drop hb (.slot s)
  obtain⟨f1,f2,f3,f4⟩:=hfree c hbc
  obtain⟨g',hg'⟩:∃g':Gh,g'={g with n:=g.n+1,μ:=fun b=>if b=g.n then c else g.μ b}:=⟨_,rfl⟩
  have hle:g.le g':=by subst hg';exact⟨fun _ _ h=>h,Nat.le_refl _,Nat.le_succ _,fun b hb=>if_neg (by omega)⟩
  have hn:=h.n
  refine⟨g',cap,by subst hg';exact⟨fun _ _ h=>h,rfl,rfl,rfl,rfl,rfl,Nat.le_trans h.n0 (Nat.le_succ _),fun b hbn=>if_neg (by have:=h.n0;omega),fun _ _ h=>h⟩,e4,?_⟩
  rw[←hps]
  clear hps
  have hslot:∀u,u≠s→look ((s,SV.pv (.bsl st.h.length e 0 rows.length cap))::st.t) u=look ((s,SV.pv .bot)::st.t) u:=fun u hu=>by simp only[look];rw[if_neg (Ne.symm hu),if_neg (Ne.symm hu)]
  have hslot0:look ((s,SV.pv (.bsl st.h.length e 0 rows.length cap))::st.t) s=.pv (.bsl st.h.length e 0 rows.length cap):=by simp[look]
  subst hg'
  refine{size:=h.size,defs:=h.defs,env:=h.env,n:=by simp[hn],n0:=Nat.le_trans h.n0 (Nat.le_succ _),B:=h.B,I:=h.I,F:=h.F,μI:=fun b hb=>?_,μinj:=fun b b' hb hb' he=>?_,own:=⟨fun p=>match p with|.slot u=>bl0 (.slot u)|.cell b k=>if b=g.n then none else bl0 (.cell b k),?_⟩,al:=fun u=>?_}
  · by_cases e:b=g.n
    · simp only[e,if_true];exact⟨f1,f2⟩
    · simp only[e,if_false];exact h.μI b (by have:b<g.n+1:=hb;omega)
  · have hb1:b<g.n+1:=hb
    have hb1':b'<g.n+1:=hb'
    by_cases e:b=g.n
    · by_cases e':b'=g.n
      · omega
      · simp only[e,e',if_true,if_false]at he
        exact absurd he.symm (f3 b' (by omega))
    · by_cases e':b'=g.n
      · simp only[e,e',if_true,if_false]at he
        exact absurd he (f3 b (by omega))
      · simp only[e,e',if_false]at he
        exact h.μinj b b' (by omega) (by omega) he
  · refine{slots:=fun u=>?_,blocks:=fun b ys hy=>?_,inj:=fun p q k hp hq=>?_,free:=fun p k hp=>?_}
    · by_cases hu:u=s
      · subst hu
        have h5:=hb0.slots u
        rw[show look (setPos st (.slot u) (.pv .bot)).t u=.pv .bot by simp[setPos,look]]at h5
        rw[hslot0]
        refine⟨h5.1,?_,e4,?_⟩
        · show st.h.length<g.n+1;omega
        · rw[e1,←hn];simp
      · have h5:=hb0.slots u
        rw[hslot u hu]
        exact av.frame hle (fun _ _=>rfl) h5
    · by_cases e:b=g.n
      · subst e
        rw[hn,List.getElem?_append_right (Nat.le_refl _),Nat.sub_self]at hy
        simp only[List.getElem?_cons_zero,Option.some.injEq]at hy
        subst hy
        refine⟨arr,T,by simp only[if_true];exact hcell,⟨by rw[List.length_map,←hfit.length,Array.length_toList],hone⟩,fun k x hk=>?_⟩
        rw[List.getElem?_map]at hk
        cases hk2:ps[k]?with
        |none=>rw[hk2]at hk;cases hk
        |some y=>
          rw[hk2]at hk
          simp only[Option.map_some,Option.some.injEq]at hk
          subst hk
          obtain⟨v,hv,hf⟩:=hfit.get k y hk2
          have:arr[k]?=some v:=by rw[←Array.getElem?_toList];exact hv
          refine⟨rfl,by simp,?_⟩
          rw[Array.getD_eq_getD_getElem?,this]
          exact Fit.mono hle _ _ hf
      · have hlt:b<st.h.length:=by
          have:=(List.getElem?_eq_some_iff.1 hy).1
          simp only[List.length_append,List.length_singleton]at this
          omega
        rw[List.getElem?_append_left hlt]at hy
        obtain⟨arr',T',h1,h2,h3⟩:=hb0.blocks b ys hy
        refine⟨arr',T',by simp only[e,if_false];exact h1,h2,fun k x hk=>?_⟩
        simp only[e,if_false]
        exact⟨(h3 k x hk).1,av.frame hle (fun _ _=>rfl) (h3 k x hk).2⟩
    · cases p with
      |slot u=>cases q with
        |slot v=>exact hb0.inj _ _ k hp hq
        | cell b j => dsimp only at hq; split at hq
                      · cases hq
                      · exact hb0.inj _ _ k hp hq
      |cell b j=>
        dsimp only at hp;split at hp
        · cases hp
        · cases q with
          |slot v=>exact hb0.inj _ _ k hp hq
          | cell b2 j2 => dsimp only at hq; split at hq
                          · cases hq
                          · exact hb0.inj _ _ k hp hq
    · have hp0:bl0 p=some k:=by
        cases p with
        |slot u=>exact hp
        | cell b j => dsimp only at hp; split at hp
                      · cases hp
                      · exact hp
      obtain⟨q1,q2,q3,q4⟩:=hb0.free p k hp0
      refine⟨q1,q2,q3,fun b hb=>?_⟩
      by_cases e:b=g.n
      · simp only[e,if_true];intro e2;exact f4 p (e2▸hp0)
      · simp only[e,if_false];exact q4 b (by have:b<g.n+1:=hb;omega)
  · by_cases hu:u=s
    · subst hu;rw[hslot0];trivial
    · rw[hslot u hu]
      refine bN.congr (fun p hp=>?_) (s0.al u)
      cases p with
      |slot v=>
        by_cases hv:v=s
        · subst hv;simp only[aa,hslot0]at hp;cases hp
        · simp only[aa];exact⟨hslot v hv,rfl⟩
      |cell b k=>
        have hlt:b<st.h.length:=by
          apply Nat.lt_of_not_le
          intro hge
          simp only[aa]at hp
          by_cases e:b=st.h.length
          · subst e
            have h8:(st.h++[ps.map SV.pv]).getD st.h.length []=ps.map SV.pv:=by simp[List.getD_eq_getElem?_getD]
            rw[h8,List.getD_eq_getElem?_getD,List.getElem?_map]at hp
            cases h9:ps[k]?<;>rw[h9]at hp<;>cases hp
          · have h8:(st.h++[ps.map SV.pv]).getD b []=[]:=by rw[List.getD_eq_getElem?_getD,List.getElem?_eq_none (by simp;omega)];rfl
            rw[h8]at hp
            cases hp
        refine⟨?_,?_⟩
        · simp only[aa,setPos,List.getD_eq_getElem?_getD]
          rw[List.getElem?_append_left hlt]
        · have e:b≠g.n:=by omega
          simp only[an,e,if_false]
theorem au.sing{g:Gh}:∀{ys:List PV}{vs:List Value},(∀v∈vs,v.oneCell'=true)→ai g ys vs→au g 1 (ys.map fun y=>[y]) vs
 |[],_,_,h=>h
 |y::ys,_,ho,⟨v,r,h1,h2,h3⟩=>by
  subst h1;exact⟨[v],r,rfl,⟨rfl,fun u hu=>by rw[List.mem_singleton]at hu;rw[hu];exact ho v List.mem_cons_self⟩,⟨v,[],rfl,h2,rfl⟩,au.sing (fun u hu=>ho u (List.mem_cons_of_mem _ hu)) h3⟩
theorem ai.of_get{g:Gh}:∀{ys:List PV}{vs:List Value},ys.length=vs.length→(∀(k:Nat) y v,ys[k]?=some y→vs[k]?=some v→Fit g y v)→ai g ys vs
 |[],[],_,_=>rfl
 |[],_::_,h,_=>by simp at h
 |_::_,[],h,_=>by simp at h
 |y::ys,v::vs,h,hf=>⟨v,vs,rfl,hf 0 y v rfl rfl,ai.of_get (by simpa using h) fun k y' v' h1 h2=>hf (k+1) y' v' (by simpa using h1) (by simpa using h2)⟩
theorem ur(ys:List PV):(ys.map fun y=>[y]).flatten=ys:=by
 induction ys with
 |nil=>rfl
 |cons y ys ih=>rw[List.map_cons,List.flatten_cons,ih];rfl
theorem yl{P:Program}{st:St}(o:Oper)(t:TypeId)(s x:Operand)(d bt b n cap:Nat){xs:List SV}{ys:List PV}(ho:o.op=.call {callee:=.builtin .append,args:=#[s,x],argTypes:=#[t,t]}) (hd:o.dst=some d)
    (hi:bG P t=some (1,bt)) (hb1:0<bt) (hgs:gc st s) (hs:mv st s=.pv (.bsl b 1 0 n cap)) (hgx:gc st x) (hx:ia st 1 (mv st x)) (hne:rowsOf st (mv st x)≠[])
    (hxs:st.h[b]?=some xs) (hcap:cap≤xs.length) (hys:xs.take n=ys.map SV.pv) (hyl:ys.length=n)
    (hbytes:(n+(rowsOf st (mv st x)).length)*bt≤140737488355328) {N:Nat} (hN:d<N):
    ∀g a w,g.N=N→Sim g st a w→∃v w' g',(execOp a.eval o).run P w=.ok (.value v) w'∧g.to g'∧
      ((n + (rowsOf st (mv st x)).length ≤ cap ∧ Sim g' ⟨(d, .pv (.bsl b 1 0 (n + (rowsOf st (mv st x)).length) cap)) :: aA (aC b n (rowsOf st (mv st x)).length) st.t, st.h.set b (splice xs n ((rowsOf st (mv st x)).flatten.map SV.pv))⟩ (a.put o.dst v) w') ∨
       (cap < n + (rowsOf st (mv st x)).length ∧ ∃ cap', n + (rowsOf st (mv st x)).length ≤ cap' ∧
        Sim g' ⟨(d,.pv (.bsl st.h.length 1 0 (n+(rowsOf st (mv st x)).length) cap'))::(d,.own true 1 ((ys.map fun y=>[y])++rowsOf st (mv st x)))::aA (cN d) st.t,st.h++[(ys++(rowsOf st (mv st x)).flatten++List.replicate (cap' -(n+(rowsOf st (mv st x)).length)) PV.bot).map SV.pv]⟩ (a.put o.dst v) w')):=by
  intro g a w hg h
  obtain⟨bl,hb⟩:=h.own
  obtain⟨hfs,has⟩:=aL h s hgs
  rw[hs]at hfs
  obtain⟨_,hbn,hnc,hv⟩:=hfs
  obtain⟨q,k,news,hvx,hfx,hcx⟩:=fQ h hgx hx
  obtain⟨ad,rfl,hcell⟩:∃ad:Addr,q=some ad∧∀(j:Nat) u,news[j]?=some u→w.cell? (ad.add j)=some u:=by
    rcases hcx with hc|hc
    · exact absurd hc hne
    · exact hc
  obtain⟨arr,T,c1,⟨c2,cone⟩,c3⟩:=hb.blocks b xs hxs
  obtain⟨el,i,z,hu,hinf,hz,hsz,hby,hzs,hz1⟩:=oc hi
  have hnl:news.length=(rowsOf st (mv st x)).length*i.size:=by rw[hsz];exact hfx.length
  have hnl1:news.length=(rowsOf st (mv st x)).length:=by rw[hnl,hsz,Nat.mul_one]
  have hm0:0<(rowsOf st (mv st x)).length:=List.length_pos_iff.2 hne
  generalize hR:rowsOf st (mv st x)=R at*
  have hflen:R.flatten.length=R.length:=by have:=hfx.flat.length;omega
  by_cases hroom:n+R.length≤cap
  · have hfit:n*i.size+news.length≤arr.size:=by rw[hsz,hnl1];omega
    have hr:=l3 (P:=P) w t o.type el i hu hinf (g.μ b) n cap T arr c1 ad R.length k news hnl hcell hfx.one hroom hfit
    rw[hsz,Nat.mul_one]at hr hfit
    have hB:=h.blockWrite (k0:=n) (ys:=R.flatten) (vs:=news) (arr':=(splice arr.toList n news).toArray) (w':=w.setRow (g.μ b) (splice arr.toList n news).toArray) hxs (by omega) c1 hfx.flat hfx.one rfl (by simp) (fun c hc=>setRow_other w (g.μ b) c _ hc) ⟨T,setRow_heap w (g.μ b) arr _ T _ c1⟩ (by simp)
    rw[hflen]at hB
    refine⟨.slice (some ⟨g.μ b,0,none⟩) (n+R.length) cap,w.setRow (g.μ b) (splice arr.toList n news).toArray,g,?_,h.refl_to,.inl ⟨hroom,?_⟩⟩
    · simp only[execOp,ho,resolve,invoke,builtin,List.map_toArray,List.map_cons,List.map_nil,Sem.run_bind,Sem.run_pure,Result.andThen_ok,hv,hvx,hr]
    · rw[hd]
      exact hB.put (hg▸hN) (sv:=.pv (.bsl b 1 0 (n+R.length) cap)) ⟨rfl,hbn,hroom,rfl⟩ trivial rfl
  · have hlt:cap<n+R.length:=by omega
    have hzo:∀m,∀v∈(Builtin.zeroCells z.cells m).toList,v.oneCell'=true:=fun m v hv=>by
      simp only[Builtin.zeroCells,Array.toList_map,List.mem_map]at hv
      obtain⟨j,hj,rfl⟩:=hv
      by_cases e:z.cells.size=0
      · rw[e]at hj;simp at hj
      · have hlt:j %z.cells.size<z.cells.size:=Nat.mod_lt _ (by omega)
        rw[getElem!_pos z.cells (j %z.cells.size) hlt]
        exact hz1 _ (Array.getElem_mem_toList hlt)
    obtain⟨olds,hol⟩:∃olds,olds=arr.toList.take n:=⟨_,rfl⟩
    have hal:arr.toList.length=xs.length:=by rw[Array.length_toList];exact c2
    have holl:olds.length=n:=by rw[hol,List.length_take];omega
    have hfy:ai g ys olds:=ai.of_get (by omega) fun j y v hy hv=>by
      have hj:j<n:=by have:=(List.getElem?_eq_some_iff.1 hy).1;omega
      have h1:xs[j]?=some (.pv y):=by
        have:(xs.take n)[j]?=some (.pv y):=by rw[hys,List.getElem?_map,hy];rfl
        rwa [List.getElem?_take,if_pos hj]at this
      have h2:arr[j]?=some v:=by
        rw[hol,List.getElem?_take,if_pos hj]at hv
        rw[←Array.getElem?_toList];exact hv
      have h3:=(c3 j _ h1).2.2
      rw[Array.getD_eq_getD_getElem?,h2]at h3
      exact h3
    have hoo:∀v∈olds,v.oneCell'=true:=fun v hv=>cone v (by rw[hol]at hv;exact List.mem_of_mem_take hv)
    have holds:∀(j:Nat) u,olds[j]?=some u→w.cell? ((⟨g.μ b,0,none⟩:Addr).add j)=some u:=fun j u hj=>by
      rw[Addr.add_lit,cell_of c1,Nat.zero_add,←Array.getElem?_toList]
      rw[hol,List.getElem?_take]at hj
      split at hj
      · exact hj
      · cases hj
    have hsum:n+R.length≤140737488355328:=by
      have:(n+R.length)*1≤(n+R.length)*bt:=Nat.mul_le_mul_left _ hb1
      omega
    have hr:=run_append_grow (P:=P) w t o.type el i z hu hinf hz ⟨g.μ b,0,none⟩ n cap olds (by rw[holl,hsz,Nat.mul_one]) holds ad R.length k news hnl hcell hlt (by omega) (growslice_fits hlt (by rw[hby];exact hbytes))
    have hge:=grownCap_ge w (n+R.length) cap el
    have hmx:=grownCap_le_maxLen w (n+R.length) cap el (by unfold maxLen;omega)
    generalize grownCap w (n+R.length) cap el=gc at*
    obtain⟨rows,hrows⟩:∃rows:List (List PV),rows=(ys.map fun y=>[y])++R:=⟨_,rfl⟩
    have hrl:rows.length=n+R.length:=by rw[hrows,List.length_append,List.length_map,hyl]
    have hrf:rows.flatten=ys++R.flatten:=by rw[hrows,List.flatten_append,ur]
    have hS:av g (w.drew.alloc (.cells (olds.toArray++news.toArray++Builtin.zeroCells z.cells (gc -(n+R.length))) el)) (.own true 1 rows) (.slice (some ⟨w.heap.size,0,none⟩) (n+R.length) gc) (some w.heap.size):=by
      refine .inr ⟨w.heap.size,rfl,gc,_,el,olds++news,by rw[hrl],heap_alloc_new w.drew _,?_,⟨by rw[hrl];exact hge,hmx,by simpa only[Array.toList_append]using ez (ez hoo hfx.one) (hzo _)⟩,by rw[hrows];exact au.append (au.sing hoo hfy) hfx,?_,fun _=>h.B⟩
      · simp only[Array.size_append,List.size_toArray,size_zeroCells,hzs,holl,hnl1]
        omega
      · exact⟨(Builtin.zeroCells z.cells (gc -(n+R.length))).toList,by simp⟩
    have hO:=h.putOwn hb (hg▸hN) (w':=w.drew.alloc (.cells (olds.toArray++news.toArray++Builtin.zeroCells z.cells (gc -(n+R.length))) el)) rfl (by simp) (fun c hc _=>heap_alloc_old w.drew _ hc) hS rfl (fun c hc=>by cases hc;exact⟨by simp,h.fresh hb (Nat.le_refl _)⟩)
    obtain⟨g',cap',t',hc',s'⟩:=hO.adoptS (s:=d) (e:=1) (nw:=true) (rows:=rows) (by simp[look]) (fun e=>by rw[e]at hrl;simp at hrl;omega)
    rw[hrl,hrf,Nat.mul_one]at s'
    rw[hrl]at hc'
    refine⟨_,_,g',?_,t',.inr ⟨hlt,cap',hc',by rw[hd,←hrows];exact s'⟩⟩
    simp only[execOp,ho,resolve,invoke,builtin,List.map_toArray,List.map_cons,List.map_nil,Sem.run_bind,Sem.run_pure,Result.andThen_ok,hv,hvx,hr]
/-! ### Rules -/
def GA(P:Program)(st:St)(t:TypeId)(s x:Operand)(d:Tmp)(K:St→Prop):Prop:=
 match bG P t,mv st s with
 |some (e,bt),.pv (.bsl b e' off n cap)=>e=1∧e'=1∧off=0∧0<bt∧gc st s∧gc st x∧ia st 1 (mv st x)∧rowsOf st (mv st x)≠[]∧b<st.h.length∧cap≤(st.h.getD b []).length∧(n+(rowsOf st (mv st x)).length)*bt≤140737488355328∧
  ∃ys:List PV,(st.h.getD b []).take n=ys.map SV.pv∧ys.length=n∧
   (n+(rowsOf st (mv st x)).length≤cap→K ⟨(d,.pv (.bsl b 1 0 (n+(rowsOf st (mv st x)).length) cap))::aA (aC b n (rowsOf st (mv st x)).length) st.t,st.h.set b (splice (st.h.getD b []) n ((rowsOf st (mv st x)).flatten.map SV.pv))⟩)∧
   (cap < n + (rowsOf st (mv st x)).length → ∀ cap', n + (rowsOf st (mv st x)).length ≤ cap' →
    K ⟨(d,.pv (.bsl st.h.length 1 0 (n+(rowsOf st (mv st x)).length) cap'))::(d,.own true 1 ((ys.map fun y=>[y])++rowsOf st (mv st x)))::aA (cN d) st.t,st.h++[(ys++(rowsOf st (mv st x)).flatten++List.replicate (cap' -(n+(rowsOf st (mv st x)).length)) PV.bot).map SV.pv]⟩)
 |_,_=>False
def GB(P:Program)(st:St)(t:TypeId)(x hi m:Operand)(d:Tmp)(K:St→Prop):Prop:=
 match bg P t,mv st x with
 |some e,.pv (.bsl b e' off n _)=>e'=e∧gc st x∧cH st (some hi)∧cH st (some m)∧aQ (mv st m)=aQ (mv st hi)∧0<aQ (mv st hi)∧aQ (mv st hi)≤n∧K (putD (some d) (.pv (.bsl b e' off (aQ (mv st hi)).toNat (aQ (mv st hi)).toNat)) st)
 |_,_=>False
def Jl(D:List Nat)(d:Option Tmp)(K:St→Prop)(st:St):Prop:=
 match d with
 | some d => if jU D d = true then (match look st.t d with
  |.own _ e rows=>rows≠[]∧∀cap,rows.length≤cap→K ⟨(d,.pv (.bsl st.h.length e 0 rows.length cap))::st.t,st.h++[(rows.flatten++List.replicate ((cap -rows.length)*e) PV.bot).map SV.pv]⟩
  |_=>False)else K st
 |none=>K st
def DC:SV→Bool
 |.pv (.bsl _ _ _ _ _)=>true
 |_=>false
def ma(o:Oper):Option (TypeId×Operand×Operand×Tmp):=
 match o.guard,o.dst,o.op with
 |none,some d,.call c=>match c.callee,c.args.toList,c.argTypes.toList with
  |.builtin .append,[s,x],[t,t']=>if t=t' then some (t,s,x,d)else none
  |_,_,_=>none
 |_,_,_=>none
theorem DD{o:Oper}{t:TypeId}{s x:Operand}{d:Tmp}(h:ma o=some (t,s,x,d)):o.guard=none∧o.dst=some d∧o.op=.call {callee:=.builtin .append,args:=#[s,x],argTypes:=#[t,t]}:=by
 unfold ma at h;split at h
 ·rename_i d' c h1 h2 h3;split at h
  ·rename_i s' x' t1 t2 h4 h5 h6;split at h
   ·rename_i e;subst e;simp only[Option.some.injEq,Prod.mk.injEq]at h;obtain⟨rfl,rfl,rfl,rfl⟩:=h;refine⟨h1,h2,?_⟩;rw[h3];obtain⟨cl,ar,ty⟩:=c;simp only at h4 h5 h6;subst h4;have h7:ar=#[s',x']:=Array.ext' h5;have h8:ty=#[t1,t1]:=Array.ext' h6;rw[h7,h8]
   ·cases h
  ·cases h
 ·cases h
def iI(o:Oper):Option (TypeId×Operand×Operand×Operand×Tmp):=
 match o.guard,o.dst,o.op with
 |none,some d,.slice t x none (some hi) (some m)=>some (t,x,hi,m,d)
 |_,_,_=>none
theorem BA{o:Oper}{t:TypeId}{x hi m:Operand}{d:Tmp}(h:iI o=some (t,x,hi,m,d)):o.guard=none∧o.dst=some d∧o.op=.slice t x none (some hi) (some m):=by
 unfold iI at h;split at h
 ·rename_i h1 h2 h3;simp only[Option.some.injEq,Prod.mk.injEq]at h;obtain⟨rfl,rfl,rfl,rfl,rfl⟩:=h;exact⟨h1,h2,h3⟩
 ·cases h
def d5(P:Program)(D:List Nat)(ops:List Oper)(o:Oper)(K:St→Prop)(st:St):Prop:=
 match ma o with
 |some (t,s,x,d)=>if DC (mv st s)=true then GA P st t s x d K else eq P ops o (Jl D o.dst K) st
 |none=>match iI o with
  |some (t,x,hi,m,d)=>GB P st t x hi m d K
  |none=>eq P ops o (Jl D o.dst K) st
def sQ(P:Program)(D:List Nat)(ops:List Oper)(K:St→Prop):List Oper→St→Prop
 |[],st=>K st
 |o::rest,st=>d5 P D ops o (sQ P D ops K rest) st
theorem Is{D:List Nat}{d:Option Tmp}{K:St→Prop}{st:St}(h:Jl D d K st){g:Gh}{a:Act}{w:World}(hs:Sim g st a w):∃st' g',K st'∧g.to g'∧Sim g' st' a w:=by
 unfold Jl at h;split at h
 ·split at h
  ·split at h
   ·rename_i hlk;obtain⟨h1,h2⟩:=h;obtain⟨g',_,t,hc,s'⟩:=hs.adoptS hlk h1;exact⟨_,g',h2 _ hc,t,s'⟩
   ·exact h.elim
  ·exact⟨st,g,h,hs.refl_to,hs⟩
 ·exact⟨st,g,h,hs.refl_to,hs⟩
theorem GC{P:Program}{st:St}(o:Oper){t:TypeId}{s x:Operand}{d:Nat}{K:St→Prop}(ho:o.op=.call {callee:=.builtin .append,args:=#[s,x],argTypes:=#[t,t]}) (hdd:o.dst=some d)
 (h:GA P st t s x d K) {g:Gh} {a:Act} {w:World} (hs:Sim g st a w) (hd:bR g.N o.dst) {K':Act→World→Prop} {Q:Exit→Act→World→Prop}
 (hK:∀st' g' a' w',K st'→g.to g'→Sim g' st' a' w'→K' a' w'):o.wp P a w K' Q:=by
 unfold GA at h;split at h
 ·rename_i e bt b e' off n cap hi hm;obtain⟨rfl,rfl,rfl,h1,h2,h3,h4,h5,h6,h7,h8,ys,h9,h10,h11,h12⟩:=h;have hxs:st.h[b]?=some (st.h.getD b []):=by rw[List.getD_eq_getElem?_getD,List.getElem?_eq_getElem h6];rfl
  obtain⟨v,w',g',r1,r2,r3⟩:=yl o t s x d bt b n cap ho hdd hi h1 h2 hm h3 h4 h5 hxs h7 h9 h10 h8 (N:=g.N) (by rw[hdd]at hd;exact hd) g a w rfl hs;unfold Oper.wp;rw[r1];rcases r3 with⟨r4,r5⟩|⟨r4,cap',r5,r6⟩
  ·exact hK _ g' _ w' (h11 r4) r2 r5
  ·exact hK _ g' _ w' (h12 r4 cap' r5) r2 r6
 ·exact h.elim
theorem ut{P:Program}{st:St}{g:Gh}{a:Act}{w:World}(h:Sim g st a w)(len cap:Nat)(hi m:Operand)(hhi:cH st (some hi))(hm:cH st (some m))(he:aQ (mv st m)=aQ (mv st hi))
 (h1:0≤aQ (mv st hi)) (h2:aQ (mv st hi)≤len) (hc:len≤cap):
 ∀w':World,(Instr.sliceBounds true len cap none (some (a.eval hi)) (some (a.eval m))).run P w'=.ok (0,(aQ (mv st hi)).toNat,(aQ (mv st hi)).toNat) w':=by
 intro w';simp only[cH]at*;have e1:((aQ (mv st hi)).toNat:Int)=aQ (mv st hi):=Int.toNat_of_nonneg (by omega);simp only[Instr.sliceBounds,bD h hhi.1 hhi.2,bD h hm.1 hm.2,he,Sem.run_bind,Sem.run_pure,Result.andThen_ok,run_sliceBound w' _ _ cap _ (by omega:(0:Int)≤aQ (mv st hi)) (by omega),
  run_sliceBound w' _ _ (aQ (mv st hi)).toNat _ (by omega:(0:Int)≤aQ (mv st hi)) (by omega)]
theorem GD{P:Program}{st:St}(o:Oper){t:TypeId}{x hi m:Operand}{d:Nat}{K:St→Prop}(ho:o.op=.slice t x none (some hi) (some m))(hdd:o.dst=some d)
 (h:GB P st t x hi m d K) {g:Gh} {a:Act} {w:World} (hs:Sim g st a w) (hd:bR g.N o.dst) {K':Act→World→Prop} {Q:Exit→Act→World→Prop}
 (hK:∀st' g' a' w',K st'→g.to g'→Sim g' st' a' w'→K' a' w'):o.wp P a w K' Q:=by
 unfold GB at h;split at h
 ·rename_i e b e' off n cap hsz hm;obtain⟨rfl,h1,h2,h3,h4,h5,h6,h7⟩:=h;obtain⟨hf,_⟩:=aL hs x h1;rw[hm]at hf;obtain⟨_,hbn,hnc,hv⟩:=hf;unfold bg at hsz;split at hsz
  case h_2=>cases hsz
  rename_i el hu;simp only[Option.map_eq_some_iff]at hsz;obtain⟨inf,hinf,rfl⟩:=hsz;have hb:=ut (P:=P) hs n cap hi m h2 h3 h4 (by omega) h6 hnc;refine bJ (st':=putD (some d) (.pv (.bsl b inf.size off (aQ (mv st hi)).toNat (aQ (mv st hi)).toNat)) st) (g:=g) ⟨.slice (some ⟨g.μ b,off,none⟩) (aQ (mv st hi)).toNat (aQ (mv st hi)).toNat,w,g,?_,hs.refl_to,?_⟩ (fun g' a' w'=>hK _ g' a' w' h7)
  ·have hne:(aQ (mv st hi)).toNat≠0:=by omega
   simp only[execOp,ho,hv,Option.map_some,Option.map_none];simp only[Instr.sliceAt,Sem.run_bind,run_underlying hu,Result.andThen_ok,Instr.slice,hb,run_sizeOf hinf,Sem.run_pure];simp[Addr.add_lit]
  ·rw[hdd]at hd⊢;exact hs.put hd ⟨rfl,hbn,Nat.le_refl _,rfl⟩ trivial rfl
 ·exact h.elim
theorem lM{P:Program}{D:List Nat}{ops:Array Oper}{st:St}(o:Oper){K:St→Prop}(h:d5 P D ops.toList o K st){g:Gh}{a:Act}{w:World}(hs:Sim g st a w)(hd:bR g.N o.dst){K':Act→World→Prop}{Q:Exit→Act→World→Prop}
 (hK:∀st' g' a' w',K st'→g.to g'→Sim g' st' a' w'→K' a' w'):if Region.wanted o (yielded ops a.tmps)=true then o.wp P a w K' Q else K' (a.put o.dst undef) w:=by
 have hA:eq P ops.toList o (Jl D o.dst K) st→if Region.wanted o (yielded ops a.tmps)=true then o.wp P a w K' Q else K' (a.put o.dst undef) w:=fun h1=>
  ko o h1 hs hd fun st' g' a' w' hk t s'=>by
   obtain⟨st2,g2,k2,t2,s2⟩:=Is hk s';exact hK st2 g2 a' w' k2 (t.trans t2) s2
 unfold d5 at h;split at h
 ·rename_i t s x d hb;obtain⟨h1,h2,h3⟩:=DD hb;split at h
  ·rw[if_pos (by simp[Region.wanted,h1])];exact GC o h3 h2 h hs hd hK
  ·exact hA h
 ·split at h
  ·rename_i t x hi m d hb;obtain⟨h1,h2,h3⟩:=BA hb;rw[if_pos (by simp[Region.wanted,h1])];exact GD o h3 h2 h hs hd hK
  ·exact hA h
theorem wc{P:Program}{D:List Nat}{ops:Array Oper}:∀(l:List Oper){st:St}{K:St→Prop}(_:sQ P D ops.toList K l st){g:Gh}{a:Act}{w:World}(_:Sim g st a w)(_:cg g.N l=true){Q:Exit→Act→World→Prop}
 (_:∀st' g' a' w',K st'→g.to g'→Sim g' st' a' w'→Q .normal a' w'),wpList P ops Q l a w
 |[],st,K,h,g,a,w,hs,_,Q,hQ=>hQ st g a w h hs.refl_to hs
 |o::rest,st,K,h,g,a,w,hs,hd,Q,hQ=>by
  obtain⟨h1,h2⟩:=kr hd;have:=lM (ops:=ops) o h hs h1 (Q:=Q) (K':=wpList P ops Q rest)
   (fun st' g' a' w' hk t' s'=>wc rest hk s' (by rw[t'.N];exact h2) (fun st2 g2 a2 w2 k2 t2 s2=>hQ st2 g2 a2 w2 k2 (t'.trans t2) s2))
  unfold wpList;split
  ·rename_i hw;rw[if_pos hw]at this;exact .inl this
  ·rename_i hw;rw[if_neg hw]at this;exact this
theorem jW.blk{P:Program}{k0:Nat}{ops:Array Oper}{K:St→Prop}{st:St}(D:List Nat)(h:sQ P D ops.toList K ops.toList st):jW P k0 ops K st:=fun _ _ _ _ hs hd _ hQ=>wc ops.toList h hs hd hQ
section
variable {P : Program} {D : List Nat} {ops : List Oper} {K : St → Prop} {st : St}
@[simp] theorem Jm:sQ P D ops K [] st=K st:=rfl
@[simp] theorem It(o:Oper)(rest:List Oper):sQ P D ops K (o::rest) st=d5 P D ops o (sQ P D ops K rest) st:=rfl
end
attribute [simp] d5 ma iI GA GB Jl DC
end Go.AX
namespace Go.AX
def cB(P:Program)(D:List Nat)(ops:List Oper)(i:Nat)(K:St→Prop)(st:St):Prop:=
 match ops[i]?with
 |some o=>d5 P D ops o K st
 |none=>False
mutual
def nA(P:Program)(D:List Nat)(ops:List Oper)(K:St→Prop):Sch→St→Prop
  |.done,st=>K st
  |.take i r,st=>eC P ops i (nA P D ops K r) st
  |.fork l,st=>mc P D ops K l st
def mc(P:Program)(D:List Nat)(ops:List Oper)(K:St→Prop):List (Nat×Sch)→St→Prop
  |[],_=>True
  |(i,r)::l,st=>cB P D ops i (nA P D ops K r) st∧mc P D ops K l st
end
mutual
theorem uu{P:Program}{D:List Nat}{ops:Array Oper}{K:St→Prop}{Q:Exit→Act→World→Prop}(hsel:Region.noSelect ops=true)(hQp:∀c a w,¬Q (.panic c) a w):∀(S:Sch)(n:Nat)(listed:Array Bool)(_:iG P ops n listed S=true){st:St}(_:nA P D ops.toList K S st){g:Gh}{a:Act}{w:World}(_:Sim g st a w)(_:cg g.N ops.toList=true)
    (_:∀st' g' a' w',K st'→g.to g'→Sim g' st' a' w'→Q .normal a' w'),wpAny P .any ops Q n listed a w
  |.done,n,listed,hb,st,h,g,a,w,hs,_,hQ=>by
    have hb':(Region.ready .any ops listed).isEmpty=true:=by cases n<;>simpa[iG]using hb
    exact wpAny_done (List.isEmpty_iff.1 hb') (hQ st g a w h hs.refl_to hs) n
  |.take i r,0,listed,hb,st,h,g,a,w,hs,hd,hQ=>by simp[iG]at hb
  |.take i r,n+1,listed,hb,st,h,g,a,w,hs,hd,hQ=>by
    simp only[iG,Bool.and_eq_true]at hb
    obtain⟨⟨hb1,hb2⟩,hb3⟩:=hb
    simp only[nA,eC]at h
    cases ho:ops[i]?with
    |none=>rw[ho]at hb1;cases hb1
    |some o=>
      rw[ho]at hb1
      rw[Array.getElem?_toList,ho]at h
      simp only[Bool.and_eq_true]at hb1
      obtain⟨v,hy,st',g',h1,h2,h3⟩:=t8 o hb1.1 h hs (dy hd (by rw[Array.getElem?_toList];exact ho))
      exact wpAny_take ho hsel hb1.2 hb2 (fun c a w hq=>absurd hq (hQp c _ w)) hy (uu hsel hQp r n _ hb3 h1 h3 (by rw[h2.N];exact hd) fun st2 g2 a2 w2 k2 t2 s2=>hQ st2 g2 a2 w2 k2 (h2.trans t2) s2)
  |.fork l,0,listed,hb,st,h,g,a,w,hs,hd,hQ=>by simp[iG]at hb
  |.fork l,n+1,listed,hb,st,h,g,a,w,hs,hd,hQ=>by
    simp only[iG,Bool.and_eq_true]at hb
    obtain⟨⟨hb1,hb2⟩,hb3⟩:=hb
    simp only[nA]at h
    have hr:Region.ready .any ops listed=l.map (·.1):=by simpa using hb1
    refine wpAny_all hr (fun e=>?_) fun i hi=>wd hsel hQp l n listed hb3 h hs hd hQ i hi
    cases l with
    |nil=>simp at hb2
    |cons _ _=>cases e
theorem wd{P:Program}{D:List Nat}{ops:Array Oper}{K:St→Prop}{Q:Exit→Act→World→Prop}(hsel:Region.noSelect ops=true)(hQp:∀c a w,¬Q (.panic c) a w):∀(l:List (Nat×Sch))(n:Nat)(listed:Array Bool)(_:vD P ops n listed l=true){st:St}(_:mc P D ops.toList K l st){g:Gh}{a:Act}{w:World}(_:Sim g st a w)(_:cg g.N ops.toList=true)
    (_:∀st' g' a' w',K st'→g.to g'→Sim g' st' a' w'→Q .normal a' w'),∀i∈l.map (·.1),wpOp P ops Q i (wpAny P .any ops Q n (listed.setIfInBounds i true)) a w
  |[],n,listed,_,st,_,g,a,w,_,_,_,i,hi=>by cases hi
  |(i0,r)::l,n,listed,hb,st,h,g,a,w,hs,hd,hQ,i,hi=>by
    simp only[vD,Bool.and_eq_true]at hb
    simp only[mc]at h
    simp only[List.map_cons,List.mem_cons]at hi
    rcases hi with e|hi
    · subst e
      have h1:=h.1
      simp only[cB]at h1
      unfold wpOp
      cases ho:ops[i]?with
      |none=>rw[Array.getElem?_toList,ho]at h1;exact h1.elim
      |some o=>
        rw[Array.getElem?_toList,ho]at h1
        have key:=lM (ops:=ops) o h1 hs (dy hd (by rw[Array.getElem?_toList];exact ho)) (K':=wpAny P .any ops Q n (listed.setIfInBounds i true)) (Q:=Q) fun st' g' a' w' k' t' s'=>
          uu hsel hQp r n _ hb.1 k' s' (by rw[t'.N];exact hd) fun st2 g2 a2 w2 k2 t2 s2=>hQ st2 g2 a2 w2 k2 (t'.trans t2) s2
        simp only
        split
        · rename_i hw;rw[if_pos hw]at key;exact .inl key
        · rename_i hw;rw[if_neg hw]at key;exact key
    · exact wd hsel hQp l n listed hb.2 h.2 hs hd hQ i hi
end
theorem aY.blk{P:Program}{k0:Nat}{ops:Array Oper}{K:St→Prop}{st:St}(D:List Nat)(S:Sch){ι:Type}(S1:ι→St)(J:ι→Prop)(hS:nm P ops S=true)(h:nA P D ops.toList (fun s=>∃i,J i∧aj k0 s (S1 i)) S st)(hK:∀i,J i→K (S1 i)):aY P k0 ops K st:=by
 simp only[nm,Bool.and_eq_true]at hS;refine .inr fun g a w h0 hs hd Q hp hQ=>uu hS.1 hp S _ _ hS.2 h hs hd fun st' g' a' w' hk t' s'=>?_;obtain⟨i,hj,hw⟩:=hk;obtain⟨g2,t2,s2⟩:=hw g' a' w' (by rw[t'.n0];exact h0) s';exact hQ _ g2 a' w' (hK i hj) (t'.trans t2) s2
section
variable {P : Program} {D : List Nat} {ops : List Oper} {K : St → Prop} {st : St}
@[simp] theorem Jn:nA P D ops K .done st=K st:=by simp only[nA]
@[simp] theorem Jo(i:Nat)(r:Sch):nA P D ops K (.take i r) st=eC P ops i (nA P D ops K r) st:=by simp only[nA]
@[simp] theorem Jp(l:List (Nat×Sch)):nA P D ops K (.fork l) st=mc P D ops K l st:=by simp only[nA]
@[simp] theorem Jq:mc P D ops K [] st=True:=by simp only[mc]
@[simp] theorem Iu(i:Nat)(r:Sch)(l:List (Nat×Sch)):mc P D ops K ((i,r)::l) st=(cB P D ops i (nA P D ops K r) st∧mc P D ops K l st):=by simp only[mc]
end
attribute [simp] cB
end Go.AX
namespace Go.AX
def mN(P:Program)(t:TypeId)(x:SV):SV×Prop:=
 match mu P t,x with
 |some (n,e),.pv (.ptr b off)=>(.pv (.bsl b 1 off n n),e=1∧0<n)
 |_,_=>(.pv .bot,False)
theorem BB{P:Program}{st:St}(o:Oper)(t:TypeId)(x:Operand)(ho:o.op=.slice t x none none none):g8 P st o ((mN P t (mv st x)).1,gc st x∧(mN P t (mv st x)).2):=by
 intro g a w h ⟨hx,hd⟩;unfold mN at hd⊢;split at hd
 case h_2=>exact hd.elim
 rename_i n e b off hs hm;obtain⟨rfl,hn⟩:=hd;obtain⟨hf,_⟩:=aL h x hx;rw[hm]at hf;obtain⟨_,hb,hv⟩:=hf;unfold mu at hs;split at hs
 case h_2=>cases hs
 rename_i n' el hu;simp only[Option.map_eq_some_iff,Prod.mk.injEq]at hs;obtain⟨inf,hinf,rfl,hsz⟩:=hs;have hb2:=jg (P:=P) h false n' n' none none trivial trivial (Int.le_refl _) (by simp[bnd]) (by simp[bnd]) (Nat.le_refl _);refine⟨.slice (some ⟨g.μ b,off,none⟩) n' n',?_,⟨rfl,hb,Nat.le_refl _,rfl⟩,trivial⟩;intro w';have hne:¬n'=0:=by omega
 simp only[execOp,ho,hv,Option.map_none,Instr.sliceAt,Sem.run_bind,run_underlying hu,Result.andThen_ok,Instr.sureAddr,Sem.run_pure];have hb3:=hb2 w';simp only[Option.map_none]at hb3;rw[hb3];simp[bnd,run_sizeOf hinf,hne,Addr.add_lit]
def nB(P:Program)(o:Oper):Option (TypeId×Operand×Tmp):=
 match o.guard,o.dst,o.op with
 |none,some d,.slice t x none none none=>if(mu P t).isSome then some (t,x,d)else none
 |_,_,_=>none
theorem we{P:Program}{o:Oper}{t:TypeId}{x:Operand}{d:Tmp}(h:nB P o=some (t,x,d)):o.guard=none∧o.dst=some d∧o.op=.slice t x none none none:=by
 unfold nB at h;split at h
 ·rename_i h1 h2 h3;split at h
  ·cases h;exact⟨h1,h2,h3⟩
  ·cases h
 ·cases h
def nC(P:Program)(ops:List Oper)(i:Nat)(K:St→Prop)(st:St):Prop:=
 match ops[i]?with
 |some o=>match nB P o with
  |some (t,x,d)=>(gc st x∧(mN P t (mv st x)).2)∧K (st.put d (mN P t (mv st x)).1)
  |none=>eq P ops o K st
 |none=>False
mutual
def mO(P:Program)(D:List Nat)(ops:List Oper)(K:St→Prop):Sch→St→Prop
  |.done,st=>K st
  |.take i r,st=>nC P ops i (mO P D ops K r) st
  |.fork l,st=>md P D ops K l st
def md(P:Program)(D:List Nat)(ops:List Oper)(K:St→Prop):List (Nat×Sch)→St→Prop
  |[],_=>True
  |(i,r)::l,st=>cB P D ops i (mO P D ops K r) st∧md P D ops K l st
end
theorem DE{P:Program}{ops:Array Oper}{st:St}{i:Nat}{o:Oper}(ho:ops.toList[i]?=some o)(hb:gH P o.op=true){K:St→Prop}(h:nC P ops.toList i K st){g:Gh}{a:Act}{w:World}(hs:Sim g st a w)(hd:bR g.N o.dst):
 ∃v,Yields P ops o v a∧∃st' g',K st'∧g.to g'∧Sim g' st' (a.put o.dst v) w:=by
 unfold nC at h;rw[ho]at h;simp only at h;split at h
 ·rename_i t x d hc;obtain⟨h1,h2,h3⟩:=we hc;obtain⟨v,hv,hf,ha⟩:=BB (st:=st) o t x h3 g a w hs h.1;refine⟨v,.inl ⟨by simp[Region.wanted,h1],hv⟩,_,g,h.2,hs.refl_to,?_⟩;rw[h2]at hd⊢;refine hs.put hd hf ha ?_;unfold mN;split<;>rfl
 ·exact t8 o hb h hs hd
mutual
theorem uv{P:Program}{D:List Nat}{ops:Array Oper}{K:St→Prop}{Q:Exit→Act→World→Prop}(hsel:Region.noSelect ops=true)(hQp:∀c a w,¬Q (.panic c) a w):∀(S:Sch)(n:Nat)(listed:Array Bool)(_:iG P ops n listed S=true){st:St}(_:mO P D ops.toList K S st){g:Gh}{a:Act}{w:World}(_:Sim g st a w)(_:cg g.N ops.toList=true)
    (_:∀st' g' a' w',K st'→g.to g'→Sim g' st' a' w'→Q .normal a' w'),wpAny P .any ops Q n listed a w
  |.done,n,listed,hb,st,h,g,a,w,hs,_,hQ=>by
    have hb':(Region.ready .any ops listed).isEmpty=true:=by cases n<;>simpa[iG]using hb
    simp only[mO]at h
    exact wpAny_done (List.isEmpty_iff.1 hb') (hQ st g a w h hs.refl_to hs) n
  |.take i r,0,listed,hb,st,h,g,a,w,hs,hd,hQ=>by simp[iG]at hb
  |.take i r,n+1,listed,hb,st,h,g,a,w,hs,hd,hQ=>by
    simp only[iG,Bool.and_eq_true]at hb
    obtain⟨⟨hb1,hb2⟩,hb3⟩:=hb
    simp only[mO]at h
    cases ho:ops[i]?with
    |none=>rw[ho]at hb1;cases hb1
    |some o=>
      rw[ho]at hb1
      simp only[Bool.and_eq_true]at hb1
      have ho':ops.toList[i]?=some o:=by rw[Array.getElem?_toList];exact ho
      obtain⟨v,hy,st',g',h1,h2,h3⟩:=DE ho' hb1.1 h hs (dy hd ho')
      exact wpAny_take ho hsel hb1.2 hb2 (fun c a w hq=>absurd hq (hQp c _ w)) hy (uv hsel hQp r n _ hb3 h1 h3 (by rw[h2.N];exact hd) fun st2 g2 a2 w2 k2 t2 s2=>hQ st2 g2 a2 w2 k2 (h2.trans t2) s2)
  |.fork l,0,listed,hb,st,h,g,a,w,hs,hd,hQ=>by simp[iG]at hb
  |.fork l,n+1,listed,hb,st,h,g,a,w,hs,hd,hQ=>by
    simp only[iG,Bool.and_eq_true]at hb
    obtain⟨⟨hb1,hb2⟩,hb3⟩:=hb
    simp only[mO]at h
    have hr:Region.ready .any ops listed=l.map (·.1):=by simpa using hb1
    refine wpAny_all hr (fun e=>?_) fun i hi=>wg hsel hQp l n listed hb3 h hs hd hQ i hi
    cases l with
    |nil=>simp at hb2
    |cons _ _=>cases e
theorem wg{P:Program}{D:List Nat}{ops:Array Oper}{K:St→Prop}{Q:Exit→Act→World→Prop}(hsel:Region.noSelect ops=true)(hQp:∀c a w,¬Q (.panic c) a w):∀(l:List (Nat×Sch))(n:Nat)(listed:Array Bool)(_:vD P ops n listed l=true){st:St}(_:md P D ops.toList K l st){g:Gh}{a:Act}{w:World}(_:Sim g st a w)(_:cg g.N ops.toList=true)
    (_:∀st' g' a' w',K st'→g.to g'→Sim g' st' a' w'→Q .normal a' w'),∀i∈l.map (·.1),wpOp P ops Q i (wpAny P .any ops Q n (listed.setIfInBounds i true)) a w
  |[],n,listed,_,st,_,g,a,w,_,_,_,i,hi=>by cases hi
  |(i0,r)::l,n,listed,hb,st,h,g,a,w,hs,hd,hQ,i,hi=>by
    simp only[vD,Bool.and_eq_true]at hb
    simp only[md]at h
    simp only[List.map_cons,List.mem_cons]at hi
    rcases hi with e|hi
    · subst e
      have h1:=h.1
      simp only[cB]at h1
      unfold wpOp
      cases ho:ops[i]?with
      |none=>rw[Array.getElem?_toList,ho]at h1;exact h1.elim
      |some o=>
        rw[Array.getElem?_toList,ho]at h1
        have key:=lM (ops:=ops) o h1 hs (dy hd (by rw[Array.getElem?_toList];exact ho)) (K':=wpAny P .any ops Q n (listed.setIfInBounds i true)) (Q:=Q) fun st' g' a' w' k' t' s'=>
          uv hsel hQp r n _ hb.1 k' s' (by rw[t'.N];exact hd) fun st2 g2 a2 w2 k2 t2 s2=>hQ st2 g2 a2 w2 k2 (t'.trans t2) s2
        simp only
        split
        · rename_i hw;rw[if_pos hw]at key;exact .inl key
        · rename_i hw;rw[if_neg hw]at key;exact key
    · exact wg hsel hQp l n listed hb.2 h.2 hs hd hQ i hi
end
theorem aY.arr{P:Program}{k0:Nat}{ops:Array Oper}{K:St→Prop}{st:St}(D:List Nat)(S:Sch){ι:Type}(S1:ι→St)(J:ι→Prop)(hS:nm P ops S=true)(h:mO P D ops.toList (fun s=>∃i,J i∧aj k0 s (S1 i)) S st)(hK:∀i,J i→K (S1 i)):aY P k0 ops K st:=by
 simp only[nm,Bool.and_eq_true]at hS;refine .inr fun g a w h0 hs hd Q hp hQ=>uv hS.1 hp S _ _ hS.2 h hs hd fun st' g' a' w' hk t' s'=>?_;obtain⟨i,hj,hw⟩:=hk;obtain⟨g2,t2,s2⟩:=hw g' a' w' (by rw[t'.n0];exact h0) s';exact hQ _ g2 a' w' (hK i hj) (t'.trans t2) s2
section
variable {P : Program} {D : List Nat} {ops : List Oper} {K : St → Prop} {st : St}
@[simp] theorem Jr:mO P D ops K .done st=K st:=by simp only[mO]
@[simp] theorem Js(i:Nat)(r:Sch):mO P D ops K (.take i r) st=nC P ops i (mO P D ops K r) st:=by simp only[mO]
@[simp] theorem Jt(l:List (Nat×Sch)):mO P D ops K (.fork l) st=md P D ops K l st:=by simp only[mO]
@[simp] theorem Ju:md P D ops K [] st=True:=by simp only[md]
@[simp] theorem Iv(i:Nat)(r:Sch)(l:List (Nat×Sch)):md P D ops K ((i,r)::l) st=(cB P D ops i (mO P D ops K r) st∧md P D ops K l st):=by simp only[md]
end
attribute [simp] nC nB mN
end Go.AX
namespace Go.AX
def Ab(stp:Nat→(St→Prop)→St→Prop)(C:Nat→Array Bool→St→Prop)(n:Nat)(st:St):List (Nat×Array Bool)→Prop
 |[]=>True
 |(i,l')::r=>stp i (C n l') st∧Ab stp C n st r
attribute [simp] Ab
end Go.AX
namespace Go.AX
theorem aY.inv{P:Program}{k0:Nat}{ops:Array Oper}{K:St→Prop}{st:St}(D:List Nat)(I:Array Bool→St→Prop)
 (h0:I (Array.replicate ops.size false) st)
 (hstep:∀l s i,l.size=ops.size→I l s→i∈Region.ready .any ops l→∃K1:St→Prop,cB P D ops.toList i K1 s∧∀s',K1 s'→I (l.setIfInBounds i true) s')
 (hdone:∀l s,l.size=ops.size→I l s→Region.ready .any ops l=[]→∃s1,aj k0 s s1∧K s1):aY P k0 ops K st:=by
 refine .inr ?_;have key:∀n l s,l.size=ops.size→n+l.toList.countP id=ops.size→I l s→M5 P k0 ops K n l s:=by
  intro n
  induction n with
  |zero=>
   intro l s hl hc hI g a w hg hs hd Q hp hQ;have hr:Region.ready .any ops l=[]:=by
    unfold Region.ready;rw[List.filter_eq_nil_iff];intro i hi;have hi':i<l.size:=by rw[hl];exact List.mem_range.1 hi
    have hall:∀b∈l.toList,id b=true:=by
     rw[←List.countP_eq_length];rw[Nat.zero_add]at hc;rw[hc,←hl];exact Array.length_toList.symm
    have:=hall l[i] (Array.mem_toList_iff.2 (Array.getElem_mem hi'));simp only[id]at this;simp[Array.getD,hi',this]
   obtain⟨s1,hw,hk⟩:=hdone l s hl hI hr;obtain⟨g2,t2,s2⟩:=hw g a w hg hs;exact wpAny_done hr (hQ s1 g2 a w hk t2 s2) 0
  |succ n ih=>
   intro l s hl hc hI g a w hg hs hd Q hp hQ
   by_cases hr:Region.ready .any ops l=[]
   ·obtain⟨s1,hw,hk⟩:=hdone l s hl hI hr;obtain⟨g2,t2,s2⟩:=hw g a w hg hs;exact wpAny_done hr (hQ s1 g2 a w hk t2 s2) _
   ·refine wpAny_all rfl hr fun i hi=>?_;obtain⟨K1,h1,hK1⟩:=hstep l s i hl hI hi;have hi2:=hi;unfold Region.ready at hi2;rw[List.mem_filter]at hi2;obtain⟨hi3,hi4⟩:=hi2;have hil:i<l.size:=by rw[hl];exact List.mem_range.1 hi3
    simp only[Bool.and_eq_true,Bool.not_eq_true']at hi4;have hlf:l[i]=false:=by have:=hi4.1;simpa[Array.getD,hil]using this
    have hcn:n+(l.setIfInBounds i true).toList.countP id=ops.size:=by
     rw[Array.toList_setIfInBounds,List.countP_set (by simpa using hil)];have e1:l.toList[i]'(by simpa using hil)=false:=by simpa using hlf
     simp only[e1,id,Bool.false_eq_true,if_false,if_true];omega
    have hsz:(l.setIfInBounds i true).size=ops.size:=by simp[hl]
    unfold cB at h1;unfold wpOp;cases ho:ops[i]?with
    |none=>rw[Array.getElem?_toList,ho]at h1;exact h1.elim
    |some o=>
     rw[Array.getElem?_toList,ho]at h1;have key2:=lM (ops:=ops) o h1 hs (dy hd (by rw[Array.getElem?_toList];exact ho)) (K':=wpAny P .any ops Q n (l.setIfInBounds i true)) (Q:=Q) fun st' g' a' w' k' t' s'=>
      ih _ st' hsz hcn (hK1 _ k') g' a' w' (by rw[t'.n0];exact hg) s' (by rw[t'.N];exact hd) Q hp fun st2 g2 a2 w2 k2 t2 s2=>hQ st2 g2 a2 w2 k2 (t'.trans t2) s2
     simp only;split
     ·rename_i hw;rw[if_pos hw]at key2;exact .inl key2
     ·rename_i hw;rw[if_neg hw]at key2;exact key2
 refine key _ _ _ (by simp) ?_ h0;simp[List.countP_replicate]
def cm(ops:Array Oper)(i:Nat):List Nat:=match ops[i]?with
 |some o=>(o.after.toList.filter fun e=>Region.binds .any e).map (·.on)
 |none=>[]
theorem jB{ops:Array Oper}{l:Array Bool}{i:Nat}(h:i∈Region.ready .any ops l):i<ops.size∧l.getD i true=false∧∀j∈cm ops i,l.getD j false=true:=by
 unfold Region.ready at h;rw[List.mem_filter]at h;obtain⟨h1,h2⟩:=h;have hi:=List.mem_range.1 h1;rw[Array.getElem?_eq_getElem hi]at h2;simp only[Option.map_some,Option.getD_some,Bool.and_eq_true,Bool.not_eq_true']at h2;refine⟨hi,h2.1,fun j hj=>?_⟩;unfold cm at hj;rw[Array.getElem?_eq_getElem hi]at hj;simp only[List.mem_map,List.mem_filter]at hj;obtain⟨e,⟨he1,he2⟩,rfl⟩:=hj;have:=h2.2;rw[Array.all_eq_true_iff_forall_mem]at this;have:=this e (Array.mem_toList_iff.1 he1);simpa[he2]using this
def DF(ops:Array Oper):Nat→Nat→Nat→Bool
 |0,_,_=>false
 |n+1,i,j=>(cm ops j).any fun e=>e==i||DF ops n i e
structure Tb where
  T:List (Option (Nat×SV))
  B:List (Nat×SV)
  dp:List (List Nat)
  ws:List Nat
  lv:List (List Nat)
  kl:List (Nat×Nat)
  H:Nat→List (List SV)
namespace Tb
def dpA(b:Tb)(i:Nat):List Nat:=b.dp.getD i []
def lvA(b:Tb)(i:Nat):List Nat:=b.lv.getD i []
def dst(b:Tb)(i:Nat):Option Nat:=((b.T.getD i none).map (·.1))
def slots(b:Tb):List Nat:=b.T.filterMap fun o=>o.map (·.1)
def okB(b:Tb)(ops:Array Oper):Bool:=
 (List.range ops.size).all (fun i=>(b.dpA i).all fun j=>(cm ops i).contains j||DF ops 3 j i)
 &&(List.range (b.ws.length -1)).all (fun k=>(cm ops (b.ws.getD (k+1) 0)).contains (b.ws.getD k 0))
 && (List.range ops.size).all (fun i => (List.range (b.ws.length + 1)).all fun m =>
  (b.lvA i).contains m||(List.range b.ws.length).any fun k=>if k<m then b.ws.getD k 0==i||DF ops 3 i (b.ws.getD k 0)else DF ops 3 (b.ws.getD k 0) i)
 &&(List.range ops.size).all (fun i=>(b.dpA i).all fun j=>b.kl.all fun q=>b.dst j !=some q.2||q.1==i||(cm ops q.1).contains i||(cm ops j).contains q.1)
 &&b.ws.all (fun w=>decide (w<ops.size))
 &&(List.range ops.size).all (fun i=>(cm ops i).all fun j=>decide (j<i))
 &&decide (b.T.length≤ops.size)&&decide b.ws.Nodup
end Tb
def lU(l:Array Bool)(i:Nat):Bool:=l.getD i false
theorem Ac{l:Array Bool}{i:Nat}(hi:i<l.size)(j:Nat):lU (l.setIfInBounds i true) j=if i=j then true else lU l j:=by
 unfold lU;simp only[Array.getD_eq_getD_getElem?,Array.getElem?_setIfInBounds]
 by_cases e:i=j
 ·subst e;simp[hi]
 ·simp[e]
def aZ(t:List (Nat×SV)):List (Nat×SV)→Prop
 |[]=>True
 |p::r=>look t p.1=p.2∧aZ t r
def sR(t:List (Nat×SV)):Option (Nat×SV)→Prop
 |none=>True
 |some p=>look t p.1=p.2
def FV(f:Nat→Prop):List Nat→Prop
 |[]=>True
 |m::r=>f m∧FV f r
def ym(T:List (Option (Nat×SV)))(t:List (Nat×SV)):List Nat→Prop
 |[]=>True
 |j::r=>sR t (T.getD j none)∧ym T t r
def uw(kl:List (Nat×Nat))(i:Nat)(t t':List (Nat×SV)):Nat→List (Option (Nat×SV))→Prop
 |_,[]=>True
 |j,none::r=>uw kl i t t' (j+1) r
 |j,some p::r=>(j=i∨kl.contains (i,p.1)=true∨(look t p.1=p.2→look t' p.1=p.2))∧uw kl i t t' (j+1) r
theorem Ad{kl:List (Nat×Nat)}{i:Nat}{t t':List (Nat×SV)}:∀(T:List (Option (Nat×SV)))(n:Nat),uw kl i t t' n T→∀j p,T.getD j none=some p→n+j≠i→(i,p.1)∉kl→look t p.1=p.2→look t' p.1=p.2
 |[],_,_,j,p,h,_,_,_=>by simp at h
 |x::r,n,h,j,p,hj,hi,hk,hl=>by
  cases j with
  |zero=>
   rw[List.getD_cons_zero]at hj;subst hj;rcases h.1 with e|e|e
   ·exact absurd e hi
   ·exact absurd (List.contains_iff_mem.1 e) hk
   ·exact e hl
  |succ j=>
   rw[List.getD_cons_succ]at hj;have h':uw kl i t t' (n+1) r:=by
    cases x with
    |none=>exact h
    |some _=>exact h.2
   exact Ad r (n+1) h' j p hj (by omega) hk hl
def FW(kl:List (Nat×Nat))(t:List (Nat×SV)):List (Option (Nat×SV))→Prop
 |[]=>True
 |none::r=>FW kl t r
 |some p::r=>((kl.any fun q=>q.2==p.1)=true∨look t p.1=p.2)∧FW kl t r
theorem ux{kl:List (Nat×Nat)}{t:List (Nat×SV)}:∀{T:List (Option (Nat×SV))},(∀p,some p∈T→(∀q∈kl,q.2≠p.1)→look t p.1=p.2)→FW kl t T
 |[],_=>trivial
 |none::r,h=>ux (T:=r) fun p hp=>h p (List.mem_cons_of_mem _ hp)
 |some p::r,h=>by
  refine⟨?_,ux (T:=r) fun p hp=>h p (List.mem_cons_of_mem _ hp)⟩;cases e:kl.any fun q=>q.2==p.1
  ·right;refine h p (List.mem_cons_self ..) fun q hq e2=>?_;have:=List.any_eq_false.1 e q hq;simp[e2]at this
  ·exact .inl rfl
theorem bK(q:Pos→Bool)(t:List (Nat×SV))(s:Nat):look (t.map fun p=>(p.1,cb q p.2)) s=cb q (look t s):=aS q t s
theorem Ae{T:List (Option (Nat×SV))}{t:List (Nat×SV)}:∀{L:List Nat},ym T t L↔∀j∈L,∀p,T.getD j none=some p→look t p.1=p.2
 |[]=>by simp[ym]
 |j::r=>by
  rw[ym,Ae];simp only[List.mem_cons,forall_eq_or_imp];refine and_congr ⟨fun h p e=>by rw[e]at h;exact h,fun h=>?_⟩ Iff.rfl;cases e:T.getD j none with
  |none=>trivial
  |some p=>exact h p e
theorem iS{t:List (Nat×SV)}:∀{L:List (Nat×SV)},aZ t L↔∀p∈L,look t p.1=p.2
 |[]=>by simp[aZ]
 |p::r=>by rw[aZ,iS];simp
theorem uy{f:Nat→Prop}:∀{L:List Nat},FV f L↔∀m∈L,f m
 |[]=>by simp[FV]
 |p::r=>by rw[FV,uy];simp
namespace Tb
def postL(b:Tb)(i m:Nat)(t:List (Nat×SV))(s:St):Prop:=s.h=b.H (if b.ws.contains i=true then m+1 else m)∧sR s.t (b.T.getD i none)∧aZ s.t b.B∧uw b.kl i t s.t 0 b.T
def steps(b:Tb)(P:Program)(D:List Nat)(ops:List Oper):List Oper→Nat→Prop
 |[],_=>True
 |o::r,i=>FV (fun m=>∀t,aZ t b.B→ym b.T t (b.dpA i)→d5 P D ops o (b.postL i m t) ⟨t,b.H m⟩) (b.lvA i)∧steps b P D ops r (i+1)
theorem steps_iff{P:Program}{D:List Nat}{ops:List Oper}{b:Tb}:∀{r:List Oper}{n:Nat},steps b P D ops r n→∀i o,r[i]?=some o→∀m∈b.lvA (n+i),∀t,aZ t b.B→ym b.T t (b.dpA (n+i))→d5 P D ops o (b.postL (n+i) m t) ⟨t,b.H m⟩
 |[],_,_,i,o,h=>by simp at h
 |x::r,n,h,i,o,ho=>by
  cases i with
  |zero=>simp only[List.getElem?_cons_zero,Option.some.injEq]at ho;subst ho;exact uy.1 h.1
  |succ i=>
   have:=steps_iff h.2 i o (by simpa using ho)
   rwa [show n+1+i=n+(i+1) by omega]at this
end Tb
structure Tb.Inv (b:Tb) (ops:Array Oper) (l:Array Bool) (s:St):Prop where
  clo:∀i,lU l i=true→∀j∈cm ops i,lU l j=true
  lev:∃m,m≤b.ws.length∧(∀k,k<b.ws.length→(lU l (b.ws.getD k 0)=true↔k<m))∧s.h=b.H m
  bas:∀p∈b.B,look s.t p.1=p.2
  tab:∀j p,b.T.getD j none=some p→lU l j=true→(∀q∈b.kl,q.2=p.1→lU l q.1=false∨q.1∈cm ops j)→look s.t p.1=p.2
theorem Tb.post_of{b:Tb}{i m:Nat}{t:List (Nat×SV)}{s:St}(h:b.postL i m t s):
 s.h=b.H (if i∈b.ws then m+1 else m)∧(∀p,b.T.getD i none=some p→look s.t p.1=p.2)∧(∀p∈b.B,look s.t p.1=p.2)∧
 ∀j p,b.T.getD j none=some p→j≠i→(i,p.1)∉b.kl→look t p.1=p.2→look s.t p.1=p.2:=by
 obtain⟨a1,a2,a3,a4⟩:=h;refine⟨?_,fun p hp=>?_,iS.1 a3,fun j p hp hji hkl hl=>?_⟩
 ·rw[a1];simp only[List.contains_iff_mem]
 ·rw[hp]at a2;exact a2
 ·exact Ad b.T 0 a4 j p hp (by omega) hkl hl
structure Tb.Ok (b:Tb) (ops:Array Oper):Prop where
  nd:b.ws.Nodup
  c1:∀i,i<ops.size→∀j∈b.dpA i,j∈cm ops i∨DF ops 3 j i=true
  c2:∀k,k+1<b.ws.length→b.ws.getD k 0∈cm ops (b.ws.getD (k+1) 0)
  c3:∀i,i<ops.size→∀m,m≤b.ws.length→m∈b.lvA i∨∃k,k<b.ws.length∧((k<m∧(b.ws.getD k 0=i∨DF ops 3 i (b.ws.getD k 0)=true))∨(¬k<m∧DF ops 3 (b.ws.getD k 0) i=true))
  c4:∀i,i<ops.size→∀j∈b.dpA i,∀q∈b.kl,b.dst j≠some q.2∨q.1=i∨i∈cm ops q.1∨q.1∈cm ops j
  c5:∀w∈b.ws,w<ops.size
  c6:∀i,i<ops.size→∀j∈cm ops i,j<i
  c7:b.T.length≤ops.size
  hwk:∀k,k<b.ws.length→b.ws.getD k 0∈b.ws
theorem Tb.ok{b:Tb}{ops:Array Oper}(hok:b.okB ops=true):b.Ok ops:=by
 unfold Tb.okB at hok;simp only[Bool.and_eq_true]at hok;obtain⟨⟨⟨⟨⟨⟨⟨c1,c2⟩,c3⟩,c4⟩,c5⟩,c6⟩,c7⟩,c8⟩:=hok;have c7:b.T.length≤ops.size:=by simpa using c7
 have hnd:b.ws.Nodup:=by simpa using c8
 have c1:∀i,i<ops.size→∀j∈b.dpA i,j∈cm ops i∨DF ops 3 j i=true:=fun i hi j hj=>by
  have:=List.all_eq_true.1 c1 i (List.mem_range.2 hi);simpa using List.all_eq_true.1 this j hj
 have c2:∀k,k+1<b.ws.length→b.ws.getD k 0∈cm ops (b.ws.getD (k+1) 0):=fun k hk=>by
  have:=List.all_eq_true.1 c2 k (List.mem_range.2 (by omega));simpa using this
 have c3:∀i,i<ops.size→∀m,m≤b.ws.length→m∈b.lvA i∨∃k,k<b.ws.length∧((k<m∧(b.ws.getD k 0=i∨DF ops 3 i (b.ws.getD k 0)=true))∨(¬k<m∧DF ops 3 (b.ws.getD k 0) i=true)):=fun i hi m hm=>by
  have:=List.all_eq_true.1 (List.all_eq_true.1 c3 i (List.mem_range.2 hi)) m (List.mem_range.2 (by omega));rw[Bool.or_eq_true]at this;rcases this with h|h
  ·exact .inl (by simpa using h)
  ·right;obtain⟨k,hk,h⟩:=List.any_eq_true.1 h;refine⟨k,List.mem_range.1 hk,?_⟩
   by_cases c:k<m
   ·rw[if_pos c]at h;exact .inl ⟨c,by simpa using h⟩
   ·rw[if_neg c]at h;exact .inr ⟨c,by simpa using h⟩
 have c4:∀i,i<ops.size→∀j∈b.dpA i,∀q∈b.kl,b.dst j≠some q.2∨q.1=i∨i∈cm ops q.1∨q.1∈cm ops j:=fun i hi j hj q hq=>by
  have:=List.all_eq_true.1 (List.all_eq_true.1 (List.all_eq_true.1 c4 i (List.mem_range.2 hi)) j hj) q hq;simp only[Bool.or_eq_true,bne_iff_ne,beq_iff_eq,List.contains_iff_mem]at this;rcases this with((h|h)|h)|h
  ·exact .inl h
  ·exact .inr (.inl h)
  ·exact .inr (.inr (.inl h))
  ·exact .inr (.inr (.inr h))
 have c5:∀w∈b.ws,w<ops.size:=fun w hw=>by simpa using List.all_eq_true.1 c5 w hw
 have c6:∀i,i<ops.size→∀j∈cm ops i,j<i:=fun i hi j hj=>by
  have:=List.all_eq_true.1 (List.all_eq_true.1 c6 i (List.mem_range.2 hi)) j hj;simpa using this
 have hwk:∀k,k<b.ws.length→b.ws.getD k 0∈b.ws:=fun k hk=>by rw[List.getD_eq_getElem?_getD,List.getElem?_eq_getElem hk];exact List.getElem_mem hk
 exact⟨hnd,c1,c2,c3,c4,c5,c6,c7,hwk⟩
theorem Tb.Inv.reach{b:Tb}{ops:Array Oper}{l:Array Bool}{s:St}(hI:b.Inv ops l s):∀(n i j:Nat),(∀e∈cm ops j,lU l e=true)→DF ops n i j=true→lU l i=true
 |0,_,_,_,h=>by cases h
 |n+1,i,j,hj,h=>by
  obtain⟨e,he,h⟩:=List.any_eq_true.1 h;rw[Bool.or_eq_true]at h;rcases h with h|h
  ·rw[←beq_iff_eq.1 h];exact hj e he
  ·exact hI.reach n i e (fun e' he'=>hI.clo e (hj e he) e' he') h
section
variable {b : Tb} {ops : Array Oper} {l : Array Bool} {s : St} {i : Nat}
theorem Tb.now(ho:b.Ok ops)(hl:l.size=ops.size)(hI:b.Inv ops l s)(hr:i∈Region.ready .any ops l):∃m,m∈b.lvA i∧s.h=b.H m∧aZ s.t b.B∧ym b.T s.t (b.dpA i)∧(m≤b.ws.length∧∀k,k<b.ws.length→(lU l (b.ws.getD k 0)=true↔k<m)):=by
 obtain⟨hnd,c1,c2,c3,c4,c5,c6,c7,hwk⟩:=ho;obtain⟨r1,r2,r3⟩:=jB hr;have hif:lU l i=false:=by
  unfold lU;have hil:i<l.size:=by omega
  simpa[Array.getD,hil]using r2
 have hdep:∀j∈cm ops i,lU l j=true:=r3;obtain⟨m,m1,m2,m3⟩:=hI.lev;have hm:m∈b.lvA i:=by
  rcases c3 i r1 m m1 with h|⟨k,hk,⟨h1,h2⟩|⟨h1,h2⟩⟩
  ·exact h
  ·have ht:=(m2 k hk).2 h1;rcases h2 with h2|h2
   ·rw[h2,hif]at ht;cases ht
   ·have:=hI.reach 3 i _ (fun e he=>hI.clo _ ht e he) h2;rw[hif]at this;cases this
  ·exact absurd ((m2 k hk).1 (hI.reach 3 _ i hdep h2)) h1
 have hT:∀j∈b.dpA i,∀p,b.T.getD j none=some p→look s.t p.1=p.2:=fun j hj p hp=>by
  refine hI.tab j p hp ((c1 i r1 j hj).elim (hdep j) fun h=>hI.reach 3 j i hdep h) fun q hq e=>?_;rcases c4 i r1 j hj q hq with h|h|h|h
  ·exact absurd (by unfold Tb.dst;rw[hp,e];rfl) h
  ·rw[h];exact .inl hif
  ·cases hg:lU l q.1
   ·exact .inl rfl
   ·have:=hI.clo _ hg i h;rw[hif]at this;cases this
  ·exact .inr h
 exact⟨m,hm,m3,iS.2 hI.bas,Ae.2 hT,m1,m2⟩
theorem Tb.next(ho:b.Ok ops)(hl:l.size=ops.size)(hI:b.Inv ops l s)(hr:i∈Region.ready .any ops l){m:Nat}(hm:m≤b.ws.length∧∀k,k<b.ws.length→(lU l (b.ws.getD k 0)=true↔k<m)){s':St}(hp:b.postL i m s.t s'):b.Inv ops (l.setIfInBounds i true) s':=by
 obtain⟨hnd,c1,c2,c3,c4,c5,c6,c7,hwk⟩:=ho;obtain⟨m1,m2⟩:=hm;obtain⟨r1,r2,r3⟩:=jB hr;have hif:lU l i=false:=by
  unfold lU;have hil:i<l.size:=by omega
  simpa[Array.getD,hil]using r2
 have hdep:∀j∈cm ops i,lU l j=true:=r3;obtain⟨p1,p2,p3,p4⟩:=Tb.post_of hp;have hset:∀j,lU (l.setIfInBounds i true) j=if i=j then true else lU l j:=Ac (by omega);refine⟨fun i' hi' j hj=>?_,?_,p3,fun j p hj hg hk=>?_⟩
 ·rw[hset]at hi'⊢
  by_cases e:i=j
  ·rw[if_pos e]
  ·rw[if_neg e]
   by_cases e2:i=i'
   ·rw[←e2]at hj;exact hdep j hj
   ·rw[if_neg e2]at hi';exact hI.clo i' hi' j hj
 ·by_cases hw:i∈b.ws
  ·rw[if_pos hw]at p1;obtain⟨k,hk,e⟩:=List.getElem_of_mem hw;have e':b.ws.getD k 0=i:=by rw[List.getD_eq_getElem?_getD,List.getElem?_eq_getElem hk];exact e
   have hkm:¬k<m:=fun h=>by have:=(m2 k hk).2 h;rw[e',hif]at this;cases this
   have hkm2:k=m:=by
    apply Classical.byContradiction;intro hne;have h1:=c2 (k -1) (by omega);rw[show k -1+1=k by omega,e']at h1;have:=(m2 (k -1) (by omega)).1 (hdep _ h1);omega
   subst hkm2;refine⟨k+1,by omega,fun k' hk'=>?_,p1⟩;rw[hset]
   by_cases e2:i=b.ws.getD k' 0
   ·rw[if_pos e2];have:k'=k:=by
     rw[List.getD_eq_getElem?_getD,List.getElem?_eq_getElem hk',Option.getD_some,←e]at e2;have hpw:=List.pairwise_iff_getElem.1 hnd;rcases Nat.lt_trichotomy k k' with q|q|q
     ·exact absurd e2 (hpw k k' hk hk' q)
     ·exact q.symm
     ·exact absurd e2.symm (hpw k' k hk' hk q)
    simp[this]
   ·rw[if_neg e2,m2 k' hk'];have:k'≠k:=fun h=>e2 (by rw[h,e']);omega
  ·rw[if_neg hw]at p1;refine⟨m,m1,fun k hk=>?_,p1⟩;rw[hset,if_neg (fun e:i=b.ws.getD k 0=>hw (e▸hwk k hk))];exact m2 k hk
 ·rw[hset]at hg
  by_cases e:i=j
  ·subst e;exact p2 p hj
  ·rw[if_neg e]at hg;have hkl:(i,p.1)∉b.kl:=fun h=>by
    rcases hk (i,p.1) h rfl with this|this
    ·rw[hset,if_pos rfl]at this;cases this
    ·have:=hI.clo j hg i this;rw[hif]at this;cases this
   refine p4 j p hj (fun h=>e h.symm) hkl (hI.tab j p hj hg fun q hq e2=>?_);refine(hk q hq e2).imp (fun this=>?_) id;rw[hset]at this;split at this
   ·cases this
   ·exact this
theorem Tb.fin(ho:b.Ok ops)(hl:l.size=ops.size)(hI:b.Inv ops l s)(hr:Region.ready .any ops l=[]):(∀j,j<ops.size→lU l j=true)∧s.h=b.H b.ws.length∧aZ s.t b.B∧FW b.kl s.t b.T:=by
 obtain⟨hnd,c1,c2,c3,c4,c5,c6,c7,hwk⟩:=ho;have hall:∀n j,j<n→j<ops.size→lU l j=true:=by
  intro n
  induction n with
  |zero=>intro j h;omega
  |succ n ih=>
   intro j hj hjs;apply Classical.byContradiction;intro hn;have:j∈Region.ready .any ops l:=by
    unfold Region.ready;rw[List.mem_filter];refine⟨List.mem_range.2 hjs,?_⟩;have hjl:j<l.size:=by omega
    have hjf:l[j]=false:=by
     unfold lU at hn;simpa[Array.getD,hjl]using hn
    rw[Array.getElem?_eq_getElem hjs];simp only[Option.map_some,Option.getD_some,Bool.and_eq_true,Bool.not_eq_true'];refine⟨by simp[Array.getD,hjl,hjf],?_⟩;rw[Array.all_eq_true_iff_forall_mem];intro e he;cases hb:Region.binds .any e
    ·rfl
    ·have hd:e.on∈cm ops j:=by
      unfold cm;rw[Array.getElem?_eq_getElem hjs];exact List.mem_map.2 ⟨e,List.mem_filter.2 ⟨Array.mem_toList_iff.2 he,hb⟩,rfl⟩
     have h1:=c6 j hjs _ hd;have h2:=ih e.on (by omega) (by omega);unfold lU at h2;simp[h2]
   rw[hr]at this;cases this
 have hA:=fun j hj=>hall (j+1) j (Nat.lt_succ_self j) hj;obtain⟨m,m1,m2,m3⟩:=hI.lev;have hm:m=b.ws.length:=by
  apply Classical.byContradiction;intro hne;have:=(m2 m (by omega)).1 (hA _ (c5 _ (hwk m (by omega))));omega
 subst hm;exact⟨hA,m3,iS.2 hI.bas,ux fun p hp hk=>by
  obtain⟨j,hj,e⟩:=List.getElem_of_mem hp;exact hI.tab j p (by rw[List.getD_eq_getElem?_getD,List.getElem?_eq_getElem hj,e];rfl) (hA j (Nat.lt_of_lt_of_le hj c7)) fun q hq e2=>absurd e2 (hk q hq)⟩
theorem Tb.beg{t:List (Nat×SV)}(hB:aZ t b.B):b.Inv ops (Array.replicate ops.size false) ⟨t,b.H 0⟩:=by
 have h0:∀i,lU (Array.replicate ops.size false) i=false:=fun i=>by
  unfold lU;simp only[Array.getD_eq_getD_getElem?,Array.getElem?_replicate];split<;>rfl
 exact⟨fun i hi=>(by rw[h0]at hi;cases hi),⟨0,Nat.zero_le _,fun k _=>by rw[h0];simp,rfl⟩,iS.1 hB,fun j p _ hj=>(by rw[h0]at hj;cases hj)⟩
end
theorem cB.of{P:Program}{D:List Nat}{ops:Array Oper}{i:Nat}{K:St→Prop}{s:St}(hi:i<ops.size)(h:d5 P D ops.toList ops[i] K s):cB P D ops.toList i K s:=by
 unfold cB;rw[Array.getElem?_toList,Array.getElem?_eq_getElem hi];exact h
theorem aY.tab{P:Program}{k0:Nat}{ops:Array Oper}{K:St→Prop}{st:St}(D:List Nat)(b:Tb)(s1:St)(hok:b.okB ops=true)
 (hB:aZ st.t b.B) (hH:st.h=b.H 0)
 (hstep:b.steps P D ops.toList ops.toList 0)
 (hend:∀t,aZ t b.B→FW b.kl t b.T→aj k0 ⟨t,b.H b.ws.length⟩ s1) (hK:K s1):aY P k0 ops K st:=by
 have ho:=Tb.ok hok;refine aY.inv D (fun l s=>b.Inv ops l s) ?_ ?_ ?_
 ·have:=Tb.beg (ops:=ops) hB;rw[←hH]at this;exact this
 ·intro l s i hl hI hr;obtain⟨m,hm,m3,h1,h2,h3⟩:=Tb.now ho hl hI hr;have r1:=(jB hr).1;have hst:=Tb.steps_iff hstep i ops[i] (by rw[Array.getElem?_toList,Array.getElem?_eq_getElem r1]) m (by rw[Nat.zero_add];exact hm) s.t h1 (by rw[Nat.zero_add];exact h2);rw[Nat.zero_add,←m3]at hst;exact⟨_,cB.of r1 hst,fun s' hp=>Tb.next ho hl hI hr h3 hp⟩
 ·intro l s hl hI hr;obtain⟨_,m3,h1,h2⟩:=Tb.fin ho hl hI hr;have:=hend s.t h1 h2;rw[←m3]at this;exact⟨s1,this,hK⟩
def Tb.wth(b:Tb)(k:Nat)(T:List (Option (Nat×SV)))(H:Nat→List (List SV)):Tb:=⟨T,b.B,b.dp,b.ws,b.lv,b.kl,fun m=>if m≤k then b.H m else H m⟩
def K3(dl:List Nat):Nat→List (Option (Nat×SV))→List (Option (Nat×SV))→Prop
 |j,x::r,y::r'=>(dl.contains j=true∨x=y)∧K3 dl (j+1) r r'
 |_,[],[]=>True
 |_,_,_=>False
theorem Af{dl:List Nat}:∀{T T':List (Option (Nat×SV))}{n:Nat},K3 dl n T T'→∀j,n+j∉dl→T'.getD j none=T.getD j none
 |[],[],_,_,_,_=>rfl
 |x::r,y::r',n,h,j,hj=>by
  cases j with
  |zero=>
   rcases h.1 with e|e
   ·exact absurd (List.contains_iff_mem.1 e) hj
   ·rw[List.getD_cons_zero,List.getD_cons_zero,e]
  |succ j=>
   rw[List.getD_cons_succ,List.getD_cons_succ];exact Af h.2 j (by rwa [show n+1+j=n+(j+1) by omega])
 |[],_::_,_,h,_,_=>h.elim
 |_::_,[],_,h,_,_=>h.elim
def Tb.steps2{ι:Type}(b:Tb)(T:ι→List (Option (Nat×SV)))(H:ι→Nat→List (List SV))(J:ι→Prop)(w k:Nat)(P:Program)(D:List Nat)(ops:List Oper):List Oper→Nat→Prop
 |[],_=>True
 | o :: r, i => FV (fun m => ∀ t, aZ t b.B → if m ≤ k then ym b.T t (b.dpA i) → d5 P D ops o (fun s => if i = w then ∃ y, J y ∧ (b.wth k (T y) (H y)).postL i m t s else b.postL i m t s) ⟨t, b.H m⟩
  else∀y,J y→ym (T y) t (b.dpA i)→d5 P D ops o ((b.wth k (T y) (H y)).postL i m t) ⟨t,H y m⟩) (b.lvA i)∧steps2 b T H J w k P D ops r (i+1)
theorem Tb.steps2_iff {ι : Type} {b : Tb} {T : ι → List (Option (Nat × SV))} {H : ι → Nat → List (List SV)} {J : ι → Prop} {w k : Nat} {P : Program} {D : List Nat} {ops : List Oper} : ∀ {r : List Oper} {n : Nat}, b.steps2 T H J w k P D ops r n → ∀ i o, r[i]? = some o → ∀ m ∈ b.lvA (n + i), ∀ t, aZ t b.B → if m ≤ k then ym b.T t (b.dpA (n + i)) → d5 P D ops o (fun s => if n + i = w then ∃ y, J y ∧ (b.wth k (T y) (H y)).postL (n + i) m t s else b.postL (n + i) m t s) ⟨t, b.H m⟩
      else∀y,J y→ym (T y) t (b.dpA (n+i))→d5 P D ops o ((b.wth k (T y) (H y)).postL (n+i) m t) ⟨t,H y m⟩
  |[],_,_,i,o,h=>by simp at h
  |x::r,n,h,i,o,ho=>by
    cases i with
    |zero=>simp only[List.getElem?_cons_zero,Option.some.injEq]at ho;subst ho;exact uy.1 h.1
    |succ i=>
      have:=steps2_iff h.2 i o (by simpa using ho)
      rwa [show n+1+i=n+(i+1) by omega]at this
theorem aY.tab2{P:Program}{k0:Nat}{ops:Array Oper}{K:St→Prop}{st:St}{ι:Type}(D:List Nat)(b:Tb)(T:ι→List (Option (Nat×SV)))(H:ι→Nat→List (List SV))(J:ι→Prop)(w k:Nat)(dl:List Nat)
 (hok:b.okB ops=true) (hok1:∀y,(b.wth k (T y) (H y)).okB ops=true) (hw:b.ws[k]?=some w) (hdl:dl.all (fun j=>j==w||(cm ops j).contains w)=true)
 (hQ:∀y,K3 dl 0 b.T (T y)) (hB:aZ st.t b.B) (hH:st.h=b.H 0) (hstep:b.steps2 T H J w k P D ops.toList ops.toList 0)
 (hend:∀y,J y→∀t,aZ t b.B→FW b.kl t (T y)→∃s1,aj k0 ⟨t,H y b.ws.length⟩ s1∧K s1):aY P k0 ops K st:=by
 have ho:=Tb.ok hok;have ho1:=fun y=>Tb.ok (hok1 y);obtain⟨hkl,hkw⟩:=List.getElem?_eq_some_iff.1 hw;have hkD:b.ws.getD k 0=w:=by rw[List.getD_eq_getElem?_getD,hw];rfl
 have hwo:w<ops.size:=ho.c5 w (hkw▸List.getElem_mem hkl);refine aY.inv D (fun l s=>if lU l w=true then∃y,J y∧(b.wth k (T y) (H y)).Inv ops l s else b.Inv ops l s) ?_ ?_ ?_
 ·have:=Tb.beg (ops:=ops) hB;rw[←hH]at this;rw[if_neg]
  ·exact this
  ·unfold lU;simp only[Array.getD_eq_getD_getElem?,Array.getElem?_replicate];split<;>simp
 ·intro l s i hl hI hr;have r1:=(jB hr).1;have hset:∀j,lU (l.setIfInBounds i true) j=if i=j then true else lU l j:=Ac (by omega)
  by_cases hd:lU l w=true
  ·rw[if_pos hd]at hI;obtain⟨y,hy,hI⟩:=hI;obtain⟨m,hm,m3,h1,h2,h3⟩:=Tb.now (ho1 y) hl hI hr;have hkm:k<m:=(h3.2 k hkl).1 (by rw[show(b.wth k (T y) (H y)).ws=b.ws from rfl,hkD];exact hd);have hst:=Tb.steps2_iff hstep i ops[i] (by rw[Array.getElem?_toList,Array.getElem?_eq_getElem r1]) m (by rw[Nat.zero_add];exact hm) s.t h1;rw[if_neg (by omega),Nat.zero_add]at hst;have hst:=hst y hy h2;rw[show H y m=(b.wth k (T y) (H y)).H m by unfold Tb.wth;simp only;rw[if_neg (by omega)],←m3]at hst;refine⟨_,cB.of r1 hst,fun s' hp=>?_⟩;rw[if_pos (by rw[hset,hd];split<;>rfl)];exact⟨y,hy,Tb.next (ho1 y) hl hI hr h3 hp⟩
  ·rw[if_neg hd]at hI;obtain⟨m,hm,m3,h1,h2,h3⟩:=Tb.now ho hl hI hr;have hkm:m≤k:=Nat.le_of_not_lt fun h=>hd (hkD▸(h3.2 k hkl).2 h);have hst:=Tb.steps2_iff hstep i ops[i] (by rw[Array.getElem?_toList,Array.getElem?_eq_getElem r1]) m (by rw[Nat.zero_add];exact hm) s.t h1;rw[if_pos hkm,Nat.zero_add]at hst;have hst:=hst h2;rw[←m3]at hst;refine⟨_,cB.of r1 hst,fun s' hp=>?_⟩
   by_cases hiw:i=w
   ·rw[if_pos hiw]at hp;obtain⟨y,hy,hp⟩:=hp;rw[if_pos (by rw[hset,if_pos hiw])];refine⟨y,hy,Tb.next (ho1 y) hl ?_ hr h3 hp⟩;refine⟨hI.clo,⟨m,h3.1,h3.2,by rw[m3];unfold Tb.wth;simp only;rw[if_pos hkm]⟩,hI.bas,fun j p hj hg hk=>hI.tab j p ?_ hg hk⟩;rw[←Af (hQ y) j]
    ·exact hj
    ·intro hjd;rw[Nat.zero_add]at hjd;have:=List.all_eq_true.1 hdl j hjd;rw[Bool.or_eq_true]at this;rcases this with e|e
     ·exact hd ((beq_iff_eq.1 e)▸hg)
     ·exact hd (hI.clo j hg w (List.contains_iff_mem.1 e))
   ·rw[if_neg hiw]at hp;rw[if_neg (by rw[hset,if_neg hiw];exact hd)];exact Tb.next ho hl hI hr h3 hp
 ·intro l s hl hI hr
  by_cases hd:lU l w=true
  ·rw[if_pos hd]at hI;obtain⟨y,hy,hI⟩:=hI;obtain⟨_,m3,h1,h2⟩:=Tb.fin (ho1 y) hl hI hr;obtain⟨s1,h4,h5⟩:=hend y hy s.t h1 h2;refine⟨s1,?_,h5⟩;have e:(b.wth k (T y) (H y)).H (b.wth k (T y) (H y)).ws.length=H y b.ws.length:=by unfold Tb.wth;simp only;rw[if_neg (by omega)]
   rw[e]at m3;rw[←m3]at h4;exact h4
  ·rw[if_neg hd]at hI;exact absurd ((Tb.fin ho hl hI hr).1 w hwo) hd
end Go.AX