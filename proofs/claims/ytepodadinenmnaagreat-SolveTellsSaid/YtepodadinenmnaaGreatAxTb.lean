/-
  AX, part Ap: a slice of one's own becomes a block; append onto a slice of a block; regions by what is carried out; and what follows.
-/
import Derived.Test.YtepodadinenmnaaGreatAxOw
namespace Go.AX
def QM{ι:Type}(k0:Nat)(st:St)(S:ι->St):Prop:=∀g a w,g.n0<=k0->Sim g st a w->∃g' i,g.to g'∧Sim g' (S i) a w
theorem po.weak{P:Program}{k0:Nat}{ops:Array Oper}{K:St->Prop}{st:St}{ι:Type}(S:ι->St)(d:QM k0 st S)(h:∀i,po P k0 ops K (S i)):po P k0 ops K st:=λg a w h0 hs hd Q c=>by
 obtain⟨g',i,t,s'⟩:=d g a w h0 hs;exact h i g' a w (by rw[t.n0];exact h0) s' (by rw[t.N];exact hd) Q λst' g2 b w' hk f e=>c st' g2 b w' hk (t.trans f) e
theorem ay.flat{g:Gh}{e:Nat}:∀{rows:List (List PV)}{vs:List Value},ay g e rows vs->ak g rows.flatten vs
 |[],vs,h=>h
 |row::rows,vs,⟨c,d,h1,_,a,b⟩=>by
  subst h1;rw[VF];exact ak.append a (ay.flat b)
theorem ak.bots{g:Gh}:∀(vs:List Value),ak g (List.replicate vs.length PV.bot) vs
 |[]=>rfl
 |v::vs=>⟨v,vs,rfl,trivial,ak.bots vs⟩
theorem Sim.adoptS{g:Gh}{st:St}{a:Act}{w:World}(h:Sim g st a w){s e:Nat}{nw:Bool}{rows:List (List PV)}(hlk:look st.t s=.own nw e rows)(hne:rows≠[]):
    ∃g' cap,g.to g'∧rows.length<=cap∧Sim g' ⟨(s,.pv (.bsl st.h.length e 0 rows.length cap))::st.t,st.h++[(rows.flatten++List.replicate ((cap -rows.length)*e) PV.bot).map SV.pv]⟩ a w:=by
  obtain⟨bl,hb⟩:=h.own
  have hfs:=hb.slots s
  rw[hlk]at hfs
  rcases hfs with⟨_,e1,_⟩|⟨c,hbc,cap,arr,T,vs,e1,hcell,e3,⟨e4,e4',hone⟩,e5,e6,e7⟩
  · exact absurd e1 hne
  obtain⟨rest,hrest⟩:=e6
  have hvl:=e5.length
  have hal:arr.toList.length=cap*e:=by rw[TR];exact e3
  have hrl:rest.length=(cap -rows.length)*e:=by
    rw[←hrest,Ta,hvl]at hal
    rw[Nat.sub_mul];omega
  obtain⟨ps,hps⟩:∃ps,ps=rows.flatten++List.replicate ((cap -rows.length)*e) PV.bot:=⟨_,rfl⟩
  have hfit:ak g ps arr.toList:=by
    rw[hps,←hrest,←hrl]
    exact ak.append e5.flat (ak.bots rest)
  obtain⟨s0,bl0,hb0,_,_,hfree⟩:=h.drop hb (.slot s)
  obtain⟨f1,f2,f3,f4⟩:=hfree c hbc
  obtain⟨g',hg'⟩:∃g':Gh,g'={g with n:=g.n+1,μ:=λb=>if b=g.n then c else g.μ b}:=⟨_,rfl⟩
  have hle:g.le g':=by subst hg';exact⟨λ_ _ h=>h,SY _,Vt _,λb hb=>SU (by omega)⟩
  have hn:=h.n
  refine⟨g',cap,by subst hg';exact⟨λ_ _ h=>h,rfl,rfl,rfl,rfl,rfl,TD h.n0 (Vt _),λb hbn=>SU (by have:=h.n0;omega),λ_ _ h=>h⟩,e4,?_⟩
  rw[←hps]
  clear hps
  have hslot:∀u,u≠s->look ((s,SV.pv (.bsl st.h.length e 0 rows.length cap))::st.t) u=look ((s,SV.pv .bot)::st.t) u:=λu hu=>by simp only[look];rw[SU (VC hu),SU (VC hu)]
  have hslot0:look ((s,SV.pv (.bsl st.h.length e 0 rows.length cap))::st.t) s=.pv (.bsl st.h.length e 0 rows.length cap):=by simp[look]
  subst hg'
  refine{size:=h.size,defs:=h.defs,env:=h.env,n:=by simp[hn],n0:=TD h.n0 (Vt _),B:=h.B,I:=h.I,F:=h.F,μI:=λb hb=>?_,μinj:=λb b' hb hb' he=>?_,own:=⟨λp=>match p with|.slot u=>bl0 (.slot u)|.cell b k=>if b=g.n then none else bl0 (.cell b k),?_⟩,al:=λu=>?_}
  · by_cases e:b=g.n
    · simp only[e,UU];exact⟨f1,f2⟩
    · simp only[e,Ul];exact h.μI b (by have:b<g.n+1:=hb;omega)
  · have hb1:b<g.n+1:=hb
    have hb1':b'<g.n+1:=hb'
    by_cases e:b=g.n
    · by_cases e':b'=g.n
      · omega
      · simp only[e,e',UU,Ul]at he
        exact absurd he.symm (f3 b' (by omega))
    · by_cases e':b'=g.n
      · simp only[e,e',UU,Ul]at he
        exact absurd he (f3 b (by omega))
      · simp only[e,e',Ul]at he
        exact h.μinj b b' (by omega) (by omega) he
  · refine{slots:=λu=>?_,blocks:=λb ys hy=>?_,inj:=λp q k hp hq=>?_,free:=λp k hp=>?_}
    · by_cases hu:u=s
      · subst hu
        have h5:=hb0.slots u
        rw[show look (setPos st (.slot u) (.pv .bot)).t u=.pv .bot by simp[setPos,look]]at h5
        rw[hslot0]
        refine⟨h5.1,?_,e4,?_⟩
        · show st.h.length<g.n+1;omega
        · rw[e1,←hn];simp
      · have h5:=hb0.slots u
        rw[hslot u hu]
        exact az.frame hle (λ_ _=>rfl) h5
    · by_cases e:b=g.n
      · subst e
        rw[hn,Tk (SY _),U8]at hy
        simp only[TQ,TF]at hy
        subst hy
        refine⟨arr,T,by simp only[UU];exact hcell,⟨by rw[S7,←hfit.length,TR],hone⟩,λk x hk=>?_⟩
        rw[Tm]at hk
        cases hk2:ps[k]?with
        |none=>rw[hk2]at hk;cases hk
        |some y=>
          rw[hk2]at hk
          simp only[TZ,TF]at hk
          subst hk
          obtain⟨v,hv,hf⟩:=hfit.get k y hk2
          have:arr[k]?=some v:=by rw[←S4];exact hv
          refine⟨rfl,by simp,?_⟩
          rw[Tg,this]
          exact Fit.mono hle _ _ hf
      · have hlt:b<st.h.length:=by
          have:=(SQ.1 hy).1
          simp only[Ta,Ue]at this
          omega
        rw[SZ hlt]at hy
        obtain⟨arr',T',h1,h2,h3⟩:=hb0.blocks b ys hy
        refine⟨arr',T',by simp only[e,Ul];exact h1,h2,λk x hk=>?_⟩
        simp only[e,Ul]
        exact⟨(h3 k x hk).1,az.frame hle (λ_ _=>rfl) (h3 k x hk).2⟩
    · cases p with
      |slot u=>cases q with
        |slot v=>exact hb0.inj _ _ k hp hq
        | cell b j => dsimp only at hq; split at hq
                      · cases hq
                      · exact hb0.inj _ _ k hp hq
      |cell b j=>
        dsimp only at hp;split at hp
        · cases hp
        · cases q with
          |slot v=>exact hb0.inj _ _ k hp hq
          | cell b2 j2 => dsimp only at hq; split at hq
                          · cases hq
                          · exact hb0.inj _ _ k hp hq
    · have hp0:bl0 p=some k:=by
        cases p with
        |slot u=>exact hp
        | cell b j => dsimp only at hp; split at hp
                      · cases hp
                      · exact hp
      obtain⟨q1,q2,q3,q4⟩:=hb0.free p k hp0
      refine⟨q1,q2,q3,λb hb=>?_⟩
      by_cases e:b=g.n
      · simp only[e,UU];intro e2;exact f4 p (e2▸hp0)
      · simp only[e,Ul];exact q4 b (by have:b<g.n+1:=hb;omega)
  · by_cases hu:u=s
    · subst hu;rw[hslot0];trivial
    · rw[hslot u hu]
      refine bW.congr (λp hp=>?_) (s0.al u)
      cases p with
      |slot v=>
        by_cases hv:v=s
        · subst hv;simp only[aa,hslot0]at hp;cases hp
        · simp only[aa];exact⟨hslot v hv,rfl⟩
      |cell b k=>
        have hlt:b<st.h.length:=by
          apply VK
          intro hge
          simp only[aa]at hp
          by_cases e:b=st.h.length
          · subst e
            have h8:(st.h++[ps.map SV.pv]).getD st.h.length []=ps.map SV.pv:=by simp[SS]
            rw[h8,SS,Tm]at hp
            cases h9:ps[k]?<;>rw[h9]at hp<;>cases hp
          · have h8:(st.h++[ps.map SV.pv]).getD b []=[]:=by rw[SS,TL (by simp;omega)];rfl
            rw[h8]at hp
            cases hp
        refine⟨?_,?_⟩
        · simp only[aa,setPos,SS]
          rw[SZ hlt]
        · have e:b≠g.n:=by omega
          simp only[an,e,Ul]
theorem ay.sing{g:Gh}:∀{ys:List PV}{vs:List Value},(∀v∈vs,v.oneCell'=true)->ak g ys vs->ay g 1 (ys.map λy=>[y]) vs
 |[],_,_,h=>h
 |y::ys,_,ho,⟨v,r,h1,b,c⟩=>by
  subst h1;exact⟨[v],r,rfl,⟨rfl,λu a=>by rw[TA]at a;rw[a];exact ho v To⟩,⟨v,[],rfl,b,rfl⟩,ay.sing (λu a=>ho u (Tl _ a)) c⟩
theorem ak.of_get{g:Gh}:∀{ys:List PV}{vs:List Value},ys.length=vs.length->(∀(k:Nat) y v,ys[k]?=some y->vs[k]?=some v->Fit g y v)->ak g ys vs
 |[],[],_,_=>rfl
 |[],_::_,h,_=>by simp at h
 |_::_,[],h,_=>by simp at h
 |y::ys,v::vs,h,a=>⟨v,vs,rfl,a 0 y v rfl rfl,ak.of_get (by simpa using h) λk d c h1 b=>a (k+1) d c (by simpa using h1) (by simpa using b)⟩
theorem xy(ys:List PV):(ys.map λy=>[y]).flatten=ys:=by
 induction ys with
 |nil=>rfl
 |cons y ys a=>rw[Tn,VF,a];rfl
theorem Ca{P:Program}{st:St}(o:Oper)(t:TypeId)(s x:Operand)(d bt b n cap:Nat){xs:List SV}{ys:List PV}(ho:o.op=.call {callee:=.builtin .append,args:=#[s,x],argTypes:=#[t,t]}) (hd:o.dst=some d)
    (hi:bM P t=some (1,bt)) (ag:0<bt) (aq:gc st s) (hs:mv st s=.pv (.bsl b 1 0 n cap)) (ar:gc st x) (hx:i9 st 1 (mv st x)) (aa:rowsOf st (mv st x)≠[])
    (af:st.h[b]?=some xs) (aD:cap<=xs.length) (ax:xs.take n=ys.map SV.pv) (aw:ys.length=n)
    (H:(n+(rowsOf st (mv st x)).length)*bt<=140737488355328) {N:Nat} (hN:d<N):
    ∀g a w,g.N=N->Sim g st a w->∃v w' g',(execOp a.eval o).run P w=.ok (.value v) w'∧g.to g'∧
      ((n + (rowsOf st (mv st x)).length <= cap ∧ Sim g' ⟨(d, .pv (.bsl b 1 0 (n + (rowsOf st (mv st x)).length) cap)) :: aG (aJ b n (rowsOf st (mv st x)).length) st.t, st.h.set b (splice xs n ((rowsOf st (mv st x)).flatten.map SV.pv))⟩ (a.put o.dst v) w') ∨
       (cap < n + (rowsOf st (mv st x)).length ∧ ∃ p, n + (rowsOf st (mv st x)).length <= p ∧
        Sim g' ⟨(d,.pv (.bsl st.h.length 1 0 (n+(rowsOf st (mv st x)).length) p))::(d,.own true 1 ((ys.map λy=>[y])++rowsOf st (mv st x)))::aG (cX d) st.t,st.h++[(ys++(rowsOf st (mv st x)).flatten++List.replicate (p -(n+(rowsOf st (mv st x)).length)) PV.bot).map SV.pv]⟩ (a.put o.dst v) w')):=by
  intro g a w hg h
  obtain⟨bl,hb⟩:=h.own
  obtain⟨Z,has⟩:=aN h s aq
  rw[hs]at Z
  obtain⟨_,ah,aI,G⟩:=Z
  obtain⟨q,k,news,ae,r,aj⟩:=gN h ar hx
  obtain⟨W,rfl,E⟩:∃W:Addr,q=some W∧∀(j:Nat) u,news[j]?=some u->w.cell? (W.add j)=some u:=by
    rcases aj with I|I
    · exact absurd I aa
    · exact I
  obtain⟨arr,T,c1,⟨c2,X⟩,c3⟩:=hb.blocks b xs af
  obtain⟨K,i,z,hu,M,hz,F,ai,aC,aA⟩:=qm hi
  have U:news.length=(rowsOf st (mv st x)).length*i.size:=by rw[F];exact r.length
  have O:news.length=(rowsOf st (mv st x)).length:=by rw[U,F,WH]
  have aH:0<(rowsOf st (mv st x)).length:=UG.2 aa
  generalize hR:rowsOf st (mv st x)=R at*
  have S:R.flatten.length=R.length:=by have:=r.flat.length;omega
  by_cases A:n+R.length<=cap
  · have L:n*i.size+news.length<=arr.size:=by rw[F,O];omega
    have hr:=nM (P:=P) w t o.type K i hu M (g.μ b) n cap T arr c1 W R.length k news U E r.one A L
    rw[F,WH]at hr L
    have hB:=h.blockWrite (k0:=n) (ys:=R.flatten) (vs:=news) (arr':=(splice arr.toList n news).toArray) (w':=w.setRow (g.μ b) (splice arr.toList n news).toArray) af (by omega) c1 r.flat r.one rfl (by simp) (λc I=>setRow_other w (g.μ b) c _ I) ⟨T,setRow_heap w (g.μ b) arr _ T _ c1⟩ (by simp)
    rw[S]at hB
    refine⟨.slice (some ⟨g.μ b,0,none⟩) (n+R.length) cap,w.setRow (g.μ b) (splice arr.toList n news).toArray,g,?_,h.refl_to,.inl ⟨A,?_⟩⟩
    · simp only[execOp,ho,resolve,invoke,builtin,Wo,Tn,Vg,Sem.run_bind,Sem.run_pure,Result.andThen_ok,G,ae,hr]
    · rw[hd]
      exact hB.put (hg▸hN) (sv:=.pv (.bsl b 1 0 (n+R.length) cap)) ⟨rfl,ah,A,rfl⟩ trivial rfl
  · have C:cap<n+R.length:=by omega
    have aB:∀m,∀v∈(Builtin.zeroCells z.cells m).toList,v.oneCell'=true:=λm v G=>by
      simp only[Builtin.zeroCells,Wn,S8]at G
      obtain⟨j,hj,rfl⟩:=G
      by_cases e:z.cells.size=0
      · rw[e]at hj;simp at hj
      · have C:j %z.cells.size<z.cells.size:=Nat.mod_lt _ (by omega)
        rw[Vq z.cells (j %z.cells.size) C]
        exact aA _ (Wx C)
    obtain⟨f,J⟩:∃f,f=arr.toList.take n:=⟨_,rfl⟩
    have aF:arr.toList.length=xs.length:=by rw[TR];exact c2
    have Q:f.length=n:=by rw[J,S6];omega
    have an:ak g ys f:=ak.of_get (by omega) λj y v hy G=>by
      have hj:j<n:=by have:=(SQ.1 hy).1;omega
      have h1:xs[j]?=some (.pv y):=by
        have:(xs.take n)[j]?=some (.pv y):=by rw[ax,Tm,hy];rfl
        rwa [TY,SX hj]at this
      have h2:arr[j]?=some v:=by
        rw[J,TY,SX hj]at G
        rw[←S4];exact G
      have h3:=(c3 j _ h1).2.2
      rw[Tg,h2]at h3
      exact h3
    have ab:∀v∈f,v.oneCell'=true:=λv G=>X v (by rw[J]at G;exact TV G)
    have V:∀(j:Nat) u,f[j]?=some u->w.cell? ((⟨g.μ b,0,none⟩:Addr).add j)=some u:=λj u hj=>by
      rw[Addr.add_lit,cell_of c1,T4,←S4]
      rw[J,TY]at hj
      split at hj
      · exact hj
      · cases hj
    have aE:n+R.length<=140737488355328:=by
      have:(n+R.length)*1<=(n+R.length)*bt:=XL _ ag
      omega
    have hr:=run_append_grow (P:=P) w t o.type K i z hu M hz ⟨g.μ b,0,none⟩ n cap f (by rw[Q,F,WH]) V W R.length k news U E C (by omega) (growslice_fits C (by rw[ai];exact H))
    have ao:=grownCap_ge w (n+R.length) cap K
    have au:=grownCap_le_maxLen w (n+R.length) cap K (by unfold maxLen;omega)
    generalize grownCap w (n+R.length) cap K=gc at*
    obtain⟨rows,l⟩:∃rows:List (List PV),rows=(ys.map λy=>[y])++R:=⟨_,rfl⟩
    have D:rows.length=n+R.length:=by rw[l,Ta,S7,aw]
    have av:rows.flatten=ys++R.flatten:=by rw[l,V1,xy]
    have hS:az g (w.drew.alloc (.cells (f.toArray++news.toArray++Builtin.zeroCells z.cells (gc -(n+R.length))) K)) (.own true 1 rows) (.slice (some ⟨w.heap.size,0,none⟩) (n+R.length) gc) (some w.heap.size):=by
      refine .inr ⟨w.heap.size,rfl,gc,_,K,f++news,by rw[D],heap_alloc_new w.drew _,?_,⟨by rw[D];exact ao,au,by simpa only[XM]using ft (ft ab r.one) (aB _)⟩,by rw[l];exact ay.append (ay.sing ab an) r,?_,λ_=>h.B⟩
      · simp only[Wf,T8,size_zeroCells,aC,Q,O]
        omega
      · exact⟨(Builtin.zeroCells z.cells (gc -(n+R.length))).toList,by simp⟩
    have hO:=h.putOwn hb (hg▸hN) (w':=w.drew.alloc (.cells (f.toArray++news.toArray++Builtin.zeroCells z.cells (gc -(n+R.length))) K)) rfl (by simp) (λc I _=>heap_alloc_old w.drew _ I) hS rfl (λc I=>by cases I;exact⟨by simp,h.fresh hb (SY _)⟩)
    obtain⟨g',p,t',Y,s'⟩:=hO.adoptS (s:=d) (e:=1) (nw:=true) (rows:=rows) (by simp[look]) (λe=>by rw[e]at D;simp at D;omega)
    rw[D,av,WH]at s'
    rw[D]at Y
    refine⟨_,_,g',?_,t',.inr ⟨C,p,Y,by rw[hd,←l];exact s'⟩⟩
    simp only[execOp,ho,resolve,invoke,builtin,Wo,Tn,Vg,Sem.run_bind,Sem.run_pure,Result.andThen_ok,G,ae,hr]
/-! ### Rules -/
def LC(P:Program)(st:St)(t:TypeId)(s x:Operand)(d:Tmp)(K:St->Prop):Prop:=
 match bM P t,mv st s with
 |some (e,bt),.pv (.bsl b e' off n cap)=>e=1∧e'=1∧off=0∧0<bt∧gc st s∧gc st x∧i9 st 1 (mv st x)∧rowsOf st (mv st x)≠[]∧b<st.h.length∧cap<=(st.h.getD b []).length∧(n+(rowsOf st (mv st x)).length)*bt<=140737488355328∧
  ∃ys:List PV,(st.h.getD b []).take n=ys.map SV.pv∧ys.length=n∧
   (n+(rowsOf st (mv st x)).length<=cap->K ⟨(d,.pv (.bsl b 1 0 (n+(rowsOf st (mv st x)).length) cap))::aG (aJ b n (rowsOf st (mv st x)).length) st.t,st.h.set b (splice (st.h.getD b []) n ((rowsOf st (mv st x)).flatten.map SV.pv))⟩)∧
   (cap < n + (rowsOf st (mv st x)).length -> ∀ a, n + (rowsOf st (mv st x)).length <= a ->
    K ⟨(d,.pv (.bsl st.h.length 1 0 (n+(rowsOf st (mv st x)).length) a))::(d,.own true 1 ((ys.map λy=>[y])++rowsOf st (mv st x)))::aG (cX d) st.t,st.h++[(ys++(rowsOf st (mv st x)).flatten++List.replicate (a -(n+(rowsOf st (mv st x)).length)) PV.bot).map SV.pv]⟩)
 |_,_=>False
def LD(P:Program)(st:St)(t:TypeId)(x hi m:Operand)(d:Tmp)(K:St->Prop):Prop:=
 match bm P t,mv st x with
 |some e,.pv (.bsl b e' off n _)=>e'=e∧gc st x∧cP st (some hi)∧cP st (some m)∧aS (mv st m)=aS (mv st hi)∧0<aS (mv st hi)∧aS (mv st hi)<=n∧K (putD (some d) (.pv (.bsl b e' off (aS (mv st hi)).toNat (aS (mv st hi)).toNat)) st)
 |_,_=>False
def ON(D:List Nat)(d:Option Tmp)(K:St->Prop)(st:St):Prop:=
 match d with
 | some d => if l6 D d = true then (match look st.t d with
  |.own _ e rows=>rows≠[]∧∀cap,rows.length<=cap->K ⟨(d,.pv (.bsl st.h.length e 0 rows.length cap))::st.t,st.h++[(rows.flatten++List.replicate ((cap -rows.length)*e) PV.bot).map SV.pv]⟩
  |_=>False)else K st
 |none=>K st
def Iq:SV->Bool
 |.pv (.bsl _ _ _ _ _)=>true
 |_=>false
def mN(o:Oper):Option (TypeId×Operand×Operand×Tmp):=
 match o.guard,o.dst,o.op with
 |none,some d,.call c=>match c.callee,c.args.toList,c.argTypes.toList with
  |.builtin .append,[s,x],[t,a]=>if t=a then some (t,s,x,d)else none
  |_,_,_=>none
 |_,_,_=>none
theorem Ir{o:Oper}{t:TypeId}{s x:Operand}{d:Tmp}(h:mN o=some (t,s,x,d)):o.guard=none∧o.dst=some d∧o.op=.call {callee:=.builtin .append,args:=#[s,x],argTypes:=#[t,t]}:=by
 unfold mN at h;split at h
 .rename_i d' c h1 g i;split at h
  .rename_i s' l t1 m a b f;split at h
   .rename_i e;subst e;simp only[TF,UH]at h;obtain⟨rfl,rfl,rfl,rfl⟩:=h;refine⟨h1,g,?_⟩;rw[i];obtain⟨cl,ar,ty⟩:=c;simp only at a b f;subst a;have j:ar=#[s',l]:=UJ b;have k:ty=#[t1,t1]:=UJ f;rw[j,k]
   .cases h
  .cases h
 .cases h
def iU(o:Oper):Option (TypeId×Operand×Operand×Operand×Tmp):=
 match o.guard,o.dst,o.op with
 |none,some d,.slice t x none (some hi) (some m)=>some (t,x,hi,m,d)
 |_,_,_=>none
theorem FP{o:Oper}{t:TypeId}{x hi m:Operand}{d:Tmp}(h:iU o=some (t,x,hi,m,d)):o.guard=none∧o.dst=some d∧o.op=.slice t x none (some hi) (some m):=by
 unfold iU at h;split at h
 .rename_i h1 a b;simp only[TF,UH]at h;obtain⟨rfl,rfl,rfl,rfl,rfl⟩:=h;exact⟨h1,a,b⟩
 .cases h
def d8(P:Program)(D:List Nat)(ops:List Oper)(o:Oper)(K:St->Prop)(st:St):Prop:=
 match mN o with
 |some (t,s,x,d)=>if Iq (mv st s)=true then LC P st t s x d K else eX P ops o (ON D o.dst K) st
 |none=>match iU o with
  |some (t,x,hi,m,d)=>LD P st t x hi m d K
  |none=>eX P ops o (ON D o.dst K) st
def vM(P:Program)(D:List Nat)(ops:List Oper)(K:St->Prop):List Oper->St->Prop
 |[],st=>K st
 |o::rest,st=>d8 P D ops o (vM P D ops K rest) st
theorem NV{D:List Nat}{d:Option Tmp}{K:St->Prop}{st:St}(h:ON D d K st){g:Gh}{a:Act}{w:World}(hs:Sim g st a w):∃st' g',K st'∧g.to g'∧Sim g' st' a w:=by
 unfold ON at h;split at h
 .split at h
  .split at h
   .rename_i b;obtain⟨h1,c⟩:=h;obtain⟨g',_,t,e,s'⟩:=hs.adoptS b h1;exact⟨_,g',c _ e,t,s'⟩
   .exact h.elim
  .exact⟨st,g,h,hs.refl_to,hs⟩
 .exact⟨st,g,h,hs.refl_to,hs⟩
theorem LE{P:Program}{st:St}(o:Oper){t:TypeId}{s x:Operand}{d:Nat}{K:St->Prop}(ho:o.op=.call {callee:=.builtin .append,args:=#[s,x],argTypes:=#[t,t]}) (f:o.dst=some d)
 (h:LC P st t s x d K) {g:Gh} {a:Act} {w:World} (hs:Sim g st a w) (hd:ca g.N o.dst) {K':Act->World->Prop} {Q:Exit->Act->World->Prop}
 (r:∀st' g' q w',K st'->g.to g'->Sim g' st' q w'->K' q w'):o.wp P a w K' Q:=by
 unfold LC at h;split at h
 .rename_i e bt b e' off n cap hi G;obtain⟨rfl,rfl,rfl,h1,y,z,A,B,C,D,E,ys,F,i,j,k⟩:=h;have l:st.h[b]?=some (st.h.getD b []):=by rw[SS,SR C];rfl
  obtain⟨v,w',g',H,u,r3⟩:=Ca o t s x d bt b n cap ho f hi h1 y G z A B l D F i E (N:=g.N) (by rw[f]at hd;exact hd) g a w rfl hs;unfold Oper.wp;rw[H];rcases r3 with⟨m,p⟩|⟨m,c,p,I⟩
  .exact r _ g' _ w' (j m) u p
  .exact r _ g' _ w' (k m c p) u I
 .exact h.elim
theorem xz{P:Program}{st:St}{g:Gh}{a:Act}{w:World}(h:Sim g st a w)(len cap:Nat)(hi m:Operand)(b:cP st (some hi))(c:cP st (some m))(d:aS (mv st m)=aS (mv st hi))
 (h1:0<=aS (mv st hi)) (f:aS (mv st hi)<=len) (i:len<=cap):
 ∀w':World,(Instr.sliceBounds true len cap none (some (a.eval hi)) (some (a.eval m))).run P w'=.ok (0,(aS (mv st hi)).toNat,(aS (mv st hi)).toNat) w':=by
 intro w';simp only[cP]at*;have e:((aS (mv st hi)).toNat:Int)=aS (mv st hi):=W9 (by omega);simp only[Instr.sliceBounds,bX h b.1 b.2,bX h c.1 c.2,d,Sem.run_bind,Sem.run_pure,Result.andThen_ok,run_sliceBound w' _ _ cap _ (by omega:(0:Int)<=aS (mv st hi)) (by omega),
  run_sliceBound w' _ _ (aS (mv st hi)).toNat _ (by omega:(0:Int)<=aS (mv st hi)) (by omega)]
theorem LJ{P:Program}{st:St}(o:Oper){t:TypeId}{x hi m:Operand}{d:Nat}{K:St->Prop}(ho:o.op=.slice t x none (some hi) (some m))(k:o.dst=some d)
 (h:LD P st t x hi m d K) {g:Gh} {a:Act} {w:World} (hs:Sim g st a w) (hd:ca g.N o.dst) {K':Act->World->Prop} {Q:Exit->Act->World->Prop}
 (z:∀st' g' i w',K st'->g.to g'->Sim g' st' i w'->K' i w'):o.wp P a w K' Q:=by
 unfold LD at h;split at h
 .rename_i e b e' off n cap c B;obtain⟨rfl,h1,r,s,u,G,v,y⟩:=h;obtain⟨q,_⟩:=aN hs x h1;rw[B]at q;obtain⟨_,j,l,E⟩:=q;unfold bm at c;split at c
  case h_2=>cases c
  rename_i F D;simp only[Tp]at c;obtain⟨p,f,rfl⟩:=c;have A:=xz (P:=P) hs n cap hi m r s u (by omega) v l;refine b5 (st':=putD (some d) (.pv (.bsl b p.size off (aS (mv st hi)).toNat (aS (mv st hi)).toNat)) st) (g:=g) ⟨.slice (some ⟨g.μ b,off,none⟩) (aS (mv st hi)).toNat (aS (mv st hi)).toNat,w,g,?_,hs.refl_to,?_⟩ (λg' i w'=>z _ g' i w' y)
  .have C:(aS (mv st hi)).toNat≠0:=by omega
   simp only[execOp,ho,E,TZ,Vv];simp only[Instr.sliceAt,Sem.run_bind,run_underlying D,Result.andThen_ok,Instr.slice,A,run_sizeOf f,Sem.run_pure];simp[Addr.add_lit]
  .rw[k]at hd⊢;exact hs.put hd ⟨rfl,j,SY _,rfl⟩ trivial rfl
 .exact h.elim
theorem nv{P:Program}{D:List Nat}{ops:Array Oper}{st:St}(o:Oper){K:St->Prop}(h:d8 P D ops.toList o K st){g:Gh}{a:Act}{w:World}(hs:Sim g st a w)(hd:ca g.N o.dst){K':Act->World->Prop}{Q:Exit->Act->World->Prop}
 (f:∀st' g' b w',K st'->g.to g'->Sim g' st' b w'->K' b w'):if Region.wanted o (yielded ops a.tmps)=true then o.wp P a w K' Q else K' (a.put o.dst undef) w:=by
 have k:eX P ops.toList o (ON D o.dst K) st->if Region.wanted o (yielded ops a.tmps)=true then o.wp P a w K' Q else K' (a.put o.dst undef) w:=λh1=>
  mz o h1 hs hd λst' g' b w' hk t s'=>by
   obtain⟨j,g2,l,p,n⟩:=NV hk s';exact f j g2 b w' l (t.trans p) n
 unfold d8 at h;split at h
 .rename_i t s x d i;obtain⟨h1,c,e⟩:=Ir i;split at h
  .rw[SX (by simp[Region.wanted,h1])];exact LE o e c h hs hd f
  .exact k h
 .split at h
  .rename_i t x hi m d i;obtain⟨h1,c,e⟩:=FP i;rw[SX (by simp[Region.wanted,h1])];exact LJ o e c h hs hd f
  .exact k h
theorem zt{P:Program}{D:List Nat}{ops:Array Oper}:∀(l:List Oper){st:St}{K:St->Prop}(_:vM P D ops.toList K l st){g:Gh}{a:Act}{w:World}(_:Sim g st a w)(_:cu g.N l=true){Q:Exit->Act->World->Prop}
 (_:∀st' g' b w',K st'->g.to g'->Sim g' st' b w'->Q .normal b w'),wpList P ops Q l a w
 |[],st,K,h,g,a,w,hs,_,Q,c=>c st g a w h hs.refl_to hs
 |o::rest,st,K,h,g,a,w,hs,hd,Q,c=>by
  obtain⟨h1,j⟩:=mA hd;have:=nv (ops:=ops) o h hs h1 (Q:=Q) (K':=wpList P ops Q rest)
   (λst' g' b w' hk f s'=>zt rest hk s' (by rw[f.N];exact j) (λe g2 i p k n m=>c e g2 i p k (f.trans n) m))
  unfold wpList;split
  .rename_i d;rw[SX d]at this;exact .inl this
  .rename_i d;rw[SU d]at this;exact this
theorem po.blk{P:Program}{k0:Nat}{ops:Array Oper}{K:St->Prop}{st:St}(D:List Nat)(h:vM P D ops.toList K ops.toList st):po P k0 ops K st:=λ_ _ _ _ hs hd _ a=>zt ops.toList h hs hd a
section
variable {P : Program} {D : List Nat} {ops : List Oper} {K : St -> Prop} {st : St}
@[simp] theorem OO:vM P D ops K [] st=K st:=rfl
@[simp] theorem NW(o:Oper)(rest:List Oper):vM P D ops K (o::rest) st=d8 P D ops o (vM P D ops K rest) st:=rfl
end
attribute [simp] d8 mN iU LC LD ON Iq
end Go.AX
namespace Go.AX
def cA(P:Program)(D:List Nat)(ops:List Oper)(i:Nat)(K:St->Prop)(st:St):Prop:=
 match ops[i]?with
 |some o=>d8 P D ops o K st
 |none=>False
mutual
def pE(P:Program)(D:List Nat)(ops:List Oper)(K:St->Prop):Sch->St->Prop
  |.done,st=>K st
  |.take i r,st=>fi P ops i (pE P D ops K r) st
  |.fork l,st=>nU P D ops K l st
def nU(P:Program)(D:List Nat)(ops:List Oper)(K:St->Prop):List (Nat×Sch)->St->Prop
  |[],_=>True
  |(i,r)::l,st=>cA P D ops i (pE P D ops K r) st∧nU P D ops K l st
end
mutual
theorem xA{P:Program}{D:List Nat}{ops:Array Oper}{K:St->Prop}{Q:Exit->Act->World->Prop}(hsel:Region.noSelect ops=true)(hQp:∀c a w,¬Q (.panic c) a w):∀(S:Sch)(n:Nat)(listed:Array Bool)(_:jH P ops n listed S=true){st:St}(_:pE P D ops.toList K S st){g:Gh}{a:Act}{w:World}(_:Sim g st a w)(_:cu g.N ops.toList=true)
    (_:∀st' g' a' w',K st'->g.to g'->Sim g' st' a' w'->Q .normal a' w'),wpAny P .any ops Q n listed a w
  |.done,n,listed,hb,st,h,g,a,w,hs,_,hQ=>by
    have hb':(Region.ready .any ops listed).isEmpty=true:=by cases n<;>simpa[jH]using hb
    exact wpAny_done (Xt.1 hb') (hQ st g a w h hs.refl_to hs) n
  |.take i r,0,listed,hb,st,h,g,a,w,hs,hd,hQ=>by simp[jH]at hb
  |.take i r,n+1,listed,hb,st,h,g,a,w,hs,hd,hQ=>by
    simp only[jH,S9]at hb
    obtain⟨⟨hb1,hb2⟩,hb3⟩:=hb
    simp only[pE,fi]at h
    cases ho:ops[i]?with
    |none=>rw[ho]at hb1;cases hb1
    |some o=>
      rw[ho]at hb1
      rw[S4,ho]at h
      simp only[S9]at hb1
      obtain⟨v,hy,st',g',h1,h2,h3⟩:=xd o hb1.1 h hs (dN hd (by rw[S4];exact ho))
      exact wpAny_take ho hsel hb1.2 hb2 (λc a w hq=>absurd hq (hQp c _ w)) hy (xA hsel hQp r n _ hb3 h1 h3 (by rw[h2.N];exact hd) λst2 g2 a2 w2 k2 t2 s2=>hQ st2 g2 a2 w2 k2 (h2.trans t2) s2)
  |.fork l,0,listed,hb,st,h,g,a,w,hs,hd,hQ=>by simp[jH]at hb
  |.fork l,n+1,listed,hb,st,h,g,a,w,hs,hd,hQ=>by
    simp only[jH,S9]at hb
    obtain⟨⟨hb1,hb2⟩,hb3⟩:=hb
    simp only[pE]at h
    have hr:Region.ready .any ops listed=l.map (·.1):=by simpa using hb1
    refine wpAny_all hr (λe=>?_) λi hi=>zu hsel hQp l n listed hb3 h hs hd hQ i hi
    cases l with
    |nil=>simp at hb2
    |cons _ _=>cases e
theorem zu{P:Program}{D:List Nat}{ops:Array Oper}{K:St->Prop}{Q:Exit->Act->World->Prop}(hsel:Region.noSelect ops=true)(hQp:∀c a w,¬Q (.panic c) a w):∀(l:List (Nat×Sch))(n:Nat)(listed:Array Bool)(_:yP P ops n listed l=true){st:St}(_:nU P D ops.toList K l st){g:Gh}{a:Act}{w:World}(_:Sim g st a w)(_:cu g.N ops.toList=true)
    (_:∀st' g' a' w',K st'->g.to g'->Sim g' st' a' w'->Q .normal a' w'),∀i∈l.map (·.1),wpOp P ops Q i (wpAny P .any ops Q n (listed.setIfInBounds i true)) a w
  |[],n,listed,_,st,_,g,a,w,_,_,_,i,hi=>by cases hi
  |(i0,r)::l,n,listed,hb,st,h,g,a,w,hs,hd,hQ,i,hi=>by
    simp only[yP,S9]at hb
    simp only[nU]at h
    simp only[Tn,Tx]at hi
    rcases hi with e|hi
    · subst e
      have h1:=h.1
      simp only[cA]at h1
      unfold wpOp
      cases ho:ops[i]?with
      |none=>rw[S4,ho]at h1;exact h1.elim
      |some o=>
        rw[S4,ho]at h1
        have key:=nv (ops:=ops) o h1 hs (dN hd (by rw[S4];exact ho)) (K':=wpAny P .any ops Q n (listed.setIfInBounds i true)) (Q:=Q) λst' g' a' w' k' t' s'=>
          xA hsel hQp r n _ hb.1 k' s' (by rw[t'.N];exact hd) λst2 g2 a2 w2 k2 t2 s2=>hQ st2 g2 a2 w2 k2 (t'.trans t2) s2
        simp only
        split
        · rename_i hw;rw[SX hw]at key;exact .inl key
        · rename_i hw;rw[SU hw]at key;exact key
    · exact zu hsel hQp l n listed hb.2 h.2 hs hd hQ i hi
end
theorem aT.blk{P:Program}{k0:Nat}{ops:Array Oper}{K:St->Prop}{st:St}(D:List Nat)(S:Sch){ι:Type}(c:ι->St)(J:ι->Prop)(b:pn P ops S=true)(h:pE P D ops.toList (λs=>∃i,J i∧ah k0 s (c i)) S st)(f:∀i,J i->K (c i)):aT P k0 ops K st:=by
 simp only[pn,S9]at b;refine .inr λg a w h0 hs hd Q hp j=>xA b.1 hp S _ _ b.2 h hs hd λst' g' d w' hk e s'=>?_;obtain⟨i,hj,k⟩:=hk;obtain⟨g2,m,l⟩:=k g' d w' (by rw[e.n0];exact h0) s';exact j _ g2 d w' (f i hj) (e.trans m) l
section
variable {P : Program} {D : List Nat} {ops : List Oper} {K : St -> Prop} {st : St}
@[simp] theorem OP:pE P D ops K .done st=K st:=by simp only[pE]
@[simp] theorem OQ(i:Nat)(r:Sch):pE P D ops K (.take i r) st=fi P ops i (pE P D ops K r) st:=by simp only[pE]
@[simp] theorem OR(l:List (Nat×Sch)):pE P D ops K (.fork l) st=nU P D ops K l st:=by simp only[pE]
@[simp] theorem OS:nU P D ops K [] st=True:=by simp only[nU]
@[simp] theorem NX(i:Nat)(r:Sch)(l:List (Nat×Sch)):nU P D ops K ((i,r)::l) st=(cA P D ops i (pE P D ops K r) st∧nU P D ops K l st):=by simp only[nU]
end
attribute [simp] cA
end Go.AX
namespace Go.AX
def oI(P:Program)(t:TypeId)(x:SV):SV×Prop:=
 match mj P t,x with
 |some (n,e),.pv (.ptr b off)=>(.pv (.bsl b 1 off n n),e=1∧0<n)
 |_,_=>(.pv .bot,False)
theorem FQ{P:Program}{st:St}(o:Oper)(t:TypeId)(x:Operand)(ho:o.op=.slice t x none none none):i8 P st o ((oI P t (mv st x)).1,gc st x∧(oI P t (mv st x)).2):=by
 intro g a w h ⟨hx,hd⟩;unfold oI at hd⊢;split at hd
 case h_2=>exact hd.elim
 rename_i n e b off hs m;obtain⟨rfl,hn⟩:=hd;obtain⟨k,_⟩:=aN h x hx;rw[m]at k;obtain⟨_,l,r⟩:=k;unfold mj at hs;split at hs
 case h_2=>cases hs
 rename_i f u q;simp only[Tp,UH]at hs;obtain⟨s,d,rfl,p⟩:=hs;have i:=kY (P:=P) h false f f none none trivial trivial (Vn _) (by simp[bnd]) (by simp[bnd]) (SY _);refine⟨.slice (some ⟨g.μ b,off,none⟩) f f,?_,⟨rfl,l,SY _,rfl⟩,trivial⟩;intro w';have j:¬f=0:=by omega
 simp only[execOp,ho,r,Vv,Instr.sliceAt,Sem.run_bind,run_underlying q,Result.andThen_ok,Instr.sureAddr,Sem.run_pure];have c:=i w';simp only[Vv]at c;rw[c];simp[bnd,run_sizeOf d,j,Addr.add_lit]
def pF(P:Program)(o:Oper):Option (TypeId×Operand×Tmp):=
 match o.guard,o.dst,o.op with
 |none,some d,.slice t x none none none=>if(mj P t).isSome then some (t,x,d)else none
 |_,_,_=>none
theorem zw{P:Program}{o:Oper}{t:TypeId}{x:Operand}{d:Tmp}(h:pF P o=some (t,x,d)):o.guard=none∧o.dst=some d∧o.op=.slice t x none none none:=by
 unfold pF at h;split at h
 .rename_i h1 a b;split at h
  .cases h;exact⟨h1,a,b⟩
  .cases h
 .cases h
def pG(P:Program)(ops:List Oper)(i:Nat)(K:St->Prop)(st:St):Prop:=
 match ops[i]?with
 |some o=>match pF P o with
  |some (t,x,d)=>(gc st x∧(oI P t (mv st x)).2)∧K (st.put d (oI P t (mv st x)).1)
  |none=>eX P ops o K st
 |none=>False
mutual
def oJ(P:Program)(D:List Nat)(ops:List Oper)(K:St->Prop):Sch->St->Prop
  |.done,st=>K st
  |.take i r,st=>pG P ops i (oJ P D ops K r) st
  |.fork l,st=>nV P D ops K l st
def nV(P:Program)(D:List Nat)(ops:List Oper)(K:St->Prop):List (Nat×Sch)->St->Prop
  |[],_=>True
  |(i,r)::l,st=>cA P D ops i (oJ P D ops K r) st∧nV P D ops K l st
end
theorem Is{P:Program}{ops:Array Oper}{st:St}{i:Nat}{o:Oper}(ho:ops.toList[i]?=some o)(f:ib P o.op=true){K:St->Prop}(h:pG P ops.toList i K st){g:Gh}{a:Act}{w:World}(hs:Sim g st a w)(hd:ca g.N o.dst):
 ∃v,Yields P ops o v a∧∃st' g',K st'∧g.to g'∧Sim g' st' (a.put o.dst v) w:=by
 unfold pG at h;rw[ho]at h;simp only at h;split at h
 .rename_i t x d j;obtain⟨h1,b,c⟩:=zw j;obtain⟨v,l,k,e⟩:=FQ (st:=st) o t x c g a w hs h.1;refine⟨v,.inl ⟨by simp[Region.wanted,h1],l⟩,_,g,h.2,hs.refl_to,?_⟩;rw[b]at hd⊢;refine hs.put hd k e ?_;unfold oI;split<;>rfl
 .exact xd o f h hs hd
mutual
theorem xB{P:Program}{D:List Nat}{ops:Array Oper}{K:St->Prop}{Q:Exit->Act->World->Prop}(hsel:Region.noSelect ops=true)(hQp:∀c a w,¬Q (.panic c) a w):∀(S:Sch)(n:Nat)(listed:Array Bool)(_:jH P ops n listed S=true){st:St}(_:oJ P D ops.toList K S st){g:Gh}{a:Act}{w:World}(_:Sim g st a w)(_:cu g.N ops.toList=true)
    (_:∀st' g' a' w',K st'->g.to g'->Sim g' st' a' w'->Q .normal a' w'),wpAny P .any ops Q n listed a w
  |.done,n,listed,hb,st,h,g,a,w,hs,_,hQ=>by
    have hb':(Region.ready .any ops listed).isEmpty=true:=by cases n<;>simpa[jH]using hb
    simp only[oJ]at h
    exact wpAny_done (Xt.1 hb') (hQ st g a w h hs.refl_to hs) n
  |.take i r,0,listed,hb,st,h,g,a,w,hs,hd,hQ=>by simp[jH]at hb
  |.take i r,n+1,listed,hb,st,h,g,a,w,hs,hd,hQ=>by
    simp only[jH,S9]at hb
    obtain⟨⟨hb1,hb2⟩,hb3⟩:=hb
    simp only[oJ]at h
    cases ho:ops[i]?with
    |none=>rw[ho]at hb1;cases hb1
    |some o=>
      rw[ho]at hb1
      simp only[S9]at hb1
      have ho':ops.toList[i]?=some o:=by rw[S4];exact ho
      obtain⟨v,hy,st',g',h1,h2,h3⟩:=Is ho' hb1.1 h hs (dN hd ho')
      exact wpAny_take ho hsel hb1.2 hb2 (λc a w hq=>absurd hq (hQp c _ w)) hy (xB hsel hQp r n _ hb3 h1 h3 (by rw[h2.N];exact hd) λst2 g2 a2 w2 k2 t2 s2=>hQ st2 g2 a2 w2 k2 (h2.trans t2) s2)
  |.fork l,0,listed,hb,st,h,g,a,w,hs,hd,hQ=>by simp[jH]at hb
  |.fork l,n+1,listed,hb,st,h,g,a,w,hs,hd,hQ=>by
    simp only[jH,S9]at hb
    obtain⟨⟨hb1,hb2⟩,hb3⟩:=hb
    simp only[oJ]at h
    have hr:Region.ready .any ops listed=l.map (·.1):=by simpa using hb1
    refine wpAny_all hr (λe=>?_) λi hi=>zx hsel hQp l n listed hb3 h hs hd hQ i hi
    cases l with
    |nil=>simp at hb2
    |cons _ _=>cases e
theorem zx{P:Program}{D:List Nat}{ops:Array Oper}{K:St->Prop}{Q:Exit->Act->World->Prop}(hsel:Region.noSelect ops=true)(hQp:∀c a w,¬Q (.panic c) a w):∀(l:List (Nat×Sch))(n:Nat)(listed:Array Bool)(_:yP P ops n listed l=true){st:St}(_:nV P D ops.toList K l st){g:Gh}{a:Act}{w:World}(_:Sim g st a w)(_:cu g.N ops.toList=true)
    (_:∀st' g' a' w',K st'->g.to g'->Sim g' st' a' w'->Q .normal a' w'),∀i∈l.map (·.1),wpOp P ops Q i (wpAny P .any ops Q n (listed.setIfInBounds i true)) a w
  |[],n,listed,_,st,_,g,a,w,_,_,_,i,hi=>by cases hi
  |(i0,r)::l,n,listed,hb,st,h,g,a,w,hs,hd,hQ,i,hi=>by
    simp only[yP,S9]at hb
    simp only[nV]at h
    simp only[Tn,Tx]at hi
    rcases hi with e|hi
    · subst e
      have h1:=h.1
      simp only[cA]at h1
      unfold wpOp
      cases ho:ops[i]?with
      |none=>rw[S4,ho]at h1;exact h1.elim
      |some o=>
        rw[S4,ho]at h1
        have key:=nv (ops:=ops) o h1 hs (dN hd (by rw[S4];exact ho)) (K':=wpAny P .any ops Q n (listed.setIfInBounds i true)) (Q:=Q) λst' g' a' w' k' t' s'=>
          xB hsel hQp r n _ hb.1 k' s' (by rw[t'.N];exact hd) λst2 g2 a2 w2 k2 t2 s2=>hQ st2 g2 a2 w2 k2 (t'.trans t2) s2
        simp only
        split
        · rename_i hw;rw[SX hw]at key;exact .inl key
        · rename_i hw;rw[SU hw]at key;exact key
    · exact zx hsel hQp l n listed hb.2 h.2 hs hd hQ i hi
end
theorem aT.arr{P:Program}{k0:Nat}{ops:Array Oper}{K:St->Prop}{st:St}(D:List Nat)(S:Sch){ι:Type}(c:ι->St)(J:ι->Prop)(b:pn P ops S=true)(h:oJ P D ops.toList (λs=>∃i,J i∧ah k0 s (c i)) S st)(f:∀i,J i->K (c i)):aT P k0 ops K st:=by
 simp only[pn,S9]at b;refine .inr λg a w h0 hs hd Q hp j=>xB b.1 hp S _ _ b.2 h hs hd λst' g' d w' hk e s'=>?_;obtain⟨i,hj,k⟩:=hk;obtain⟨g2,m,l⟩:=k g' d w' (by rw[e.n0];exact h0) s';exact j _ g2 d w' (f i hj) (e.trans m) l
section
variable {P : Program} {D : List Nat} {ops : List Oper} {K : St -> Prop} {st : St}
@[simp] theorem OT:oJ P D ops K .done st=K st:=by simp only[oJ]
@[simp] theorem OU(i:Nat)(r:Sch):oJ P D ops K (.take i r) st=pG P ops i (oJ P D ops K r) st:=by simp only[oJ]
@[simp] theorem OV(l:List (Nat×Sch)):oJ P D ops K (.fork l) st=nV P D ops K l st:=by simp only[oJ]
@[simp] theorem OW:nV P D ops K [] st=True:=by simp only[nV]
@[simp] theorem NY(i:Nat)(r:Sch)(l:List (Nat×Sch)):nV P D ops K ((i,r)::l) st=(cA P D ops i (oJ P D ops K r) st∧nV P D ops K l st):=by simp only[nV]
end
attribute [simp] pG pF oI
end Go.AX
namespace Go.AX
def xC(stp:Nat->(St->Prop)->St->Prop)(C:Nat->Array Bool->St->Prop)(n:Nat)(st:St):List (Nat×Array Bool)->Prop
 |[]=>True
 |(i,l')::r=>stp i (C n l') st∧xC stp C n st r
structure WalkerM (P:Program) (k0:Nat) (ops:Array Oper) (stp stM:Nat->(St->Prop)->St->Prop) (K:St->Prop) (C:Nat->Array Bool->St->Prop):Prop where
  done:∀n l st,(Region.ready .any ops l).isEmpty=true->K st->C n l st
  weak:∀{n l st st1},C n l st1->ah k0 st st1->C n l st
  take:∀{n l st}(i l'),M7 P ops l i l'=true->stp i (C n l') st->C (n+1) l st
  fork:∀{n l st}(rs),M8 ops l rs=true->xC stM C n st rs->C (n+1) l st
theorem WalkerM.kp{P:Program}{k0:Nat}{ops:Array Oper}{stp stM:Nat->(St->Prop)->St->Prop}{K:St->Prop}{C:Nat->Array Bool->St->Prop}(a:WalkerM P k0 ops stp stM K C){n:Nat}{l:Array Bool}{st:St}{t1:List (Nat×SV)}{h1:List (List SV)}(hd:C n l ⟨t1,h1⟩)(h:M5 st.t t1)(b:st.h=h1):C n l st:=a.weak hd (b▸ah.slots h)
attribute [simp] xC
end Go.AX
namespace Go.AX
theorem aT.inv{P:Program}{k0:Nat}{ops:Array Oper}{K:St->Prop}{st:St}(D:List Nat)(I:Array Bool->St->Prop)
 (h0:I (Array.replicate ops.size false) st)
 (j:∀l s i,l.size=ops.size->I l s->i∈Region.ready .any ops l->∃A:St->Prop,cA P D ops.toList i A s∧∀s',A s'->I (l.setIfInBounds i true) s')
 (d:∀l s,l.size=ops.size->I l s->Region.ready .any ops l=[]->∃p,ah k0 s p∧K p):aT P k0 ops K st:=by
 refine .inr ?_;have key:∀n l s,l.size=ops.size->n+l.toList.countP id=ops.size->I l s->SD P k0 ops K n l s:=by
  intro n
  induction n with
  |zero=>
   intro l s e C x g a w z hs hd Q hp y;have m:Region.ready .any ops l=[]:=by
    unfold Region.ready;rw[US];intro i hi;have r:i<l.size:=by rw[e];exact Ug.1 hi
    have q:∀b∈l.toList,id b=true:=by
     rw[←XC];rw[T4]at C;rw[C,←e];exact TR.symm
    have:=q l[i] (W7.2 (Array.getElem_mem r));simp only[id]at this;simp[Array.getD,r,this]
   obtain⟨p,k,hk⟩:=d l s e x m;obtain⟨g2,v,u⟩:=k g a w z hs;exact wpAny_done m (y p g2 a w hk v u) 0
  |succ n S=>
   intro l s e C x g a w z hs hd Q hp y
   by_cases m:Region.ready .any ops l=[]
   .obtain⟨p,k,hk⟩:=d l s e x m;obtain⟨g2,v,u⟩:=k g a w z hs;exact wpAny_done m (y p g2 a w hk v u) _
   .refine wpAny_all rfl m λi hi=>?_;obtain⟨A,h1,B⟩:=j l s i e x hi;have f:=hi;unfold Region.ready at f;rw[TJ]at f;obtain⟨F,t⟩:=f;have h:i<l.size:=by rw[e];exact Ug.1 F
    simp only[S9,TU]at t;have G:l[i]=false:=by have:=t.1;simpa[Array.getD,h]using this
    have E:n+(l.setIfInBounds i true).toList.countP id=ops.size:=by
     rw[Wh,List.countP_set (by simpa using h)];have R:l.toList[i]'(by simpa using h)=false:=by simpa using G
     simp only[R,id,TM,Ul,UU];omega
    have H:(l.setIfInBounds i true).size=ops.size:=by simp[e]
    unfold cA at h1;unfold wpOp;cases ho:ops[i]?with
    |none=>rw[S4,ho]at h1;exact h1.elim
    |some o=>
     rw[S4,ho]at h1;have c:=nv (ops:=ops) o h1 hs (dN hd (by rw[S4];exact ho)) (K':=wpAny P .any ops Q n (l.setIfInBounds i true)) (Q:=Q) λst' g' M w' k' L s'=>
      S _ st' H E (B _ k') g' M w' (by rw[L.n0];exact z) s' (by rw[L.N];exact hd) Q hp λJ g2 O U T v u=>y J g2 O U T (L.trans v) u
     simp only;split
     .rename_i k;rw[SX k]at c;exact .inl c
     .rename_i k;rw[SU k]at c;exact c
 refine key _ _ _ (by simp) ?_ h0;simp[List.countP_replicate]
def cv(ops:Array Oper)(i:Nat):List Nat:=match ops[i]?with
 |some o=>(o.after.toList.filter λe=>Region.binds .any e).map (·.on)
 |none=>[]
theorem lC{ops:Array Oper}{l:Array Bool}{i:Nat}(h:i∈Region.ready .any ops l):i<ops.size∧l.getD i true=false∧∀j∈cv ops i,l.getD j false=true:=by
 unfold Region.ready at h;rw[TJ]at h;obtain⟨h1,a⟩:=h;have hi:=Ug.1 h1;rw[Ti hi]at a;simp only[TZ,TC,S9,TU]at a;refine⟨hi,a.1,λj hj=>?_⟩;unfold cv at hj;rw[Ti hi]at hj;simp only[S8,TJ]at hj;obtain⟨e,⟨b,c⟩,rfl⟩:=hj;have:=a.2;rw[WE]at this;have:=this e (W7.1 b);simpa[c]using this
def It(ops:Array Oper):Nat->Nat->Nat->Bool
 |0,_,_=>false
 |n+1,i,j=>(cv ops j).any λe=>e==i||It ops n i e
structure Tb where
  T:List (Option (Nat×SV))
  B:List (Nat×SV)
  dp:List (List Nat)
  ws:List Nat
  lv:List (List Nat)
  kl:List (Nat×Nat)
  H:Nat->List (List SV)
namespace Tb
def dpA(b:Tb)(i:Nat):List Nat:=b.dp.getD i []
def lvA(b:Tb)(i:Nat):List Nat:=b.lv.getD i []
def dst(b:Tb)(i:Nat):Option Nat:=((b.T.getD i none).map (·.1))
def slots(b:Tb):List Nat:=b.T.filterMap λo=>o.map (·.1)
def okB(b:Tb)(ops:Array Oper):Bool:=
 (List.range ops.size).all (λi=>(b.dpA i).all λj=>(cv ops i).contains j||It ops 3 j i)
 &&(List.range (b.ws.length -1)).all (λk=>(cv ops (b.ws.getD (k+1) 0)).contains (b.ws.getD k 0))
 && (List.range ops.size).all (λ i => (List.range (b.ws.length + 1)).all λ m =>
  (b.lvA i).contains m||(List.range b.ws.length).any λk=>if k<m then b.ws.getD k 0==i||It ops 3 i (b.ws.getD k 0)else It ops 3 (b.ws.getD k 0) i)
 &&(List.range ops.size).all (λi=>(b.dpA i).all λj=>b.kl.all λq=>b.dst j !=some q.2||q.1==i||(cv ops q.1).contains i||(cv ops j).contains q.1)
 &&b.ws.all (λw=>decide (w<ops.size))
 &&(List.range ops.size).all (λi=>(cv ops i).all λj=>decide (j<i))
 &&decide (b.T.length<=ops.size)&&decide b.ws.Nodup
end Tb
def nI(l:Array Bool)(i:Nat):Bool:=l.getD i false
theorem D5{l:Array Bool}{i:Nat}(hi:i<l.size)(j:Nat):nI (l.setIfInBounds i true) j=if i=j then true else nI l j:=by
 unfold nI;simp only[Tg,T6]
 by_cases e:i=j
 .subst e;simp[hi]
 .simp[e]
def a8(t:List (Nat×SV)):List (Nat×SV)->Prop
 |[]=>True
 |p::r=>look t p.1=p.2∧a8 t r
def uF(t:List (Nat×SV)):Option (Nat×SV)->Prop
 |none=>True
 |some p=>look t p.1=p.2
def Iu(f:Nat->Prop):List Nat->Prop
 |[]=>True
 |m::r=>f m∧Iu f r
def Bd(T:List (Option (Nat×SV)))(t:List (Nat×SV)):List Nat->Prop
 |[]=>True
 |j::r=>uF t (T.getD j none)∧Bd T t r
def vN(kl:List (Nat×Nat))(i:Nat)(t a:List (Nat×SV)):Nat->List (Option (Nat×SV))->Prop
 |_,[]=>True
 |j,none::r=>vN kl i t a (j+1) r
 |j,some p::r=>(j=i∨kl.contains (i,p.1)=true∨(look t p.1=p.2->look a p.1=p.2))∧vN kl i t a (j+1) r
theorem D6{kl:List (Nat×Nat)}{i:Nat}{t a:List (Nat×SV)}:∀(T:List (Option (Nat×SV)))(n:Nat),vN kl i t a n T->∀j p,T.getD j none=some p->n+j≠i->(i,p.1)∉kl->look t p.1=p.2->look a p.1=p.2
 |[],_,_,j,p,h,_,_,_=>by simp at h
 |x::r,n,h,j,p,hj,hi,hk,b=>by
  cases j with
  |zero=>
   rw[UQ]at hj;subst hj;rcases h.1 with e|e|e
   .exact absurd e hi
   .exact absurd (VP.1 e) hk
   .exact e b
  |succ j=>
   rw[Vb]at hj;have h':vN kl i t a (n+1) r:=by
    cases x with
    |none=>exact h
    |some _=>exact h.2
   exact D6 r (n+1) h' j p hj (by omega) hk b
def Iv(kl:List (Nat×Nat))(t:List (Nat×SV)):List (Option (Nat×SV))->Prop
 |[]=>True
 |none::r=>Iv kl t r
 |some p::r=>((kl.any λq=>q.2==p.1)=true∨look t p.1=p.2)∧Iv kl t r
theorem xD{kl:List (Nat×Nat)}{t:List (Nat×SV)}:∀{T:List (Option (Nat×SV))},(∀p,some p∈T->(∀q∈kl,q.2≠p.1)->look t p.1=p.2)->Iv kl t T
 |[],_=>trivial
 |none::r,h=>xD (T:=r) λp hp=>h p (Tl _ hp)
 |some p::r,h=>by
  refine⟨?_,xD (T:=r) λp hp=>h p (Tl _ hp)⟩;cases e:kl.any λq=>q.2==p.1
  .right;refine h p (To ..) λq b a=>?_;have:=UE.1 e q b;simp[a]at this
  .exact .inl rfl
theorem bQ(q:Pos->Bool)(t:List (Nat×SV))(s:Nat):look (t.map λp=>(p.1,ct q p.2)) s=ct q (look t s):=aW q t s
theorem D7{T:List (Option (Nat×SV))}{t:List (Nat×SV)}:∀{L:List Nat},Bd T t L↔∀j∈L,∀p,T.getD j none=some p->look t p.1=p.2
 |[]=>by simp[Bd]
 |j::r=>by
  rw[Bd,D7];simp only[Tx,forall_eq_or_imp];refine and_congr ⟨λh p e=>by rw[e]at h;exact h,λh=>?_⟩ Iff.rfl;cases e:T.getD j none with
  |none=>trivial
  |some p=>exact h p e
theorem jW{t:List (Nat×SV)}:∀{L:List (Nat×SV)},a8 t L↔∀p∈L,look t p.1=p.2
 |[]=>by simp[a8]
 |p::r=>by rw[a8,jW];simp
theorem xE{f:Nat->Prop}:∀{L:List Nat},Iu f L↔∀m∈L,f m
 |[]=>by simp[Iu]
 |p::r=>by rw[Iu,xE];simp
namespace Tb
def postL(b:Tb)(i m:Nat)(t:List (Nat×SV))(s:St):Prop:=s.h=b.H (if b.ws.contains i=true then m+1 else m)∧uF s.t (b.T.getD i none)∧a8 s.t b.B∧vN b.kl i t s.t 0 b.T
def steps(b:Tb)(P:Program)(D:List Nat)(ops:List Oper):List Oper->Nat->Prop
 |[],_=>True
 |o::r,i=>Iu (λm=>∀t,a8 t b.B->Bd b.T t (b.dpA i)->d8 P D ops o (b.postL i m t) ⟨t,b.H m⟩) (b.lvA i)∧steps b P D ops r (i+1)
theorem steps_iff{P:Program}{D:List Nat}{ops:List Oper}{b:Tb}:∀{r:List Oper}{n:Nat},steps b P D ops r n->∀i o,r[i]?=some o->∀m∈b.lvA (n+i),∀t,a8 t b.B->Bd b.T t (b.dpA (n+i))->d8 P D ops o (b.postL (n+i) m t) ⟨t,b.H m⟩
 |[],_,_,i,o,h=>by simp at h
 |x::r,n,h,i,o,ho=>by
  cases i with
  |zero=>simp only[TQ,TF]at ho;subst ho;exact xE.1 h.1
  |succ i=>
   have:=steps_iff h.2 i o (by simpa using ho)
   rwa [show n+1+i=n+(i+1) by omega]at this
end Tb
structure Tb.Inv (b:Tb) (ops:Array Oper) (l:Array Bool) (s:St):Prop where
  clo:∀i,nI l i=true->∀j∈cv ops i,nI l j=true
  lev:∃m,m<=b.ws.length∧(∀k,k<b.ws.length->(nI l (b.ws.getD k 0)=true↔k<m))∧s.h=b.H m
  bas:∀p∈b.B,look s.t p.1=p.2
  tab:∀j p,b.T.getD j none=some p->nI l j=true->(∀q∈b.kl,q.2=p.1->nI l q.1=false∨q.1∈cv ops j)->look s.t p.1=p.2
theorem Tb.post_of{b:Tb}{i m:Nat}{t:List (Nat×SV)}{s:St}(h:b.postL i m t s):
 s.h=b.H (if i∈b.ws then m+1 else m)∧(∀p,b.T.getD i none=some p->look s.t p.1=p.2)∧(∀p∈b.B,look s.t p.1=p.2)∧
 ∀j p,b.T.getD j none=some p->j≠i->(i,p.1)∉b.kl->look t p.1=p.2->look s.t p.1=p.2:=by
 obtain⟨d,c,a3,a4⟩:=h;refine⟨?_,λp hp=>?_,jW.1 a3,λj p hp e a f=>?_⟩
 .rw[d];simp only[VP]
 .rw[hp]at c;exact c
 .exact D6 b.T 0 a4 j p hp (by omega) a f
structure Tb.Ok (b:Tb) (ops:Array Oper):Prop where
  nd:b.ws.Nodup
  c1:∀i,i<ops.size->∀j∈b.dpA i,j∈cv ops i∨It ops 3 j i=true
  c2:∀k,k+1<b.ws.length->b.ws.getD k 0∈cv ops (b.ws.getD (k+1) 0)
  c3:∀i,i<ops.size->∀m,m<=b.ws.length->m∈b.lvA i∨∃k,k<b.ws.length∧((k<m∧(b.ws.getD k 0=i∨It ops 3 i (b.ws.getD k 0)=true))∨(¬k<m∧It ops 3 (b.ws.getD k 0) i=true))
  c4:∀i,i<ops.size->∀j∈b.dpA i,∀q∈b.kl,b.dst j≠some q.2∨q.1=i∨i∈cv ops q.1∨q.1∈cv ops j
  c5:∀w∈b.ws,w<ops.size
  c6:∀i,i<ops.size->∀j∈cv ops i,j<i
  c7:b.T.length<=ops.size
  hwk:∀k,k<b.ws.length->b.ws.getD k 0∈b.ws
theorem Tb.ok{b:Tb}{ops:Array Oper}(a:b.okB ops=true):b.Ok ops:=by
 unfold Tb.okB at a;simp only[S9]at a;obtain⟨⟨⟨⟨⟨⟨⟨c1,c2⟩,c3⟩,c4⟩,c5⟩,c6⟩,c7⟩,e⟩:=a;have c7:b.T.length<=ops.size:=by simpa using c7
 have d:b.ws.Nodup:=by simpa using e
 have c1:∀i,i<ops.size->∀j∈b.dpA i,j∈cv ops i∨It ops 3 j i=true:=λi hi j hj=>by
  have:=TE.1 c1 i (Ug.2 hi);simpa using TE.1 this j hj
 have c2:∀k,k+1<b.ws.length->b.ws.getD k 0∈cv ops (b.ws.getD (k+1) 0):=λk hk=>by
  have:=TE.1 c2 k (Ug.2 (by omega));simpa using this
 have c3:∀i,i<ops.size->∀m,m<=b.ws.length->m∈b.lvA i∨∃k,k<b.ws.length∧((k<m∧(b.ws.getD k 0=i∨It ops 3 i (b.ws.getD k 0)=true))∨(¬k<m∧It ops 3 (b.ws.getD k 0) i=true)):=λi hi m l=>by
  have:=TE.1 (TE.1 c3 i (Ug.2 hi)) m (Ug.2 (by omega));rw[Um]at this;rcases this with h|h
  .exact .inl (by simpa using h)
  .right;obtain⟨k,hk,h⟩:=UL.1 h;refine⟨k,Ug.1 hk,?_⟩
   by_cases c:k<m
   .rw[SX c]at h;exact .inl ⟨c,by simpa using h⟩
   .rw[SU c]at h;exact .inr ⟨c,by simpa using h⟩
 have c4:∀i,i<ops.size->∀j∈b.dpA i,∀q∈b.kl,b.dst j≠some q.2∨q.1=i∨i∈cv ops q.1∨q.1∈cv ops j:=λi hi j hj q f=>by
  have:=TE.1 (TE.1 (TE.1 c4 i (Ug.2 hi)) j hj) q f;simp only[Um,bne_iff_ne,WG,VP]at this;rcases this with((h|h)|h)|h
  .exact .inl h
  .exact .inr (.inl h)
  .exact .inr (.inr (.inl h))
  .exact .inr (.inr (.inr h))
 have c5:∀w∈b.ws,w<ops.size:=λw g=>by simpa using TE.1 c5 w g
 have c6:∀i,i<ops.size->∀j∈cv ops i,j<i:=λi hi j hj=>by
  have:=TE.1 (TE.1 c6 i (Ug.2 hi)) j hj;simpa using this
 have hwk:∀k,k<b.ws.length->b.ws.getD k 0∈b.ws:=λk hk=>by rw[SS,SR hk];exact S5 hk
 exact⟨d,c1,c2,c3,c4,c5,c6,c7,hwk⟩
theorem Tb.Inv.reach{b:Tb}{ops:Array Oper}{l:Array Bool}{s:St}(c:b.Inv ops l s):∀(n i j:Nat),(∀e∈cv ops j,nI l e=true)->It ops n i j=true->nI l i=true
 |0,_,_,_,h=>by cases h
 |n+1,i,j,hj,h=>by
  obtain⟨e,d,h⟩:=UL.1 h;rw[Um]at h;rcases h with h|h
  .rw[←WG.1 h];exact hj e d
  .exact c.reach n i e (λe' a=>c.clo e (hj e d) e' a) h
section
variable {b : Tb} {ops : Array Oper} {l : Array Bool} {s : St} {i : Nat}
theorem Tb.now(ho:b.Ok ops)(E:l.size=ops.size)(d:b.Inv ops l s)(A:i∈Region.ready .any ops l):∃m,m∈b.lvA i∧s.h=b.H m∧a8 s.t b.B∧Bd b.T s.t (b.dpA i)∧(m<=b.ws.length∧∀k,k<b.ws.length->(nI l (b.ws.getD k 0)=true↔k<m)):=by
 obtain⟨y,c1,c2,c3,c4,c5,c6,c7,hwk⟩:=ho;obtain⟨o,D,r3⟩:=lC A;have c:nI l i=false:=by
  unfold nI;have g:i<l.size:=by omega
  simpa[Array.getD,g]using D
 have a:∀j∈cv ops i,nI l j=true:=r3;obtain⟨m,r,n,C⟩:=d.lev;have x:m∈b.lvA i:=by
  rcases c3 i o m r with h|⟨k,hk,⟨h1,f⟩|⟨h1,f⟩⟩
  .exact h
  .have ht:=(n k hk).2 h1;rcases f with f|f
   .rw[f,c]at ht;cases ht
   .have:=d.reach 3 i _ (λe v=>d.clo _ ht e v) f;rw[c]at this;cases this
  .exact absurd ((n k hk).1 (d.reach 3 _ i a f)) h1
 have u:∀j∈b.dpA i,∀p,b.T.getD j none=some p->look s.t p.1=p.2:=λj hj p hp=>by
  refine d.tab j p hp ((c1 i o j hj).elim (a j) λh=>d.reach 3 j i a h) λq z e=>?_;rcases c4 i o j hj q z with h|h|h|h
  .exact absurd (by unfold Tb.dst;rw[hp,e];rfl) h
  .rw[h];exact .inl c
  .cases w:nI l q.1
   .exact .inl rfl
   .have:=d.clo _ w i h;rw[c]at this;cases this
  .exact .inr h
 exact⟨m,x,C,jW.2 d.bas,D7.2 u,r,n⟩
theorem Tb.next(ho:b.Ok ops)(N:l.size=ops.size)(y:b.Inv ops l s)(H:i∈Region.ready .any ops l){m:Nat}(E:m<=b.ws.length∧∀k,k<b.ws.length->(nI l (b.ws.getD k 0)=true↔k<m)){s':St}(hp:b.postL i m s.t s'):b.Inv ops (l.setIfInBounds i true) s':=by
 obtain⟨B,c1,c2,c3,c4,c5,c6,c7,hwk⟩:=ho;obtain⟨I,w⟩:=E;obtain⟨O,M,r3⟩:=lC H;have n:nI l i=false:=by
  unfold nI;have z:i<l.size:=by omega
  simpa[Array.getD,z]using M
 have f:∀j∈cv ops i,nI l j=true:=r3;obtain⟨x,J,K,L⟩:=Tb.post_of hp;have a:∀j,nI (l.setIfInBounds i true) j=if i=j then true else nI l j:=D5 (by omega);refine⟨λC g j hj=>?_,?_,K,λj p hj u hk=>?_⟩
 .rw[a]at g⊢
  by_cases e:i=j
  .rw[SX e]
  .rw[SU e]
   by_cases c:i=C
   .rw[←c]at hj;exact f j hj
   .rw[SU c]at g;exact y.clo C g j hj
 .by_cases v:i∈b.ws
  .rw[SX v]at x;obtain⟨k,hk,e⟩:=Tc v;have e':b.ws.getD k 0=i:=by rw[SS,SR hk];exact e
   have D:¬k<m:=λh=>by have:=(w k hk).2 h;rw[e',n]at this;cases this
   have o:k=m:=by
    apply Ts;intro F;have h1:=c2 (k -1) (by omega);rw[show k -1+1=k by omega,e']at h1;have:=(w (k -1) (by omega)).1 (f _ h1);omega
   subst o;refine⟨k+1,by omega,λk' d=>?_,x⟩;rw[a]
   by_cases c:i=b.ws.getD k' 0
   .rw[SX c];have:k'=k:=by
     rw[SS,SR d,TC,←e]at c;have r:=TB.1 B;rcases UD k k' with q|q|q
     .exact absurd c (r k k' hk d q)
     .exact q.symm
     .exact absurd c.symm (r k' k d hk q)
    simp[this]
   .rw[SU c,w k' d];have:k'≠k:=λh=>c (by rw[h,e']);omega
  .rw[SU v]at x;refine⟨m,I,λk hk=>?_,x⟩;rw[a,SU (λe:i=b.ws.getD k 0=>v (e▸hwk k hk))];exact w k hk
 .rw[a]at u
  by_cases e:i=j
  .subst e;exact J p hj
  .rw[SU e]at u;have A:(i,p.1)∉b.kl:=λh=>by
    rcases hk (i,p.1) h rfl with this|this
    .rw[a,SX rfl]at this;cases this
    .have:=y.clo j u i this;rw[n]at this;cases this
   refine L j p hj (λh=>e h.symm) A (y.tab j p hj u λq G c=>?_);refine(hk q G c).imp (λthis=>?_) id;rw[a]at this;split at this
   .cases this
   .exact this
theorem Tb.fin(ho:b.Ok ops)(E:l.size=ops.size)(g:b.Inv ops l s)(z:Region.ready .any ops l=[]):(∀j,j<ops.size->nI l j=true)∧s.h=b.H b.ws.length∧a8 s.t b.B∧Iv b.kl s.t b.T:=by
 obtain⟨w,c1,c2,c3,c4,c5,c6,c7,hwk⟩:=ho;have c:∀n j,j<n->j<ops.size->nI l j=true:=by
  intro n
  induction n with
  |zero=>intro j h;omega
  |succ n A=>
   intro j hj a;apply Ts;intro hn;have:j∈Region.ready .any ops l:=by
    unfold Region.ready;rw[TJ];refine⟨Ug.2 a,?_⟩;have d:j<l.size:=by omega
    have i:l[j]=false:=by
     unfold nI at hn;simpa[Array.getD,d]using hn
    rw[Ti a];simp only[TZ,TC,S9,TU];refine⟨by simp[Array.getD,d,i],?_⟩;rw[WE];intro e u;cases r:Region.binds .any e
    .rfl
    .have hd:e.on∈cv ops j:=by
      unfold cv;rw[Ti a];exact S8.2 ⟨e,TJ.2 ⟨W7.2 u,r⟩,rfl⟩
     have h1:=c6 j a _ hd;have k:=A e.on (by omega) (by omega);unfold nI at k;simp[k]
   rw[z]at this;cases this
 have f:=λj hj=>c (j+1) j (VA j) hj;obtain⟨m,F,C,D⟩:=g.lev;have v:m=b.ws.length:=by
  apply Ts;intro x;have:=(C m (by omega)).1 (f _ (c5 _ (hwk m (by omega))));omega
 subst v;exact⟨f,D,jW.2 g.bas,xD λp hp hk=>by
  obtain⟨j,hj,e⟩:=Tc hp;exact g.tab j p (by rw[SS,SR hj,e];rfl) (f j (Uk hj c7)) λq y o=>absurd o (hk q y)⟩
theorem Tb.beg{t:List (Nat×SV)}(a:a8 t b.B):b.Inv ops (Array.replicate ops.size false) ⟨t,b.H 0⟩:=by
 have h0:∀i,nI (Array.replicate ops.size false) i=false:=λi=>by
  unfold nI;simp only[Tg,UK];split<;>rfl
 exact⟨λi hi=>(by rw[h0]at hi;cases hi),⟨0,Tf _,λk _=>by rw[h0];simp,rfl⟩,jW.1 a,λj p _ hj=>(by rw[h0]at hj;cases hj)⟩
end
theorem cA.of{P:Program}{D:List Nat}{ops:Array Oper}{i:Nat}{K:St->Prop}{s:St}(hi:i<ops.size)(h:d8 P D ops.toList ops[i] K s):cA P D ops.toList i K s:=by
 unfold cA;rw[S4,Ti hi];exact h
theorem aT.tab{P:Program}{k0:Nat}{ops:Array Oper}{K:St->Prop}{st:St}(D:List Nat)(b:Tb)(o:St)(k:b.okB ops=true)
 (r:a8 st.t b.B) (u:st.h=b.H 0)
 (a:b.steps P D ops.toList ops.toList 0)
 (c:∀t,a8 t b.B->Iv b.kl t b.T->ah k0 ⟨t,b.H b.ws.length⟩ o) (v:K o):aT P k0 ops K st:=by
 have ho:=Tb.ok k;refine aT.inv D (λl s=>b.Inv ops l s) ?_ ?_ ?_
 .have:=Tb.beg (ops:=ops) r;rw[←u]at this;exact this
 .intro l s i g f d;obtain⟨m,w,n,h1,j,q⟩:=Tb.now ho g f d;have p:=(lC d).1;have e:=Tb.steps_iff a i ops[i] (by rw[S4,Ti p]) m (by rw[T4];exact w) s.t h1 (by rw[T4];exact j);rw[T4,←n]at e;exact⟨_,cA.of p e,λs' hp=>Tb.next ho g f d q hp⟩
 .intro l s g f d;obtain⟨_,n,h1,j⟩:=Tb.fin ho g f d;have:=c s.t h1 j;rw[←n]at this;exact⟨o,this,v⟩
def Tb.wth(b:Tb)(k:Nat)(T:List (Option (Nat×SV)))(H:Nat->List (List SV)):Tb:=⟨T,b.B,b.dp,b.ws,b.lv,b.kl,λm=>if m<=k then b.H m else H m⟩
def QN(dl:List Nat):Nat->List (Option (Nat×SV))->List (Option (Nat×SV))->Prop
 |j,x::r,y::a=>(dl.contains j=true∨x=y)∧QN dl (j+1) r a
 |_,[],[]=>True
 |_,_,_=>False
theorem D8{dl:List Nat}:∀{T T':List (Option (Nat×SV))}{n:Nat},QN dl n T T'->∀j,n+j∉dl->T'.getD j none=T.getD j none
 |[],[],_,_,_,_=>rfl
 |x::r,y::a,n,h,j,hj=>by
  cases j with
  |zero=>
   rcases h.1 with e|e
   .exact absurd (VP.1 e) hj
   .rw[UQ,UQ,e]
  |succ j=>
   rw[Vb,Vb];exact D8 h.2 j (by rwa [show n+1+j=n+(j+1) by omega])
 |[],_::_,_,h,_,_=>h.elim
 |_::_,[],_,h,_,_=>h.elim
def Tb.steps2{ι:Type}(b:Tb)(T:ι->List (Option (Nat×SV)))(H:ι->Nat->List (List SV))(J:ι->Prop)(w k:Nat)(P:Program)(D:List Nat)(ops:List Oper):List Oper->Nat->Prop
 |[],_=>True
 | o :: r, i => Iu (λ m => ∀ t, a8 t b.B -> if m <= k then Bd b.T t (b.dpA i) -> d8 P D ops o (λ s => if i = w then ∃ y, J y ∧ (b.wth k (T y) (H y)).postL i m t s else b.postL i m t s) ⟨t, b.H m⟩
  else∀y,J y->Bd (T y) t (b.dpA i)->d8 P D ops o ((b.wth k (T y) (H y)).postL i m t) ⟨t,H y m⟩) (b.lvA i)∧steps2 b T H J w k P D ops r (i+1)
theorem Tb.steps2_iff {ι : Type} {b : Tb} {T : ι -> List (Option (Nat × SV))} {H : ι -> Nat -> List (List SV)} {J : ι -> Prop} {w k : Nat} {P : Program} {D : List Nat} {ops : List Oper} : ∀ {r : List Oper} {n : Nat}, b.steps2 T H J w k P D ops r n -> ∀ i o, r[i]? = some o -> ∀ m ∈ b.lvA (n + i), ∀ t, a8 t b.B -> if m <= k then Bd b.T t (b.dpA (n + i)) -> d8 P D ops o (λ s => if n + i = w then ∃ y, J y ∧ (b.wth k (T y) (H y)).postL (n + i) m t s else b.postL (n + i) m t s) ⟨t, b.H m⟩
      else∀y,J y->Bd (T y) t (b.dpA (n+i))->d8 P D ops o ((b.wth k (T y) (H y)).postL (n+i) m t) ⟨t,H y m⟩
  |[],_,_,i,o,h=>by simp at h
  |x::r,n,h,i,o,ho=>by
    cases i with
    |zero=>simp only[TQ,TF]at ho;subst ho;exact xE.1 h.1
    |succ i=>
      have:=steps2_iff h.2 i o (by simpa using ho)
      rwa [show n+1+i=n+(i+1) by omega]at this
theorem aT.tab2{P:Program}{k0:Nat}{ops:Array Oper}{K:St->Prop}{st:St}{ι:Type}(D:List Nat)(b:Tb)(T:ι->List (Option (Nat×SV)))(H:ι->Nat->List (List SV))(J:ι->Prop)(w k:Nat)(dl:List Nat)
 (Q:b.okB ops=true) (F:∀y,(b.wth k (T y) (H y)).okB ops=true) (U:b.ws[k]?=some w) (L:dl.all (λj=>j==w||(cv ops j).contains w)=true)
 (Y:∀y,QN dl 0 b.T (T y)) (W:a8 st.t b.B) (X:st.h=b.H 0) (f:b.steps2 T H J w k P D ops.toList ops.toList 0)
 (A:∀y,J y->∀t,a8 t b.B->Iv b.kl t (T y)->∃I,ah k0 ⟨t,H y b.ws.length⟩ I∧K I):aT P k0 ops K st:=by
 have ho:=Tb.ok Q;have n:=λy=>Tb.ok (F y);obtain⟨u,N⟩:=SQ.1 U;have E:b.ws.getD k 0=w:=by rw[SS,U];rfl
 have R:w<ops.size:=ho.c5 w (N▸S5 u);refine aT.inv D (λl s=>if nI l w=true then∃y,J y∧(b.wth k (T y) (H y)).Inv ops l s else b.Inv ops l s) ?_ ?_ ?_
 .have:=Tb.beg (ops:=ops) W;rw[←X]at this;rw[SU]
  .exact this
  .unfold nI;simp only[Tg,UK];split<;>simp
 .intro l s i r c o;have G:=(lC o).1;have d:∀j,nI (l.setIfInBounds i true) j=if i=j then true else nI l j:=D5 (by omega)
  by_cases hd:nI l w=true
  .rw[SX hd]at c;obtain⟨y,hy,c⟩:=c;obtain⟨m,O,x,h1,z,q⟩:=Tb.now (n y) r c o;have v:k<m:=(q.2 k u).1 (by rw[show(b.wth k (T y) (H y)).ws=b.ws from rfl,E];exact hd);have a:=Tb.steps2_iff f i ops[i] (by rw[S4,Ti G]) m (by rw[T4];exact O) s.t h1;rw[SU (by omega),T4]at a;have a:=a y hy z;rw[show H y m=(b.wth k (T y) (H y)).H m by unfold Tb.wth;simp only;rw[SU (by omega)],←x]at a;refine⟨_,cA.of G a,λs' hp=>?_⟩;rw[SX (by rw[d,hd];split<;>rfl)];exact⟨y,hy,Tb.next (n y) r c o q hp⟩
  .rw[SU hd]at c;obtain⟨m,O,x,h1,z,q⟩:=Tb.now ho r c o;have v:m<=k:=UF λh=>hd (E▸(q.2 k u).2 h);have a:=Tb.steps2_iff f i ops[i] (by rw[S4,Ti G]) m (by rw[T4];exact O) s.t h1;rw[SX v,T4]at a;have a:=a z;rw[←x]at a;refine⟨_,cA.of G a,λs' hp=>?_⟩
   by_cases g:i=w
   .rw[SX g]at hp;obtain⟨y,hy,hp⟩:=hp;rw[SX (by rw[d,SX g])];refine⟨y,hy,Tb.next (n y) r ?_ o q hp⟩;refine⟨c.clo,⟨m,q.1,q.2,by rw[x];unfold Tb.wth;simp only;rw[SX v]⟩,c.bas,λj p hj M hk=>c.tab j p ?_ M hk⟩;rw[←D8 (Y y) j]
    .exact hj
    .intro C;rw[T4]at C;have:=TE.1 L j C;rw[Um]at this;rcases this with e|e
     .exact hd ((WG.1 e)▸M)
     .exact hd (c.clo j M w (VP.1 e))
   .rw[SU g]at hp;rw[SU (by rw[d,SU g];exact hd)];exact Tb.next ho r c o q hp
 .intro l s r c o
  by_cases hd:nI l w=true
  .rw[SX hd]at c;obtain⟨y,hy,c⟩:=c;obtain⟨_,x,h1,z⟩:=Tb.fin (n y) r c o;obtain⟨I,S,V⟩:=A y hy s.t h1 z;refine⟨I,?_,V⟩;have e:(b.wth k (T y) (H y)).H (b.wth k (T y) (H y)).ws.length=H y b.ws.length:=by unfold Tb.wth;simp only;rw[SU (by omega)]
   rw[e]at x;rw[←x]at S;exact S
  .rw[SU hd]at c;exact absurd ((Tb.fin ho r c o).1 w R) hd
end Go.AX