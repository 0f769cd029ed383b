/-
  AX, part Ap: a slice of one's own becomes a block; append onto a slice of a block; regions by what is carried out.
  AX, part Aq: regions that draw their order, where appends write blocks in place, or make new ones.
  AX, part Ar: slices of arrays that lie in a block, in regions that draw their order.
  AX, part As: regions that draw their order, by what is carried out, where appends write blocks in place.
  AX: drawn regions by a table: each operation once.
-/
import Derived.Test.YtepodadinenmnaaGreatAxIs
namespace Go.AX
def Pw{ι:Type}(k0:Nat)(st:St)(S:ι->St):Prop:=∀g a w,g.n0<=k0->Sim g st a w->∃g' i,g.to g'∧Sim g' (S i) a w
theorem lU.weak{P:Program}{k0:Nat}{ops:Array Oper}{K:St->Prop}{st:St}{ι:Type}(S:ι->St)(d:Pw k0 st S)(h:∀i,lU P k0 ops K (S i)):lU P k0 ops K st:=λg a w h0 hs hd Q c=>by
 obtain⟨g',i,t,s'⟩:=d g a w h0 hs;exact h i g' a w (by rw[t.n0];exact h0) s' (by rw[t.N];exact hd) Q λst' g2 b w' hk f e=>c st' g2 b w' hk (t.trans f) e
theorem lU.ops{P:Program}{k0:Nat}{ops:Array Oper}{K:St->Prop}{st:St}(h:jL P ops.toList K ops.toList st):lU P k0 ops K st:=λ_ _ _ _ hs hd _ a=>wx ops.toList h hs hd a
theorem ay.flat{g:Gh}{e:Nat}:∀{rows:List (List PV)}{vs:List Value},ay g e rows vs->ak g rows.flatten vs
 |[],vs,h=>h
 |row::rows,vs,⟨c,d,h1,_,a,b⟩=>by
  subst h1;rw[Un];exact ak.append a (ay.flat b)
theorem ak.bots{g:Gh}:∀(vs:List Value),ak g (List.replicate vs.length PV.bot) vs
 |[]=>rfl
 |v::vs=>⟨v,vs,rfl,trivial,ak.bots vs⟩
theorem Sim.adoptS{g:Gh}{st:St}{a:Act}{w:World}(h:Sim g st a w){s e:Nat}{nw:Bool}{rows:List (List PV)}(hlk:look st.t s=.own nw e rows)(hne:rows≠[]):
    ∃g' cap,g.to g'∧rows.length<=cap∧Sim g' ⟨(s,.pv (.bsl st.h.length e 0 rows.length cap))::st.t,st.h++[(rows.flatten++List.replicate ((cap -rows.length)*e) PV.bot).map SV.pv]⟩ a w:=by
  obtain⟨bl,hb⟩:=h.own
  have hfs:=hb.slots s
  rw[hlk]at hfs
  rcases hfs with⟨_,e1,_⟩|⟨c,hbc,cap,arr,T,vs,e1,hcell,e3,⟨e4,e4',hone⟩,e5,e6,e7⟩
  · exact absurd e1 hne
  obtain⟨rest,hrest⟩:=e6
  have hvl:=e5.length
  have hal:arr.toList.length=cap*e:=by rw[Sm];exact e3
  have hrl:rest.length=(cap -rows.length)*e:=by
    rw[←hrest,RF,hvl]at hal
    rw[Nat.sub_mul];omega
  obtain⟨ps,hps⟩:∃ps,ps=rows.flatten++List.replicate ((cap -rows.length)*e) PV.bot:=⟨_,rfl⟩
  have hfit:ak g ps arr.toList:=by
    rw[hps,←hrest,←hrl]
    exact ak.append e5.flat (ak.bots rest)
  obtain⟨s0,bl0,hb0,_,_,hfree⟩:=h.drop hb (.slot s)
  obtain⟨f1,f2,f3,f4⟩:=hfree c hbc
  obtain⟨g',hg'⟩:∃g':Gh,g'={g with n:=g.n+1,μ:=λb=>if b=g.n then c else g.μ b}:=⟨_,rfl⟩
  have hle:g.le g':=by subst hg';exact⟨λ_ _ h=>h,Ry _,Tv _,λb hb=>Rw (by omega)⟩
  have hn:=h.n
  refine⟨g',cap,by subst hg';exact⟨λ_ _ h=>h,rfl,rfl,rfl,rfl,rfl,Sb h.n0 (Tv _),λb hbn=>Rw (by have:=h.n0;omega),λ_ _ h=>h⟩,e4,?_⟩
  rw[←hps]
  clear hps
  have hslot:∀u,u≠s->look ((s,SV.pv (.bsl st.h.length e 0 rows.length cap))::st.t) u=look ((s,SV.pv .bot)::st.t) u:=λu hu=>by simp only[look];rw[Rw (UK hu),Rw (UK hu)]
  have hslot0:look ((s,SV.pv (.bsl st.h.length e 0 rows.length cap))::st.t) s=.pv (.bsl st.h.length e 0 rows.length cap):=by simp[look]
  subst hg'
  refine{size:=h.size,defs:=h.defs,env:=h.env,n:=by simp[hn],n0:=Sb h.n0 (Tv _),B:=h.B,I:=h.I,F:=h.F,μI:=λb hb=>?_,μinj:=λb b' hb hb' he=>?_,own:=⟨λp=>match p with|.slot u=>bl0 (.slot u)|.cell b k=>if b=g.n then none else bl0 (.cell b k),?_⟩,al:=λu=>?_}
  · by_cases e:b=g.n
    · simp only[e,TA];exact⟨f1,f2⟩
    · simp only[e,SR];exact h.μI b (by have:b<g.n+1:=hb;omega)
  · have hb1:b<g.n+1:=hb
    have hb1':b'<g.n+1:=hb'
    by_cases e:b=g.n
    · by_cases e':b'=g.n
      · omega
      · simp only[e,e',TA,SR]at he
        exact absurd he.symm (f3 b' (by omega))
    · by_cases e':b'=g.n
      · simp only[e,e',TA,SR]at he
        exact absurd he (f3 b (by omega))
      · simp only[e,e',SR]at he
        exact h.μinj b b' (by omega) (by omega) he
  · refine{slots:=λu=>?_,blocks:=λb ys hy=>?_,inj:=λp q k hp hq=>?_,free:=λp k hp=>?_}
    · by_cases hu:u=s
      · subst hu
        have h5:=hb0.slots u
        rw[show look (setPos st (.slot u) (.pv .bot)).t u=.pv .bot by simp[setPos,look]]at h5
        rw[hslot0]
        refine⟨h5.1,?_,e4,?_⟩
        · show st.h.length<g.n+1;omega
        · rw[e1,←hn];simp
      · have h5:=hb0.slots u
        rw[hslot u hu]
        exact aA.frame hle (λ_ _=>rfl) h5
    · by_cases e:b=g.n
      · subst e
        rw[hn,RV (Ry _),TV]at hy
        simp only[Sr,Sf]at hy
        subst hy
        refine⟨arr,T,by simp only[TA];exact hcell,⟨by rw[RH,←hfit.length,Sm],hone⟩,λk x hk=>?_⟩
        rw[RS]at hk
        cases hk2:ps[k]?with
        |none=>rw[hk2]at hk;cases hk
        |some y=>
          rw[hk2]at hk
          simp only[Sx,Sf]at hk
          subst hk
          obtain⟨v,hv,hf⟩:=hfit.get k y hk2
          have:arr[k]?=some v:=by rw[←RC];exact hv
          refine⟨rfl,by simp,?_⟩
          rw[RM,this]
          exact Fit.mono hle _ _ hf
      · have hlt:b<st.h.length:=by
          have:=(Rt.1 hy).1
          simp only[RF,SS]at this
          omega
        rw[RB hlt]at hy
        obtain⟨arr',T',h1,h2,h3⟩:=hb0.blocks b ys hy
        refine⟨arr',T',by simp only[e,SR];exact h1,h2,λk x hk=>?_⟩
        simp only[e,SR]
        exact⟨(h3 k x hk).1,aA.frame hle (λ_ _=>rfl) (h3 k x hk).2⟩
    · cases p with
      |slot u=>cases q with
        |slot v=>exact hb0.inj _ _ k hp hq
        | cell b j => dsimp only at hq; split at hq
                      · cases hq
                      · exact hb0.inj _ _ k hp hq
      |cell b j=>
        dsimp only at hp;split at hp
        · cases hp
        · cases q with
          |slot v=>exact hb0.inj _ _ k hp hq
          | cell b2 j2 => dsimp only at hq; split at hq
                          · cases hq
                          · exact hb0.inj _ _ k hp hq
    · have hp0:bl0 p=some k:=by
        cases p with
        |slot u=>exact hp
        | cell b j => dsimp only at hp; split at hp
                      · cases hp
                      · exact hp
      obtain⟨q1,q2,q3,q4⟩:=hb0.free p k hp0
      refine⟨q1,q2,q3,λb hb=>?_⟩
      by_cases e:b=g.n
      · simp only[e,TA];intro e2;exact f4 p (e2▸hp0)
      · simp only[e,SR];exact q4 b (by have:b<g.n+1:=hb;omega)
  · by_cases hu:u=s
    · subst hu;rw[hslot0];trivial
    · rw[hslot u hu]
      refine cb.congr (λp hp=>?_) (s0.al u)
      cases p with
      |slot v=>
        by_cases hv:v=s
        · subst hv;simp only[ab,hslot0]at hp;cases hp
        · simp only[ab];exact⟨hslot v hv,rfl⟩
      |cell b k=>
        have hlt:b<st.h.length:=by
          apply Ut
          intro hge
          simp only[ab]at hp
          by_cases e:b=st.h.length
          · subst e
            have h8:(st.h++[ps.map SV.pv]).getD st.h.length []=ps.map SV.pv:=by simp[Rv]
            rw[h8,Rv,RS]at hp
            cases h9:ps[k]?<;>rw[h9]at hp<;>cases hp
          · have h8:(st.h++[ps.map SV.pv]).getD b []=[]:=by rw[Rv,Sq (by simp;omega)];rfl
            rw[h8]at hp
            cases hp
        refine⟨?_,?_⟩
        · simp only[ab,setPos,Rv]
          rw[RB hlt]
        · have e:b≠g.n:=by omega
          simp only[an,e,SR]
theorem ay.sing{g:Gh}:∀{ys:List PV}{vs:List Value},(∀v∈vs,v.oneCell'=true)->ak g ys vs->ay g 1 (ys.map λy=>[y]) vs
 |[],_,_,h=>h
 |y::ys,_,ho,⟨v,r,h1,b,c⟩=>by
  subst h1;exact⟨[v],r,rfl,⟨rfl,λu a=>by rw[Sc]at a;rw[a];exact ho v RR⟩,⟨v,[],rfl,b,rfl⟩,ay.sing (λu a=>ho u (RO _ a)) c⟩
theorem ak.of_get{g:Gh}:∀{ys:List PV}{vs:List Value},ys.length=vs.length->(∀(k:Nat) y v,ys[k]?=some y->vs[k]?=some v->Fit g y v)->ak g ys vs
 |[],[],_,_=>rfl
 |[],_::_,h,_=>by simp at h
 |_::_,[],h,_=>by simp at h
 |y::ys,v::vs,h,a=>⟨v,vs,rfl,a 0 y v rfl rfl,ak.of_get (by simpa using h) λk d c h1 b=>a (k+1) d c (by simpa using h1) (by simpa using b)⟩
theorem wU(ys:List PV):(ys.map λy=>[y]).flatten=ys:=by
 induction ys with
 |nil=>rfl
 |cons y ys a=>rw[RU,Un,a];rfl
theorem Bv{P:Program}{st:St}(o:Oper)(t:TypeId)(s x:Operand)(d bt b n cap:Nat){xs:List SV}{ys:List PV}(ho:o.op=.call {callee:=.builtin .append,args:=#[s,x],argTypes:=#[t,t]}) (hd:o.dst=some d)
    (hi:bL P t=some (1,bt)) (ag:0<bt) (aq:gc st s) (hs:mv st s=.pv (.bsl b 1 0 n cap)) (ar:gc st x) (hx:iY st 1 (mv st x)) (aa:rowsOf st (mv st x)≠[])
    (af:st.h[b]?=some xs) (aD:cap<=xs.length) (ax:xs.take n=ys.map SV.pv) (aw:ys.length=n)
    (H:(n+(rowsOf st (mv st x)).length)*bt<=140737488355328) {N:Nat} (hN:d<N):
    ∀g a w,g.N=N->Sim g st a w->∃v w' g',(execOp a.eval o).run P w=.ok (.value v) w'∧g.to g'∧
      ((n + (rowsOf st (mv st x)).length <= cap ∧ Sim g' ⟨(d, .pv (.bsl b 1 0 (n + (rowsOf st (mv st x)).length) cap)) :: aF (aH b n (rowsOf st (mv st x)).length) st.t, st.h.set b (splice xs n ((rowsOf st (mv st x)).flatten.map SV.pv))⟩ (a.put o.dst v) w') ∨
       (cap < n + (rowsOf st (mv st x)).length ∧ ∃ p, n + (rowsOf st (mv st x)).length <= p ∧
        Sim g' ⟨(d,.pv (.bsl st.h.length 1 0 (n+(rowsOf st (mv st x)).length) p))::(d,.own true 1 ((ys.map λy=>[y])++rowsOf st (mv st x)))::aF (db d) st.t,st.h++[(ys++(rowsOf st (mv st x)).flatten++List.replicate (p -(n+(rowsOf st (mv st x)).length)) PV.bot).map SV.pv]⟩ (a.put o.dst v) w')):=by
  intro g a w hg h
  obtain⟨bl,hb⟩:=h.own
  obtain⟨Z,has⟩:=aM h s aq
  rw[hs]at Z
  obtain⟨_,ah,aJ,G⟩:=Z
  obtain⟨q,k,news,ae,r,aj⟩:=gJ h ar hx
  obtain⟨W,rfl,E⟩:∃W:Addr,q=some W∧∀(j:Nat) u,news[j]?=some u->w.cell? (W.add j)=some u:=by
    rcases aj with I|I
    · exact absurd I aa
    · exact I
  obtain⟨arr,T,c1,⟨c2,X⟩,c3⟩:=hb.blocks b xs af
  obtain⟨K,i,z,hu,M,hz,F,ai,aC,az⟩:=pT hi
  have U:news.length=(rowsOf st (mv st x)).length*i.size:=by rw[F];exact r.length
  have O:news.length=(rowsOf st (mv st x)).length:=by rw[U,F,Vh]
  have aI:0<(rowsOf st (mv st x)).length:=Td.2 aa
  generalize hR:rowsOf st (mv st x)=R at*
  have S:R.flatten.length=R.length:=by have:=r.flat.length;omega
  by_cases A:n+R.length<=cap
  · have L:n*i.size+news.length<=arr.size:=by rw[F,O];omega
    have hr:=nr (P:=P) w t o.type K i hu M (g.μ b) n cap T arr c1 W R.length k news U E r.one A L
    rw[F,Vh]at hr L
    have hB:=h.blockWrite (k0:=n) (ys:=R.flatten) (vs:=news) (arr':=(splice arr.toList n news).toArray) (w':=w.setRow (g.μ b) (splice arr.toList n news).toArray) af (by omega) c1 r.flat r.one rfl (by simp) (λc I=>setRow_other w (g.μ b) c _ I) ⟨T,setRow_heap w (g.μ b) arr _ T _ c1⟩ (by simp)
    rw[S]at hB
    refine⟨.slice (some ⟨g.μ b,0,none⟩) (n+R.length) cap,w.setRow (g.μ b) (splice arr.toList n news).toArray,g,?_,h.refl_to,.inl ⟨A,?_⟩⟩
    · simp only[execOp,ho,resolve,invoke,builtin,U0,RU,TW,Sem.run_bind,Sem.run_pure,Result.andThen_ok,G,ae,hr]
    · rw[hd]
      exact hB.put (hg▸hN) (sv:=.pv (.bsl b 1 0 (n+R.length) cap)) ⟨rfl,ah,A,rfl⟩ trivial rfl
  · have C:cap<n+R.length:=by omega
    have aB:∀m,∀v∈(Builtin.zeroCells z.cells m).toList,v.oneCell'=true:=λm v G=>by
      simp only[Builtin.zeroCells,UZ,RE]at G
      obtain⟨j,hj,rfl⟩:=G
      by_cases e:z.cells.size=0
      · rw[e]at hj;simp at hj
      · have C:j %z.cells.size<z.cells.size:=Nat.mod_lt _ (by omega)
        rw[UD z.cells (j %z.cells.size) C]
        exact az _ (U8 C)
    obtain⟨f,J⟩:∃f,f=arr.toList.take n:=⟨_,rfl⟩
    have aG:arr.toList.length=xs.length:=by rw[Sm];exact c2
    have Q:f.length=n:=by rw[J,RD];omega
    have an:ak g ys f:=ak.of_get (by omega) λj y v hy G=>by
      have hj:j<n:=by have:=(Rt.1 hy).1;omega
      have h1:xs[j]?=some (.pv y):=by
        have:(xs.take n)[j]?=some (.pv y):=by rw[ax,RS,hy];rfl
        rwa [SB,Rx hj]at this
      have h2:arr[j]?=some v:=by
        rw[J,SB,Rx hj]at G
        rw[←RC];exact G
      have h3:=(c3 j _ h1).2.2
      rw[RM,h2]at h3
      exact h3
    have ab:∀v∈f,v.oneCell'=true:=λv G=>X v (by rw[J]at G;exact Sl G)
    have V:∀(j:Nat) u,f[j]?=some u->w.cell? ((⟨g.μ b,0,none⟩:Addr).add j)=some u:=λj u hj=>by
      rw[Addr.add_lit,cell_of c1,Sv,←RC]
      rw[J,SB]at hj
      split at hj
      · exact hj
      · cases hj
    have aE:n+R.length<=140737488355328:=by
      have:(n+R.length)*1<=(n+R.length)*bt:=Wf _ ag
      omega
    have hr:=run_append_grow (P:=P) w t o.type K i z hu M hz ⟨g.μ b,0,none⟩ n cap f (by rw[Q,F,Vh]) V W R.length k news U E C (by omega) (growslice_fits C (by rw[ai];exact H))
    have ao:=grownCap_ge w (n+R.length) cap K
    have au:=grownCap_le_maxLen w (n+R.length) cap K (by unfold maxLen;omega)
    generalize grownCap w (n+R.length) cap K=gc at*
    obtain⟨rows,l⟩:∃rows:List (List PV),rows=(ys.map λy=>[y])++R:=⟨_,rfl⟩
    have D:rows.length=n+R.length:=by rw[l,RF,RH,aw]
    have av:rows.flatten=ys++R.flatten:=by rw[l,UG,wU]
    have hS:aA g (w.drew.alloc (.cells (f.toArray++news.toArray++Builtin.zeroCells z.cells (gc -(n+R.length))) K)) (.own true 1 rows) (.slice (some ⟨w.heap.size,0,none⟩) (n+R.length) gc) (some w.heap.size):=by
      refine .inr ⟨w.heap.size,rfl,gc,_,K,f++news,by rw[D],heap_alloc_new w.drew _,?_,⟨by rw[D];exact ao,au,by simpa only[Wg]using fw (fw ab r.one) (aB _)⟩,by rw[l];exact ay.append (ay.sing ab an) r,?_,λ_=>h.B⟩
      · simp only[Vi,SE,size_zeroCells,aC,Q,O]
        omega
      · exact⟨(Builtin.zeroCells z.cells (gc -(n+R.length))).toList,by simp⟩
    have hO:=h.putOwn hb (hg▸hN) (w':=w.drew.alloc (.cells (f.toArray++news.toArray++Builtin.zeroCells z.cells (gc -(n+R.length))) K)) rfl (by simp) (λc I _=>heap_alloc_old w.drew _ I) hS rfl (λc I=>by cases I;exact⟨by simp,h.fresh hb (Ry _)⟩)
    obtain⟨g',p,t',Y,s'⟩:=hO.adoptS (s:=d) (e:=1) (nw:=true) (rows:=rows) (by simp[look]) (λe=>by rw[e]at D;simp at D;omega)
    rw[D,av,Vh]at s'
    rw[D]at Y
    refine⟨_,_,g',?_,t',.inr ⟨C,p,Y,by rw[hd,←l];exact s'⟩⟩
    simp only[execOp,ho,resolve,invoke,builtin,U0,RU,TW,Sem.run_bind,Sem.run_pure,Result.andThen_ok,G,ae,hr]
/-! ### Rules -/
def KH(P:Program)(st:St)(t:TypeId)(s x:Operand)(d:Tmp)(K:St->Prop):Prop:=
 match bL P t,mv st s with
 |some (e,bt),.pv (.bsl b e' off n cap)=>e=1∧e'=1∧off=0∧0<bt∧gc st s∧gc st x∧iY st 1 (mv st x)∧rowsOf st (mv st x)≠[]∧b<st.h.length∧cap<=(st.h.getD b []).length∧(n+(rowsOf st (mv st x)).length)*bt<=140737488355328∧
  ∃ys:List PV,(st.h.getD b []).take n=ys.map SV.pv∧ys.length=n∧
   (n+(rowsOf st (mv st x)).length<=cap->K ⟨(d,.pv (.bsl b 1 0 (n+(rowsOf st (mv st x)).length) cap))::aF (aH b n (rowsOf st (mv st x)).length) st.t,st.h.set b (splice (st.h.getD b []) n ((rowsOf st (mv st x)).flatten.map SV.pv))⟩)∧
   (cap < n + (rowsOf st (mv st x)).length -> ∀ a, n + (rowsOf st (mv st x)).length <= a ->
    K ⟨(d,.pv (.bsl st.h.length 1 0 (n+(rowsOf st (mv st x)).length) a))::(d,.own true 1 ((ys.map λy=>[y])++rowsOf st (mv st x)))::aF (db d) st.t,st.h++[(ys++(rowsOf st (mv st x)).flatten++List.replicate (a -(n+(rowsOf st (mv st x)).length)) PV.bot).map SV.pv]⟩)
 |_,_=>False
def KI(P:Program)(st:St)(t:TypeId)(x hi m:Operand)(d:Tmp)(K:St->Prop):Prop:=
 match bm P t,mv st x with
 |some e,.pv (.bsl b e' off n _)=>e'=e∧gc st x∧cT st (some hi)∧cT st (some m)∧aV (mv st m)=aV (mv st hi)∧0<aV (mv st hi)∧aV (mv st hi)<=n∧K (putD (some d) (.pv (.bsl b e' off (aV (mv st hi)).toNat (aV (mv st hi)).toNat)) st)
 |_,_=>False
def NF(D:List Nat)(d:Option Tmp)(K:St->Prop)(st:St):Prop:=
 match d with
 | some d => if lS D d = true then (match look st.t d with
  |.own _ e rows=>rows≠[]∧∀cap,rows.length<=cap->K ⟨(d,.pv (.bsl st.h.length e 0 rows.length cap))::st.t,st.h++[(rows.flatten++List.replicate ((cap -rows.length)*e) PV.bot).map SV.pv]⟩
  |_=>False)else K st
 |none=>K st
def Hs:SV->Bool
 |.pv (.bsl _ _ _ _ _)=>true
 |_=>false
def lL(o:Oper):Option (TypeId×Operand×Operand×Tmp):=
 match o.guard,o.dst,o.op with
 |none,some d,.call c=>match c.callee,c.args.toList,c.argTypes.toList with
  |.builtin .append,[s,x],[t,a]=>if t=a then some (t,s,x,d)else none
  |_,_,_=>none
 |_,_,_=>none
theorem Ht{o:Oper}{t:TypeId}{s x:Operand}{d:Tmp}(h:lL o=some (t,s,x,d)):o.guard=none∧o.dst=some d∧o.op=.call {callee:=.builtin .append,args:=#[s,x],argTypes:=#[t,t]}:=by
 unfold lL at h;split at h
 .rename_i d' c h1 g i;split at h
  .rename_i s' l t1 m a b f;split at h
   .rename_i e;subst e;simp only[Sf,Tf]at h;obtain⟨rfl,rfl,rfl,rfl⟩:=h;refine⟨h1,g,?_⟩;rw[i];obtain⟨cl,ar,ty⟩:=c;simp only at a b f;subst a;have j:ar=#[s',l]:=TD b;have k:ty=#[t1,t1]:=TD f;rw[j,k]
   .cases h
  .cases h
 .cases h
def gY(o:Oper):Option (TypeId×Operand×Operand×Operand×Tmp):=
 match o.guard,o.dst,o.op with
 |none,some d,.slice t x none (some hi) (some m)=>some (t,x,hi,m,d)
 |_,_,_=>none
theorem EO{o:Oper}{t:TypeId}{x hi m:Operand}{d:Tmp}(h:gY o=some (t,x,hi,m,d)):o.guard=none∧o.dst=some d∧o.op=.slice t x none (some hi) (some m):=by
 unfold gY at h;split at h
 .rename_i h1 a b;simp only[Sf,Tf]at h;obtain⟨rfl,rfl,rfl,rfl,rfl⟩:=h;exact⟨h1,a,b⟩
 .cases h
def dV(P:Program)(D:List Nat)(ops:List Oper)(o:Oper)(K:St->Prop)(st:St):Prop:=
 match lL o with
 |some (t,s,x,d)=>if Hs (mv st s)=true then KH P st t s x d K else eJ P ops o (NF D o.dst K) st
 |none=>match gY o with
  |some (t,x,hi,m,d)=>KI P st t x hi m d K
  |none=>eJ P ops o (NF D o.dst K) st
def ve(P:Program)(D:List Nat)(ops:List Oper)(K:St->Prop):List Oper->St->Prop
 |[],st=>K st
 |o::rest,st=>dV P D ops o (ve P D ops K rest) st
theorem MJ{D:List Nat}{d:Option Tmp}{K:St->Prop}{st:St}(h:NF D d K st){g:Gh}{a:Act}{w:World}(hs:Sim g st a w):∃st' g',K st'∧g.to g'∧Sim g' st' a w:=by
 unfold NF at h;split at h
 .split at h
  .split at h
   .rename_i b;obtain⟨h1,c⟩:=h;obtain⟨g',_,t,e,s'⟩:=hs.adoptS b h1;exact⟨_,g',c _ e,t,s'⟩
   .exact h.elim
  .exact⟨st,g,h,hs.refl_to,hs⟩
 .exact⟨st,g,h,hs.refl_to,hs⟩
theorem KJ{P:Program}{st:St}(o:Oper){t:TypeId}{s x:Operand}{d:Nat}{K:St->Prop}(ho:o.op=.call {callee:=.builtin .append,args:=#[s,x],argTypes:=#[t,t]}) (f:o.dst=some d)
 (h:KH P st t s x d K) {g:Gh} {a:Act} {w:World} (hs:Sim g st a w) (hd:cd g.N o.dst) {K':Act->World->Prop} {Q:Exit->Act->World->Prop}
 (r:∀st' g' q w',K st'->g.to g'->Sim g' st' q w'->K' q w'):o.wp P a w K' Q:=by
 unfold KH at h;split at h
 .rename_i e bt b e' off n cap hi G;obtain⟨rfl,rfl,rfl,h1,y,z,A,B,C,D,E,ys,F,i,j,k⟩:=h;have l:st.h[b]?=some (st.h.getD b []):=by rw[Rv,Ru C];rfl
  obtain⟨v,w',g',H,u,r3⟩:=Bv o t s x d bt b n cap ho f hi h1 y G z A B l D F i E (N:=g.N) (by rw[f]at hd;exact hd) g a w rfl hs;unfold Oper.wp;rw[H];rcases r3 with⟨m,p⟩|⟨m,c,p,I⟩
  .exact r _ g' _ w' (j m) u p
  .exact r _ g' _ w' (k m c p) u I
 .exact h.elim
theorem wV{P:Program}{st:St}{g:Gh}{a:Act}{w:World}(h:Sim g st a w)(len cap:Nat)(hi m:Operand)(b:cT st (some hi))(c:cT st (some m))(d:aV (mv st m)=aV (mv st hi))
 (h1:0<=aV (mv st hi)) (f:aV (mv st hi)<=len) (i:len<=cap):
 ∀w':World,(Instr.sliceBounds true len cap none (some (a.eval hi)) (some (a.eval m))).run P w'=.ok (0,(aV (mv st hi)).toNat,(aV (mv st hi)).toNat) w':=by
 intro w';simp only[cT]at*;have e:((aV (mv st hi)).toNat:Int)=aV (mv st hi):=U3 (by omega);simp only[Instr.sliceBounds,bU h b.1 b.2,bU h c.1 c.2,d,Sem.run_bind,Sem.run_pure,Result.andThen_ok,run_sliceBound w' _ _ cap _ (by omega:(0:Int)<=aV (mv st hi)) (by omega),
  run_sliceBound w' _ _ (aV (mv st hi)).toNat _ (by omega:(0:Int)<=aV (mv st hi)) (by omega)]
theorem KK{P:Program}{st:St}(o:Oper){t:TypeId}{x hi m:Operand}{d:Nat}{K:St->Prop}(ho:o.op=.slice t x none (some hi) (some m))(k:o.dst=some d)
 (h:KI P st t x hi m d K) {g:Gh} {a:Act} {w:World} (hs:Sim g st a w) (hd:cd g.N o.dst) {K':Act->World->Prop} {Q:Exit->Act->World->Prop}
 (z:∀st' g' i w',K st'->g.to g'->Sim g' st' i w'->K' i w'):o.wp P a w K' Q:=by
 unfold KI at h;split at h
 .rename_i e b e' off n cap c B;obtain⟨rfl,h1,r,s,u,G,v,y⟩:=h;obtain⟨q,_⟩:=aM hs x h1;rw[B]at q;obtain⟨_,j,l,E⟩:=q;unfold bm at c;split at c
  case h_2=>cases c
  rename_i F D;simp only[RX]at c;obtain⟨p,f,rfl⟩:=c;have A:=wV (P:=P) hs n cap hi m r s u (by omega) v l;refine bZ (st':=putD (some d) (.pv (.bsl b p.size off (aV (mv st hi)).toNat (aV (mv st hi)).toNat)) st) (g:=g) ⟨.slice (some ⟨g.μ b,off,none⟩) (aV (mv st hi)).toNat (aV (mv st hi)).toNat,w,g,?_,hs.refl_to,?_⟩ (λg' i w'=>z _ g' i w' y)
  .have C:(aV (mv st hi)).toNat≠0:=by omega
   simp only[execOp,ho,E,Sx,Uc];simp only[Instr.sliceAt,Sem.run_bind,run_underlying D,Result.andThen_ok,Instr.slice,A,run_sizeOf f,Sem.run_pure];simp[Addr.add_lit]
  .rw[k]at hd⊢;exact hs.put hd ⟨rfl,j,Ry _,rfl⟩ trivial rfl
 .exact h.elim
theorem mY{P:Program}{D:List Nat}{ops:Array Oper}{st:St}(o:Oper){K:St->Prop}(h:dV P D ops.toList o K st){g:Gh}{a:Act}{w:World}(hs:Sim g st a w)(hd:cd g.N o.dst){K':Act->World->Prop}{Q:Exit->Act->World->Prop}
 (f:∀st' g' b w',K st'->g.to g'->Sim g' st' b w'->K' b w'):if Region.wanted o (yielded ops a.tmps)=true then o.wp P a w K' Q else K' (a.put o.dst undef) w:=by
 have k:eJ P ops.toList o (NF D o.dst K) st->if Region.wanted o (yielded ops a.tmps)=true then o.wp P a w K' Q else K' (a.put o.dst undef) w:=λh1=>
  mh o h1 hs hd λst' g' b w' hk t s'=>by
   obtain⟨j,g2,l,p,n⟩:=MJ hk s';exact f j g2 b w' l (t.trans p) n
 unfold dV at h;split at h
 .rename_i t s x d i;obtain⟨h1,c,e⟩:=Ht i;split at h
  .rw[Rx (by simp[Region.wanted,h1])];exact KJ o e c h hs hd f
  .exact k h
 .split at h
  .rename_i t x hi m d i;obtain⟨h1,c,e⟩:=EO i;rw[Rx (by simp[Region.wanted,h1])];exact KK o e c h hs hd f
  .exact k h
theorem yQ{P:Program}{D:List Nat}{ops:Array Oper}:∀(l:List Oper){st:St}{K:St->Prop}(_:ve P D ops.toList K l st){g:Gh}{a:Act}{w:World}(_:Sim g st a w)(_:cC g.N l=true){Q:Exit->Act->World->Prop}
 (_:∀st' g' b w',K st'->g.to g'->Sim g' st' b w'->Q .normal b w'),wpList P ops Q l a w
 |[],st,K,h,g,a,w,hs,_,Q,c=>c st g a w h hs.refl_to hs
 |o::rest,st,K,h,g,a,w,hs,hd,Q,c=>by
  obtain⟨h1,j⟩:=mi hd;have:=mY (ops:=ops) o h hs h1 (Q:=Q) (K':=wpList P ops Q rest)
   (λst' g' b w' hk f s'=>yQ rest hk s' (by rw[f.N];exact j) (λe g2 i p k n m=>c e g2 i p k (f.trans n) m))
  unfold wpList;split
  .rename_i d;rw[Rx d]at this;exact .inl this
  .rename_i d;rw[Rw d]at this;exact this
theorem lU.blk{P:Program}{k0:Nat}{ops:Array Oper}{K:St->Prop}{st:St}(D:List Nat)(h:ve P D ops.toList K ops.toList st):lU P k0 ops K st:=λ_ _ _ _ hs hd _ a=>yQ ops.toList h hs hd a
section
variable {P : Program} {D : List Nat} {ops : List Oper} {K : St -> Prop} {st : St}
@[simp] theorem NG:ve P D ops K [] st=K st:=rfl
@[simp] theorem MK(o:Oper)(rest:List Oper):ve P D ops K (o::rest) st=dV P D ops o (ve P D ops K rest) st:=rfl
end
attribute [simp] dV lL gY KH KI NF Hs
end Go.AX
namespace Go.AX
def cv(P:Program)(D:List Nat)(ops:List Oper)(i:Nat)(K:St->Prop)(st:St):Prop:=
 match ops[i]?with
 |some o=>dV P D ops o K st
 |none=>False
mutual
def o8(P:Program)(D:List Nat)(ops:List Oper)(K:St->Prop):Sch->St->Prop
  |.done,st=>K st
  |.take i r,st=>eK P ops i (o8 P D ops K r) st
  |.fork l,st=>nB P D ops K l st
def nB(P:Program)(D:List Nat)(ops:List Oper)(K:St->Prop):List (Nat×Sch)->St->Prop
  |[],_=>True
  |(i,r)::l,st=>cv P D ops i (o8 P D ops K r) st∧nB P D ops K l st
end
mutual
theorem wW{P:Program}{D:List Nat}{ops:Array Oper}{K:St->Prop}{Q:Exit->Act->World->Prop}(hsel:Region.noSelect ops=true)(hQp:∀c a w,¬Q (.panic c) a w):∀(S:Sch)(n:Nat)(listed:Array Bool)(_:jF P ops n listed S=true){st:St}(_:o8 P D ops.toList K S st){g:Gh}{a:Act}{w:World}(_:Sim g st a w)(_:cC g.N ops.toList=true)
    (_:∀st' g' a' w',K st'->g.to g'->Sim g' st' a' w'->Q .normal a' w'),wpAny P .any ops Q n listed a w
  |.done,n,listed,hb,st,h,g,a,w,hs,_,hQ=>by
    have hb':(Region.ready .any ops listed).isEmpty=true:=by cases n<;>simpa[jF]using hb
    exact wpAny_done (VY.1 hb') (hQ st g a w h hs.refl_to hs) n
  |.take i r,0,listed,hb,st,h,g,a,w,hs,hd,hQ=>by simp[jF]at hb
  |.take i r,n+1,listed,hb,st,h,g,a,w,hs,hd,hQ=>by
    simp only[jF,RG]at hb
    obtain⟨⟨hb1,hb2⟩,hb3⟩:=hb
    simp only[o8,eK]at h
    cases ho:ops[i]?with
    |none=>rw[ho]at hb1;cases hb1
    |some o=>
      rw[ho]at hb1
      rw[RC,ho]at h
      simp only[RG]at hb1
      obtain⟨v,hy,st',g',h1,h2,h3⟩:=wA o hb1.1 h hs (dP hd (by rw[RC];exact ho))
      exact wpAny_take ho hsel hb1.2 hb2 (λc a w hq=>absurd hq (hQp c _ w)) hy (wW hsel hQp r n _ hb3 h1 h3 (by rw[h2.N];exact hd) λst2 g2 a2 w2 k2 t2 s2=>hQ st2 g2 a2 w2 k2 (h2.trans t2) s2)
  |.fork l,0,listed,hb,st,h,g,a,w,hs,hd,hQ=>by simp[jF]at hb
  |.fork l,n+1,listed,hb,st,h,g,a,w,hs,hd,hQ=>by
    simp only[jF,RG]at hb
    obtain⟨⟨hb1,hb2⟩,hb3⟩:=hb
    simp only[o8]at h
    have hr:Region.ready .any ops listed=l.map (·.1):=by simpa using hb1
    refine wpAny_all hr (λe=>?_) λi hi=>yR hsel hQp l n listed hb3 h hs hd hQ i hi
    cases l with
    |nil=>simp at hb2
    |cons _ _=>cases e
theorem yR{P:Program}{D:List Nat}{ops:Array Oper}{K:St->Prop}{Q:Exit->Act->World->Prop}(hsel:Region.noSelect ops=true)(hQp:∀c a w,¬Q (.panic c) a w):∀(l:List (Nat×Sch))(n:Nat)(listed:Array Bool)(_:yl P ops n listed l=true){st:St}(_:nB P D ops.toList K l st){g:Gh}{a:Act}{w:World}(_:Sim g st a w)(_:cC g.N ops.toList=true)
    (_:∀st' g' a' w',K st'->g.to g'->Sim g' st' a' w'->Q .normal a' w'),∀i∈l.map (·.1),wpOp P ops Q i (wpAny P .any ops Q n (listed.setIfInBounds i true)) a w
  |[],n,listed,_,st,_,g,a,w,_,_,_,i,hi=>by cases hi
  |(i0,r)::l,n,listed,hb,st,h,g,a,w,hs,hd,hQ,i,hi=>by
    simp only[yl,RG]at hb
    simp only[nB]at h
    simp only[RU,RZ]at hi
    rcases hi with e|hi
    · subst e
      have h1:=h.1
      simp only[cv]at h1
      unfold wpOp
      cases ho:ops[i]?with
      |none=>rw[RC,ho]at h1;exact h1.elim
      |some o=>
        rw[RC,ho]at h1
        have key:=mY (ops:=ops) o h1 hs (dP hd (by rw[RC];exact ho)) (K':=wpAny P .any ops Q n (listed.setIfInBounds i true)) (Q:=Q) λst' g' a' w' k' t' s'=>
          wW hsel hQp r n _ hb.1 k' s' (by rw[t'.N];exact hd) λst2 g2 a2 w2 k2 t2 s2=>hQ st2 g2 a2 w2 k2 (t'.trans t2) s2
        simp only
        split
        · rename_i hw;rw[Rx hw]at key;exact .inl key
        · rename_i hw;rw[Rw hw]at key;exact key
    · exact yR hsel hQp l n listed hb.2 h.2 hs hd hQ i hi
end
theorem aQ.blk{P:Program}{k0:Nat}{ops:Array Oper}{K:St->Prop}{st:St}(D:List Nat)(S:Sch){ι:Type}(c:ι->St)(J:ι->Prop)(b:oR P ops S=true)(h:o8 P D ops.toList (λs=>∃i,J i∧ah k0 s (c i)) S st)(f:∀i,J i->K (c i)):aQ P k0 ops K st:=by
 simp only[oR,RG]at b;refine .inr λg a w h0 hs hd Q hp j=>wW b.1 hp S _ _ b.2 h hs hd λst' g' d w' hk e s'=>?_;obtain⟨i,hj,k⟩:=hk;obtain⟨g2,m,l⟩:=k g' d w' (by rw[e.n0];exact h0) s';exact j _ g2 d w' (f i hj) (e.trans m) l
section
variable {P : Program} {D : List Nat} {ops : List Oper} {K : St -> Prop} {st : St}
@[simp] theorem NH:o8 P D ops K .done st=K st:=by simp only[o8]
@[simp] theorem NJ(i:Nat)(r:Sch):o8 P D ops K (.take i r) st=eK P ops i (o8 P D ops K r) st:=by simp only[o8]
@[simp] theorem NK(l:List (Nat×Sch)):o8 P D ops K (.fork l) st=nB P D ops K l st:=by simp only[o8]
@[simp] theorem NL:nB P D ops K [] st=True:=by simp only[nB]
@[simp] theorem ML(i:Nat)(r:Sch)(l:List (Nat×Sch)):nB P D ops K ((i,r)::l) st=(cv P D ops i (o8 P D ops K r) st∧nB P D ops K l st):=by simp only[nB]
end
attribute [simp] cv
end Go.AX
namespace Go.AX
def og(P:Program)(t:TypeId)(x:SV):SV×Prop:=
 match l5 P t,x with
 |some (n,e),.pv (.ptr b off)=>(.pv (.bsl b 1 off n n),e=1∧0<n)
 |_,_=>(.pv .bot,False)
theorem EP{P:Program}{st:St}(o:Oper)(t:TypeId)(x:Operand)(ho:o.op=.slice t x none none none):iX P st o ((og P t (mv st x)).1,gc st x∧(og P t (mv st x)).2):=by
 intro g a w h ⟨hx,hd⟩;unfold og at hd⊢;split at hd
 case h_2=>exact hd.elim
 rename_i n e b off hs m;obtain⟨rfl,hn⟩:=hd;obtain⟨k,_⟩:=aM h x hx;rw[m]at k;obtain⟨_,l,r⟩:=k;unfold l5 at hs;split at hs
 case h_2=>cases hs
 rename_i f u q;simp only[RX,Tf]at hs;obtain⟨s,d,rfl,p⟩:=hs;have i:=km (P:=P) h false f f none none trivial trivial (TU _) (by simp[bnd]) (by simp[bnd]) (Ry _);refine⟨.slice (some ⟨g.μ b,off,none⟩) f f,?_,⟨rfl,l,Ry _,rfl⟩,trivial⟩;intro w';have j:¬f=0:=by omega
 simp only[execOp,ho,r,Uc,Instr.sliceAt,Sem.run_bind,run_underlying q,Result.andThen_ok,Instr.sureAddr,Sem.run_pure];have c:=i w';simp only[Uc]at c;rw[c];simp[bnd,run_sizeOf d,j,Addr.add_lit]
def o9(P:Program)(o:Oper):Option (TypeId×Operand×Tmp):=
 match o.guard,o.dst,o.op with
 |none,some d,.slice t x none none none=>if(l5 P t).isSome then some (t,x,d)else none
 |_,_,_=>none
theorem yS{P:Program}{o:Oper}{t:TypeId}{x:Operand}{d:Tmp}(h:o9 P o=some (t,x,d)):o.guard=none∧o.dst=some d∧o.op=.slice t x none none none:=by
 unfold o9 at h;split at h
 .rename_i h1 a b;split at h
  .cases h;exact⟨h1,a,b⟩
  .cases h
 .cases h
def pc(P:Program)(ops:List Oper)(i:Nat)(K:St->Prop)(st:St):Prop:=
 match ops[i]?with
 |some o=>match o9 P o with
  |some (t,x,d)=>(gc st x∧(og P t (mv st x)).2)∧K (st.put d (og P t (mv st x)).1)
  |none=>eJ P ops o K st
 |none=>False
mutual
def oh(P:Program)(D:List Nat)(ops:List Oper)(K:St->Prop):Sch->St->Prop
  |.done,st=>K st
  |.take i r,st=>pc P ops i (oh P D ops K r) st
  |.fork l,st=>nC P D ops K l st
def nC(P:Program)(D:List Nat)(ops:List Oper)(K:St->Prop):List (Nat×Sch)->St->Prop
  |[],_=>True
  |(i,r)::l,st=>cv P D ops i (oh P D ops K r) st∧nC P D ops K l st
end
theorem Hu{P:Program}{ops:Array Oper}{st:St}{i:Nat}{o:Oper}(ho:ops.toList[i]?=some o)(f:iD P o.op=true){K:St->Prop}(h:pc P ops.toList i K st){g:Gh}{a:Act}{w:World}(hs:Sim g st a w)(hd:cd g.N o.dst):
 ∃v,Yields P ops o v a∧∃st' g',K st'∧g.to g'∧Sim g' st' (a.put o.dst v) w:=by
 unfold pc at h;rw[ho]at h;simp only at h;split at h
 .rename_i t x d j;obtain⟨h1,b,c⟩:=yS j;obtain⟨v,l,k,e⟩:=EP (st:=st) o t x c g a w hs h.1;refine⟨v,.inl ⟨by simp[Region.wanted,h1],l⟩,_,g,h.2,hs.refl_to,?_⟩;rw[b]at hd⊢;refine hs.put hd k e ?_;unfold og;split<;>rfl
 .exact wA o f h hs hd
mutual
theorem wX{P:Program}{D:List Nat}{ops:Array Oper}{K:St->Prop}{Q:Exit->Act->World->Prop}(hsel:Region.noSelect ops=true)(hQp:∀c a w,¬Q (.panic c) a w):∀(S:Sch)(n:Nat)(listed:Array Bool)(_:jF P ops n listed S=true){st:St}(_:oh P D ops.toList K S st){g:Gh}{a:Act}{w:World}(_:Sim g st a w)(_:cC g.N ops.toList=true)
    (_:∀st' g' a' w',K st'->g.to g'->Sim g' st' a' w'->Q .normal a' w'),wpAny P .any ops Q n listed a w
  |.done,n,listed,hb,st,h,g,a,w,hs,_,hQ=>by
    have hb':(Region.ready .any ops listed).isEmpty=true:=by cases n<;>simpa[jF]using hb
    simp only[oh]at h
    exact wpAny_done (VY.1 hb') (hQ st g a w h hs.refl_to hs) n
  |.take i r,0,listed,hb,st,h,g,a,w,hs,hd,hQ=>by simp[jF]at hb
  |.take i r,n+1,listed,hb,st,h,g,a,w,hs,hd,hQ=>by
    simp only[jF,RG]at hb
    obtain⟨⟨hb1,hb2⟩,hb3⟩:=hb
    simp only[oh]at h
    cases ho:ops[i]?with
    |none=>rw[ho]at hb1;cases hb1
    |some o=>
      rw[ho]at hb1
      simp only[RG]at hb1
      have ho':ops.toList[i]?=some o:=by rw[RC];exact ho
      obtain⟨v,hy,st',g',h1,h2,h3⟩:=Hu ho' hb1.1 h hs (dP hd ho')
      exact wpAny_take ho hsel hb1.2 hb2 (λc a w hq=>absurd hq (hQp c _ w)) hy (wX hsel hQp r n _ hb3 h1 h3 (by rw[h2.N];exact hd) λst2 g2 a2 w2 k2 t2 s2=>hQ st2 g2 a2 w2 k2 (h2.trans t2) s2)
  |.fork l,0,listed,hb,st,h,g,a,w,hs,hd,hQ=>by simp[jF]at hb
  |.fork l,n+1,listed,hb,st,h,g,a,w,hs,hd,hQ=>by
    simp only[jF,RG]at hb
    obtain⟨⟨hb1,hb2⟩,hb3⟩:=hb
    simp only[oh]at h
    have hr:Region.ready .any ops listed=l.map (·.1):=by simpa using hb1
    refine wpAny_all hr (λe=>?_) λi hi=>yT hsel hQp l n listed hb3 h hs hd hQ i hi
    cases l with
    |nil=>simp at hb2
    |cons _ _=>cases e
theorem yT{P:Program}{D:List Nat}{ops:Array Oper}{K:St->Prop}{Q:Exit->Act->World->Prop}(hsel:Region.noSelect ops=true)(hQp:∀c a w,¬Q (.panic c) a w):∀(l:List (Nat×Sch))(n:Nat)(listed:Array Bool)(_:yl P ops n listed l=true){st:St}(_:nC P D ops.toList K l st){g:Gh}{a:Act}{w:World}(_:Sim g st a w)(_:cC g.N ops.toList=true)
    (_:∀st' g' a' w',K st'->g.to g'->Sim g' st' a' w'->Q .normal a' w'),∀i∈l.map (·.1),wpOp P ops Q i (wpAny P .any ops Q n (listed.setIfInBounds i true)) a w
  |[],n,listed,_,st,_,g,a,w,_,_,_,i,hi=>by cases hi
  |(i0,r)::l,n,listed,hb,st,h,g,a,w,hs,hd,hQ,i,hi=>by
    simp only[yl,RG]at hb
    simp only[nC]at h
    simp only[RU,RZ]at hi
    rcases hi with e|hi
    · subst e
      have h1:=h.1
      simp only[cv]at h1
      unfold wpOp
      cases ho:ops[i]?with
      |none=>rw[RC,ho]at h1;exact h1.elim
      |some o=>
        rw[RC,ho]at h1
        have key:=mY (ops:=ops) o h1 hs (dP hd (by rw[RC];exact ho)) (K':=wpAny P .any ops Q n (listed.setIfInBounds i true)) (Q:=Q) λst' g' a' w' k' t' s'=>
          wX hsel hQp r n _ hb.1 k' s' (by rw[t'.N];exact hd) λst2 g2 a2 w2 k2 t2 s2=>hQ st2 g2 a2 w2 k2 (t'.trans t2) s2
        simp only
        split
        · rename_i hw;rw[Rx hw]at key;exact .inl key
        · rename_i hw;rw[Rw hw]at key;exact key
    · exact yT hsel hQp l n listed hb.2 h.2 hs hd hQ i hi
end
theorem aQ.arr{P:Program}{k0:Nat}{ops:Array Oper}{K:St->Prop}{st:St}(D:List Nat)(S:Sch){ι:Type}(c:ι->St)(J:ι->Prop)(b:oR P ops S=true)(h:oh P D ops.toList (λs=>∃i,J i∧ah k0 s (c i)) S st)(f:∀i,J i->K (c i)):aQ P k0 ops K st:=by
 simp only[oR,RG]at b;refine .inr λg a w h0 hs hd Q hp j=>wX b.1 hp S _ _ b.2 h hs hd λst' g' d w' hk e s'=>?_;obtain⟨i,hj,k⟩:=hk;obtain⟨g2,m,l⟩:=k g' d w' (by rw[e.n0];exact h0) s';exact j _ g2 d w' (f i hj) (e.trans m) l
section
variable {P : Program} {D : List Nat} {ops : List Oper} {K : St -> Prop} {st : St}
@[simp] theorem NM:oh P D ops K .done st=K st:=by simp only[oh]
@[simp] theorem NN(i:Nat)(r:Sch):oh P D ops K (.take i r) st=pc P ops i (oh P D ops K r) st:=by simp only[oh]
@[simp] theorem NO(l:List (Nat×Sch)):oh P D ops K (.fork l) st=nC P D ops K l st:=by simp only[oh]
@[simp] theorem NP:nC P D ops K [] st=True:=by simp only[nC]
@[simp] theorem MM(i:Nat)(r:Sch)(l:List (Nat×Sch)):nC P D ops K ((i,r)::l) st=(cv P D ops i (oh P D ops K r) st∧nC P D ops K l st):=by simp only[nC]
end
attribute [simp] pc o9 og
end Go.AX
namespace Go.AX
def Dh(a:Nat->(St->Prop)->St->Prop)(C:Nat->Array Bool->St->Prop)(n:Nat)(st:St):List (Nat×Array Bool)->Prop
 |[]=>True
 |(i,l')::r=>a i (C n l') st∧Dh a C n st r
attribute [simp] Dh
end Go.AX
namespace Go.AX
theorem aQ.inv{P:Program}{k0:Nat}{ops:Array Oper}{K:St->Prop}{st:St}(D:List Nat)(I:Array Bool->St->Prop)
 (h0:I (Array.replicate ops.size false) st)
 (j:∀l s i,l.size=ops.size->I l s->i∈Region.ready .any ops l->∃A:St->Prop,cv P D ops.toList i A s∧∀s',A s'->I (l.setIfInBounds i true) s')
 (d:∀l s,l.size=ops.size->I l s->Region.ready .any ops l=[]->∃p,ah k0 s p∧K p):aQ P k0 ops K st:=by
 refine .inr ?_;have key:∀n l s,l.size=ops.size->n+l.toList.countP id=ops.size->I l s->Ri P k0 ops K n l s:=by
  intro n
  induction n with
  |zero=>
   intro l s e C x g a w z hs hd Q hp y;have m:Region.ready .any ops l=[]:=by
    unfold Region.ready;rw[Tn];intro i hi;have r:i<l.size:=by rw[e];exact SK.1 hi
    have q:∀b∈l.toList,id b=true:=by
     rw[←V7];rw[Sv]at C;rw[C,←e];exact Sm.symm
    have:=q l[i] (Vy.2 (Array.getElem_mem r));simp only[id]at this;simp[Array.getD,r,this]
   obtain⟨p,k,hk⟩:=d l s e x m;obtain⟨g2,v,u⟩:=k g a w z hs;exact wpAny_done m (y p g2 a w hk v u) 0
  |succ n S=>
   intro l s e C x g a w z hs hd Q hp y
   by_cases m:Region.ready .any ops l=[]
   .obtain⟨p,k,hk⟩:=d l s e x m;obtain⟨g2,v,u⟩:=k g a w z hs;exact wpAny_done m (y p g2 a w hk v u) _
   .refine wpAny_all rfl m λi hi=>?_;obtain⟨A,h1,B⟩:=j l s i e x hi;have f:=hi;unfold Region.ready at f;rw[Ss]at f;obtain⟨F,t⟩:=f;have h:i<l.size:=by rw[e];exact SK.1 F
    simp only[RG,Sk]at t;have G:l[i]=false:=by have:=t.1;simpa[Array.getD,h]using this
    have E:n+(l.setIfInBounds i true).toList.countP id=ops.size:=by
     rw[UU,List.countP_set (by simpa using h)];have R:l.toList[i]'(by simpa using h)=false:=by simpa using G
     simp only[R,id,Sg,SR,TA];omega
    have H:(l.setIfInBounds i true).size=ops.size:=by simp[e]
    unfold cv at h1;unfold wpOp;cases ho:ops[i]?with
    |none=>rw[RC,ho]at h1;exact h1.elim
    |some o=>
     rw[RC,ho]at h1;have c:=mY (ops:=ops) o h1 hs (dP hd (by rw[RC];exact ho)) (K':=wpAny P .any ops Q n (l.setIfInBounds i true)) (Q:=Q) λst' g' M w' k' L s'=>
      S _ st' H E (B _ k') g' M w' (by rw[L.n0];exact z) s' (by rw[L.N];exact hd) Q hp λJ g2 O U T v u=>y J g2 O U T (L.trans v) u
     simp only;split
     .rename_i k;rw[Rx k]at c;exact .inl c
     .rename_i k;rw[Rw k]at c;exact c
 refine key _ _ _ (by simp) ?_ h0;simp[List.countP_replicate]
def cD(ops:Array Oper)(i:Nat):List Nat:=match ops[i]?with
 |some o=>(o.after.toList.filter λe=>Region.binds .any e).map (·.on)
 |none=>[]
theorem lp{ops:Array Oper}{l:Array Bool}{i:Nat}(h:i∈Region.ready .any ops l):i<ops.size∧l.getD i true=false∧∀j∈cD ops i,l.getD j false=true:=by
 unfold Region.ready at h;rw[Ss]at h;obtain⟨h1,a⟩:=h;have hi:=SK.1 h1;rw[RQ hi]at a;simp only[Sx,Sa,RG,Sk]at a;refine⟨hi,a.1,λj hj=>?_⟩;unfold cD at hj;rw[RQ hi]at hj;simp only[RE,Ss]at hj;obtain⟨e,⟨b,c⟩,rfl⟩:=hj;have:=a.2;rw[Ve]at this;have:=this e (Vy.1 b);simpa[c]using this
def Hv(ops:Array Oper):Nat->Nat->Nat->Bool
 |0,_,_=>false
 |n+1,i,j=>(cD ops j).any λe=>e==i||Hv ops n i e
structure Tb where
  T:List (Option (Nat×SV))
  B:List (Nat×SV)
  dp:List (List Nat)
  ws:List Nat
  lv:List (List Nat)
  kl:List (Nat×Nat)
  H:Nat->List (List SV)
namespace Tb
def dpA(b:Tb)(i:Nat):List Nat:=b.dp.getD i []
def lvA(b:Tb)(i:Nat):List Nat:=b.lv.getD i []
def dst(b:Tb)(i:Nat):Option Nat:=((b.T.getD i none).map (·.1))
def slots(b:Tb):List Nat:=b.T.filterMap λo=>o.map (·.1)
def okB(b:Tb)(ops:Array Oper):Bool:=
 (List.range ops.size).all (λi=>(b.dpA i).all λj=>(cD ops i).contains j||Hv ops 3 j i)
 &&(List.range (b.ws.length -1)).all (λk=>(cD ops (b.ws.getD (k+1) 0)).contains (b.ws.getD k 0))
 && (List.range ops.size).all (λ i => (List.range (b.ws.length + 1)).all λ m =>
  (b.lvA i).contains m||(List.range b.ws.length).any λk=>if k<m then b.ws.getD k 0==i||Hv ops 3 i (b.ws.getD k 0)else Hv ops 3 (b.ws.getD k 0) i)
 &&(List.range ops.size).all (λi=>(b.dpA i).all λj=>b.kl.all λq=>b.dst j !=some q.2||q.1==i||(cD ops q.1).contains i||(cD ops j).contains q.1)
 &&b.ws.all (λw=>decide (w<ops.size))
 &&(List.range ops.size).all (λi=>(cD ops i).all λj=>decide (j<i))
 &&decide (b.T.length<=ops.size)&&decide b.ws.Nodup
end Tb
def nj(l:Array Bool)(i:Nat):Bool:=l.getD i false
theorem Di{l:Array Bool}{i:Nat}(hi:i<l.size)(j:Nat):nj (l.setIfInBounds i true) j=if i=j then true else nj l j:=by
 unfold nj;simp only[RM,Sw]
 by_cases e:i=j
 .subst e;simp[hi]
 .simp[e]
def aT(t:List (Nat×SV)):List (Nat×SV)->Prop
 |[]=>True
 |p::r=>look t p.1=p.2∧aT t r
def pd(t:List (Nat×SV)):Option (Nat×SV)->Prop
 |none=>True
 |some p=>look t p.1=p.2
def F8(f:Nat->Prop):List Nat->Prop
 |[]=>True
 |m::r=>f m∧F8 f r
def yU(T:List (Option (Nat×SV)))(t:List (Nat×SV)):List Nat->Prop
 |[]=>True
 |j::r=>pd t (T.getD j none)∧yU T t r
def qK(kl:List (Nat×Nat))(i:Nat)(t a:List (Nat×SV)):Nat->List (Option (Nat×SV))->Prop
 |_,[]=>True
 |j,none::r=>qK kl i t a (j+1) r
 |j,some p::r=>(j=i∨kl.contains (i,p.1)=true∨(look t p.1=p.2->look a p.1=p.2))∧qK kl i t a (j+1) r
theorem Dj{kl:List (Nat×Nat)}{i:Nat}{t a:List (Nat×SV)}:∀(T:List (Option (Nat×SV)))(n:Nat),qK kl i t a n T->∀j p,T.getD j none=some p->n+j≠i->(i,p.1)∉kl->look t p.1=p.2->look a p.1=p.2
 |[],_,_,j,p,h,_,_,_=>by simp at h
 |x::r,n,h,j,p,hj,hi,hk,b=>by
  cases j with
  |zero=>
   rw[Te]at hj;subst hj;rcases h.1 with e|e|e
   .exact absurd e hi
   .exact absurd (Uy.1 e) hk
   .exact e b
  |succ j=>
   rw[Tx]at hj;have h':qK kl i t a (n+1) r:=by
    cases x with
    |none=>exact h
    |some _=>exact h.2
   exact Dj r (n+1) h' j p hj (by omega) hk b
def F9(kl:List (Nat×Nat))(t:List (Nat×SV)):List (Option (Nat×SV))->Prop
 |[]=>True
 |none::r=>F9 kl t r
 |some p::r=>((kl.any λq=>q.2==p.1)=true∨look t p.1=p.2)∧F9 kl t r
theorem wY{kl:List (Nat×Nat)}{t:List (Nat×SV)}:∀{T:List (Option (Nat×SV))},(∀p,some p∈T->(∀q∈kl,q.2≠p.1)->look t p.1=p.2)->F9 kl t T
 |[],_=>trivial
 |none::r,h=>wY (T:=r) λp hp=>h p (RO _ hp)
 |some p::r,h=>by
  refine⟨?_,wY (T:=r) λp hp=>h p (RO _ hp)⟩;cases e:kl.any λq=>q.2==p.1
  .right;refine h p (RR ..) λq b a=>?_;have:=Tp.1 e q b;simp[a]at this
  .exact .inl rfl
theorem aZ(q:Pos->Bool)(t:List (Nat×SV))(s:Nat):look (t.map λp=>(p.1,cB q p.2)) s=cB q (look t s):=aX q t s
theorem Dk{T:List (Option (Nat×SV))}{t:List (Nat×SV)}:∀{L:List Nat},yU T t L↔∀j∈L,∀p,T.getD j none=some p->look t p.1=p.2
 |[]=>by simp[yU]
 |j::r=>by
  rw[yU,Dk];simp only[RZ,forall_eq_or_imp];refine and_congr ⟨λh p e=>by rw[e]at h;exact h,λh=>?_⟩ Iff.rfl;cases e:T.getD j none with
  |none=>trivial
  |some p=>exact h p e
theorem jS{t:List (Nat×SV)}:∀{L:List (Nat×SV)},aT t L↔∀p∈L,look t p.1=p.2
 |[]=>by simp[aT]
 |p::r=>by rw[aT,jS];simp
theorem wZ{f:Nat->Prop}:∀{L:List Nat},F8 f L↔∀m∈L,f m
 |[]=>by simp[F8]
 |p::r=>by rw[F8,wZ];simp
namespace Tb
def postL(b:Tb)(i m:Nat)(t:List (Nat×SV))(s:St):Prop:=s.h=b.H (if b.ws.contains i=true then m+1 else m)∧pd s.t (b.T.getD i none)∧aT s.t b.B∧qK b.kl i t s.t 0 b.T
def steps(b:Tb)(P:Program)(D:List Nat)(ops:List Oper):List Oper->Nat->Prop
 |[],_=>True
 |o::r,i=>F8 (λm=>∀t,aT t b.B->yU b.T t (b.dpA i)->dV P D ops o (b.postL i m t) ⟨t,b.H m⟩) (b.lvA i)∧steps b P D ops r (i+1)
theorem steps_iff{P:Program}{D:List Nat}{ops:List Oper}{b:Tb}:∀{r:List Oper}{n:Nat},steps b P D ops r n->∀i o,r[i]?=some o->∀m∈b.lvA (n+i),∀t,aT t b.B->yU b.T t (b.dpA (n+i))->dV P D ops o (b.postL (n+i) m t) ⟨t,b.H m⟩
 |[],_,_,i,o,h=>by simp at h
 |x::r,n,h,i,o,ho=>by
  cases i with
  |zero=>simp only[Sr,Sf]at ho;subst ho;exact wZ.1 h.1
  |succ i=>
   have:=steps_iff h.2 i o (by simpa using ho)
   rwa [show n+1+i=n+(i+1) by omega]at this
end Tb
structure Tb.Inv (b:Tb) (ops:Array Oper) (l:Array Bool) (s:St):Prop where
  clo:∀i,nj l i=true->∀j∈cD ops i,nj l j=true
  lev:∃m,m<=b.ws.length∧(∀k,k<b.ws.length->(nj l (b.ws.getD k 0)=true↔k<m))∧s.h=b.H m
  bas:∀p∈b.B,look s.t p.1=p.2
  tab:∀j p,b.T.getD j none=some p->nj l j=true->(∀q∈b.kl,q.2=p.1->nj l q.1=false∨q.1∈cD ops j)->look s.t p.1=p.2
theorem Tb.post_of{b:Tb}{i m:Nat}{t:List (Nat×SV)}{s:St}(h:b.postL i m t s):
 s.h=b.H (if i∈b.ws then m+1 else m)∧(∀p,b.T.getD i none=some p->look s.t p.1=p.2)∧(∀p∈b.B,look s.t p.1=p.2)∧
 ∀j p,b.T.getD j none=some p->j≠i->(i,p.1)∉b.kl->look t p.1=p.2->look s.t p.1=p.2:=by
 obtain⟨d,c,a3,a4⟩:=h;refine⟨?_,λp hp=>?_,jS.1 a3,λj p hp e a f=>?_⟩
 .rw[d];simp only[Uy]
 .rw[hp]at c;exact c
 .exact Dj b.T 0 a4 j p hp (by omega) a f
structure Tb.Ok (b:Tb) (ops:Array Oper):Prop where
  nd:b.ws.Nodup
  c1:∀i,i<ops.size->∀j∈b.dpA i,j∈cD ops i∨Hv ops 3 j i=true
  c2:∀k,k+1<b.ws.length->b.ws.getD k 0∈cD ops (b.ws.getD (k+1) 0)
  c3:∀i,i<ops.size->∀m,m<=b.ws.length->m∈b.lvA i∨∃k,k<b.ws.length∧((k<m∧(b.ws.getD k 0=i∨Hv ops 3 i (b.ws.getD k 0)=true))∨(¬k<m∧Hv ops 3 (b.ws.getD k 0) i=true))
  c4:∀i,i<ops.size->∀j∈b.dpA i,∀q∈b.kl,b.dst j≠some q.2∨q.1=i∨i∈cD ops q.1∨q.1∈cD ops j
  c5:∀w∈b.ws,w<ops.size
  c6:∀i,i<ops.size->∀j∈cD ops i,j<i
  c7:b.T.length<=ops.size
  hwk:∀k,k<b.ws.length->b.ws.getD k 0∈b.ws
theorem Tb.ok{b:Tb}{ops:Array Oper}(a:b.okB ops=true):b.Ok ops:=by
 unfold Tb.okB at a;simp only[RG]at a;obtain⟨⟨⟨⟨⟨⟨⟨c1,c2⟩,c3⟩,c4⟩,c5⟩,c6⟩,c7⟩,e⟩:=a;have c7:b.T.length<=ops.size:=by simpa using c7
 have d:b.ws.Nodup:=by simpa using e
 have c1:∀i,i<ops.size->∀j∈b.dpA i,j∈cD ops i∨Hv ops 3 j i=true:=λi hi j hj=>by
  have:=R3.1 c1 i (SK.2 hi);simpa using R3.1 this j hj
 have c2:∀k,k+1<b.ws.length->b.ws.getD k 0∈cD ops (b.ws.getD (k+1) 0):=λk hk=>by
  have:=R3.1 c2 k (SK.2 (by omega));simpa using this
 have c3:∀i,i<ops.size->∀m,m<=b.ws.length->m∈b.lvA i∨∃k,k<b.ws.length∧((k<m∧(b.ws.getD k 0=i∨Hv ops 3 i (b.ws.getD k 0)=true))∨(¬k<m∧Hv ops 3 (b.ws.getD k 0) i=true)):=λi hi m l=>by
  have:=R3.1 (R3.1 c3 i (SK.2 hi)) m (SK.2 (by omega));rw[SN]at this;rcases this with h|h
  .exact .inl (by simpa using h)
  .right;obtain⟨k,hk,h⟩:=Ti.1 h;refine⟨k,SK.1 hk,?_⟩
   by_cases c:k<m
   .rw[Rx c]at h;exact .inl ⟨c,by simpa using h⟩
   .rw[Rw c]at h;exact .inr ⟨c,by simpa using h⟩
 have c4:∀i,i<ops.size->∀j∈b.dpA i,∀q∈b.kl,b.dst j≠some q.2∨q.1=i∨i∈cD ops q.1∨q.1∈cD ops j:=λi hi j hj q f=>by
  have:=R3.1 (R3.1 (R3.1 c4 i (SK.2 hi)) j hj) q f;simp only[SN,bne_iff_ne,Vg,Uy]at this;rcases this with((h|h)|h)|h
  .exact .inl h
  .exact .inr (.inl h)
  .exact .inr (.inr (.inl h))
  .exact .inr (.inr (.inr h))
 have c5:∀w∈b.ws,w<ops.size:=λw g=>by simpa using R3.1 c5 w g
 have c6:∀i,i<ops.size->∀j∈cD ops i,j<i:=λi hi j hj=>by
  have:=R3.1 (R3.1 c6 i (SK.2 hi)) j hj;simpa using this
 have hwk:∀k,k<b.ws.length->b.ws.getD k 0∈b.ws:=λk hk=>by rw[Rv,Ru hk];exact Rz hk
 exact⟨d,c1,c2,c3,c4,c5,c6,c7,hwk⟩
theorem Tb.Inv.reach{b:Tb}{ops:Array Oper}{l:Array Bool}{s:St}(c:b.Inv ops l s):∀(n i j:Nat),(∀e∈cD ops j,nj l e=true)->Hv ops n i j=true->nj l i=true
 |0,_,_,_,h=>by cases h
 |n+1,i,j,hj,h=>by
  obtain⟨e,d,h⟩:=Ti.1 h;rw[SN]at h;rcases h with h|h
  .rw[←Vg.1 h];exact hj e d
  .exact c.reach n i e (λe' a=>c.clo e (hj e d) e' a) h
section
variable {b : Tb} {ops : Array Oper} {l : Array Bool} {s : St} {i : Nat}
theorem Tb.now(ho:b.Ok ops)(E:l.size=ops.size)(d:b.Inv ops l s)(A:i∈Region.ready .any ops l):∃m,m∈b.lvA i∧s.h=b.H m∧aT s.t b.B∧yU b.T s.t (b.dpA i)∧(m<=b.ws.length∧∀k,k<b.ws.length->(nj l (b.ws.getD k 0)=true↔k<m)):=by
 obtain⟨y,c1,c2,c3,c4,c5,c6,c7,hwk⟩:=ho;obtain⟨o,D,r3⟩:=lp A;have c:nj l i=false:=by
  unfold nj;have g:i<l.size:=by omega
  simpa[Array.getD,g]using D
 have a:∀j∈cD ops i,nj l j=true:=r3;obtain⟨m,r,n,C⟩:=d.lev;have x:m∈b.lvA i:=by
  rcases c3 i o m r with h|⟨k,hk,⟨h1,f⟩|⟨h1,f⟩⟩
  .exact h
  .have ht:=(n k hk).2 h1;rcases f with f|f
   .rw[f,c]at ht;cases ht
   .have:=d.reach 3 i _ (λe v=>d.clo _ ht e v) f;rw[c]at this;cases this
  .exact absurd ((n k hk).1 (d.reach 3 _ i a f)) h1
 have u:∀j∈b.dpA i,∀p,b.T.getD j none=some p->look s.t p.1=p.2:=λj hj p hp=>by
  refine d.tab j p hp ((c1 i o j hj).elim (a j) λh=>d.reach 3 j i a h) λq z e=>?_;rcases c4 i o j hj q z with h|h|h|h
  .exact absurd (by unfold Tb.dst;rw[hp,e];rfl) h
  .rw[h];exact .inl c
  .cases w:nj l q.1
   .exact .inl rfl
   .have:=d.clo _ w i h;rw[c]at this;cases this
  .exact .inr h
 exact⟨m,x,C,jS.2 d.bas,Dk.2 u,r,n⟩
theorem Tb.next(ho:b.Ok ops)(N:l.size=ops.size)(y:b.Inv ops l s)(H:i∈Region.ready .any ops l){m:Nat}(E:m<=b.ws.length∧∀k,k<b.ws.length->(nj l (b.ws.getD k 0)=true↔k<m)){s':St}(hp:b.postL i m s.t s'):b.Inv ops (l.setIfInBounds i true) s':=by
 obtain⟨B,c1,c2,c3,c4,c5,c6,c7,hwk⟩:=ho;obtain⟨I,w⟩:=E;obtain⟨O,M,r3⟩:=lp H;have n:nj l i=false:=by
  unfold nj;have z:i<l.size:=by omega
  simpa[Array.getD,z]using M
 have f:∀j∈cD ops i,nj l j=true:=r3;obtain⟨x,J,K,L⟩:=Tb.post_of hp;have a:∀j,nj (l.setIfInBounds i true) j=if i=j then true else nj l j:=Di (by omega);refine⟨λC g j hj=>?_,?_,K,λj p hj u hk=>?_⟩
 .rw[a]at g⊢
  by_cases e:i=j
  .rw[Rx e]
  .rw[Rw e]
   by_cases c:i=C
   .rw[←c]at hj;exact f j hj
   .rw[Rw c]at g;exact y.clo C g j hj
 .by_cases v:i∈b.ws
  .rw[Rx v]at x;obtain⟨k,hk,e⟩:=RJ v;have e':b.ws.getD k 0=i:=by rw[Rv,Ru hk];exact e
   have D:¬k<m:=λh=>by have:=(w k hk).2 h;rw[e',n]at this;cases this
   have o:k=m:=by
    apply RW;intro F;have h1:=c2 (k -1) (by omega);rw[show k -1+1=k by omega,e']at h1;have:=(w (k -1) (by omega)).1 (f _ h1);omega
   subst o;refine⟨k+1,by omega,λk' d=>?_,x⟩;rw[a]
   by_cases c:i=b.ws.getD k' 0
   .rw[Rx c];have:k'=k:=by
     rw[Rv,Ru d,Sa,←e]at c;have r:=R9.1 B;rcases TM k k' with q|q|q
     .exact absurd c (r k k' hk d q)
     .exact q.symm
     .exact absurd c.symm (r k' k d hk q)
    simp[this]
   .rw[Rw c,w k' d];have:k'≠k:=λh=>c (by rw[h,e']);omega
  .rw[Rw v]at x;refine⟨m,I,λk hk=>?_,x⟩;rw[a,Rw (λe:i=b.ws.getD k 0=>v (e▸hwk k hk))];exact w k hk
 .rw[a]at u
  by_cases e:i=j
  .subst e;exact J p hj
  .rw[Rw e]at u;have A:(i,p.1)∉b.kl:=λh=>by
    rcases hk (i,p.1) h rfl with this|this
    .rw[a,Rx rfl]at this;cases this
    .have:=y.clo j u i this;rw[n]at this;cases this
   refine L j p hj (λh=>e h.symm) A (y.tab j p hj u λq G c=>?_);refine(hk q G c).imp (λthis=>?_) id;rw[a]at this;split at this
   .cases this
   .exact this
theorem Tb.fin(ho:b.Ok ops)(E:l.size=ops.size)(g:b.Inv ops l s)(z:Region.ready .any ops l=[]):(∀j,j<ops.size->nj l j=true)∧s.h=b.H b.ws.length∧aT s.t b.B∧F9 b.kl s.t b.T:=by
 obtain⟨w,c1,c2,c3,c4,c5,c6,c7,hwk⟩:=ho;have c:∀n j,j<n->j<ops.size->nj l j=true:=by
  intro n
  induction n with
  |zero=>intro j h;omega
  |succ n A=>
   intro j hj a;apply RW;intro hn;have:j∈Region.ready .any ops l:=by
    unfold Region.ready;rw[Ss];refine⟨SK.2 a,?_⟩;have d:j<l.size:=by omega
    have i:l[j]=false:=by
     unfold nj at hn;simpa[Array.getD,d]using hn
    rw[RQ a];simp only[Sx,Sa,RG,Sk];refine⟨by simp[Array.getD,d,i],?_⟩;rw[Ve];intro e u;cases r:Region.binds .any e
    .rfl
    .have hd:e.on∈cD ops j:=by
      unfold cD;rw[RQ a];exact RE.2 ⟨e,Ss.2 ⟨Vy.2 u,r⟩,rfl⟩
     have h1:=c6 j a _ hd;have k:=A e.on (by omega) (by omega);unfold nj at k;simp[k]
   rw[z]at this;cases this
 have f:=λj hj=>c (j+1) j (Uu j) hj;obtain⟨m,F,C,D⟩:=g.lev;have v:m=b.ws.length:=by
  apply RW;intro x;have:=(C m (by omega)).1 (f _ (c5 _ (hwk m (by omega))));omega
 subst v;exact⟨f,D,jS.2 g.bas,wY λp hp hk=>by
  obtain⟨j,hj,e⟩:=RJ hp;exact g.tab j p (by rw[Rv,Ru hj,e];rfl) (f j (SM hj c7)) λq y o=>absurd o (hk q y)⟩
theorem Tb.beg{t:List (Nat×SV)}(a:aT t b.B):b.Inv ops (Array.replicate ops.size false) ⟨t,b.H 0⟩:=by
 have h0:∀i,nj (Array.replicate ops.size false) i=false:=λi=>by
  unfold nj;simp only[RM,Tg];split<;>rfl
 exact⟨λi hi=>(by rw[h0]at hi;cases hi),⟨0,RL _,λk _=>by rw[h0];simp,rfl⟩,jS.1 a,λj p _ hj=>(by rw[h0]at hj;cases hj)⟩
end
theorem cv.of{P:Program}{D:List Nat}{ops:Array Oper}{i:Nat}{K:St->Prop}{s:St}(hi:i<ops.size)(h:dV P D ops.toList ops[i] K s):cv P D ops.toList i K s:=by
 unfold cv;rw[RC,RQ hi];exact h
theorem aQ.tab{P:Program}{k0:Nat}{ops:Array Oper}{K:St->Prop}{st:St}(D:List Nat)(b:Tb)(o:St)(k:b.okB ops=true)
 (r:aT st.t b.B) (u:st.h=b.H 0)
 (a:b.steps P D ops.toList ops.toList 0)
 (c:∀t,aT t b.B->F9 b.kl t b.T->ah k0 ⟨t,b.H b.ws.length⟩ o) (v:K o):aQ P k0 ops K st:=by
 have ho:=Tb.ok k;refine aQ.inv D (λl s=>b.Inv ops l s) ?_ ?_ ?_
 .have:=Tb.beg (ops:=ops) r;rw[←u]at this;exact this
 .intro l s i g f d;obtain⟨m,w,n,h1,j,q⟩:=Tb.now ho g f d;have p:=(lp d).1;have e:=Tb.steps_iff a i ops[i] (by rw[RC,RQ p]) m (by rw[Sv];exact w) s.t h1 (by rw[Sv];exact j);rw[Sv,←n]at e;exact⟨_,cv.of p e,λs' hp=>Tb.next ho g f d q hp⟩
 .intro l s g f d;obtain⟨_,n,h1,j⟩:=Tb.fin ho g f d;have:=c s.t h1 j;rw[←n]at this;exact⟨o,this,v⟩
def Tb.wth(b:Tb)(k:Nat)(T:List (Option (Nat×SV)))(H:Nat->List (List SV)):Tb:=⟨T,b.B,b.dp,b.ws,b.lv,b.kl,λm=>if m<=k then b.H m else H m⟩
def Px(dl:List Nat):Nat->List (Option (Nat×SV))->List (Option (Nat×SV))->Prop
 |j,x::r,y::a=>(dl.contains j=true∨x=y)∧Px dl (j+1) r a
 |_,[],[]=>True
 |_,_,_=>False
theorem Dl{dl:List Nat}:∀{T T':List (Option (Nat×SV))}{n:Nat},Px dl n T T'->∀j,n+j∉dl->T'.getD j none=T.getD j none
 |[],[],_,_,_,_=>rfl
 |x::r,y::a,n,h,j,hj=>by
  cases j with
  |zero=>
   rcases h.1 with e|e
   .exact absurd (Uy.1 e) hj
   .rw[Te,Te,e]
  |succ j=>
   rw[Tx,Tx];exact Dl h.2 j (by rwa [show n+1+j=n+(j+1) by omega])
 |[],_::_,_,h,_,_=>h.elim
 |_::_,[],_,h,_,_=>h.elim
def Tb.steps2{ι:Type}(b:Tb)(T:ι->List (Option (Nat×SV)))(H:ι->Nat->List (List SV))(J:ι->Prop)(w k:Nat)(P:Program)(D:List Nat)(ops:List Oper):List Oper->Nat->Prop
 |[],_=>True
 | o :: r, i => F8 (λ m => ∀ t, aT t b.B -> if m <= k then yU b.T t (b.dpA i) -> dV P D ops o (λ s => if i = w then ∃ y, J y ∧ (b.wth k (T y) (H y)).postL i m t s else b.postL i m t s) ⟨t, b.H m⟩
  else∀y,J y->yU (T y) t (b.dpA i)->dV P D ops o ((b.wth k (T y) (H y)).postL i m t) ⟨t,H y m⟩) (b.lvA i)∧steps2 b T H J w k P D ops r (i+1)
theorem Tb.steps2_iff {ι : Type} {b : Tb} {T : ι -> List (Option (Nat × SV))} {H : ι -> Nat -> List (List SV)} {J : ι -> Prop} {w k : Nat} {P : Program} {D : List Nat} {ops : List Oper} : ∀ {r : List Oper} {n : Nat}, b.steps2 T H J w k P D ops r n -> ∀ i o, r[i]? = some o -> ∀ m ∈ b.lvA (n + i), ∀ t, aT t b.B -> if m <= k then yU b.T t (b.dpA (n + i)) -> dV P D ops o (λ s => if n + i = w then ∃ y, J y ∧ (b.wth k (T y) (H y)).postL (n + i) m t s else b.postL (n + i) m t s) ⟨t, b.H m⟩
      else∀y,J y->yU (T y) t (b.dpA (n+i))->dV P D ops o ((b.wth k (T y) (H y)).postL (n+i) m t) ⟨t,H y m⟩
  |[],_,_,i,o,h=>by simp at h
  |x::r,n,h,i,o,ho=>by
    cases i with
    |zero=>simp only[Sr,Sf]at ho;subst ho;exact wZ.1 h.1
    |succ i=>
      have:=steps2_iff h.2 i o (by simpa using ho)
      rwa [show n+1+i=n+(i+1) by omega]at this
theorem aQ.tab2{P:Program}{k0:Nat}{ops:Array Oper}{K:St->Prop}{st:St}{ι:Type}(D:List Nat)(b:Tb)(T:ι->List (Option (Nat×SV)))(H:ι->Nat->List (List SV))(J:ι->Prop)(w k:Nat)(dl:List Nat)
 (Q:b.okB ops=true) (F:∀y,(b.wth k (T y) (H y)).okB ops=true) (U:b.ws[k]?=some w) (L:dl.all (λj=>j==w||(cD ops j).contains w)=true)
 (Y:∀y,Px dl 0 b.T (T y)) (W:aT st.t b.B) (X:st.h=b.H 0) (f:b.steps2 T H J w k P D ops.toList ops.toList 0)
 (A:∀y,J y->∀t,aT t b.B->F9 b.kl t (T y)->∃I,ah k0 ⟨t,H y b.ws.length⟩ I∧K I):aQ P k0 ops K st:=by
 have ho:=Tb.ok Q;have n:=λy=>Tb.ok (F y);obtain⟨u,N⟩:=Rt.1 U;have E:b.ws.getD k 0=w:=by rw[Rv,U];rfl
 have R:w<ops.size:=ho.c5 w (N▸Rz u);refine aQ.inv D (λl s=>if nj l w=true then∃y,J y∧(b.wth k (T y) (H y)).Inv ops l s else b.Inv ops l s) ?_ ?_ ?_
 .have:=Tb.beg (ops:=ops) W;rw[←X]at this;rw[Rw]
  .exact this
  .unfold nj;simp only[RM,Tg];split<;>simp
 .intro l s i r c o;have G:=(lp o).1;have d:∀j,nj (l.setIfInBounds i true) j=if i=j then true else nj l j:=Di (by omega)
  by_cases hd:nj l w=true
  .rw[Rx hd]at c;obtain⟨y,hy,c⟩:=c;obtain⟨m,O,x,h1,z,q⟩:=Tb.now (n y) r c o;have v:k<m:=(q.2 k u).1 (by rw[show(b.wth k (T y) (H y)).ws=b.ws from rfl,E];exact hd);have a:=Tb.steps2_iff f i ops[i] (by rw[RC,RQ G]) m (by rw[Sv];exact O) s.t h1;rw[Rw (by omega),Sv]at a;have a:=a y hy z;rw[show H y m=(b.wth k (T y) (H y)).H m by unfold Tb.wth;simp only;rw[Rw (by omega)],←x]at a;refine⟨_,cv.of G a,λs' hp=>?_⟩;rw[Rx (by rw[d,hd];split<;>rfl)];exact⟨y,hy,Tb.next (n y) r c o q hp⟩
  .rw[Rw hd]at c;obtain⟨m,O,x,h1,z,q⟩:=Tb.now ho r c o;have v:m<=k:=Th λh=>hd (E▸(q.2 k u).2 h);have a:=Tb.steps2_iff f i ops[i] (by rw[RC,RQ G]) m (by rw[Sv];exact O) s.t h1;rw[Rx v,Sv]at a;have a:=a z;rw[←x]at a;refine⟨_,cv.of G a,λs' hp=>?_⟩
   by_cases g:i=w
   .rw[Rx g]at hp;obtain⟨y,hy,hp⟩:=hp;rw[Rx (by rw[d,Rx g])];refine⟨y,hy,Tb.next (n y) r ?_ o q hp⟩;refine⟨c.clo,⟨m,q.1,q.2,by rw[x];unfold Tb.wth;simp only;rw[Rx v]⟩,c.bas,λj p hj M hk=>c.tab j p ?_ M hk⟩;rw[←Dl (Y y) j]
    .exact hj
    .intro C;rw[Sv]at C;have:=R3.1 L j C;rw[SN]at this;rcases this with e|e
     .exact hd ((Vg.1 e)▸M)
     .exact hd (c.clo j M w (Uy.1 e))
   .rw[Rw g]at hp;rw[Rw (by rw[d,Rw g];exact hd)];exact Tb.next ho r c o q hp
 .intro l s r c o
  by_cases hd:nj l w=true
  .rw[Rx hd]at c;obtain⟨y,hy,c⟩:=c;obtain⟨_,x,h1,z⟩:=Tb.fin (n y) r c o;obtain⟨I,S,V⟩:=A y hy s.t h1 z;refine⟨I,?_,V⟩;have e:(b.wth k (T y) (H y)).H (b.wth k (T y) (H y)).ws.length=H y b.ws.length:=by unfold Tb.wth;simp only;rw[Rw (by omega)]
   rw[e]at x;rw[←x]at S;exact S
  .rw[Rw hd]at c;exact absurd ((Tb.fin ho r c o).1 w R) hd
end Go.AX