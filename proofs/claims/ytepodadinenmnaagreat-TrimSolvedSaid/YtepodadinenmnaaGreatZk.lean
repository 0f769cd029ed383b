/-
  AX, part Ap: a slice of one's own becomes a block; append onto a slice of a block; regions by what is carried out; and what follows.
-/
import Derived.Test.YtepodadinenmnaaGreatZ8
namespace Go.AX
section
def Gw{ι:Type}(k0:Nat)(st:St)(S:ι->St):Prop:=∀g a w,g.n0<=k0->Sim g st a w->∃g' i,g.to g'∧Sim g' (S i) a w
theorem jF.weak{P:aa}{k0:Nat}{ops:Array ai}{K:St->Prop}{st:St}{ι:Type}(S:ι->St)(d:Gw k0 st S)(h:∀i,jF P k0 ops K (S i)):jF P k0 ops K st:=λg a w h0 hs hd Q c=>by
 obtain⟨g',i,t,s'⟩:=d g a w h0 hs;exact h i g' a w (by rw[t.n0];exact h0) s' (by rw[t.N];exact hd) Q λst' g2 b w' hk f e=>c st' g2 b w' hk (t.trans f) e
theorem jF.ops{P:aa}{k0:Nat}{ops:Array ai}{K:St->Prop}{st:St}(h:lL P ops.toList K ops.toList st):jF P k0 ops K st:=λ_ _ _ _ hs hd _ a=>ud ops.toList h hs hd a
theorem aK.flat{g:Gh}{e:Nat}:∀{rows:aT}{vs:aG},aK g e rows vs->ax g rows.flatten vs
 |[],vs,h=>h
 |row::rows,vs,⟨c,d,h1,_,a,b⟩=>by
  subst h1;rw[Yu];exact ax.append a (aK.flat b)
theorem ax.bots{g:Gh}:∀(vs:aG),ax g (List.replicate vs.length PV.bot) vs
 |[]=>rfl
 |v::vs=>⟨v,vs,rfl,trivial,ax.bots vs⟩
theorem Sim.adoptS{g:Gh}{st:St}{a:Act}{w:ab}(h:Sim g st a w){s e:Nat}{nw:Bool}{rows:aT}(W:look st.t s=.own nw e rows)(X:rows≠[]):
 ∃g' cap,g.to g'∧rows.length<=cap∧Sim g' ⟨(s,.pv (.bsl st.h.length e 0 rows.length cap))::st.t,st.h++[(rows.flatten++List.replicate ((cap -rows.length)*e) PV.bot).map SV.pv]⟩ a w:=by
 obtain⟨bl,o⟩:=h.own;have L:=o.slots s;rw[W]at L;rcases L with⟨_,Q,_⟩|⟨c,V,cap,arr,T,vs,Q,C,e3,⟨e4,ad,M⟩,e5,e6,e7⟩;exact absurd Q X;obtain⟨rest,l⟩:=e6;have Z:=e5.length;have S:arr.toList.length=cap*e:=by rw[Wm];exact e3
 have Y:rest.length=(cap -rows.length)*e:=by
  rw[←l,Vz,Z]at S;rw[Nat.sub_mul];omega
 obtain⟨ps,J⟩:∃ps,ps=rows.flatten++List.replicate ((cap -rows.length)*e) PV.bot:=⟨_,rfl⟩;have r:ax g ps arr.toList:=by
  rw[J,←l,←Y];exact ax.append e5.flat (ax.bots rest)
 obtain⟨s0,A,f,_,_,D⟩:=h.drop o (.slot s);obtain⟨f1,f2,f3,f4⟩:=D c V;obtain⟨g',E⟩:∃g':Gh,g'={g with n:=g.n+1,μ:=λb=>if b=g.n then c else g.μ b}:=⟨_,rfl⟩;have hle:g.le g':=by subst E;exact⟨λ_ _ h=>h,Vu _,Xt _,λb o=>Vs (by omega)⟩
 have hn:=h.n;refine⟨g',cap,by subst E;exact⟨λ_ _ h=>h,rfl,rfl,rfl,rfl,rfl,Wb h.n0 (Xt _),λb af=>Vs (by have:=h.n0;omega),λ_ _ h=>h⟩,e4,?_⟩;rw[←J];clear J;have i:∀u,u≠s->look ((s,SV.pv (.bsl st.h.length e 0 rows.length cap))::st.t) u=look ((s,SV.pv .bot)::st.t) u:=λu z=>by simp only[look];rw[Vs (Yg z),Vs (Yg z)]
 have d:look ((s,SV.pv (.bsl st.h.length e 0 rows.length cap))::st.t) s=.pv (.bsl st.h.length e 0 rows.length cap):=by simp[look]
 subst E;refine{size:=h.size,defs:=h.defs,env:=h.env,n:=by simp[hn],n0:=Wb h.n0 (Xt _),B:=h.B,I:=h.I,F:=h.F,μI:=λb o=>?_,μinj:=λb b' o U K=>?_,own:=⟨λp=>match p with|.slot u=>A (.slot u)|.cell b k=>if b=g.n then none else A (.cell b k),?_⟩,al:=λu=>?_};by_cases e:b=g.n;simp only[e,Xl];exact⟨f1,f2⟩;simp only[e,WM];exact h.μI b (by have:b<g.n+1:=o;omega);have ae:b<g.n+1:=o;have aa:b'<g.n+1:=U;by_cases e:b=g.n;by_cases e':b'=g.n;omega;simp only[e,e',Xl,WM]at K;exact absurd K.symm (f3 b' (by omega));by_cases e':b'=g.n;simp only[e,e',Xl,WM]at K;exact absurd K (f3 b (by omega));simp only[e,e',WM]at K;exact h.μinj b b' (by omega) (by omega) K;refine{slots:=λu=>?_,blocks:=λb ys hy=>?_,inj:=λp q k hp m=>?_,free:=λp k hp=>?_};by_cases z:u=s;subst z;have O:=f.slots u;rw[show look (setPos st (.slot u) (.pv .bot)).t u=.pv .bot by simp[setPos,look]]at O;rw[d];refine⟨O.1,?_,e4,?_⟩;show st.h.length<g.n+1;omega;rw[Q,←hn];simp;have O:=f.slots u;rw[i u z];exact aO.frame hle (λ_ _=>rfl) O;by_cases e:b=g.n;subst e;rw[hn,VM (Vu _),Xr]at hy;simp only[Wu,Wc]at hy;subst hy;refine⟨arr,T,by simp only[Xl];exact C,⟨by rw[VA,←r.length,Wm],M⟩,λk x hk=>?_⟩;rw[VO]at hk;cases G:ps[k]?with
 |none=>rw[G]at hk;cases hk
 |some y=>
  rw[G]at hk;simp only[Wq,Wc]at hk;subst hk;obtain⟨v,P,hf⟩:=r.get k y G;have:arr[k]?=some v:=by rw[←Vw];exact P
  refine⟨rfl,by simp,?_⟩;rw[VJ,this];exact Fit.mono hle _ _ hf
 have H:b<st.h.length:=by
  have:=(Vp.1 hy).1;simp only[Vz,Wi]at this;omega
 rw[Vv H]at hy;obtain⟨arr',T',h1,h2,h3⟩:=f.blocks b ys hy;refine⟨arr',T',by simp only[e,WM];exact h1,h2,λk x hk=>?_⟩;simp only[e,WM];exact⟨(h3 k x hk).1,aO.frame hle (λ_ _=>rfl) (h3 k x hk).2⟩;cases p with
 |slot u=>cases q with
  |slot v=>exact f.inj _ _ k hp m
  |cell b j=>
   dsimp only at m;split at m;cases m;exact f.inj _ _ k hp m
 |cell b j=>
  dsimp only at hp;split at hp;cases hp;cases q with
  |slot v=>exact f.inj _ _ k hp m
  |cell b2 j2=>
   dsimp only at m;split at m;cases m;exact f.inj _ _ k hp m
 have N:A p=some k:=by
  cases p with
  |slot u=>exact hp
  |cell b j=>
   dsimp only at hp;split at hp;cases hp;exact hp
 obtain⟨q1,q2,q3,q4⟩:=f.free p k N;refine⟨q1,q2,q3,λb o=>?_⟩;by_cases e:b=g.n;simp only[e,Xl];intro e2;exact f4 p (e2▸N);simp only[e,WM];exact q4 b (by have:b<g.n+1:=o;omega);by_cases z:u=s;subst z;rw[d];trivial;rw[i u z];refine cL.congr (λp hp=>?_) (s0.al u);cases p with
 |slot v=>
  by_cases P:v=s;subst P;simp only[aj,d]at hp;cases hp;simp only[aj];exact⟨i v P,rfl⟩
 |cell b k=>
  have H:b<st.h.length:=by
   apply Yy;intro ag;simp only[aj]at hp;by_cases e:b=st.h.length;subst e;have R:(st.h++[ps.map SV.pv]).getD st.h.length []=ps.map SV.pv:=by simp[Vr]
   rw[R,Vr,VO]at hp;cases h9:ps[k]?<;>rw[h9]at hp<;>cases hp;have R:(st.h++[ps.map SV.pv]).getD b []=[]:=by rw[Vr,V4 (by simp;omega)];rfl
   rw[R]at hp;cases hp
  refine⟨?_,?_⟩;simp only[aj,setPos,Vr];rw[Vv H];have e:b≠g.n:=by omega
  simp only[aA,e,WM]
theorem aK.sing{g:Gh}:∀{ys:aD}{vs:aG},(∀v∈vs,v.oneCell'=true)->ax g ys vs->aK g 1 (ys.map λy=>[y]) vs
 |[],_,_,h=>h
 |y::ys,_,ho,⟨v,r,h1,b,c⟩=>by
  subst h1;exact⟨[v],r,rfl,⟨rfl,λu a=>by rw[VY]at a;rw[a];exact ho v VN⟩,⟨v,[],rfl,b,rfl⟩,aK.sing (λu a=>ho u (VG _ a)) c⟩
theorem ax.of_get{g:Gh}:∀{ys:aD}{vs:aG},ys.length=vs.length->(∀(k:Nat) y v,ys[k]?=some y->vs[k]?=some v->Fit g y v)->ax g ys vs
 |[],[],_,_=>rfl
 |[],_::_,h,_=>by simp at h
 |_::_,[],h,_=>by simp at h
 |y::ys,v::vs,h,a=>⟨v,vs,rfl,a 0 y v rfl rfl,ax.of_get (by simpa using h) λk d c h1 b=>a (k+1) d c (by simpa using h1) (by simpa using b)⟩
theorem zI(ys:aD):(ys.map λy=>[y]).flatten=ys:=by
 induction ys with
 |nil=>rfl
 |cons y ys a=>rw[VP,Yu,a];rfl
theorem Ea{P:aa}{st:St}(o:ai)(t:ah)(s x:ae)(d bt b n cap:Nat){xs:bj}{ys:aD}(ho:o.op=.call {callee:=.builtin .append,args:=#[s,x],argTypes:=#[t,t]}) (hd:o.dst=some d)
    (hi:cF P t=some (1,bt)) (ak:0<bt) (av:gc st s) (hs:mv st s=.pv (.bsl b 1 0 n cap)) (aw:gc st x) (hx:jV st 1 (mv st x)) (ab:rowsOf st (mv st x)≠[])
    (aj:st.h[b]?=some xs) (aG:cap<=xs.length) (aB:xs.take n=ys.map SV.pv) (aA:ys.length=n)
    (H:(n+(rowsOf st (mv st x)).length)*bt<=140737488355328) {N:Nat} (hN:d<N):
    ∀g a w,g.N=N->Sim g st a w->∃v w' g',(execOp a.eval o).run P w=.ok (.value v) w'∧g.to g'∧
      ((n + (rowsOf st (mv st x)).length <= cap ∧ Sim g' ⟨(d, .pv (.bsl b 1 0 (n + (rowsOf st (mv st x)).length) cap)) :: aW (a8 b n (rowsOf st (mv st x)).length) st.t, st.h.set b (splice xs n ((rowsOf st (mv st x)).flatten.map SV.pv))⟩ (a.put o.dst v) w') ∨
       (cap < n + (rowsOf st (mv st x)).length ∧ ∃ p, n + (rowsOf st (mv st x)).length <= p ∧
        Sim g' ⟨(d,.pv (.bsl st.h.length 1 0 (n+(rowsOf st (mv st x)).length) p))::(d,.own true 1 ((ys.map λy=>[y])++rowsOf st (mv st x)))::aW (dx d) st.t,st.h++[(ys++(rowsOf st (mv st x)).flatten++List.replicate (p -(n+(rowsOf st (mv st x)).length)) PV.bot).map SV.pv]⟩ (a.put o.dst v) w')):=by
  intro g a w hg h
  obtain⟨bl,hb⟩:=h.own
  obtain⟨Z,has⟩:=bm h s av
  rw[hs]at Z
  obtain⟨_,an,aL,G⟩:=Z
  obtain⟨q,k,news,ag,r,aq⟩:=gH h aw hx
  obtain⟨W,rfl,E⟩:∃W:Addr,q=some W∧∀(j:Nat) u,news[j]?=some u->w.cell? (W.add j)=some u:=by
    rcases aq with I|I
    · exact absurd I ab
    · exact I
  obtain⟨arr,T,c1,⟨c2,X⟩,c3⟩:=hb.blocks b xs aj
  obtain⟨K,i,z,hu,M,hz,F,ao,aF,aC⟩:=oJ hi
  have U:news.length=(rowsOf st (mv st x)).length*i.size:=by rw[F];exact r.length
  have O:news.length=(rowsOf st (mv st x)).length:=by rw[U,F,Zh]
  have aJ:0<(rowsOf st (mv st x)).length:=WJ.2 ab
  generalize hR:rowsOf st (mv st x)=R at*
  have S:R.flatten.length=R.length:=by have:=r.flat.length;omega
  by_cases A:n+R.length<=cap
  · have L:n*i.size+news.length<=arr.size:=by rw[F,O];omega
    have hr:=pD (P:=P) w t o.type K i hu M (g.μ b) n cap T arr c1 W R.length k news U E r.one A L
    rw[F,Zh]at hr L
    have hB:=h.blockWrite (k0:=n) (ys:=R.flatten) (vs:=news) (arr':=(splice arr.toList n news).toArray) (w':=w.setRow (g.μ b) (splice arr.toList n news).toArray) aj (by omega) c1 r.flat r.one rfl (by simp) (λc I=>setRow_other w (g.μ b) c _ I) ⟨T,setRow_heap w (g.μ b) arr _ T _ c1⟩ (by simp)
    rw[S]at hB
    refine⟨.slice (some ⟨g.μ b,0,none⟩) (n+R.length) cap,w.setRow (g.μ b) (splice arr.toList n news).toArray,g,?_,h.refl_to,.inl ⟨A,?_⟩⟩
    · simp only[execOp,ho,resolve,invoke,builtin,YU,VP,Xg,bD,bN,bK,G,ag,hr]
    · rw[hd]
      exact hB.put (hg▸hN) (sv:=.pv (.bsl b 1 0 (n+R.length) cap)) ⟨rfl,an,A,rfl⟩ trivial rfl
  · have C:cap<n+R.length:=by omega
    have aE:∀m,∀v∈(Builtin.zeroCells z.cells m).toList,v.oneCell'=true:=λm v G=>by
      simp only[Builtin.zeroCells,YT,VB]at G
      obtain⟨j,hj,rfl⟩:=G
      by_cases e:z.cells.size=0
      · rw[e]at hj;simp at hj
      · have C:j %z.cells.size<z.cells.size:=aas _ (by omega)
        rw[XW z.cells (j %z.cells.size) C]
        exact aC _ (YJ C)
    obtain⟨f,J⟩:∃f,f=arr.toList.take n:=⟨_,rfl⟩
    have aI:arr.toList.length=xs.length:=by rw[Wm];exact c2
    have Q:f.length=n:=by rw[J,Vy];omega
    have ar:ax g ys f:=ax.of_get (by omega) λj y v hy G=>by
      have hj:j<n:=by have:=(Vp.1 hy).1;omega
      have h1:xs[j]?=some (.pv y):=by
        have:(xs.take n)[j]?=some (.pv y):=by rw[aB,VO,hy];rfl
        rwa [Wg,Vt hj]at this
      have h2:arr[j]?=some v:=by
        rw[J,Wg,Vt hj]at G
        rw[←Vw];exact G
      have h3:=(c3 j _ h1).2.2
      rw[VJ,h2]at h3
      exact h3
    have af:∀v∈f,v.oneCell'=true:=λv G=>X v (by rw[J]at G;exact Wn G)
    have V:∀(j:Nat) u,f[j]?=some u->w.cell? ((⟨g.μ b,0,none⟩:Addr).add j)=some u:=λj u hj=>by
      rw[gW,cell_of c1,Wr,←Vw]
      rw[J,Wg]at hj
      split at hj
      · exact hj
      · cases hj
    have aH:n+R.length<=140737488355328:=by
      have:(n+R.length)*1<=(n+R.length)*bt:=ZL _ ak
      omega
    have hr:=run_append_grow (P:=P) w t o.type K i z hu M hz ⟨g.μ b,0,none⟩ n cap f (by rw[Q,F,Zh]) V W R.length k news U E C (by omega) (growslice_fits C (by rw[ao];exact H))
    have au:=grownCap_ge w (n+R.length) cap K
    have ay:=grownCap_le_maxLen w (n+R.length) cap K (by unfold maxLen;omega)
    generalize grownCap w (n+R.length) cap K=gc at*
    obtain⟨rows,l⟩:∃rows:aT,rows=(ys.map λy=>[y])++R:=⟨_,rfl⟩
    have D:rows.length=n+R.length:=by rw[l,Vz,VA,aA]
    have az:rows.flatten=ys++R.flatten:=by rw[l,Zi,zI]
    have hS:aO g (w.drew.alloc (.cells (f.toArray++news.toArray++Builtin.zeroCells z.cells (gc -(n+R.length))) K)) (.own true 1 rows) (.slice (some ⟨w.heap.size,0,none⟩) (n+R.length) gc) (some w.heap.size):=by
      refine .inr ⟨w.heap.size,rfl,gc,_,K,f++news,by rw[D],heap_alloc_new w.drew _,?_,⟨by rw[D];exact au,ay,by simpa only[ZM]using eM (eM af r.one) (aE _)⟩,by rw[l];exact aK.append (aK.sing af ar) r,?_,λ_=>h.B⟩
      · simp only[YK,Ww,size_zeroCells,aF,Q,O]
        omega
      · exact⟨(Builtin.zeroCells z.cells (gc -(n+R.length))).toList,by simp⟩
    have hO:=h.putOwn hb (hg▸hN) (w':=w.drew.alloc (.cells (f.toArray++news.toArray++Builtin.zeroCells z.cells (gc -(n+R.length))) K)) rfl (by simp) (λc I _=>heap_alloc_old w.drew _ I) hS rfl (λc I=>by cases I;exact⟨by simp,h.fresh hb (Vu _)⟩)
    obtain⟨g',p,t',Y,s'⟩:=hO.adoptS (s:=d) (e:=1) (nw:=true) (rows:=rows) (by simp[look]) (λe=>by rw[e]at D;simp at D;omega)
    rw[D,az,Zh]at s'
    rw[D]at Y
    refine⟨_,_,g',?_,t',.inr ⟨C,p,Y,by rw[hd,←l];exact s'⟩⟩
    simp only[execOp,ho,resolve,invoke,builtin,YU,VP,Xg,bD,bN,bK,G,ag,hr]
def Oy(P:aa)(st:St)(t:ah)(s x:ae)(d:Tmp)(K:St->Prop):Prop:=
 match cF P t,mv st s with
 |some (e,bt),.pv (.bsl b e' off n cap)=>e=1∧e'=1∧off=0∧0<bt∧gc st s∧gc st x∧jV st 1 (mv st x)∧rowsOf st (mv st x)≠[]∧b<st.h.length∧cap<=(st.h.getD b []).length∧(n+(rowsOf st (mv st x)).length)*bt<=140737488355328∧
  ∃ys:aD,(st.h.getD b []).take n=ys.map SV.pv∧ys.length=n∧
   (n+(rowsOf st (mv st x)).length<=cap->K ⟨(d,.pv (.bsl b 1 0 (n+(rowsOf st (mv st x)).length) cap))::aW (a8 b n (rowsOf st (mv st x)).length) st.t,st.h.set b (splice (st.h.getD b []) n ((rowsOf st (mv st x)).flatten.map SV.pv))⟩)∧
   (cap < n + (rowsOf st (mv st x)).length -> ∀ a, n + (rowsOf st (mv st x)).length <= a ->
    K ⟨(d,.pv (.bsl st.h.length 1 0 (n+(rowsOf st (mv st x)).length) a))::(d,.own true 1 ((ys.map λy=>[y])++rowsOf st (mv st x)))::aW (dx d) st.t,st.h++[(ys++(rowsOf st (mv st x)).flatten++List.replicate (a -(n+(rowsOf st (mv st x)).length)) PV.bot).map SV.pv]⟩)
 |_,_=>False
def Oz(P:aa)(st:St)(t:ah)(x hi m:ae)(d:Tmp)(K:St->Prop):Prop:=
 match bU P t,mv st x with
 |some e,.pv (.bsl b e' off n _)=>e'=e∧gc st x∧dI st (some hi)∧dI st (some m)∧bC (mv st m)=bC (mv st hi)∧0<bC (mv st hi)∧bC (mv st hi)<=n∧K (putD (some d) (.pv (.bsl b e' off (bC (mv st hi)).toNat (bC (mv st hi)).toNat)) st)
 |_,_=>False
def RB(D:bJ)(d:Option Tmp)(K:St->Prop)(st:St):Prop:=
 match d with
 | some d => if nv D d = true then (match look st.t d with
  |.own _ e rows=>rows≠[]∧∀cap,rows.length<=cap->K ⟨(d,.pv (.bsl st.h.length e 0 rows.length cap))::st.t,st.h++[(rows.flatten++List.replicate ((cap -rows.length)*e) PV.bot).map SV.pv]⟩
  |_=>False)else K st
 |none=>K st
def KV:SV->Bool
 |.pv (.bsl _ _ _ _ _)=>true
 |_=>false
def pK(o:ai):Option (ah×ae×ae×Tmp):=
 match o.guard,o.dst,o.op with
 |none,some d,.call c=>match c.callee,c.args.toList,c.argTypes.toList with
  |.builtin .append,[s,x],[t,a]=>if t=a then some (t,s,x,d)else none
  |_,_,_=>none
 |_,_,_=>none
theorem Bu{o:ai}{t:ah}{s x:ae}{d:Tmp}(h:pK o=some (t,s,x,d)):o.guard=none∧o.dst=some d∧o.op=.call {callee:=.builtin .append,args:=#[s,x],argTypes:=#[t,t]}:=by
 unfold pK at h;split at h;rename_i d' c h1 g i;split at h;rename_i s' l t1 m a b f;split at h;rename_i e;subst e;simp only[Wc,W8]at h;obtain⟨rfl,rfl,rfl,rfl⟩:=h;refine⟨h1,g,?_⟩;rw[i];obtain⟨cl,ar,ty⟩:=c;simp only at a b f;subst a;have j:ar=#[s',l]:=WW b;have k:ty=#[t1,t1]:=WW f;rw[j,k];cases h;cases h;cases h
def lD(o:ai):Option (ah×ae×ae×ae×Tmp):=
 match o.guard,o.dst,o.op with
 |none,some d,.slice t x none (some hi) (some m)=>some (t,x,hi,m,d)
 |_,_,_=>none
theorem xN{o:ai}{t:ah}{x hi m:ae}{d:Tmp}(h:lD o=some (t,x,hi,m,d)):o.guard=none∧o.dst=some d∧o.op=.slice t x none (some hi) (some m):=by
 unfold lD at h;split at h;rename_i h1 a b;simp only[Wc,W8]at h;obtain⟨rfl,rfl,rfl,rfl,rfl⟩:=h;exact⟨h1,a,b⟩;cases h
def fP(P:aa)(D:bJ)(ops:List ai)(o:ai)(K:St->Prop)(st:St):Prop:=
 match pK o with
 |some (t,s,x,d)=>if KV (mv st s)=true then Oy P st t s x d K else gq P ops o (RB D o.dst K) st
 |none=>match lD o with
  |some (t,x,hi,m,d)=>Oz P st t x hi m d K
  |none=>gq P ops o (RB D o.dst K) st
def xO(P:aa)(D:bJ)(ops:List ai)(K:St->Prop):List ai->St->Prop
 |[],st=>K st
 |o::rest,st=>fP P D ops o (xO P D ops K rest) st
theorem QB{D:bJ}{d:Option Tmp}{K:St->Prop}{st:St}(h:RB D d K st){g:Gh}{a:Act}{w:ab}(hs:Sim g st a w):∃st' g',K st'∧g.to g'∧Sim g' st' a w:=by
 unfold RB at h;split at h;split at h;split at h;rename_i b;obtain⟨h1,c⟩:=h;obtain⟨g',_,t,e,s'⟩:=hs.adoptS b h1;exact⟨_,g',c _ e,t,s'⟩;exact h.elim;exact⟨st,g,h,hs.refl_to,hs⟩;exact⟨st,g,h,hs.refl_to,hs⟩
theorem OA{P:aa}{st:St}(o:ai){t:ah}{s x:ae}{d:Nat}{K:St->Prop}(ho:o.op=.call {callee:=.builtin .append,args:=#[s,x],argTypes:=#[t,t]}) (f:o.dst=some d)
 (h:Oy P st t s x d K) {g:Gh} {a:Act} {w:ab} (hs:Sim g st a w) (hd:cX g.N o.dst) {K':Act->ab->Prop} {Q:Exit->Act->ab->Prop}
 (r:∀st' g' q w',K st'->g.to g'->Sim g' st' q w'->K' q w'):o.wp P a w K' Q:=by
 unfold Oy at h;split at h;rename_i e bt b e' off n cap hi G;obtain⟨rfl,rfl,rfl,h1,y,z,A,B,C,D,E,ys,F,i,j,k⟩:=h;have l:st.h[b]?=some (st.h.getD b []):=by rw[Vr,Vq C];rfl
 obtain⟨v,w',g',H,u,r3⟩:=Ea o t s x d bt b n cap ho f hi h1 y G z A B l D F i E (N:=g.N) (by rw[f]at hd;exact hd) g a w rfl hs;unfold Oper.wp;rw[H];rcases r3 with⟨m,p⟩|⟨m,c,p,I⟩;exact r _ g' _ w' (j m) u p;exact r _ g' _ w' (k m c p) u I;exact h.elim
theorem rp{P:aa}{st:St}{g:Gh}{a:Act}{w:ab}(h:Sim g st a w)(len cap:Nat)(hi m:ae)(b:dI st (some hi))(c:dI st (some m))(d:bC (mv st m)=bC (mv st hi))
 (h1:0<=bC (mv st hi)) (f:bC (mv st hi)<=len) (i:len<=cap):
 ∀w':ab,(Instr.sliceBounds true len cap none (some (a.eval hi)) (some (a.eval m))).run P w'=.ok (0,(bC (mv st hi)).toNat,(bC (mv st hi)).toNat) w':=by
 intro w';simp only[dI]at*;have e:((bC (mv st hi)).toNat:Int)=bC (mv st hi):=ZK (by omega);simp only[Instr.sliceBounds,cM h b.1 b.2,cM h c.1 c.2,d,bD,bN,bK,run_sliceBound w' _ _ cap _ (by omega:(0:Int)<=bC (mv st hi)) (by omega),
  run_sliceBound w' _ _ (bC (mv st hi)).toNat _ (by omega:(0:Int)<=bC (mv st hi)) (by omega)]
theorem OB{P:aa}{st:St}(o:ai){t:ah}{x hi m:ae}{d:Nat}{K:St->Prop}(ho:o.op=.slice t x none (some hi) (some m))(k:o.dst=some d)
 (h:Oz P st t x hi m d K) {g:Gh} {a:Act} {w:ab} (hs:Sim g st a w) (hd:cX g.N o.dst) {K':Act->ab->Prop} {Q:Exit->Act->ab->Prop}
 (z:∀st' g' i w',K st'->g.to g'->Sim g' st' i w'->K' i w'):o.wp P a w K' Q:=by
 unfold Oz at h;split at h
 .rename_i e b e' off n cap c B;obtain⟨rfl,h1,r,s,u,G,v,y⟩:=h;obtain⟨q,_⟩:=bm hs x h1;rw[B]at q;obtain⟨_,j,l,E⟩:=q;unfold bU at c;split at c
  case h_2=>cases c
  rename_i F D;simp only[VW]at c;obtain⟨p,f,rfl⟩:=c;have A:=rp (P:=P) hs n cap hi m r s u (by omega) v l;refine cP (st':=putD (some d) (.pv (.bsl b p.size off (bC (mv st hi)).toNat (bC (mv st hi)).toNat)) st) (g:=g) ⟨.slice (some ⟨g.μ b,off,none⟩) (bC (mv st hi)).toNat (bC (mv st hi)).toNat,w,g,?_,hs.refl_to,?_⟩ (λg' i w'=>z _ g' i w' y);have C:(bC (mv st hi)).toNat≠0:=by omega
  simp only[execOp,ho,E,Wq,X0];simp only[Instr.sliceAt,bD,cq D,bK,Instr.slice,A,run_sizeOf f,bN];simp[gW];rw[k]at hd⊢;exact hs.put hd ⟨rfl,j,Vu _,rfl⟩ trivial rfl
 exact h.elim
theorem oY{P:aa}{D:bJ}{ops:Array ai}{st:St}(o:ai){K:St->Prop}(h:fP P D ops.toList o K st){g:Gh}{a:Act}{w:ab}(hs:Sim g st a w)(hd:cX g.N o.dst){K':Act->ab->Prop}{Q:Exit->Act->ab->Prop}
 (f:∀st' g' b w',K st'->g.to g'->Sim g' st' b w'->K' b w'):if Region.wanted o (yielded ops a.tmps)=true then o.wp P a w K' Q else K' (a.put o.dst undef) w:=by
 have k:gq P ops.toList o (RB D o.dst K) st->if Region.wanted o (yielded ops a.tmps)=true then o.wp P a w K' Q else K' (a.put o.dst undef) w:=λh1=>
  jZ o h1 hs hd λst' g' b w' hk t s'=>by
   obtain⟨j,g2,l,p,n⟩:=QB hk s';exact f j g2 b w' l (t.trans p) n
 unfold fP at h;split at h;rename_i t s x d i;obtain⟨h1,c,e⟩:=Bu i;split at h;rw[Vt (by simp[Region.wanted,h1])];exact OA o e c h hs hd f;exact k h;split at h;rename_i t x hi m d i;obtain⟨h1,c,e⟩:=xN i;rw[Vt (by simp[Region.wanted,h1])];exact OB o e c h hs hd f;exact k h
theorem Bv{P:aa}{D:bJ}{ops:Array ai}:∀(l:List ai){st:St}{K:St->Prop}(_:xO P D ops.toList K l st){g:Gh}{a:Act}{w:ab}(_:Sim g st a w)(_:cV g.N l=true){Q:Exit->Act->ab->Prop}
 (_:∀st' g' b w',K st'->g.to g'->Sim g' st' b w'->Q .normal b w'),wpList P ops Q l a w
 |[],st,K,h,g,a,w,hs,_,Q,c=>c st g a w h hs.refl_to hs
 |o::rest,st,K,h,g,a,w,hs,hd,Q,c=>by
  obtain⟨h1,j⟩:=iY hd;have:=oY (ops:=ops) o h hs h1 (Q:=Q) (K':=wpList P ops Q rest)
   (λst' g' b w' hk f s'=>Bv rest hk s' (by rw[f.N];exact j) (λe g2 i p k n m=>c e g2 i p k (f.trans n) m))
  unfold wpList;split;rename_i d;rw[Vt d]at this;exact .inl this;rename_i d;rw[Vs d]at this;exact this
theorem jF.blk{P:aa}{k0:Nat}{ops:Array ai}{K:St->Prop}{st:St}(D:bJ)(h:xO P D ops.toList K ops.toList st):jF P k0 ops K st:=λ_ _ _ _ hs hd _ a=>Bv ops.toList h hs hd a
section
variable {P : aa} {D : bJ} {ops : List ai} {K : St -> Prop} {st : St}
@[simp] theorem RC:xO P D ops K [] st=K st:=rfl
@[simp] theorem QC(o:ai)(rest:List ai):xO P D ops K (o::rest) st=fP P D ops o (xO P D ops K rest) st:=rfl
end
attribute [simp] fP pK lD Oy Oz RB KV
end
section
def dB(P:aa)(D:bJ)(ops:List ai)(i:Nat)(K:St->Prop)(st:St):Prop:=
 match ops[i]?with
 |some o=>fP P D ops o K st
 |none=>False
mutual
def rq(P:aa)(D:bJ)(ops:List ai)(K:St->Prop):Sch->St->Prop
  |.done,st=>K st
  |.take i r,st=>gB P ops i (rq P D ops K r) st
  |.fork l,st=>pL P D ops K l st
def pL(P:aa)(D:bJ)(ops:List ai)(K:St->Prop):List (Nat×Sch)->St->Prop
  |[],_=>True
  |(i,r)::l,st=>dB P D ops i (rq P D ops K r) st∧pL P D ops K l st
end
mutual
theorem zJ{P:aa}{D:bJ}{ops:Array ai}{K:St->Prop}{Q:Exit->Act->ab->Prop}(hsel:Region.noSelect ops=true)(hQp:∀c a w,¬Q (.panic c) a w):∀(S:Sch)(n:Nat)(listed:Array Bool)(_:lC P ops n listed S=true){st:St}(_:rq P D ops.toList K S st){g:Gh}{a:Act}{w:ab}(_:Sim g st a w)(_:cV g.N ops.toList=true)
    (_:∀st' g' a' w',K st'->g.to g'->Sim g' st' a' w'->Q .normal a' w'),wpAny P .any ops Q n listed a w
  |.done,n,listed,hb,st,h,g,a,w,hs,_,hQ=>by
    have hb':(Region.ready .any ops listed).isEmpty=true:=by cases n<;>simpa[lC]using hb
    exact wpAny_done (Z3.1 hb') (hQ st g a w h hs.refl_to hs) n
  |.take i r,0,listed,hb,st,h,g,a,w,hs,hd,hQ=>by simp[lC]at hb
  |.take i r,n+1,listed,hb,st,h,g,a,w,hs,hd,hQ=>by
    simp only[lC,VC]at hb
    obtain⟨⟨hb1,hb2⟩,hb3⟩:=hb
    simp only[rq,gB]at h
    cases ho:ops[i]?with
    |none=>rw[ho]at hb1;cases hb1
    |some o=>
      rw[ho]at hb1
      rw[Vw,ho]at h
      simp only[VC]at hb1
      obtain⟨v,hy,st',g',h1,h2,h3⟩:=zi o hb1.1 h hs (eO hd (by rw[Vw];exact ho))
      exact wpAny_take ho hsel hb1.2 hb2 (λc a w hq=>absurd hq (hQp c _ w)) hy (zJ hsel hQp r n _ hb3 h1 h3 (by rw[h2.N];exact hd) λst2 g2 a2 w2 k2 t2 s2=>hQ st2 g2 a2 w2 k2 (h2.trans t2) s2)
  |.fork l,0,listed,hb,st,h,g,a,w,hs,hd,hQ=>by simp[lC]at hb
  |.fork l,n+1,listed,hb,st,h,g,a,w,hs,hd,hQ=>by
    simp only[lC,VC]at hb
    obtain⟨⟨hb1,hb2⟩,hb3⟩:=hb
    simp only[rq]at h
    have hr:Region.ready .any ops listed=l.map (·.1):=by simpa using hb1
    refine wpAny_all hr (λe=>?_) λi hi=>Bw hsel hQp l n listed hb3 h hs hd hQ i hi
    cases l with
    |nil=>simp at hb2
    |cons _ _=>cases e
theorem Bw{P:aa}{D:bJ}{ops:Array ai}{K:St->Prop}{Q:Exit->Act->ab->Prop}(hsel:Region.noSelect ops=true)(hQp:∀c a w,¬Q (.panic c) a w):∀(l:List (Nat×Sch))(n:Nat)(listed:Array Bool)(_:A2 P ops n listed l=true){st:St}(_:pL P D ops.toList K l st){g:Gh}{a:Act}{w:ab}(_:Sim g st a w)(_:cV g.N ops.toList=true)
    (_:∀st' g' a' w',K st'->g.to g'->Sim g' st' a' w'->Q .normal a' w'),∀i∈l.map (·.1),wpOp P ops Q i (wpAny P .any ops Q n (listed.setIfInBounds i true)) a w
  |[],n,listed,_,st,_,g,a,w,_,_,_,i,hi=>by cases hi
  |(i0,r)::l,n,listed,hb,st,h,g,a,w,hs,hd,hQ,i,hi=>by
    simp only[A2,VC]at hb
    simp only[pL]at h
    simp only[VP,VU]at hi
    rcases hi with e|hi
    subst e
    have h1:=h.1
    simp only[dB]at h1
    unfold wpOp
    cases ho:ops[i]?with
    |none=>rw[Vw,ho]at h1;exact h1.elim
    |some o=>
      rw[Vw,ho]at h1
      have key:=oY (ops:=ops) o h1 hs (eO hd (by rw[Vw];exact ho)) (K':=wpAny P .any ops Q n (listed.setIfInBounds i true)) (Q:=Q) λst' g' a' w' k' t' s'=>
        zJ hsel hQp r n _ hb.1 k' s' (by rw[t'.N];exact hd) λst2 g2 a2 w2 k2 t2 s2=>hQ st2 g2 a2 w2 k2 (t'.trans t2) s2
      simp only
      split
      rename_i hw;rw[Vt hw]at key;exact .inl key
      rename_i hw;rw[Vs hw]at key;exact key
    exact Bw hsel hQp l n listed hb.2 h.2 hs hd hQ i hi
end
theorem bP.blk{P:aa}{k0:Nat}{ops:Array ai}{K:St->Prop}{st:St}(D:bJ)(S:Sch){ι:Type}(c:ι->St)(J:ι->Prop)(b:qZ P ops S=true)(h:rq P D ops.toList (λs=>∃i,J i∧av k0 s (c i)) S st)(f:∀i,J i->K (c i)):bP P k0 ops K st:=by
 simp only[qZ,VC]at b;refine .inr λg a w h0 hs hd Q hp j=>zJ b.1 hp S _ _ b.2 h hs hd λst' g' d w' hk e s'=>?_;obtain⟨i,hj,k⟩:=hk;obtain⟨g2,m,l⟩:=k g' d w' (by rw[e.n0];exact h0) s';exact j _ g2 d w' (f i hj) (e.trans m) l
section
variable {P : aa} {D : bJ} {ops : List ai} {K : St -> Prop} {st : St}
@[simp] theorem RD:rq P D ops K .done st=K st:=by simp only[rq]
@[simp] theorem RE(i:Nat)(r:Sch):rq P D ops K (.take i r) st=gB P ops i (rq P D ops K r) st:=by simp only[rq]
@[simp] theorem RF(l:List (Nat×Sch)):rq P D ops K (.fork l) st=pL P D ops K l st:=by simp only[rq]
@[simp] theorem RG:pL P D ops K [] st=True:=by simp only[pL]
@[simp] theorem QD(i:Nat)(r:Sch)(l:List (Nat×Sch)):pL P D ops K ((i,r)::l) st=(dB P D ops i (rq P D ops K r) st∧pL P D ops K l st):=by simp only[pL]
end
attribute [simp] dB
end
section
def qn(P:aa)(t:ah)(x:SV):SV×Prop:=
 match nH P t,x with
 |some (n,e),.pv (.ptr b off)=>(.pv (.bsl b 1 off n n),e=1∧0<n)
 |_,_=>(.pv .bot,False)
theorem Iq{P:aa}{st:St}(o:ai)(t:ah)(x:ae)(ho:o.op=.slice t x none none none):kz P st o ((qn P t (mv st x)).1,gc st x∧(qn P t (mv st x)).2):=by
 intro g a w h ⟨hx,hd⟩;unfold qn at hd⊢;split at hd
 case h_2=>exact hd.elim
 rename_i n e b off hs m;obtain⟨rfl,hn⟩:=hd;obtain⟨k,_⟩:=bm h x hx;rw[m]at k;obtain⟨_,l,r⟩:=k;unfold nH at hs;split at hs
 case h_2=>cases hs
 rename_i f u q;simp only[VW,W8]at hs;obtain⟨s,d,rfl,p⟩:=hs;have i:=mu (P:=P) h false f f none none trivial trivial (XF _) (by simp[bnd]) (by simp[bnd]) (Vu _);refine⟨.slice (some ⟨g.μ b,off,none⟩) f f,?_,⟨rfl,l,Vu _,rfl⟩,trivial⟩;intro w';have j:¬f=0:=by omega
 simp only[execOp,ho,r,X0,Instr.sliceAt,bD,cq q,bK,Instr.sureAddr,bN];have c:=i w';simp only[X0]at c;rw[c];simp[bnd,run_sizeOf d,j,gW]
def rr(P:aa)(o:ai):Option (ah×ae×Tmp):=
 match o.guard,o.dst,o.op with
 |none,some d,.slice t x none none none=>if(nH P t).isSome then some (t,x,d)else none
 |_,_,_=>none
theorem Bx{P:aa}{o:ai}{t:ah}{x:ae}{d:Tmp}(h:rr P o=some (t,x,d)):o.guard=none∧o.dst=some d∧o.op=.slice t x none none none:=by
 unfold rr at h;split at h;rename_i h1 a b;split at h;cases h;exact⟨h1,a,b⟩;cases h;cases h
def ru(P:aa)(ops:List ai)(i:Nat)(K:St->Prop)(st:St):Prop:=
 match ops[i]?with
 |some o=>match rr P o with
  |some (t,x,d)=>(gc st x∧(qn P t (mv st x)).2)∧K (st.put d (qn P t (mv st x)).1)
  |none=>gq P ops o K st
 |none=>False
mutual
def qo(P:aa)(D:bJ)(ops:List ai)(K:St->Prop):Sch->St->Prop
  |.done,st=>K st
  |.take i r,st=>ru P ops i (qo P D ops K r) st
  |.fork l,st=>pM P D ops K l st
def pM(P:aa)(D:bJ)(ops:List ai)(K:St->Prop):List (Nat×Sch)->St->Prop
  |[],_=>True
  |(i,r)::l,st=>dB P D ops i (qo P D ops K r) st∧pM P D ops K l st
end
theorem KW{P:aa}{ops:Array ai}{st:St}{i:Nat}{o:ai}(ho:ops.toList[i]?=some o)(f:jr P o.op=true){K:St->Prop}(h:ru P ops.toList i K st){g:Gh}{a:Act}{w:ab}(hs:Sim g st a w)(hd:cX g.N o.dst):
 ∃v,Yields P ops o v a∧∃st' g',K st'∧g.to g'∧Sim g' st' (a.put o.dst v) w:=by
 unfold ru at h;rw[ho]at h;simp only at h;split at h;rename_i t x d j;obtain⟨h1,b,c⟩:=Bx j;obtain⟨v,l,k,e⟩:=Iq (st:=st) o t x c g a w hs h.1;refine⟨v,.inl ⟨by simp[Region.wanted,h1],l⟩,_,g,h.2,hs.refl_to,?_⟩;rw[b]at hd⊢;refine hs.put hd k e ?_;unfold qn;split<;>rfl;exact zi o f h hs hd
mutual
theorem zK{P:aa}{D:bJ}{ops:Array ai}{K:St->Prop}{Q:Exit->Act->ab->Prop}(hsel:Region.noSelect ops=true)(hQp:∀c a w,¬Q (.panic c) a w):∀(S:Sch)(n:Nat)(listed:Array Bool)(_:lC P ops n listed S=true){st:St}(_:qo P D ops.toList K S st){g:Gh}{a:Act}{w:ab}(_:Sim g st a w)(_:cV g.N ops.toList=true)
    (_:∀st' g' a' w',K st'->g.to g'->Sim g' st' a' w'->Q .normal a' w'),wpAny P .any ops Q n listed a w
  |.done,n,listed,hb,st,h,g,a,w,hs,_,hQ=>by
    have hb':(Region.ready .any ops listed).isEmpty=true:=by cases n<;>simpa[lC]using hb
    simp only[qo]at h
    exact wpAny_done (Z3.1 hb') (hQ st g a w h hs.refl_to hs) n
  |.take i r,0,listed,hb,st,h,g,a,w,hs,hd,hQ=>by simp[lC]at hb
  |.take i r,n+1,listed,hb,st,h,g,a,w,hs,hd,hQ=>by
    simp only[lC,VC]at hb
    obtain⟨⟨hb1,hb2⟩,hb3⟩:=hb
    simp only[qo]at h
    cases ho:ops[i]?with
    |none=>rw[ho]at hb1;cases hb1
    |some o=>
      rw[ho]at hb1
      simp only[VC]at hb1
      have ho':ops.toList[i]?=some o:=by rw[Vw];exact ho
      obtain⟨v,hy,st',g',h1,h2,h3⟩:=KW ho' hb1.1 h hs (eO hd ho')
      exact wpAny_take ho hsel hb1.2 hb2 (λc a w hq=>absurd hq (hQp c _ w)) hy (zK hsel hQp r n _ hb3 h1 h3 (by rw[h2.N];exact hd) λst2 g2 a2 w2 k2 t2 s2=>hQ st2 g2 a2 w2 k2 (h2.trans t2) s2)
  |.fork l,0,listed,hb,st,h,g,a,w,hs,hd,hQ=>by simp[lC]at hb
  |.fork l,n+1,listed,hb,st,h,g,a,w,hs,hd,hQ=>by
    simp only[lC,VC]at hb
    obtain⟨⟨hb1,hb2⟩,hb3⟩:=hb
    simp only[qo]at h
    have hr:Region.ready .any ops listed=l.map (·.1):=by simpa using hb1
    refine wpAny_all hr (λe=>?_) λi hi=>Bz hsel hQp l n listed hb3 h hs hd hQ i hi
    cases l with
    |nil=>simp at hb2
    |cons _ _=>cases e
theorem Bz{P:aa}{D:bJ}{ops:Array ai}{K:St->Prop}{Q:Exit->Act->ab->Prop}(hsel:Region.noSelect ops=true)(hQp:∀c a w,¬Q (.panic c) a w):∀(l:List (Nat×Sch))(n:Nat)(listed:Array Bool)(_:A2 P ops n listed l=true){st:St}(_:pM P D ops.toList K l st){g:Gh}{a:Act}{w:ab}(_:Sim g st a w)(_:cV g.N ops.toList=true)
    (_:∀st' g' a' w',K st'->g.to g'->Sim g' st' a' w'->Q .normal a' w'),∀i∈l.map (·.1),wpOp P ops Q i (wpAny P .any ops Q n (listed.setIfInBounds i true)) a w
  |[],n,listed,_,st,_,g,a,w,_,_,_,i,hi=>by cases hi
  |(i0,r)::l,n,listed,hb,st,h,g,a,w,hs,hd,hQ,i,hi=>by
    simp only[A2,VC]at hb
    simp only[pM]at h
    simp only[VP,VU]at hi
    rcases hi with e|hi
    subst e
    have h1:=h.1
    simp only[dB]at h1
    unfold wpOp
    cases ho:ops[i]?with
    |none=>rw[Vw,ho]at h1;exact h1.elim
    |some o=>
      rw[Vw,ho]at h1
      have key:=oY (ops:=ops) o h1 hs (eO hd (by rw[Vw];exact ho)) (K':=wpAny P .any ops Q n (listed.setIfInBounds i true)) (Q:=Q) λst' g' a' w' k' t' s'=>
        zK hsel hQp r n _ hb.1 k' s' (by rw[t'.N];exact hd) λst2 g2 a2 w2 k2 t2 s2=>hQ st2 g2 a2 w2 k2 (t'.trans t2) s2
      simp only
      split
      rename_i hw;rw[Vt hw]at key;exact .inl key
      rename_i hw;rw[Vs hw]at key;exact key
    exact Bz hsel hQp l n listed hb.2 h.2 hs hd hQ i hi
end
theorem bP.arr{P:aa}{k0:Nat}{ops:Array ai}{K:St->Prop}{st:St}(D:bJ)(S:Sch){ι:Type}(c:ι->St)(J:ι->Prop)(b:qZ P ops S=true)(h:qo P D ops.toList (λs=>∃i,J i∧av k0 s (c i)) S st)(f:∀i,J i->K (c i)):bP P k0 ops K st:=by
 simp only[qZ,VC]at b;refine .inr λg a w h0 hs hd Q hp j=>zK b.1 hp S _ _ b.2 h hs hd λst' g' d w' hk e s'=>?_;obtain⟨i,hj,k⟩:=hk;obtain⟨g2,m,l⟩:=k g' d w' (by rw[e.n0];exact h0) s';exact j _ g2 d w' (f i hj) (e.trans m) l
section
variable {P : aa} {D : bJ} {ops : List ai} {K : St -> Prop} {st : St}
@[simp] theorem RH:qo P D ops K .done st=K st:=by simp only[qo]
@[simp] theorem RI(i:Nat)(r:Sch):qo P D ops K (.take i r) st=ru P ops i (qo P D ops K r) st:=by simp only[qo]
@[simp] theorem RJ(l:List (Nat×Sch)):qo P D ops K (.fork l) st=pM P D ops K l st:=by simp only[qo]
@[simp] theorem RK:pM P D ops K [] st=True:=by simp only[pM]
@[simp] theorem QF(i:Nat)(r:Sch)(l:List (Nat×Sch)):pM P D ops K ((i,r)::l) st=(dB P D ops i (qo P D ops K r) st∧pM P D ops K l st):=by simp only[pM]
end
attribute [simp] ru rr qn
end
section
def zL(stp:Nat->(St->Prop)->St->Prop)(C:Nat->Array Bool->St->Prop)(n:Nat)(st:St):List (Nat×Array Bool)->Prop
 |[]=>True
 |(i,l')::r=>stp i (C n l') st∧zL stp C n st r
structure WalkerM (P:aa) (k0:Nat) (ops:Array ai) (stp stM:Nat->(St->Prop)->St->Prop) (K:St->Prop) (C:Nat->Array Bool->St->Prop):Prop where
  done:∀n l st,(Region.ready .any ops l).isEmpty=true->K st->C n l st
  weak:∀{n l st st1},C n l st1->av k0 st st1->C n l st
  take:∀{n l st}(i l'),PX P ops l i l'=true->stp i (C n l') st->C (n+1) l st
  fork:∀{n l st}(rs),PY ops l rs=true->zL stM C n st rs->C (n+1) l st
theorem WalkerM.kp{P:aa}{k0:Nat}{ops:Array ai}{stp stM:Nat->(St->Prop)->St->Prop}{K:St->Prop}{C:Nat->Array Bool->St->Prop}(a:WalkerM P k0 ops stp stM K C){n:Nat}{l:Array Bool}{st:St}{t1:List (Nat×SV)}{h1:ao}(hd:C n l ⟨t1,h1⟩)(h:PU st.t t1)(b:st.h=h1):C n l st:=a.weak hd (b▸av.slots h)
attribute [simp] zL
end
theorem bP.inv{P:aa}{k0:Nat}{ops:Array ai}{K:St->Prop}{st:St}(D:bJ)(I:Array Bool->St->Prop)
 (h0:I (Array.replicate ops.size false) st)
 (j:∀l s i,l.size=ops.size->I l s->i∈Region.ready .any ops l->∃A:St->Prop,dB P D ops.toList i A s∧∀s',A s'->I (l.setIfInBounds i true) s')
 (d:∀l s,l.size=ops.size->I l s->Region.ready .any ops l=[]->∃p,av k0 s p∧K p):bP P k0 ops K st:=by
 refine .inr ?_;have key:∀n l s,l.size=ops.size->n+l.toList.countP id=ops.size->I l s->Vf P k0 ops K n l s:=by
  intro n
  induction n with
  |zero=>
   intro l s e C x g a w z hs hd Q hp y;have m:Region.ready .any ops l=[]:=by
    unfold Region.ready;rw[Xa];intro i hi;have r:i<l.size:=by rw[e];exact WN.1 hi
    have q:∀b∈l.toList,id b=true:=by
     rw[←aae];rw[Wr]at C;rw[C,←e];exact Wm.symm
    have:=q l[i] (ZI.2 (Array.getElem_mem r));simp only[id]at this;simp[Array.getD,r,this]
   obtain⟨p,k,hk⟩:=d l s e x m;obtain⟨g2,v,u⟩:=k g a w z hs;exact wpAny_done m (y p g2 a w hk v u) 0
  |succ n S=>
   intro l s e C x g a w z hs hd Q hp y;by_cases m:Region.ready .any ops l=[];obtain⟨p,k,hk⟩:=d l s e x m;obtain⟨g2,v,u⟩:=k g a w z hs;exact wpAny_done m (y p g2 a w hk v u) _;refine wpAny_all rfl m λi hi=>?_;obtain⟨A,h1,B⟩:=j l s i e x hi;have f:=hi;unfold Region.ready at f;rw[V9]at f;obtain⟨F,t⟩:=f;have h:i<l.size:=by rw[e];exact WN.1 F
   simp only[VC,Wp]at t;have G:l[i]=false:=by have:=t.1;simpa[Array.getD,h]using this
   have E:n+(l.setIfInBounds i true).toList.countP id=ops.size:=by
    rw[Y9,List.countP_set (by simpa using h)];have R:l.toList[i]'(by simpa using h)=false:=by simpa using G
    simp only[R,id,We,WM,Xl];omega
   have H:(l.setIfInBounds i true).size=ops.size:=by simp[e]
   unfold dB at h1;unfold wpOp;cases ho:ops[i]?with
   |none=>rw[Vw,ho]at h1;exact h1.elim
   |some o=>
    rw[Vw,ho]at h1;have c:=oY (ops:=ops) o h1 hs (eO hd (by rw[Vw];exact ho)) (K':=wpAny P .any ops Q n (l.setIfInBounds i true)) (Q:=Q) λst' g' M w' k' L s'=>
     S _ st' H E (B _ k') g' M w' (by rw[L.n0];exact z) s' (by rw[L.N];exact hd) Q hp λJ g2 O U T v u=>y J g2 O U T (L.trans v) u
    simp only;split;rename_i k;rw[Vt k]at c;exact .inl c;rename_i k;rw[Vs k]at c;exact c
 refine key _ _ _ (by simp) ?_ h0;simp[List.countP_replicate]
def dr(ops:Array ai)(i:Nat):bJ:=match ops[i]?with
 |some o=>(o.after.toList.filter λe=>Region.binds .any e).map (·.on)
 |none=>[]
theorem mR{ops:Array ai}{l:Array Bool}{i:Nat}(h:i∈Region.ready .any ops l):i<ops.size∧l.getD i true=false∧∀j∈dr ops i,l.getD j false=true:=by
 unfold Region.ready at h;rw[V9]at h;obtain⟨h1,a⟩:=h;have hi:=WN.1 h1;rw[VK hi]at a;simp only[Wq,V7,VC,Wp]at a;refine⟨hi,a.1,λj hj=>?_⟩;unfold dr at hj;rw[VK hi]at hj;simp only[VB,V9]at hj;obtain⟨e,⟨b,c⟩,rfl⟩:=hj;have:=a.2;rw[Zt]at this;have:=this e (ZI.1 b);simpa[c]using this
def KX(ops:Array ai):Nat->Nat->Nat->Bool
 |0,_,_=>false
 |n+1,i,j=>(dr ops j).any λe=>e==i||KX ops n i e
structure Tb where
  T:List jT
  B:List (Nat×SV)
  dp:List bJ
  ws:bJ
  lv:List bJ
  kl:List (Nat×Nat)
  H:Nat->ao
namespace Tb
def dpA(b:Tb)(i:Nat):bJ:=b.dp.getD i []
def lvA(b:Tb)(i:Nat):bJ:=b.lv.getD i []
def dst(b:Tb)(i:Nat):Option Nat:=((b.T.getD i none).map (·.1))
def slots(b:Tb):bJ:=b.T.filterMap λo=>o.map (·.1)
def okB(b:Tb)(ops:Array ai):Bool:=
 (List.range ops.size).all (λi=>(b.dpA i).all λj=>(dr ops i).contains j||KX ops 3 j i)
 &&(List.range (b.ws.length -1)).all (λk=>(dr ops (b.ws.getD (k+1) 0)).contains (b.ws.getD k 0))
 && (List.range ops.size).all (λ i => (List.range (b.ws.length + 1)).all λ m =>
  (b.lvA i).contains m||(List.range b.ws.length).any λk=>if k<m then b.ws.getD k 0==i||KX ops 3 i (b.ws.getD k 0)else KX ops 3 (b.ws.getD k 0) i)
 &&(List.range ops.size).all (λi=>(b.dpA i).all λj=>b.kl.all λq=>b.dst j !=some q.2||q.1==i||(dr ops q.1).contains i||(dr ops j).contains q.1)
 &&b.ws.all (λw=>decide (w<ops.size))
 &&(List.range ops.size).all (λi=>(dr ops i).all λj=>decide (j<i))
 &&decide (b.T.length<=ops.size)&&decide b.ws.Nodup
end Tb
def pp(l:Array Bool)(i:Nat):Bool:=l.getD i false
theorem Gx{l:Array Bool}{i:Nat}(hi:i<l.size)(j:Nat):pp (l.setIfInBounds i true) j=if i=j then true else pp l j:=by
 unfold pp;simp only[VJ,Wy];by_cases e:i=j;subst e;simp[hi];simp[e]
def bZ(t:List (Nat×SV)):List (Nat×SV)->Prop
 |[]=>True
 |p::r=>look t p.1=p.2∧bZ t r
def xP(t:List (Nat×SV)):jT->Prop
 |none=>True
 |some p=>look t p.1=p.2
def NW(f:Nat->Prop):bJ->Prop
 |[]=>True
 |m::r=>f m∧NW f r
def Eb(T:List jT)(t:List (Nat×SV)):bJ->Prop
 |[]=>True
 |j::r=>xP t (T.getD j none)∧Eb T t r
def zM(kl:List (Nat×Nat))(i:Nat)(t a:List (Nat×SV)):Nat->List jT->Prop
 |_,[]=>True
 |j,none::r=>zM kl i t a (j+1) r
 |j,some p::r=>(j=i∨kl.contains (i,p.1)=true∨(look t p.1=p.2->look a p.1=p.2))∧zM kl i t a (j+1) r
theorem Gy{kl:List (Nat×Nat)}{i:Nat}{t a:List (Nat×SV)}:∀(T:List jT)(n:Nat),zM kl i t a n T->∀j p,T.getD j none=some p->n+j≠i->(i,p.1)∉kl->look t p.1=p.2->look a p.1=p.2
 |[],_,_,j,p,h,_,_,_=>by simp at h
 |x::r,n,h,j,p,hj,hi,hk,b=>by
  cases j with
  |zero=>
   rw[Xv]at hj;subst hj;rcases h.1 with e|e|e;exact absurd e hi;exact absurd (YE.1 e) hk;exact e b
  |succ j=>
   rw[XT]at hj;have h':zM kl i t a (n+1) r:=by
    cases x with
    |none=>exact h
    |some _=>exact h.2
   exact Gy r (n+1) h' j p hj (by omega) hk b
def NX(kl:List (Nat×Nat))(t:List (Nat×SV)):List jT->Prop
 |[]=>True
 |none::r=>NX kl t r
 |some p::r=>((kl.any λq=>q.2==p.1)=true∨look t p.1=p.2)∧NX kl t r
theorem zN{kl:List (Nat×Nat)}{t:List (Nat×SV)}:∀{T:List jT},(∀p,some p∈T->(∀q∈kl,q.2≠p.1)->look t p.1=p.2)->NX kl t T
 |[],_=>trivial
 |none::r,h=>zN (T:=r) λp hp=>h p (VG _ hp)
 |some p::r,h=>by
  refine⟨?_,zN (T:=r) λp hp=>h p (VG _ hp)⟩;cases e:kl.any λq=>q.2==p.1;right;refine h p (VN ..) λq b a=>?_;have:=Xo.1 e q b;simp[a]at this;exact .inl rfl
theorem cQ(q:Pos->Bool)(t:List (Nat×SV))(s:Nat):look (t.map λp=>(p.1,dq q p.2)) s=dq q (look t s):=bI q t s
theorem Gz{T:List jT}{t:List (Nat×SV)}:∀{L:bJ},Eb T t L↔∀j∈L,∀p,T.getD j none=some p->look t p.1=p.2
 |[]=>by simp[Eb]
 |j::r=>by
  rw[Eb,Gz];simp only[VU,forall_eq_or_imp];refine and_congr ⟨λh p e=>by rw[e]at h;exact h,λh=>?_⟩ Iff.rfl;cases e:T.getD j none with
  |none=>trivial
  |some p=>exact h p e
theorem lU{t:List (Nat×SV)}:∀{L:List (Nat×SV)},bZ t L↔∀p∈L,look t p.1=p.2
 |[]=>by simp[bZ]
 |p::r=>by rw[bZ,lU];simp
theorem zO{f:Nat->Prop}:∀{L:bJ},NW f L↔∀m∈L,f m
 |[]=>by simp[NW]
 |p::r=>by rw[NW,zO];simp
namespace Tb
def postL(b:Tb)(i m:Nat)(t:List (Nat×SV))(s:St):Prop:=s.h=b.H (if b.ws.contains i=true then m+1 else m)∧xP s.t (b.T.getD i none)∧bZ s.t b.B∧zM b.kl i t s.t 0 b.T
def steps(b:Tb)(P:aa)(D:bJ)(ops:List ai):List ai->Nat->Prop
 |[],_=>True
 |o::r,i=>NW (λm=>∀t,bZ t b.B->Eb b.T t (b.dpA i)->fP P D ops o (b.postL i m t) ⟨t,b.H m⟩) (b.lvA i)∧steps b P D ops r (i+1)
theorem steps_iff{P:aa}{D:bJ}{ops:List ai}{b:Tb}:∀{r:List ai}{n:Nat},steps b P D ops r n->∀i o,r[i]?=some o->∀m∈b.lvA (n+i),∀t,bZ t b.B->Eb b.T t (b.dpA (n+i))->fP P D ops o (b.postL (n+i) m t) ⟨t,b.H m⟩
 |[],_,_,i,o,h=>by simp at h
 |x::r,n,h,i,o,ho=>by
  cases i with
  |zero=>simp only[Wu,Wc]at ho;subst ho;exact zO.1 h.1
  |succ i=>
   have:=steps_iff h.2 i o (by simpa using ho)
   rwa [show n+1+i=n+(i+1) by omega]at this
end Tb
structure Tb.Inv (b:Tb) (ops:Array ai) (l:Array Bool) (s:St):Prop where
  clo:∀i,pp l i=true->∀j∈dr ops i,pp l j=true
  lev:∃m,m<=b.ws.length∧(∀k,k<b.ws.length->(pp l (b.ws.getD k 0)=true↔k<m))∧s.h=b.H m
  bas:∀p∈b.B,look s.t p.1=p.2
  tab:∀j p,b.T.getD j none=some p->pp l j=true->(∀q∈b.kl,q.2=p.1->pp l q.1=false∨q.1∈dr ops j)->look s.t p.1=p.2
theorem Tb.post_of{b:Tb}{i m:Nat}{t:List (Nat×SV)}{s:St}(h:b.postL i m t s):
 s.h=b.H (if i∈b.ws then m+1 else m)∧(∀p,b.T.getD i none=some p->look s.t p.1=p.2)∧(∀p∈b.B,look s.t p.1=p.2)∧
 ∀j p,b.T.getD j none=some p->j≠i->(i,p.1)∉b.kl->look t p.1=p.2->look s.t p.1=p.2:=by
 obtain⟨d,c,a3,a4⟩:=h;refine⟨?_,λp hp=>?_,lU.1 a3,λj p hp e a f=>?_⟩;rw[d];simp only[YE];rw[hp]at c;exact c;exact Gy b.T 0 a4 j p hp (by omega) a f
structure Tb.Ok (b:Tb) (ops:Array ai):Prop where
  nd:b.ws.Nodup
  c1:∀i,i<ops.size->∀j∈b.dpA i,j∈dr ops i∨KX ops 3 j i=true
  c2:∀k,k+1<b.ws.length->b.ws.getD k 0∈dr ops (b.ws.getD (k+1) 0)
  c3:∀i,i<ops.size->∀m,m<=b.ws.length->m∈b.lvA i∨∃k,k<b.ws.length∧((k<m∧(b.ws.getD k 0=i∨KX ops 3 i (b.ws.getD k 0)=true))∨(¬k<m∧KX ops 3 (b.ws.getD k 0) i=true))
  c4:∀i,i<ops.size->∀j∈b.dpA i,∀q∈b.kl,b.dst j≠some q.2∨q.1=i∨i∈dr ops q.1∨q.1∈dr ops j
  c5:∀w∈b.ws,w<ops.size
  c6:∀i,i<ops.size->∀j∈dr ops i,j<i
  c7:b.T.length<=ops.size
  hwk:∀k,k<b.ws.length->b.ws.getD k 0∈b.ws
theorem Tb.ok{b:Tb}{ops:Array ai}(a:b.okB ops=true):b.Ok ops:=by
 unfold Tb.okB at a;simp only[VC]at a;obtain⟨⟨⟨⟨⟨⟨⟨c1,c2⟩,c3⟩,c4⟩,c5⟩,c6⟩,c7⟩,e⟩:=a;have c7:b.T.length<=ops.size:=by simpa using c7
 have d:b.ws.Nodup:=by simpa using e
 have c1:∀i,i<ops.size->∀j∈b.dpA i,j∈dr ops i∨KX ops 3 j i=true:=λi hi j hj=>by
  have:=Wa.1 c1 i (WN.2 hi);simpa using Wa.1 this j hj
 have c2:∀k,k+1<b.ws.length->b.ws.getD k 0∈dr ops (b.ws.getD (k+1) 0):=λk hk=>by
  have:=Wa.1 c2 k (WN.2 (by omega));simpa using this
 have c3:∀i,i<ops.size->∀m,m<=b.ws.length->m∈b.lvA i∨∃k,k<b.ws.length∧((k<m∧(b.ws.getD k 0=i∨KX ops 3 i (b.ws.getD k 0)=true))∨(¬k<m∧KX ops 3 (b.ws.getD k 0) i=true)):=λi hi m l=>by
  have:=Wa.1 (Wa.1 c3 i (WN.2 hi)) m (WN.2 (by omega));rw[WI]at this;rcases this with h|h;exact .inl (by simpa using h);right;obtain⟨k,hk,h⟩:=XS.1 h;refine⟨k,WN.1 hk,?_⟩;by_cases c:k<m;rw[Vt c]at h;exact .inl ⟨c,by simpa using h⟩;rw[Vs c]at h;exact .inr ⟨c,by simpa using h⟩
 have c4:∀i,i<ops.size->∀j∈b.dpA i,∀q∈b.kl,b.dst j≠some q.2∨q.1=i∨i∈dr ops q.1∨q.1∈dr ops j:=λi hi j hj q f=>by
  have:=Wa.1 (Wa.1 (Wa.1 c4 i (WN.2 hi)) j hj) q f;simp only[WI,bne_iff_ne,Zv,YE]at this;rcases this with((h|h)|h)|h;exact .inl h;exact .inr (.inl h);exact .inr (.inr (.inl h));exact .inr (.inr (.inr h))
 have c5:∀w∈b.ws,w<ops.size:=λw g=>by simpa using Wa.1 c5 w g
 have c6:∀i,i<ops.size->∀j∈dr ops i,j<i:=λi hi j hj=>by
  have:=Wa.1 (Wa.1 c6 i (WN.2 hi)) j hj;simpa using this
 have hwk:∀k,k<b.ws.length->b.ws.getD k 0∈b.ws:=λk hk=>by rw[Vr,Vq hk];exact Vx hk
 exact⟨d,c1,c2,c3,c4,c5,c6,c7,hwk⟩
theorem Tb.Inv.reach{b:Tb}{ops:Array ai}{l:Array Bool}{s:St}(c:b.Inv ops l s):∀(n i j:Nat),(∀e∈dr ops j,pp l e=true)->KX ops n i j=true->pp l i=true
 |0,_,_,_,h=>by cases h
 |n+1,i,j,hj,h=>by
  obtain⟨e,d,h⟩:=XS.1 h;rw[WI]at h;rcases h with h|h;rw[←Zv.1 h];exact hj e d;exact c.reach n i e (λe' a=>c.clo e (hj e d) e' a) h
section
variable {b : Tb} {ops : Array ai} {l : Array Bool} {s : St} {i : Nat}
theorem Tb.now(ho:b.Ok ops)(E:l.size=ops.size)(d:b.Inv ops l s)(A:i∈Region.ready .any ops l):∃m,m∈b.lvA i∧s.h=b.H m∧bZ s.t b.B∧Eb b.T s.t (b.dpA i)∧(m<=b.ws.length∧∀k,k<b.ws.length->(pp l (b.ws.getD k 0)=true↔k<m)):=by
 obtain⟨y,c1,c2,c3,c4,c5,c6,c7,hwk⟩:=ho;obtain⟨o,D,r3⟩:=mR A;have c:pp l i=false:=by
  unfold pp;have g:i<l.size:=by omega
  simpa[Array.getD,g]using D
 have a:∀j∈dr ops i,pp l j=true:=r3;obtain⟨m,r,n,C⟩:=d.lev;have x:m∈b.lvA i:=by
  rcases c3 i o m r with h|⟨k,hk,⟨h1,f⟩|⟨h1,f⟩⟩;exact h;have ht:=(n k hk).2 h1;rcases f with f|f;rw[f,c]at ht;cases ht;have:=d.reach 3 i _ (λe v=>d.clo _ ht e v) f;rw[c]at this;cases this;exact absurd ((n k hk).1 (d.reach 3 _ i a f)) h1
 have u:∀j∈b.dpA i,∀p,b.T.getD j none=some p->look s.t p.1=p.2:=λj hj p hp=>by
  refine d.tab j p hp ((c1 i o j hj).elim (a j) λh=>d.reach 3 j i a h) λq z e=>?_;rcases c4 i o j hj q z with h|h|h|h;exact absurd (by unfold Tb.dst;rw[hp,e];rfl) h;rw[h];exact .inl c;cases w:pp l q.1;exact .inl rfl;have:=d.clo _ w i h;rw[c]at this;cases this;exact .inr h
 exact⟨m,x,C,lU.2 d.bas,Gz.2 u,r,n⟩
theorem Tb.next(ho:b.Ok ops)(N:l.size=ops.size)(y:b.Inv ops l s)(H:i∈Region.ready .any ops l){m:Nat}(E:m<=b.ws.length∧∀k,k<b.ws.length->(pp l (b.ws.getD k 0)=true↔k<m)){s':St}(hp:b.postL i m s.t s'):b.Inv ops (l.setIfInBounds i true) s':=by
 obtain⟨B,c1,c2,c3,c4,c5,c6,c7,hwk⟩:=ho;obtain⟨I,w⟩:=E;obtain⟨O,M,r3⟩:=mR H;have n:pp l i=false:=by
  unfold pp;have z:i<l.size:=by omega
  simpa[Array.getD,z]using M
 have f:∀j∈dr ops i,pp l j=true:=r3;obtain⟨x,J,K,L⟩:=Tb.post_of hp;have a:∀j,pp (l.setIfInBounds i true) j=if i=j then true else pp l j:=Gx (by omega);refine⟨λC g j hj=>?_,?_,K,λj p hj u hk=>?_⟩;rw[a]at g⊢;by_cases e:i=j;rw[Vt e];rw[Vs e];by_cases c:i=C;rw[←c]at hj;exact f j hj;rw[Vs c]at g;exact y.clo C g j hj;by_cases v:i∈b.ws;rw[Vt v]at x;obtain⟨k,hk,e⟩:=VE v;have e':b.ws.getD k 0=i:=by rw[Vr,Vq hk];exact e
 have D:¬k<m:=λh=>by have:=(w k hk).2 h;rw[e',n]at this;cases this
 have o:k=m:=by
  apply V0;intro F;have h1:=c2 (k -1) (by omega);rw[show k -1+1=k by omega,e']at h1;have:=(w (k -1) (by omega)).1 (f _ h1);omega
 subst o;refine⟨k+1,by omega,λk' d=>?_,x⟩;rw[a];by_cases c:i=b.ws.getD k' 0;rw[Vt c];have:k'=k:=by
  rw[Vr,Vq d,V7,←e]at c;have r:=V5.1 B;rcases Xd k k' with q|q|q;exact absurd c (r k k' hk d q);exact q.symm;exact absurd c.symm (r k' k d hk q)
 simp[this];rw[Vs c,w k' d];have:k'≠k:=λh=>c (by rw[h,e']);omega;rw[Vs v]at x;refine⟨m,I,λk hk=>?_,x⟩;rw[a,Vs (λe:i=b.ws.getD k 0=>v (e▸hwk k hk))];exact w k hk;rw[a]at u;by_cases e:i=j;subst e;exact J p hj;rw[Vs e]at u;have A:(i,p.1)∉b.kl:=λh=>by
  rcases hk (i,p.1) h rfl with this|this;rw[a,Vt rfl]at this;cases this;have:=y.clo j u i this;rw[n]at this;cases this
 refine L j p hj (λh=>e h.symm) A (y.tab j p hj u λq G c=>?_);refine(hk q G c).imp (λthis=>?_) id;rw[a]at this;split at this;cases this;exact this
theorem Tb.fin(ho:b.Ok ops)(E:l.size=ops.size)(g:b.Inv ops l s)(z:Region.ready .any ops l=[]):(∀j,j<ops.size->pp l j=true)∧s.h=b.H b.ws.length∧bZ s.t b.B∧NX b.kl s.t b.T:=by
 obtain⟨w,c1,c2,c3,c4,c5,c6,c7,hwk⟩:=ho;have c:∀n j,j<n->j<ops.size->pp l j=true:=by
  intro n
  induction n with
  |zero=>intro j h;omega
  |succ n A=>
   intro j hj a;apply V0;intro hn;have:j∈Region.ready .any ops l:=by
    unfold Region.ready;rw[V9];refine⟨WN.2 a,?_⟩;have d:j<l.size:=by omega
    have i:l[j]=false:=by
     unfold pp at hn;simpa[Array.getD,d]using hn
    rw[VK a];simp only[Wq,V7,VC,Wp];refine⟨by simp[Array.getD,d,i],?_⟩;rw[Zt];intro e u;cases r:Region.binds .any e;rfl;have hd:e.on∈dr ops j:=by
     unfold dr;rw[VK a];exact VB.2 ⟨e,V9.2 ⟨ZI.2 u,r⟩,rfl⟩
    have h1:=c6 j a _ hd;have k:=A e.on (by omega) (by omega);unfold pp at k;simp[k]
   rw[z]at this;cases this
 have f:=λj hj=>c (j+1) j (Yz j) hj;obtain⟨m,F,C,D⟩:=g.lev;have v:m=b.ws.length:=by
  apply V0;intro x;have:=(C m (by omega)).1 (f _ (c5 _ (hwk m (by omega))));omega
 subst v;exact⟨f,D,lU.2 g.bas,zN λp hp hk=>by
  obtain⟨j,hj,e⟩:=VE hp;exact g.tab j p (by rw[Vr,Vq hj,e];rfl) (f j (WK hj c7)) λq y o=>absurd o (hk q y)⟩
theorem Tb.beg{t:List (Nat×SV)}(a:bZ t b.B):b.Inv ops (Array.replicate ops.size false) ⟨t,b.H 0⟩:=by
 have h0:∀i,pp (Array.replicate ops.size false) i=false:=λi=>by
  unfold pp;simp only[VJ,Xb];split<;>rfl
 exact⟨λi hi=>(by rw[h0]at hi;cases hi),⟨0,VH _,λk _=>by rw[h0];simp,rfl⟩,lU.1 a,λj p _ hj=>(by rw[h0]at hj;cases hj)⟩
end
theorem dB.of{P:aa}{D:bJ}{ops:Array ai}{i:Nat}{K:St->Prop}{s:St}(hi:i<ops.size)(h:fP P D ops.toList ops[i] K s):dB P D ops.toList i K s:=by
 unfold dB;rw[Vw,VK hi];exact h
theorem bP.tab{P:aa}{k0:Nat}{ops:Array ai}{K:St->Prop}{st:St}(D:bJ)(b:Tb)(o:St)(k:b.okB ops=true)
 (r:bZ st.t b.B) (u:st.h=b.H 0)
 (a:b.steps P D ops.toList ops.toList 0)
 (c:∀t,bZ t b.B->NX b.kl t b.T->av k0 ⟨t,b.H b.ws.length⟩ o) (v:K o):bP P k0 ops K st:=by
 have ho:=Tb.ok k;refine bP.inv D (λl s=>b.Inv ops l s) ?_ ?_ ?_;have:=Tb.beg (ops:=ops) r;rw[←u]at this;exact this;intro l s i g f d;obtain⟨m,w,n,h1,j,q⟩:=Tb.now ho g f d;have p:=(mR d).1;have e:=Tb.steps_iff a i ops[i] (by rw[Vw,VK p]) m (by rw[Wr];exact w) s.t h1 (by rw[Wr];exact j);rw[Wr,←n]at e;exact⟨_,dB.of p e,λs' hp=>Tb.next ho g f d q hp⟩;intro l s g f d;obtain⟨_,n,h1,j⟩:=Tb.fin ho g f d;have:=c s.t h1 j;rw[←n]at this;exact⟨o,this,v⟩
def Tb.wth(b:Tb)(k:Nat)(T:List jT)(H:Nat->ao):Tb:=⟨T,b.B,b.dp,b.ws,b.lv,b.kl,λm=>if m<=k then b.H m else H m⟩
def TB(dl:bJ):Nat->List jT->List jT->Prop
 |j,x::r,y::a=>(dl.contains j=true∨x=y)∧TB dl (j+1) r a
 |_,[],[]=>True
 |_,_,_=>False
theorem GA{dl:bJ}:∀{T T':List jT}{n:Nat},TB dl n T T'->∀j,n+j∉dl->T'.getD j none=T.getD j none
 |[],[],_,_,_,_=>rfl
 |x::r,y::a,n,h,j,hj=>by
  cases j with
  |zero=>
   rcases h.1 with e|e;exact absurd (YE.1 e) hj;rw[Xv,Xv,e]
  |succ j=>
   rw[XT,XT];exact GA h.2 j (by rwa [show n+1+j=n+(j+1) by omega])
 |[],_::_,_,h,_,_=>h.elim
 |_::_,[],_,h,_,_=>h.elim
def Tb.steps2{ι:Type}(b:Tb)(T:ι->List jT)(H:ι->Nat->ao)(J:ι->Prop)(w k:Nat)(P:aa)(D:bJ)(ops:List ai):List ai->Nat->Prop
 |[],_=>True
 | o :: r, i => NW (λ m => ∀ t, bZ t b.B -> if m <= k then Eb b.T t (b.dpA i) -> fP P D ops o (λ s => if i = w then ∃ y, J y ∧ (b.wth k (T y) (H y)).postL i m t s else b.postL i m t s) ⟨t, b.H m⟩
  else∀y,J y->Eb (T y) t (b.dpA i)->fP P D ops o ((b.wth k (T y) (H y)).postL i m t) ⟨t,H y m⟩) (b.lvA i)∧steps2 b T H J w k P D ops r (i+1)
theorem Tb.steps2_iff {ι : Type} {b : Tb} {T : ι -> List jT} {H : ι -> Nat -> ao} {J : ι -> Prop} {w k : Nat} {P : aa} {D : bJ} {ops : List ai} : ∀ {r : List ai} {n : Nat}, b.steps2 T H J w k P D ops r n -> ∀ i o, r[i]? = some o -> ∀ m ∈ b.lvA (n + i), ∀ t, bZ t b.B -> if m <= k then Eb b.T t (b.dpA (n + i)) -> fP P D ops o (λ s => if n + i = w then ∃ y, J y ∧ (b.wth k (T y) (H y)).postL (n + i) m t s else b.postL (n + i) m t s) ⟨t, b.H m⟩
      else∀y,J y->Eb (T y) t (b.dpA (n+i))->fP P D ops o ((b.wth k (T y) (H y)).postL (n+i) m t) ⟨t,H y m⟩
  |[],_,_,i,o,h=>by simp at h
  |x::r,n,h,i,o,ho=>by
    cases i with
    |zero=>simp only[Wu,Wc]at ho;subst ho;exact zO.1 h.1
    |succ i=>
      have:=steps2_iff h.2 i o (by simpa using ho)
      rwa [show n+1+i=n+(i+1) by omega]at this
theorem bP.tab2{P:aa}{k0:Nat}{ops:Array ai}{K:St->Prop}{st:St}{ι:Type}(D:bJ)(b:Tb)(T:ι->List jT)(H:ι->Nat->ao)(J:ι->Prop)(w k:Nat)(dl:bJ)
 (Q:b.okB ops=true) (F:∀y,(b.wth k (T y) (H y)).okB ops=true) (U:b.ws[k]?=some w) (L:dl.all (λj=>j==w||(dr ops j).contains w)=true)
 (Y:∀y,TB dl 0 b.T (T y)) (W:bZ st.t b.B) (X:st.h=b.H 0) (f:b.steps2 T H J w k P D ops.toList ops.toList 0)
 (A:∀y,J y->∀t,bZ t b.B->NX b.kl t (T y)->∃I,av k0 ⟨t,H y b.ws.length⟩ I∧K I):bP P k0 ops K st:=by
 have ho:=Tb.ok Q;have n:=λy=>Tb.ok (F y);obtain⟨u,N⟩:=Vp.1 U;have E:b.ws.getD k 0=w:=by rw[Vr,U];rfl
 have R:w<ops.size:=ho.c5 w (N▸Vx u);refine bP.inv D (λl s=>if pp l w=true then∃y,J y∧(b.wth k (T y) (H y)).Inv ops l s else b.Inv ops l s) ?_ ?_ ?_;have:=Tb.beg (ops:=ops) W;rw[←X]at this;rw[Vs];exact this;unfold pp;simp only[VJ,Xb];split<;>simp;intro l s i r c o;have G:=(mR o).1;have d:∀j,pp (l.setIfInBounds i true) j=if i=j then true else pp l j:=Gx (by omega);by_cases hd:pp l w=true;rw[Vt hd]at c;obtain⟨y,hy,c⟩:=c;obtain⟨m,O,x,h1,z,q⟩:=Tb.now (n y) r c o;have v:k<m:=(q.2 k u).1 (by rw[show(b.wth k (T y) (H y)).ws=b.ws from rfl,E];exact hd);have a:=Tb.steps2_iff f i ops[i] (by rw[Vw,VK G]) m (by rw[Wr];exact O) s.t h1;rw[Vs (by omega),Wr]at a;have a:=a y hy z;rw[show H y m=(b.wth k (T y) (H y)).H m by unfold Tb.wth;simp only;rw[Vs (by omega)],←x]at a;refine⟨_,dB.of G a,λs' hp=>?_⟩;rw[Vt (by rw[d,hd];split<;>rfl)];exact⟨y,hy,Tb.next (n y) r c o q hp⟩;rw[Vs hd]at c;obtain⟨m,O,x,h1,z,q⟩:=Tb.now ho r c o;have v:m<=k:=W5 λh=>hd (E▸(q.2 k u).2 h);have a:=Tb.steps2_iff f i ops[i] (by rw[Vw,VK G]) m (by rw[Wr];exact O) s.t h1;rw[Vt v,Wr]at a;have a:=a z;rw[←x]at a;refine⟨_,dB.of G a,λs' hp=>?_⟩;by_cases g:i=w;rw[Vt g]at hp;obtain⟨y,hy,hp⟩:=hp;rw[Vt (by rw[d,Vt g])];refine⟨y,hy,Tb.next (n y) r ?_ o q hp⟩;refine⟨c.clo,⟨m,q.1,q.2,by rw[x];unfold Tb.wth;simp only;rw[Vt v]⟩,c.bas,λj p hj M hk=>c.tab j p ?_ M hk⟩;rw[←GA (Y y) j];exact hj;intro C;rw[Wr]at C;have:=Wa.1 L j C;rw[WI]at this;rcases this with e|e;exact hd ((Zv.1 e)▸M);exact hd (c.clo j M w (YE.1 e));rw[Vs g]at hp;rw[Vs (by rw[d,Vs g];exact hd)];exact Tb.next ho r c o q hp;intro l s r c o;by_cases hd:pp l w=true;rw[Vt hd]at c;obtain⟨y,hy,c⟩:=c;obtain⟨_,x,h1,z⟩:=Tb.fin (n y) r c o;obtain⟨I,S,V⟩:=A y hy s.t h1 z;refine⟨I,?_,V⟩;have e:(b.wth k (T y) (H y)).H (b.wth k (T y) (H y)).ws.length=H y b.ws.length:=by unfold Tb.wth;simp only;rw[Vs (by omega)]
 rw[e]at x;rw[←x]at S;exact S;rw[Vs hd]at c;exact absurd ((Tb.fin ho r c o).1 w R) hd
end Go.AX
