/-
  AX, part Pu: a call that leaves all as it was, and whose result is plain, changes nothing; and what follows.
-/
import Derived.Test.YtepodadinenmnaaGreatAxXW
import Derived.Test.YtepodadinenmnaaGreatAxR
import Derived.Shelf.Spec.SlicesInsert
namespace Go.AX
theorem aA.pure{P:Program}{f:FuncId}{args:List PV}{R:SV->Prop}(g:aA P f args [] (λr _=>∃x,r=.pv x∧R (.pv x))):aj P f args R:=by
 refine⟨g.1,λw vs h=>?_⟩;have hs:=vy (N:=args.length+1) h (Vt _);refine(g.2 _ _ _ _ vs hs rfl (vx h)).mono λe w' ⟨v,r,h',g',l,⟨x,n,i⟩,o,hd⟩=>?_;subst n;have d:args.length<(lp w (args.length+1)).N:=VA _;have s':=hd (some args.length) d;obtain⟨bl,j⟩:=s'.own;have a:=j.slots args.length;have b:args.length<(vs.toArray++Array.replicate (args.length+1 -vs.toArray.size) undef).size:=by
  rw[hs.size];exact d
 rw[fU b,SX rfl]at a;have m:look (iI (some args.length) (.pv x) ⟨aG eD (fV 0 args),h'⟩).t args.length=.pv x:=by
  simp[iI,look,St.put]
 rw[m]at a;exact⟨v,.pv x,g',none,l,i,iN o s',⟨rfl,a.2⟩,rfl,λc k=>by cases k⟩
def fw(st:St):List Operand->List PV->Prop
 |[],zs=>zs=[]
 |a::xs,zs=>∃z r,zs=z::r∧gc st a∧mv st a=.pv z∧fw st xs r
theorem vD{st:St}{g:Gh}{a:Act}{w:World}(h:Sim g st a w):∀{xs:List Operand}{zs:List PV},fw st xs zs->ak g zs (xs.map a.eval)
 |[],zs,e=>by
  have:zs=[]:=e;subst this;rfl
 |x::xs,zs,⟨z,r,hz,c,d,f⟩=>by
  subst hz;obtain⟨b,_⟩:=aN h x c;rw[d]at b;exact⟨_,_,rfl,b.2,vD h f⟩
theorem ta{g:Gh}:∀{xs ys:List PV}{a vs:List Value},ak g xs a->ak g ys vs->ak g (xs++ys) (a++vs)
 |[],ys,a,vs,h,k=>by
  have:a=[]:=h;subst this;exact k
 |x::xs,ys,a,vs,⟨v,r,h1,b,c⟩,k=>by
  subst h1;exact⟨v,r++vs,rfl,b,ta c k⟩
theorem bE.pureM{P:Program}{st:St}{x:Operand}{args:Array Operand}{d:Nat}{K:St->Prop}{f:FuncId}{p q zs:List PV}{y:PV}(hA:aA P f (p++(zs++q)) [] (λr _=>r=.pv y))
    (hg:gc st x) (hc:bC st x=some (f,p,q)) (ha:fw st args.toList zs) (hb:bR 0 (p++(zs++q))) (hy:y.bel 0)
    (hK:K (st.put d (.pv y))):bE P st x args (some d) K:=by
  intro o tys ho hdd g a w h hd K' Q hfin
  obtain⟨hcall,hA⟩:=hA
  obtain⟨u,v,hu,hv,hrun⟩:=oA h o x args tys f p q ho hg hc hcall
  have hfit:ak g (p++(zs++q)) (u.toList++(args.toList.map a.eval++v.toList)):=ta hu (ta (vD h ha) hv)
  generalize hpa:p++(zs++q)=pa at*
  generalize hvs:u.toList++(args.toList.map a.eval++v.toList)=vs at*
  let g0:Gh:={g with F:=λc=>if g.I c=none then w.heap[c]?else none,n:=0,n0:=0,N:=pa.length+1,env:=bT w}
  have hle0:Gh.le {g with n:=0} g0:=⟨λ_ _ h=>h,SY _,SY _,λ_ h=>absurd h (Vj _)⟩
  have hfit0:ak g0 pa vs:=ak.mono hle0 _ _ (ak.below pa vs hb hfit)
  have hl:=hfit0.length
  have hgd:∀s,(vs.toArray++Array.replicate (pa.length+1 -vs.toArray.size) undef).getD s undef=vs.getD s undef:=by
    intro s
    simp only[Tg,SS,Wb,T8,WR,UK]
    split
    · rfl
    · rename_i hs
      rw[TL (by omega)]
      split<;>rfl
  have hs0:Sim g0 ⟨fV 0 pa,[]⟩ {tmps:=vs.toArray++Array.replicate (pa.length+1 -vs.toArray.size) undef,defers:=[]} w:=by
    refine { size := ?_, defs := rfl, env := rfl, n := rfl, n0 := SY _, B := h.B, I := h.I, F := λ c o hc => ?_, μI := λ b hb => absurd hb (Vj _), μinj := λ b b' hb => absurd hb (Vj _),
             own:=⟨λ_=>none,?_⟩,al:=λs=>?_}
    · show(vs.toArray++Array.replicate (pa.length+1 -vs.toArray.size) undef).size=pa.length+1
      simp;omega
    · change(if g.I c=none then w.heap[c]?else none)=some o at hc
      split at hc
      · exact hc
      · cases hc
    · refine{slots:=λs=>?_,blocks:=λb xs hx=>(by simp at hx),inj:=λp q c hp=>(by cases hp),free:=λp c hp=>by cases hp}
      show az _ w _ ((vs.toArray++Array.replicate (pa.length+1 -vs.toArray.size) undef).getD s undef) none
      rw[hgd]
      have:=jQ g0 pa vs 0 s hfit0 w
      simpa using this
    · obtain⟨x,hx⟩:=lm pa 0 s
      simp only[hx];trivial
  unfold Oper.wp
  rw[hrun,Oper.upon_enter]
  refine(hA g0 _ _ w vs hs0 rfl hfit0).mono λe w' ⟨v',r,h',g',he,hr,t',hdx⟩=>?_
  subst he;subst hr
  have hN:pa.length<g0.N:=VA _
  have s':=hdx (some pa.length) hN
  obtain⟨bl,hbo⟩:=s'.own
  have hf:=hbo.slots pa.length
  have hsz:pa.length<(vs.toArray++Array.replicate (pa.length+1 -vs.toArray.size) undef).size:=by
    rw[hs0.size];exact hN
  rw[fU hsz,SX rfl]at hf
  have hlk:look (iI (some pa.length) (.pv y) ⟨aG eD (fV 0 pa),h'⟩).t pa.length=.pv y:=by
    simp[iI,look,St.put]
  rw[hlk]at hf
  have hkeep:∀c,c<w.heap.size->w'.heap[c]?=w.heap[c]?:=λc hc=>by
    have hx:w.heap[c]?=some w.heap[c]:=Ti hc
    cases hI:g.I c with
    |some o=>rw[s'.I c o (t'.I c o hI),h.I c o hI]
    |none=>
      have hF:g'.F c=some w.heap[c]:=by
        rw[t'.F]
        show(if g.I c=none then w.heap[c]?else none)=_
        rw[SX hI,hx]
      rw[s'.F c _ hF,hx]
  have hsize:w.heap.size<=w'.heap.size:=by
    cases hsz2:w.heap.size with
    |zero=>exact Tf _
    |succ n=>
      have h1:=hkeep n (by omega)
      rw[Ti (show n<w.heap.size by omega)]at h1
      have:=(Td.1 h1).1
      omega
  have henv:bT w'=bT w:=s'.env.trans t'.env
  obtain⟨h1,h2,h3⟩:=h.grown henv hsize hkeep g'.I s'.I
  have hfy:Fit {g with I:=λc=>if w.heap.size<=c then g'.I c else g.I c} y v':=by
    refine Fit.mono ?_ _ _ (Fit.below y v' hy hf.2)
    refine⟨λc o hc=>?_,?_,Tf _,λ_ hb=>absurd hb (Vj _)⟩
    · show(if w.heap.size<=c then g'.I c else g.I c)=some o
      have hc':g'.I c=some o:=hc
      split
      · exact hc'
      · rename_i hlt
        cases hI:g.I c with
        |some o2=>rw[t'.I c o2 hI]at hc';exact hc'
        |none=>
          have hx:w.heap[c]?=some (w.heap[c]'(by omega)):=Ti (by omega)
          have:=t'.FI c (by show(if g.I c=none then w.heap[c]?else none)≠none;rw[SX hI,hx];simp) hI
          rw[this]at hc';cases hc'
    · show g.B<=g'.B
      rw[t'.B]
      exact SY _
  rw[hdd]
  have hd':d<g.N:=hd
  exact hfin _ _ _ _ hK h2 (h1.put hd' ⟨rfl,hfy⟩ trivial rfl)
end Go.AX
namespace Go.AX
def blk(pre:List Value)(zs:List Int)(a:List Value):List SV:=pre.map (λv=>.pv (.lit v))++(zs.map (λz=>.pv (.lit (.int .i64 z)))++a.map λv=>.pv (.lit v))
theorem eF(pre:List Value)(zs:List Int)(a:List Value):(blk pre zs a).length=pre.length+zs.length+a.length:=by
 unfold blk;simp only[Ta,S7];omega
theorem lr(pre:List Value)(zs:List Int)(a:List Value){i:Nat}(h:i<zs.length):(blk pre zs a)[pre.length+i]?=some (.pv (.lit (.int .i64 zs[i]))):=by
 unfold blk;rw[Tk (by simp),S7,Vd,SZ (by simpa using h),Tm,SR h];rfl
theorem tb(pre:List Value)(zs:List Int)(a:List Value){i:Nat}{ys:List Int}(h:i+ys.length<=zs.length):
 List.take (pre.length+i) (blk pre zs a)++(ys.map (λz=>SV.pv (.lit (.int .i64 z)))++List.drop (pre.length+i+ys.length) (blk pre zs a))=blk pre (zs.take i++ys++zs.drop (i+ys.length)) a:=by
 unfold blk;have b:pre.length=(pre.map (λv=>SV.pv (PV.lit v))).length:=by simp
 rw[show List.take (pre.length+i) (pre.map (λv=>SV.pv (PV.lit v))++(zs.map (λz=>SV.pv (.lit (.int .i64 z)))++a.map λv=>.pv (.lit v)))=pre.map (λv=>SV.pv (PV.lit v))++(zs.map (λz=>SV.pv (.lit (.int .i64 z)))).take i by
  rw[b,Wa];congr 1;rw[Uy (by simp;omega)],
  show List.drop (pre.length+i+ys.length) (pre.map (λv=>SV.pv (PV.lit v))++(zs.map (λz=>SV.pv (.lit (.int .i64 z)))++a.map λv=>.pv (.lit v)))=(zs.map (λz=>SV.pv (.lit (.int .i64 z)))).drop (i+ys.length)++a.map λv=>.pv (.lit v) by
   rw[U4,b,VG,Ua (by simp;omega)]]
 simp only[Tu,UB,VD,Tv]
theorem xt(pre:List Value)(zs:List Int)(a:List Value){i:Nat}(y:Int)(h:i<zs.length):
 List.take (pre.length+i) (blk pre zs a)++SV.pv (.lit (.int .i64 y))::List.drop (pre.length+i+1) (blk pre zs a)=blk pre (zs.set i y) a:=by
 have:=tb pre zs a (i:=i) (ys:=[y]) (by simp;omega);simp only[Tn,Vg,Ue,TP,TI]at this;rw[this];congr 1;rw[VO,SX h];simp
theorem Ig(pre:List Value)(zs:List Int)(a:List Value)(t:List (List SV))(n:Nat):uH (bA (blk pre zs a::t) (n+1) 0 pre.length) 1 zs.length=.seq false 1 (zs.map λz=>[.lit (.int .i64 z)]):=by
 have b:=eF pre zs a;have e:(blk pre zs a::t).getD 0 []=blk pre zs a:=rfl;simp only[bA,uH,e,S7];rw[SX ⟨trivial,by omega⟩];congr 1;unfold blk;simp only[Tu,TX];rw[WA (by simp),UY (by simp),TX];rfl
theorem fE(k:Nat)(pre:List Value)(zs:List Int)(a:List Value):cG k (blk pre zs a):=by
 refine nr λx hx=>?_;unfold blk at hx;simp only[Te,S8]at hx;rcases hx with⟨_,_,rfl⟩|⟨_,_,rfl⟩|⟨_,_,rfl⟩<;>trivial
theorem tc(pre:List Value)(zs:List Int)(a:List Value){i n:Nat}(y:Int)(h:i+n<=zs.length):
 List.take (pre.length+i) (blk pre zs a)++(List.replicate n (SV.pv (.lit (.int .i64 y)))++List.drop (pre.length+i+n) (blk pre zs a))=blk pre (zs.take i++List.replicate n y++zs.drop (i+n)) a:=by
 have:=tb pre zs a (i:=i) (ys:=List.replicate n y) (by simpa using h);simpa only[Vh,Vx]using this
theorem oC{g:Gh}{w:World}{arr:Array Value}{bl:Nat->Option Nat}{vs:List Value}(hs:arr.size=vs.length)(h:∀k x,(vs.map (λv=>SV.pv (.lit v)))[k]?=some x->az g w x (arr.getD k undef) (bl k)):arr=vs.toArray:=by
 apply Array.ext
 .simpa using hs
 .intro i h1 b;have:=h i (.pv (.lit (vs[i]'(by omega)))) (by rw[Tm,SR (by omega)];rfl);have a:arr.getD i undef=vs[i]'(by omega):=this.2;simpa[Array.getD,h1]using a
def aC(zs:List Int):List (List PV):=zs.map λz=>[.lit (.int .i64 z)]
theorem dP(G:Gh):∀zs:List Int,ay G 1 (aC zs) (zs.map (Value.int .i64))
 |[]=>rfl
 |z::zs=>⟨[.int .i64 z],zs.map (Value.int .i64),rfl,⟨rfl,λv a=>by simp at a;subst a;rfl⟩,⟨_,_,rfl,rfl,rfl⟩,dP G zs⟩
theorem bV{G:Gh}:∀{zs:List Int}{vs:List Value},ay G 1 (aC zs) vs->vs=zs.map (Value.int .i64)
 |[],_,h=>h
 |z::zs,_,⟨g,i,h1,_,c,d⟩=>by
  obtain⟨v,r,rfl,e,f⟩:=c;have a:v=.int .i64 z:=e;have b:r=[]:=f;subst a b;rw[h1,bV d];rfl
def Sk(k:Option Nat)(off cap:Nat):SV:=match k with
 |none=>.pv (.tup [])
 |some m=>.pv (.bsl 0 1 off m cap)
def QF(k:Option Nat)(p:Option Addr)(cap:Nat):SV:=match k with
 |none=>.pv (.tup [])
 |some m=>.pv (.lit (.slice p m cap))
theorem o8.ofInts{P:Program}{f:FuncId}{zs:List Int}{args:List PV}{R:Option Nat->List (List PV)->Prop}(hc:aF P f=true)(ho:qo args)(V:bR 0 args)
 (h : zs ≠ [] -> ∀ (pre a : List Value) (cap : Nat), zs.length <= cap -> zs.length <= maxLen -> aA P f (.bsl 0 1 pre.length zs.length cap :: args) [blk pre zs a]
  (λr h'=>∃k d,R k (aC d)∧d.length=zs.length∧(∀m,k=some m->m<=zs.length)∧r=Sk k pre.length cap∧h'=[blk pre d a]))
 (h0:zs=[]->∀(p:Option Addr)(cap:Nat),aj P f (.lit (.slice p 0 cap)::args) (λr=>∃k,R k []∧(k=none∨k=some 0)∧r=QF k p cap)):
 o8 P f 1 (aC zs) args R:=by
 refine⟨hc,λY w c cap arr T pre vs a us h1 h2 Q h4 h5 h6 D=>?_,λE w p cap us h1=>?_⟩
 .have hz:zs≠[]:=λe=>Y (by rw[e];rfl);have H:(aC zs).length=zs.length:=by unfold aC;simp
  have ab:=bV h5;subst ab;rw[H]at Q h4⊢;have ad:c<w.heap.size:=(Td.1 h1).1;obtain⟨G,l⟩:∃G:Gh,G={I:=λk=>if k=c then none else w.heap[k]?,F:=λ_=>none,B:=0,μ:=λ_=>c,n:=1,n0:=1,N:=1,env:=bT w}:=⟨_,rfl⟩;have K:Sim G ⟨[],[blk pre zs a]⟩ ⟨#[undef],[]⟩ w:=by
   subst l;refine{size:=rfl,defs:=rfl,env:=rfl,n:=rfl,n0:=SY _,B:=Tf _,I:=λk o hk=>?_,F:=λk o hk=>(by cases hk),μI:=λb V=>⟨by simp,rfl⟩,μinj:=λb b' V g _=>?_,own:=⟨λ_=>none,?_⟩,al:=λs=>trivial}
   .by_cases e:k=c
    .subst e;simp at hk
    .simpa[e]using hk
   .dsimp only at V g;omega
   .refine{slots:=λs=>⟨rfl,trivial⟩,blocks:=λb xs hx=>?_,inj:=λp q k hk=>(by cases hk),free:=λp k hk=>(by cases hk)};cases b with
    |succ b=>simp at hx
    |zero=>
     simp only[TQ,TF]at hx;subst hx;have aa:arr.size=(blk pre zs a).length:=by rw[eF,←TR,h2];simp only[Ta,S7]
     refine⟨arr,T,h1,⟨aa,D⟩,λk x hk=>?_⟩;have t:blk pre zs a=arr.toList.map (λv=>.pv (.lit v)):=by
      rw[h2];unfold blk;simp only[Tu,TX,Tv];rfl
     rw[t,Tm]at hk;cases A:arr.toList[k]?with
     |none=>rw[A]at hk;cases hk
     |some u=>
      rw[A]at hk;simp only[TZ,TF]at hk;subst hk;refine⟨rfl,rfl,?_⟩;show arr.getD k undef=u;have:arr[k]?=some u:=by rw[←S4];exact A
      rw[Tg,this];rfl
  have i:ak G (.bsl 0 1 pre.length zs.length cap::args) (.slice (some ⟨c,pre.length,none⟩) zs.length cap::us):=by
   refine⟨_,_,rfl,?_,?_⟩
   .subst l;exact⟨Wc,Q,rfl⟩
   .refine ak.monoC ⟨λk arr' T' fz hk=>?_,λk en ck hk=>?_⟩ _ _ (.inr ho) (.inl rfl) h6
    .obtain⟨M,O⟩:=Hv hk;subst l;simpa[M]using O
    .obtain⟨M,O⟩:=Hw hk;subst l;simpa[M]using O
  refine((h hz pre a cap Q h4).2 G _ _ w _ K rfl i).mono λe w' ⟨v,r,h',g',E,⟨k,d,r1,r2,r3,r4,r5⟩,t',Z⟩=>?_;subst r4 r5;have C:=Z (some 0) (by subst l;exact Wc);have hμ:g'.μ 0=c:=by rw[t'.μ 0 (by subst l;exact Wc)];subst l;rfl
  obtain⟨bl,g⟩:=C.own;have j:∀k,k<w.heap.size->k≠c->w'.heap[k]?=w.heap[k]?:=λk hk X=>by
   have hI:G.I k=some w.heap[k]:=by subst l;simp[X]
   rw[C.I _ _ (t'.I _ _ hI),Ti hk]
  refine⟨k,aC d,d.map (Value.int .i64),r1,by unfold aC;simpa using r2,r3,?_,?_,?_,j,?_,λG _=>dP G d⟩
  .rw[E];have h0:=g.slots 0;cases k with
   |none=>
    have y:az g' w' (.pv (.tup [])) v (bl (.slot 0)):=h0;obtain⟨_,vs,rfl,S⟩:=y;have z:vs.toList=[]:=S;have:vs=#[]:=UJ z;rw[this]
   |some m=>
    have y:az g' w' (.pv (.bsl 0 1 pre.length m cap)) v (bl (.slot 0)):=h0;obtain⟨_,_,_,rfl⟩:=y;rw[hμ]
  .rw[C.env,t'.env];subst l;rfl
  .apply UF;intro J;have W:w'.heap[c]?≠none:=by
    obtain⟨arr',T',b1,_⟩:=g.blocks 0 (blk pre d a) (by cases k<;>rfl);rw[hμ]at b1;rw[b1];simp
   have L:w'.heap[w'.heap.size]?=none:=by simp
   by_cases e:w'.heap.size=c
   .rw[e]at L;exact W L
   .rw[j _ J e,Ti J]at L;cases L
  .obtain⟨arr',T',b1,⟨b2,_⟩,b3⟩:=g.blocks 0 (blk pre d a) (by cases k<;>rfl);rw[hμ]at b1;refine⟨T',?_⟩;rw[b1];have t:blk pre d a=(pre++d.map (Value.int .i64)++a).map (λv=>.pv (.lit v)):=by
    unfold blk;simp only[Tu,TX,Tv];rfl
   rw[t,S7]at b2;rw[oC (bl:=λk=>bl (.cell 0 k)) b2 λk x hk=>(b3 k x (by rw[t];exact hk)).2]
 .have hz:zs=[]:=by
   cases zs with
   |nil=>rfl
   |cons _ _=>unfold aC at E;cases E
  subst hz;have i:ak (du w) (.lit (.slice p 0 cap)::args) (.slice p 0 cap::us):=⟨_,_,rfl,rfl,h1⟩;refine((h0 rfl p cap).2 w _ i).mono λe w' ⟨v,r,g',o,E,⟨k,r1,r2,r3⟩,U,hF,_,_⟩=>?_;subst r3;refine⟨k,r1,r2,?_,U.env,U.size,λk hk=>U.keep k hk⟩;rw[E];cases k with
  |none=>
   have y:az g' w' (.pv (.tup [])) v o:=hF;obtain⟨_,vs,rfl,S⟩:=y;have z:vs.toList=[]:=S;have:vs=#[]:=UJ z;rw[this]
  |some m=>
   have y:v=.slice p m cap:=hF.2;rw[y]
end Go.AX
namespace Go.AX
theorem az.le1{g g':Gh}(a:g.le g')(i:g'.B=g.B){w:World}:∀{x:SV}{v:Value}{b:Option Nat},az g w x v b->az g' w x v b
 |.pv x,_,_,h=>⟨h.1,Fit.mono a x _ h.2⟩
 |.own _ e rows,_,_,h=>h.imp id λ⟨c,h1,cap,arr,T,vs,d,f,a3,a4,a5,j,k⟩=>⟨c,h1,cap,arr,T,vs,d,f,a3,a4,ay.mono a e rows vs a5,j,λhn=>by rw[i];exact k hn⟩
 |.omap _ es,_,_,⟨c,h1,en,ck,d,f,a3,a4⟩=>⟨c,h1,en,ck,d,f,bD.mono a es _ a3,λhn=>by rw[i];exact a4.1 hn,a4.2⟩
 |.opt _ _,_,_,h=>⟨h.1,h.2.1,λm=>az.le1 a i (h.2.2 m)⟩
 |.al _,_,_,h=>h
 |.loc _ _ _,_,_,h=>h
 |.sptr _ _ _,_,_,h=>h
 |.agl xs,_,_,⟨h,vs,h1,l⟩=>⟨h,vs,h1,ak.mono a _ _ l⟩
theorem ah.last{k0:Nat}{t:List (Nat×SV)}{B:List (List SV)}{x y:List SV}{s0 off:Nat}(ht:jI B.length t)(hB:dO B.length B)(hy:∀v∈y,∃p,v=.pv p∧p.bel B.length)(hk:k0<=B.length):
    ah k0 ⟨(s0,.pv (.ptr (B.length+1) off))::t,B++[x,y]⟩ ⟨(s0,.pv (.ptr B.length off))::t,B++[y]⟩:=λg a w h0 hs=>by
  obtain⟨bl,hbl⟩:=hs.own
  have hn:g.n=B.length+2:=by rw[hs.n];simp
  let g':Gh:={g with n:=B.length+1,μ:=λb=>if b=B.length then g.μ (B.length+1)else g.μ b}
  have hm:∀b,b<B.length->g'.μ b=g.μ b:=λb hb=>by show(if b=B.length then _ else _)=_;rw[SU (by omega)]
  have hml:g'.μ B.length=g.μ (B.length+1):=by show(if B.length=B.length then _ else _)=_;rw[SX rfl]
  have hle:({g with n:=B.length}:Gh).le g':=⟨λ_ _ h=>h,SY _,Vt _,λb hb=>hm b hb⟩
  have fit:∀{x:SV}{v:Value}{b:Option Nat},x.bel B.length->az g w x v b->az g' w x v b:=λhb h=>az.le1 hle rfl (az.below hb h)
  have look1:∀(q:SV) s,s≠s0->look ((s0,q)::t) s=look t s:=λq s h=>by simp only[look];rw[SU (VC h)]
  have look0:∀(q:SV),look ((s0,q)::t) s0=q:=λq=>by simp[look]
  have hpos:∀p,(aa ⟨(s0,.pv (.ptr B.length off))::t,B++[y]⟩ p).isOwn=true->aa ⟨(s0,.pv (.ptr B.length off))::t,B++[y]⟩ p=aa ⟨(s0,.pv (.ptr (B.length+1) off))::t,B++[x,y]⟩ p∧an g' a w p=an g a w p:=by
    intro p hp
    cases p with
    |slot s=>
      refine⟨?_,rfl⟩
      simp only[aa]at hp⊢
      by_cases e:s=s0
      · subst e;rw[look0]at hp;cases hp
      · rw[look1 _ s e,look1 _ s e]
    |cell b k=>
      simp only[aa]at hp⊢
      rcases UD b B.length with c|c|c
      · refine⟨by simp[SS,SZ c],?_⟩
        simp only[an];rw[hm b c]
      · subst c
        simp only[SS,Tk (SY _),U8,TQ,TC]at hp
        cases hq:y[k]?with
        |none=>rw[hq]at hp;cases hp
        |some z=>
          rw[hq]at hp
          obtain⟨p,rfl,_⟩:=hy z (Ud hq)
          cases hp
      · have:(B++[y])[b]?=none:=by rw[TL];simp;omega
        simp only[SS,this,Option.getD_none]at hp
        cases hp
  refine⟨g',⟨λ_ _ h=>h,rfl,rfl,rfl,rfl,rfl,by show g.n0<=B.length+1;omega,λb hb=>hm b (by omega),λ_ _ h=>h⟩,?_⟩
  have lift:∀b,b<B.length+1->∃b',b'<g.n∧g'.μ b=g.μ b'∧((b<B.length∧b'=b)∨(b=B.length∧b'=B.length+1)):=λb hb=>by
    rcases XA b B.length with c|c
    · exact⟨b,by omega,hm b c,.inl ⟨c,rfl⟩⟩
    · have:b=B.length:=by omega
      subst this
      exact⟨B.length+1,by omega,hml,.inr ⟨rfl,rfl⟩⟩
  refine { size := hs.size, defs := hs.defs, env := hs.env, n := by show B.length + 1 = _; simp, n0 := by show g.n0 <= B.length + 1; omega, B := hs.B, I := hs.I, F := hs.F, μI := λ b hb => ?_, μinj := λ b c hb hc e => ?_,
           own:=⟨λp=>match p with|.slot s=>bl (.slot s)|.cell b k=>if b<B.length then bl (.cell b k)else none,?_⟩,al:=λs=>?_}
  · obtain⟨b',h1,h2,_⟩:=lift b hb
    rw[h2];exact hs.μI b' h1
  · obtain⟨b',h1,h2,h3⟩:=lift b hb
    obtain⟨c',i1,i2,i3⟩:=lift c hc
    have:=hs.μinj b' c' h1 i1 (by rw[←h2,←i2];exact e)
    omega
  · have hsub:∀p c,(match p with|.slot s=>bl (.slot s)|.cell b k=>if b<B.length then bl (.cell b k)else none)=some c->bl p=some c:=by
      intro p c hp
      cases p with
      |slot s=>exact hp
      |cell b k=>
        simp only at hp
        split at hp
        · exact hp
        · cases hp
    refine{slots:=λs=>?_,blocks:=λb xs hx=>?_,inj:=λp q c hp hq=>hbl.inj p q c (hsub p c hp) (hsub q c hq),free:=λp c hp=>?_}
    · have h:=hbl.slots s
      simp only at h⊢
      by_cases e:s=s0
      · subst e
        rw[look0]at h⊢
        obtain⟨h1,h2,h3⟩:=h
        exact⟨h1,VA _,by rw[h3,hml]⟩
      · rw[look1 _ s e]at h⊢
        exact fit (gP ht s) h
    · rcases UD b B.length with c|c|c
      · have hx':(B++[x,y])[b]?=some xs:=by
          simp only at hx
          rw[SZ c]at hx⊢;exact hx
        obtain⟨arr,T,e1,e2,e3⟩:=hbl.blocks b xs hx'
        refine⟨arr,T,by rw[hm b c];exact e1,e2,λk z hz=>?_⟩
        simp only[SX c]
        simp only at hx
        rw[SZ c]at hx
        exact⟨(e3 k z hz).1,fit (iL (iM hB b xs hx) k z hz) (e3 k z hz).2⟩
      · subst c
        have hxy:xs=y:=by
          simp only[Tk (SY _),U8,TQ,TF]at hx
          exact hx.symm
        subst hxy
        obtain⟨arr,T,e1,e2,e3⟩:=hbl.blocks (B.length+1) xs (by simp only;rw[Tk (by omega)];simp)
        refine⟨arr,T,by rw[hml];exact e1,e2,λk z hz=>?_⟩
        obtain⟨p,rfl,hp⟩:=hy z (Ud hz)
        simp only[Nat.lt_irrefl,Ul]
        have h:=(e3 k _ hz).2
        exact⟨rfl,fit (x:=.pv p) (b:=none) hp ⟨rfl,h.2⟩⟩
      · simp only at hx
        rw[TL (by simp;omega)]at hx
        cases hx
    · obtain⟨f1,f2,f3,f4⟩:=hbl.free p c (hsub p c hp)
      refine⟨f1,f2,f3,λb hb'=>?_⟩
      obtain⟨b',h1,h2,_⟩:=lift b hb'
      rw[h2];exact f4 b' h1
  · have h:=hs.al s
    simp only at h⊢
    by_cases e:s=s0
    · subst e;rw[look0];trivial
    · rw[look1 _ s e]at h⊢
      exact bW.congr hpos h
theorem aj.own0{P:Program}{f:FuncId}{args:List PV}{R R':SV->Prop}(h:aj P f args R)(j:∀r,R r->R' r∨(r=.pv (.lit (.slice none 0 0))∧∃nw e,R' (.own nw e []))):aj P f args R':=by
 refine⟨h.1,λw vs k=>(h.2 w vs k).mono λe w' ⟨v,r,g',o,h1,g,c,a,i,d⟩=>?_⟩;rcases j r g with b|⟨rfl,nw,e',b⟩
 .exact⟨v,r,g',o,h1,b,c,a,i,d⟩
 .exact⟨v,_,g',o,h1,b,c,.inl ⟨a.1,rfl,a.2⟩,rfl,d⟩
end Go.AX
namespace Go.AX
theorem ic{P:Program}(bad:List Nat){f:FuncId}{fn:Func}{c:Code}{args:List PV}{h:List (List SV)}{R:SV->Prop}(rs:List ResultVar)(h1:List (List SV))(C:h.length<=h1.length)(j:dO h.length h->dO h1.length h1)(aD:P.follows .mixedOrders=true)(B:P.funcs[f]?=some fn)(y:AC P h.length bad c (ll (fX P rs h1 R)) ⟨fV 0 args,h⟩)(b:aF P f=true:=by kernel_rfl)(z:fn.body=some c:=by rfl)(D:fn.results=rs.toArray:=by rfl)(l:nR fn.ntmps bad c=true:=by kernel_rfl)(hn:args.length<=fn.ntmps:=by exact T9 rfl):aA P f args h (λr h'=>h'=h1∧R r):=by
 refine⟨b,λg st a w vs hs m E=>?_⟩;have d:dO h1.length h1:=j (by have:=hs.belH;rwa [hs.n,m]at this);have key:=pu (R:=λr h'=>h'=h1∧R r) aD B b z l hn y λg' st' M w' hk k s'=>?_
 .exact key.2 g st a w vs hs m E
 .obtain⟨F,G,H,I⟩:=hk;obtain⟨g2,p,N,O,J,L,q,u⟩:=pq rs s' F;obtain⟨v,t,x⟩:=jk D (mE rs st') q u;have K:=J.weak (st':=⟨[],(gQ P st' rs).2.1.h⟩) rfl λs=>.inr rfl;obtain⟨t4,o⟩:=Sim.dropB (st:=⟨[],(gQ P st' rs).2.1.h⟩) (h1:=h1) G (ht:=trivial) d (hs:=K) (h0:=by rw[p.n0];exact TD k C);obtain⟨e,i⟩:=o.own;exact⟨v,_,_,_,e,none,t,p.trans t4,o,i,⟨rfl,I⟩,⟨rfl,Fit.below _ _ H x⟩,rfl,λc A=>by cases A⟩
theorem ah.keep{k0:Nat}{st:St}{t1:List (Nat×SV)}{h1:List (List SV)}(h:M5 st.t t1)(a:st.h=h1):ah k0 st ⟨t1,h1⟩:=a▸ah.slots h
theorem ah.nilCell{k0:Nat}{st:St}{b k:Nat}{xs:List SV}(e:Nat)(nw:Bool)(hx:st.h[b]?=some xs)(hk:xs[k]?=some (.pv (.lit (.slice none 0 0)))):ah k0 st ⟨aG (aJ b k 1) st.t,st.h.set b (xs.set k (.own nw e []))⟩:=λg a w _ hs=>by
 obtain⟨bl,f⟩:=hs.own;have d:k<xs.length:=(SQ.1 hk).1;obtain⟨arr,T,i,p,j⟩:=f.blocks b xs hx;have l:=(j k _ hk).2;have n:an g a w (.cell b k)=.slice none 0 0:=by
  simp only[an,i];exact l.2
 exact⟨g,hs.refl_to,(hs.adopt f hx d (sv:=.own nw e []) (o:=none) (.inl ⟨rfl,rfl,n⟩) rfl (λc m=>by cases m)).1⟩
end Go.AX
namespace Go.AX
theorem aA.below{P:Program}{f:FuncId}{args:List PV}{h:List (List SV)}{R:SV->List (List SV)->Prop}(d:aF P f=true)(c:dO h.length h->aA P f args h R):aA P f args h R:=
 ⟨d,λg st a w vs hs b e=>(c (by have:=hs.belH;rwa [hs.n,b]at this)).2 g st a w vs hs b e⟩
def tq:List (List PV)->List (List PV)->Prop
 |[],[]=>True
 |x::xs,y::ys=>bc x y∧tq xs ys
 |_,_=>False
theorem zB:∀{a b:List PV},bc a b->a.length=b.length
 |[],[],_=>rfl
 |[],_::_,h=>by simp[bc]at h
 |_::_,[],h=>by simp[bc]at h
 |x::a,y::b,h=>by
  simp only[bc]at h;rw[Ty,Ty,zB h.2]
theorem pI:∀{a b:List (List PV)},tq a b->a.length=b.length
 |[],[],_=>rfl
 |[],_::_,h=>h.elim
 |_::_,[],h=>h.elim
 |x::a,y::b,h=>by rw[Ty,Ty,pI h.2]
theorem ay.wk{g:Gh}{e:Nat}:∀{a b:List (List PV)}{vs:List Value},tq a b->ay g e a vs->ay g e b vs
 |[],[],_,_,h=>h
 |[],_::_,_,h,_=>h.elim
 |_::_,[],_,h,_=>h.elim
 |x::a,y::b,_,h,⟨j,k,h1,⟨d,c⟩,f,i⟩=>⟨j,k,h1,⟨by rw[←zB h.1];exact d,c⟩,px _ _ _ h.1 f,ay.wk h.2 i⟩
def R1:PV->PV->Prop
 |.seq nw e rows,.seq b e' a=>(b=true->nw=true)∧e=e'∧tq rows a
 |x,y=>bB x y
theorem Iy{g:Gh}{x y:PV}{v:Value}(h:R1 x y)(j:Fit g x v):Fit g y v:=by
 unfold R1 at h;split at h
 .rename_i nw e rows m e' d;obtain⟨hn,rfl,f⟩:=h;obtain⟨p,cap,h1,k,i⟩:=j;refine⟨p,cap,by rw[←pI f];exact h1,by rw[←pI f];exact k,?_⟩;rcases i with i|⟨c,off,arr,T,fz,vs,a,b,n,r,q⟩
  .subst i;cases d with
   |nil=>exact .inl rfl
   |cons _ _=>exact f.elim
  .exact .inr ⟨c,off,arr,T,fz,vs,a,b,λl=>n (hn l),ay.wk f r,q⟩
 .exact xo _ _ _ h j
def Iz:List PV->List PV->Prop
 |[],[]=>True
 |x::xs,y::ys=>R1 x y∧Iz xs ys
 |_,_=>False
theorem Ea{g:Gh}:∀{xs ys:List PV}{vs:List Value},Iz xs ys->ak g xs vs->ak g ys vs
 |[],[],_,_,h=>h
 |[],_::_,_,h,_=>h.elim
 |_::_,[],_,h,_=>h.elim
 |_::_,_::_,_,h,⟨v,r,h1,a,b⟩=>⟨v,r,h1,Iy h.1 a,Ea h.2 b⟩
theorem aA.argsA{P:Program}{f:FuncId}{xs ys:List PV}{h:List (List SV)}{R:SV->List (List SV)->Prop}(b:aA P f ys h R)(e:Iz xs ys):aA P f xs h R:=
 ⟨b.1,λg st a w vs hs c d=>b.2 g st a w vs hs c (Ea e d)⟩
theorem ai.introE{P:Program}{st:St}{ok:Prop}{f k:FuncId}{y p q b:List PV}{h1:List (List SV)}{d:Option Tmp}{K:St->Prop}{x:Operand}{args:Array Operand}{R:SV->List (List SV)->Prop}
 (i:aA P f b h1 R) (n:gc st x) (m:bC st x=some (f,p,q)) (u:(cL st args.toList).2.2) (s:(cL st args.toList).2.1.h=h1) (v:Iz (p++((cL st args.toList).1++q)) b)
 (j:∀r h',R r h'->K (iI d r ⟨aG eD (cL st args.toList).2.1.t,h'⟩)):ai P st ok k y d K x args:=by
 subst s;exact ai.introX λo e ho hd g a w hs l K' Q c=>BG hs o x args e f p q ho n m u (hd▸l) (hd▸⟨R,i.argsA v,j⟩) c
theorem aj.wk{P:Program}{f:FuncId}{args:List PV}{R R':SV->Prop}(h:aj P f args R)(i:∀r,R r->∃x y,r=.pv x∧bB x y∧R' (.pv y)):aj P f args R':=
 ⟨h.1,λw vs j=>(h.2 w vs j).mono λe w' ⟨v,r,g',o,h1,b,c,a,l,d⟩=>by
  obtain⟨x,y,rfl,k,g⟩:=i r b;exact⟨v,.pv y,g',o,h1,g,c,⟨a.1,xo x y v k a.2⟩,rfl,d⟩⟩
end Go.AX
namespace Go.AX
def N1(b:Nat)(k:Option Nat)(off cap:Nat):SV:=match k with
 |none=>.pv (.tup [])
 |some m=>.pv (.bsl b 1 off m cap)
theorem Sim.toBlk{g:Gh}{st:St}{a:Act}{w:World}(h:Sim g st a w){bl:Pos->Option Nat}(hb:Owns g st a w bl){s c:Nat}(hbc:bl (.slot s)=some c){arr:Array Value}{T:TypeId}(hcell:w.heap[c]?=some (.cells arr T (0,0)))(hone:∀v∈arr.toList,v.oneCell'=true)
    {xs:List SV} (hx:xs=arr.toList.map λv=>.pv (.lit v)):
    Sim {g with n:=g.n+1,n0:=g.n+1,μ:=λb=>if b=g.n then c else g.μ b} ⟨(s,.pv .bot)::st.t,st.h++[xs]⟩ a w:=by
  obtain⟨s0,bl0,hb0,_,_,hfree⟩:=h.drop hb (.slot s)
  obtain⟨f1,f2,f3,f4⟩:=hfree c hbc
  have hle:g.le {g with n:=g.n+1,n0:=g.n+1,μ:=λb=>if b=g.n then c else g.μ b}:=⟨λ_ _ h=>h,SY _,Vt _,λb hb=>SU (by omega)⟩
  have hn:=h.n
  refine{size:=h.size,defs:=h.defs,env:=h.env,n:=by simp[hn],n0:=SY _,B:=h.B,I:=h.I,F:=h.F,μI:=λb hb=>?_,μinj:=λb b' hb hb' he=>?_,own:=⟨λp=>match p with|.slot u=>bl0 (.slot u)|.cell b k=>if b=g.n then none else bl0 (.cell b k),?_⟩,al:=λu=>?_}
  · by_cases e:b=g.n
    · simp only[e,UU];exact⟨f1,f2⟩
    · simp only[e,Ul];exact h.μI b (by have:b<g.n+1:=hb;omega)
  · have hb1:b<g.n+1:=hb
    have hb1':b'<g.n+1:=hb'
    by_cases e:b=g.n
    · by_cases e':b'=g.n
      · omega
      · simp only[e,e',UU,Ul]at he
        exact absurd he.symm (f3 b' (by omega))
    · by_cases e':b'=g.n
      · simp only[e,e',UU,Ul]at he
        exact absurd he (f3 b (by omega))
      · simp only[e,e',Ul]at he
        exact h.μinj b b' (by omega) (by omega) he
  · refine{slots:=λu=>az.frame hle (λ_ _=>rfl) (hb0.slots u),blocks:=λb ys hy=>?_,inj:=λp q k hp hq=>?_,free:=λp k hp=>?_}
    · by_cases e:b=g.n
      · subst e
        rw[hn,Tk (SY _),U8]at hy
        simp only[TQ,TF]at hy
        subst hy
        refine⟨arr,T,by simp only[UU];exact hcell,⟨by rw[hx];simp,hone⟩,λk x hk=>?_⟩
        rw[hx,Tm]at hk
        cases hk2:arr.toList[k]?with
        |none=>rw[hk2]at hk;cases hk
        |some v=>
          rw[hk2]at hk
          simp only[TZ,TF]at hk
          subst hk
          refine⟨rfl,by simp,?_⟩
          show arr.getD k undef=v
          have:arr[k]?=some v:=by rw[←S4];exact hk2
          rw[Tg,this];rfl
      · have hlt:b<st.h.length:=by
          have:=(SQ.1 hy).1
          simp only[Ta,Ue]at this
          omega
        rw[SZ hlt]at hy
        obtain⟨arr',T',h1,h2,h3⟩:=hb0.blocks b ys hy
        refine⟨arr',T',by simp only[e,Ul];exact h1,h2,λk x hk=>?_⟩
        simp only[e,Ul]
        exact⟨(h3 k x hk).1,az.frame hle (λ_ _=>rfl) (h3 k x hk).2⟩
    · cases p with
      |slot u=>cases q with
        |slot v=>exact hb0.inj _ _ k hp hq
        | cell b j => dsimp only at hq; split at hq
                      · cases hq
                      · exact hb0.inj _ _ k hp hq
      |cell b j=>
        dsimp only at hp;split at hp
        · cases hp
        · cases q with
          |slot v=>exact hb0.inj _ _ k hp hq
          | cell b2 j2 => dsimp only at hq; split at hq
                          · cases hq
                          · exact hb0.inj _ _ k hp hq
    · have hp0:bl0 p=some k:=by
        cases p with
        |slot u=>exact hp
        | cell b j => dsimp only at hp; split at hp
                      · cases hp
                      · exact hp
      obtain⟨q1,q2,q3,q4⟩:=hb0.free p k hp0
      refine⟨q1,q2,q3,λb hb=>?_⟩
      by_cases e:b=g.n
      · simp only[e,UU];intro e2;exact f4 p (e2▸hp0)
      · simp only[e,Ul];exact q4 b (by have:b<g.n+1:=hb;omega)
  · refine bW.congr (λp hp=>?_) (s0.al u)
    cases p with
    |slot v=>exact⟨rfl,rfl⟩
    |cell b k=>
      have hlt:b<st.h.length:=by
        apply VK
        intro hge
        simp only[aa]at hp
        by_cases e:b=st.h.length
        · subst e
          have h8:(st.h++[xs]).getD st.h.length []=xs:=by simp[SS]
          rw[h8,hx,SS,Tm]at hp
          cases h9:arr.toList[k]?<;>rw[h9]at hp<;>cases hp
        · have h8:(st.h++[xs]).getD b []=[]:=by rw[SS,TL (by simp;omega)];rfl
          rw[h8]at hp
          cases hp
      refine⟨?_,?_⟩
      · simp only[aa,setPos,SS]
        rw[SZ hlt]
      · have e:b≠g.n:=by omega
        simp only[an,e,Ul]
theorem Sim.fromBlk{g g1 g':Gh}{st:St}{a:Act}{w w':World}(h:Sim g st a w){s c n cap:Nat}{nw:Bool}{all all':List Int}{L:List (List SV)}{rest:List Value}
 (O:look st.t s=.own nw 1 (aC all)) (hv:a.tmps.getD s undef=.slice (some ⟨c,0,none⟩) all.length cap) (l:all.length<=cap∧cap<=maxLen∧all.length+rest.length=cap) (Y:nw=true->g.B<=c) (z:all'.length=all.length)
 (d:g1={g with n:=g.n+1,n0:=g.n+1,μ:=λb=>if b=g.n then c else g.μ b}) (ht:g1.to g') (S0:Sim g' ⟨aG eD ((s,.pv .bot)::st.t),L++[blk [] all' rest]⟩ a w') (R:L.length=st.h.length) (U:jI st.h.length st.t) (T:dO st.h.length L) (hn:n=st.h.length):
 g.to {g' with n:=g.n,n0:=g.n0}∧Sim {g' with n:=g.n,n0:=g.n0} ⟨(s,.own nw 1 (aC all'))::aG eD st.t,L⟩ a w'∧g'.μ g.n=c:=by
 subst hn;have m:=h.n;have y:g'.μ g.n=c:=by rw[ht.μ g.n (by rw[d];exact VA _),d];simp
 have hμ:∀b,b<g.n->g'.μ b=g.μ b:=λb j=>by
  rw[ht.μ b (by rw[d];exact Wg j),d];exact SU (by omega)
 have i:g'.n=g.n+1:=by rw[S0.n];simp[R,m]
 have hB:g'.B=g.B:=by rw[ht.B,d]
 have hN:g'.N=g.N:=by rw[ht.N,d]
 obtain⟨E,f⟩:=S0.own;have H:=S0.μI g.n (by omega);rw[y]at H;have P:∀q,E q≠some c:=λq K=>(f.free q c K).2.2.2 g.n (by omega) y;obtain⟨arr',T',b1,⟨b2,Q⟩,b3⟩:=f.blocks g.n (blk [] all' rest) (by show(L++_)[g.n]?=_;rw[m,←R,Tk (SY _),U8];rfl);rw[y]at b1;have C:blk [] all' rest=(all'.map (Value.int .i64)++rest).map λv=>.pv (.lit v):=by
  unfold blk;simp only[Tu,TX,Vg,TI];rfl
 have A:arr'=(all'.map (Value.int .i64)++rest).toArray:=by
  rw[C,S7]at b2;exact oC (bl:=λk=>E (.cell g.n k)) b2 λk x hk=>(b3 k x (by rw[C];exact hk)).2
 have hle:({g' with n:=g.n}:Gh).le {g' with n:=g.n,n0:=g.n0}:=⟨λ_ _ h=>h,SY _,SY _,λ_ _=>rfl⟩;refine⟨⟨λk o hk=>ht.I k o (by rw[d];exact hk),by rw[ht.F,d],hB,rfl,hN,by rw[ht.env,d],h.n0,λb j=>hμ b (Uk j h.n0),λk hF hI=>ht.FI k (by rw[d];exact hF) (by rw[d];exact hI)⟩,?_,y⟩;refine{size:=S0.size,defs:=S0.defs,env:=S0.env,n:=by rw[m,←R],n0:=h.n0,B:=S0.B,I:=S0.I,F:=S0.F,μI:=λb j=>S0.μI b (by rw[i];exact Wg j),μinj:=λb b' j f V=>S0.μinj b b' (by rw[i];exact Wg j) (by rw[i];exact Wg f) V,own:=⟨λp=>if p=.slot s then some c else E p,?_⟩,al:=λu=>?_}
 .refine{slots:=λu=>?_,blocks:=λb ys hy=>?_,inj:=λp q k hp K=>?_,free:=λp k hp=>?_}
  .by_cases e:s=u
   .subst e;simp only[look,UU];refine .inr ⟨c,rfl,cap,arr',T',all'.map (Value.int .i64),?_,b1,?_,⟨?_,l.2.1,Q⟩,dP _ _,?_,λhn=>by show g'.B<=c;rw[hB];exact Y hn⟩
    .rw[hv];unfold aC;simp[z]
    .rw[A];simp[z];exact l.2.2
    .unfold aC;simp[z];exact l.1
    .rw[A];exact⟨rest,rfl⟩
   .have e2:¬(Pos.slot u=Pos.slot s):=λe3=>e (by cases e3;rfl);simp only[look,SU e,SU e2,aW];have h1:=f.slots u;simp only[aW,look,SU e]at h1;refine az.frame hle (λ_ _=>rfl) (az.below ?_ h1);rcases bs eD (look st.t u)with G|⟨G,_⟩
    .rw[G];trivial
    .rw[G,m];exact gP U u
  .have W:=(SQ.1 hy).1;obtain⟨M,T2,d1,d2,d3⟩:=f.blocks b ys (by show(L++_)[b]?=_;rw[SZ W];exact hy);refine⟨M,T2,d1,d2,λk x hk=>⟨(d3 k x hk).1,?_⟩⟩;rw[SU (by intro e;cases e)];refine az.frame hle (λ_ _=>rfl) (az.below ?_ (d3 k x hk).2);rw[m];exact iL (iM T b ys hy) k x hk
  .split at hp
   .rename_i e;split at K
    .rename_i e';rw[e,e']
    .cases hp;exact absurd K (P q)
   .split at K
    .cases K;exact absurd hp (P p)
    .exact f.inj p q k hp K
  .split at hp
   .cases hp
    refine⟨H.1,H.2,(Td.1 b1).1,λb j e=>?_⟩;have ab:b<g.n:=j;have:=S0.μinj b g.n (by omega) (by omega) (by rw[y];exact e);omega
   .obtain⟨q1,q2,q3,q4⟩:=f.free p k hp;exact⟨q1,q2,q3,λb j=>q4 b (by rw[i];exact Wg j)⟩
 .by_cases e:s=u
  .subst e;simp only[look,UU];trivial
  .simp only[look,SU e,aW];rcases bs eD (look st.t u)with G|⟨G,S⟩
   .rw[G];trivial
   .rw[G];have D:(aa st (.slot s)).isOwn=true:=by show(look st.t s).isOwn=true;rw[O];rfl
    have h3:bW g (setPos st (.slot s) (.own nw 1 (aC all'))) a w (look st.t u) (a.tmps.getD u undef):=by
     refine bW.write (p:=.slot s) (sv':=.own nw 1 (aC all')) (λr hr=>cK st _ r _ (VC hr)) (cd D) D (λ_ _=>rfl) (λad e' Z V=>?_) (h.al u);cases V
     exact⟨nw,aC all,O,by unfold aC;simp[z]⟩
    refine bW.congrA (q:=eD) (λp hp J=>?_) S h3;cases p with
    |cell b k=>cases hp
    |slot v=>
     refine⟨?_,rfl⟩;simp only[aa,setPos,look]at J⊢;split
     .rfl
     .rename_i X;rw[SU X,aW]at J;rw[aW];exact d4 J
theorem bE.introB{P:Program}{st:St}{f:FuncId}{d:Option Tmp}{K:St->Prop}{c:Operand}{args:Array Operand}{q:List PV}{x:Operand}{xs:List Operand}{s lo hi:Nat}{nw:Bool}{all zs:List Int}{va:List PV}{R:Option Nat->List Int->List (List SV)->Prop}
 (F:look st.t s=.own nw 1 (aC all)) (ar:gc st c) (U:bC st c=some (f,[],q)) (ha:args.toList=x::xs) (hp:partOf st x=some (.slot s,lo,hi)) (hg:gc st x) (aM:lo<hi) (hz:(all.take hi).drop lo=zs)
 (hT:jI st.h.length st.t) (aw:nL st xs) (aH:je st xs++q=va)
 (h : ∀ (pre ah : List Value) (cap : Nat), zs.length <= cap -> pre.length = lo -> aA P f (.bsl st.h.length 1 pre.length zs.length cap :: va) (st.h ++ [blk pre zs ah])
  (λr h'=>∃k e y,R k e y∧e.length=zs.length∧(∀m,k=some m->m<=zs.length)∧y.length=st.h.length∧dO st.h.length y∧r=N1 st.h.length k pre.length cap∧h'=y++[blk pre e ah]))
 (hK:∀k e y,R k e y->e.length=zs.length->(∀m,k=some m->m<=zs.length)->K (Fy d k (.slot s) lo ⟨(s,.own nw 1 (aC (all.take lo++e++all.drop hi)))::aG eD st.t,y⟩)):bE P st c args d K:=by
 subst aH;intro o aO ho W g a w hs hd K' Q D;obtain⟨u,v,hx,hu,aE⟩:=eQ hs ar U;have aD:u.toList=[]:=hu;obtain⟨aJ,A,rows1,av,j1,j2,q0,cap,jv,jc,jq,jz⟩:=nj hs hg hp;have C:look st.t s=.own aJ A rows1:=av;rw[F]at C;cases C
 have l:(aC all).length=all.length:=by unfold aC;simp
 rw[l]at j2;obtain⟨bl,hb⟩:=hs.own;have Y:=hb.slots s;rw[F]at Y;rcases Y with⟨_,A,_⟩|⟨cc,aj,L,arr,T,vs,A,e2,e3,e4,e5,e6,e7⟩
 .rw[A]at l;simp at l;omega
 have aI:=bV e5;subst aI;obtain⟨rest,p⟩:=e6;rw[l]at A e4;have ax:q0=some ⟨cc,lo,none⟩:=by
  rcases jq with jq|⟨c1,n1,cp,h5,h6⟩
  .omega
  .have M:a.tmps.getD s undef=.slice (some ⟨c1,0,none⟩) n1 cp:=h5;rw[A]at M;cases M;rw[h6,WH]
 subst ax;have H:zs.length=hi -lo:=by rw[←hz,TN,S6];omega
 have z:all=all.take lo++zs++all.drop hi:=by
  rw[←hz];have h8:all.take lo=(all.take hi).take lo:=by rw[XG,Uw (by omega)]
  rw[h8,T7,T7]
 have B:∀e:List Int,blk ((all.take lo).map (Value.int .i64)) e ((all.drop hi).map (Value.int .i64)++rest)=blk [] (all.take lo++e++all.drop hi) rest:=λe=>by
  unfold blk;simp only[Tu,TX,Vg,TI,Tv];rfl
 have S:arr.toList.map (λv=>SV.pv (.lit v))=blk [] all rest:=by
  rw[←p];unfold blk;simp only[Tu,TX,Vg,TI];rfl
 have S1:=hs.toBlk hb aj e2 e4.2.2 (xs:=blk [] all rest) S.symm;obtain⟨I,j⟩:∃I:Gh,I={g with n:=g.n+1,n0:=g.n+1,μ:=λb=>if b=g.n then cc else g.μ b}:=⟨_,rfl⟩;rw[←j]at S1;have hle:g.le I:=by subst j;exact⟨λ_ _ h=>h,SY _,Vt _,λb hb=>SU (by omega)⟩
 have ad:((all.take lo).map (Value.int .i64)).length=lo:=by rw[S7,S6];omega
 obtain⟨i,hA⟩:=h ((all.take lo).map (Value.int .i64)) ((all.drop hi).map (Value.int .i64)++rest) cap (by omega) ad;rw[B,←z,ad,H]at hA;have X:ak I (.bsl st.h.length 1 lo (hi -lo) cap::(je st xs++q)) (a.eval x::(xs.map a.eval++v.toList)):=by
  refine⟨_,_,rfl,⟨?_,jc,?_⟩,ak.append (ak.mono hle _ _ (mo hs xs aw)) (ak.mono hle _ _ aE)⟩
  .rw[j,hs.n];exact VA _
  .rw[jv,j,hs.n];simp
 have ay:(a.eval x::(xs.map a.eval++v.toList)).toArray=u++args.map a.eval++v:=by
  apply UJ;simp[aD,ha]
 have ae:(execOp a.eval o).run P w=.ok (.enter f (u++args.map a.eval++v)) w:=by
  unfold aF at i;split at i
  case h_2=>cases i
  rename_i fn aq;simp only[S9,TU]at i;simp only[execOp,ho,resolve,hx,Deferred.ofValue,invoke,callFunc,Sem.run_bind,Sem.run_pure,Result.andThen_ok,run_program,aq,i.1,i.2,TM,Ul]
 unfold Oper.wp;rw[ae,Oper.upon_enter,←ay];refine(hA I _ a w _ S1 rfl X).mono λe9 w' ⟨v9,r,h',g',he,⟨k,e,y,r1,r2,r3,r4,r5,r6,r7⟩,t',af⟩=>?_;subst he r6 r7;have E:=hK k e y r1 (by rw[H];exact r2) (by rw[H];exact r3);have S0:=af none trivial;have S0':Sim g' ⟨aG eD ((s,.pv .bot)::st.t),y++[blk [] (all.take lo++e++all.drop hi) rest]⟩ a w':=by
  rw[←B];exact S0
 have O:(all.take lo++e++all.drop hi).length=all.length:=by simp only[Ta,S6,TN,r2];omega
 have aB:all.length+rest.length=L:=by
  have:arr.size=arr.toList.length:=(TR ..).symm;rw[←p]at this;simp only[Ta,S7]at this;omega
 obtain⟨f1,f2,f3⟩:=hs.fromBlk (all':=all.take lo++e++all.drop hi) F A ⟨e4.1,e4.2.1,aB⟩ e7 O j t' S0' r4 hT r5 rfl;cases d with
 |none=>rw[W];exact D _ _ _ _ E f1 f2
 |some d=>
  have V:d<g'.N:=by rw[t'.N,j];exact hd
  have an:ca I.N (some d):=by rw[j];exact hd
  have Sd:=af (some d) an;obtain⟨J,ai⟩:=Sd.own;have G:=ai.slots d;have ao:d<a.tmps.size:=by rw[hs.size];exact hd
  rw[fU ao,SX rfl]at G;rw[W];cases k with
  |none=>
   have h7:az g' w' (.pv (.tup [])) v9 (J (.slot d)):=by simpa[N1,iI,St.put,look]using G
   refine D _ _ _ _ E f1 (f2.put V ⟨rfl,h7.2⟩ trivial rfl)
  |some m=>
   have h7:az g' w' (.pv (.bsl st.h.length 1 lo m cap)) v9 (J (.slot d)):=by simpa[N1,iI,St.put,look]using G
   obtain⟨_,_,au,ag⟩:=h7;have hm:=r3 m rfl;refine D _ _ _ _ E f1 (f2.put V rfl ?_ rfl);intro aN aL aK ab;simp only[aa,look,UU]at ab;cases ab
   have Z:lo+m -lo=m:=by omega
   rw[←hs.n,f3]at ag;refine⟨by omega,by rw[show(aC (all.take lo++e++all.drop hi)).length=all.length by unfold aC;rw[S7,O]];omega,_,_,by rw[Z];exact ag,by rw[Z];exact au,.inr ⟨cc,_,_,A,by rw[WH]⟩,λh0=>?_⟩;exact jz h0
end Go.AX
namespace Go.AX
open Go.Proofs Go.Shelf
theorem gL(c:Nat):∀(vs:List Value)(o:Nat)(w:World)(arr:Array Value)(T:TypeId)(fz:Nat×Nat),w.heap[c]?=some (.cells arr T fz)->o+vs.length<=arr.size->
 (w.setCells c o vs).heap[c]?=some (.cells (arr.toList.take o++vs++arr.toList.drop (o+vs.length)).toArray T fz)∧(∀k,k≠c->(w.setCells c o vs).heap[k]?=w.heap[k]?)∧(w.setCells c o vs).heap.size=w.heap.size∧bT (w.setCells c o vs)=bT w
 |[],o,w,arr,T,fz,h,b=>by
  refine⟨?_,λ_ _=>rfl,rfl,rfl⟩;rw[World.setCells,h];simp
 |v::r,o,w,arr,T,fz,h,b=>by
  simp only[Ty]at b;have l:c<w.heap.size:=(Td.1 h).1;have h1:(w.setCell ⟨c,o,none⟩ v).heap[c]?=some (.cells (arr.setIfInBounds o v) T fz):=by
   show(w.heap.modify c _)[c]?=_;rw[UC,SX rfl,h];simp
  have i:∀k,k≠c->(w.setCell ⟨c,o,none⟩ v).heap[k]?=w.heap[k]?:=λk hk=>by
   show(w.heap.modify c _)[k]?=_;rw[UC,SU (VC hk)]
  have j:(w.setCell ⟨c,o,none⟩ v).heap.size=w.heap.size:=by
   show(w.heap.modify c _).size=_;rw[U0]
  obtain⟨f,g2,g3,g⟩:=gL c r (o+1) (w.setCell ⟨c,o,none⟩ v) _ T fz h1 (by simp;omega);rw[World.setCells];refine⟨?_,λk hk=>(g2 k hk).trans (i k hk),g3.trans j,g.trans rfl⟩;rw[f];congr 2;simp only[Wh,Ty];have m:arr.toList.length=arr.size:=TR;have ho:o<arr.toList.length:=by omega
  have a:(arr.toList.take o).length=o:=by rw[S6];omega
  have d:(arr.toList.set o v).take (o+1)=arr.toList.take o++[v]:=by
   rw[VO,SX ho,List.take_append,a,TT (by omega),Vd];rfl
  have e:(arr.toList.set o v).drop (o+1+r.length)=arr.toList.drop (o+(r.length+1)):=by
   rw[V2 (by omega)];congr 1;omega
  rw[d,e];simp
theorem cU(l:List Int):(aC l).length=l.length:=by unfold aC;simp
theorem tJ{l:List Value}{xs:List Value}(h:xs<+:l){j:Nat}{v:Value}(hj:xs[j]?=some v):l[j]?=some v:=by
 obtain⟨r,rfl⟩:=h;rw[SZ (SQ.1 hj).1];exact hj
theorem bE.introI{P:Program}{ρ:Ren}(L:Lays2.n21 P ρ)(i:aF P (ρ.f 21)=true){st:St}{d:Option Tmp}{K:St->Prop}{cx:Operand}{args:Array Operand}{x0 k y:Operand}{ps py:Pos}{hi:Nat}{zs:List Int}{nw aY:Bool}{x:Int}
    (aI:gc st cx) (hcl:bC st cx=some (ρ.f 21,[],[])) (ha:args.toList=[x0,k,y]) (hp:partOf st x0=some (ps,0,hi)) (aH:gc st x0) (aJ:gc st k) (hk:mv st k=.pv (.lit (.int .i64 0))) (aK:gc st y) (hy:partOf st y=some (py,0,1))
    (W:aa st py=.own aY 1 (aC [x])) (aM:ps≠py) (G:aa st ps=.own nw 1 (aC zs)) (aO:hi<zs.length)
    (hK:K (Fy d (some (hi+1)) ps 0 (setPos st ps (.own nw 1 (aC (x::(zs.take hi++zs.drop (hi+1)))))))):bE P st cx args d K:=by
  intro o a5 ho r g a w h hd K' Q ab
  obtain⟨u,v,hx,hu,aR⟩:=eQ h aI hcl
  have aQ:u=#[]:=UJ hu
  have aS:v=#[]:=UJ aR
  subst aQ aS
  obtain⟨bl,hb⟩:=h.own
  have m:(aa st ps).isOwn=true:=by rw[G];rfl
  have V:(aa st py).isOwn=true:=by rw[W];rfl
  -- the slice
  obtain⟨aX,e1,rows1,au,j1,j2,q0,cap,jv,jc,_,jz⟩:=nj h aH hp
  rw[G]at au;cases au
  obtain⟨n0,ao⟩:=jz rfl
  have ah:=bn hb m
  rw[G]at ah
  rcases ah with⟨_,A,_⟩|⟨c,R,a0,arr,T,vs,f1,Y,f3,f4,f5,f6,f7⟩
  · have:=Vm List.length A
    rw[cU,List.length_nil]at this
    omega
  rw[f1]at ao
  cases ao
  have aT:=bV f5
  subst aT
  have U:(aC zs).length=zs.length:=by unfold aC;simp
  rw[U]at f4
  have a2:arr.toList.length=arr.size:=TR
  -- the number
  obtain⟨a4,e3,aZ,O,_,_,qy,p,aV,_,_,aW⟩:=nj h aK hy
  rw[W]at O;cases O
  obtain⟨n1,aq⟩:=aW rfl
  have aj:=bn hb V
  rw[W]at aj
  rcases aj with⟨_,A,_⟩|⟨c2,ae,a1,Z,T2,a6,y1,y2,y3,y4,y5,y6,y7⟩
  · simp[aC]at A
  rw[y1]at aq
  cases aq
  have ay:=bV y5
  subst ay
  have aD:c2≠c:=λe=>aM (hb.inj ps py c R (e▸ae))
  -- the place
  have aL:a.eval k=.int .i64 0:=by
    obtain⟨hf,_⟩:=aN h k aJ
    rw[hk]at hf
    exact hf.2
  have ad:(#[]++args.map a.eval++#[])=#[.slice (some ⟨c,0,none⟩) (hi -0) cap,.int .i64 0,.slice (some ⟨c2,0,none⟩) 1 p]:=by
    apply UJ
    simp[ha,jv,aL,aV]
  have aw:(execOp a.eval o).run P w=.ok (.enter (ρ.f 21) (#[]++args.map a.eval++#[])) w:=by
    unfold aF at i
    split at i
    case h_2=>cases i
    rename_i fn aG
    simp only[S9,TU]at i
    simp only[execOp,ho,resolve,hx,Deferred.ofValue,invoke,callFunc,Sem.run_bind,Sem.run_pure,Result.andThen_ok,run_program,aG,i.1,i.2,TM,Ul]
  have I:cap<=9223372036854775807:=by have:=f4.2.1;unfold maxLen at this;omega
  have S:∀j v,((zs.take hi).map (Value.int .i64))[j]?=some v->w.cell? ⟨c,0+j,none⟩=some v:=λj v hj=>by
    rw[T4,cell_of Y,←S4]
    refine tJ f6 ?_
    rw[Tm]at hj⊢
    by_cases e:j<hi
    · rw[TY,SX e]at hj
      exact hj
    · rw[TY,SU e]at hj
      simp at hj
  have C:∀j,j<hi+1->(w.cell? ⟨c,0+j,none⟩).isSome=true:=λj hj=>by
    rw[T4,cell_of Y,Ti (by omega)];rfl
  have ai:∀j,w.frozen? ⟨c,j,none⟩=false:=λj=>by simp[World.frozen?,Y]
  have J:∀j,w.frozen? ⟨c2,j,none⟩=false:=λj=>by simp[World.frozen?,y2]
  have q:∀j v,([Value.int .i64 x]:List Value)[j]?=some v->w.cell? ⟨c2,0+j,none⟩=some v:=λj v hj=>by
    rw[T4,cell_of y2,←S4]
    exact tJ y6 (by simpa using hj)
  have M:∀v∈[Value.int .i64 x],v.oneCell'=true:=λv D=>by simp at D;subst D;rfl
  have B:∀v∈(zs.take hi).map (Value.int .i64),v.oneCell'=true:=λv D=>by
    obtain⟨z,_,rfl⟩:=S8.1 D
    rfl
  have H:((zs.take hi).map (Value.int .i64)).length=hi:=by simp;omega
  have E:Calls P (ρ.f 21) #[.slice (some ⟨c,0,none⟩) (hi -0) cap,.int .i64 0,.slice (some ⟨c2,0,none⟩) 1 p] w λe w'=>
      e=.returned (.slice (some ⟨c,0,none⟩) (hi+1) cap)∧w'.heap[c]?=some (.cells ((Value.int .i64 x::(zs.take hi).map (Value.int .i64))++arr.toList.drop (hi+1)).toArray T (0,0))∧(∀k,k≠c->w'.heap[k]?=w.heap[k]?)∧w'.heap.size=w.heap.size∧bT w'=bT w:=by
    rw[Xf]
    by_cases hz:hi=0
    · subst hz
      refine(Any2.slices_Insert_int_end_room L c 0 0 cap c2 0 1 p [.int .i64 x] w (by omega) (by omega) I rfl (λj hj=>by simpa using C j (by omega)) (λj _=>ai _) q M).mono λe w' ⟨he,hw⟩=>?_
      obtain⟨s1,s2,s3,s4⟩:=gL c [.int .i64 x] 0 w arr T (0,0) Y (by simp;omega)
      subst hw
      refine⟨he,?_,s2,s3,s4⟩
      rw[s1]
      simp
    · refine(Any2.slices_Insert_int_shift L c 0 hi cap 0 c2 0 1 p ((zs.take hi).map (Value.int .i64)) [.int .i64 x] w (by omega) (by omega) (by omega) I aD H rfl S C (λj _=>ai _) q B M T2 T Z.size arr.size (by simp[World.shape?,y2]) (by simp[World.shape?,Y]) (by omega) (J _) (J _)).mono λe w' ⟨he,hw⟩=>?_
      have aA:w.drew.heap[c]?=some (.cells arr T (0,0)):=Y
      obtain⟨s1,s2,s3,s4⟩:=gL c ((zs.take hi).map (Value.int .i64)) 1 w.drew arr T (0,0) aA (by rw[H];omega)
      obtain⟨r1,r2,r3,r4⟩:=gL c [.int .i64 x] 0 _ _ T (0,0) s1 (by simp;omega)
      have aU:w'=(w.drew.setCells c 1 ((zs.take hi).map (Value.int .i64))).setCells c 0 [.int .i64 x]:=by simpa using hw
      rw[aU]
      refine⟨he,?_,λk hk=>(r2 k hk).trans (s2 k hk),r3.trans s3,r4.trans s4⟩
      rw[r1]
      have h1:(arr.toList.take 1).length=1:=by rw[S6];omega
      congr 3
      show List.take 0 (List.take 1 arr.toList++(zs.take hi).map (Value.int .i64)++List.drop (1+((zs.take hi).map (Value.int .i64)).length) arr.toList)++[Value.int .i64 x]++List.drop (0+[Value.int .i64 x].length) (List.take 1 arr.toList++(zs.take hi).map (Value.int .i64)++List.drop (1+((zs.take hi).map (Value.int .i64)).length) arr.toList)=_
      rw[H,Tv (List.take 1 arr.toList),WO,TI,Ue,T4,WA h1,show 1+hi=hi+1 by omega]
      rfl
  unfold Oper.wp
  rw[aw,Oper.upon_enter,ad]
  refine E.mono λe9 w' ⟨he,F,t,aP,aE⟩=>?_
  subst he
  have l:(x::(zs.take hi++zs.drop (hi+1))).length=zs.length:=by simp;omega
  have ax:Sim g (setPos st ps (.own nw 1 (aC (x::(zs.take hi++zs.drop (hi+1)))))) a w':=by
    refine h.ownWrite hb m R aE aP t ?_ rfl ?_
    · right
      refine⟨c,rfl,cap,_,T,(x::(zs.take hi++zs.drop (hi+1))).map (Value.int .i64),?_,F,?_,?_,dP g _,?_,f7⟩
      · rw[f1,U,cU,l]
      · simp only[T8,Ta,Ty,H,TN]
        omega
      · rw[cU,l]
        refine⟨f4.1,f4.2.1,?_⟩
        intro v D
        simp only[Wu,Te,Tx]at D
        rcases D with(rfl|D)|D
        · rfl
        · exact B v D
        · exact f4.2.2 v (U3 D)
      · obtain⟨rest,X⟩:=f6
        refine⟨rest,?_⟩
        rw[←X]
        simp only[Tn,Tu,TP,Tv,Wu]
        congr 2
        rw[Ua (by simp;omega),VD]
    · intro a3 e' rows1 hh
      cases hh
      exact⟨nw,aC zs,G,by rw[U,cU,l]⟩
  have af:ca g.N o.dst:=by rw[r];exact hd
  cases ag:d with
  |none=>
    rw[ag]at hK r
    rw[r]
    exact ab _ g _ w' hK h.refl_to ax
  |some dd=>
    rw[ag]at hK r
    rw[r]at af⊢
    refine ab _ g _ w' hK h.refl_to ?_
    refine ax.put af rfl ?_ rfl
    intro aX e1 rows1 ar
    have ak:aa (setPos st ps (.own nw 1 (aC (x::(zs.take hi++zs.drop (hi+1)))))) ps=.own nw 1 (aC (x::(zs.take hi++zs.drop (hi+1)))):=cd m
    rw[ak]at ar
    cases ar
    have av:an g a w' ps=an g a w ps:=by
      cases ps with
      |slot s=>rfl
      |cell b j=>
        simp only[aa]at m
        cases az:st.h[b]?with
        |none=>simp[List.getD,az,SV.isOwn]at m
        |some ys=>
          have aB:b<g.n:=by rw[h.n];exact(SQ.1 az).1
          simp only[an];rw[t _ ((hb.free _ c R).2.2.2 b aB)]
    refine⟨Tf _,by rw[cU,l];omega,some ⟨c,0,none⟩,cap,by rw[T4,Xf],by omega,.inr ⟨c,_,cap,av.trans f1,by simp⟩,λ_=>⟨_,av.trans f1⟩⟩
def SF(P:Program)(f:FuncId)(zs:List Int)(hi:Nat)(args:List PV)(b:List Int)(m:Nat):Prop:=
 aF P f=true∧∀(w:World)(c cap:Nat)(arr:Array Value)(T:TypeId)(a d:List Value),w.heap[c]?=some (.cells arr T (0,0))->arr.toList=zs.map (Value.int .i64)++a->zs.length<=cap->cap<=maxLen->ak (nh w c) args d->(∀v∈arr.toList,v.oneCell'=true)->
  Calls P f ((.slice (some ⟨c,0,none⟩) hi cap)::d).toArray w λe w'=>e=.returned (.slice (some ⟨c,0,none⟩) m cap)∧w'.heap[c]?=some (.cells (b.map (Value.int .i64)++a).toArray T (0,0))∧(∀k,k≠c->w'.heap[k]?=w.heap[k]?)∧w'.heap.size=w.heap.size∧bT w'=bT w
theorem bE.introW{P:Program}{st:St}{f:FuncId}{d:Option Tmp}{K:St->Prop}{cx:Operand}{args:Array Operand}{x0:Operand}{xs:List Operand}{ps:Pos}{hi m:Nat}{zs l:List Int}{nw:Bool}{q va:List PV}
 (hA:SF P f zs hi va l m) (U:l.length=zs.length) (hm:m<=zs.length) (h0:zs≠[]) (ar:gc st cx) (hcl:bC st cx=some (f,[],q)) (ha:args.toList=x0::xs) (hp:partOf st x0=some (ps,0,hi)) (aq:gc st x0)
 (A:aa st ps=.own nw 1 (aC zs)) (C:jP (setPos st ps (.pv .bot)) xs) (ax:Bc 3 (setPos st ps (.pv .bot)) xs++eC (bA (setPos st ps (.pv .bot)).h 3) q=va)
 (hK:K (Fy d (some m) ps 0 (setPos st ps (.own nw 1 (aC l))))):bE P st cx args d K:=by
 intro o aG ho p g a w h hd K' Q H;obtain⟨u,v,hx,hu,aw⟩:=eQ h ar hcl;have av:u.toList=[]:=hu;obtain⟨bl,hb⟩:=h.own;have i:(aa st ps).isOwn=true:=by rw[A];rfl
 obtain⟨az,e1,rows1,Y,j1,j2,q0,cap,jv,jc,_,jz⟩:=nj h aq hp;rw[A]at Y;cases Y;obtain⟨n0,V⟩:=jz rfl;have R:=bn hb i;rw[A]at R;rcases R with⟨_,W,_⟩|⟨c,D,aA,arr,T,vs,f1,f2,f3,B,f5,f6,f7⟩
 .exfalso;apply h0;cases zs with
  |nil=>rfl
  |cons _ _=>simp[aC]at W
 rw[f1]at V;cases V
 have ay:=bV f5;subst ay;have F:=cU zs;rw[F]at B;obtain⟨af,t⟩:=f6;obtain⟨s0,aB,ah,_,_,E⟩:=h.drop hb ps;have G:Sim g (setPos st ps (.pv .bot)) a (qp w c):=s0.turn ah (E c D) rfl (by simp[qp]) (λk hk=>lh w hk);have O:ak (nh w c) va (xs.map a.eval++v.toList):=by
  rw[←ax];refine ak.monoC (yE w c) _ _ (.inl (Tf _)) (.inl rfl) ?_;refine ak.append ?_ (ak.frz G.I (lc G 3) _ _ aw);rw[ou];exact qr G 3 xs C
 have J:(a.eval x0::(xs.map a.eval++v.toList)).toArray=u++args.map a.eval++v:=by
  apply UJ;simp[av,ha]
 obtain⟨e,x⟩:=hA;have ab:(execOp a.eval o).run P w=.ok (.enter f (u++args.map a.eval++v)) w:=by
  unfold aF at e;split at e
  case h_2=>cases e
  rename_i fn ao;simp only[S9,TU]at e;simp only[execOp,ho,resolve,hx,Deferred.ofValue,invoke,callFunc,Sem.run_bind,Sem.run_pure,Result.andThen_ok,run_program,ao,e.1,e.2,TM,Ul]
 have hc:=x w c cap arr T af _ f2 t.symm B.1 B.2.1 O B.2.2;unfold Oper.wp;rw[ab,Oper.upon_enter,←J,jv,Xf];refine hc.mono λe9 w' ⟨he,y,r,au,aj⟩=>?_;subst he;have ad:Sim g (setPos st ps (.own nw 1 (aC l))) a w':=by
  refine h.ownWrite hb i D aj au r ?_ rfl ?_
  .right;refine⟨c,rfl,cap,_,T,l.map (Value.int .i64),?_,y,?_,?_,dP g _,⟨af,by simp⟩,f7⟩
   .rw[f1,F,cU,U]
   .have ag:arr.size=arr.toList.length:=TR.symm;rw[←f3,ag,←t];simp[U]
   .rw[cU,U];refine⟨B.1,B.2.1,?_⟩;intro v C;simp only[Wu,Te]at C;rcases C with C|C
    .obtain⟨z,_,rfl⟩:=S8.1 C;rfl
    .exact B.2.2 v (by rw[←t];exact U9 _ C)
  .intro aE e' rows1 hh;cases hh
   exact⟨nw,aC zs,A,by rw[F,cU,U]⟩
 have L:ca g.N o.dst:=by rw[p];exact hd
 cases M:d with
 |none=>
  rw[M]at hK p;rw[p];exact H _ g _ w' hK h.refl_to ad
 |some dd=>
  rw[M]at hK p;rw[p]at L⊢;refine H _ g _ w' hK h.refl_to ?_;refine ad.put L rfl ?_ rfl;intro az e1 rows1 X;have S:aa (setPos st ps (.own nw 1 (aC l))) ps=.own nw 1 (aC l):=cd i;rw[S]at X;cases X
  have Z:an g a w' ps=an g a w ps:=by
   cases ps with
   |slot s=>rfl
   |cell b j=>
    simp only[aa]at i;cases ae:st.h[b]?with
    |none=>simp[List.getD,ae,SV.isOwn]at i
    |some ys=>
     have ai:b<g.n:=by rw[h.n];exact(SQ.1 ae).1
     simp only[an];rw[r _ ((hb.free _ c D).2.2.2 b ai)]
  have aD:m<=cap:=by have:=B.1;omega
  refine⟨Tf _,by rw[cU,U];omega,some ⟨c,0,none⟩,cap,by rw[T4,Xf],by omega,.inr ⟨c,_,cap,Z.trans f1,by simp⟩,λ_=>⟨_,Z.trans f1⟩⟩
end Go.AX
namespace Go.AX
theorem Sim.rows{g:Gh}{st:St}{a:Act}{w:World}(h:Sim g st a w){b k e:Nat}{nw:Bool}{rows rows':List (List PV)}{xs:List SV}(hx:st.h[b]?=some xs)(hk:xs[k]?=some (.own nw e rows))(hr:tq rows rows'):Sim g ⟨st.t,st.h.set b (xs.set k (.own nw e rows'))⟩ a w:=by
  obtain⟨bl,ho⟩:=h.own
  have hlen:=pI hr
  obtain⟨hbl,hbe⟩:=SQ.1 hx
  obtain⟨hkl,hke⟩:=SQ.1 hk
  have hp:∀p,aa ⟨st.t,st.h.set b (xs.set k (.own nw e rows'))⟩ p=aa st p∨(aa st p=.own nw e rows∧aa ⟨st.t,st.h.set b (xs.set k (.own nw e rows'))⟩ p=.own nw e rows'):=by
    intro p
    cases p with
    |slot s=>exact .inl rfl
    |cell b' k'=>
      simp only[aa,SS]
      by_cases cb:b'=b
      · subst cb
        rw[TH hbl,hx]
        simp only[TC]
        by_cases ck:k'=k
        · subst ck
          rw[TH hkl,hk]
          exact .inr ⟨rfl,rfl⟩
        · rw[Tj (VC ck)]
          exact .inl rfl
      · rw[Tj (VC cb)]
        exact .inl rfl
  have hal:∀{sv:SV}{v:Value},bW g st a w sv v->bW g ⟨st.t,st.h.set b (xs.set k (.own nw e rows'))⟩ a w sv v:=by
    intro sv
    induction sv with
    |al p=>
      intro v hv ho'
      rcases hp p with e1|⟨e1,_⟩
      · rw[e1]at ho';exact hv ho'
      · exact hv (by rw[e1];rfl)
    |loc p lo hi=>
      intro v hv nw1 e1 rows1 he
      rcases hp p with e2|⟨e2,e3⟩
      · exact hv _ _ _ (by rw[←e2];exact he)
      · rw[e3]at he;cases he;rw[←hlen];exact hv _ _ _ e2
    |sptr p i k=>
      intro v hv nw1 e1 rows1 he
      rcases hp p with e2|⟨e2,e3⟩
      · exact hv _ _ _ (by rw[←e2];exact he)
      · rw[e3]at he;cases he;exact hv _ _ _ e2
    |agl xs=>
      intro v hv k x p hk' ho'
      refine hv k x p hk' ?_
      rcases hp p with e1|⟨e1,_⟩
      · rw[e1]at ho';exact ho'
      · rw[e1];rfl
    |opt c x ih=>intro v hv hc;exact ih (hv hc)
    |_=>intro v _;trivial
  refine { size := h.size, defs := h.defs, env := h.env, n := by rw [h.n]; exact (Tt ..).symm, n0 := h.n0, B := h.B, I := h.I, F := h.F, μI := h.μI, μinj := h.μinj,
           own:=⟨bl,{slots:=ho.slots,blocks:=λb' xs' hx'=>?_,inj:=ho.inj,free:=ho.free}⟩,al:=λs=>hal (h.al s)}
  by_cases cb:b'=b
  · subst cb
    have hx':(st.h.set b' (xs.set k (.own nw e rows')))[b']?=some xs':=hx'
    rw[TH hbl]at hx'
    cases hx'
    obtain⟨arr,T,e1,e2,e3⟩:=ho.blocks b' xs hx
    refine⟨arr,T,e1,⟨by rw[Tt];exact e2.1,e2.2⟩,λk' x hk'=>?_⟩
    by_cases ck:k'=k
    · subst ck
      rw[TH hkl]at hk'
      cases hk'
      obtain⟨_,c2⟩:=e3 k' _ hk
      refine⟨rfl,?_⟩
      rcases c2 with⟨q1,q2,q3⟩|⟨c,e1,cap,arr,T,vs,a1,a2,a3,a4,a5,a6,a7⟩
      · subst q2
        cases rows' with
        |nil=>exact .inl ⟨q1,rfl,q3⟩
        |cons _ _=>exact hr.elim
      · exact .inr ⟨c,e1,cap,arr,T,vs,by rw[←hlen];exact a1,a2,a3,by rw[←hlen];exact a4,ay.wk hr a5,a6,a7⟩
    · rw[Tj (VC ck)]at hk'
      exact e3 k' x hk'
  · have hx':(st.h.set b (xs.set k (.own nw e rows')))[b']?=some xs':=hx'
    rw[Tj (VC cb)]at hx'
    exact ho.blocks b' xs' hx'
theorem ah.rows{k0:Nat}{st:St}{b k e:Nat}{nw:Bool}{rows a:List (List PV)}{xs:List SV}(hx:st.h[b]?=some xs)(hk:xs[k]?=some (.own nw e rows))(c:tq rows a):ah k0 st ⟨st.t,st.h.set b (xs.set k (.own nw e a))⟩:=λg _ _ _ hs=>
 ⟨g,hs.refl_to,hs.rows hx hk c⟩
end Go.AX