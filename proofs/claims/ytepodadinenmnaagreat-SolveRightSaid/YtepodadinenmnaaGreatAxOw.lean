/-
  AX, part Pu: a call that leaves all as it was, and whose result is plain, changes nothing; and what follows.
-/
import Derived.Test.YtepodadinenmnaaGreatAxXW
import Derived.Test.YtepodadinenmnaaGreatAxR
import Derived.Shelf.Spec.SlicesInsert
namespace Go.AX
theorem ax.pure{P:Program}{f:FuncId}{args:List PV}{R:SV->Prop}(g:ax P f args [] (λr _=>∃x,r=.pv x∧R (.pv x))):ak P f args R:=by
 refine⟨g.1,λw vs h=>?_⟩;have hs:=vz (N:=args.length+1) h (UX _);refine(g.2 _ _ _ _ vs hs rfl (vy h)).mono λe w' ⟨v,r,h',g',l,⟨x,n,i⟩,o,hd⟩=>?_;subst n;have d:args.length<(lp w (args.length+1)).N:=VG _;have s':=hd (some args.length) d;obtain⟨bl,j⟩:=s'.own;have a:=j.slots args.length;have b:args.length<(vs.toArray++Array.replicate (args.length+1 -vs.toArray.size) undef).size:=by
  rw[hs.size];exact d
 rw[eu b,SN rfl]at a;have m:look (iC (some args.length) (.pv x) ⟨aH eD (fV 0 args),h'⟩).t args.length=.pv x:=by
  simp[iC,look,St.put]
 rw[m]at a;exact⟨v,.pv x,g',none,l,i,iW o s',⟨rfl,a.2⟩,rfl,λc k=>by cases k⟩
def qC(st:St):List Operand->List PV->Prop
 |[],zs=>zs=[]
 |a::xs,zs=>∃z r,zs=z::r∧gc st a∧mv st a=.pv z∧qC st xs r
theorem vF{st:St}{g:Gh}{a:Act}{w:World}(h:Sim g st a w):∀{xs:List Operand}{zs:List PV},qC st xs zs->aj g zs (xs.map a.eval)
 |[],zs,e=>by
  have:zs=[]:=e;subst this;rfl
 |x::xs,zs,⟨z,r,hz,c,d,f⟩=>by
  subst hz;obtain⟨b,_⟩:=aO h x c;rw[d]at b;exact⟨_,_,rfl,b.2,vF h f⟩
theorem tf{g:Gh}:∀{xs ys:List PV}{a vs:List Value},aj g xs a->aj g ys vs->aj g (xs++ys) (a++vs)
 |[],ys,a,vs,h,k=>by
  have:a=[]:=h;subst this;exact k
 |x::xs,ys,a,vs,⟨v,r,h1,b,c⟩,k=>by
  subst h1;exact⟨v,r++vs,rfl,b,tf c k⟩
theorem bU.pureM{P:Program}{st:St}{x:Operand}{args:Array Operand}{d:Nat}{K:St->Prop}{f:FuncId}{p q zs:List PV}{y:PV}(hA:ax P f (p++(zs++q)) [] (λr _=>r=.pv y))
    (hg:gc st x) (hc:bC st x=some (f,p,q)) (ha:qC st args.toList zs) (hb:bR 0 (p++(zs++q))) (hy:y.bel 0)
    (hK:K (st.put d (.pv y))):bU P st x args (some d) K:=by
  intro o tys ho hdd g a w h hd K' Q hfin
  obtain⟨hcall,hA⟩:=hA
  obtain⟨u,v,hu,hv,hrun⟩:=lq h o x args tys f p q ho hg hc hcall
  have hfit:aj g (p++(zs++q)) (u.toList++(args.toList.map a.eval++v.toList)):=tf hu (tf (vF h ha) hv)
  generalize hpa:p++(zs++q)=pa at*
  generalize hvs:u.toList++(args.toList.map a.eval++v.toList)=vs at*
  let g0:Gh:={g with F:=λc=>if g.I c=none then w.heap[c]?else none,n:=0,n0:=0,N:=pa.length+1,env:=bT w}
  have hle0:Gh.le {g with n:=0} g0:=⟨λ_ _ h=>h,SQ _,SQ _,λ_ h=>absurd h (Va _)⟩
  have hfit0:aj g0 pa vs:=aj.mono hle0 _ _ (aj.below pa vs hb hfit)
  have hl:=hfit0.length
  have hgd:∀s,(vs.toArray++Array.replicate (pa.length+1 -vs.toArray.size) undef).getD s undef=vs.getD s undef:=by
    intro s
    simp only[S8,SI,Wc,TW,WN,UA]
    split
    · rfl
    · rename_i hs
      rw[Ty (by omega)]
      split<;>rfl
  have hs0:Sim g0 ⟨fV 0 pa,[]⟩ {tmps:=vs.toArray++Array.replicate (pa.length+1 -vs.toArray.size) undef,defers:=[]} w:=by
    refine { size := ?_, defs := rfl, env := rfl, n := rfl, n0 := SQ _, B := h.B, I := h.I, F := λ c o hc => ?_, μI := λ b hb => absurd hb (Va _), μinj := λ b b' hb => absurd hb (Va _),
             own:=⟨λ_=>none,?_⟩,al:=λs=>?_}
    · show(vs.toArray++Array.replicate (pa.length+1 -vs.toArray.size) undef).size=pa.length+1
      simp;omega
    · change(if g.I c=none then w.heap[c]?else none)=some o at hc
      split at hc
      · exact hc
      · cases hc
    · refine{slots:=λs=>?_,blocks:=λb xs hx=>(by simp at hx),inj:=λp q c hp=>(by cases hp),free:=λp c hp=>by cases hp}
      show az _ w _ ((vs.toArray++Array.replicate (pa.length+1 -vs.toArray.size) undef).getD s undef) none
      rw[hgd]
      have:=jT g0 pa vs 0 s hfit0 w
      simpa using this
    · obtain⟨x,hx⟩:=lm pa 0 s
      simp only[hx];trivial
  unfold Oper.wp
  rw[hrun,Oper.upon_enter]
  refine(hA g0 _ _ w vs hs0 rfl hfit0).mono λe w' ⟨v',r,h',g',he,hr,t',hdx⟩=>?_
  subst he;subst hr
  have hN:pa.length<g0.N:=VG _
  have s':=hdx (some pa.length) hN
  obtain⟨bl,hbo⟩:=s'.own
  have hf:=hbo.slots pa.length
  have hsz:pa.length<(vs.toArray++Array.replicate (pa.length+1 -vs.toArray.size) undef).size:=by
    rw[hs0.size];exact hN
  rw[eu hsz,SN rfl]at hf
  have hlk:look (iC (some pa.length) (.pv y) ⟨aH eD (fV 0 pa),h'⟩).t pa.length=.pv y:=by
    simp[iC,look,St.put]
  rw[hlk]at hf
  have hkeep:∀c,c<w.heap.size->w'.heap[c]?=w.heap[c]?:=λc hc=>by
    have hx:w.heap[c]?=some w.heap[c]:=Ta hc
    cases hI:g.I c with
    |some o=>rw[s'.I c o (t'.I c o hI),h.I c o hI]
    |none=>
      have hF:g'.F c=some w.heap[c]:=by
        rw[t'.F]
        show(if g.I c=none then w.heap[c]?else none)=_
        rw[SN hI,hx]
      rw[s'.F c _ hF,hx]
  have hsize:w.heap.size<=w'.heap.size:=by
    cases hsz2:w.heap.size with
    |zero=>exact Te _
    |succ n=>
      have h1:=hkeep n (by omega)
      rw[Ta (show n<w.heap.size by omega)]at h1
      have:=(S5.1 h1).1
      omega
  have henv:bT w'=bT w:=s'.env.trans t'.env
  obtain⟨h1,h2,h3⟩:=h.grown henv hsize hkeep g'.I s'.I
  have hfy:Fit {g with I:=λc=>if w.heap.size<=c then g'.I c else g.I c} y v':=by
    refine Fit.mono ?_ _ _ (Fit.below y v' hy hf.2)
    refine⟨λc o hc=>?_,?_,Te _,λ_ hb=>absurd hb (Va _)⟩
    · show(if w.heap.size<=c then g'.I c else g.I c)=some o
      have hc':g'.I c=some o:=hc
      split
      · exact hc'
      · rename_i hlt
        cases hI:g.I c with
        |some o2=>rw[t'.I c o2 hI]at hc';exact hc'
        |none=>
          have hx:w.heap[c]?=some (w.heap[c]'(by omega)):=Ta (by omega)
          have:=t'.FI c (by show(if g.I c=none then w.heap[c]?else none)≠none;rw[SN hI,hx];simp) hI
          rw[this]at hc';cases hc'
    · show g.B<=g'.B
      rw[t'.B]
      exact SQ _
  rw[hdd]
  have hd':d<g.N:=hd
  exact hfin _ _ _ _ hK h2 (h1.put hd' ⟨rfl,hfy⟩ trivial rfl)
end Go.AX
namespace Go.AX
def blk(pre:List Value)(zs:List Int)(a:List Value):List SV:=pre.map (λv=>.pv (.lit v))++(zs.map (λz=>.pv (.lit (.int .i64 z)))++a.map λv=>.pv (.lit v))
theorem eG(pre:List Value)(zs:List Int)(a:List Value):(blk pre zs a).length=pre.length+zs.length+a.length:=by
 unfold blk;simp only[SX,SZ];omega
theorem lr(pre:List Value)(zs:List Int)(a:List Value){i:Nat}(h:i<zs.length):(blk pre zs a)[pre.length+i]?=some (.pv (.lit (.int .i64 zs[i]))):=by
 unfold blk;rw[Td (by simp),SZ,U4,SO (by simpa using h),Tg,SH h];rfl
theorem th(pre:List Value)(zs:List Int)(a:List Value){i:Nat}{ys:List Int}(h:i+ys.length<=zs.length):
 List.take (pre.length+i) (blk pre zs a)++(ys.map (λz=>SV.pv (.lit (.int .i64 z)))++List.drop (pre.length+i+ys.length) (blk pre zs a))=blk pre (zs.take i++ys++zs.drop (i+ys.length)) a:=by
 unfold blk;have b:pre.length=(pre.map (λv=>SV.pv (PV.lit v))).length:=by simp
 rw[show List.take (pre.length+i) (pre.map (λv=>SV.pv (PV.lit v))++(zs.map (λz=>SV.pv (.lit (.int .i64 z)))++a.map λv=>.pv (.lit v)))=pre.map (λv=>SV.pv (PV.lit v))++(zs.map (λz=>SV.pv (.lit (.int .i64 z)))).take i by
  rw[b,Wa];congr 1;rw[TV (by simp;omega)],
  show List.drop (pre.length+i+ys.length) (pre.map (λv=>SV.pv (PV.lit v))++(zs.map (λz=>SV.pv (.lit (.int .i64 z)))++a.map λv=>.pv (.lit v)))=(zs.map (λz=>SV.pv (.lit (.int .i64 z)))).drop (i+ys.length)++a.map λv=>.pv (.lit v) by
   rw[UN,b,VB,Un (by simp;omega)]]
 simp only[TA,U3,VY,Tn]
theorem xt(pre:List Value)(zs:List Int)(a:List Value){i:Nat}(y:Int)(h:i<zs.length):
 List.take (pre.length+i) (blk pre zs a)++SV.pv (.lit (.int .i64 y))::List.drop (pre.length+i+1) (blk pre zs a)=blk pre (zs.set i y) a:=by
 have:=th pre zs a (i:=i) (ys:=[y]) (by simp;omega);simp only[Th,UL,TZ,TH,Tz]at this;rw[this];congr 1;rw[VI,SN h];simp
theorem HP(pre:List Value)(zs:List Int)(a:List Value)(t:List (List SV))(n:Nat):uL (aZ (blk pre zs a::t) (n+1) 0 pre.length) 1 zs.length=.seq false 1 (zs.map λz=>[.lit (.int .i64 z)]):=by
 have b:=eG pre zs a;have e:(blk pre zs a::t).getD 0 []=blk pre zs a:=rfl;simp only[aZ,uL,e,SZ];rw[SN ⟨trivial,by omega⟩];congr 1;unfold blk;simp only[TA,TT];rw[WB (by simp),UR (by simp),TT];rfl
theorem fN(k:Nat)(pre:List Value)(zs:List Int)(a:List Value):cD k (blk pre zs a):=by
 refine nm λx hx=>?_;unfold blk at hx;simp only[S7,SY]at hx;rcases hx with⟨_,_,rfl⟩|⟨_,_,rfl⟩|⟨_,_,rfl⟩<;>trivial
theorem ti(pre:List Value)(zs:List Int)(a:List Value){i n:Nat}(y:Int)(h:i+n<=zs.length):
 List.take (pre.length+i) (blk pre zs a)++(List.replicate n (SV.pv (.lit (.int .i64 y)))++List.drop (pre.length+i+n) (blk pre zs a))=blk pre (zs.take i++List.replicate n y++zs.drop (i+n)) a:=by
 have:=th pre zs a (i:=i) (ys:=List.replicate n y) (by simpa using h);simpa only[U7,Vu]using this
theorem oD{g:Gh}{w:World}{arr:Array Value}{bl:Nat->Option Nat}{vs:List Value}(hs:arr.size=vs.length)(h:∀k x,(vs.map (λv=>SV.pv (.lit v)))[k]?=some x->az g w x (arr.getD k undef) (bl k)):arr=vs.toArray:=by
 apply Array.ext
 .simpa using hs
 .intro i h1 b;have:=h i (.pv (.lit (vs[i]'(by omega)))) (by rw[Tg,SH (by omega)];rfl);have a:arr.getD i undef=vs[i]'(by omega):=this.2;simpa[Array.getD,h1]using a
def aB(zs:List Int):List (List PV):=zs.map λz=>[.lit (.int .i64 z)]
theorem dP(G:Gh):∀zs:List Int,av G 1 (aB zs) (zs.map (Value.int .i64))
 |[]=>rfl
 |z::zs=>⟨[.int .i64 z],zs.map (Value.int .i64),rfl,⟨rfl,λv a=>by simp at a;subst a;rfl⟩,⟨_,_,rfl,rfl,rfl⟩,dP G zs⟩
theorem bW{G:Gh}:∀{zs:List Int}{vs:List Value},av G 1 (aB zs) vs->vs=zs.map (Value.int .i64)
 |[],_,h=>h
 |z::zs,_,⟨g,i,h1,_,c,d⟩=>by
  obtain⟨v,r,rfl,e,f⟩:=c;have a:v=.int .i64 z:=e;have b:r=[]:=f;subst a b;rw[h1,bW d];rfl
def R9(k:Option Nat)(off cap:Nat):SV:=match k with
 |none=>.pv (.tup [])
 |some m=>.pv (.bsl 0 1 off m cap)
def Qx(k:Option Nat)(p:Option Addr)(cap:Nat):SV:=match k with
 |none=>.pv (.tup [])
 |some m=>.pv (.lit (.slice p m cap))
theorem qv.ofInts{P:Program}{f:FuncId}{zs:List Int}{args:List PV}{R:Option Nat->List (List PV)->Prop}(hc:aD P f=true)(ho:qt args)(V:bR 0 args)
 (h : zs ≠ [] -> ∀ (pre a : List Value) (cap : Nat), zs.length <= cap -> zs.length <= maxLen -> ax P f (.bsl 0 1 pre.length zs.length cap :: args) [blk pre zs a]
  (λr h'=>∃k d,R k (aB d)∧d.length=zs.length∧(∀m,k=some m->m<=zs.length)∧r=R9 k pre.length cap∧h'=[blk pre d a]))
 (h0:zs=[]->∀(p:Option Addr)(cap:Nat),ak P f (.lit (.slice p 0 cap)::args) (λr=>∃k,R k []∧(k=none∨k=some 0)∧r=Qx k p cap)):
 qv P f 1 (aB zs) args R:=by
 refine⟨hc,λY w c cap arr T pre vs a us h1 h2 Q h4 h5 h6 D=>?_,λE w p cap us h1=>?_⟩
 .have hz:zs≠[]:=λe=>Y (by rw[e];rfl);have H:(aB zs).length=zs.length:=by unfold aB;simp
  have ab:=bW h5;subst ab;rw[H]at Q h4⊢;have ad:c<w.heap.size:=(S5.1 h1).1;obtain⟨G,l⟩:∃G:Gh,G={I:=λk=>if k=c then none else w.heap[k]?,F:=λ_=>none,B:=0,μ:=λ_=>c,n:=1,n0:=1,N:=1,env:=bT w}:=⟨_,rfl⟩;have K:Sim G ⟨[],[blk pre zs a]⟩ ⟨#[undef],[]⟩ w:=by
   subst l;refine{size:=rfl,defs:=rfl,env:=rfl,n:=rfl,n0:=SQ _,B:=Te _,I:=λk o hk=>?_,F:=λk o hk=>(by cases hk),μI:=λb V=>⟨by simp,rfl⟩,μinj:=λb b' V g _=>?_,own:=⟨λ_=>none,?_⟩,al:=λs=>trivial}
   .by_cases e:k=c
    .subst e;simp at hk
    .simpa[e]using hk
   .dsimp only at V g;omega
   .refine{slots:=λs=>⟨rfl,trivial⟩,blocks:=λb xs hx=>?_,inj:=λp q k hk=>(by cases hk),free:=λp k hk=>(by cases hk)};cases b with
    |succ b=>simp at hx
    |zero=>
     simp only[TU,TC]at hx;subst hx;have aa:arr.size=(blk pre zs a).length:=by rw[eG,←TI,h2];simp only[SX,SZ]
     refine⟨arr,T,h1,⟨aa,D⟩,λk x hk=>?_⟩;have t:blk pre zs a=arr.toList.map (λv=>.pv (.lit v)):=by
      rw[h2];unfold blk;simp only[TA,TT,Tn];rfl
     rw[t,Tg]at hk;cases A:arr.toList[k]?with
     |none=>rw[A]at hk;cases hk
     |some u=>
      rw[A]at hk;simp only[TO,TC]at hk;subst hk;refine⟨rfl,rfl,?_⟩;show arr.getD k undef=u;have:arr[k]?=some u:=by rw[←SR];exact A
      rw[S8,this];rfl
  have i:aj G (.bsl 0 1 pre.length zs.length cap::args) (.slice (some ⟨c,pre.length,none⟩) zs.length cap::us):=by
   refine⟨_,_,rfl,?_,?_⟩
   .subst l;exact⟨Wd,Q,rfl⟩
   .refine aj.monoC ⟨λk arr' T' fz hk=>?_,λk en ck hk=>?_⟩ _ _ (.inr ho) (.inl rfl) h6
    .obtain⟨M,O⟩:=Ha hk;subst l;simpa[M]using O
    .obtain⟨M,O⟩:=Hb hk;subst l;simpa[M]using O
  refine((h hz pre a cap Q h4).2 G _ _ w _ K rfl i).mono λe w' ⟨v,r,h',g',E,⟨k,d,r1,r2,r3,r4,r5⟩,t',Z⟩=>?_;subst r4 r5;have C:=Z (some 0) (by subst l;exact Wd);have hμ:g'.μ 0=c:=by rw[t'.μ 0 (by subst l;exact Wd)];subst l;rfl
  obtain⟨bl,g⟩:=C.own;have j:∀k,k<w.heap.size->k≠c->w'.heap[k]?=w.heap[k]?:=λk hk X=>by
   have hI:G.I k=some w.heap[k]:=by subst l;simp[X]
   rw[C.I _ _ (t'.I _ _ hI),Ta hk]
  refine⟨k,aB d,d.map (Value.int .i64),r1,by unfold aB;simpa using r2,r3,?_,?_,?_,j,?_,λG _=>dP G d⟩
  .rw[E];have h0:=g.slots 0;cases k with
   |none=>
    have y:az g' w' (.pv (.tup [])) v (bl (.slot 0)):=h0;obtain⟨_,vs,rfl,S⟩:=y;have z:vs.toList=[]:=S;have:vs=#[]:=Ur z;rw[this]
   |some m=>
    have y:az g' w' (.pv (.bsl 0 1 pre.length m cap)) v (bl (.slot 0)):=h0;obtain⟨_,_,_,rfl⟩:=y;rw[hμ]
  .rw[C.env,t'.env];subst l;rfl
  .apply Uu;intro J;have W:w'.heap[c]?≠none:=by
    obtain⟨arr',T',b1,_⟩:=g.blocks 0 (blk pre d a) (by cases k<;>rfl);rw[hμ]at b1;rw[b1];simp
   have L:w'.heap[w'.heap.size]?=none:=by simp
   by_cases e:w'.heap.size=c
   .rw[e]at L;exact W L
   .rw[j _ J e,Ta J]at L;cases L
  .obtain⟨arr',T',b1,⟨b2,_⟩,b3⟩:=g.blocks 0 (blk pre d a) (by cases k<;>rfl);rw[hμ]at b1;refine⟨T',?_⟩;rw[b1];have t:blk pre d a=(pre++d.map (Value.int .i64)++a).map (λv=>.pv (.lit v)):=by
    unfold blk;simp only[TA,TT,Tn];rfl
   rw[t,SZ]at b2;rw[oD (bl:=λk=>bl (.cell 0 k)) b2 λk x hk=>(b3 k x (by rw[t];exact hk)).2]
 .have hz:zs=[]:=by
   cases zs with
   |nil=>rfl
   |cons _ _=>unfold aB at E;cases E
  subst hz;have i:aj (dw w) (.lit (.slice p 0 cap)::args) (.slice p 0 cap::us):=⟨_,_,rfl,rfl,h1⟩;refine((h0 rfl p cap).2 w _ i).mono λe w' ⟨v,r,g',o,E,⟨k,r1,r2,r3⟩,U,hF,_,_⟩=>?_;subst r3;refine⟨k,r1,r2,?_,U.env,U.size,λk hk=>U.keep k hk⟩;rw[E];cases k with
  |none=>
   have y:az g' w' (.pv (.tup [])) v o:=hF;obtain⟨_,vs,rfl,S⟩:=y;have z:vs.toList=[]:=S;have:vs=#[]:=Ur z;rw[this]
  |some m=>
   have y:v=.slice p m cap:=hF.2;rw[y]
end Go.AX
namespace Go.AX
theorem ak.own0{P:Program}{f:FuncId}{args:List PV}{R R':SV->Prop}(h:ak P f args R)(j:∀r,R r->R' r∨(r=.pv (.lit (.slice none 0 0))∧∃nw e,R' (.own nw e []))):ak P f args R':=by
 refine⟨h.1,λw vs k=>(h.2 w vs k).mono λe w' ⟨v,r,g',o,h1,g,c,a,i,d⟩=>?_⟩;rcases j r g with b|⟨rfl,nw,e',b⟩
 .exact⟨v,r,g',o,h1,b,c,a,i,d⟩
 .exact⟨v,_,g',o,h1,b,c,.inl ⟨a.1,rfl,a.2⟩,rfl,d⟩
end Go.AX
namespace Go.AX
theorem dR{P:Program}(bad:List Nat){f:FuncId}{fn:Func}{c:Code}{args:List PV}{h:List (List SV)}{R:SV->Prop}(rs:List ResultVar)(h1:List (List SV))(C:h.length<=h1.length)(j:dO h.length h->dO h1.length h1)(aC:P.follows .mixedOrders=true)(B:P.funcs[f]?=some fn)(y:AC P h.length bad c (jS (gd P rs h1 R)) ⟨fV 0 args,h⟩)(b:aD P f=true:=by kernel_rfl)(z:fn.body=some c:=by rfl)(D:fn.results=rs.toArray:=by rfl)(l:nE fn.ntmps bad c=true:=by kernel_rfl)(hn:args.length<=fn.ntmps:=by exact T6 rfl):ax P f args h (λr h'=>h'=h1∧R r):=by
 refine⟨b,λg st a w vs hs m E=>?_⟩;have d:dO h1.length h1:=j (by have:=hs.belH;rwa [hs.n,m]at this);have key:=nj (R:=λr h'=>h'=h1∧R r) aC B b z l hn y λg' st' M w' hk k s'=>?_
 .exact key.2 g st a w vs hs m E
 .obtain⟨F,G,H,I⟩:=hk;obtain⟨g2,p,N,O,J,L,q,u⟩:=nh rs s' F;obtain⟨v,t,x⟩:=gW D (jU rs st') q u;have K:=J.weak (st':=⟨[],(fW P st' rs).2.1.h⟩) rfl λs=>.inr rfl;obtain⟨t4,o⟩:=Sim.dropB (st:=⟨[],(fW P st' rs).2.1.h⟩) (h1:=h1) G (ht:=trivial) d (hs:=K) (h0:=by rw[p.n0];exact TD k C);obtain⟨e,i⟩:=o.own;exact⟨v,_,_,_,e,none,t,p.trans t4,o,i,⟨rfl,I⟩,⟨rfl,Fit.below _ _ H x⟩,rfl,λc A=>by cases A⟩
theorem ai.keep{k0:Nat}{st:St}{t1:List (Nat×SV)}{h1:List (List SV)}(h:MZ st.t t1)(a:st.h=h1):ai k0 st ⟨t1,h1⟩:=a▸ai.slots h
theorem ai.nilCell{k0:Nat}{st:St}{b k:Nat}{xs:List SV}(e:Nat)(nw:Bool)(hx:st.h[b]?=some xs)(hk:xs[k]?=some (.pv (.lit (.slice none 0 0)))):ai k0 st ⟨aH (aL b k 1) st.t,st.h.set b (xs.set k (.own nw e []))⟩:=λg a w _ hs=>by
 obtain⟨bl,f⟩:=hs.own;have d:k<xs.length:=(SG.1 hk).1;obtain⟨arr,T,i,p,j⟩:=f.blocks b xs hx;have l:=(j k _ hk).2;have n:an g a w (.cell b k)=.slice none 0 0:=by
  simp only[an,i];exact l.2
 exact⟨g,hs.refl_to,(hs.adopt f hx d (sv:=.own nw e []) (o:=none) (.inl ⟨rfl,rfl,n⟩) rfl (λc m=>by cases m)).1⟩
end Go.AX
namespace Go.AX
theorem ax.below{P:Program}{f:FuncId}{args:List PV}{h:List (List SV)}{R:SV->List (List SV)->Prop}(d:aD P f=true)(c:dO h.length h->ax P f args h R):ax P f args h R:=
 ⟨d,λg st a w vs hs b e=>(c (by have:=hs.belH;rwa [hs.n,b]at this)).2 g st a w vs hs b e⟩
def tw:List (List PV)->List (List PV)->Prop
 |[],[]=>True
 |x::xs,y::ys=>bK x y∧tw xs ys
 |_,_=>False
theorem zr:∀{a b:List PV},bK a b->a.length=b.length
 |[],[],_=>rfl
 |[],_::_,h=>by simp[bK]at h
 |_::_,[],h=>by simp[bK]at h
 |x::a,y::b,h=>by
  simp only[bK]at h;rw[To,To,zr h.2]
theorem pM:∀{a b:List (List PV)},tw a b->a.length=b.length
 |[],[],_=>rfl
 |[],_::_,h=>h.elim
 |_::_,[],h=>h.elim
 |x::a,y::b,h=>by rw[To,To,pM h.2]
theorem av.wk{g:Gh}{e:Nat}:∀{a b:List (List PV)}{vs:List Value},tw a b->av g e a vs->av g e b vs
 |[],[],_,_,h=>h
 |[],_::_,_,h,_=>h.elim
 |_::_,[],_,h,_=>h.elim
 |x::a,y::b,_,h,⟨j,k,h1,⟨d,c⟩,f,i⟩=>⟨j,k,h1,⟨by rw[←zr h.1];exact d,c⟩,pz _ _ _ h.1 f,av.wk h.2 i⟩
def RP:PV->PV->Prop
 |.seq nw e rows,.seq b e' a=>(b=true->nw=true)∧e=e'∧tw rows a
 |x,y=>bO x y
theorem Id{g:Gh}{x y:PV}{v:Value}(h:RP x y)(j:Fit g x v):Fit g y v:=by
 unfold RP at h;split at h
 .rename_i nw e rows m e' d;obtain⟨hn,rfl,f⟩:=h;obtain⟨p,cap,h1,k,i⟩:=j;refine⟨p,cap,by rw[←pM f];exact h1,by rw[←pM f];exact k,?_⟩;rcases i with i|⟨c,off,arr,T,fz,vs,a,b,n,r,q⟩
  .subst i;cases d with
   |nil=>exact .inl rfl
   |cons _ _=>exact f.elim
  .exact .inr ⟨c,off,arr,T,fz,vs,a,b,λl=>n (hn l),av.wk f r,q⟩
 .exact xo _ _ _ h j
def Ie:List PV->List PV->Prop
 |[],[]=>True
 |x::xs,y::ys=>RP x y∧Ie xs ys
 |_,_=>False
theorem DU{g:Gh}:∀{xs ys:List PV}{vs:List Value},Ie xs ys->aj g xs vs->aj g ys vs
 |[],[],_,_,h=>h
 |[],_::_,_,h,_=>h.elim
 |_::_,[],_,h,_=>h.elim
 |_::_,_::_,_,h,⟨v,r,h1,a,b⟩=>⟨v,r,h1,Id h.1 a,DU h.2 b⟩
theorem ax.argsA{P:Program}{f:FuncId}{xs ys:List PV}{h:List (List SV)}{R:SV->List (List SV)->Prop}(b:ax P f ys h R)(e:Ie xs ys):ax P f xs h R:=
 ⟨b.1,λg st a w vs hs c d=>b.2 g st a w vs hs c (DU e d)⟩
theorem ah.introE{P:Program}{st:St}{ok:Prop}{f k:FuncId}{y p q b:List PV}{h1:List (List SV)}{d:Option Tmp}{K:St->Prop}{x:Operand}{args:Array Operand}{R:SV->List (List SV)->Prop}
 (i:ax P f b h1 R) (n:gc st x) (m:bC st x=some (f,p,q)) (u:(cR st args.toList).2.2) (s:(cR st args.toList).2.1.h=h1) (v:Ie (p++((cR st args.toList).1++q)) b)
 (j:∀r h',R r h'->K (iC d r ⟨aH eD (cR st args.toList).2.1.t,h'⟩)):ah P st ok k y d K x args:=by
 subst s;exact ah.introX λo e ho hd g a w hs l K' Q c=>Bx hs o x args e f p q ho n m u (hd▸l) (hd▸⟨R,i.argsA v,j⟩) c
theorem ak.wk{P:Program}{f:FuncId}{args:List PV}{R R':SV->Prop}(h:ak P f args R)(i:∀r,R r->∃x y,r=.pv x∧bO x y∧R' (.pv y)):ak P f args R':=
 ⟨h.1,λw vs j=>(h.2 w vs j).mono λe w' ⟨v,r,g',o,h1,b,c,a,l,d⟩=>by
  obtain⟨x,y,rfl,k,g⟩:=i r b;exact⟨v,.pv y,g',o,h1,g,c,⟨a.1,xo x y v k a.2⟩,rfl,d⟩⟩
end Go.AX
namespace Go.AX
def NU(b:Nat)(k:Option Nat)(off cap:Nat):SV:=match k with
 |none=>.pv (.tup [])
 |some m=>.pv (.bsl b 1 off m cap)
theorem Sim.toBlk{g:Gh}{st:St}{a:Act}{w:World}(h:Sim g st a w){bl:Pos->Option Nat}(hb:Owns g st a w bl){s c:Nat}(hbc:bl (.slot s)=some c){arr:Array Value}{T:TypeId}(hcell:w.heap[c]?=some (.cells arr T (0,0)))(hone:∀v∈arr.toList,v.oneCell'=true)
    {xs:List SV} (hx:xs=arr.toList.map λv=>.pv (.lit v)):
    Sim {g with n:=g.n+1,n0:=g.n+1,μ:=λb=>if b=g.n then c else g.μ b} ⟨(s,.pv .bot)::st.t,st.h++[xs]⟩ a w:=by
  obtain⟨s0,bl0,hb0,_,_,hfree⟩:=h.drop hb (.slot s)
  obtain⟨f1,f2,f3,f4⟩:=hfree c hbc
  have hle:g.le {g with n:=g.n+1,n0:=g.n+1,μ:=λb=>if b=g.n then c else g.μ b}:=⟨λ_ _ h=>h,SQ _,UX _,λb hb=>SM (by omega)⟩
  have hn:=h.n
  refine{size:=h.size,defs:=h.defs,env:=h.env,n:=by simp[hn],n0:=SQ _,B:=h.B,I:=h.I,F:=h.F,μI:=λb hb=>?_,μinj:=λb b' hb hb' he=>?_,own:=⟨λp=>match p with|.slot u=>bl0 (.slot u)|.cell b k=>if b=g.n then none else bl0 (.cell b k),?_⟩,al:=λu=>?_}
  · by_cases e:b=g.n
    · simp only[e,UO];exact⟨f1,f2⟩
    · simp only[e,Uo];exact h.μI b (by have:b<g.n+1:=hb;omega)
  · have hb1:b<g.n+1:=hb
    have hb1':b'<g.n+1:=hb'
    by_cases e:b=g.n
    · by_cases e':b'=g.n
      · omega
      · simp only[e,e',UO,Uo]at he
        exact absurd he.symm (f3 b' (by omega))
    · by_cases e':b'=g.n
      · simp only[e,e',UO,Uo]at he
        exact absurd he (f3 b (by omega))
      · simp only[e,e',Uo]at he
        exact h.μinj b b' (by omega) (by omega) he
  · refine{slots:=λu=>az.frame hle (λ_ _=>rfl) (hb0.slots u),blocks:=λb ys hy=>?_,inj:=λp q k hp hq=>?_,free:=λp k hp=>?_}
    · by_cases e:b=g.n
      · subst e
        rw[hn,Td (SQ _),UW]at hy
        simp only[TU,TC]at hy
        subst hy
        refine⟨arr,T,by simp only[UO];exact hcell,⟨by rw[hx];simp,hone⟩,λk x hk=>?_⟩
        rw[hx,Tg]at hk
        cases hk2:arr.toList[k]?with
        |none=>rw[hk2]at hk;cases hk
        |some v=>
          rw[hk2]at hk
          simp only[TO,TC]at hk
          subst hk
          refine⟨rfl,by simp,?_⟩
          show arr.getD k undef=v
          have:arr[k]?=some v:=by rw[←SR];exact hk2
          rw[S8,this];rfl
      · have hlt:b<st.h.length:=by
          have:=(SG.1 hy).1
          simp only[SX,TZ]at this
          omega
        rw[SO hlt]at hy
        obtain⟨arr',T',h1,h2,h3⟩:=hb0.blocks b ys hy
        refine⟨arr',T',by simp only[e,Uo];exact h1,h2,λk x hk=>?_⟩
        simp only[e,Uo]
        exact⟨(h3 k x hk).1,az.frame hle (λ_ _=>rfl) (h3 k x hk).2⟩
    · cases p with
      |slot u=>cases q with
        |slot v=>exact hb0.inj _ _ k hp hq
        | cell b j => dsimp only at hq; split at hq
                      · cases hq
                      · exact hb0.inj _ _ k hp hq
      |cell b j=>
        dsimp only at hp;split at hp
        · cases hp
        · cases q with
          |slot v=>exact hb0.inj _ _ k hp hq
          | cell b2 j2 => dsimp only at hq; split at hq
                          · cases hq
                          · exact hb0.inj _ _ k hp hq
    · have hp0:bl0 p=some k:=by
        cases p with
        |slot u=>exact hp
        | cell b j => dsimp only at hp; split at hp
                      · cases hp
                      · exact hp
      obtain⟨q1,q2,q3,q4⟩:=hb0.free p k hp0
      refine⟨q1,q2,q3,λb hb=>?_⟩
      by_cases e:b=g.n
      · simp only[e,UO];intro e2;exact f4 p (e2▸hp0)
      · simp only[e,Uo];exact q4 b (by have:b<g.n+1:=hb;omega)
  · refine bX.congr (λp hp=>?_) (s0.al u)
    cases p with
    |slot v=>exact⟨rfl,rfl⟩
    |cell b k=>
      have hlt:b<st.h.length:=by
        apply VF
        intro hge
        simp only[aa]at hp
        by_cases e:b=st.h.length
        · subst e
          have h8:(st.h++[xs]).getD st.h.length []=xs:=by simp[SI]
          rw[h8,hx,SI,Tg]at hp
          cases h9:arr.toList[k]?<;>rw[h9]at hp<;>cases hp
        · have h8:(st.h++[xs]).getD b []=[]:=by rw[SI,Ty (by simp;omega)];rfl
          rw[h8]at hp
          cases hp
      refine⟨?_,?_⟩
      · simp only[aa,setPos,SI]
        rw[SO hlt]
      · have e:b≠g.n:=by omega
        simp only[an,e,Uo]
theorem Sim.fromBlk{g g1 g':Gh}{st:St}{a:Act}{w w':World}(h:Sim g st a w){s c n cap:Nat}{nw:Bool}{all all':List Int}{L:List (List SV)}{rest:List Value}
 (O:look st.t s=.own nw 1 (aB all)) (hv:a.tmps.getD s undef=.slice (some ⟨c,0,none⟩) all.length cap) (l:all.length<=cap∧cap<=maxLen∧all.length+rest.length=cap) (Y:nw=true->g.B<=c) (z:all'.length=all.length)
 (d:g1={g with n:=g.n+1,n0:=g.n+1,μ:=λb=>if b=g.n then c else g.μ b}) (ht:g1.to g') (S0:Sim g' ⟨aH eD ((s,.pv .bot)::st.t),L++[blk [] all' rest]⟩ a w') (R:L.length=st.h.length) (U:lh st.h.length st.t) (T:dO st.h.length L) (hn:n=st.h.length):
 g.to {g' with n:=g.n,n0:=g.n0}∧Sim {g' with n:=g.n,n0:=g.n0} ⟨(s,.own nw 1 (aB all'))::aH eD st.t,L⟩ a w'∧g'.μ g.n=c:=by
 subst hn;have m:=h.n;have y:g'.μ g.n=c:=by rw[ht.μ g.n (by rw[d];exact VG _),d];simp
 have hμ:∀b,b<g.n->g'.μ b=g.μ b:=λb j=>by
  rw[ht.μ b (by rw[d];exact Wi j),d];exact SM (by omega)
 have i:g'.n=g.n+1:=by rw[S0.n];simp[R,m]
 have hB:g'.B=g.B:=by rw[ht.B,d]
 have hN:g'.N=g.N:=by rw[ht.N,d]
 obtain⟨E,f⟩:=S0.own;have H:=S0.μI g.n (by omega);rw[y]at H;have P:∀q,E q≠some c:=λq K=>(f.free q c K).2.2.2 g.n (by omega) y;obtain⟨arr',T',b1,⟨b2,Q⟩,b3⟩:=f.blocks g.n (blk [] all' rest) (by show(L++_)[g.n]?=_;rw[m,←R,Td (SQ _),UW];rfl);rw[y]at b1;have C:blk [] all' rest=(all'.map (Value.int .i64)++rest).map λv=>.pv (.lit v):=by
  unfold blk;simp only[TA,TT,UL,Tz];rfl
 have A:arr'=(all'.map (Value.int .i64)++rest).toArray:=by
  rw[C,SZ]at b2;exact oD (bl:=λk=>E (.cell g.n k)) b2 λk x hk=>(b3 k x (by rw[C];exact hk)).2
 have hle:({g' with n:=g.n}:Gh).le {g' with n:=g.n,n0:=g.n0}:=⟨λ_ _ h=>h,SQ _,SQ _,λ_ _=>rfl⟩;refine⟨⟨λk o hk=>ht.I k o (by rw[d];exact hk),by rw[ht.F,d],hB,rfl,hN,by rw[ht.env,d],h.n0,λb j=>hμ b (Uc j h.n0),λk hF hI=>ht.FI k (by rw[d];exact hF) (by rw[d];exact hI)⟩,?_,y⟩;refine{size:=S0.size,defs:=S0.defs,env:=S0.env,n:=by rw[m,←R],n0:=h.n0,B:=S0.B,I:=S0.I,F:=S0.F,μI:=λb j=>S0.μI b (by rw[i];exact Wi j),μinj:=λb b' j f V=>S0.μinj b b' (by rw[i];exact Wi j) (by rw[i];exact Wi f) V,own:=⟨λp=>if p=.slot s then some c else E p,?_⟩,al:=λu=>?_}
 .refine{slots:=λu=>?_,blocks:=λb ys hy=>?_,inj:=λp q k hp K=>?_,free:=λp k hp=>?_}
  .by_cases e:s=u
   .subst e;simp only[look,UO];refine .inr ⟨c,rfl,cap,arr',T',all'.map (Value.int .i64),?_,b1,?_,⟨?_,l.2.1,Q⟩,dP _ _,?_,λhn=>by show g'.B<=c;rw[hB];exact Y hn⟩
    .rw[hv];unfold aB;simp[z]
    .rw[A];simp[z];exact l.2.2
    .unfold aB;simp[z];exact l.1
    .rw[A];exact⟨rest,rfl⟩
   .have e2:¬(Pos.slot u=Pos.slot s):=λe3=>e (by cases e3;rfl);simp only[look,SM e,SM e2,aW];have h1:=f.slots u;simp only[aW,look,SM e]at h1;refine az.frame hle (λ_ _=>rfl) (az.below ?_ h1);rcases bB eD (look st.t u)with G|⟨G,_⟩
    .rw[G];trivial
    .rw[G,m];exact ju U u
  .have W:=(SG.1 hy).1;obtain⟨M,T2,d1,d2,d3⟩:=f.blocks b ys (by show(L++_)[b]?=_;rw[SO W];exact hy);refine⟨M,T2,d1,d2,λk x hk=>⟨(d3 k x hk).1,?_⟩⟩;rw[SM (by intro e;cases e)];refine az.frame hle (λ_ _=>rfl) (az.below ?_ (d3 k x hk).2);rw[m];exact lj (ll T b ys hy) k x hk
  .split at hp
   .rename_i e;split at K
    .rename_i e';rw[e,e']
    .cases hp;exact absurd K (P q)
   .split at K
    .cases K;exact absurd hp (P p)
    .exact f.inj p q k hp K
  .split at hp
   .cases hp
    refine⟨H.1,H.2,(S5.1 b1).1,λb j e=>?_⟩;have ab:b<g.n:=j;have:=S0.μinj b g.n (by omega) (by omega) (by rw[y];exact e);omega
   .obtain⟨q1,q2,q3,q4⟩:=f.free p k hp;exact⟨q1,q2,q3,λb j=>q4 b (by rw[i];exact Wi j)⟩
 .by_cases e:s=u
  .subst e;simp only[look,UO];trivial
  .simp only[look,SM e,aW];rcases bB eD (look st.t u)with G|⟨G,S⟩
   .rw[G];trivial
   .rw[G];have D:(aa st (.slot s)).isOwn=true:=by show(look st.t s).isOwn=true;rw[O];rfl
    have h3:bX g (setPos st (.slot s) (.own nw 1 (aB all'))) a w (look st.t u) (a.tmps.getD u undef):=by
     refine bX.write (p:=.slot s) (sv':=.own nw 1 (aB all')) (λr hr=>cQ st _ r _ (Vq hr)) (cu D) D (λ_ _=>rfl) (λad e' Z V=>?_) (h.al u);cases V
     exact⟨nw,aB all,O,by unfold aB;simp[z]⟩
    refine bX.congrA (q:=eD) (λp hp J=>?_) S h3;cases p with
    |cell b k=>cases hp
    |slot v=>
     refine⟨?_,rfl⟩;simp only[aa,setPos,look]at J⊢;split
     .rfl
     .rename_i X;rw[SM X,aW]at J;rw[aW];exact d4 J
theorem bU.introB{P:Program}{st:St}{f:FuncId}{d:Option Tmp}{K:St->Prop}{c:Operand}{args:Array Operand}{q:List PV}{x:Operand}{xs:List Operand}{s lo hi:Nat}{nw:Bool}{all zs:List Int}{va:List PV}{R:Option Nat->List Int->List (List SV)->Prop}
 (F:look st.t s=.own nw 1 (aB all)) (ar:gc st c) (U:bC st c=some (f,[],q)) (ha:args.toList=x::xs) (hp:partOf st x=some (.slot s,lo,hi)) (hg:gc st x) (aM:lo<hi) (hz:(all.take hi).drop lo=zs)
 (hT:lh st.h.length st.t) (aw:nK st xs) (aG:jo st xs++q=va)
 (h : ∀ (pre ah : List Value) (cap : Nat), zs.length <= cap -> pre.length = lo -> ax P f (.bsl st.h.length 1 pre.length zs.length cap :: va) (st.h ++ [blk pre zs ah])
  (λr h'=>∃k e y,R k e y∧e.length=zs.length∧(∀m,k=some m->m<=zs.length)∧y.length=st.h.length∧dO st.h.length y∧r=NU st.h.length k pre.length cap∧h'=y++[blk pre e ah]))
 (hK:∀k e y,R k e y->e.length=zs.length->(∀m,k=some m->m<=zs.length)->K (Ff d k (.slot s) lo ⟨(s,.own nw 1 (aB (all.take lo++e++all.drop hi)))::aH eD st.t,y⟩)):bU P st c args d K:=by
 subst aG;intro o aO ho W g a w hs hd K' Q D;obtain⟨u,v,hx,hu,aF⟩:=eV hs ar U;have aE:u.toList=[]:=hu;obtain⟨aJ,A,rows1,av,j1,j2,q0,cap,jv,jc,jq,jz⟩:=m9 hs hg hp;have C:look st.t s=.own aJ A rows1:=av;rw[F]at C;cases C
 have l:(aB all).length=all.length:=by unfold aB;simp
 rw[l]at j2;obtain⟨bl,hb⟩:=hs.own;have Y:=hb.slots s;rw[F]at Y;rcases Y with⟨_,A,_⟩|⟨cc,ak,L,arr,T,vs,A,e2,e3,e4,e5,e6,e7⟩
 .rw[A]at l;simp at l;omega
 have aI:=bW e5;subst aI;obtain⟨rest,p⟩:=e6;rw[l]at A e4;have ay:q0=some ⟨cc,lo,none⟩:=by
  rcases jq with jq|⟨c1,n1,cp,h5,h6⟩
  .omega
  .have M:a.tmps.getD s undef=.slice (some ⟨c1,0,none⟩) n1 cp:=h5;rw[A]at M;cases M;rw[h6,Wr]
 subst ay;have H:zs.length=hi -lo:=by rw[←hz,TF,SU];omega
 have z:all=all.take lo++zs++all.drop hi:=by
  rw[←hz];have h8:all.take lo=(all.take hi).take lo:=by rw[XE,Ud (by omega)]
  rw[h8,TY,TY]
 have B:∀e:List Int,blk ((all.take lo).map (Value.int .i64)) e ((all.drop hi).map (Value.int .i64)++rest)=blk [] (all.take lo++e++all.drop hi) rest:=λe=>by
  unfold blk;simp only[TA,TT,UL,Tz,Tn];rfl
 have S:arr.toList.map (λv=>SV.pv (.lit v))=blk [] all rest:=by
  rw[←p];unfold blk;simp only[TA,TT,UL,Tz];rfl
 have S1:=hs.toBlk hb ak e2 e4.2.2 (xs:=blk [] all rest) S.symm;obtain⟨I,j⟩:∃I:Gh,I={g with n:=g.n+1,n0:=g.n+1,μ:=λb=>if b=g.n then cc else g.μ b}:=⟨_,rfl⟩;rw[←j]at S1;have hle:g.le I:=by subst j;exact⟨λ_ _ h=>h,SQ _,UX _,λb hb=>SM (by omega)⟩
 have ad:((all.take lo).map (Value.int .i64)).length=lo:=by rw[SZ,SU];omega
 obtain⟨i,hA⟩:=h ((all.take lo).map (Value.int .i64)) ((all.drop hi).map (Value.int .i64)++rest) cap (by omega) ad;rw[B,←z,ad,H]at hA;have X:aj I (.bsl st.h.length 1 lo (hi -lo) cap::(jo st xs++q)) (a.eval x::(xs.map a.eval++v.toList)):=by
  refine⟨_,_,rfl,⟨?_,jc,?_⟩,aj.append (aj.mono hle _ _ (ml hs xs aw)) (aj.mono hle _ _ aF)⟩
  .rw[j,hs.n];exact VG _
  .rw[jv,j,hs.n];simp
 have aA:(a.eval x::(xs.map a.eval++v.toList)).toArray=u++args.map a.eval++v:=by
  apply Ur;simp[aE,ha]
 have ae:(execOp a.eval o).run P w=.ok (.enter f (u++args.map a.eval++v)) w:=by
  unfold aD at i;split at i
  case h_2=>cases i
  rename_i fn aq;simp only[S4,TN]at i;simp only[execOp,ho,resolve,hx,Deferred.ofValue,invoke,callFunc,Sem.run_bind,Sem.run_pure,Result.andThen_ok,run_program,aq,i.1,i.2,TM,Uo]
 unfold Oper.wp;rw[ae,Oper.upon_enter,←aA];refine(hA I _ a w _ S1 rfl X).mono λe9 w' ⟨v9,r,h',g',he,⟨k,e,y,r1,r2,r3,r4,r5,r6,r7⟩,t',af⟩=>?_;subst he r6 r7;have E:=hK k e y r1 (by rw[H];exact r2) (by rw[H];exact r3);have S0:=af none trivial;have S0':Sim g' ⟨aH eD ((s,.pv .bot)::st.t),y++[blk [] (all.take lo++e++all.drop hi) rest]⟩ a w':=by
  rw[←B];exact S0
 have O:(all.take lo++e++all.drop hi).length=all.length:=by simp only[SX,SU,TF,r2];omega
 have aC:all.length+rest.length=L:=by
  have:arr.size=arr.toList.length:=(TI ..).symm;rw[←p]at this;simp only[SX,SZ]at this;omega
 obtain⟨f1,f2,f3⟩:=hs.fromBlk (all':=all.take lo++e++all.drop hi) F A ⟨e4.1,e4.2.1,aC⟩ e7 O j t' S0' r4 hT r5 rfl;cases d with
 |none=>rw[W];exact D _ _ _ _ E f1 f2
 |some d=>
  have V:d<g'.N:=by rw[t'.N,j];exact hd
  have an:cg I.N (some d):=by rw[j];exact hd
  have Sd:=af (some d) an;obtain⟨J,ai⟩:=Sd.own;have G:=ai.slots d;have ao:d<a.tmps.size:=by rw[hs.size];exact hd
  rw[eu ao,SN rfl]at G;rw[W];cases k with
  |none=>
   have h7:az g' w' (.pv (.tup [])) v9 (J (.slot d)):=by simpa[NU,iC,St.put,look]using G
   refine D _ _ _ _ E f1 (f2.put V ⟨rfl,h7.2⟩ trivial rfl)
  |some m=>
   have h7:az g' w' (.pv (.bsl st.h.length 1 lo m cap)) v9 (J (.slot d)):=by simpa[NU,iC,St.put,look]using G
   obtain⟨_,_,au,ag⟩:=h7;have hm:=r3 m rfl;refine D _ _ _ _ E f1 (f2.put V rfl ?_ rfl);intro aN aL aK ab;simp only[aa,look,UO]at ab;cases ab
   have Z:lo+m -lo=m:=by omega
   rw[←hs.n,f3]at ag;refine⟨by omega,by rw[show(aB (all.take lo++e++all.drop hi)).length=all.length by unfold aB;rw[SZ,O]];omega,_,_,by rw[Z];exact ag,by rw[Z];exact au,.inr ⟨cc,_,_,A,by rw[Wr]⟩,λh0=>?_⟩;exact jz h0
end Go.AX
namespace Go.AX
open Go.Proofs Go.Shelf
theorem gR(c:Nat):∀(vs:List Value)(o:Nat)(w:World)(arr:Array Value)(T:TypeId)(fz:Nat×Nat),w.heap[c]?=some (.cells arr T fz)->o+vs.length<=arr.size->
 (w.setCells c o vs).heap[c]?=some (.cells (arr.toList.take o++vs++arr.toList.drop (o+vs.length)).toArray T fz)∧(∀k,k≠c->(w.setCells c o vs).heap[k]?=w.heap[k]?)∧(w.setCells c o vs).heap.size=w.heap.size∧bT (w.setCells c o vs)=bT w
 |[],o,w,arr,T,fz,h,b=>by
  refine⟨?_,λ_ _=>rfl,rfl,rfl⟩;rw[World.setCells,h];simp
 |v::r,o,w,arr,T,fz,h,b=>by
  simp only[To]at b;have l:c<w.heap.size:=(S5.1 h).1;have h1:(w.setCell ⟨c,o,none⟩ v).heap[c]?=some (.cells (arr.setIfInBounds o v) T fz):=by
   show(w.heap.modify c _)[c]?=_;rw[Ut,SN rfl,h];simp
  have i:∀k,k≠c->(w.setCell ⟨c,o,none⟩ v).heap[k]?=w.heap[k]?:=λk hk=>by
   show(w.heap.modify c _)[k]?=_;rw[Ut,SM (Vq hk)]
  have j:(w.setCell ⟨c,o,none⟩ v).heap.size=w.heap.size:=by
   show(w.heap.modify c _).size=_;rw[UT]
  obtain⟨f,g2,g3,g⟩:=gR c r (o+1) (w.setCell ⟨c,o,none⟩ v) _ T fz h1 (by simp;omega);rw[World.setCells];refine⟨?_,λk hk=>(g2 k hk).trans (i k hk),g3.trans j,g.trans rfl⟩;rw[f];congr 2;simp only[Wj,To];have m:arr.toList.length=arr.size:=TI;have ho:o<arr.toList.length:=by omega
  have a:(arr.toList.take o).length=o:=by rw[SU];omega
  have d:(arr.toList.set o v).take (o+1)=arr.toList.take o++[v]:=by
   rw[VI,SN ho,List.take_append,a,Tm (by omega),U4];rfl
  have e:(arr.toList.set o v).drop (o+1+r.length)=arr.toList.drop (o+(r.length+1)):=by
   rw[V0 (by omega)];congr 1;omega
  rw[d,e];simp
theorem c9(l:List Int):(aB l).length=l.length:=by unfold aB;simp
theorem tQ{l:List Value}{xs:List Value}(h:xs<+:l){j:Nat}{v:Value}(hj:xs[j]?=some v):l[j]?=some v:=by
 obtain⟨r,rfl⟩:=h;rw[SO (SG.1 hj).1];exact hj
theorem bU.introI{P:Program}{ρ:Ren}(L:Lays2.n21 P ρ)(i:aD P (ρ.f 21)=true){st:St}{d:Option Tmp}{K:St->Prop}{cx:Operand}{args:Array Operand}{x0 k y:Operand}{ps py:Pos}{hi:Nat}{zs:List Int}{nw aY:Bool}{x:Int}
    (aI:gc st cx) (hcl:bC st cx=some (ρ.f 21,[],[])) (ha:args.toList=[x0,k,y]) (hp:partOf st x0=some (ps,0,hi)) (aH:gc st x0) (aJ:gc st k) (hk:mv st k=.pv (.lit (.int .i64 0))) (aK:gc st y) (hy:partOf st y=some (py,0,1))
    (W:aa st py=.own aY 1 (aB [x])) (aM:ps≠py) (G:aa st ps=.own nw 1 (aB zs)) (aN:hi<zs.length)
    (hK:K (Ff d (some (hi+1)) ps 0 (setPos st ps (.own nw 1 (aB (x::(zs.take hi++zs.drop (hi+1)))))))):bU P st cx args d K:=by
  intro o a5 ho r g a w h hd K' Q ab
  obtain⟨u,v,hx,hu,aR⟩:=eV h aI hcl
  have aQ:u=#[]:=Ur hu
  have aS:v=#[]:=Ur aR
  subst aQ aS
  obtain⟨bl,hb⟩:=h.own
  have m:(aa st ps).isOwn=true:=by rw[G];rfl
  have V:(aa st py).isOwn=true:=by rw[W];rfl
  -- the slice
  obtain⟨aX,e1,rows1,au,j1,j2,q0,cap,jv,jc,_,jz⟩:=m9 h aH hp
  rw[G]at au;cases au
  obtain⟨n0,ao⟩:=jz rfl
  have ah:=bm hb m
  rw[G]at ah
  rcases ah with⟨_,A,_⟩|⟨c,R,a0,arr,T,vs,f1,Y,f3,f4,f5,f6,f7⟩
  · have:=Vk List.length A
    rw[c9,List.length_nil]at this
    omega
  rw[f1]at ao
  cases ao
  have aT:=bW f5
  subst aT
  have U:(aB zs).length=zs.length:=by unfold aB;simp
  rw[U]at f4
  have a2:arr.toList.length=arr.size:=TI
  -- the number
  obtain⟨a4,e3,aZ,O,_,_,qy,p,aV,_,_,aW⟩:=m9 h aK hy
  rw[W]at O;cases O
  obtain⟨n1,aq⟩:=aW rfl
  have aj:=bm hb V
  rw[W]at aj
  rcases aj with⟨_,A,_⟩|⟨c2,ae,a1,Z,T2,a6,y1,y2,y3,y4,y5,y6,y7⟩
  · simp[aB]at A
  rw[y1]at aq
  cases aq
  have ay:=bW y5
  subst ay
  have aE:c2≠c:=λe=>aM (hb.inj ps py c R (e▸ae))
  -- the place
  have aL:a.eval k=.int .i64 0:=by
    obtain⟨hf,_⟩:=aO h k aJ
    rw[hk]at hf
    exact hf.2
  have ad:(#[]++args.map a.eval++#[])=#[.slice (some ⟨c,0,none⟩) (hi -0) cap,.int .i64 0,.slice (some ⟨c2,0,none⟩) 1 p]:=by
    apply Ur
    simp[ha,jv,aL,aV]
  have aw:(execOp a.eval o).run P w=.ok (.enter (ρ.f 21) (#[]++args.map a.eval++#[])) w:=by
    unfold aD at i
    split at i
    case h_2=>cases i
    rename_i fn aG
    simp only[S4,TN]at i
    simp only[execOp,ho,resolve,hx,Deferred.ofValue,invoke,callFunc,Sem.run_bind,Sem.run_pure,Result.andThen_ok,run_program,aG,i.1,i.2,TM,Uo]
  have I:cap<=9223372036854775807:=by have:=f4.2.1;unfold maxLen at this;omega
  have S:∀j v,((zs.take hi).map (Value.int .i64))[j]?=some v->w.cell? ⟨c,0+j,none⟩=some v:=λj v hj=>by
    rw[TP,cell_of Y,←SR]
    refine tQ f6 ?_
    rw[Tg]at hj⊢
    by_cases e:j<hi
    · rw[TR,SN e]at hj
      exact hj
    · rw[TR,SM e]at hj
      simp at hj
  have C:∀j,j<hi+1->(w.cell? ⟨c,0+j,none⟩).isSome=true:=λj hj=>by
    rw[TP,cell_of Y,Ta (by omega)];rfl
  have ai:∀j,w.frozen? ⟨c,j,none⟩=false:=λj=>by simp[World.frozen?,Y]
  have J:∀j,w.frozen? ⟨c2,j,none⟩=false:=λj=>by simp[World.frozen?,y2]
  have q:∀j v,([Value.int .i64 x]:List Value)[j]?=some v->w.cell? ⟨c2,0+j,none⟩=some v:=λj v hj=>by
    rw[TP,cell_of y2,←SR]
    exact tQ y6 (by simpa using hj)
  have M:∀v∈[Value.int .i64 x],v.oneCell'=true:=λv D=>by simp at D;subst D;rfl
  have B:∀v∈(zs.take hi).map (Value.int .i64),v.oneCell'=true:=λv D=>by
    obtain⟨z,_,rfl⟩:=SY.1 D
    rfl
  have H:((zs.take hi).map (Value.int .i64)).length=hi:=by simp;omega
  have E:Calls P (ρ.f 21) #[.slice (some ⟨c,0,none⟩) (hi -0) cap,.int .i64 0,.slice (some ⟨c2,0,none⟩) 1 p] w λe w'=>
      e=.returned (.slice (some ⟨c,0,none⟩) (hi+1) cap)∧w'.heap[c]?=some (.cells ((Value.int .i64 x::(zs.take hi).map (Value.int .i64))++arr.toList.drop (hi+1)).toArray T (0,0))∧(∀k,k≠c->w'.heap[k]?=w.heap[k]?)∧w'.heap.size=w.heap.size∧bT w'=bT w:=by
    rw[WP]
    by_cases hz:hi=0
    · subst hz
      refine(Any2.slices_Insert_int_end_room L c 0 0 cap c2 0 1 p [.int .i64 x] w (by omega) (by omega) I rfl (λj hj=>by simpa using C j (by omega)) (λj _=>ai _) q M).mono λe w' ⟨he,hw⟩=>?_
      obtain⟨s1,s2,s3,s4⟩:=gR c [.int .i64 x] 0 w arr T (0,0) Y (by simp;omega)
      subst hw
      refine⟨he,?_,s2,s3,s4⟩
      rw[s1]
      simp
    · refine(Any2.slices_Insert_int_shift L c 0 hi cap 0 c2 0 1 p ((zs.take hi).map (Value.int .i64)) [.int .i64 x] w (by omega) (by omega) (by omega) I aE H rfl S C (λj _=>ai _) q B M T2 T Z.size arr.size (by simp[World.shape?,y2]) (by simp[World.shape?,Y]) (by omega) (J _) (J _)).mono λe w' ⟨he,hw⟩=>?_
      have aA:w.drew.heap[c]?=some (.cells arr T (0,0)):=Y
      obtain⟨s1,s2,s3,s4⟩:=gR c ((zs.take hi).map (Value.int .i64)) 1 w.drew arr T (0,0) aA (by rw[H];omega)
      obtain⟨r1,r2,r3,r4⟩:=gR c [.int .i64 x] 0 _ _ T (0,0) s1 (by simp;omega)
      have aU:w'=(w.drew.setCells c 1 ((zs.take hi).map (Value.int .i64))).setCells c 0 [.int .i64 x]:=by simpa using hw
      rw[aU]
      refine⟨he,?_,λk hk=>(r2 k hk).trans (s2 k hk),r3.trans s3,r4.trans s4⟩
      rw[r1]
      have h1:(arr.toList.take 1).length=1:=by rw[SU];omega
      congr 3
      show List.take 0 (List.take 1 arr.toList++(zs.take hi).map (Value.int .i64)++List.drop (1+((zs.take hi).map (Value.int .i64)).length) arr.toList)++[Value.int .i64 x]++List.drop (0+[Value.int .i64 x].length) (List.take 1 arr.toList++(zs.take hi).map (Value.int .i64)++List.drop (1+((zs.take hi).map (Value.int .i64)).length) arr.toList)=_
      rw[H,Tn (List.take 1 arr.toList),WL,Tz,TZ,TP,WB h1,show 1+hi=hi+1 by omega]
      rfl
  unfold Oper.wp
  rw[aw,Oper.upon_enter,ad]
  refine E.mono λe9 w' ⟨he,F,t,aP,aF⟩=>?_
  subst he
  have l:(x::(zs.take hi++zs.drop (hi+1))).length=zs.length:=by simp;omega
  have ax:Sim g (setPos st ps (.own nw 1 (aB (x::(zs.take hi++zs.drop (hi+1)))))) a w':=by
    refine h.ownWrite hb m R aF aP t ?_ rfl ?_
    · right
      refine⟨c,rfl,cap,_,T,(x::(zs.take hi++zs.drop (hi+1))).map (Value.int .i64),?_,F,?_,?_,dP g _,?_,f7⟩
      · rw[f1,U,c9,l]
      · simp only[TW,SX,To,H,TF]
        omega
      · rw[c9,l]
        refine⟨f4.1,f4.2.1,?_⟩
        intro v D
        simp only[Ww,S7,Tp]at D
        rcases D with(rfl|D)|D
        · rfl
        · exact B v D
        · exact f4.2.2 v (UV D)
      · obtain⟨rest,X⟩:=f6
        refine⟨rest,?_⟩
        rw[←X]
        simp only[Th,TA,TH,Tn,Ww]
        congr 2
        rw[Un (by simp;omega),VY]
    · intro a3 e' rows1 hh
      cases hh
      exact⟨nw,aB zs,G,by rw[U,c9,l]⟩
  have af:cg g.N o.dst:=by rw[r];exact hd
  cases ag:d with
  |none=>
    rw[ag]at hK r
    rw[r]
    exact ab _ g _ w' hK h.refl_to ax
  |some dd=>
    rw[ag]at hK r
    rw[r]at af⊢
    refine ab _ g _ w' hK h.refl_to ?_
    refine ax.put af rfl ?_ rfl
    intro aX e1 rows1 ar
    have ak:aa (setPos st ps (.own nw 1 (aB (x::(zs.take hi++zs.drop (hi+1)))))) ps=.own nw 1 (aB (x::(zs.take hi++zs.drop (hi+1)))):=cu m
    rw[ak]at ar
    cases ar
    have av:an g a w' ps=an g a w ps:=by
      cases ps with
      |slot s=>rfl
      |cell b j=>
        simp only[aa]at m
        cases az:st.h[b]?with
        |none=>simp[List.getD,az,SV.isOwn]at m
        |some ys=>
          have aC:b<g.n:=by rw[h.n];exact(SG.1 az).1
          simp only[an];rw[t _ ((hb.free _ c R).2.2.2 b aC)]
    refine⟨Te _,by rw[c9,l];omega,some ⟨c,0,none⟩,cap,by rw[TP,WP],by omega,.inr ⟨c,_,cap,av.trans f1,by simp⟩,λ_=>⟨_,av.trans f1⟩⟩
def Sy(P:Program)(f:FuncId)(zs:List Int)(hi:Nat)(args:List PV)(b:List Int)(m:Nat):Prop:=
 aD P f=true∧∀(w:World)(c cap:Nat)(arr:Array Value)(T:TypeId)(a d:List Value),w.heap[c]?=some (.cells arr T (0,0))->arr.toList=zs.map (Value.int .i64)++a->zs.length<=cap->cap<=maxLen->aj (pd w c) args d->(∀v∈arr.toList,v.oneCell'=true)->
  Calls P f ((.slice (some ⟨c,0,none⟩) hi cap)::d).toArray w λe w'=>e=.returned (.slice (some ⟨c,0,none⟩) m cap)∧w'.heap[c]?=some (.cells (b.map (Value.int .i64)++a).toArray T (0,0))∧(∀k,k≠c->w'.heap[k]?=w.heap[k]?)∧w'.heap.size=w.heap.size∧bT w'=bT w
theorem bU.introW{P:Program}{st:St}{f:FuncId}{d:Option Tmp}{K:St->Prop}{cx:Operand}{args:Array Operand}{x0:Operand}{xs:List Operand}{ps:Pos}{hi m:Nat}{zs l:List Int}{nw:Bool}{q va:List PV}
 (hA:Sy P f zs hi va l m) (U:l.length=zs.length) (hm:m<=zs.length) (h0:zs≠[]) (ar:gc st cx) (hcl:bC st cx=some (f,[],q)) (ha:args.toList=x0::xs) (hp:partOf st x0=some (ps,0,hi)) (aq:gc st x0)
 (A:aa st ps=.own nw 1 (aB zs)) (C:jQ (setPos st ps (.pv .bot)) xs) (ax:A4 3 (setPos st ps (.pv .bot)) xs++eC (aZ (setPos st ps (.pv .bot)).h 3) q=va)
 (hK:K (Ff d (some m) ps 0 (setPos st ps (.own nw 1 (aB l))))):bU P st cx args d K:=by
 intro o aG ho p g a w h hd K' Q H;obtain⟨u,v,hx,hu,aw⟩:=eV h ar hcl;have av:u.toList=[]:=hu;obtain⟨bl,hb⟩:=h.own;have i:(aa st ps).isOwn=true:=by rw[A];rfl
 obtain⟨az,e1,rows1,Y,j1,j2,q0,cap,jv,jc,_,jz⟩:=m9 h aq hp;rw[A]at Y;cases Y;obtain⟨n0,V⟩:=jz rfl;have R:=bm hb i;rw[A]at R;rcases R with⟨_,W,_⟩|⟨c,D,aA,arr,T,vs,f1,f2,f3,B,f5,f6,f7⟩
 .exfalso;apply h0;cases zs with
  |nil=>rfl
  |cons _ _=>simp[aB]at W
 rw[f1]at V;cases V
 have ay:=bW f5;subst ay;have F:=c9 zs;rw[F]at B;obtain⟨af,t⟩:=f6;obtain⟨s0,aC,ah,_,_,E⟩:=h.drop hb ps;have G:Sim g (setPos st ps (.pv .bot)) a (qu w c):=s0.turn ah (E c D) rfl (by simp[qu]) (λk hk=>lg w hk);have O:aj (pd w c) va (xs.map a.eval++v.toList):=by
  rw[←ax];refine aj.monoC (yz w c) _ _ (.inl (Te _)) (.inl rfl) ?_;refine aj.append ?_ (aj.frz G.I (k8 G 3) _ _ aw);rw[ow];exact qw G 3 xs C
 have J:(a.eval x0::(xs.map a.eval++v.toList)).toArray=u++args.map a.eval++v:=by
  apply Ur;simp[av,ha]
 obtain⟨e,x⟩:=hA;have ab:(execOp a.eval o).run P w=.ok (.enter f (u++args.map a.eval++v)) w:=by
  unfold aD at e;split at e
  case h_2=>cases e
  rename_i fn ao;simp only[S4,TN]at e;simp only[execOp,ho,resolve,hx,Deferred.ofValue,invoke,callFunc,Sem.run_bind,Sem.run_pure,Result.andThen_ok,run_program,ao,e.1,e.2,TM,Uo]
 have hc:=x w c cap arr T af _ f2 t.symm B.1 B.2.1 O B.2.2;unfold Oper.wp;rw[ab,Oper.upon_enter,←J,jv,WP];refine hc.mono λe9 w' ⟨he,y,r,au,ak⟩=>?_;subst he;have ad:Sim g (setPos st ps (.own nw 1 (aB l))) a w':=by
  refine h.ownWrite hb i D ak au r ?_ rfl ?_
  .right;refine⟨c,rfl,cap,_,T,l.map (Value.int .i64),?_,y,?_,?_,dP g _,⟨af,by simp⟩,f7⟩
   .rw[f1,F,c9,U]
   .have ag:arr.size=arr.toList.length:=TI.symm;rw[←f3,ag,←t];simp[U]
   .rw[c9,U];refine⟨B.1,B.2.1,?_⟩;intro v C;simp only[Ww,S7]at C;rcases C with C|C
    .obtain⟨z,_,rfl⟩:=SY.1 C;rfl
    .exact B.2.2 v (by rw[←t];exact UY _ C)
  .intro aF e' rows1 hh;cases hh
   exact⟨nw,aB zs,A,by rw[F,c9,U]⟩
 have L:cg g.N o.dst:=by rw[p];exact hd
 cases M:d with
 |none=>
  rw[M]at hK p;rw[p];exact H _ g _ w' hK h.refl_to ad
 |some dd=>
  rw[M]at hK p;rw[p]at L⊢;refine H _ g _ w' hK h.refl_to ?_;refine ad.put L rfl ?_ rfl;intro az e1 rows1 X;have S:aa (setPos st ps (.own nw 1 (aB l))) ps=.own nw 1 (aB l):=cu i;rw[S]at X;cases X
  have Z:an g a w' ps=an g a w ps:=by
   cases ps with
   |slot s=>rfl
   |cell b j=>
    simp only[aa]at i;cases ae:st.h[b]?with
    |none=>simp[List.getD,ae,SV.isOwn]at i
    |some ys=>
     have ai:b<g.n:=by rw[h.n];exact(SG.1 ae).1
     simp only[an];rw[r _ ((hb.free _ c D).2.2.2 b ai)]
  have aE:m<=cap:=by have:=B.1;omega
  refine⟨Te _,by rw[c9,U];omega,some ⟨c,0,none⟩,cap,by rw[TP,WP],by omega,.inr ⟨c,_,cap,Z.trans f1,by simp⟩,λ_=>⟨_,Z.trans f1⟩⟩
end Go.AX
namespace Go.AX
theorem Sim.rows{g:Gh}{st:St}{a:Act}{w:World}(h:Sim g st a w){b k e:Nat}{nw:Bool}{rows rows':List (List PV)}{xs:List SV}(hx:st.h[b]?=some xs)(hk:xs[k]?=some (.own nw e rows))(hr:tw rows rows'):Sim g ⟨st.t,st.h.set b (xs.set k (.own nw e rows'))⟩ a w:=by
  obtain⟨bl,ho⟩:=h.own
  have hlen:=pM hr
  obtain⟨hbl,hbe⟩:=SG.1 hx
  obtain⟨hkl,hke⟩:=SG.1 hk
  have hp:∀p,aa ⟨st.t,st.h.set b (xs.set k (.own nw e rows'))⟩ p=aa st p∨(aa st p=.own nw e rows∧aa ⟨st.t,st.h.set b (xs.set k (.own nw e rows'))⟩ p=.own nw e rows'):=by
    intro p
    cases p with
    |slot s=>exact .inl rfl
    |cell b' k'=>
      simp only[aa,SI]
      by_cases cb:b'=b
      · subst cb
        rw[Tu hbl,hx]
        simp only[Tx]
        by_cases ck:k'=k
        · subst ck
          rw[Tu hkl,hk]
          exact .inr ⟨rfl,rfl⟩
        · rw[Tc (Vq ck)]
          exact .inl rfl
      · rw[Tc (Vq cb)]
        exact .inl rfl
  have hal:∀{sv:SV}{v:Value},bX g st a w sv v->bX g ⟨st.t,st.h.set b (xs.set k (.own nw e rows'))⟩ a w sv v:=by
    intro sv
    induction sv with
    |al p=>
      intro v hv ho'
      rcases hp p with e1|⟨e1,_⟩
      · rw[e1]at ho';exact hv ho'
      · exact hv (by rw[e1];rfl)
    |loc p lo hi=>
      intro v hv nw1 e1 rows1 he
      rcases hp p with e2|⟨e2,e3⟩
      · exact hv _ _ _ (by rw[←e2];exact he)
      · rw[e3]at he;cases he;rw[←hlen];exact hv _ _ _ e2
    |sptr p i k=>
      intro v hv nw1 e1 rows1 he
      rcases hp p with e2|⟨e2,e3⟩
      · exact hv _ _ _ (by rw[←e2];exact he)
      · rw[e3]at he;cases he;exact hv _ _ _ e2
    |agl xs=>
      intro v hv k x p hk' ho'
      refine hv k x p hk' ?_
      rcases hp p with e1|⟨e1,_⟩
      · rw[e1]at ho';exact ho'
      · rw[e1];rfl
    |opt c x ih=>intro v hv hc;exact ih (hv hc)
    |_=>intro v _;trivial
  refine { size := h.size, defs := h.defs, env := h.env, n := by rw [h.n]; exact (Ti ..).symm, n0 := h.n0, B := h.B, I := h.I, F := h.F, μI := h.μI, μinj := h.μinj,
           own:=⟨bl,{slots:=ho.slots,blocks:=λb' xs' hx'=>?_,inj:=ho.inj,free:=ho.free}⟩,al:=λs=>hal (h.al s)}
  by_cases cb:b'=b
  · subst cb
    have hx':(st.h.set b' (xs.set k (.own nw e rows')))[b']?=some xs':=hx'
    rw[Tu hbl]at hx'
    cases hx'
    obtain⟨arr,T,e1,e2,e3⟩:=ho.blocks b' xs hx
    refine⟨arr,T,e1,⟨by rw[Ti];exact e2.1,e2.2⟩,λk' x hk'=>?_⟩
    by_cases ck:k'=k
    · subst ck
      rw[Tu hkl]at hk'
      cases hk'
      obtain⟨_,c2⟩:=e3 k' _ hk
      refine⟨rfl,?_⟩
      rcases c2 with⟨q1,q2,q3⟩|⟨c,e1,cap,arr,T,vs,a1,a2,a3,a4,a5,a6,a7⟩
      · subst q2
        cases rows' with
        |nil=>exact .inl ⟨q1,rfl,q3⟩
        |cons _ _=>exact hr.elim
      · exact .inr ⟨c,e1,cap,arr,T,vs,by rw[←hlen];exact a1,a2,a3,by rw[←hlen];exact a4,av.wk hr a5,a6,a7⟩
    · rw[Tc (Vq ck)]at hk'
      exact e3 k' x hk'
  · have hx':(st.h.set b (xs.set k (.own nw e rows')))[b']?=some xs':=hx'
    rw[Tc (Vq cb)]at hx'
    exact ho.blocks b' xs' hx'
theorem ai.rows{k0:Nat}{st:St}{b k e:Nat}{nw:Bool}{rows a:List (List PV)}{xs:List SV}(hx:st.h[b]?=some xs)(hk:xs[k]?=some (.own nw e rows))(c:tw rows a):ai k0 st ⟨st.t,st.h.set b (xs.set k (.own nw e a))⟩:=λg _ _ _ hs=>
 ⟨g,hs.refl_to,hs.rows hx hk c⟩
end Go.AX