/-
  AX, part Pu: a call that leaves all as it was, and whose result is plain, changes nothing.
  AX, part BL: a function that is walked with a part of a block writes a slice of the caller's own in place.
  AX, part La: the last block but one is forgotten.
  AX, part XD: a call that leaves certain blocks; its own are let go.
  AX, part Be: what names blocks below a number only.
  AX, part BM: a call is handed a slice of numbers of the caller's own, which it writes, and blocks of the caller's turn, too.
  AX, part IS: slices.Insert of one number at the front of a part of a slice that has room, from the library's contract: in place.
-/
import Derived.Test.YtepodadinenmnaaGreatAxXW
import Derived.Test.YtepodadinenmnaaGreatAxR
import Derived.Shelf.Spec.SlicesInsert
namespace Go.AX
theorem aB.pure{P:Program}{f:FuncId}{args:List PV}{R:SV->Prop}(g:aB P f args [] (λr _=>∃x,r=.pv x∧R (.pv x))):am P f args R:=by
 refine⟨g.1,λw vs h=>?_⟩;have hs:=uW (N:=args.length+1) h (TF _);refine(g.2 _ _ _ _ vs hs rfl (uV h)).mono λe w' ⟨v,r,h',g',l,⟨x,n,i⟩,o,hd⟩=>?_;subst n;have d:args.length<(lh w (args.length+1)).N:=UE _;have s':=hd (some args.length) d;obtain⟨bl,j⟩:=s'.own;have a:=j.slots args.length;have b:args.length<(vs.toArray++Array.replicate (args.length+1 -vs.toArray.size) undef).size:=by
  rw[hs.size];exact d
 rw[fW b,RI rfl]at a;have m:look (ja (some args.length) (.pv x) ⟨aF eK (fX 0 args),h'⟩).t args.length=.pv x:=by
  simp[ja,look,St.put]
 rw[m]at a;exact⟨v,.pv x,g',none,l,i,iF o s',⟨rfl,a.2⟩,rfl,λc k=>by cases k⟩
def dW(st:St):List Operand->List PV->Prop
 |[],zs=>zs=[]
 |a::xs,zs=>∃z r,zs=z::r∧gc st a∧mv st a=.pv z∧dW st xs r
theorem u7{st:St}{g:Gh}{a:Act}{w:World}(h:Sim g st a w):∀{xs:List Operand}{zs:List PV},dW st xs zs->ak g zs (xs.map a.eval)
 |[],zs,e=>by
  have:zs=[]:=e;subst this;rfl
 |x::xs,zs,⟨z,r,hz,c,d,f⟩=>by
  subst hz;obtain⟨b,_⟩:=aN h x c;rw[d]at b;exact⟨_,_,rfl,b.2,u7 h f⟩
theorem sI{g:Gh}:∀{xs ys:List PV}{a vs:List Value},ak g xs a->ak g ys vs->ak g (xs++ys) (a++vs)
 |[],ys,a,vs,h,k=>by
  have:a=[]:=h;subst this;exact k
 |x::xs,ys,a,vs,⟨v,r,h1,b,c⟩,k=>by
  subst h1;exact⟨v,r++vs,rfl,b,sI c k⟩
theorem bC.pureM{P:Program}{st:St}{x:Operand}{args:Array Operand}{d:Nat}{K:St->Prop}{f:FuncId}{p q zs:List PV}{y:PV}(hA:aB P f (p++(zs++q)) [] (λr _=>r=.pv y))
    (hg:gc st x) (hc:bB st x=some (f,p,q)) (ha:dW st args.toList zs) (hb:bO 0 (p++(zs++q))) (hy:y.bel 0)
    (hK:K (st.put d (.pv y))):bC P st x args (some d) K:=by
  intro o tys ho hdd g a w h hd K' Q hfin
  obtain⟨hcall,hA⟩:=hA
  obtain⟨u,v,hu,hv,hrun⟩:=od h o x args tys f p q ho hg hc hcall
  have hfit:ak g (p++(zs++q)) (u.toList++(args.toList.map a.eval++v.toList)):=sI hu (sI (u7 h ha) hv)
  generalize hpa:p++(zs++q)=pa at*
  generalize hvs:u.toList++(args.toList.map a.eval++v.toList)=vs at*
  let g0:Gh:={g with F:=λc=>if g.I c=none then w.heap[c]?else none,n:=0,n0:=0,N:=pa.length+1,env:=bU w}
  have hle0:Gh.le {g with n:=0} g0:=⟨λ_ _ h=>h,RJ _,RJ _,λ_ h=>absurd h (T5 _)⟩
  have hfit0:ak g0 pa vs:=ak.mono hle0 _ _ (ak.below pa vs hb hfit)
  have hl:=hfit0.length
  have hgd:∀s,(vs.toArray++Array.replicate (pa.length+1 -vs.toArray.size) undef).getD s undef=vs.getD s undef:=by
    intro s
    simp only[RX,RG,UZ,SP,Vz,Ts]
    split
    · rfl
    · rename_i hs
      rw[SB (by omega)]
      split<;>rfl
  have hs0:Sim g0 ⟨fX 0 pa,[]⟩ {tmps:=vs.toArray++Array.replicate (pa.length+1 -vs.toArray.size) undef,defers:=[]} w:=by
    refine { size := ?_, defs := rfl, env := rfl, n := rfl, n0 := RJ _, B := h.B, I := h.I, F := λ c o hc => ?_, μI := λ b hb => absurd hb (T5 _), μinj := λ b b' hb => absurd hb (T5 _),
             own:=⟨λ_=>none,?_⟩,al:=λs=>?_}
    · show(vs.toArray++Array.replicate (pa.length+1 -vs.toArray.size) undef).size=pa.length+1
      simp;omega
    · change(if g.I c=none then w.heap[c]?else none)=some o at hc
      split at hc
      · exact hc
      · cases hc
    · refine{slots:=λs=>?_,blocks:=λb xs hx=>(by simp at hx),inj:=λp q c hp=>(by cases hp),free:=λp c hp=>by cases hp}
      show aA _ w _ ((vs.toArray++Array.replicate (pa.length+1 -vs.toArray.size) undef).getD s undef) none
      rw[hgd]
      have:=jP g0 pa vs 0 s hfit0 w
      simpa using this
    · obtain⟨x,hx⟩:=lg pa 0 s
      simp only[hx];trivial
  unfold Oper.wp
  rw[hrun,Oper.upon_enter]
  refine(hA g0 _ _ w vs hs0 rfl hfit0).mono λe w' ⟨v',r,h',g',he,hr,t',hdx⟩=>?_
  subst he;subst hr
  have hN:pa.length<g0.N:=UE _
  have s':=hdx (some pa.length) hN
  obtain⟨bl,hbo⟩:=s'.own
  have hf:=hbo.slots pa.length
  have hsz:pa.length<(vs.toArray++Array.replicate (pa.length+1 -vs.toArray.size) undef).size:=by
    rw[hs0.size];exact hN
  rw[fW hsz,RI rfl]at hf
  have hlk:look (ja (some pa.length) (.pv y) ⟨aF eK (fX 0 pa),h'⟩).t pa.length=.pv y:=by
    simp[ja,look,St.put]
  rw[hlk]at hf
  have hkeep:∀c,c<w.heap.size->w'.heap[c]?=w.heap[c]?:=λc hc=>by
    have hx:w.heap[c]?=some w.heap[c]:=R1 hc
    cases hI:g.I c with
    |some o=>rw[s'.I c o (t'.I c o hI),h.I c o hI]
    |none=>
      have hF:g'.F c=some w.heap[c]:=by
        rw[t'.F]
        show(if g.I c=none then w.heap[c]?else none)=_
        rw[RI hI,hx]
      rw[s'.F c _ hF,hx]
  have hsize:w.heap.size<=w'.heap.size:=by
    cases hsz2:w.heap.size with
    |zero=>exact RW _
    |succ n=>
      have h1:=hkeep n (by omega)
      rw[R1 (show n<w.heap.size by omega)]at h1
      have:=(RV.1 h1).1
      omega
  have henv:bU w'=bU w:=s'.env.trans t'.env
  obtain⟨h1,h2,h3⟩:=h.grown henv hsize hkeep g'.I s'.I
  have hfy:Fit {g with I:=λc=>if w.heap.size<=c then g'.I c else g.I c} y v':=by
    refine Fit.mono ?_ _ _ (Fit.below y v' hy hf.2)
    refine⟨λc o hc=>?_,?_,RW _,λ_ hb=>absurd hb (T5 _)⟩
    · show(if w.heap.size<=c then g'.I c else g.I c)=some o
      have hc':g'.I c=some o:=hc
      split
      · exact hc'
      · rename_i hlt
        cases hI:g.I c with
        |some o2=>rw[t'.I c o2 hI]at hc';exact hc'
        |none=>
          have hx:w.heap[c]?=some (w.heap[c]'(by omega)):=R1 (by omega)
          have:=t'.FI c (by show(if g.I c=none then w.heap[c]?else none)≠none;rw[RI hI,hx];simp) hI
          rw[this]at hc';cases hc'
    · show g.B<=g'.B
      rw[t'.B]
      exact RJ _
  rw[hdd]
  have hd':d<g.N:=hd
  exact hfin _ _ _ _ hK h2 (h1.put hd' ⟨rfl,hfy⟩ trivial rfl)
end Go.AX
namespace Go.AX
def blk(pre:List Value)(zs:List Int)(a:List Value):List SV:=pre.map (λv=>.pv (.lit v))++(zs.map (λz=>.pv (.lit (.int .i64 z)))++a.map λv=>.pv (.lit v))
theorem eP(pre:List Value)(zs:List Int)(a:List Value):(blk pre zs a).length=pre.length+zs.length+a.length:=by
 unfold blk;simp only[RP,RR];omega
theorem ll(pre:List Value)(zs:List Int)(a:List Value){i:Nat}(h:i<zs.length):(blk pre zs a)[pre.length+i]?=some (.pv (.lit (.int .i64 zs[i]))):=by
 unfold blk;rw[R5 (by simp),RR,Ud,RL (by simpa using h),R3,RF h];rfl
theorem sJ(pre:List Value)(zs:List Int)(a:List Value){i:Nat}{ys:List Int}(h:i+ys.length<=zs.length):
 List.take (pre.length+i) (blk pre zs a)++(ys.map (λz=>SV.pv (.lit (.int .i64 z)))++List.drop (pre.length+i+ys.length) (blk pre zs a))=blk pre (zs.take i++ys++zs.drop (i+ys.length)) a:=by
 unfold blk;have b:pre.length=(pre.map (λv=>SV.pv (PV.lit v))).length:=by simp
 rw[show List.take (pre.length+i) (pre.map (λv=>SV.pv (PV.lit v))++(zs.map (λz=>SV.pv (.lit (.int .i64 z)))++a.map λv=>.pv (.lit v)))=pre.map (λv=>SV.pv (PV.lit v))++(zs.map (λz=>SV.pv (.lit (.int .i64 z)))).take i by
  rw[b,VM];congr 1;rw[TM (by simp;omega)],
  show List.drop (pre.length+i+ys.length) (pre.map (λv=>SV.pv (PV.lit v))++(zs.map (λz=>SV.pv (.lit (.int .i64 z)))++a.map λv=>.pv (.lit v)))=(zs.map (λz=>SV.pv (.lit (.int .i64 z)))).drop (i+ys.length)++a.map λv=>.pv (.lit v) by
   rw[T7,b,VN,SU (by simp;omega)]]
 simp only[Sb,TR,U1,Si]
theorem wT(pre:List Value)(zs:List Int)(a:List Value){i:Nat}(y:Int)(h:i<zs.length):
 List.take (pre.length+i) (blk pre zs a)++SV.pv (.lit (.int .i64 y))::List.drop (pre.length+i+1) (blk pre zs a)=blk pre (zs.set i y) a:=by
 have:=sJ pre zs a (i:=i) (ys:=[y]) (by simp;omega);simp only[R4,Ua,S9,Sq,Sj]at this;rw[this];congr 1;rw[Vo,RI h];simp
theorem Hq(pre:List Value)(zs:List Int)(a:List Value)(t:List (List SV))(n:Nat):ui (bG (blk pre zs a::t) (n+1) 0 pre.length) 1 zs.length=.seq false 1 (zs.map λz=>[.lit (.int .i64 z)]):=by
 have b:=eP pre zs a;have e:(blk pre zs a::t).getD 0 []=blk pre zs a:=rfl;simp only[bG,ui,e,RR];rw[RI ⟨trivial,by omega⟩];congr 1;unfold blk;simp only[Sb,SJ];rw[VL (by simp),TU (by simp),SJ];rfl
theorem fM(k:Nat)(pre:List Value)(zs:List Int)(a:List Value):cX k (blk pre zs a):=by
 refine qc λx hx=>?_;unfold blk at hx;simp only[RS,RO]at hx;rcases hx with⟨_,_,rfl⟩|⟨_,_,rfl⟩|⟨_,_,rfl⟩<;>trivial
theorem sK(pre:List Value)(zs:List Int)(a:List Value){i n:Nat}(y:Int)(h:i+n<=zs.length):
 List.take (pre.length+i) (blk pre zs a)++(List.replicate n (SV.pv (.lit (.int .i64 y)))++List.drop (pre.length+i+n) (blk pre zs a))=blk pre (zs.take i++List.replicate n y++zs.drop (i+n)) a:=by
 have:=sJ pre zs a (i:=i) (ys:=List.replicate n y) (by simpa using h);simpa only[Us,Up]using this
theorem sL{g:Gh}{w:World}{arr:Array Value}{bl:Nat->Option Nat}{vs:List Value}(hs:arr.size=vs.length)(h:∀k x,(vs.map (λv=>SV.pv (.lit v)))[k]?=some x->aA g w x (arr.getD k undef) (bl k)):arr=vs.toArray:=by
 apply Array.ext
 .simpa using hs
 .intro i h1 b;have:=h i (.pv (.lit (vs[i]'(by omega)))) (by rw[R3,RF (by omega)];rfl);have a:arr.getD i undef=vs[i]'(by omega):=this.2;simpa[Array.getD,h1]using a
def aD(zs:List Int):List (List PV):=zs.map λz=>[.lit (.int .i64 z)]
theorem dX(G:Gh):∀zs:List Int,ay G 1 (aD zs) (zs.map (Value.int .i64))
 |[]=>rfl
 |z::zs=>⟨[.int .i64 z],zs.map (Value.int .i64),rfl,⟨rfl,λv a=>by simp at a;subst a;rfl⟩,⟨_,_,rfl,rfl,rfl⟩,dX G zs⟩
theorem bT{G:Gh}:∀{zs:List Int}{vs:List Value},ay G 1 (aD zs) vs->vs=zs.map (Value.int .i64)
 |[],_,h=>h
 |z::zs,_,⟨g,i,h1,_,c,d⟩=>by
  obtain⟨v,r,rfl,e,f⟩:=c;have a:v=.int .i64 z:=e;have b:r=[]:=f;subst a b;rw[h1,bT d];rfl
def Rg(k:Option Nat)(off cap:Nat):SV:=match k with
 |none=>.pv (.tup [])
 |some m=>.pv (.bsl 0 1 off m cap)
def Rh(k:Option Nat)(p:Option Addr)(cap:Nat):SV:=match k with
 |none=>.pv (.tup [])
 |some m=>.pv (.lit (.slice p m cap))
theorem wx.ofInts{P:Program}{f:FuncId}{zs:List Int}{args:List PV}{R:Option Nat->List (List PV)->Prop}(hc:aG P f=true)(ho:q7 args)(V:bO 0 args)
 (h : zs ≠ [] -> ∀ (pre a : List Value) (cap : Nat), zs.length <= cap -> zs.length <= maxLen -> aB P f (.bsl 0 1 pre.length zs.length cap :: args) [blk pre zs a]
  (λr h'=>∃k d,R k (aD d)∧d.length=zs.length∧(∀m,k=some m->m<=zs.length)∧r=Rg k pre.length cap∧h'=[blk pre d a]))
 (h0:zs=[]->∀(p:Option Addr)(cap:Nat),am P f (.lit (.slice p 0 cap)::args) (λr=>∃k,R k []∧(k=none∨k=some 0)∧r=Rh k p cap)):
 wx P f 1 (aD zs) args R:=by
 refine⟨hc,λY w c cap arr T pre vs a us h1 h2 Q h4 h5 h6 D=>?_,λE w p cap us h1=>?_⟩
 .have hz:zs≠[]:=λe=>Y (by rw[e];rfl);have H:(aD zs).length=zs.length:=by unfold aD;simp
  have ab:=bT h5;subst ab;rw[H]at Q h4⊢;have ad:c<w.heap.size:=(RV.1 h1).1;obtain⟨G,l⟩:∃G:Gh,G={I:=λk=>if k=c then none else w.heap[k]?,F:=λ_=>none,B:=0,μ:=λ_=>c,n:=1,n0:=1,N:=1,env:=bU w}:=⟨_,rfl⟩;have K:Sim G ⟨[],[blk pre zs a]⟩ ⟨#[undef],[]⟩ w:=by
   subst l;refine{size:=rfl,defs:=rfl,env:=rfl,n:=rfl,n0:=RJ _,B:=RW _,I:=λk o hk=>?_,F:=λk o hk=>(by cases hk),μI:=λb V=>⟨by simp,rfl⟩,μinj:=λb b' V g _=>?_,own:=⟨λ_=>none,?_⟩,al:=λs=>trivial}
   .by_cases e:k=c
    .subst e;simp at hk
    .simpa[e]using hk
   .dsimp only at V g;omega
   .refine{slots:=λs=>⟨rfl,trivial⟩,blocks:=λb xs hx=>?_,inj:=λp q k hk=>(by cases hk),free:=λp k hk=>(by cases hk)};cases b with
    |succ b=>simp at hx
    |zero=>
     simp only[SC,Sr]at hx;subst hx;have aa:arr.size=(blk pre zs a).length:=by rw[eP,←Sy,h2];simp only[RP,RR]
     refine⟨arr,T,h1,⟨aa,D⟩,λk x hk=>?_⟩;have t:blk pre zs a=arr.toList.map (λv=>.pv (.lit v)):=by
      rw[h2];unfold blk;simp only[Sb,SJ,Si];rfl
     rw[t,R3]at hk;cases A:arr.toList[k]?with
     |none=>rw[A]at hk;cases hk
     |some u=>
      rw[A]at hk;simp only[SH,Sr]at hk;subst hk;refine⟨rfl,rfl,?_⟩;show arr.getD k undef=u;have:arr[k]?=some u:=by rw[←RM];exact A
      rw[RX,this];rfl
  have i:ak G (.bsl 0 1 pre.length zs.length cap::args) (.slice (some ⟨c,pre.length,none⟩) zs.length cap::us):=by
   refine⟨_,_,rfl,?_,?_⟩
   .subst l;exact⟨Wf,Q,rfl⟩
   .refine ak.monoC ⟨λk arr' T' fz hk=>?_,λk en ck hk=>?_⟩ _ _ (.inr ho) (.inl rfl) h6
    .obtain⟨M,O⟩:=Mv hk;subst l;simpa[M]using O
    .obtain⟨M,O⟩:=Mw hk;subst l;simpa[M]using O
  refine((h hz pre a cap Q h4).2 G _ _ w _ K rfl i).mono λe w' ⟨v,r,h',g',E,⟨k,d,r1,r2,r3,r4,r5⟩,t',Z⟩=>?_;subst r4 r5;have C:=Z (some 0) (by subst l;exact Wf);have hμ:g'.μ 0=c:=by rw[t'.μ 0 (by subst l;exact Wf)];subst l;rfl
  obtain⟨bl,g⟩:=C.own;have j:∀k,k<w.heap.size->k≠c->w'.heap[k]?=w.heap[k]?:=λk hk X=>by
   have hI:G.I k=some w.heap[k]:=by subst l;simp[X]
   rw[C.I _ _ (t'.I _ _ hI),R1 hk]
  refine⟨k,aD d,d.map (Value.int .i64),r1,by unfold aD;simpa using r2,r3,?_,?_,?_,j,?_,λG _=>dX G d⟩
  .rw[E];have h0:=g.slots 0;cases k with
   |none=>
    have y:aA g' w' (.pv (.tup [])) v (bl (.slot 0)):=h0;obtain⟨_,vs,rfl,S⟩:=y;have z:vs.toList=[]:=S;have:vs=#[]:=TO z;rw[this]
   |some m=>
    have y:aA g' w' (.pv (.bsl 0 1 pre.length m cap)) v (bl (.slot 0)):=h0;obtain⟨_,_,_,rfl⟩:=y;rw[hμ]
  .rw[C.env,t'.env];subst l;rfl
  .apply Tt;intro J;have W:w'.heap[c]?≠none:=by
    obtain⟨arr',T',b1,_⟩:=g.blocks 0 (blk pre d a) (by cases k<;>rfl);rw[hμ]at b1;rw[b1];simp
   have L:w'.heap[w'.heap.size]?=none:=by simp
   by_cases e:w'.heap.size=c
   .rw[e]at L;exact W L
   .rw[j _ J e,R1 J]at L;cases L
  .obtain⟨arr',T',b1,⟨b2,_⟩,b3⟩:=g.blocks 0 (blk pre d a) (by cases k<;>rfl);rw[hμ]at b1;refine⟨T',?_⟩;rw[b1];have t:blk pre d a=(pre++d.map (Value.int .i64)++a).map (λv=>.pv (.lit v)):=by
    unfold blk;simp only[Sb,SJ,Si];rfl
   rw[t,RR]at b2;rw[sL (bl:=λk=>bl (.cell 0 k)) b2 λk x hk=>(b3 k x (by rw[t];exact hk)).2]
 .have hz:zs=[]:=by
   cases zs with
   |nil=>rfl
   |cons _ _=>unfold aD at E;cases E
  subst hz;have i:ak (dN w) (.lit (.slice p 0 cap)::args) (.slice p 0 cap::us):=⟨_,_,rfl,rfl,h1⟩;refine((h0 rfl p cap).2 w _ i).mono λe w' ⟨v,r,g',o,E,⟨k,r1,r2,r3⟩,U,hF,_,_⟩=>?_;subst r3;refine⟨k,r1,r2,?_,U.env,U.size,λk hk=>U.keep k hk⟩;rw[E];cases k with
  |none=>
   have y:aA g' w' (.pv (.tup [])) v o:=hF;obtain⟨_,vs,rfl,S⟩:=y;have z:vs.toList=[]:=S;have:vs=#[]:=TO z;rw[this]
  |some m=>
   have y:v=.slice p m cap:=hF.2;rw[y]
end Go.AX
namespace Go.AX
theorem am.own0{P:Program}{f:FuncId}{args:List PV}{R R':SV->Prop}(h:am P f args R)(j:∀r,R r->R' r∨(r=.pv (.lit (.slice none 0 0))∧∃nw e,R' (.own nw e []))):am P f args R':=by
 refine⟨h.1,λw vs k=>(h.2 w vs k).mono λe w' ⟨v,r,g',o,h1,g,c,a,i,d⟩=>?_⟩;rcases j r g with b|⟨rfl,nw,e',b⟩
 .exact⟨v,r,g',o,h1,b,c,a,i,d⟩
 .exact⟨v,_,g',o,h1,b,c,.inl ⟨a.1,rfl,a.2⟩,rfl,d⟩
end Go.AX
namespace Go.AX
theorem iK{P:Program}(bad:List Nat){f:FuncId}{fn:Func}{c:Code}{args:List PV}{h:List (List SV)}{R:SV->Prop}(rs:List ResultVar)(h1:List (List SV))(C:h.length<=h1.length)(j:ep h.length h->ep h1.length h1)(aE:P.follows .mixedOrders=true)(B:P.funcs[f]?=some fn)(y:AC P h.length bad c (lf (fZ P rs h1 R)) ⟨fX 0 args,h⟩)(b:aG P f=true:=by kernel_rfl)(z:fn.body=some c:=by rfl)(D:fn.results=rs.toArray:=by rfl)(l:nA fn.ntmps bad c=true:=by kernel_rfl)(hn:args.length<=fn.ntmps:=by exact SO rfl):aB P f args h (λr h'=>h'=h1∧R r):=by
 refine⟨b,λg st a w vs hs m E=>?_⟩;have d:ep h1.length h1:=j (by have:=hs.belH;rwa [hs.n,m]at this);have key:=oZ (R:=λr h'=>h'=h1∧R r) aE B b z l hn y λg' st' M w' hk k s'=>?_
 .exact key.2 g st a w vs hs m E
 .obtain⟨F,G,H,I⟩:=hk;obtain⟨g2,p,N,O,J,L,q,u⟩:=oY rs s' F;obtain⟨v,t,x⟩:=jm D (ms rs st') q u;have K:=J.weak (st':=⟨[],(gO P st' rs).2.1.h⟩) rfl λs=>.inr rfl;obtain⟨t4,o⟩:=Sim.dropB (st:=⟨[],(gO P st' rs).2.1.h⟩) (h1:=h1) G (ht:=trivial) d (hs:=K) (h0:=by rw[p.n0];exact Sn k C);obtain⟨e,i⟩:=o.own;exact⟨v,_,_,_,e,none,t,p.trans t4,o,i,⟨rfl,I⟩,⟨rfl,Fit.below _ _ H x⟩,rfl,λc A=>by cases A⟩
theorem af.keep{k0:Nat}{st:St}{t1:List (Nat×SV)}{h1:List (List SV)}(h:Nv st.t t1)(a:st.h=h1):af k0 st ⟨t1,h1⟩:=a▸af.slots h
theorem af.nilCell{k0:Nat}{st:St}{b k:Nat}{xs:List SV}(e:Nat)(nw:Bool)(hx:st.h[b]?=some xs)(hk:xs[k]?=some (.pv (.lit (.slice none 0 0)))):af k0 st ⟨aF (aI b k 1) st.t,st.h.set b (xs.set k (.own nw e []))⟩:=λg a w _ hs=>by
 obtain⟨bl,f⟩:=hs.own;have d:k<xs.length:=(RE.1 hk).1;obtain⟨arr,T,i,p,j⟩:=f.blocks b xs hx;have l:=(j k _ hk).2;have n:ao g a w (.cell b k)=.slice none 0 0:=by
  simp only[ao,i];exact l.2
 exact⟨g,hs.refl_to,(hs.adopt f hx d (sv:=.own nw e []) (o:=none) (.inl ⟨rfl,rfl,n⟩) rfl (λc m=>by cases m)).1⟩
end Go.AX
namespace Go.AX
theorem aB.below{P:Program}{f:FuncId}{args:List PV}{h:List (List SV)}{R:SV->List (List SV)->Prop}(d:aG P f=true)(c:ep h.length h->aB P f args h R):aB P f args h R:=
 ⟨d,λg st a w vs hs b e=>(c (by have:=hs.belH;rwa [hs.n,b]at this)).2 g st a w vs hs b e⟩
def E9:List (List PV)->List (List PV)->Prop
 |[],[]=>True
 |x::xs,y::ys=>bd x y∧E9 xs ys
 |_,_=>False
theorem za:∀{a b:List PV},bd a b->a.length=b.length
 |[],[],_=>rfl
 |[],_::_,h=>by simp[bd]at h
 |_::_,[],h=>by simp[bd]at h
 |x::a,y::b,h=>by
  simp only[bd]at h;rw[Sa,Sa,za h.2]
theorem sZ:∀{a b:List (List PV)},E9 a b->a.length=b.length
 |[],[],_=>rfl
 |[],_::_,h=>h.elim
 |_::_,[],h=>h.elim
 |x::a,y::b,h=>by rw[Sa,Sa,sZ h.2]
theorem ay.wk{g:Gh}{e:Nat}:∀{a b:List (List PV)}{vs:List Value},E9 a b->ay g e a vs->ay g e b vs
 |[],[],_,_,h=>h
 |[],_::_,_,h,_=>h.elim
 |_::_,[],_,h,_=>h.elim
 |x::a,y::b,_,h,⟨j,k,h1,⟨d,c⟩,f,i⟩=>⟨j,k,h1,⟨by rw[←za h.1];exact d,c⟩,o6 _ _ _ h.1 f,ay.wk h.2 i⟩
def QX:PV->PV->Prop
 |.seq nw e rows,.seq b e' a=>(b=true->nw=true)∧e=e'∧E9 rows a
 |x,y=>bu x y
theorem HI{g:Gh}{x y:PV}{v:Value}(h:QX x y)(j:Fit g x v):Fit g y v:=by
 unfold QX at h;split at h
 .rename_i nw e rows m e' d;obtain⟨hn,rfl,f⟩:=h;obtain⟨p,cap,h1,k,i⟩:=j;refine⟨p,cap,by rw[←sZ f];exact h1,by rw[←sZ f];exact k,?_⟩;rcases i with i|⟨c,off,arr,T,fz,vs,a,b,n,r,q⟩
  .subst i;cases d with
   |nil=>exact .inl rfl
   |cons _ _=>exact f.elim
  .exact .inr ⟨c,off,arr,T,fz,vs,a,b,λl=>n (hn l),ay.wk f r,q⟩
 .exact wQ _ _ _ h j
def HJ:List PV->List PV->Prop
 |[],[]=>True
 |x::xs,y::ys=>QX x y∧HJ xs ys
 |_,_=>False
theorem Dw{g:Gh}:∀{xs ys:List PV}{vs:List Value},HJ xs ys->ak g xs vs->ak g ys vs
 |[],[],_,_,h=>h
 |[],_::_,_,h,_=>h.elim
 |_::_,[],_,h,_=>h.elim
 |_::_,_::_,_,h,⟨v,r,h1,a,b⟩=>⟨v,r,h1,HI h.1 a,Dw h.2 b⟩
theorem aB.argsA{P:Program}{f:FuncId}{xs ys:List PV}{h:List (List SV)}{R:SV->List (List SV)->Prop}(b:aB P f ys h R)(e:HJ xs ys):aB P f xs h R:=
 ⟨b.1,λg st a w vs hs c d=>b.2 g st a w vs hs c (Dw e d)⟩
theorem ai.introE{P:Program}{st:St}{ok:Prop}{f k:FuncId}{y p q b:List PV}{h1:List (List SV)}{d:Option Tmp}{K:St->Prop}{x:Operand}{args:Array Operand}{R:SV->List (List SV)->Prop}
 (i:aB P f b h1 R) (n:gc st x) (m:bB st x=some (f,p,q)) (u:(cV st args.toList).2.2) (s:(cV st args.toList).2.1.h=h1) (v:HJ (p++((cV st args.toList).1++q)) b)
 (j:∀r h',R r h'->K (ja d r ⟨aF eK (cV st args.toList).2.1.t,h'⟩)):ai P st ok k y d K x args:=by
 subst s;exact ai.introX λo e ho hd g a w hs l K' Q c=>Bc hs o x args e f p q ho n m u (hd▸l) (hd▸⟨R,i.argsA v,j⟩) c
theorem am.wk{P:Program}{f:FuncId}{args:List PV}{R R':SV->Prop}(h:am P f args R)(i:∀r,R r->∃x y,r=.pv x∧bu x y∧R' (.pv y)):am P f args R':=
 ⟨h.1,λw vs j=>(h.2 w vs j).mono λe w' ⟨v,r,g',o,h1,b,c,a,l,d⟩=>by
  obtain⟨x,y,rfl,k,g⟩:=i r b;exact⟨v,.pv y,g',o,h1,g,c,⟨a.1,wQ x y v k a.2⟩,rfl,d⟩⟩
end Go.AX
namespace Go.AX
def M0(b:Nat)(k:Option Nat)(off cap:Nat):SV:=match k with
 |none=>.pv (.tup [])
 |some m=>.pv (.bsl b 1 off m cap)
theorem Sim.toBlk{g:Gh}{st:St}{a:Act}{w:World}(h:Sim g st a w){bl:Pos->Option Nat}(hb:Owns g st a w bl){s c:Nat}(hbc:bl (.slot s)=some c){arr:Array Value}{T:TypeId}(hcell:w.heap[c]?=some (.cells arr T (0,0)))(hone:∀v∈arr.toList,v.oneCell'=true)
    {xs:List SV} (hx:xs=arr.toList.map λv=>.pv (.lit v)):
    Sim {g with n:=g.n+1,n0:=g.n+1,μ:=λb=>if b=g.n then c else g.μ b} ⟨(s,.pv .bot)::st.t,st.h++[xs]⟩ a w:=by
  obtain⟨s0,bl0,hb0,_,_,hfree⟩:=h.drop hb (.slot s)
  obtain⟨f1,f2,f3,f4⟩:=hfree c hbc
  have hle:g.le {g with n:=g.n+1,n0:=g.n+1,μ:=λb=>if b=g.n then c else g.μ b}:=⟨λ_ _ h=>h,RJ _,TF _,λb hb=>RH (by omega)⟩
  have hn:=h.n
  refine{size:=h.size,defs:=h.defs,env:=h.env,n:=by simp[hn],n0:=RJ _,B:=h.B,I:=h.I,F:=h.F,μI:=λb hb=>?_,μinj:=λb b' hb hb' he=>?_,own:=⟨λp=>match p with|.slot u=>bl0 (.slot u)|.cell b k=>if b=g.n then none else bl0 (.cell b k),?_⟩,al:=λu=>?_}
  · by_cases e:b=g.n
    · simp only[e,TL];exact⟨f1,f2⟩
    · simp only[e,S8];exact h.μI b (by have:b<g.n+1:=hb;omega)
  · have hb1:b<g.n+1:=hb
    have hb1':b'<g.n+1:=hb'
    by_cases e:b=g.n
    · by_cases e':b'=g.n
      · omega
      · simp only[e,e',TL,S8]at he
        exact absurd he.symm (f3 b' (by omega))
    · by_cases e':b'=g.n
      · simp only[e,e',TL,S8]at he
        exact absurd he (f3 b (by omega))
      · simp only[e,e',S8]at he
        exact h.μinj b b' (by omega) (by omega) he
  · refine{slots:=λu=>aA.frame hle (λ_ _=>rfl) (hb0.slots u),blocks:=λb ys hy=>?_,inj:=λp q k hp hq=>?_,free:=λp k hp=>?_}
    · by_cases e:b=g.n
      · subst e
        rw[hn,R5 (RJ _),T9]at hy
        simp only[SC,Sr]at hy
        subst hy
        refine⟨arr,T,by simp only[TL];exact hcell,⟨by rw[hx];simp,hone⟩,λk x hk=>?_⟩
        rw[hx,R3]at hk
        cases hk2:arr.toList[k]?with
        |none=>rw[hk2]at hk;cases hk
        |some v=>
          rw[hk2]at hk
          simp only[SH,Sr]at hk
          subst hk
          refine⟨rfl,by simp,?_⟩
          show arr.getD k undef=v
          have:arr[k]?=some v:=by rw[←RM];exact hk2
          rw[RX,this];rfl
      · have hlt:b<st.h.length:=by
          have:=(RE.1 hy).1
          simp only[RP,S9]at this
          omega
        rw[RL hlt]at hy
        obtain⟨arr',T',h1,h2,h3⟩:=hb0.blocks b ys hy
        refine⟨arr',T',by simp only[e,S8];exact h1,h2,λk x hk=>?_⟩
        simp only[e,S8]
        exact⟨(h3 k x hk).1,aA.frame hle (λ_ _=>rfl) (h3 k x hk).2⟩
    · cases p with
      |slot u=>cases q with
        |slot v=>exact hb0.inj _ _ k hp hq
        | cell b j => dsimp only at hq; split at hq
                      · cases hq
                      · exact hb0.inj _ _ k hp hq
      |cell b j=>
        dsimp only at hp;split at hp
        · cases hp
        · cases q with
          |slot v=>exact hb0.inj _ _ k hp hq
          | cell b2 j2 => dsimp only at hq; split at hq
                          · cases hq
                          · exact hb0.inj _ _ k hp hq
    · have hp0:bl0 p=some k:=by
        cases p with
        |slot u=>exact hp
        | cell b j => dsimp only at hp; split at hp
                      · cases hp
                      · exact hp
      obtain⟨q1,q2,q3,q4⟩:=hb0.free p k hp0
      refine⟨q1,q2,q3,λb hb=>?_⟩
      by_cases e:b=g.n
      · simp only[e,TL];intro e2;exact f4 p (e2▸hp0)
      · simp only[e,S8];exact q4 b (by have:b<g.n+1:=hb;omega)
  · refine cd.congr (λp hp=>?_) (s0.al u)
    cases p with
    |slot v=>exact⟨rfl,rfl⟩
    |cell b k=>
      have hlt:b<st.h.length:=by
        apply UD
        intro hge
        simp only[ab]at hp
        by_cases e:b=st.h.length
        · subst e
          have h8:(st.h++[xs]).getD st.h.length []=xs:=by simp[RG]
          rw[h8,hx,RG,R3]at hp
          cases h9:arr.toList[k]?<;>rw[h9]at hp<;>cases hp
        · have h8:(st.h++[xs]).getD b []=[]:=by rw[RG,SB (by simp;omega)];rfl
          rw[h8]at hp
          cases hp
      refine⟨?_,?_⟩
      · simp only[ab,setPos,RG]
        rw[RL hlt]
      · have e:b≠g.n:=by omega
        simp only[ao,e,S8]
theorem Sim.fromBlk{g g1 g':Gh}{st:St}{a:Act}{w w':World}(h:Sim g st a w){s c n cap:Nat}{nw:Bool}{all all':List Int}{L:List (List SV)}{rest:List Value}
 (O:look st.t s=.own nw 1 (aD all)) (hv:a.tmps.getD s undef=.slice (some ⟨c,0,none⟩) all.length cap) (l:all.length<=cap∧cap<=maxLen∧all.length+rest.length=cap) (Y:nw=true->g.B<=c) (z:all'.length=all.length)
 (d:g1={g with n:=g.n+1,n0:=g.n+1,μ:=λb=>if b=g.n then c else g.μ b}) (ht:g1.to g') (S0:Sim g' ⟨aF eK ((s,.pv .bot)::st.t),L++[blk [] all' rest]⟩ a w') (R:L.length=st.h.length) (U:la st.h.length st.t) (T:ep st.h.length L) (hn:n=st.h.length):
 g.to {g' with n:=g.n,n0:=g.n0}∧Sim {g' with n:=g.n,n0:=g.n0} ⟨(s,.own nw 1 (aD all'))::aF eK st.t,L⟩ a w'∧g'.μ g.n=c:=by
 subst hn;have m:=h.n;have y:g'.μ g.n=c:=by rw[ht.μ g.n (by rw[d];exact UE _),d];simp
 have hμ:∀b,b<g.n->g'.μ b=g.μ b:=λb j=>by
  rw[ht.μ b (by rw[d];exact U2 j),d];exact RH (by omega)
 have i:g'.n=g.n+1:=by rw[S0.n];simp[R,m]
 have hB:g'.B=g.B:=by rw[ht.B,d]
 have hN:g'.N=g.N:=by rw[ht.N,d]
 obtain⟨E,f⟩:=S0.own;have H:=S0.μI g.n (by omega);rw[y]at H;have P:∀q,E q≠some c:=λq K=>(f.free q c K).2.2.2 g.n (by omega) y;obtain⟨arr',T',b1,⟨b2,Q⟩,b3⟩:=f.blocks g.n (blk [] all' rest) (by show(L++_)[g.n]?=_;rw[m,←R,R5 (RJ _),T9];rfl);rw[y]at b1;have C:blk [] all' rest=(all'.map (Value.int .i64)++rest).map λv=>.pv (.lit v):=by
  unfold blk;simp only[Sb,SJ,Ua,Sj];rfl
 have A:arr'=(all'.map (Value.int .i64)++rest).toArray:=by
  rw[C,RR]at b2;exact sL (bl:=λk=>E (.cell g.n k)) b2 λk x hk=>(b3 k x (by rw[C];exact hk)).2
 have hle:({g' with n:=g.n}:Gh).le {g' with n:=g.n,n0:=g.n0}:=⟨λ_ _ h=>h,RJ _,RJ _,λ_ _=>rfl⟩;refine⟨⟨λk o hk=>ht.I k o (by rw[d];exact hk),by rw[ht.F,d],hB,rfl,hN,by rw[ht.env,d],h.n0,λb j=>hμ b (SZ j h.n0),λk hF hI=>ht.FI k (by rw[d];exact hF) (by rw[d];exact hI)⟩,?_,y⟩;refine{size:=S0.size,defs:=S0.defs,env:=S0.env,n:=by rw[m,←R],n0:=h.n0,B:=S0.B,I:=S0.I,F:=S0.F,μI:=λb j=>S0.μI b (by rw[i];exact U2 j),μinj:=λb b' j f V=>S0.μinj b b' (by rw[i];exact U2 j) (by rw[i];exact U2 f) V,own:=⟨λp=>if p=.slot s then some c else E p,?_⟩,al:=λu=>?_}
 .refine{slots:=λu=>?_,blocks:=λb ys hy=>?_,inj:=λp q k hp K=>?_,free:=λp k hp=>?_}
  .by_cases e:s=u
   .subst e;simp only[look,TL];refine .inr ⟨c,rfl,cap,arr',T',all'.map (Value.int .i64),?_,b1,?_,⟨?_,l.2.1,Q⟩,dX _ _,?_,λhn=>by show g'.B<=c;rw[hB];exact Y hn⟩
    .rw[hv];unfold aD;simp[z]
    .rw[A];simp[z];exact l.2.2
    .unfold aD;simp[z];exact l.1
    .rw[A];exact⟨rest,rfl⟩
   .have e2:¬(Pos.slot u=Pos.slot s):=λe3=>e (by cases e3;rfl);simp only[look,RH e,RH e2,aX];have h1:=f.slots u;simp only[aX,look,RH e]at h1;refine aA.frame hle (λ_ _=>rfl) (aA.below ?_ h1);rcases bs eK (look st.t u)with G|⟨G,_⟩
    .rw[G];trivial
    .rw[G,m];exact jk U u
  .have W:=(RE.1 hy).1;obtain⟨M,T2,d1,d2,d3⟩:=f.blocks b ys (by show(L++_)[b]?=_;rw[RL W];exact hy);refine⟨M,T2,d1,d2,λk x hk=>⟨(d3 k x hk).1,?_⟩⟩;rw[RH (by intro e;cases e)];refine aA.frame hle (λ_ _=>rfl) (aA.below ?_ (d3 k x hk).2);rw[m];exact lc (ld T b ys hy) k x hk
  .split at hp
   .rename_i e;split at K
    .rename_i e';rw[e,e']
    .cases hp;exact absurd K (P q)
   .split at K
    .cases K;exact absurd hp (P p)
    .exact f.inj p q k hp K
  .split at hp
   .cases hp
    refine⟨H.1,H.2,(RV.1 b1).1,λb j e=>?_⟩;have aa:b<g.n:=j;have:=S0.μinj b g.n (by omega) (by omega) (by rw[y];exact e);omega
   .obtain⟨q1,q2,q3,q4⟩:=f.free p k hp;exact⟨q1,q2,q3,λb j=>q4 b (by rw[i];exact U2 j)⟩
 .by_cases e:s=u
  .subst e;simp only[look,TL];trivial
  .simp only[look,RH e,aX];rcases bs eK (look st.t u)with G|⟨G,S⟩
   .rw[G];trivial
   .rw[G];have D:(ab st (.slot s)).isOwn=true:=by show(look st.t s).isOwn=true;rw[O];rfl
    have h3:cd g (setPos st (.slot s) (.own nw 1 (aD all'))) a w (look st.t u) (a.tmps.getD u undef):=by
     refine cd.write (p:=.slot s) (sv':=.own nw 1 (aD all')) (λr hr=>cU st _ r _ (UU hr)) (cm D) D (λ_ _=>rfl) (λad e' Z V=>?_) (h.al u);cases V
     exact⟨nw,aD all,O,by unfold aD;simp[z]⟩
    refine cd.congrA (q:=eK) (λp hp J=>?_) S h3;cases p with
    |cell b k=>cases hp
    |slot v=>
     refine⟨?_,rfl⟩;simp only[ab,setPos,look]at J⊢;split
     .rfl
     .rename_i X;rw[RH X,aX]at J;rw[aX];exact ea J
theorem bC.introB{P:Program}{st:St}{f:FuncId}{d:Option Tmp}{K:St->Prop}{c:Operand}{args:Array Operand}{q:List PV}{x:Operand}{xs:List Operand}{s lo hi:Nat}{nw:Bool}{all zs:List Int}{va:List PV}{R:Option Nat->List Int->List (List SV)->Prop}
 (F:look st.t s=.own nw 1 (aD all)) (ar:gc st c) (U:bB st c=some (f,[],q)) (ha:args.toList=x::xs) (hp:partOf st x=some (.slot s,lo,hi)) (hg:gc st x) (aM:lo<hi) (hz:(all.take hi).drop lo=zs)
 (hT:la st.h.length st.t) (aw:nt st xs) (aH:jf st xs++q=va)
 (h : ∀ (pre ah : List Value) (cap : Nat), zs.length <= cap -> pre.length = lo -> aB P f (.bsl st.h.length 1 pre.length zs.length cap :: va) (st.h ++ [blk pre zs ah])
  (λr h'=>∃k e y,R k e y∧e.length=zs.length∧(∀m,k=some m->m<=zs.length)∧y.length=st.h.length∧ep st.h.length y∧r=M0 st.h.length k pre.length cap∧h'=y++[blk pre e ah]))
 (hK:∀k e y,R k e y->e.length=zs.length->(∀m,k=some m->m<=zs.length)->K (EC d k (.slot s) lo ⟨(s,.own nw 1 (aD (all.take lo++e++all.drop hi)))::aF eK st.t,y⟩)):bC P st c args d K:=by
 subst aH;intro o aO ho W g a w hs hd K' Q D;obtain⟨u,v,hx,hu,aE⟩:=fj hs ar U;have aC:u.toList=[]:=hu;obtain⟨aJ,A,rows1,av,j1,j2,q0,cap,jv,jc,jq,jz⟩:=mR hs hg hp;have C:look st.t s=.own aJ A rows1:=av;rw[F]at C;cases C
 have l:(aD all).length=all.length:=by unfold aD;simp
 rw[l]at j2;obtain⟨bl,hb⟩:=hs.own;have Y:=hb.slots s;rw[F]at Y;rcases Y with⟨_,A,_⟩|⟨cc,aj,L,arr,T,vs,A,e2,e3,e4,e5,e6,e7⟩
 .rw[A]at l;simp at l;omega
 have aI:=bT e5;subst aI;obtain⟨rest,p⟩:=e6;rw[l]at A e4;have ax:q0=some ⟨cc,lo,none⟩:=by
  rcases jq with jq|⟨c1,n1,cp,h5,h6⟩
  .omega
  .have M:a.tmps.getD s undef=.slice (some ⟨c1,0,none⟩) n1 cp:=h5;rw[A]at M;cases M;rw[h6,Vs]
 subst ax;have H:zs.length=hi -lo:=by rw[←hz,Sv,RN];omega
 have z:all=all.take lo++zs++all.drop hi:=by
  rw[←hz];have h8:all.take lo=(all.take hi).take lo:=by rw[Wl,Tn (by omega)]
  rw[h8,SI,SI]
 have B:∀e:List Int,blk ((all.take lo).map (Value.int .i64)) e ((all.drop hi).map (Value.int .i64)++rest)=blk [] (all.take lo++e++all.drop hi) rest:=λe=>by
  unfold blk;simp only[Sb,SJ,Ua,Sj,Si];rfl
 have S:arr.toList.map (λv=>SV.pv (.lit v))=blk [] all rest:=by
  rw[←p];unfold blk;simp only[Sb,SJ,Ua,Sj];rfl
 have S1:=hs.toBlk hb aj e2 e4.2.2 (xs:=blk [] all rest) S.symm;obtain⟨I,j⟩:∃I:Gh,I={g with n:=g.n+1,n0:=g.n+1,μ:=λb=>if b=g.n then cc else g.μ b}:=⟨_,rfl⟩;rw[←j]at S1;have hle:g.le I:=by subst j;exact⟨λ_ _ h=>h,RJ _,TF _,λb hb=>RH (by omega)⟩
 have ad:((all.take lo).map (Value.int .i64)).length=lo:=by rw[RR,RN];omega
 obtain⟨i,hA⟩:=h ((all.take lo).map (Value.int .i64)) ((all.drop hi).map (Value.int .i64)++rest) cap (by omega) ad;rw[B,←z,ad,H]at hA;have X:ak I (.bsl st.h.length 1 lo (hi -lo) cap::(jf st xs++q)) (a.eval x::(xs.map a.eval++v.toList)):=by
  refine⟨_,_,rfl,⟨?_,jc,?_⟩,ak.append (ak.mono hle _ _ (ma hs xs aw)) (ak.mono hle _ _ aE)⟩
  .rw[j,hs.n];exact UE _
  .rw[jv,j,hs.n];simp
 have ay:(a.eval x::(xs.map a.eval++v.toList)).toArray=u++args.map a.eval++v:=by
  apply TO;simp[aC,ha]
 have ae:(execOp a.eval o).run P w=.ok (.enter f (u++args.map a.eval++v)) w:=by
  unfold aG at i;split at i
  case h_2=>cases i
  rename_i fn aq;simp only[RQ,Sw]at i;simp only[execOp,ho,resolve,hx,Deferred.ofValue,invoke,callFunc,Sem.run_bind,Sem.run_pure,Result.andThen_ok,run_program,aq,i.1,i.2,Ss,S8]
 unfold Oper.wp;rw[ae,Oper.upon_enter,←ay];refine(hA I _ a w _ S1 rfl X).mono λe9 w' ⟨v9,r,h',g',he,⟨k,e,y,r1,r2,r3,r4,r5,r6,r7⟩,t',af⟩=>?_;subst he r6 r7;have E:=hK k e y r1 (by rw[H];exact r2) (by rw[H];exact r3);have S0:=af none trivial;have S0':Sim g' ⟨aF eK ((s,.pv .bot)::st.t),y++[blk [] (all.take lo++e++all.drop hi) rest]⟩ a w':=by
  rw[←B];exact S0
 have O:(all.take lo++e++all.drop hi).length=all.length:=by simp only[RP,RN,Sv,r2];omega
 have az:all.length+rest.length=L:=by
  have:arr.size=arr.toList.length:=(Sy ..).symm;rw[←p]at this;simp only[RP,RR]at this;omega
 obtain⟨f1,f2,f3⟩:=hs.fromBlk (all':=all.take lo++e++all.drop hi) F A ⟨e4.1,e4.2.1,az⟩ e7 O j t' S0' r4 hT r5 rfl;cases d with
 |none=>rw[W];exact D _ _ _ _ E f1 f2
 |some d=>
  have V:d<g'.N:=by rw[t'.N,j];exact hd
  have an:cg I.N (some d):=by rw[j];exact hd
  have Sd:=af (some d) an;obtain⟨J,ai⟩:=Sd.own;have G:=ai.slots d;have ao:d<a.tmps.size:=by rw[hs.size];exact hd
  rw[fW ao,RI rfl]at G;rw[W];cases k with
  |none=>
   have h7:aA g' w' (.pv (.tup [])) v9 (J (.slot d)):=by simpa[M0,ja,St.put,look]using G
   refine D _ _ _ _ E f1 (f2.put V ⟨rfl,h7.2⟩ trivial rfl)
  |some m=>
   have h7:aA g' w' (.pv (.bsl st.h.length 1 lo m cap)) v9 (J (.slot d)):=by simpa[M0,ja,St.put,look]using G
   obtain⟨_,_,au,ag⟩:=h7;have hm:=r3 m rfl;refine D _ _ _ _ E f1 (f2.put V rfl ?_ rfl);intro aN aL aK aa;simp only[ab,look,TL]at aa;cases aa
   have Z:lo+m -lo=m:=by omega
   rw[←hs.n,f3]at ag;refine⟨by omega,by rw[show(aD (all.take lo++e++all.drop hi)).length=all.length by unfold aD;rw[RR,O]];omega,_,_,by rw[Z];exact ag,by rw[Z];exact au,.inr ⟨cc,_,_,A,by rw[Vs]⟩,λh0=>?_⟩;exact jz h0
end Go.AX
namespace Go.AX
open Go.Proofs Go.Shelf
theorem gJ(c:Nat):∀(vs:List Value)(o:Nat)(w:World)(arr:Array Value)(T:TypeId)(fz:Nat×Nat),w.heap[c]?=some (.cells arr T fz)->o+vs.length<=arr.size->
 (w.setCells c o vs).heap[c]?=some (.cells (arr.toList.take o++vs++arr.toList.drop (o+vs.length)).toArray T fz)∧(∀k,k≠c->(w.setCells c o vs).heap[k]?=w.heap[k]?)∧(w.setCells c o vs).heap.size=w.heap.size∧bU (w.setCells c o vs)=bU w
 |[],o,w,arr,T,fz,h,b=>by
  refine⟨?_,λ_ _=>rfl,rfl,rfl⟩;rw[World.setCells,h];simp
 |v::r,o,w,arr,T,fz,h,b=>by
  simp only[Sa]at b;have l:c<w.heap.size:=(RV.1 h).1;have h1:(w.setCell ⟨c,o,none⟩ v).heap[c]?=some (.cells (arr.setIfInBounds o v) T fz):=by
   show(w.heap.modify c _)[c]?=_;rw[TE,RI rfl,h];simp
  have i:∀k,k≠c->(w.setCell ⟨c,o,none⟩ v).heap[k]?=w.heap[k]?:=λk hk=>by
   show(w.heap.modify c _)[k]?=_;rw[TE,RH (UU hk)]
  have j:(w.setCell ⟨c,o,none⟩ v).heap.size=w.heap.size:=by
   show(w.heap.modify c _).size=_;rw[Uk]
  obtain⟨f,g2,g3,g⟩:=gJ c r (o+1) (w.setCell ⟨c,o,none⟩ v) _ T fz h1 (by simp;omega);rw[World.setCells];refine⟨?_,λk hk=>(g2 k hk).trans (i k hk),g3.trans j,g.trans rfl⟩;rw[f];congr 2;simp only[U4,Sa];have m:arr.toList.length=arr.size:=Sy;have ho:o<arr.toList.length:=by omega
  have a:(arr.toList.take o).length=o:=by rw[RN];omega
  have d:(arr.toList.set o v).take (o+1)=arr.toList.take o++[v]:=by
   rw[Vo,RI ho,List.take_append,a,SK (by omega),Ud];rfl
  have e:(arr.toList.set o v).drop (o+1+r.length)=arr.toList.drop (o+(r.length+1)):=by
   rw[Vg (by omega)];congr 1;omega
  rw[d,e];simp
theorem da(l:List Int):(aD l).length=l.length:=by unfold aD;simp
theorem tn{l:List Value}{xs:List Value}(h:xs<+:l){j:Nat}{v:Value}(hj:xs[j]?=some v):l[j]?=some v:=by
 obtain⟨r,rfl⟩:=h;rw[RL (RE.1 hj).1];exact hj
theorem bC.introI{P:Program}{ρ:Ren}(L:Lays2.n21 P ρ)(i:aG P (ρ.f 21)=true){st:St}{d:Option Tmp}{K:St->Prop}{cx:Operand}{args:Array Operand}{x0 k y:Operand}{ps py:Pos}{hi:Nat}{zs:List Int}{nw aZ:Bool}{x:Int}
    (aJ:gc st cx) (aE:bB st cx=some (ρ.f 21,[],[])) (ha:args.toList=[x0,k,y]) (hp:partOf st x0=some (ps,0,hi)) (aI:gc st x0) (aK:gc st k) (hk:mv st k=.pv (.lit (.int .i64 0))) (aL:gc st y) (hy:partOf st y=some (py,0,1))
    (W:ab st py=.own aZ 1 (aD [x])) (aO:ps≠py) (G:ab st ps=.own nw 1 (aD zs)) (aP:hi<zs.length)
    (hK:K (EC d (some (hi+1)) ps 0 (setPos st ps (.own nw 1 (aD (x::(zs.take hi++zs.drop (hi+1)))))))):bC P st cx args d K:=by
  intro o a6 ho r g a w h hd K' Q aa
  obtain⟨u,v,hx,hu,aS⟩:=fj h aJ aE
  have aR:u=#[]:=TO hu
  have aT:v=#[]:=TO aS
  subst aR aT
  obtain⟨bl,hb⟩:=h.own
  have m:(ab st ps).isOwn=true:=by rw[G];rfl
  have V:(ab st py).isOwn=true:=by rw[W];rfl
  -- the slice
  obtain⟨aY,e1,rows1,au,j1,j2,q0,cap,jv,jc,_,jz⟩:=mR h aI hp
  rw[G]at au;cases au
  obtain⟨n0,an⟩:=jz rfl
  have ah:=bq hb m
  rw[G]at ah
  rcases ah with⟨_,A,_⟩|⟨c,R,a1,arr,T,vs,f1,Y,f3,f4,f5,f6,f7⟩
  · have:=Ul List.length A
    rw[da,List.length_nil]at this
    omega
  rw[f1]at an
  cases an
  have aU:=bT f5
  subst aU
  have U:(aD zs).length=zs.length:=by unfold aD;simp
  rw[U]at f4
  have a3:arr.toList.length=arr.size:=Sy
  -- the number
  obtain⟨a5,e3,a0,O,_,_,qy,p,aW,_,_,aX⟩:=mR h aL hy
  rw[W]at O;cases O
  obtain⟨n1,aq⟩:=aX rfl
  have aj:=bq hb V
  rw[W]at aj
  rcases aj with⟨_,A,_⟩|⟨c2,ae,a2,Z,T2,a7,y1,y2,y3,y4,y5,y6,y7⟩
  · simp[aD]at A
  rw[y1]at aq
  cases aq
  have ay:=bT y5
  subst ay
  have aC:c2≠c:=λe=>aO (hb.inj ps py c R (e▸ae))
  -- the place
  have aM:a.eval k=.int .i64 0:=by
    obtain⟨hf,_⟩:=aN h k aK
    rw[hk]at hf
    exact hf.2
  have ad:(#[]++args.map a.eval++#[])=#[.slice (some ⟨c,0,none⟩) (hi -0) cap,.int .i64 0,.slice (some ⟨c2,0,none⟩) 1 p]:=by
    apply TO
    simp[ha,jv,aM,aW]
  have aw:(execOp a.eval o).run P w=.ok (.enter (ρ.f 21) (#[]++args.map a.eval++#[])) w:=by
    unfold aG at i
    split at i
    case h_2=>cases i
    rename_i fn aH
    simp only[RQ,Sw]at i
    simp only[execOp,ho,resolve,hx,Deferred.ofValue,invoke,callFunc,Sem.run_bind,Sem.run_pure,Result.andThen_ok,run_program,aH,i.1,i.2,Ss,S8]
  have I:cap<=9223372036854775807:=by have:=f4.2.1;unfold maxLen at this;omega
  have S:∀j v,((zs.take hi).map (Value.int .i64))[j]?=some v->w.cell? ⟨c,0+j,none⟩=some v:=λj v hj=>by
    rw[SF,cell_of Y,←RM]
    refine tn f6 ?_
    rw[R3]at hj⊢
    by_cases e:j<hi
    · rw[SM,RI e]at hj
      exact hj
    · rw[SM,RH e]at hj
      simp at hj
  have C:∀j,j<hi+1->(w.cell? ⟨c,0+j,none⟩).isSome=true:=λj hj=>by
    rw[SF,cell_of Y,R1 (by omega)];rfl
  have ai:∀j,w.frozen? ⟨c,j,none⟩=false:=λj=>by simp[World.frozen?,Y]
  have J:∀j,w.frozen? ⟨c2,j,none⟩=false:=λj=>by simp[World.frozen?,y2]
  have q:∀j v,([Value.int .i64 x]:List Value)[j]?=some v->w.cell? ⟨c2,0+j,none⟩=some v:=λj v hj=>by
    rw[SF,cell_of y2,←RM]
    exact tn y6 (by simpa using hj)
  have M:∀v∈[Value.int .i64 x],v.oneCell'=true:=λv D=>by simp at D;subst D;rfl
  have B:∀v∈(zs.take hi).map (Value.int .i64),v.oneCell'=true:=λv D=>by
    obtain⟨z,_,rfl⟩:=RO.1 D
    rfl
  have H:((zs.take hi).map (Value.int .i64)).length=hi:=by simp;omega
  have E:Calls P (ρ.f 21) #[.slice (some ⟨c,0,none⟩) (hi -0) cap,.int .i64 0,.slice (some ⟨c2,0,none⟩) 1 p] w λe w'=>
      e=.returned (.slice (some ⟨c,0,none⟩) (hi+1) cap)∧w'.heap[c]?=some (.cells ((Value.int .i64 x::(zs.take hi).map (Value.int .i64))++arr.toList.drop (hi+1)).toArray T (0,0))∧(∀k,k≠c->w'.heap[k]?=w.heap[k]?)∧w'.heap.size=w.heap.size∧bU w'=bU w:=by
    rw[VY]
    by_cases hz:hi=0
    · subst hz
      refine(Any2.slices_Insert_int_end_room L c 0 0 cap c2 0 1 p [.int .i64 x] w (by omega) (by omega) I rfl (λj hj=>by simpa using C j (by omega)) (λj _=>ai _) q M).mono λe w' ⟨he,hw⟩=>?_
      obtain⟨s1,s2,s3,s4⟩:=gJ c [.int .i64 x] 0 w arr T (0,0) Y (by simp;omega)
      subst hw
      refine⟨he,?_,s2,s3,s4⟩
      rw[s1]
      simp
    · refine(Any2.slices_Insert_int_shift L c 0 hi cap 0 c2 0 1 p ((zs.take hi).map (Value.int .i64)) [.int .i64 x] w (by omega) (by omega) (by omega) I aC H rfl S C (λj _=>ai _) q B M T2 T Z.size arr.size (by simp[World.shape?,y2]) (by simp[World.shape?,Y]) (by omega) (J _) (J _)).mono λe w' ⟨he,hw⟩=>?_
      have aA:w.drew.heap[c]?=some (.cells arr T (0,0)):=Y
      obtain⟨s1,s2,s3,s4⟩:=gJ c ((zs.take hi).map (Value.int .i64)) 1 w.drew arr T (0,0) aA (by rw[H];omega)
      obtain⟨r1,r2,r3,r4⟩:=gJ c [.int .i64 x] 0 _ _ T (0,0) s1 (by simp;omega)
      have aV:w'=(w.drew.setCells c 1 ((zs.take hi).map (Value.int .i64))).setCells c 0 [.int .i64 x]:=by simpa using hw
      rw[aV]
      refine⟨he,?_,λk hk=>(r2 k hk).trans (s2 k hk),r3.trans s3,r4.trans s4⟩
      rw[r1]
      have h1:(arr.toList.take 1).length=1:=by rw[RN];omega
      congr 3
      show List.take 0 (List.take 1 arr.toList++(zs.take hi).map (Value.int .i64)++List.drop (1+((zs.take hi).map (Value.int .i64)).length) arr.toList)++[Value.int .i64 x]++List.drop (0+[Value.int .i64 x].length) (List.take 1 arr.toList++(zs.take hi).map (Value.int .i64)++List.drop (1+((zs.take hi).map (Value.int .i64)).length) arr.toList)=_
      rw[H,Si (List.take 1 arr.toList),Vy,Sj,S9,SF,VL h1,show 1+hi=hi+1 by omega]
      rfl
  unfold Oper.wp
  rw[aw,Oper.upon_enter,ad]
  refine E.mono λe9 w' ⟨he,F,t,aQ,aF⟩=>?_
  subst he
  have l:(x::(zs.take hi++zs.drop (hi+1))).length=zs.length:=by simp;omega
  have ax:Sim g (setPos st ps (.own nw 1 (aD (x::(zs.take hi++zs.drop (hi+1)))))) a w':=by
    refine h.ownWrite hb m R aF aQ t ?_ rfl ?_
    · right
      refine⟨c,rfl,cap,_,T,(x::(zs.take hi++zs.drop (hi+1))).map (Value.int .i64),?_,F,?_,?_,dX g _,?_,f7⟩
      · rw[f1,U,da,l]
      · simp only[SP,RP,Sa,H,Sv]
        omega
      · rw[da,l]
        refine⟨f4.1,f4.2.1,?_⟩
        intro v D
        simp only[VU,RS,R9]at D
        rcases D with(rfl|D)|D
        · rfl
        · exact B v D
        · exact f4.2.2 v (TQ D)
      · obtain⟨rest,X⟩:=f6
        refine⟨rest,?_⟩
        rw[←X]
        simp only[R4,Sb,Sq,Si,VU]
        congr 2
        rw[SU (by simp;omega),U1]
    · intro a4 e' rows1 hh
      cases hh
      exact⟨nw,aD zs,G,by rw[U,da,l]⟩
  have af:cg g.N o.dst:=by rw[r];exact hd
  cases ag:d with
  |none=>
    rw[ag]at hK r
    rw[r]
    exact aa _ g _ w' hK h.refl_to ax
  |some dd=>
    rw[ag]at hK r
    rw[r]at af⊢
    refine aa _ g _ w' hK h.refl_to ?_
    refine ax.put af rfl ?_ rfl
    intro aY e1 rows1 ar
    have ak:ab (setPos st ps (.own nw 1 (aD (x::(zs.take hi++zs.drop (hi+1)))))) ps=.own nw 1 (aD (x::(zs.take hi++zs.drop (hi+1)))):=cm m
    rw[ak]at ar
    cases ar
    have av:ao g a w' ps=ao g a w ps:=by
      cases ps with
      |slot s=>rfl
      |cell b j=>
        simp only[ab]at m
        cases az:st.h[b]?with
        |none=>simp[List.getD,az,SV.isOwn]at m
        |some ys=>
          have aB:b<g.n:=by rw[h.n];exact(RE.1 az).1
          simp only[ao];rw[t _ ((hb.free _ c R).2.2.2 b aB)]
    refine⟨RW _,by rw[da,l];omega,some ⟨c,0,none⟩,cap,by rw[SF,VY],by omega,.inr ⟨c,_,cap,av.trans f1,by simp⟩,λ_=>⟨_,av.trans f1⟩⟩
def Rv(P:Program)(f:FuncId)(zs:List Int)(hi:Nat)(args:List PV)(b:List Int)(m:Nat):Prop:=
 aG P f=true∧∀(w:World)(c cap:Nat)(arr:Array Value)(T:TypeId)(a d:List Value),w.heap[c]?=some (.cells arr T (0,0))->arr.toList=zs.map (Value.int .i64)++a->zs.length<=cap->cap<=maxLen->ak (oM w c) args d->(∀v∈arr.toList,v.oneCell'=true)->
  Calls P f ((.slice (some ⟨c,0,none⟩) hi cap)::d).toArray w λe w'=>e=.returned (.slice (some ⟨c,0,none⟩) m cap)∧w'.heap[c]?=some (.cells (b.map (Value.int .i64)++a).toArray T (0,0))∧(∀k,k≠c->w'.heap[k]?=w.heap[k]?)∧w'.heap.size=w.heap.size∧bU w'=bU w
theorem bC.introW{P:Program}{st:St}{f:FuncId}{d:Option Tmp}{K:St->Prop}{cx:Operand}{args:Array Operand}{x0:Operand}{xs:List Operand}{ps:Pos}{hi m:Nat}{zs l:List Int}{nw:Bool}{q va:List PV}
 (hA:Rv P f zs hi va l m) (U:l.length=zs.length) (hm:m<=zs.length) (h0:zs≠[]) (au:gc st cx) (aj:bB st cx=some (f,[],q)) (ha:args.toList=x0::xs) (hp:partOf st x0=some (ps,0,hi)) (ar:gc st x0)
 (A:ab st ps=.own nw 1 (aD zs)) (C:jN (setPos st ps (.pv .bot)) xs) (ay:AL 3 (setPos st ps (.pv .bot)) xs++eI (bG (setPos st ps (.pv .bot)).h 3) q=va)
 (hK:K (EC d (some m) ps 0 (setPos st ps (.own nw 1 (aD l))))):bC P st cx args d K:=by
 intro o aH ho p g a w h hd K' Q H;obtain⟨u,v,hx,hu,ax⟩:=fj h au aj;have aw:u.toList=[]:=hu;obtain⟨bl,hb⟩:=h.own;have i:(ab st ps).isOwn=true:=by rw[A];rfl
 obtain⟨aA,e1,rows1,Y,j1,j2,q0,cap,jv,jc,_,jz⟩:=mR h ar hp;rw[A]at Y;cases Y;obtain⟨n0,V⟩:=jz rfl;have R:=bq hb i;rw[A]at R;rcases R with⟨_,W,_⟩|⟨c,D,aB,arr,T,vs,f1,f2,f3,B,f5,f6,f7⟩
 .exfalso;apply h0;cases zs with
  |nil=>rfl
  |cons _ _=>simp[aD]at W
 rw[f1]at V;cases V
 have az:=bT f5;subst az;have F:=da zs;rw[F]at B;obtain⟨af,t⟩:=f6;obtain⟨s0,aC,ah,_,_,E⟩:=h.drop hb ps;have G:Sim g (setPos st ps (.pv .bot)) a (p6 w c):=s0.turn ah (E c D) rfl (by simp[p6]) (λk hk=>kZ w hk);have O:ak (oM w c) va (xs.map a.eval++v.toList):=by
  rw[←ay];refine ak.monoC (yf w c) _ _ (.inl (RW _)) (.inl rfl) ?_;refine ak.append ?_ (ak.frz G.I (kQ G 3) _ _ ax);rw[nX];exact p7 G 3 xs C
 have J:(a.eval x0::(xs.map a.eval++v.toList)).toArray=u++args.map a.eval++v:=by
  apply TO;simp[aw,ha]
 obtain⟨e,x⟩:=hA;have aa:(execOp a.eval o).run P w=.ok (.enter f (u++args.map a.eval++v)) w:=by
  unfold aG at e;split at e
  case h_2=>cases e
  rename_i fn aq;simp only[RQ,Sw]at e;simp only[execOp,ho,resolve,hx,Deferred.ofValue,invoke,callFunc,Sem.run_bind,Sem.run_pure,Result.andThen_ok,run_program,aq,e.1,e.2,Ss,S8]
 have hc:=x w c cap arr T af _ f2 t.symm B.1 B.2.1 O B.2.2;unfold Oper.wp;rw[aa,Oper.upon_enter,←J,jv,VY];refine hc.mono λe9 w' ⟨he,y,r,av,an⟩=>?_;subst he;have ad:Sim g (setPos st ps (.own nw 1 (aD l))) a w':=by
  refine h.ownWrite hb i D an av r ?_ rfl ?_
  .right;refine⟨c,rfl,cap,_,T,l.map (Value.int .i64),?_,y,?_,?_,dX g _,⟨af,by simp⟩,f7⟩
   .rw[f1,F,da,U]
   .have ag:arr.size=arr.toList.length:=Sy.symm;rw[←f3,ag,←t];simp[U]
   .rw[da,U];refine⟨B.1,B.2.1,?_⟩;intro v C;simp only[VU,RS]at C;rcases C with C|C
    .obtain⟨z,_,rfl⟩:=RO.1 C;rfl
    .exact B.2.2 v (by rw[←t];exact TV _ C)
  .intro aF e' rows1 hh;cases hh
   exact⟨nw,aD zs,A,by rw[F,da,U]⟩
 have L:cg g.N o.dst:=by rw[p];exact hd
 cases M:d with
 |none=>
  rw[M]at hK p;rw[p];exact H _ g _ w' hK h.refl_to ad
 |some dd=>
  rw[M]at hK p;rw[p]at L⊢;refine H _ g _ w' hK h.refl_to ?_;refine ad.put L rfl ?_ rfl;intro aA e1 rows1 X;have S:ab (setPos st ps (.own nw 1 (aD l))) ps=.own nw 1 (aD l):=cm i;rw[S]at X;cases X
  have Z:ao g a w' ps=ao g a w ps:=by
   cases ps with
   |slot s=>rfl
   |cell b j=>
    simp only[ab]at i;cases ae:st.h[b]?with
    |none=>simp[List.getD,ae,SV.isOwn]at i
    |some ys=>
     have ai:b<g.n:=by rw[h.n];exact(RE.1 ae).1
     simp only[ao];rw[r _ ((hb.free _ c D).2.2.2 b ai)]
  have aE:m<=cap:=by have:=B.1;omega
  refine⟨RW _,by rw[da,U];omega,some ⟨c,0,none⟩,cap,by rw[SF,VY],by omega,.inr ⟨c,_,cap,Z.trans f1,by simp⟩,λ_=>⟨_,Z.trans f1⟩⟩
end Go.AX