/-
  AX, part Pu: a call that leaves all as it was, and whose result is plain, changes nothing.
  AX, part BL: a function that is walked with a part of a block writes a slice of the caller's own in place.
  AX, part La: the last block but one is forgotten.
  AX, part XD: a call that leaves certain blocks; its own are let go.
  AX, part Be: what names blocks below a number only.
  AX, part BM: a call is handed a slice of numbers of the caller's own, which it writes, and blocks of the caller's turn, too.
  AX, part IS: slices.Insert of one number at the front of a part of a slice that has room, from the library's contract: in place.
-/
import Derived.Test.YtepodadinenmnaaGreatAxXW
import Derived.Test.YtepodadinenmnaaGreatAxR
import Derived.Shelf.Spec.SlicesInsert
namespace Go.AX
theorem ay.pure{P:Program}{f:FuncId}{args:List PV}{R:SV->Prop}(g:ay P f args [] (λr _=>∃x,r=.pv x∧R (.pv x))):am P f args R:=by
 refine⟨g.1,λw vs h=>?_⟩;have hs:=ug (N:=args.length+1) h (RO _);refine(g.2 _ _ _ _ vs hs rfl (uf h)).mono λe w' ⟨v,r,h',g',l,⟨x,n,i⟩,o,hd⟩=>?_;subst n;have d:args.length<(kh w (args.length+1)).N:=SH _;have s':=hd (some args.length) d;obtain⟨bl,j⟩:=s'.own;have a:=j.slots args.length;have b:args.length<(vs.toArray++Array.replicate (args.length+1 -vs.toArray.size) undef).size:=by
  rw[hs.size];exact d
 rw[ed b,Qb rfl]at a;have m:look (iv (some args.length) (.pv x) ⟨aE ep (fE 0 args),h'⟩).t args.length=.pv x:=by
  simp[iv,look,St.put]
 rw[m]at a;exact⟨v,.pv x,g',none,l,i,iG o s',⟨rfl,a.2⟩,rfl,λc k=>by cases k⟩
def pF(st:St):List Operand->List PV->Prop
 |[],zs=>zs=[]
 |a::xs,zs=>∃z r,zs=z::r∧gc st a∧mv st a=.pv z∧pF st xs r
theorem um{st:St}{g:Gh}{a:Act}{w:World}(h:Sim g st a w):∀{xs:List Operand}{zs:List PV},pF st xs zs->aj g zs (xs.map a.eval)
 |[],zs,e=>by
  have:zs=[]:=e;subst this;rfl
 |x::xs,zs,⟨z,r,hz,c,d,f⟩=>by
  subst hz;obtain⟨b,_⟩:=aM h x c;rw[d]at b;exact⟨_,_,rfl,b.2,um h f⟩
theorem rH{g:Gh}:∀{xs ys:List PV}{a vs:List Value},aj g xs a->aj g ys vs->aj g (xs++ys) (a++vs)
 |[],ys,a,vs,h,k=>by
  have:a=[]:=h;subst this;exact k
 |x::xs,ys,a,vs,⟨v,r,h1,b,c⟩,k=>by
  subst h1;exact⟨v,r++vs,rfl,b,rH c k⟩
theorem cd.pureM{P:Program}{st:St}{x:Operand}{args:Array Operand}{d:Nat}{K:St->Prop}{f:FuncId}{p q zs:List PV}{y:PV}(hA:ay P f (p++(zs++q)) [] (λr _=>r=.pv y))
    (hg:gc st x) (hc:bq st x=some (f,p,q)) (ha:pF st args.toList zs) (hb:bP 0 (p++(zs++q))) (hy:y.bel 0)
    (hK:K (st.put d (.pv y))):cd P st x args (some d) K:=by
  intro o tys ho hdd g a w h hd K' Q hfin
  obtain⟨hcall,hA⟩:=hA
  obtain⟨u,v,hu,hv,hrun⟩:=ki h o x args tys f p q ho hg hc hcall
  have hfit:aj g (p++(zs++q)) (u.toList++(args.toList.map a.eval++v.toList)):=rH hu (rH (um h ha) hv)
  generalize hpa:p++(zs++q)=pa at*
  generalize hvs:u.toList++(args.toList.map a.eval++v.toList)=vs at*
  let g0:Gh:={g with F:=λc=>if g.I c=none then w.heap[c]?else none,n:=0,n0:=0,N:=pa.length+1,env:=bN w}
  have hle0:Gh.le {g with n:=0} g0:=⟨λ_ _ h=>h,Qc _,Qc _,λ_ h=>absurd h (Sf _)⟩
  have hfit0:aj g0 pa vs:=aj.mono hle0 _ _ (aj.below pa vs hb hfit)
  have hl:=hfit0.length
  have hgd:∀s,(vs.toArray++Array.replicate (pa.length+1 -vs.toArray.size) undef).getD s undef=vs.getD s undef:=by
    intro s
    simp only[Qo,P9,Tt,Q8,T5,RE]
    split
    · rfl
    · rename_i hs
      rw[QH (by omega)]
      split<;>rfl
  have hs0:Sim g0 ⟨fE 0 pa,[]⟩ {tmps:=vs.toArray++Array.replicate (pa.length+1 -vs.toArray.size) undef,defers:=[]} w:=by
    refine { size := ?_, defs := rfl, env := rfl, n := rfl, n0 := Qc _, B := h.B, I := h.I, F := λ c o hc => ?_, μI := λ b hb => absurd hb (Sf _), μinj := λ b b' hb => absurd hb (Sf _),
             own:=⟨λ_=>none,?_⟩,al:=λs=>?_}
    · show(vs.toArray++Array.replicate (pa.length+1 -vs.toArray.size) undef).size=pa.length+1
      simp;omega
    · change(if g.I c=none then w.heap[c]?else none)=some o at hc
      split at hc
      · exact hc
      · cases hc
    · refine{slots:=λs=>?_,blocks:=λb xs hx=>(by simp at hx),inj:=λp q c hp=>(by cases hp),free:=λp c hp=>by cases hp}
      show aw _ w _ ((vs.toArray++Array.replicate (pa.length+1 -vs.toArray.size) undef).getD s undef) none
      rw[hgd]
      have:=jB g0 pa vs 0 s hfit0 w
      simpa using this
    · obtain⟨x,hx⟩:=kg pa 0 s
      simp only[hx];trivial
  unfold Oper.wp
  rw[hrun,Oper.upon_enter]
  refine(hA g0 _ _ w vs hs0 rfl hfit0).mono λe w' ⟨v',r,h',g',he,hr,t',hdx⟩=>?_
  subst he;subst hr
  have hN:pa.length<g0.N:=SH _
  have s':=hdx (some pa.length) hN
  obtain⟨bl,hbo⟩:=s'.own
  have hf:=hbo.slots pa.length
  have hsz:pa.length<(vs.toArray++Array.replicate (pa.length+1 -vs.toArray.size) undef).size:=by
    rw[hs0.size];exact hN
  rw[ed hsz,Qb rfl]at hf
  have hlk:look (iv (some pa.length) (.pv y) ⟨aE ep (fE 0 pa),h'⟩).t pa.length=.pv y:=by
    simp[iv,look,St.put]
  rw[hlk]at hf
  have hkeep:∀c,c<w.heap.size->w'.heap[c]?=w.heap[c]?:=λc hc=>by
    have hx:w.heap[c]?=some w.heap[c]:=Qv hc
    cases hI:g.I c with
    |some o=>rw[s'.I c o (t'.I c o hI),h.I c o hI]
    |none=>
      have hF:g'.F c=some w.heap[c]:=by
        rw[t'.F]
        show(if g.I c=none then w.heap[c]?else none)=_
        rw[Qb hI,hx]
      rw[s'.F c _ hF,hx]
  have hsize:w.heap.size<=w'.heap.size:=by
    cases hsz2:w.heap.size with
    |zero=>exact Qq _
    |succ n=>
      have h1:=hkeep n (by omega)
      rw[Qv (show n<w.heap.size by omega)]at h1
      have:=(Qi.1 h1).1
      omega
  have henv:bN w'=bN w:=s'.env.trans t'.env
  obtain⟨h1,h2,h3⟩:=h.grown henv hsize hkeep g'.I s'.I
  have hfy:Fit {g with I:=λc=>if w.heap.size<=c then g'.I c else g.I c} y v':=by
    refine Fit.mono ?_ _ _ (Fit.below y v' hy hf.2)
    refine⟨λc o hc=>?_,?_,Qq _,λ_ hb=>absurd hb (Sf _)⟩
    · show(if w.heap.size<=c then g'.I c else g.I c)=some o
      have hc':g'.I c=some o:=hc
      split
      · exact hc'
      · rename_i hlt
        cases hI:g.I c with
        |some o2=>rw[t'.I c o2 hI]at hc';exact hc'
        |none=>
          have hx:w.heap[c]?=some (w.heap[c]'(by omega)):=Qv (by omega)
          have:=t'.FI c (by show(if g.I c=none then w.heap[c]?else none)≠none;rw[Qb hI,hx];simp) hI
          rw[this]at hc';cases hc'
    · show g.B<=g'.B
      rw[t'.B]
      exact Qc _
  rw[hdd]
  have hd':d<g.N:=hd
  exact hfin _ _ _ _ hK h2 (h1.put hd' ⟨rfl,hfy⟩ trivial rfl)
end Go.AX
namespace Go.AX
def blk(pre:List Value)(zs:List Int)(a:List Value):List SV:=pre.map (λv=>.pv (.lit v))++(zs.map (λz=>.pv (.lit (.int .i64 z)))++a.map λv=>.pv (.lit v))
theorem eu(pre:List Value)(zs:List Int)(a:List Value):(blk pre zs a).length=pre.length+zs.length+a.length:=by
 unfold blk;simp only[Qh,Ql];omega
theorem kj(pre:List Value)(zs:List Int)(a:List Value){i:Nat}(h:i<zs.length):(blk pre zs a)[pre.length+i]?=some (.pv (.lit (.int .i64 zs[i]))):=by
 unfold blk;rw[Qp (by simp),Ql,Sr,Qd (by simpa using h),Qu,P8 h];rfl
theorem rJ(pre:List Value)(zs:List Int)(a:List Value){i:Nat}{ys:List Int}(h:i+ys.length<=zs.length):
 List.take (pre.length+i) (blk pre zs a)++(ys.map (λz=>SV.pv (.lit (.int .i64 z)))++List.drop (pre.length+i+ys.length) (blk pre zs a))=blk pre (zs.take i++ys++zs.drop (i+ys.length)) a:=by
 unfold blk;have b:pre.length=(pre.map (λv=>SV.pv (PV.lit v))).length:=by simp
 rw[show List.take (pre.length+i) (pre.map (λv=>SV.pv (PV.lit v))++(zs.map (λz=>SV.pv (.lit (.int .i64 z)))++a.map λv=>.pv (.lit v)))=pre.map (λv=>SV.pv (PV.lit v))++(zs.map (λz=>SV.pv (.lit (.int .i64 z)))).take i by
  rw[b,Uj];congr 1;rw[Rg (by simp;omega)],
  show List.drop (pre.length+i+ys.length) (pre.map (λv=>SV.pv (PV.lit v))++(zs.map (λz=>SV.pv (.lit (.int .i64 z)))++a.map λv=>.pv (.lit v)))=(zs.map (λz=>SV.pv (.lit (.int .i64 z)))).drop (i+ys.length)++a.map λv=>.pv (.lit v) by
   rw[Sg,b,Uk,RF (by simp;omega)]]
 simp only[QT,SI,Ue,QD]
theorem vW(pre:List Value)(zs:List Int)(a:List Value){i:Nat}(y:Int)(h:i<zs.length):
 List.take (pre.length+i) (blk pre zs a)++SV.pv (.lit (.int .i64 y))::List.drop (pre.length+i+1) (blk pre zs a)=blk pre (zs.set i y) a:=by
 have:=rJ pre zs a (i:=i) (ys:=[y]) (by simp;omega);simp only[Qw,R1,Ri,QW,QL]at this;rw[this];congr 1;rw[TU,Qb h];simp
theorem FY(pre:List Value)(zs:List Int)(a:List Value)(t:List (List SV))(n:Nat):tv (a8 (blk pre zs a::t) (n+1) 0 pre.length) 1 zs.length=.seq false 1 (zs.map λz=>[.lit (.int .i64 z)]):=by
 have b:=eu pre zs a;have e:(blk pre zs a::t).getD 0 []=blk pre zs a:=rfl;simp only[a8,tv,e,Ql];rw[Qb ⟨trivial,by omega⟩];congr 1;unfold blk;simp only[QT,Ra];rw[Ui (by simp),R4 (by simp),Ra];rfl
theorem fu(k:Nat)(pre:List Value)(zs:List Int)(a:List Value):cT k (blk pre zs a):=by
 refine pE λx hx=>?_;unfold blk at hx;simp only[Qn,Qk]at hx;rcases hx with⟨_,_,rfl⟩|⟨_,_,rfl⟩|⟨_,_,rfl⟩<;>trivial
theorem rK(pre:List Value)(zs:List Int)(a:List Value){i n:Nat}(y:Int)(h:i+n<=zs.length):
 List.take (pre.length+i) (blk pre zs a)++(List.replicate n (SV.pv (.lit (.int .i64 y)))++List.drop (pre.length+i+n) (blk pre zs a))=blk pre (zs.take i++List.replicate n y++zs.drop (i+n)) a:=by
 have:=rJ pre zs a (i:=i) (ys:=List.replicate n y) (by simpa using h);simpa only[SD,SB]using this
theorem rL{g:Gh}{w:World}{arr:Array Value}{bl:Nat->Option Nat}{vs:List Value}(hs:arr.size=vs.length)(h:∀k x,(vs.map (λv=>SV.pv (.lit v)))[k]?=some x->aw g w x (arr.getD k undef) (bl k)):arr=vs.toArray:=by
 apply Array.ext
 .simpa using hs
 .intro i h1 b;have:=h i (.pv (.lit (vs[i]'(by omega)))) (by rw[Qu,P8 (by omega)];rfl);have a:arr.getD i undef=vs[i]'(by omega):=this.2;simpa[Array.getD,h1]using a
def aB(zs:List Int):List (List PV):=zs.map λz=>[.lit (.int .i64 z)]
theorem dL(G:Gh):∀zs:List Int,av G 1 (aB zs) (zs.map (Value.int .i64))
 |[]=>rfl
 |z::zs=>⟨[.int .i64 z],zs.map (Value.int .i64),rfl,⟨rfl,λv a=>by simp at a;subst a;rfl⟩,⟨_,_,rfl,rfl,rfl⟩,dL G zs⟩
theorem bM{G:Gh}:∀{zs:List Int}{vs:List Value},av G 1 (aB zs) vs->vs=zs.map (Value.int .i64)
 |[],_,h=>h
 |z::zs,_,⟨g,i,h1,_,c,d⟩=>by
  obtain⟨v,r,rfl,e,f⟩:=c;have a:v=.int .i64 z:=e;have b:r=[]:=f;subst a b;rw[h1,bM d];rfl
def PJ(k:Option Nat)(off cap:Nat):SV:=match k with
 |none=>.pv (.tup [])
 |some m=>.pv (.bsl 0 1 off m cap)
def PK(k:Option Nat)(p:Option Addr)(cap:Nat):SV:=match k with
 |none=>.pv (.tup [])
 |some m=>.pv (.lit (.slice p m cap))
theorem vz.ofInts{P:Program}{f:FuncId}{zs:List Int}{args:List PV}{R:Option Nat->List (List PV)->Prop}(hc:aF P f=true)(ho:qv args)(V:bP 0 args)
 (h : zs ≠ [] -> ∀ (pre a : List Value) (cap : Nat), zs.length <= cap -> zs.length <= maxLen -> ay P f (.bsl 0 1 pre.length zs.length cap :: args) [blk pre zs a]
  (λr h'=>∃k d,R k (aB d)∧d.length=zs.length∧(∀m,k=some m->m<=zs.length)∧r=PJ k pre.length cap∧h'=[blk pre d a]))
 (h0:zs=[]->∀(p:Option Addr)(cap:Nat),am P f (.lit (.slice p 0 cap)::args) (λr=>∃k,R k []∧(k=none∨k=some 0)∧r=PK k p cap)):
 vz P f 1 (aB zs) args R:=by
 refine⟨hc,λY w c cap arr T pre vs a us h1 h2 Q h4 h5 h6 D=>?_,λE w p cap us h1=>?_⟩
 .have hz:zs≠[]:=λe=>Y (by rw[e];rfl);have H:(aB zs).length=zs.length:=by unfold aB;simp
  have ab:=bM h5;subst ab;rw[H]at Q h4⊢;have ad:c<w.heap.size:=(Qi.1 h1).1;obtain⟨G,l⟩:∃G:Gh,G={I:=λk=>if k=c then none else w.heap[k]?,F:=λ_=>none,B:=0,μ:=λ_=>c,n:=1,n0:=1,N:=1,env:=bN w}:=⟨_,rfl⟩;have K:Sim G ⟨[],[blk pre zs a]⟩ ⟨#[undef],[]⟩ w:=by
   subst l;refine{size:=rfl,defs:=rfl,env:=rfl,n:=rfl,n0:=Qc _,B:=Qq _,I:=λk o hk=>?_,F:=λk o hk=>(by cases hk),μI:=λb V=>⟨by simp,rfl⟩,μinj:=λb b' V g _=>?_,own:=⟨λ_=>none,?_⟩,al:=λs=>trivial}
   .by_cases e:k=c
    .subst e;simp at hk
    .simpa[e]using hk
   .dsimp only at V g;omega
   .refine{slots:=λs=>⟨rfl,trivial⟩,blocks:=λb xs hx=>?_,inj:=λp q k hk=>(by cases hk),free:=λp k hk=>(by cases hk)};cases b with
    |succ b=>simp at hx
    |zero=>
     simp only[Q1,QQ]at hx;subst hx;have aa:arr.size=(blk pre zs a).length:=by rw[eu,←QY,h2];simp only[Qh,Ql]
     refine⟨arr,T,h1,⟨aa,D⟩,λk x hk=>?_⟩;have t:blk pre zs a=arr.toList.map (λv=>.pv (.lit v)):=by
      rw[h2];unfold blk;simp only[QT,Ra,QD];rfl
     rw[t,Qu]at hk;cases A:arr.toList[k]?with
     |none=>rw[A]at hk;cases hk
     |some u=>
      rw[A]at hk;simp only[Q5,QQ]at hk;subst hk;refine⟨rfl,rfl,?_⟩;show arr.getD k undef=u;have:arr[k]?=some u:=by rw[←Qf];exact A
      rw[Qo,this];rfl
  have i:aj G (.bsl 0 1 pre.length zs.length cap::args) (.slice (some ⟨c,pre.length,none⟩) zs.length cap::us):=by
   refine⟨_,_,rfl,?_,?_⟩
   .subst l;exact⟨UP,Q,rfl⟩
   .refine aj.monoC ⟨λk arr' T' fz hk=>?_,λk en ck hk=>?_⟩ _ _ (.inr ho) (.inl rfl) h6
    .obtain⟨M,O⟩:=KX hk;subst l;simpa[M]using O
    .obtain⟨M,O⟩:=KY hk;subst l;simpa[M]using O
  refine((h hz pre a cap Q h4).2 G _ _ w _ K rfl i).mono λe w' ⟨v,r,h',g',E,⟨k,d,r1,r2,r3,r4,r5⟩,t',Z⟩=>?_;subst r4 r5;have C:=Z (some 0) (by subst l;exact UP);have hμ:g'.μ 0=c:=by rw[t'.μ 0 (by subst l;exact UP)];subst l;rfl
  obtain⟨bl,g⟩:=C.own;have j:∀k,k<w.heap.size->k≠c->w'.heap[k]?=w.heap[k]?:=λk hk X=>by
   have hI:G.I k=some w.heap[k]:=by subst l;simp[X]
   rw[C.I _ _ (t'.I _ _ hI),Qv hk]
  refine⟨k,aB d,d.map (Value.int .i64),r1,by unfold aB;simpa using r2,r3,?_,?_,?_,j,?_,λG _=>dL G d⟩
  .rw[E];have h0:=g.slots 0;cases k with
   |none=>
    have y:aw g' w' (.pv (.tup [])) v (bl (.slot 0)):=h0;obtain⟨_,vs,rfl,S⟩:=y;have z:vs.toList=[]:=S;have:vs=#[]:=RP z;rw[this]
   |some m=>
    have y:aw g' w' (.pv (.bsl 0 1 pre.length m cap)) v (bl (.slot 0)):=h0;obtain⟨_,_,_,rfl⟩:=y;rw[hμ]
  .rw[C.env,t'.env];subst l;rfl
  .apply RG;intro J;have W:w'.heap[c]?≠none:=by
    obtain⟨arr',T',b1,_⟩:=g.blocks 0 (blk pre d a) (by cases k<;>rfl);rw[hμ]at b1;rw[b1];simp
   have L:w'.heap[w'.heap.size]?=none:=by simp
   by_cases e:w'.heap.size=c
   .rw[e]at L;exact W L
   .rw[j _ J e,Qv J]at L;cases L
  .obtain⟨arr',T',b1,⟨b2,_⟩,b3⟩:=g.blocks 0 (blk pre d a) (by cases k<;>rfl);rw[hμ]at b1;refine⟨T',?_⟩;rw[b1];have t:blk pre d a=(pre++d.map (Value.int .i64)++a).map (λv=>.pv (.lit v)):=by
    unfold blk;simp only[QT,Ra,QD];rfl
   rw[t,Ql]at b2;rw[rL (bl:=λk=>bl (.cell 0 k)) b2 λk x hk=>(b3 k x (by rw[t];exact hk)).2]
 .have hz:zs=[]:=by
   cases zs with
   |nil=>rfl
   |cons _ _=>unfold aB at E;cases E
  subst hz;have i:aj (dx w) (.lit (.slice p 0 cap)::args) (.slice p 0 cap::us):=⟨_,_,rfl,rfl,h1⟩;refine((h0 rfl p cap).2 w _ i).mono λe w' ⟨v,r,g',o,E,⟨k,r1,r2,r3⟩,U,hF,_,_⟩=>?_;subst r3;refine⟨k,r1,r2,?_,U.env,U.size,λk hk=>U.keep k hk⟩;rw[E];cases k with
  |none=>
   have y:aw g' w' (.pv (.tup [])) v o:=hF;obtain⟨_,vs,rfl,S⟩:=y;have z:vs.toList=[]:=S;have:vs=#[]:=RP z;rw[this]
  |some m=>
   have y:v=.slice p m cap:=hF.2;rw[y]
end Go.AX
namespace Go.AX
theorem aw.le1{g g':Gh}(a:g.le g')(i:g'.B=g.B){w:World}:∀{x:SV}{v:Value}{b:Option Nat},aw g w x v b->aw g' w x v b
 |.pv x,_,_,h=>⟨h.1,Fit.mono a x _ h.2⟩
 |.own _ e rows,_,_,h=>h.imp id λ⟨c,h1,cap,arr,T,vs,d,f,a3,a4,a5,j,k⟩=>⟨c,h1,cap,arr,T,vs,d,f,a3,a4,av.mono a e rows vs a5,j,λhn=>by rw[i];exact k hn⟩
 |.omap _ es,_,_,⟨c,h1,en,ck,d,f,a3,a4⟩=>⟨c,h1,en,ck,d,f,bz.mono a es _ a3,λhn=>by rw[i];exact a4.1 hn,a4.2⟩
 |.opt _ _,_,_,h=>⟨h.1,h.2.1,λm=>aw.le1 a i (h.2.2 m)⟩
 |.al _,_,_,h=>h
 |.loc _ _ _,_,_,h=>h
 |.sptr _ _ _,_,_,h=>h
 |.agl xs,_,_,⟨h,vs,h1,l⟩=>⟨h,vs,h1,aj.mono a _ _ l⟩
theorem ai.last{k0:Nat}{t:List (Nat×SV)}{B:List (List SV)}{x y:List SV}{s0 off:Nat}(ht:jo B.length t)(hB:dy B.length B)(hy:∀v∈y,∃p,v=.pv p∧p.bel B.length)(hk:k0<=B.length):
    ai k0 ⟨(s0,.pv (.ptr (B.length+1) off))::t,B++[x,y]⟩ ⟨(s0,.pv (.ptr B.length off))::t,B++[y]⟩:=λg a w h0 hs=>by
  obtain⟨bl,hbl⟩:=hs.own
  have hn:g.n=B.length+2:=by rw[hs.n];simp
  let g':Gh:={g with n:=B.length+1,μ:=λb=>if b=B.length then g.μ (B.length+1)else g.μ b}
  have hm:∀b,b<B.length->g'.μ b=g.μ b:=λb hb=>by show(if b=B.length then _ else _)=_;rw[Qa (by omega)]
  have hml:g'.μ B.length=g.μ (B.length+1):=by show(if B.length=B.length then _ else _)=_;rw[Qb rfl]
  have hle:({g with n:=B.length}:Gh).le g':=⟨λ_ _ h=>h,Qc _,RO _,λb hb=>hm b hb⟩
  have fit:∀{x:SV}{v:Value}{b:Option Nat},x.bel B.length->aw g w x v b->aw g' w x v b:=λhb h=>aw.le1 hle rfl (aw.below hb h)
  have look1:∀(q:SV) s,s≠s0->look ((s0,q)::t) s=look t s:=λq s h=>by simp only[look];rw[Qa (SJ h)]
  have look0:∀(q:SV),look ((s0,q)::t) s0=q:=λq=>by simp[look]
  have hpos:∀p,(aa ⟨(s0,.pv (.ptr B.length off))::t,B++[y]⟩ p).isOwn=true->aa ⟨(s0,.pv (.ptr B.length off))::t,B++[y]⟩ p=aa ⟨(s0,.pv (.ptr (B.length+1) off))::t,B++[x,y]⟩ p∧an g' a w p=an g a w p:=by
    intro p hp
    cases p with
    |slot s=>
      refine⟨?_,rfl⟩
      simp only[aa]at hp⊢
      by_cases e:s=s0
      · subst e;rw[look0]at hp;cases hp
      · rw[look1 _ s e,look1 _ s e]
    |cell b k=>
      simp only[aa]at hp⊢
      rcases RH b B.length with c|c|c
      · refine⟨by simp[P9,Qd c],?_⟩
        simp only[an];rw[hm b c]
      · subst c
        simp only[P9,Qp (Qc _),RM,Q1,QF]at hp
        cases hq:y[k]?with
        |none=>rw[hq]at hp;cases hp
        |some z=>
          rw[hq]at hp
          obtain⟨p,rfl,_⟩:=hy z (Rh hq)
          cases hp
      · have:(B++[y])[b]?=none:=by rw[QH];simp;omega
        simp only[P9,this,Option.getD_none]at hp
        cases hp
  refine⟨g',⟨λ_ _ h=>h,rfl,rfl,rfl,rfl,rfl,by show g.n0<=B.length+1;omega,λb hb=>hm b (by omega),λ_ _ h=>h⟩,?_⟩
  have lift:∀b,b<B.length+1->∃b',b'<g.n∧g'.μ b=g.μ b'∧((b<B.length∧b'=b)∨(b=B.length∧b'=B.length+1)):=λb hb=>by
    rcases Nat.lt_or_ge b B.length with c|c
    · exact⟨b,by omega,hm b c,.inl ⟨c,rfl⟩⟩
    · have:b=B.length:=by omega
      subst this
      exact⟨B.length+1,by omega,hml,.inr ⟨rfl,rfl⟩⟩
  refine { size := hs.size, defs := hs.defs, env := hs.env, n := by show B.length + 1 = _; simp, n0 := by show g.n0 <= B.length + 1; omega, B := hs.B, I := hs.I, F := hs.F, μI := λ b hb => ?_, μinj := λ b c hb hc e => ?_,
           own:=⟨λp=>match p with|.slot s=>bl (.slot s)|.cell b k=>if b<B.length then bl (.cell b k)else none,?_⟩,al:=λs=>?_}
  · obtain⟨b',h1,h2,_⟩:=lift b hb
    rw[h2];exact hs.μI b' h1
  · obtain⟨b',h1,h2,h3⟩:=lift b hb
    obtain⟨c',i1,i2,i3⟩:=lift c hc
    have:=hs.μinj b' c' h1 i1 (by rw[←h2,←i2];exact e)
    omega
  · have hsub:∀p c,(match p with|.slot s=>bl (.slot s)|.cell b k=>if b<B.length then bl (.cell b k)else none)=some c->bl p=some c:=by
      intro p c hp
      cases p with
      |slot s=>exact hp
      |cell b k=>
        simp only at hp
        split at hp
        · exact hp
        · cases hp
    refine{slots:=λs=>?_,blocks:=λb xs hx=>?_,inj:=λp q c hp hq=>hbl.inj p q c (hsub p c hp) (hsub q c hq),free:=λp c hp=>?_}
    · have h:=hbl.slots s
      simp only at h⊢
      by_cases e:s=s0
      · subst e
        rw[look0]at h⊢
        obtain⟨h1,h2,h3⟩:=h
        exact⟨h1,SH _,by rw[h3,hml]⟩
      · rw[look1 _ s e]at h⊢
        exact fit (gD ht s) h
    · rcases RH b B.length with c|c|c
      · have hx':(B++[x,y])[b]?=some xs:=by
          simp only at hx
          rw[Qd c]at hx⊢;exact hx
        obtain⟨arr,T,e1,e2,e3⟩:=hbl.blocks b xs hx'
        refine⟨arr,T,by rw[hm b c];exact e1,e2,λk z hz=>?_⟩
        simp only[Qb c]
        simp only at hx
        rw[Qd c]at hx
        exact⟨(e3 k z hz).1,fit (iD (iE hB b xs hx) k z hz) (e3 k z hz).2⟩
      · subst c
        have hxy:xs=y:=by
          simp only[Qp (Qc _),RM,Q1,QQ]at hx
          exact hx.symm
        subst hxy
        obtain⟨arr,T,e1,e2,e3⟩:=hbl.blocks (B.length+1) xs (by simp only;rw[Qp (by omega)];simp)
        refine⟨arr,T,by rw[hml];exact e1,e2,λk z hz=>?_⟩
        obtain⟨p,rfl,hp⟩:=hy z (Rh hz)
        simp only[Nat.lt_irrefl,Rs]
        have h:=(e3 k _ hz).2
        exact⟨rfl,fit (x:=.pv p) (b:=none) hp ⟨rfl,h.2⟩⟩
      · simp only at hx
        rw[QH (by simp;omega)]at hx
        cases hx
    · obtain⟨f1,f2,f3,f4⟩:=hbl.free p c (hsub p c hp)
      refine⟨f1,f2,f3,λb hb'=>?_⟩
      obtain⟨b',h1,h2,_⟩:=lift b hb'
      rw[h2];exact f4 b' h1
  · have h:=hs.al s
    simp only at h⊢
    by_cases e:s=s0
    · subst e;rw[look0];trivial
    · rw[look1 _ s e]at h⊢
      exact bV.congr hpos h
theorem am.own0{P:Program}{f:FuncId}{args:List PV}{R R':SV->Prop}(h:am P f args R)(j:∀r,R r->R' r∨(r=.pv (.lit (.slice none 0 0))∧∃nw e,R' (.own nw e []))):am P f args R':=by
 refine⟨h.1,λw vs k=>(h.2 w vs k).mono λe w' ⟨v,r,g',o,h1,g,c,a,i,d⟩=>?_⟩;rcases j r g with b|⟨rfl,nw,e',b⟩
 .exact⟨v,r,g',o,h1,b,c,a,i,d⟩
 .exact⟨v,_,g',o,h1,b,c,.inl ⟨a.1,rfl,a.2⟩,rfl,d⟩
end Go.AX
namespace Go.AX
theorem dY{P:Program}(bad:List Nat){f:FuncId}{fn:Func}{c:Code}{args:List PV}{h:List (List SV)}{R:SV->Prop}(rs:List ResultVar)(h1:List (List SV))(C:h.length<=h1.length)(j:dy h.length h->dy h1.length h1)(aD:P.follows .mixedOrders=true)(B:P.funcs[f]?=some fn)(y:AC P h.length bad c (jA (fP P rs h1 R)) ⟨fE 0 args,h⟩)(b:aF P f=true:=by kernel_rfl)(z:fn.body=some c:=by rfl)(D:fn.results=rs.toArray:=by rfl)(l:mO fn.ntmps bad c=true:=by kernel_rfl)(hn:args.length<=fn.ntmps:=by exact Rb rfl):ay P f args h (λr h'=>h'=h1∧R r):=by
 refine⟨b,λg st a w vs hs m E=>?_⟩;have d:dy h1.length h1:=j (by have:=hs.belH;rwa [hs.n,m]at this);have key:=mA (R:=λr h'=>h'=h1∧R r) aD B b z l hn y λg' st' M w' hk k s'=>?_
 .exact key.2 g st a w vs hs m E
 .obtain⟨F,G,H,I⟩:=hk;obtain⟨g2,p,N,O,J,L,q,u⟩:=mz rs s' F;obtain⟨v,t,x⟩:=gE D (jC rs st') q u;have K:=J.weak (st':=⟨[],(fH P st' rs).2.1.h⟩) rfl λs=>.inr rfl;obtain⟨t4,o⟩:=Sim.dropB (st:=⟨[],(fH P st' rs).2.1.h⟩) (h1:=h1) G (ht:=trivial) d (hs:=K) (h0:=by rw[p.n0];exact QP k C);obtain⟨e,i⟩:=o.own;exact⟨v,_,_,_,e,none,t,p.trans t4,o,i,⟨rfl,I⟩,⟨rfl,Fit.below _ _ H x⟩,rfl,λc A=>by cases A⟩
theorem ai.keep{k0:Nat}{st:St}{t1:List (Nat×SV)}{h1:List (List SV)}(h:Md st.t t1)(a:st.h=h1):ai k0 st ⟨t1,h1⟩:=a▸ai.slots h
theorem ai.nilCell{k0:Nat}{st:St}{b k:Nat}{xs:List SV}(e:Nat)(nw:Bool)(hx:st.h[b]?=some xs)(hk:xs[k]?=some (.pv (.lit (.slice none 0 0)))):ai k0 st ⟨aE (aJ b k 1) st.t,st.h.set b (xs.set k (.own nw e []))⟩:=λg a w _ hs=>by
 obtain⟨bl,f⟩:=hs.own;have d:k<xs.length:=(P7.1 hk).1;obtain⟨arr,T,i,p,j⟩:=f.blocks b xs hx;have l:=(j k _ hk).2;have n:an g a w (.cell b k)=.slice none 0 0:=by
  simp only[an,i];exact l.2
 exact⟨g,hs.refl_to,(hs.adopt f hx d (sv:=.own nw e []) (o:=none) (.inl ⟨rfl,rfl,n⟩) rfl (λc m=>by cases m)).1⟩
end Go.AX
namespace Go.AX
theorem ay.below{P:Program}{f:FuncId}{args:List PV}{h:List (List SV)}{R:SV->List (List SV)->Prop}(d:aF P f=true)(c:dy h.length h->ay P f args h R):ay P f args h R:=
 ⟨d,λg st a w vs hs b e=>(c (by have:=hs.belH;rwa [hs.n,b]at this)).2 g st a w vs hs b e⟩
def Dy:List (List PV)->List (List PV)->Prop
 |[],[]=>True
 |x::xs,y::ys=>bG x y∧Dy xs ys
 |_,_=>False
theorem xZ:∀{a b:List PV},bG a b->a.length=b.length
 |[],[],_=>rfl
 |[],_::_,h=>by simp[bG]at h
 |_::_,[],h=>by simp[bG]at h
 |x::a,y::b,h=>by
  simp only[bG]at h;rw[QA,QA,xZ h.2]
theorem rT:∀{a b:List (List PV)},Dy a b->a.length=b.length
 |[],[],_=>rfl
 |[],_::_,h=>h.elim
 |_::_,[],h=>h.elim
 |x::a,y::b,h=>by rw[QA,QA,rT h.2]
theorem av.wk{g:Gh}{e:Nat}:∀{a b:List (List PV)}{vs:List Value},Dy a b->av g e a vs->av g e b vs
 |[],[],_,_,h=>h
 |[],_::_,_,h,_=>h.elim
 |_::_,[],_,h,_=>h.elim
 |x::a,y::b,_,h,⟨j,k,h1,⟨d,c⟩,f,i⟩=>⟨j,k,h1,⟨by rw[←xZ h.1];exact d,c⟩,oC _ _ _ h.1 f,av.wk h.2 i⟩
def Pq:PV->PV->Prop
 |.seq nw e rows,.seq b e' a=>(b=true->nw=true)∧e=e'∧Dy rows a
 |x,y=>bI x y
theorem Ge{g:Gh}{x y:PV}{v:Value}(h:Pq x y)(j:Fit g x v):Fit g y v:=by
 unfold Pq at h;split at h
 .rename_i nw e rows m e' d;obtain⟨hn,rfl,f⟩:=h;obtain⟨p,cap,h1,k,i⟩:=j;refine⟨p,cap,by rw[←rT f];exact h1,by rw[←rT f];exact k,?_⟩;rcases i with i|⟨c,off,arr,T,fz,vs,a,b,n,r,q⟩
  .subst i;cases d with
   |nil=>exact .inl rfl
   |cons _ _=>exact f.elim
  .exact .inr ⟨c,off,arr,T,fz,vs,a,b,λl=>n (hn l),av.wk f r,q⟩
 .exact vS _ _ _ h j
def Gf:List PV->List PV->Prop
 |[],[]=>True
 |x::xs,y::ys=>Pq x y∧Gf xs ys
 |_,_=>False
theorem Co{g:Gh}:∀{xs ys:List PV}{vs:List Value},Gf xs ys->aj g xs vs->aj g ys vs
 |[],[],_,_,h=>h
 |[],_::_,_,h,_=>h.elim
 |_::_,[],_,h,_=>h.elim
 |_::_,_::_,_,h,⟨v,r,h1,a,b⟩=>⟨v,r,h1,Ge h.1 a,Co h.2 b⟩
theorem ay.argsA{P:Program}{f:FuncId}{xs ys:List PV}{h:List (List SV)}{R:SV->List (List SV)->Prop}(b:ay P f ys h R)(e:Gf xs ys):ay P f xs h R:=
 ⟨b.1,λg st a w vs hs c d=>b.2 g st a w vs hs c (Co e d)⟩
theorem ah.introE{P:Program}{st:St}{ok:Prop}{f k:FuncId}{y p q b:List PV}{h1:List (List SV)}{d:Option Tmp}{K:St->Prop}{x:Operand}{args:Array Operand}{R:SV->List (List SV)->Prop}
 (i:ay P f b h1 R) (n:gc st x) (m:bq st x=some (f,p,q)) (u:(cQ st args.toList).2.2) (s:(cQ st args.toList).2.1.h=h1) (v:Gf (p++((cQ st args.toList).1++q)) b)
 (j:∀r h',R r h'->K (iv d r ⟨aE ep (cQ st args.toList).2.1.t,h'⟩)):ah P st ok k y d K x args:=by
 subst s;exact ah.introX λo e ho hd g a w hs l K' Q c=>zV hs o x args e f p q ho n m u (hd▸l) (hd▸⟨R,i.argsA v,j⟩) c
theorem am.wk{P:Program}{f:FuncId}{args:List PV}{R R':SV->Prop}(h:am P f args R)(i:∀r,R r->∃x y,r=.pv x∧bI x y∧R' (.pv y)):am P f args R':=
 ⟨h.1,λw vs j=>(h.2 w vs j).mono λe w' ⟨v,r,g',o,h1,b,c,a,l,d⟩=>by
  obtain⟨x,y,rfl,k,g⟩:=i r b;exact⟨v,.pv y,g',o,h1,g,c,⟨a.1,vS x y v k a.2⟩,rfl,d⟩⟩
end Go.AX
namespace Go.AX
def Lt(b:Nat)(k:Option Nat)(off cap:Nat):SV:=match k with
 |none=>.pv (.tup [])
 |some m=>.pv (.bsl b 1 off m cap)
theorem Sim.toBlk{g:Gh}{st:St}{a:Act}{w:World}(h:Sim g st a w){bl:Pos->Option Nat}(hb:Owns g st a w bl){s c:Nat}(hbc:bl (.slot s)=some c){arr:Array Value}{T:TypeId}(hcell:w.heap[c]?=some (.cells arr T (0,0)))(hone:∀v∈arr.toList,v.oneCell'=true)
    {xs:List SV} (hx:xs=arr.toList.map λv=>.pv (.lit v)):
    Sim {g with n:=g.n+1,n0:=g.n+1,μ:=λb=>if b=g.n then c else g.μ b} ⟨(s,.pv .bot)::st.t,st.h++[xs]⟩ a w:=by
  obtain⟨s0,bl0,hb0,_,_,hfree⟩:=h.drop hb (.slot s)
  obtain⟨f1,f2,f3,f4⟩:=hfree c hbc
  have hle:g.le {g with n:=g.n+1,n0:=g.n+1,μ:=λb=>if b=g.n then c else g.μ b}:=⟨λ_ _ h=>h,Qc _,RO _,λb hb=>Qa (by omega)⟩
  have hn:=h.n
  refine{size:=h.size,defs:=h.defs,env:=h.env,n:=by simp[hn],n0:=Qc _,B:=h.B,I:=h.I,F:=h.F,μI:=λb hb=>?_,μinj:=λb b' hb hb' he=>?_,own:=⟨λp=>match p with|.slot u=>bl0 (.slot u)|.cell b k=>if b=g.n then none else bl0 (.cell b k),?_⟩,al:=λu=>?_}
  · by_cases e:b=g.n
    · simp only[e,RV];exact⟨f1,f2⟩
    · simp only[e,Rs];exact h.μI b (by have:b<g.n+1:=hb;omega)
  · have hb1:b<g.n+1:=hb
    have hb1':b'<g.n+1:=hb'
    by_cases e:b=g.n
    · by_cases e':b'=g.n
      · omega
      · simp only[e,e',RV,Rs]at he
        exact absurd he.symm (f3 b' (by omega))
    · by_cases e':b'=g.n
      · simp only[e,e',RV,Rs]at he
        exact absurd he (f3 b (by omega))
      · simp only[e,e',Rs]at he
        exact h.μinj b b' (by omega) (by omega) he
  · refine{slots:=λu=>aw.frame hle (λ_ _=>rfl) (hb0.slots u),blocks:=λb ys hy=>?_,inj:=λp q k hp hq=>?_,free:=λp k hp=>?_}
    · by_cases e:b=g.n
      · subst e
        rw[hn,Qp (Qc _),RM]at hy
        simp only[Q1,QQ]at hy
        subst hy
        refine⟨arr,T,by simp only[RV];exact hcell,⟨by rw[hx];simp,hone⟩,λk x hk=>?_⟩
        rw[hx,Qu]at hk
        cases hk2:arr.toList[k]?with
        |none=>rw[hk2]at hk;cases hk
        |some v=>
          rw[hk2]at hk
          simp only[Q5,QQ]at hk
          subst hk
          refine⟨rfl,by simp,?_⟩
          show arr.getD k undef=v
          have:arr[k]?=some v:=by rw[←Qf];exact hk2
          rw[Qo,this];rfl
      · have hlt:b<st.h.length:=by
          have:=(P7.1 hy).1
          simp only[Qh,Ri]at this
          omega
        rw[Qd hlt]at hy
        obtain⟨arr',T',h1,h2,h3⟩:=hb0.blocks b ys hy
        refine⟨arr',T',by simp only[e,Rs];exact h1,h2,λk x hk=>?_⟩
        simp only[e,Rs]
        exact⟨(h3 k x hk).1,aw.frame hle (λ_ _=>rfl) (h3 k x hk).2⟩
    · cases p with
      |slot u=>cases q with
        |slot v=>exact hb0.inj _ _ k hp hq
        | cell b j => dsimp only at hq; split at hq
                      · cases hq
                      · exact hb0.inj _ _ k hp hq
      |cell b j=>
        dsimp only at hp;split at hp
        · cases hp
        · cases q with
          |slot v=>exact hb0.inj _ _ k hp hq
          | cell b2 j2 => dsimp only at hq; split at hq
                          · cases hq
                          · exact hb0.inj _ _ k hp hq
    · have hp0:bl0 p=some k:=by
        cases p with
        |slot u=>exact hp
        | cell b j => dsimp only at hp; split at hp
                      · cases hp
                      · exact hp
      obtain⟨q1,q2,q3,q4⟩:=hb0.free p k hp0
      refine⟨q1,q2,q3,λb hb=>?_⟩
      by_cases e:b=g.n
      · simp only[e,RV];intro e2;exact f4 p (e2▸hp0)
      · simp only[e,Rs];exact q4 b (by have:b<g.n+1:=hb;omega)
  · refine bV.congr (λp hp=>?_) (s0.al u)
    cases p with
    |slot v=>exact⟨rfl,rfl⟩
    |cell b k=>
      have hlt:b<st.h.length:=by
        apply SN
        intro hge
        simp only[aa]at hp
        by_cases e:b=st.h.length
        · subst e
          have h8:(st.h++[xs]).getD st.h.length []=xs:=by simp[P9]
          rw[h8,hx,P9,Qu]at hp
          cases h9:arr.toList[k]?<;>rw[h9]at hp<;>cases hp
        · have h8:(st.h++[xs]).getD b []=[]:=by rw[P9,QH (by simp;omega)];rfl
          rw[h8]at hp
          cases hp
      refine⟨?_,?_⟩
      · simp only[aa,setPos,P9]
        rw[Qd hlt]
      · have e:b≠g.n:=by omega
        simp only[an,e,Rs]
theorem Sim.fromBlk{g g1 g':Gh}{st:St}{a:Act}{w w':World}(h:Sim g st a w){s c n cap:Nat}{nw:Bool}{all all':List Int}{L:List (List SV)}{rest:List Value}
 (O:look st.t s=.own nw 1 (aB all)) (hv:a.tmps.getD s undef=.slice (some ⟨c,0,none⟩) all.length cap) (l:all.length<=cap∧cap<=maxLen∧all.length+rest.length=cap) (Y:nw=true->g.B<=c) (z:all'.length=all.length)
 (d:g1={g with n:=g.n+1,n0:=g.n+1,μ:=λb=>if b=g.n then c else g.μ b}) (ht:g1.to g') (S0:Sim g' ⟨aE ep ((s,.pv .bot)::st.t),L++[blk [] all' rest]⟩ a w') (R:L.length=st.h.length) (U:jo st.h.length st.t) (T:dy st.h.length L) (hn:n=st.h.length):
 g.to {g' with n:=g.n,n0:=g.n0}∧Sim {g' with n:=g.n,n0:=g.n0} ⟨(s,.own nw 1 (aB all'))::aE ep st.t,L⟩ a w'∧g'.μ g.n=c:=by
 subst hn;have m:=h.n;have y:g'.μ g.n=c:=by rw[ht.μ g.n (by rw[d];exact SH _),d];simp
 have hμ:∀b,b<g.n->g'.μ b=g.μ b:=λb j=>by
  rw[ht.μ b (by rw[d];exact Tx j),d];exact Qa (by omega)
 have i:g'.n=g.n+1:=by rw[S0.n];simp[R,m]
 have hB:g'.B=g.B:=by rw[ht.B,d]
 have hN:g'.N=g.N:=by rw[ht.N,d]
 obtain⟨E,f⟩:=S0.own;have H:=S0.μI g.n (by omega);rw[y]at H;have P:∀q,E q≠some c:=λq K=>(f.free q c K).2.2.2 g.n (by omega) y;obtain⟨arr',T',b1,⟨b2,Q⟩,b3⟩:=f.blocks g.n (blk [] all' rest) (by show(L++_)[g.n]?=_;rw[m,←R,Qp (Qc _),RM];rfl);rw[y]at b1;have C:blk [] all' rest=(all'.map (Value.int .i64)++rest).map λv=>.pv (.lit v):=by
  unfold blk;simp only[QT,Ra,R1,QL];rfl
 have A:arr'=(all'.map (Value.int .i64)++rest).toArray:=by
  rw[C,Ql]at b2;exact rL (bl:=λk=>E (.cell g.n k)) b2 λk x hk=>(b3 k x (by rw[C];exact hk)).2
 have hle:({g' with n:=g.n}:Gh).le {g' with n:=g.n,n0:=g.n0}:=⟨λ_ _ h=>h,Qc _,Qc _,λ_ _=>rfl⟩;refine⟨⟨λk o hk=>ht.I k o (by rw[d];exact hk),by rw[ht.F,d],hB,rfl,hN,by rw[ht.env,d],h.n0,λb j=>hμ b (Rk j h.n0),λk hF hI=>ht.FI k (by rw[d];exact hF) (by rw[d];exact hI)⟩,?_,y⟩;refine{size:=S0.size,defs:=S0.defs,env:=S0.env,n:=by rw[m,←R],n0:=h.n0,B:=S0.B,I:=S0.I,F:=S0.F,μI:=λb j=>S0.μI b (by rw[i];exact Tx j),μinj:=λb b' j f V=>S0.μinj b b' (by rw[i];exact Tx j) (by rw[i];exact Tx f) V,own:=⟨λp=>if p=.slot s then some c else E p,?_⟩,al:=λu=>?_}
 .refine{slots:=λu=>?_,blocks:=λb ys hy=>?_,inj:=λp q k hp K=>?_,free:=λp k hp=>?_}
  .by_cases e:s=u
   .subst e;simp only[look,RV];refine .inr ⟨c,rfl,cap,arr',T',all'.map (Value.int .i64),?_,b1,?_,⟨?_,l.2.1,Q⟩,dL _ _,?_,λhn=>by show g'.B<=c;rw[hB];exact Y hn⟩
    .rw[hv];unfold aB;simp[z]
    .rw[A];simp[z];exact l.2.2
    .unfold aB;simp[z];exact l.1
    .rw[A];exact⟨rest,rfl⟩
   .have e2:¬(Pos.slot u=Pos.slot s):=λe3=>e (by cases e3;rfl);simp only[look,Qa e,Qa e2,aU];have h1:=f.slots u;simp only[aU,look,Qa e]at h1;refine aw.frame hle (λ_ _=>rfl) (aw.below ?_ h1);rcases bn ep (look st.t u)with G|⟨G,_⟩
    .rw[G];trivial
    .rw[G,m];exact gD U u
  .have W:=(P7.1 hy).1;obtain⟨M,T2,d1,d2,d3⟩:=f.blocks b ys (by show(L++_)[b]?=_;rw[Qd W];exact hy);refine⟨M,T2,d1,d2,λk x hk=>⟨(d3 k x hk).1,?_⟩⟩;rw[Qa (by intro e;cases e)];refine aw.frame hle (λ_ _=>rfl) (aw.below ?_ (d3 k x hk).2);rw[m];exact iD (iE T b ys hy) k x hk
  .split at hp
   .rename_i e;split at K
    .rename_i e';rw[e,e']
    .cases hp;exact absurd K (P q)
   .split at K
    .cases K;exact absurd hp (P p)
    .exact f.inj p q k hp K
  .split at hp
   .cases hp
    refine⟨H.1,H.2,(Qi.1 b1).1,λb j e=>?_⟩;have ab:b<g.n:=j;have:=S0.μinj b g.n (by omega) (by omega) (by rw[y];exact e);omega
   .obtain⟨q1,q2,q3,q4⟩:=f.free p k hp;exact⟨q1,q2,q3,λb j=>q4 b (by rw[i];exact Tx j)⟩
 .by_cases e:s=u
  .subst e;simp only[look,RV];trivial
  .simp only[look,Qa e,aU];rcases bn ep (look st.t u)with G|⟨G,S⟩
   .rw[G];trivial
   .rw[G];have D:(aa st (.slot s)).isOwn=true:=by show(look st.t s).isOwn=true;rw[O];rfl
    have h3:bV g (setPos st (.slot s) (.own nw 1 (aB all'))) a w (look st.t u) (a.tmps.getD u undef):=by
     refine bV.write (p:=.slot s) (sv':=.own nw 1 (aB all')) (λr hr=>cP st _ r _ (SJ hr)) (cq D) D (λ_ _=>rfl) (λad e' Z V=>?_) (h.al u);cases V
     exact⟨nw,aB all,O,by unfold aB;simp[z]⟩
    refine bV.congrA (q:=ep) (λp hp J=>?_) S h3;cases p with
    |cell b k=>cases hp
    |slot v=>
     refine⟨?_,rfl⟩;simp only[aa,setPos,look]at J⊢;split
     .rfl
     .rename_i X;rw[Qa X,aU]at J;rw[aU];exact dV J
theorem cd.introB{P:Program}{st:St}{f:FuncId}{d:Option Tmp}{K:St->Prop}{c:Operand}{args:Array Operand}{q:List PV}{x:Operand}{xs:List Operand}{s lo hi:Nat}{nw:Bool}{all zs:List Int}{va:List PV}{R:Option Nat->List Int->List (List SV)->Prop}
 (F:look st.t s=.own nw 1 (aB all)) (ar:gc st c) (U:bq st c=some (f,[],q)) (ha:args.toList=x::xs) (hp:partOf st x=some (.slot s,lo,hi)) (hg:gc st x) (aM:lo<hi) (hz:(all.take hi).drop lo=zs)
 (hT:jo st.h.length st.t) (ax:mU st xs) (aH:iX st xs++q=va)
 (h : ∀ (pre ah : List Value) (cap : Nat), zs.length <= cap -> pre.length = lo -> ay P f (.bsl st.h.length 1 pre.length zs.length cap :: va) (st.h ++ [blk pre zs ah])
  (λr h'=>∃k e y,R k e y∧e.length=zs.length∧(∀m,k=some m->m<=zs.length)∧y.length=st.h.length∧dy st.h.length y∧r=Lt st.h.length k pre.length cap∧h'=y++[blk pre e ah]))
 (hK:∀k e y,R k e y->e.length=zs.length->(∀m,k=some m->m<=zs.length)->K (Dg d k (.slot s) lo ⟨(s,.own nw 1 (aB (all.take lo++e++all.drop hi)))::aE ep st.t,y⟩)):cd P st c args d K:=by
 subst aH;intro o aO ho W g a w hs hd K' Q D;obtain⟨u,v,hx,hu,aG⟩:=eI hs ar U;have aD:u.toList=[]:=hu;obtain⟨aJ,A,rows1,av,j1,j2,q0,cap,jv,jc,jq,jz⟩:=ms hs hg hp;have C:look st.t s=.own aJ A rows1:=av;rw[F]at C;cases C
 have l:(aB all).length=all.length:=by unfold aB;simp
 rw[l]at j2;obtain⟨bl,hb⟩:=hs.own;have Y:=hb.slots s;rw[F]at Y;rcases Y with⟨_,A,_⟩|⟨cc,ak,L,arr,T,vs,A,e2,e3,e4,e5,e6,e7⟩
 .rw[A]at l;simp at l;omega
 have aI:=bM e5;subst aI;obtain⟨rest,p⟩:=e6;rw[l]at A e4;have az:q0=some ⟨cc,lo,none⟩:=by
  rcases jq with jq|⟨c1,n1,cp,h5,h6⟩
  .omega
  .have M:a.tmps.getD s undef=.slice (some ⟨c1,0,none⟩) n1 cp:=h5;rw[A]at M;cases M;rw[h6,TG]
 subst az;have H:zs.length=hi -lo:=by rw[←hz,QS,Qg];omega
 have z:all=all.take lo++zs++all.drop hi:=by
  rw[←hz];have h8:all.take lo=(all.take hi).take lo:=by rw[UW,Rz (by omega)]
  rw[h8,Q7,Q7]
 have B:∀e:List Int,blk ((all.take lo).map (Value.int .i64)) e ((all.drop hi).map (Value.int .i64)++rest)=blk [] (all.take lo++e++all.drop hi) rest:=λe=>by
  unfold blk;simp only[QT,Ra,R1,QL,QD];rfl
 have S:arr.toList.map (λv=>SV.pv (.lit v))=blk [] all rest:=by
  rw[←p];unfold blk;simp only[QT,Ra,R1,QL];rfl
 have S1:=hs.toBlk hb ak e2 e4.2.2 (xs:=blk [] all rest) S.symm;obtain⟨I,j⟩:∃I:Gh,I={g with n:=g.n+1,n0:=g.n+1,μ:=λb=>if b=g.n then cc else g.μ b}:=⟨_,rfl⟩;rw[←j]at S1;have hle:g.le I:=by subst j;exact⟨λ_ _ h=>h,Qc _,RO _,λb hb=>Qa (by omega)⟩
 have ad:((all.take lo).map (Value.int .i64)).length=lo:=by rw[Ql,Qg];omega
 obtain⟨i,hA⟩:=h ((all.take lo).map (Value.int .i64)) ((all.drop hi).map (Value.int .i64)++rest) cap (by omega) ad;rw[B,←z,ad,H]at hA;have X:aj I (.bsl st.h.length 1 lo (hi -lo) cap::(iX st xs++q)) (a.eval x::(xs.map a.eval++v.toList)):=by
  refine⟨_,_,rfl,⟨?_,jc,?_⟩,aj.append (aj.mono hle _ _ (lM hs xs ax)) (aj.mono hle _ _ aG)⟩
  .rw[j,hs.n];exact SH _
  .rw[jv,j,hs.n];simp
 have aA:(a.eval x::(xs.map a.eval++v.toList)).toArray=u++args.map a.eval++v:=by
  apply RP;simp[aD,ha]
 have ae:(execOp a.eval o).run P w=.ok (.enter f (u++args.map a.eval++v)) w:=by
  unfold aF at i;split at i
  case h_2=>cases i
  rename_i fn aq;simp only[Qj,QZ]at i;simp only[execOp,ho,resolve,hx,Deferred.ofValue,invoke,callFunc,Sem.run_bind,Sem.run_pure,Result.andThen_ok,run_program,aq,i.1,i.2,QX,Rs]
 unfold Oper.wp;rw[ae,Oper.upon_enter,←aA];refine(hA I _ a w _ S1 rfl X).mono λe9 w' ⟨v9,r,h',g',he,⟨k,e,y,r1,r2,r3,r4,r5,r6,r7⟩,t',af⟩=>?_;subst he r6 r7;have E:=hK k e y r1 (by rw[H];exact r2) (by rw[H];exact r3);have S0:=af none trivial;have S0':Sim g' ⟨aE ep ((s,.pv .bot)::st.t),y++[blk [] (all.take lo++e++all.drop hi) rest]⟩ a w':=by
  rw[←B];exact S0
 have O:(all.take lo++e++all.drop hi).length=all.length:=by simp only[Qh,Qg,QS,r2];omega
 have aC:all.length+rest.length=L:=by
  have:arr.size=arr.toList.length:=(QY ..).symm;rw[←p]at this;simp only[Qh,Ql]at this;omega
 obtain⟨f1,f2,f3⟩:=hs.fromBlk (all':=all.take lo++e++all.drop hi) F A ⟨e4.1,e4.2.1,aC⟩ e7 O j t' S0' r4 hT r5 rfl;cases d with
 |none=>rw[W];exact D _ _ _ _ E f1 f2
 |some d=>
  have V:d<g'.N:=by rw[t'.N,j];exact hd
  have an:b9 I.N (some d):=by rw[j];exact hd
  have Sd:=af (some d) an;obtain⟨J,ai⟩:=Sd.own;have G:=ai.slots d;have ao:d<a.tmps.size:=by rw[hs.size];exact hd
  rw[ed ao,Qb rfl]at G;rw[W];cases k with
  |none=>
   have h7:aw g' w' (.pv (.tup [])) v9 (J (.slot d)):=by simpa[Lt,iv,St.put,look]using G
   refine D _ _ _ _ E f1 (f2.put V ⟨rfl,h7.2⟩ trivial rfl)
  |some m=>
   have h7:aw g' w' (.pv (.bsl st.h.length 1 lo m cap)) v9 (J (.slot d)):=by simpa[Lt,iv,St.put,look]using G
   obtain⟨_,_,au,ag⟩:=h7;have hm:=r3 m rfl;refine D _ _ _ _ E f1 (f2.put V rfl ?_ rfl);intro aN aL aK ab;simp only[aa,look,RV]at ab;cases ab
   have Z:lo+m -lo=m:=by omega
   rw[←hs.n,f3]at ag;refine⟨by omega,by rw[show(aB (all.take lo++e++all.drop hi)).length=all.length by unfold aB;rw[Ql,O]];omega,_,_,by rw[Z];exact ag,by rw[Z];exact au,.inr ⟨cc,_,_,A,by rw[TG]⟩,λh0=>?_⟩;exact jz h0
end Go.AX
namespace Go.AX
open Go.Proofs Go.Shelf
theorem gA(c:Nat):∀(vs:List Value)(o:Nat)(w:World)(arr:Array Value)(T:TypeId)(fz:Nat×Nat),w.heap[c]?=some (.cells arr T fz)->o+vs.length<=arr.size->
 (w.setCells c o vs).heap[c]?=some (.cells (arr.toList.take o++vs++arr.toList.drop (o+vs.length)).toArray T fz)∧(∀k,k≠c->(w.setCells c o vs).heap[k]?=w.heap[k]?)∧(w.setCells c o vs).heap.size=w.heap.size∧bN (w.setCells c o vs)=bN w
 |[],o,w,arr,T,fz,h,b=>by
  refine⟨?_,λ_ _=>rfl,rfl,rfl⟩;rw[World.setCells,h];simp
 |v::r,o,w,arr,T,fz,h,b=>by
  simp only[QA]at b;have l:c<w.heap.size:=(Qi.1 h).1;have h1:(w.setCell ⟨c,o,none⟩ v).heap[c]?=some (.cells (arr.setIfInBounds o v) T fz):=by
   show(w.heap.modify c _)[c]?=_;rw[RR,Qb rfl,h];simp
  have i:∀k,k≠c->(w.setCell ⟨c,o,none⟩ v).heap[k]?=w.heap[k]?:=λk hk=>by
   show(w.heap.modify c _)[k]?=_;rw[RR,Qa (SJ hk)]
  have j:(w.setCell ⟨c,o,none⟩ v).heap.size=w.heap.size:=by
   show(w.heap.modify c _).size=_;rw[Sx]
  obtain⟨f,g2,g3,g⟩:=gA c r (o+1) (w.setCell ⟨c,o,none⟩ v) _ T fz h1 (by simp;omega);rw[World.setCells];refine⟨?_,λk hk=>(g2 k hk).trans (i k hk),g3.trans j,g.trans rfl⟩;rw[f];congr 2;simp only[Tz,QA];have m:arr.toList.length=arr.size:=QY;have ho:o<arr.toList.length:=by omega
  have a:(arr.toList.take o).length=o:=by rw[Qg];omega
  have d:(arr.toList.set o v).take (o+1)=arr.toList.take o++[v]:=by
   rw[TU,Qb ho,List.take_append,a,QM (by omega),Sr];rfl
  have e:(arr.toList.set o v).drop (o+1+r.length)=arr.toList.drop (o+(r.length+1)):=by
   rw[TJ (by omega)];congr 1;omega
  rw[d,e];simp
theorem cW(l:List Int):(aB l).length=l.length:=by unfold aB;simp
theorem si{l:List Value}{xs:List Value}(h:xs<+:l){j:Nat}{v:Value}(hj:xs[j]?=some v):l[j]?=some v:=by
 obtain⟨r,rfl⟩:=h;rw[Qd (P7.1 hj).1];exact hj
theorem cd.introI{P:Program}{ρ:Ren}(L:Lays2.n21 P ρ)(i:aF P (ρ.f 21)=true){st:St}{d:Option Tmp}{K:St->Prop}{cx:Operand}{args:Array Operand}{x0 k y:Operand}{ps py:Pos}{hi:Nat}{zs:List Int}{nw aZ:Bool}{x:Int}
    (aJ:gc st cx) (aE:bq st cx=some (ρ.f 21,[],[])) (ha:args.toList=[x0,k,y]) (hp:partOf st x0=some (ps,0,hi)) (aI:gc st x0) (aK:gc st k) (hk:mv st k=.pv (.lit (.int .i64 0))) (aL:gc st y) (hy:partOf st y=some (py,0,1))
    (W:aa st py=.own aZ 1 (aB [x])) (aO:ps≠py) (G:aa st ps=.own nw 1 (aB zs)) (aP:hi<zs.length)
    (hK:K (Dg d (some (hi+1)) ps 0 (setPos st ps (.own nw 1 (aB (x::(zs.take hi++zs.drop (hi+1)))))))):cd P st cx args d K:=by
  intro o a6 ho r g a w h hd K' Q ab
  obtain⟨u,v,hx,hu,aS⟩:=eI h aJ aE
  have aR:u=#[]:=RP hu
  have aT:v=#[]:=RP aS
  subst aR aT
  obtain⟨bl,hb⟩:=h.own
  have m:(aa st ps).isOwn=true:=by rw[G];rfl
  have V:(aa st py).isOwn=true:=by rw[W];rfl
  -- the slice
  obtain⟨aY,e1,rows1,au,j1,j2,q0,cap,jv,jc,_,jz⟩:=ms h aI hp
  rw[G]at au;cases au
  obtain⟨n0,ao⟩:=jz rfl
  have ah:=bf hb m
  rw[G]at ah
  rcases ah with⟨_,A,_⟩|⟨c,R,a1,arr,T,vs,f1,Y,f3,f4,f5,f6,f7⟩
  · have:=SK List.length A
    rw[cW,List.length_nil]at this
    omega
  rw[f1]at ao
  cases ao
  have aU:=bM f5
  subst aU
  have U:(aB zs).length=zs.length:=by unfold aB;simp
  rw[U]at f4
  have a3:arr.toList.length=arr.size:=QY
  -- the number
  obtain⟨a5,e3,a0,O,_,_,qy,p,aW,_,_,aX⟩:=ms h aL hy
  rw[W]at O;cases O
  obtain⟨n1,aq⟩:=aX rfl
  have aj:=bf hb V
  rw[W]at aj
  rcases aj with⟨_,A,_⟩|⟨c2,ae,a2,Z,T2,a7,y1,y2,y3,y4,y5,y6,y7⟩
  · simp[aB]at A
  rw[y1]at aq
  cases aq
  have ay:=bM y5
  subst ay
  have aD:c2≠c:=λe=>aO (hb.inj ps py c R (e▸ae))
  -- the place
  have aN:a.eval k=.int .i64 0:=by
    obtain⟨hf,_⟩:=aM h k aK
    rw[hk]at hf
    exact hf.2
  have ad:(#[]++args.map a.eval++#[])=#[.slice (some ⟨c,0,none⟩) (hi -0) cap,.int .i64 0,.slice (some ⟨c2,0,none⟩) 1 p]:=by
    apply RP
    simp[ha,jv,aN,aW]
  have aw:(execOp a.eval o).run P w=.ok (.enter (ρ.f 21) (#[]++args.map a.eval++#[])) w:=by
    unfold aF at i
    split at i
    case h_2=>cases i
    rename_i fn aH
    simp only[Qj,QZ]at i
    simp only[execOp,ho,resolve,hx,Deferred.ofValue,invoke,callFunc,Sem.run_bind,Sem.run_pure,Result.andThen_ok,run_program,aH,i.1,i.2,QX,Rs]
  have I:cap<=9223372036854775807:=by have:=f4.2.1;unfold maxLen at this;omega
  have S:∀j v,((zs.take hi).map (Value.int .i64))[j]?=some v->w.cell? ⟨c,0+j,none⟩=some v:=λj v hj=>by
    rw[Q2,cell_of Y,←Qf]
    refine si f6 ?_
    rw[Qu]at hj⊢
    by_cases e:j<hi
    · rw[Re,Qb e]at hj
      exact hj
    · rw[Re,Qa e]at hj
      simp at hj
  have C:∀j,j<hi+1->(w.cell? ⟨c,0+j,none⟩).isSome=true:=λj hj=>by
    rw[Q2,cell_of Y,Qv (by omega)];rfl
  have ai:∀j,w.frozen? ⟨c,j,none⟩=false:=λj=>by simp[World.frozen?,Y]
  have J:∀j,w.frozen? ⟨c2,j,none⟩=false:=λj=>by simp[World.frozen?,y2]
  have q:∀j v,([Value.int .i64 x]:List Value)[j]?=some v->w.cell? ⟨c2,0+j,none⟩=some v:=λj v hj=>by
    rw[Q2,cell_of y2,←Qf]
    exact si y6 (by simpa using hj)
  have M:∀v∈[Value.int .i64 x],v.oneCell'=true:=λv D=>by simp at D;subst D;rfl
  have B:∀v∈(zs.take hi).map (Value.int .i64),v.oneCell'=true:=λv D=>by
    obtain⟨z,_,rfl⟩:=Qk.1 D
    rfl
  have H:((zs.take hi).map (Value.int .i64)).length=hi:=by simp;omega
  have E:Calls P (ρ.f 21) #[.slice (some ⟨c,0,none⟩) (hi -0) cap,.int .i64 0,.slice (some ⟨c2,0,none⟩) 1 p] w λe w'=>
      e=.returned (.slice (some ⟨c,0,none⟩) (hi+1) cap)∧w'.heap[c]?=some (.cells ((Value.int .i64 x::(zs.take hi).map (Value.int .i64))++arr.toList.drop (hi+1)).toArray T (0,0))∧(∀k,k≠c->w'.heap[k]?=w.heap[k]?)∧w'.heap.size=w.heap.size∧bN w'=bN w:=by
    rw[T8]
    by_cases hz:hi=0
    · subst hz
      refine(Any2.slices_Insert_int_end_room L c 0 0 cap c2 0 1 p [.int .i64 x] w (by omega) (by omega) I rfl (λj hj=>by simpa using C j (by omega)) (λj _=>ai _) q M).mono λe w' ⟨he,hw⟩=>?_
      obtain⟨s1,s2,s3,s4⟩:=gA c [.int .i64 x] 0 w arr T (0,0) Y (by simp;omega)
      subst hw
      refine⟨he,?_,s2,s3,s4⟩
      rw[s1]
      simp
    · refine(Any2.slices_Insert_int_shift L c 0 hi cap 0 c2 0 1 p ((zs.take hi).map (Value.int .i64)) [.int .i64 x] w (by omega) (by omega) (by omega) I aD H rfl S C (λj _=>ai _) q B M T2 T Z.size arr.size (by simp[World.shape?,y2]) (by simp[World.shape?,Y]) (by omega) (J _) (J _)).mono λe w' ⟨he,hw⟩=>?_
      have aA:w.drew.heap[c]?=some (.cells arr T (0,0)):=Y
      obtain⟨s1,s2,s3,s4⟩:=gA c ((zs.take hi).map (Value.int .i64)) 1 w.drew arr T (0,0) aA (by rw[H];omega)
      obtain⟨r1,r2,r3,r4⟩:=gA c [.int .i64 x] 0 _ _ T (0,0) s1 (by simp;omega)
      have aV:w'=(w.drew.setCells c 1 ((zs.take hi).map (Value.int .i64))).setCells c 0 [.int .i64 x]:=by simpa using hw
      rw[aV]
      refine⟨he,?_,λk hk=>(r2 k hk).trans (s2 k hk),r3.trans s3,r4.trans s4⟩
      rw[r1]
      have h1:(arr.toList.take 1).length=1:=by rw[Qg];omega
      congr 3
      show List.take 0 (List.take 1 arr.toList++(zs.take hi).map (Value.int .i64)++List.drop (1+((zs.take hi).map (Value.int .i64)).length) arr.toList)++[Value.int .i64 x]++List.drop (0+[Value.int .i64 x].length) (List.take 1 arr.toList++(zs.take hi).map (Value.int .i64)++List.drop (1+((zs.take hi).map (Value.int .i64)).length) arr.toList)=_
      rw[H,QD (List.take 1 arr.toList),T4,QL,Ri,Q2,Ui h1,show 1+hi=hi+1 by omega]
      rfl
  unfold Oper.wp
  rw[aw,Oper.upon_enter,ad]
  refine E.mono λe9 w' ⟨he,F,t,aQ,aG⟩=>?_
  subst he
  have l:(x::(zs.take hi++zs.drop (hi+1))).length=zs.length:=by simp;omega
  have ax:Sim g (setPos st ps (.own nw 1 (aB (x::(zs.take hi++zs.drop (hi+1)))))) a w':=by
    refine h.ownWrite hb m R aG aQ t ?_ rfl ?_
    · right
      refine⟨c,rfl,cap,_,T,(x::(zs.take hi++zs.drop (hi+1))).map (Value.int .i64),?_,F,?_,?_,dL g _,?_,f7⟩
      · rw[f1,U,cW,l]
      · simp only[Q8,Qh,QA,H,QS]
        omega
      · rw[cW,l]
        refine⟨f4.1,f4.2.1,?_⟩
        intro v D
        simp only[Us,Qn,QC]at D
        rcases D with(rfl|D)|D
        · rfl
        · exact B v D
        · exact f4.2.2 v (R0 D)
      · obtain⟨rest,X⟩:=f6
        refine⟨rest,?_⟩
        rw[←X]
        simp only[Qw,QT,QW,QD,Us]
        congr 2
        rw[RF (by simp;omega),Ue]
    · intro a4 e' rows1 hh
      cases hh
      exact⟨nw,aB zs,G,by rw[U,cW,l]⟩
  have af:b9 g.N o.dst:=by rw[r];exact hd
  cases ag:d with
  |none=>
    rw[ag]at hK r
    rw[r]
    exact ab _ g _ w' hK h.refl_to ax
  |some dd=>
    rw[ag]at hK r
    rw[r]at af⊢
    refine ab _ g _ w' hK h.refl_to ?_
    refine ax.put af rfl ?_ rfl
    intro aY e1 rows1 ar
    have ak:aa (setPos st ps (.own nw 1 (aB (x::(zs.take hi++zs.drop (hi+1)))))) ps=.own nw 1 (aB (x::(zs.take hi++zs.drop (hi+1)))):=cq m
    rw[ak]at ar
    cases ar
    have av:an g a w' ps=an g a w ps:=by
      cases ps with
      |slot s=>rfl
      |cell b j=>
        simp only[aa]at m
        cases az:st.h[b]?with
        |none=>simp[List.getD,az,SV.isOwn]at m
        |some ys=>
          have aC:b<g.n:=by rw[h.n];exact(P7.1 az).1
          simp only[an];rw[t _ ((hb.free _ c R).2.2.2 b aC)]
    refine⟨Qq _,by rw[cW,l];omega,some ⟨c,0,none⟩,cap,by rw[Q2,T8],by omega,.inr ⟨c,_,cap,av.trans f1,by simp⟩,λ_=>⟨_,av.trans f1⟩⟩
def P0(P:Program)(f:FuncId)(zs:List Int)(hi:Nat)(args:List PV)(b:List Int)(m:Nat):Prop:=
 aF P f=true∧∀(w:World)(c cap:Nat)(arr:Array Value)(T:TypeId)(a d:List Value),w.heap[c]?=some (.cells arr T (0,0))->arr.toList=zs.map (Value.int .i64)++a->zs.length<=cap->cap<=maxLen->aj (oi w c) args d->(∀v∈arr.toList,v.oneCell'=true)->
  Calls P f ((.slice (some ⟨c,0,none⟩) hi cap)::d).toArray w λe w'=>e=.returned (.slice (some ⟨c,0,none⟩) m cap)∧w'.heap[c]?=some (.cells (b.map (Value.int .i64)++a).toArray T (0,0))∧(∀k,k≠c->w'.heap[k]?=w.heap[k]?)∧w'.heap.size=w.heap.size∧bN w'=bN w
theorem cd.introW{P:Program}{st:St}{f:FuncId}{d:Option Tmp}{K:St->Prop}{cx:Operand}{args:Array Operand}{x0:Operand}{xs:List Operand}{ps:Pos}{hi m:Nat}{zs l:List Int}{nw:Bool}{q va:List PV}
 (hA:P0 P f zs hi va l m) (U:l.length=zs.length) (hm:m<=zs.length) (h0:zs≠[]) (au:gc st cx) (ak:bq st cx=some (f,[],q)) (ha:args.toList=x0::xs) (hp:partOf st x0=some (ps,0,hi)) (ar:gc st x0)
 (A:aa st ps=.own nw 1 (aB zs)) (C:jx (setPos st ps (.pv .bot)) xs) (ay:zt 3 (setPos st ps (.pv .bot)) xs++em (a8 (setPos st ps (.pv .bot)).h 3) q=va)
 (hK:K (Dg d (some m) ps 0 (setPos st ps (.own nw 1 (aB l))))):cd P st cx args d K:=by
 intro o aH ho p g a w h hd K' Q H;obtain⟨u,v,hx,hu,ax⟩:=eI h au ak;have aw:u.toList=[]:=hu;obtain⟨bl,hb⟩:=h.own;have i:(aa st ps).isOwn=true:=by rw[A];rfl
 obtain⟨aA,e1,rows1,Y,j1,j2,q0,cap,jv,jc,_,jz⟩:=ms h ar hp;rw[A]at Y;cases Y;obtain⟨n0,V⟩:=jz rfl;have R:=bf hb i;rw[A]at R;rcases R with⟨_,W,_⟩|⟨c,D,aC,arr,T,vs,f1,f2,f3,B,f5,f6,f7⟩
 .exfalso;apply h0;cases zs with
  |nil=>rfl
  |cons _ _=>simp[aB]at W
 rw[f1]at V;cases V
 have az:=bM f5;subst az;have F:=cW zs;rw[F]at B;obtain⟨af,t⟩:=f6;obtain⟨s0,aD,ah,_,_,E⟩:=h.drop hb ps;have G:Sim g (setPos st ps (.pv .bot)) a (px w c):=s0.turn ah (E c D) rfl (by simp[px]) (λk hk=>ke w hk);have O:aj (oi w c) va (xs.map a.eval++v.toList):=by
  rw[←ay];refine aj.monoC (xf w c) _ _ (.inl (Qq _)) (.inl rfl) ?_;refine aj.append ?_ (aj.frz G.I (j8 G 3) _ _ ax);rw[nz];exact pz G 3 xs C
 have J:(a.eval x0::(xs.map a.eval++v.toList)).toArray=u++args.map a.eval++v:=by
  apply RP;simp[aw,ha]
 obtain⟨e,x⟩:=hA;have ab:(execOp a.eval o).run P w=.ok (.enter f (u++args.map a.eval++v)) w:=by
  unfold aF at e;split at e
  case h_2=>cases e
  rename_i fn aq;simp only[Qj,QZ]at e;simp only[execOp,ho,resolve,hx,Deferred.ofValue,invoke,callFunc,Sem.run_bind,Sem.run_pure,Result.andThen_ok,run_program,aq,e.1,e.2,QX,Rs]
 have hc:=x w c cap arr T af _ f2 t.symm B.1 B.2.1 O B.2.2;unfold Oper.wp;rw[ab,Oper.upon_enter,←J,jv,T8];refine hc.mono λe9 w' ⟨he,y,r,av,ao⟩=>?_;subst he;have ad:Sim g (setPos st ps (.own nw 1 (aB l))) a w':=by
  refine h.ownWrite hb i D ao av r ?_ rfl ?_
  .right;refine⟨c,rfl,cap,_,T,l.map (Value.int .i64),?_,y,?_,?_,dL g _,⟨af,by simp⟩,f7⟩
   .rw[f1,F,cW,U]
   .have ag:arr.size=arr.toList.length:=QY.symm;rw[←f3,ag,←t];simp[U]
   .rw[cW,U];refine⟨B.1,B.2.1,?_⟩;intro v C;simp only[Us,Qn]at C;rcases C with C|C
    .obtain⟨z,_,rfl⟩:=Qk.1 C;rfl
    .exact B.2.2 v (by rw[←t];exact R5 _ C)
  .intro aG e' rows1 hh;cases hh
   exact⟨nw,aB zs,A,by rw[F,cW,U]⟩
 have L:b9 g.N o.dst:=by rw[p];exact hd
 cases M:d with
 |none=>
  rw[M]at hK p;rw[p];exact H _ g _ w' hK h.refl_to ad
 |some dd=>
  rw[M]at hK p;rw[p]at L⊢;refine H _ g _ w' hK h.refl_to ?_;refine ad.put L rfl ?_ rfl;intro aA e1 rows1 X;have S:aa (setPos st ps (.own nw 1 (aB l))) ps=.own nw 1 (aB l):=cq i;rw[S]at X;cases X
  have Z:an g a w' ps=an g a w ps:=by
   cases ps with
   |slot s=>rfl
   |cell b j=>
    simp only[aa]at i;cases ae:st.h[b]?with
    |none=>simp[List.getD,ae,SV.isOwn]at i
    |some ys=>
     have ai:b<g.n:=by rw[h.n];exact(P7.1 ae).1
     simp only[an];rw[r _ ((hb.free _ c D).2.2.2 b ai)]
  have aE:m<=cap:=by have:=B.1;omega
  refine⟨Qq _,by rw[cW,U];omega,some ⟨c,0,none⟩,cap,by rw[Q2,T8],by omega,.inr ⟨c,_,cap,Z.trans f1,by simp⟩,λ_=>⟨_,Z.trans f1⟩⟩
end Go.AX