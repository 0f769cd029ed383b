/-
  AX, part Pu: a call that leaves all as it was, and whose result is plain, changes nothing.
  AX, part BL: a function that is walked with a part of a block writes a slice of the caller's own in place.
  AX, part La: the last block but one is forgotten.
  AX, part XD: a call that leaves certain blocks; its own are let go.
  AX, part Be: what names blocks below a number only.
  AX, part BM: a call is handed a slice of numbers of the caller's own, which it writes, and blocks of the caller's turn, too.
  AX, part IS: slices.Insert of one number at the front of a part of a slice that has room, from the library's contract: in place.
-/
import Derived.Test.YtepodadinenmnaaGreatAxXW
import Derived.Test.YtepodadinenmnaaGreatAxR
import Derived.Shelf.Spec.SlicesInsert
namespace Go.AX
theorem aB.pure{P:Program}{f:FuncId}{args:List PV}{R:SV->Prop}(g:aB P f args [] (λr _=>∃x,r=.pv x∧R (.pv x))):an P f args R:=by
 refine⟨g.1,λw vs h=>?_⟩;have hs:=sI (N:=args.length+1) h (Qp _);refine(g.2 _ _ _ _ vs hs rfl (sH h)).mono λe w' ⟨v,r,h',g',l,⟨x,n,i⟩,o,hd⟩=>?_;subst n;have d:args.length<(jA w (args.length+1)).N:=QC _;have s':=hd (some args.length) d;obtain⟨bl,j⟩:=s'.own;have a:=j.slots args.length;have b:args.length<(vs.toArray++Array.replicate (args.length+1 -vs.toArray.size) undef).size:=by
  rw[hs.size];exact d
 rw[fU b,N9 rfl]at a;have m:look (iR (some args.length) (.pv x) ⟨aA ep (gk 0 args),h'⟩).t args.length=.pv x:=by
  simp[iR,look,St.put]
 rw[m]at a;exact⟨v,.pv x,g',none,l,i,jB o s',⟨rfl,a.2⟩,rfl,λc k=>by cases k⟩
end Go.AX
namespace Go.AX
def blk(pre:List Value)(zs:List Int)(a:List Value):List SV:=pre.map (λv=>.pv (.lit v))++(zs.map (λz=>.pv (.lit (.int .i64 z)))++a.map λv=>.pv (.lit v))
theorem dZ(pre:List Value)(zs:List Int)(a:List Value):(blk pre zs a).length=pre.length+zs.length+a.length:=by
 unfold blk;simp only[Oi,Oj];omega
theorem jD(pre:List Value)(zs:List Int)(a:List Value){i:Nat}(h:i<zs.length):(blk pre zs a)[pre.length+i]?=some (.pv (.lit (.int .i64 zs[i]))):=by
 unfold blk;rw[Ot (by simp),Oj,Qm,Oa (by simpa using h),Oq,N6 h];rfl
theorem qE(pre:List Value)(zs:List Int)(a:List Value){i:Nat}{ys:List Int}(h:i+ys.length<=zs.length):
 List.take (pre.length+i) (blk pre zs a)++(ys.map (λz=>SV.pv (.lit (.int .i64 z)))++List.drop (pre.length+i+ys.length) (blk pre zs a))=blk pre (zs.take i++ys++zs.drop (i+ys.length)) a:=by
 unfold blk;have b:pre.length=(pre.map (λv=>SV.pv (PV.lit v))).length:=by simp
 rw[show List.take (pre.length+i) (pre.map (λv=>SV.pv (PV.lit v))++(zs.map (λz=>SV.pv (.lit (.int .i64 z)))++a.map λv=>.pv (.lit v)))=pre.map (λv=>SV.pv (PV.lit v))++(zs.map (λz=>SV.pv (.lit (.int .i64 z)))).take i by
  rw[b,R2];congr 1;rw[PU (by simp;omega)],
  show List.drop (pre.length+i+ys.length) (pre.map (λv=>SV.pv (PV.lit v))++(zs.map (λz=>SV.pv (.lit (.int .i64 z)))++a.map λv=>.pv (.lit v)))=(zs.map (λz=>SV.pv (.lit (.int .i64 z)))).drop (i+ys.length)++a.map λv=>.pv (.lit v) by
   rw[Qd,b,R3,Pz (by simp;omega)]]
 simp only[OJ,QI,RW,OG]
theorem un(pre:List Value)(zs:List Int)(a:List Value){i:Nat}(y:Int)(h:i<zs.length):
 List.take (pre.length+i) (blk pre zs a)++SV.pv (.lit (.int .i64 y))::List.drop (pre.length+i+1) (blk pre zs a)=blk pre (zs.set i y) a:=by
 have:=qE pre zs a (i:=i) (ys:=[y]) (by simp;omega);simp only[Ow,Qi,Po,OU,OL]at this;rw[this];congr 1;rw[RB,N9 h];simp
theorem DB(pre:List Value)(zs:List Int)(a:List Value)(t:List (List SV))(n:Nat):rP (br (blk pre zs a::t) (n+1) 0 pre.length) 1 zs.length=.seq false 1 (zs.map λz=>[.lit (.int .i64 z)]):=by
 have b:=dZ pre zs a;have e:(blk pre zs a::t).getD 0 []=blk pre zs a:=rfl;simp only[br,rP,e,Oj];rw[N9 ⟨trivial,by omega⟩];congr 1;unfold blk;simp only[OJ,Pa];rw[R0 (by simp),P4 (by simp),Pa];rfl
theorem eM(k:Nat)(pre:List Value)(zs:List Int)(a:List Value):cM k (blk pre zs a):=by
 refine oC λx hx=>?_;unfold blk at hx;simp only[Om,Of]at hx;rcases hx with⟨_,_,rfl⟩|⟨_,_,rfl⟩|⟨_,_,rfl⟩<;>trivial
theorem qF(pre:List Value)(zs:List Int)(a:List Value){i n:Nat}(y:Int)(h:i+n<=zs.length):
 List.take (pre.length+i) (blk pre zs a)++(List.replicate n (SV.pv (.lit (.int .i64 y)))++List.drop (pre.length+i+n) (blk pre zs a))=blk pre (zs.take i++List.replicate n y++zs.drop (i+n)) a:=by
 have:=qE pre zs a (i:=i) (ys:=List.replicate n y) (by simpa using h);simpa only[Qu,Qs]using this
theorem qG{g:Gh}{w:World}{arr:Array Value}{bl:Nat->Option Nat}{vs:List Value}(hs:arr.size=vs.length)(h:∀k x,(vs.map (λv=>SV.pv (.lit v)))[k]?=some x->aw g w x (arr.getD k undef) (bl k)):arr=vs.toArray:=by
 apply Array.ext
 .simpa using hs
 .intro i h1 b;have:=h i (.pv (.lit (vs[i]'(by omega)))) (by rw[Oq,N6 (by omega)];rfl);have a:arr.getD i undef=vs[i]'(by omega):=this.2;simpa[Array.getD,h1]using a
def az(zs:List Int):List (List PV):=zs.map λz=>[.lit (.int .i64 z)]
theorem dz(G:Gh):∀zs:List Int,av G 1 (az zs) (zs.map (Value.int .i64))
 |[]=>rfl
 |z::zs=>⟨[.int .i64 z],zs.map (Value.int .i64),rfl,⟨rfl,λv a=>by simp at a;subst a;rfl⟩,⟨_,_,rfl,rfl,rfl⟩,dz G zs⟩
theorem bH{G:Gh}:∀{zs:List Int}{vs:List Value},av G 1 (az zs) vs->vs=zs.map (Value.int .i64)
 |[],_,h=>h
 |z::zs,_,⟨g,i,h1,_,c,d⟩=>by
  obtain⟨v,r,rfl,e,f⟩:=c;have a:v=.int .i64 z:=e;have b:r=[]:=f;subst a b;rw[h1,bH d];rfl
def No(k:Option Nat)(off cap:Nat):SV:=match k with
 |none=>.pv (.tup [])
 |some m=>.pv (.bsl 0 1 off m cap)
def Np(k:Option Nat)(p:Option Addr)(cap:Nat):SV:=match k with
 |none=>.pv (.tup [])
 |some m=>.pv (.lit (.slice p m cap))
theorem tV.ofInts{P:Program}{f:FuncId}{zs:List Int}{args:List PV}{R:Option Nat->List (List PV)->Prop}(hc:aC P f=true)(ho:pq args)(V:bR 0 args)
 (h : zs ≠ [] -> ∀ (pre a : List Value) (cap : Nat), zs.length <= cap -> zs.length <= maxLen -> aB P f (.bsl 0 1 pre.length zs.length cap :: args) [blk pre zs a]
  (λr h'=>∃k d,R k (az d)∧d.length=zs.length∧(∀m,k=some m->m<=zs.length)∧r=No k pre.length cap∧h'=[blk pre d a]))
 (h0:zs=[]->∀(p:Option Addr)(cap:Nat),an P f (.lit (.slice p 0 cap)::args) (λr=>∃k,R k []∧(k=none∨k=some 0)∧r=Np k p cap)):
 tV P f 1 (az zs) args R:=by
 refine⟨hc,λY w c cap arr T pre vs a us h1 h2 Q h4 h5 h6 D=>?_,λE w p cap us h1=>?_⟩
 .have hz:zs≠[]:=λe=>Y (by rw[e];rfl);have H:(az zs).length=zs.length:=by unfold az;simp
  have ab:=bH h5;subst ab;rw[H]at Q h4⊢;have ad:c<w.heap.size:=(Oh.1 h1).1;obtain⟨G,l⟩:∃G:Gh,G={I:=λk=>if k=c then none else w.heap[k]?,F:=λ_=>none,B:=0,μ:=λ_=>c,n:=1,n0:=1,N:=1,env:=b7 w}:=⟨_,rfl⟩;have K:Sim G ⟨[],[blk pre zs a]⟩ ⟨#[undef],[]⟩ w:=by
   subst l;refine{size:=rfl,defs:=rfl,env:=rfl,n:=rfl,n0:=Oc _,B:=Oz _,I:=λk o hk=>?_,F:=λk o hk=>(by cases hk),μI:=λb V=>⟨by simp,rfl⟩,μinj:=λb b' V g _=>?_,own:=⟨λ_=>none,?_⟩,al:=λs=>trivial}
   .by_cases e:k=c
    .subst e;simp at hk
    .simpa[e]using hk
   .dsimp only at V g;omega
   .refine{slots:=λs=>⟨rfl,trivial⟩,blocks:=λb xs hx=>?_,inj:=λp q k hk=>(by cases hk),free:=λp k hk=>(by cases hk)};cases b with
    |succ b=>simp at hx
    |zero=>
     simp only[OV,OI]at hx;subst hx;have aa:arr.size=(blk pre zs a).length:=by rw[dZ,←OS,h2];simp only[Oi,Oj]
     refine⟨arr,T,h1,⟨aa,D⟩,λk x hk=>?_⟩;have t:blk pre zs a=arr.toList.map (λv=>.pv (.lit v)):=by
      rw[h2];unfold blk;simp only[OJ,Pa,OG];rfl
     rw[t,Oq]at hk;cases A:arr.toList[k]?with
     |none=>rw[A]at hk;cases hk
     |some u=>
      rw[A]at hk;simp only[O2,OI]at hk;subst hk;refine⟨rfl,rfl,?_⟩;show arr.getD k undef=u;have:arr[k]?=some u:=by rw[←Ob];exact A
      rw[Ol,this];rfl
  have i:ah G (.bsl 0 1 pre.length zs.length cap::args) (.slice (some ⟨c,pre.length,none⟩) zs.length cap::us):=by
   refine⟨_,_,rfl,?_,?_⟩
   .subst l;exact⟨SA,Q,rfl⟩
   .refine ah.monoC ⟨λk arr' T' fz hk=>?_,λk en ck hk=>?_⟩ _ _ (.inr ho) (.inl rfl) h6
    .obtain⟨M,O⟩:=Iw hk;subst l;simpa[M]using O
    .obtain⟨M,O⟩:=Ix hk;subst l;simpa[M]using O
  refine((h hz pre a cap Q h4).2 G _ _ w _ K rfl i).mono λe w' ⟨v,r,h',g',E,⟨k,d,r1,r2,r3,r4,r5⟩,t',Z⟩=>?_;subst r4 r5;have C:=Z (some 0) (by subst l;exact SA);have hμ:g'.μ 0=c:=by rw[t'.μ 0 (by subst l;exact SA)];subst l;rfl
  obtain⟨bl,g⟩:=C.own;have j:∀k,k<w.heap.size->k≠c->w'.heap[k]?=w.heap[k]?:=λk hk X=>by
   have hI:G.I k=some w.heap[k]:=by subst l;simp[X]
   rw[C.I _ _ (t'.I _ _ hI),Ox hk]
  refine⟨k,az d,d.map (Value.int .i64),r1,by unfold az;simpa using r2,r3,?_,?_,?_,j,?_,λG _=>dz G d⟩
  .rw[E];have h0:=g.slots 0;cases k with
   |none=>
    have y:aw g' w' (.pv (.tup [])) v (bl (.slot 0)):=h0;obtain⟨_,vs,rfl,S⟩:=y;have z:vs.toList=[]:=S;have:vs=#[]:=PX z;rw[this]
   |some m=>
    have y:aw g' w' (.pv (.bsl 0 1 pre.length m cap)) v (bl (.slot 0)):=h0;obtain⟨_,_,_,rfl⟩:=y;rw[hμ]
  .rw[C.env,t'.env];subst l;rfl
  .apply PA;intro J;have W:w'.heap[c]?≠none:=by
    obtain⟨arr',T',b1,_⟩:=g.blocks 0 (blk pre d a) (by cases k<;>rfl);rw[hμ]at b1;rw[b1];simp
   have L:w'.heap[w'.heap.size]?=none:=by simp
   by_cases e:w'.heap.size=c
   .rw[e]at L;exact W L
   .rw[j _ J e,Ox J]at L;cases L
  .obtain⟨arr',T',b1,⟨b2,_⟩,b3⟩:=g.blocks 0 (blk pre d a) (by cases k<;>rfl);rw[hμ]at b1;refine⟨T',?_⟩;rw[b1];have t:blk pre d a=(pre++d.map (Value.int .i64)++a).map (λv=>.pv (.lit v)):=by
    unfold blk;simp only[OJ,Pa,OG];rfl
   rw[t,Oj]at b2;rw[qG (bl:=λk=>bl (.cell 0 k)) b2 λk x hk=>(b3 k x (by rw[t];exact hk)).2]
 .have hz:zs=[]:=by
   cases zs with
   |nil=>rfl
   |cons _ _=>unfold az at E;cases E
  subst hz;have i:ah (du w) (.lit (.slice p 0 cap)::args) (.slice p 0 cap::us):=⟨_,_,rfl,rfl,h1⟩;refine((h0 rfl p cap).2 w _ i).mono λe w' ⟨v,r,g',o,E,⟨k,r1,r2,r3⟩,U,hF,_,_⟩=>?_;subst r3;refine⟨k,r1,r2,?_,U.env,U.size,λk hk=>U.keep k hk⟩;rw[E];cases k with
  |none=>
   have y:aw g' w' (.pv (.tup [])) v o:=hF;obtain⟨_,vs,rfl,S⟩:=y;have z:vs.toList=[]:=S;have:vs=#[]:=PX z;rw[this]
  |some m=>
   have y:v=.slice p m cap:=hF.2;rw[y]
end Go.AX
namespace Go.AX
theorem aw.le1{g g':Gh}(a:g.le g')(i:g'.B=g.B){w:World}:∀{x:SV}{v:Value}{b:Option Nat},aw g w x v b->aw g' w x v b
 |.pv x,_,_,h=>⟨h.1,Fit.mono a x _ h.2⟩
 |.own _ e rows,_,_,h=>h.imp id λ⟨c,h1,cap,arr,T,vs,d,f,a3,a4,a5,j,k⟩=>⟨c,h1,cap,arr,T,vs,d,f,a3,a4,av.mono a e rows vs a5,j,λhn=>by rw[i];exact k hn⟩
 |.omap _ es,_,_,⟨c,h1,en,ck,d,f,a3,a4⟩=>⟨c,h1,en,ck,d,f,bn.mono a es _ a3,λhn=>by rw[i];exact a4.1 hn,a4.2⟩
 |.opt _ _,_,_,h=>⟨h.1,h.2.1,λm=>aw.le1 a i (h.2.2 m)⟩
 |.al _,_,_,h=>h
 |.loc _ _ _,_,_,h=>h
 |.sptr _ _ _,_,_,h=>h
 |.agl xs,_,_,⟨h,vs,h1,l⟩=>⟨h,vs,h1,ah.mono a _ _ l⟩
theorem ai.last{k0:Nat}{t:List (Nat×SV)}{B:List (List SV)}{x y:List SV}{s0 off:Nat}(ht:iK B.length t)(hB:dy B.length B)(hy:∀v∈y,∃p,v=.pv p∧p.bel B.length)(hk:k0<=B.length):
    ai k0 ⟨(s0,.pv (.ptr (B.length+1) off))::t,B++[x,y]⟩ ⟨(s0,.pv (.ptr B.length off))::t,B++[y]⟩:=λg a w h0 hs=>by
  obtain⟨bl,hbl⟩:=hs.own
  have hn:g.n=B.length+2:=by rw[hs.n];simp
  let g':Gh:={g with n:=B.length+1,μ:=λb=>if b=B.length then g.μ (B.length+1)else g.μ b}
  have hm:∀b,b<B.length->g'.μ b=g.μ b:=λb hb=>by show(if b=B.length then _ else _)=_;rw[N8 (by omega)]
  have hml:g'.μ B.length=g.μ (B.length+1):=by show(if B.length=B.length then _ else _)=_;rw[N9 rfl]
  have hle:({g with n:=B.length}:Gh).le g':=⟨λ_ _ h=>h,Oc _,Qp _,λb hb=>hm b hb⟩
  have fit:∀{x:SV}{v:Value}{b:Option Nat},x.bel B.length->aw g w x v b->aw g' w x v b:=λhb h=>aw.le1 hle rfl (aw.below hb h)
  have look1:∀(q:SV) s,s≠s0->look ((s0,q)::t) s=look t s:=λq s h=>by simp only[look];rw[N8 (QZ h)]
  have look0:∀(q:SV),look ((s0,q)::t) s0=q:=λq=>by simp[look]
  have hpos:∀p,(aa ⟨(s0,.pv (.ptr B.length off))::t,B++[y]⟩ p).isOwn=true->aa ⟨(s0,.pv (.ptr B.length off))::t,B++[y]⟩ p=aa ⟨(s0,.pv (.ptr (B.length+1) off))::t,B++[x,y]⟩ p∧ak g' a w p=ak g a w p:=by
    intro p hp
    cases p with
    |slot s=>
      refine⟨?_,rfl⟩
      simp only[aa]at hp⊢
      by_cases e:s=s0
      · subst e;rw[look0]at hp;cases hp
      · rw[look1 _ s e,look1 _ s e]
    |cell b k=>
      simp only[aa]at hp⊢
      rcases PM b B.length with c|c|c
      · refine⟨by simp[N7,Oa c],?_⟩
        simp only[ak];rw[hm b c]
      · subst c
        simp only[N7,Ot (Oc _),P5,OV,OH]at hp
        cases hq:y[k]?with
        |none=>rw[hq]at hp;cases hp
        |some z=>
          rw[hq]at hp
          obtain⟨p,rfl,_⟩:=hy z (O9 hq)
          cases hp
      · have:(B++[y])[b]?=none:=by rw[ON];simp;omega
        simp only[N7,this,Option.getD_none]at hp
        cases hp
  refine⟨g',⟨λ_ _ h=>h,rfl,rfl,rfl,rfl,rfl,by show g.n0<=B.length+1;omega,λb hb=>hm b (by omega),λ_ _ h=>h⟩,?_⟩
  have lift:∀b,b<B.length+1->∃b',b'<g.n∧g'.μ b=g.μ b'∧((b<B.length∧b'=b)∨(b=B.length∧b'=B.length+1)):=λb hb=>by
    rcases Nat.lt_or_ge b B.length with c|c
    · exact⟨b,by omega,hm b c,.inl ⟨c,rfl⟩⟩
    · have:b=B.length:=by omega
      subst this
      exact⟨B.length+1,by omega,hml,.inr ⟨rfl,rfl⟩⟩
  refine { size := hs.size, defs := hs.defs, env := hs.env, n := by show B.length + 1 = _; simp, n0 := by show g.n0 <= B.length + 1; omega, B := hs.B, I := hs.I, F := hs.F, μI := λ b hb => ?_, μinj := λ b c hb hc e => ?_,
           own:=⟨λp=>match p with|.slot s=>bl (.slot s)|.cell b k=>if b<B.length then bl (.cell b k)else none,?_⟩,al:=λs=>?_}
  · obtain⟨b',h1,h2,_⟩:=lift b hb
    rw[h2];exact hs.μI b' h1
  · obtain⟨b',h1,h2,h3⟩:=lift b hb
    obtain⟨c',i1,i2,i3⟩:=lift c hc
    have:=hs.μinj b' c' h1 i1 (by rw[←h2,←i2];exact e)
    omega
  · have hsub:∀p c,(match p with|.slot s=>bl (.slot s)|.cell b k=>if b<B.length then bl (.cell b k)else none)=some c->bl p=some c:=by
      intro p c hp
      cases p with
      |slot s=>exact hp
      |cell b k=>
        simp only at hp
        split at hp
        · exact hp
        · cases hp
    refine{slots:=λs=>?_,blocks:=λb xs hx=>?_,inj:=λp q c hp hq=>hbl.inj p q c (hsub p c hp) (hsub q c hq),free:=λp c hp=>?_}
    · have h:=hbl.slots s
      simp only at h⊢
      by_cases e:s=s0
      · subst e
        rw[look0]at h⊢
        obtain⟨h1,h2,h3⟩:=h
        exact⟨h1,QC _,by rw[h3,hml]⟩
      · rw[look1 _ s e]at h⊢
        exact fit (fX ht s) h
    · rcases PM b B.length with c|c|c
      · have hx':(B++[x,y])[b]?=some xs:=by
          simp only at hx
          rw[Oa c]at hx⊢;exact hx
        obtain⟨arr,T,e1,e2,e3⟩:=hbl.blocks b xs hx'
        refine⟨arr,T,by rw[hm b c];exact e1,e2,λk z hz=>?_⟩
        simp only[N9 c]
        simp only at hx
        rw[Oa c]at hx
        exact⟨(e3 k z hz).1,fit (gN (gO hB b xs hx) k z hz) (e3 k z hz).2⟩
      · subst c
        have hxy:xs=y:=by
          simp only[Ot (Oc _),P5,OV,OI]at hx
          exact hx.symm
        subst hxy
        obtain⟨arr,T,e1,e2,e3⟩:=hbl.blocks (B.length+1) xs (by simp only;rw[Ot (by omega)];simp)
        refine⟨arr,T,by rw[hml];exact e1,e2,λk z hz=>?_⟩
        obtain⟨p,rfl,hp⟩:=hy z (O9 hz)
        simp only[Nat.lt_irrefl,Pk]
        have h:=(e3 k _ hz).2
        exact⟨rfl,fit (x:=.pv p) (b:=none) hp ⟨rfl,h.2⟩⟩
      · simp only at hx
        rw[ON (by simp;omega)]at hx
        cases hx
    · obtain⟨f1,f2,f3,f4⟩:=hbl.free p c (hsub p c hp)
      refine⟨f1,f2,f3,λb hb'=>?_⟩
      obtain⟨b',h1,h2,_⟩:=lift b hb'
      rw[h2];exact f4 b' h1
  · have h:=hs.al s
    simp only at h⊢
    by_cases e:s=s0
    · subst e;rw[look0];trivial
    · rw[look1 _ s e]at h⊢
      exact bQ.congr hpos h
theorem an.own0{P:Program}{f:FuncId}{args:List PV}{R a:SV->Prop}(h:an P f args R)(k:∀r,R r->a r∨(r=.pv (.lit (.slice none 0 0))∧∃nw e,a (.own nw e []))):an P f args a:=by
 refine⟨h.1,λw vs l=>(h.2 w vs l).mono λe w' ⟨v,r,g',o,h1,i,d,b,j,g⟩=>?_⟩;rcases k r i with c|⟨rfl,nw,e',c⟩
 .exact⟨v,r,g',o,h1,c,d,b,j,g⟩
 .exact⟨v,_,g',o,h1,c,d,.inl ⟨b.1,rfl,b.2⟩,rfl,g⟩
end Go.AX
namespace Go.AX
theorem gR{P:Program}(bad:List Nat){f:FuncId}{fn:Func}{c:Code}{args:List PV}{h:List (List SV)}{R:SV->Prop}(rs:List ResultVar)(h1:List (List SV))(C:h.length<=h1.length)(j:dy h.length h->dy h1.length h1)(aG:P.follows .mixedOrders=true)(B:P.funcs[f]?=some fn)(y:AC P h.length bad c (k8 (fc P rs h1 R)) ⟨gk 0 args,h⟩)(b:aC P f=true:=by kernel_rfl)(z:fn.body=some c:=by rfl)(D:fn.results=rs.toArray:=by rfl)(l:nl fn.ntmps bad c=true:=by kernel_rfl)(hn:args.length<=fn.ntmps:=by exact Pd rfl):aB P f args h (λr h'=>h'=h1∧R r):=by
 refine⟨b,λg st a w vs hs m E=>?_⟩;have d:dy h1.length h1:=j (by have:=hs.belH;rwa [hs.n,m]at this);have key:=ny (R:=λr h'=>h'=h1∧R r) aG B b z l hn y λg' st' M w' hk k s'=>?_
 .exact key.2 g st a w vs hs m E
 .obtain⟨F,G,H,I⟩:=hk;obtain⟨g2,p,N,O,J,L,q,u⟩:=nx rs s' F;obtain⟨v,t,x⟩:=iu D (lc rs st') q u;have K:=J.weak (st':=⟨[],(fY P st' rs).2.1.h⟩) rfl λs=>.inr rfl;obtain⟨t4,o⟩:=Sim.dropB (st:=⟨[],(fY P st' rs).2.1.h⟩) (h1:=h1) G (ht:=trivial) d (hs:=K) (h0:=by rw[p.n0];exact OM k C);obtain⟨e,i⟩:=o.own;exact⟨v,_,_,_,e,none,t,p.trans t4,o,i,⟨rfl,I⟩,⟨rfl,Fit.below _ _ H x⟩,rfl,λc A=>by cases A⟩
theorem ai.keep{k0:Nat}{st:St}{t1:List (Nat×SV)}{h1:List (List SV)}(h:Ju st.t t1)(a:st.h=h1):ai k0 st ⟨t1,h1⟩:=a▸ai.slots h
theorem ai.nilCell{k0:Nat}{st:St}{b k:Nat}{xs:List SV}(e:Nat)(nw:Bool)(hx:st.h[b]?=some xs)(hk:xs[k]?=some (.pv (.lit (.slice none 0 0)))):ai k0 st ⟨aA (aD b k 1) st.t,st.h.set b (xs.set k (.own nw e []))⟩:=λg a w _ hs=>by
 obtain⟨bl,f⟩:=hs.own;have d:k<xs.length:=(N5.1 hk).1;obtain⟨arr,T,i,p,j⟩:=f.blocks b xs hx;have l:=(j k _ hk).2;have n:ak g a w (.cell b k)=.slice none 0 0:=by
  simp only[ak,i];exact l.2
 exact⟨g,hs.refl_to,(hs.adopt f hx d (sv:=.own nw e []) (o:=none) (.inl ⟨rfl,rfl,n⟩) rfl (λc m=>by cases m)).1⟩
end Go.AX
namespace Go.AX
theorem aB.below{P:Program}{f:FuncId}{args:List PV}{h:List (List SV)}{R:SV->List (List SV)->Prop}(d:aC P f=true)(c:dy h.length h->aB P f args h R):aB P f args h R:=
 ⟨d,λg st a w vs hs b e=>(c (by have:=hs.belH;rwa [hs.n,b]at this)).2 g st a w vs hs b e⟩
def DS:List (List PV)->List (List PV)->Prop
 |[],[]=>True
 |x::xs,y::ys=>cE x y∧DS xs ys
 |_,_=>False
theorem wo:∀{a b:List PV},cE a b->a.length=b.length
 |[],[],_=>rfl
 |[],_::_,h=>by simp[cE]at h
 |_::_,[],h=>by simp[cE]at h
 |x::a,y::b,h=>by
  simp only[cE]at h;rw[OC,OC,wo h.2]
theorem qR:∀{a b:List (List PV)},DS a b->a.length=b.length
 |[],[],_=>rfl
 |[],_::_,h=>h.elim
 |_::_,[],h=>h.elim
 |x::a,y::b,h=>by rw[OC,OC,qR h.2]
theorem av.wk{g:Gh}{e:Nat}:∀{a b:List (List PV)}{vs:List Value},DS a b->av g e a vs->av g e b vs
 |[],[],_,_,h=>h
 |[],_::_,_,h,_=>h.elim
 |_::_,[],_,h,_=>h.elim
 |x::a,y::b,_,h,⟨j,k,h1,⟨d,c⟩,f,i⟩=>⟨j,k,h1,⟨by rw[←wo h.1];exact d,c⟩,nA _ _ _ h.1 f,av.wk h.2 i⟩
def NU:PV->PV->Prop
 |.seq nw e rows,.seq b e' a=>(b=true->nw=true)∧e=e'∧DS rows a
 |x,y=>cw x y
theorem I1{g:Gh}{x y:PV}{v:Value}(h:NU x y)(j:Fit g x v):Fit g y v:=by
 unfold NU at h;split at h
 .rename_i nw e rows m e' d;obtain⟨hn,rfl,f⟩:=h;obtain⟨p,cap,h1,k,i⟩:=j;refine⟨p,cap,by rw[←qR f];exact h1,by rw[←qR f];exact k,?_⟩;rcases i with i|⟨c,off,arr,T,fz,vs,a,b,n,r,q⟩
  .subst i;cases d with
   |nil=>exact .inl rfl
   |cons _ _=>exact f.elim
  .exact .inr ⟨c,off,arr,T,fz,vs,a,b,λl=>n (hn l),av.wk f r,q⟩
 .exact uk _ _ _ h j
theorem an.wk{P:Program}{f:FuncId}{args:List PV}{R a:SV->Prop}(h:an P f args R)(j:∀r,R r->∃x y,r=.pv x∧cw x y∧a (.pv y)):an P f args a:=
 ⟨h.1,λw vs k=>(h.2 w vs k).mono λe w' ⟨v,r,g',o,h1,c,d,b,m,g⟩=>by
  obtain⟨x,y,rfl,l,i⟩:=j r c;exact⟨v,.pv y,g',o,h1,i,d,⟨b.1,uk x y v l b.2⟩,rfl,g⟩⟩
end Go.AX
namespace Go.AX
def I5(b:Nat)(k:Option Nat)(off cap:Nat):SV:=match k with
 |none=>.pv (.tup [])
 |some m=>.pv (.bsl b 1 off m cap)
theorem Sim.toBlk{g:Gh}{st:St}{a:Act}{w:World}(h:Sim g st a w){bl:Pos->Option Nat}(hb:Owns g st a w bl){s c:Nat}(hbc:bl (.slot s)=some c){arr:Array Value}{T:TypeId}(hcell:w.heap[c]?=some (.cells arr T (0,0)))(hone:∀v∈arr.toList,v.oneCell'=true)
    {xs:List SV} (hx:xs=arr.toList.map λv=>.pv (.lit v)):
    Sim {g with n:=g.n+1,n0:=g.n+1,μ:=λb=>if b=g.n then c else g.μ b} ⟨(s,.pv .bot)::st.t,st.h++[xs]⟩ a w:=by
  obtain⟨s0,bl0,hb0,_,_,hfree⟩:=h.drop hb (.slot s)
  obtain⟨f1,f2,f3,f4⟩:=hfree c hbc
  have hle:g.le {g with n:=g.n+1,n0:=g.n+1,μ:=λb=>if b=g.n then c else g.μ b}:=⟨λ_ _ h=>h,Oc _,Qp _,λb hb=>N8 (by omega)⟩
  have hn:=h.n
  refine{size:=h.size,defs:=h.defs,env:=h.env,n:=by simp[hn],n0:=Oc _,B:=h.B,I:=h.I,F:=h.F,μI:=λb hb=>?_,μinj:=λb b' hb hb' he=>?_,own:=⟨λp=>match p with|.slot u=>bl0 (.slot u)|.cell b k=>if b=g.n then none else bl0 (.cell b k),?_⟩,al:=λu=>?_}
  · by_cases e:b=g.n
    · simp only[e,PT];exact⟨f1,f2⟩
    · simp only[e,Pk];exact h.μI b (by have:b<g.n+1:=hb;omega)
  · have hb1:b<g.n+1:=hb
    have hb1':b'<g.n+1:=hb'
    by_cases e:b=g.n
    · by_cases e':b'=g.n
      · omega
      · simp only[e,e',PT,Pk]at he
        exact absurd he.symm (f3 b' (by omega))
    · by_cases e':b'=g.n
      · simp only[e,e',PT,Pk]at he
        exact absurd he (f3 b (by omega))
      · simp only[e,e',Pk]at he
        exact h.μinj b b' (by omega) (by omega) he
  · refine{slots:=λu=>aw.frame hle (λ_ _=>rfl) (hb0.slots u),blocks:=λb ys hy=>?_,inj:=λp q k hp hq=>?_,free:=λp k hp=>?_}
    · by_cases e:b=g.n
      · subst e
        rw[hn,Ot (Oc _),P5]at hy
        simp only[OV,OI]at hy
        subst hy
        refine⟨arr,T,by simp only[PT];exact hcell,⟨by rw[hx];simp,hone⟩,λk x hk=>?_⟩
        rw[hx,Oq]at hk
        cases hk2:arr.toList[k]?with
        |none=>rw[hk2]at hk;cases hk
        |some v=>
          rw[hk2]at hk
          simp only[O2,OI]at hk
          subst hk
          refine⟨rfl,by simp,?_⟩
          show arr.getD k undef=v
          have:arr[k]?=some v:=by rw[←Ob];exact hk2
          rw[Ol,this];rfl
      · have hlt:b<st.h.length:=by
          have:=(N5.1 hy).1
          simp only[Oi,Po]at this
          omega
        rw[Oa hlt]at hy
        obtain⟨arr',T',h1,h2,h3⟩:=hb0.blocks b ys hy
        refine⟨arr',T',by simp only[e,Pk];exact h1,h2,λk x hk=>?_⟩
        simp only[e,Pk]
        exact⟨(h3 k x hk).1,aw.frame hle (λ_ _=>rfl) (h3 k x hk).2⟩
    · cases p with
      |slot u=>cases q with
        |slot v=>exact hb0.inj _ _ k hp hq
        | cell b j => dsimp only at hq; split at hq
                      · cases hq
                      · exact hb0.inj _ _ k hp hq
      |cell b j=>
        dsimp only at hp;split at hp
        · cases hp
        · cases q with
          |slot v=>exact hb0.inj _ _ k hp hq
          | cell b2 j2 => dsimp only at hq; split at hq
                          · cases hq
                          · exact hb0.inj _ _ k hp hq
    · have hp0:bl0 p=some k:=by
        cases p with
        |slot u=>exact hp
        | cell b j => dsimp only at hp; split at hp
                      · cases hp
                      · exact hp
      obtain⟨q1,q2,q3,q4⟩:=hb0.free p k hp0
      refine⟨q1,q2,q3,λb hb=>?_⟩
      by_cases e:b=g.n
      · simp only[e,PT];intro e2;exact f4 p (e2▸hp0)
      · simp only[e,Pk];exact q4 b (by have:b<g.n+1:=hb;omega)
  · refine bQ.congr (λp hp=>?_) (s0.al u)
    cases p with
    |slot v=>exact⟨rfl,rfl⟩
    |cell b k=>
      have hlt:b<st.h.length:=by
        apply QA
        intro hge
        simp only[aa]at hp
        by_cases e:b=st.h.length
        · subst e
          have h8:(st.h++[xs]).getD st.h.length []=xs:=by simp[N7]
          rw[h8,hx,N7,Oq]at hp
          cases h9:arr.toList[k]?<;>rw[h9]at hp<;>cases hp
        · have h8:(st.h++[xs]).getD b []=[]:=by rw[N7,ON (by simp;omega)];rfl
          rw[h8]at hp
          cases hp
      refine⟨?_,?_⟩
      · simp only[aa,setPos,N7]
        rw[Oa hlt]
      · have e:b≠g.n:=by omega
        simp only[ak,e,Pk]
theorem Sim.fromBlk{g g1 g':Gh}{st:St}{a:Act}{w w':World}(h:Sim g st a w){s c n cap:Nat}{nw:Bool}{all all':List Int}{L:List (List SV)}{rest:List Value}
 (O:look st.t s=.own nw 1 (az all)) (hv:a.tmps.getD s undef=.slice (some ⟨c,0,none⟩) all.length cap) (l:all.length<=cap∧cap<=maxLen∧all.length+rest.length=cap) (Y:nw=true->g.B<=c) (z:all'.length=all.length)
 (d:g1={g with n:=g.n+1,n0:=g.n+1,μ:=λb=>if b=g.n then c else g.μ b}) (ht:g1.to g') (S0:Sim g' ⟨aA ep ((s,.pv .bot)::st.t),L++[blk [] all' rest]⟩ a w') (R:L.length=st.h.length) (U:iK st.h.length st.t) (T:dy st.h.length L) (hn:n=st.h.length):
 g.to {g' with n:=g.n,n0:=g.n0}∧Sim {g' with n:=g.n,n0:=g.n0} ⟨(s,.own nw 1 (az all'))::aA ep st.t,L⟩ a w'∧g'.μ g.n=c:=by
 subst hn;have m:=h.n;have y:g'.μ g.n=c:=by rw[ht.μ g.n (by rw[d];exact QC _),d];simp
 have hμ:∀b,b<g.n->g'.μ b=g.μ b:=λb j=>by
  rw[ht.μ b (by rw[d];exact Q9 j),d];exact N8 (by omega)
 have i:g'.n=g.n+1:=by rw[S0.n];simp[R,m]
 have hB:g'.B=g.B:=by rw[ht.B,d]
 have hN:g'.N=g.N:=by rw[ht.N,d]
 obtain⟨E,f⟩:=S0.own;have H:=S0.μI g.n (by omega);rw[y]at H;have P:∀q,E q≠some c:=λq K=>(f.free q c K).2.2.2 g.n (by omega) y;obtain⟨arr',T',b1,⟨b2,Q⟩,b3⟩:=f.blocks g.n (blk [] all' rest) (by show(L++_)[g.n]?=_;rw[m,←R,Ot (Oc _),P5];rfl);rw[y]at b1;have C:blk [] all' rest=(all'.map (Value.int .i64)++rest).map λv=>.pv (.lit v):=by
  unfold blk;simp only[OJ,Pa,Qi,OL];rfl
 have A:arr'=(all'.map (Value.int .i64)++rest).toArray:=by
  rw[C,Oj]at b2;exact qG (bl:=λk=>E (.cell g.n k)) b2 λk x hk=>(b3 k x (by rw[C];exact hk)).2
 have hle:({g' with n:=g.n}:Gh).le {g' with n:=g.n,n0:=g.n0}:=⟨λ_ _ h=>h,Oc _,Oc _,λ_ _=>rfl⟩;refine⟨⟨λk o hk=>ht.I k o (by rw[d];exact hk),by rw[ht.F,d],hB,rfl,hN,by rw[ht.env,d],h.n0,λb j=>hμ b (Ph j h.n0),λk hF hI=>ht.FI k (by rw[d];exact hF) (by rw[d];exact hI)⟩,?_,y⟩;refine{size:=S0.size,defs:=S0.defs,env:=S0.env,n:=by rw[m,←R],n0:=h.n0,B:=S0.B,I:=S0.I,F:=S0.F,μI:=λb j=>S0.μI b (by rw[i];exact Q9 j),μinj:=λb b' j f V=>S0.μinj b b' (by rw[i];exact Q9 j) (by rw[i];exact Q9 f) V,own:=⟨λp=>if p=.slot s then some c else E p,?_⟩,al:=λu=>?_}
 .refine{slots:=λu=>?_,blocks:=λb ys hy=>?_,inj:=λp q k hp K=>?_,free:=λp k hp=>?_}
  .by_cases e:s=u
   .subst e;simp only[look,PT];refine .inr ⟨c,rfl,cap,arr',T',all'.map (Value.int .i64),?_,b1,?_,⟨?_,l.2.1,Q⟩,dz _ _,?_,λhn=>by show g'.B<=c;rw[hB];exact Y hn⟩
    .rw[hv];unfold az;simp[z]
    .rw[A];simp[z];exact l.2.2
    .unfold az;simp[z];exact l.1
    .rw[A];exact⟨rest,rfl⟩
   .have e2:¬(Pos.slot u=Pos.slot s):=λe3=>e (by cases e3;rfl);simp only[look,N8 e,N8 e2,aR];have h1:=f.slots u;simp only[aR,look,N8 e]at h1;refine aw.frame hle (λ_ _=>rfl) (aw.below ?_ h1);rcases bc ep (look st.t u)with G|⟨G,_⟩
    .rw[G];trivial
    .rw[G,m];exact fX U u
  .have W:=(N5.1 hy).1;obtain⟨M,T2,d1,d2,d3⟩:=f.blocks b ys (by show(L++_)[b]?=_;rw[Oa W];exact hy);refine⟨M,T2,d1,d2,λk x hk=>⟨(d3 k x hk).1,?_⟩⟩;rw[N8 (by intro e;cases e)];refine aw.frame hle (λ_ _=>rfl) (aw.below ?_ (d3 k x hk).2);rw[m];exact gN (gO T b ys hy) k x hk
  .split at hp
   .rename_i e;split at K
    .rename_i e';rw[e,e']
    .cases hp;exact absurd K (P q)
   .split at K
    .cases K;exact absurd hp (P p)
    .exact f.inj p q k hp K
  .split at hp
   .cases hp
    refine⟨H.1,H.2,(Oh.1 b1).1,λb j e=>?_⟩;have ab:b<g.n:=j;have:=S0.μinj b g.n (by omega) (by omega) (by rw[y];exact e);omega
   .obtain⟨q1,q2,q3,q4⟩:=f.free p k hp;exact⟨q1,q2,q3,λb j=>q4 b (by rw[i];exact Q9 j)⟩
 .by_cases e:s=u
  .subst e;simp only[look,PT];trivial
  .simp only[look,N8 e,aR];rcases bc ep (look st.t u)with G|⟨G,S⟩
   .rw[G];trivial
   .rw[G];have D:(aa st (.slot s)).isOwn=true:=by show(look st.t s).isOwn=true;rw[O];rfl
    have h3:bQ g (setPos st (.slot s) (.own nw 1 (az all'))) a w (look st.t u) (a.tmps.getD u undef):=by
     refine bQ.write (p:=.slot s) (sv':=.own nw 1 (az all')) (λr hr=>cC st _ r _ (QZ hr)) (bW D) D (λ_ _=>rfl) (λad e' Z V=>?_) (h.al u);cases V
     exact⟨nw,az all,O,by unfold az;simp[z]⟩
    refine bQ.congrA (q:=ep) (λp hp J=>?_) S h3;cases p with
    |cell b k=>cases hp
    |slot v=>
     refine⟨?_,rfl⟩;simp only[aa,setPos,look]at J⊢;split
     .rfl
     .rename_i X;rw[N8 X,aR]at J;rw[aR];exact dG J
theorem dg.introB{P:Program}{st:St}{f:FuncId}{d:Option Tmp}{K:St->Prop}{c:Operand}{args:Array Operand}{q:List PV}{x:Operand}{xs:List Operand}{s lo hi:Nat}{nw:Bool}{all zs:List Int}{va:List PV}{R:Option Nat->List Int->List (List SV)->Prop}
 (F:look st.t s=.own nw 1 (az all)) (ar:gc st c) (U:bC st c=some (f,[],q)) (ha:args.toList=x::xs) (hp:partOf st x=some (.slot s,lo,hi)) (hg:gc st x) (aM:lo<hi) (hz:(all.take hi).drop lo=zs)
 (hT:iK st.h.length st.t) (ax:mc st xs) (aH:im st xs++q=va)
 (h : ∀ (pre ai : List Value) (cap : Nat), zs.length <= cap -> pre.length = lo -> aB P f (.bsl st.h.length 1 pre.length zs.length cap :: va) (st.h ++ [blk pre zs ai])
  (λr h'=>∃k e y,R k e y∧e.length=zs.length∧(∀m,k=some m->m<=zs.length)∧y.length=st.h.length∧dy st.h.length y∧r=I5 st.h.length k pre.length cap∧h'=y++[blk pre e ai]))
 (hK:∀k e y,R k e y->e.length=zs.length->(∀m,k=some m->m<=zs.length)->K (Bq d k (.slot s) lo ⟨(s,.own nw 1 (az (all.take lo++e++all.drop hi)))::aA ep st.t,y⟩)):dg P st c args d K:=by
 subst aH;intro o aO ho W g a w hs hd K' Q D;obtain⟨u,v,hx,hu,aG⟩:=d8 hs ar U;have aF:u.toList=[]:=hu;obtain⟨aJ,A,rows1,av,j1,j2,q0,cap,jv,jc,jq,jz⟩:=lJ hs hg hp;have C:look st.t s=.own aJ A rows1:=av;rw[F]at C;cases C
 have l:(az all).length=all.length:=by unfold az;simp
 rw[l]at j2;obtain⟨bl,hb⟩:=hs.own;have Y:=hb.slots s;rw[F]at Y;rcases Y with⟨_,A,_⟩|⟨cc,ak,L,arr,T,vs,A,e2,e3,e4,e5,e6,e7⟩
 .rw[A]at l;simp at l;omega
 have aI:=bH e5;subst aI;obtain⟨rest,p⟩:=e6;rw[l]at A e4;have ay:q0=some ⟨cc,lo,none⟩:=by
  rcases jq with jq|⟨c1,n1,cp,h5,h6⟩
  .omega
  .have M:a.tmps.getD s undef=.slice (some ⟨c1,0,none⟩) n1 cp:=h5;rw[A]at M;cases M;rw[h6,RF]
 subst ay;have H:zs.length=hi -lo:=by rw[←hz,OO,Oe];omega
 have z:all=all.take lo++zs++all.drop hi:=by
  rw[←hz];have h8:all.take lo=(all.take hi).take lo:=by rw[SH,Ps (by omega)]
  rw[h8,O8,O8]
 have B:∀e:List Int,blk ((all.take lo).map (Value.int .i64)) e ((all.drop hi).map (Value.int .i64)++rest)=blk [] (all.take lo++e++all.drop hi) rest:=λe=>by
  unfold blk;simp only[OJ,Pa,Qi,OL,OG];rfl
 have S:arr.toList.map (λv=>SV.pv (.lit v))=blk [] all rest:=by
  rw[←p];unfold blk;simp only[OJ,Pa,Qi,OL];rfl
 have S1:=hs.toBlk hb ak e2 e4.2.2 (xs:=blk [] all rest) S.symm;obtain⟨I,j⟩:∃I:Gh,I={g with n:=g.n+1,n0:=g.n+1,μ:=λb=>if b=g.n then cc else g.μ b}:=⟨_,rfl⟩;rw[←j]at S1;have hle:g.le I:=by subst j;exact⟨λ_ _ h=>h,Oc _,Qp _,λb hb=>N8 (by omega)⟩
 have ad:((all.take lo).map (Value.int .i64)).length=lo:=by rw[Oj,Oe];omega
 obtain⟨i,hA⟩:=h ((all.take lo).map (Value.int .i64)) ((all.drop hi).map (Value.int .i64)++rest) cap (by omega) ad;rw[B,←z,ad,H]at hA;have X:ah I (.bsl st.h.length 1 lo (hi -lo) cap::(im st xs++q)) (a.eval x::(xs.map a.eval++v.toList)):=by
  refine⟨_,_,rfl,⟨?_,jc,?_⟩,ah.append (ah.mono hle _ _ (kr hs xs ax)) (ah.mono hle _ _ aG)⟩
  .rw[j,hs.n];exact QC _
  .rw[jv,j,hs.n];simp
 have aD:(a.eval x::(xs.map a.eval++v.toList)).toArray=u++args.map a.eval++v:=by
  apply PX;simp[aF,ha]
 have ae:(execOp a.eval o).run P w=.ok (.enter f (u++args.map a.eval++v)) w:=by
  unfold aC at i;split at i
  case h_2=>cases i
  rename_i fn aq;simp only[Og,OY]at i;simp only[execOp,ho,resolve,hx,Deferred.ofValue,invoke,callFunc,Sem.run_bind,Sem.run_pure,Result.andThen_ok,run_program,aq,i.1,i.2,OQ,Pk]
 unfold Oper.wp;rw[ae,Oper.upon_enter,←aD];refine(hA I _ a w _ S1 rfl X).mono λe9 w' ⟨v9,r,h',g',he,⟨k,e,y,r1,r2,r3,r4,r5,r6,r7⟩,t',af⟩=>?_;subst he r6 r7;have E:=hK k e y r1 (by rw[H];exact r2) (by rw[H];exact r3);have S0:=af none trivial;have S0':Sim g' ⟨aA ep ((s,.pv .bot)::st.t),y++[blk [] (all.take lo++e++all.drop hi) rest]⟩ a w':=by
  rw[←B];exact S0
 have O:(all.take lo++e++all.drop hi).length=all.length:=by simp only[Oi,Oe,OO,r2];omega
 have aE:all.length+rest.length=L:=by
  have:arr.size=arr.toList.length:=(OS ..).symm;rw[←p]at this;simp only[Oi,Oj]at this;omega
 obtain⟨f1,f2,f3⟩:=hs.fromBlk (all':=all.take lo++e++all.drop hi) F A ⟨e4.1,e4.2.1,aE⟩ e7 O j t' S0' r4 hT r5 rfl;cases d with
 |none=>rw[W];exact D _ _ _ _ E f1 f2
 |some d=>
  have V:d<g'.N:=by rw[t'.N,j];exact hd
  have an:bU I.N (some d):=by rw[j];exact hd
  have Sd:=af (some d) an;obtain⟨J,aj⟩:=Sd.own;have G:=aj.slots d;have ao:d<a.tmps.size:=by rw[hs.size];exact hd
  rw[fU ao,N9 rfl]at G;rw[W];cases k with
  |none=>
   have h7:aw g' w' (.pv (.tup [])) v9 (J (.slot d)):=by simpa[I5,iR,St.put,look]using G
   refine D _ _ _ _ E f1 (f2.put V ⟨rfl,h7.2⟩ trivial rfl)
  |some m=>
   have h7:aw g' w' (.pv (.bsl st.h.length 1 lo m cap)) v9 (J (.slot d)):=by simpa[I5,iR,St.put,look]using G
   obtain⟨_,_,au,ag⟩:=h7;have hm:=r3 m rfl;refine D _ _ _ _ E f1 (f2.put V rfl ?_ rfl);intro aN aL aK ab;simp only[aa,look,PT]at ab;cases ab
   have Z:lo+m -lo=m:=by omega
   rw[←hs.n,f3]at ag;refine⟨by omega,by rw[show(az (all.take lo++e++all.drop hi)).length=all.length by unfold az;rw[Oj,O]];omega,_,_,by rw[Z];exact ag,by rw[Z];exact au,.inr ⟨cc,_,_,A,by rw[RF]⟩,λh0=>?_⟩;exact jz h0
end Go.AX
namespace Go.AX
open Go.Proofs Go.Shelf
theorem fT(c:Nat):∀(vs:List Value)(o:Nat)(w:World)(arr:Array Value)(T:TypeId)(fz:Nat×Nat),w.heap[c]?=some (.cells arr T fz)->o+vs.length<=arr.size->
 (w.setCells c o vs).heap[c]?=some (.cells (arr.toList.take o++vs++arr.toList.drop (o+vs.length)).toArray T fz)∧(∀k,k≠c->(w.setCells c o vs).heap[k]?=w.heap[k]?)∧(w.setCells c o vs).heap.size=w.heap.size∧b7 (w.setCells c o vs)=b7 w
 |[],o,w,arr,T,fz,h,b=>by
  refine⟨?_,λ_ _=>rfl,rfl,rfl⟩;rw[World.setCells,h];simp
 |v::r,o,w,arr,T,fz,h,b=>by
  simp only[OC]at b;have l:c<w.heap.size:=(Oh.1 h).1;have h1:(w.setCell ⟨c,o,none⟩ v).heap[c]?=some (.cells (arr.setIfInBounds o v) T fz):=by
   show(w.heap.modify c _)[c]?=_;rw[PP,N9 rfl,h];simp
  have i:∀k,k≠c->(w.setCell ⟨c,o,none⟩ v).heap[k]?=w.heap[k]?:=λk hk=>by
   show(w.heap.modify c _)[k]?=_;rw[PP,N8 (QZ hk)]
  have j:(w.setCell ⟨c,o,none⟩ v).heap.size=w.heap.size:=by
   show(w.heap.modify c _).size=_;rw[Qq]
  obtain⟨f,g2,g3,g⟩:=fT c r (o+1) (w.setCell ⟨c,o,none⟩ v) _ T fz h1 (by simp;omega);rw[World.setCells];refine⟨?_,λk hk=>(g2 k hk).trans (i k hk),g3.trans j,g.trans rfl⟩;rw[f];congr 2;simp only[Ra,OC];have m:arr.toList.length=arr.size:=OS;have ho:o<arr.toList.length:=by omega
  have a:(arr.toList.take o).length=o:=by rw[Oe];omega
  have d:(arr.toList.set o v).take (o+1)=arr.toList.take o++[v]:=by
   rw[RB,N9 ho,List.take_append,a,Pf (by omega),Qm];rfl
  have e:(arr.toList.set o v).drop (o+1+r.length)=arr.toList.drop (o+(r.length+1)):=by
   rw[Rr (by omega)];congr 1;omega
  rw[d,e];simp
theorem cH(l:List Int):(az l).length=l.length:=by unfold az;simp
theorem q8{l:List Value}{xs:List Value}(h:xs<+:l){j:Nat}{v:Value}(hj:xs[j]?=some v):l[j]?=some v:=by
 obtain⟨r,rfl⟩:=h;rw[Oa (N5.1 hj).1];exact hj
theorem dg.introI{P:Program}{ρ:Ren}(L:Lays2.n21 P ρ)(i:aC P (ρ.f 21)=true){st:St}{d:Option Tmp}{K:St->Prop}{cx:Operand}{args:Array Operand}{x0 k y:Operand}{ps py:Pos}{hi:Nat}{zs:List Int}{nw a0:Bool}{x:Int}
    (aJ:gc st cx) (aF:bC st cx=some (ρ.f 21,[],[])) (ha:args.toList=[x0,k,y]) (hp:partOf st x0=some (ps,0,hi)) (aI:gc st x0) (aK:gc st k) (hk:mv st k=.pv (.lit (.int .i64 0))) (aL:gc st y) (hy:partOf st y=some (py,0,1))
    (W:aa st py=.own a0 1 (az [x])) (aO:ps≠py) (G:aa st ps=.own nw 1 (az zs)) (aP:hi<zs.length)
    (hK:K (Bq d (some (hi+1)) ps 0 (setPos st ps (.own nw 1 (az (x::(zs.take hi++zs.drop (hi+1)))))))):dg P st cx args d K:=by
  intro o a7 ho r g a w h hd K' Q ab
  obtain⟨u,v,hx,hu,aS⟩:=d8 h aJ aF
  have aR:u=#[]:=PX hu
  have aT:v=#[]:=PX aS
  subst aR aT
  obtain⟨bl,hb⟩:=h.own
  have m:(aa st ps).isOwn=true:=by rw[G];rfl
  have V:(aa st py).isOwn=true:=by rw[W];rfl
  -- the slice
  obtain⟨aZ,e1,rows1,au,j1,j2,q0,cap,jv,jc,_,jz⟩:=lJ h aI hp
  rw[G]at au;cases au
  obtain⟨n0,ao⟩:=jz rfl
  have ah:=aW hb m
  rw[G]at ah
  rcases ah with⟨_,A,_⟩|⟨c,R,a2,arr,T,vs,f1,Y,f3,f4,f5,f6,f7⟩
  · have:=QH List.length A
    rw[cH,List.length_nil]at this
    omega
  rw[f1]at ao
  cases ao
  have aU:=bH f5
  subst aU
  have U:(az zs).length=zs.length:=by unfold az;simp
  rw[U]at f4
  have a4:arr.toList.length=arr.size:=OS
  -- the number
  obtain⟨a6,e3,a1,O,_,_,qy,p,aX,_,_,aY⟩:=lJ h aL hy
  rw[W]at O;cases O
  obtain⟨n1,aq⟩:=aY rfl
  have aj:=aW hb V
  rw[W]at aj
  rcases aj with⟨_,A,_⟩|⟨c2,ae,a3,Z,T2,a8,y1,y2,y3,y4,y5,y6,y7⟩
  · simp[az]at A
  rw[y1]at aq
  cases aq
  have ay:=bH y5
  subst ay
  have aE:c2≠c:=λe=>aO (hb.inj ps py c R (e▸ae))
  -- the place
  have aN:a.eval k=.int .i64 0:=by
    obtain⟨hf,_⟩:=aM h k aK
    rw[hk]at hf
    exact hf.2
  have ad:(#[]++args.map a.eval++#[])=#[.slice (some ⟨c,0,none⟩) (hi -0) cap,.int .i64 0,.slice (some ⟨c2,0,none⟩) 1 p]:=by
    apply PX
    simp[ha,jv,aN,aX]
  have aw:(execOp a.eval o).run P w=.ok (.enter (ρ.f 21) (#[]++args.map a.eval++#[])) w:=by
    unfold aC at i
    split at i
    case h_2=>cases i
    rename_i fn aH
    simp only[Og,OY]at i
    simp only[execOp,ho,resolve,hx,Deferred.ofValue,invoke,callFunc,Sem.run_bind,Sem.run_pure,Result.andThen_ok,run_program,aH,i.1,i.2,OQ,Pk]
  have I:cap<=9223372036854775807:=by have:=f4.2.1;unfold maxLen at this;omega
  have S:∀j v,((zs.take hi).map (Value.int .i64))[j]?=some v->w.cell? ⟨c,0+j,none⟩=some v:=λj v hj=>by
    rw[O3,cell_of Y,←Ob]
    refine q8 f6 ?_
    rw[Oq]at hj⊢
    by_cases e:j<hi
    · rw[O6,N9 e]at hj
      exact hj
    · rw[O6,N8 e]at hj
      simp at hj
  have C:∀j,j<hi+1->(w.cell? ⟨c,0+j,none⟩).isSome=true:=λj hj=>by
    rw[O3,cell_of Y,Ox (by omega)];rfl
  have ai:∀j,w.frozen? ⟨c,j,none⟩=false:=λj=>by simp[World.frozen?,Y]
  have J:∀j,w.frozen? ⟨c2,j,none⟩=false:=λj=>by simp[World.frozen?,y2]
  have q:∀j v,([Value.int .i64 x]:List Value)[j]?=some v->w.cell? ⟨c2,0+j,none⟩=some v:=λj v hj=>by
    rw[O3,cell_of y2,←Ob]
    exact q8 y6 (by simpa using hj)
  have M:∀v∈[Value.int .i64 x],v.oneCell'=true:=λv D=>by simp at D;subst D;rfl
  have B:∀v∈(zs.take hi).map (Value.int .i64),v.oneCell'=true:=λv D=>by
    obtain⟨z,_,rfl⟩:=Of.1 D
    rfl
  have H:((zs.take hi).map (Value.int .i64)).length=hi:=by simp;omega
  have E:Calls P (ρ.f 21) #[.slice (some ⟨c,0,none⟩) (hi -0) cap,.int .i64 0,.slice (some ⟨c2,0,none⟩) 1 p] w λe w'=>
      e=.returned (.slice (some ⟨c,0,none⟩) (hi+1) cap)∧w'.heap[c]?=some (.cells ((Value.int .i64 x::(zs.take hi).map (Value.int .i64))++arr.toList.drop (hi+1)).toArray T (0,0))∧(∀k,k≠c->w'.heap[k]?=w.heap[k]?)∧w'.heap.size=w.heap.size∧b7 w'=b7 w:=by
    rw[Se]
    by_cases hz:hi=0
    · subst hz
      refine(Any2.slices_Insert_int_end_room L c 0 0 cap c2 0 1 p [.int .i64 x] w (by omega) (by omega) I rfl (λj hj=>by simpa using C j (by omega)) (λj _=>ai _) q M).mono λe w' ⟨he,hw⟩=>?_
      obtain⟨s1,s2,s3,s4⟩:=fT c [.int .i64 x] 0 w arr T (0,0) Y (by simp;omega)
      subst hw
      refine⟨he,?_,s2,s3,s4⟩
      rw[s1]
      simp
    · refine(Any2.slices_Insert_int_shift L c 0 hi cap 0 c2 0 1 p ((zs.take hi).map (Value.int .i64)) [.int .i64 x] w (by omega) (by omega) (by omega) I aE H rfl S C (λj _=>ai _) q B M T2 T Z.size arr.size (by simp[World.shape?,y2]) (by simp[World.shape?,Y]) (by omega) (J _) (J _)).mono λe w' ⟨he,hw⟩=>?_
      have aB:w.drew.heap[c]?=some (.cells arr T (0,0)):=Y
      obtain⟨s1,s2,s3,s4⟩:=fT c ((zs.take hi).map (Value.int .i64)) 1 w.drew arr T (0,0) aB (by rw[H];omega)
      obtain⟨r1,r2,r3,r4⟩:=fT c [.int .i64 x] 0 _ _ T (0,0) s1 (by simp;omega)
      have aV:w'=(w.drew.setCells c 1 ((zs.take hi).map (Value.int .i64))).setCells c 0 [.int .i64 x]:=by simpa using hw
      rw[aV]
      refine⟨he,?_,λk hk=>(r2 k hk).trans (s2 k hk),r3.trans s3,r4.trans s4⟩
      rw[r1]
      have h1:(arr.toList.take 1).length=1:=by rw[Oe];omega
      congr 3
      show List.take 0 (List.take 1 arr.toList++(zs.take hi).map (Value.int .i64)++List.drop (1+((zs.take hi).map (Value.int .i64)).length) arr.toList)++[Value.int .i64 x]++List.drop (0+[Value.int .i64 x].length) (List.take 1 arr.toList++(zs.take hi).map (Value.int .i64)++List.drop (1+((zs.take hi).map (Value.int .i64)).length) arr.toList)=_
      rw[H,OG (List.take 1 arr.toList),RI,OL,Po,O3,R0 h1,show 1+hi=hi+1 by omega]
      rfl
  unfold Oper.wp
  rw[aw,Oper.upon_enter,ad]
  refine E.mono λe9 w' ⟨he,F,t,aQ,aG⟩=>?_
  subst he
  have l:(x::(zs.take hi++zs.drop (hi+1))).length=zs.length:=by simp;omega
  have ax:Sim g (setPos st ps (.own nw 1 (az (x::(zs.take hi++zs.drop (hi+1)))))) a w':=by
    refine h.ownWrite hb m R aG aQ t ?_ rfl ?_
    · right
      refine⟨c,rfl,cap,_,T,(x::(zs.take hi++zs.drop (hi+1))).map (Value.int .i64),?_,F,?_,?_,dz g _,?_,f7⟩
      · rw[f1,U,cH,l]
      · simp only[Pb,Oi,OC,H,OO]
        omega
      · rw[cH,l]
        refine⟨f4.1,f4.2.1,?_⟩
        intro v D
        simp only[R8,Om,OB]at D
        rcases D with(rfl|D)|D
        · rfl
        · exact B v D
        · exact f4.2.2 v (PZ D)
      · obtain⟨rest,X⟩:=f6
        refine⟨rest,?_⟩
        rw[←X]
        simp only[Ow,OJ,OU,OG,R8]
        congr 2
        rw[Pz (by simp;omega),RW]
    · intro a5 e' rows1 hh
      cases hh
      exact⟨nw,az zs,G,by rw[U,cH,l]⟩
  have af:bU g.N o.dst:=by rw[r];exact hd
  cases ag:d with
  |none=>
    rw[ag]at hK r
    rw[r]
    exact ab _ g _ w' hK h.refl_to ax
  |some dd=>
    rw[ag]at hK r
    rw[r]at af⊢
    refine ab _ g _ w' hK h.refl_to ?_
    refine ax.put af rfl ?_ rfl
    intro aZ e1 rows1 ar
    have an:aa (setPos st ps (.own nw 1 (az (x::(zs.take hi++zs.drop (hi+1)))))) ps=.own nw 1 (az (x::(zs.take hi++zs.drop (hi+1)))):=bW m
    rw[an]at ar
    cases ar
    have av:ak g a w' ps=ak g a w ps:=by
      cases ps with
      |slot s=>rfl
      |cell b j=>
        simp only[aa]at m
        cases aA:st.h[b]?with
        |none=>simp[List.getD,aA,SV.isOwn]at m
        |some ys=>
          have aD:b<g.n:=by rw[h.n];exact(N5.1 aA).1
          simp only[ak];rw[t _ ((hb.free _ c R).2.2.2 b aD)]
    refine⟨Oz _,by rw[cH,l];omega,some ⟨c,0,none⟩,cap,by rw[O3,Se],by omega,.inr ⟨c,_,cap,av.trans f1,by simp⟩,λ_=>⟨_,av.trans f1⟩⟩
def NW(P:Program)(f:FuncId)(zs:List Int)(hi:Nat)(args:List PV)(b:List Int)(m:Nat):Prop:=
 aC P f=true∧∀(w:World)(c cap:Nat)(arr:Array Value)(T:TypeId)(a d:List Value),w.heap[c]?=some (.cells arr T (0,0))->arr.toList=zs.map (Value.int .i64)++a->zs.length<=cap->cap<=maxLen->ah (qj w c) args d->(∀v∈arr.toList,v.oneCell'=true)->
  Calls P f ((.slice (some ⟨c,0,none⟩) hi cap)::d).toArray w λe w'=>e=.returned (.slice (some ⟨c,0,none⟩) m cap)∧w'.heap[c]?=some (.cells (b.map (Value.int .i64)++a).toArray T (0,0))∧(∀k,k≠c->w'.heap[k]?=w.heap[k]?)∧w'.heap.size=w.heap.size∧b7 w'=b7 w
theorem dg.introW{P:Program}{st:St}{f:FuncId}{d:Option Tmp}{K:St->Prop}{cx:Operand}{args:Array Operand}{x0:Operand}{xs:List Operand}{ps:Pos}{hi m:Nat}{zs l:List Int}{nw:Bool}{q va:List PV}
 (hA:NW P f zs hi va l m) (U:l.length=zs.length) (hm:m<=zs.length) (h0:zs≠[]) (au:gc st cx) (an:bC st cx=some (f,[],q)) (ha:args.toList=x0::xs) (hp:partOf st x0=some (ps,0,hi)) (ar:gc st x0)
 (A:aa st ps=.own nw 1 (az zs)) (C:iS (setPos st ps (.pv .bot)) xs) (ay:xx 3 (setPos st ps (.pv .bot)) xs++dY (br (setPos st ps (.pv .bot)).h 3) q=va)
 (hK:K (Bq d (some m) ps 0 (setPos st ps (.own nw 1 (az l))))):dg P st cx args d K:=by
 intro o aH ho p g a w h hd K' Q H;obtain⟨u,v,hx,hu,ax⟩:=d8 h au an;have aw:u.toList=[]:=hu;obtain⟨bl,hb⟩:=h.own;have i:(aa st ps).isOwn=true:=by rw[A];rfl
 obtain⟨aB,e1,rows1,Y,j1,j2,q0,cap,jv,jc,_,jz⟩:=lJ h ar hp;rw[A]at Y;cases Y;obtain⟨n0,V⟩:=jz rfl;have R:=aW hb i;rw[A]at R;rcases R with⟨_,W,_⟩|⟨c,D,aD,arr,T,vs,f1,f2,f3,B,f5,f6,f7⟩
 .exfalso;apply h0;cases zs with
  |nil=>rfl
  |cons _ _=>simp[az]at W
 rw[f1]at V;cases V
 have aA:=bH f5;subst aA;have F:=cH zs;rw[F]at B;obtain⟨af,t⟩:=f6;obtain⟨s0,aE,ai,_,_,E⟩:=h.drop hb ps;have G:Sim g (setPos st ps (.pv .bot)) a (ou w c):=s0.turn ai (E c D) rfl (by simp[ou]) (λk hk=>jy w hk);have O:ah (qj w c) va (xs.map a.eval++v.toList):=by
  rw[←ay];refine ah.monoC (vv w c) _ _ (.inl (Oz _)) (.inl rfl) ?_;refine ah.append ?_ (ah.frz G.I (jt G 3) _ _ ax);rw[mL];exact ow G 3 xs C
 have J:(a.eval x0::(xs.map a.eval++v.toList)).toArray=u++args.map a.eval++v:=by
  apply PX;simp[aw,ha]
 obtain⟨e,x⟩:=hA;have ab:(execOp a.eval o).run P w=.ok (.enter f (u++args.map a.eval++v)) w:=by
  unfold aC at e;split at e
  case h_2=>cases e
  rename_i fn aq;simp only[Og,OY]at e;simp only[execOp,ho,resolve,hx,Deferred.ofValue,invoke,callFunc,Sem.run_bind,Sem.run_pure,Result.andThen_ok,run_program,aq,e.1,e.2,OQ,Pk]
 have hc:=x w c cap arr T af _ f2 t.symm B.1 B.2.1 O B.2.2;unfold Oper.wp;rw[ab,Oper.upon_enter,←J,jv,Se];refine hc.mono λe9 w' ⟨he,y,r,av,ao⟩=>?_;subst he;have ad:Sim g (setPos st ps (.own nw 1 (az l))) a w':=by
  refine h.ownWrite hb i D ao av r ?_ rfl ?_
  .right;refine⟨c,rfl,cap,_,T,l.map (Value.int .i64),?_,y,?_,?_,dz g _,⟨af,by simp⟩,f7⟩
   .rw[f1,F,cH,U]
   .have ag:arr.size=arr.toList.length:=OS.symm;rw[←f3,ag,←t];simp[U]
   .rw[cH,U];refine⟨B.1,B.2.1,?_⟩;intro v C;simp only[R8,Om]at C;rcases C with C|C
    .obtain⟨z,_,rfl⟩:=Of.1 C;rfl
    .exact B.2.2 v (by rw[←t];exact PQ _ C)
  .intro aG e' rows1 hh;cases hh
   exact⟨nw,az zs,A,by rw[F,cH,U]⟩
 have L:bU g.N o.dst:=by rw[p];exact hd
 cases M:d with
 |none=>
  rw[M]at hK p;rw[p];exact H _ g _ w' hK h.refl_to ad
 |some dd=>
  rw[M]at hK p;rw[p]at L⊢;refine H _ g _ w' hK h.refl_to ?_;refine ad.put L rfl ?_ rfl;intro aB e1 rows1 X;have S:aa (setPos st ps (.own nw 1 (az l))) ps=.own nw 1 (az l):=bW i;rw[S]at X;cases X
  have Z:ak g a w' ps=ak g a w ps:=by
   cases ps with
   |slot s=>rfl
   |cell b j=>
    simp only[aa]at i;cases ae:st.h[b]?with
    |none=>simp[List.getD,ae,SV.isOwn]at i
    |some ys=>
     have aj:b<g.n:=by rw[h.n];exact(N5.1 ae).1
     simp only[ak];rw[r _ ((hb.free _ c D).2.2.2 b aj)]
  have aF:m<=cap:=by have:=B.1;omega
  refine⟨Oz _,by rw[cH,U];omega,some ⟨c,0,none⟩,cap,by rw[O3,Se],by omega,.inr ⟨c,_,cap,Z.trans f1,by simp⟩,λ_=>⟨_,Z.trans f1⟩⟩
end Go.AX