/-
  AX, part Pu: a call that leaves all as it was, and whose result is plain, changes nothing; and what follows.
-/
import Derived.Test.YtepodadinenmnaaGreatZ5
import Derived.Shelf.Spec.SlicesInsert
namespace Go.AX
theorem aI.pure{P:aa}{f:az}{args:aD}{R:SV->Prop}(g:aI P f args [] (λr _=>∃x,r=.pv x∧R (.pv x))):aw P f args R:=by
 refine⟨g.1,λw vs h=>?_⟩;have hs:=xz (N:=args.length+1) h (Xt _);refine(g.2 _ _ _ _ vs hs rfl (xy h)).mono λe w' ⟨v,r,h',g',l,⟨x,n,i⟩,o,hd⟩=>?_;subst n;have d:args.length<(mK w (args.length+1)).N:=Yz _;have s':=hd (some args.length) d;obtain⟨bl,j⟩:=s'.own;have a:=j.slots args.length;have b:args.length<(vs.toArray++Array.replicate (args.length+1 -vs.toArray.size) undef).size:=by
  rw[hs.size];exact d
 rw[fw b,Vt rfl]at a;have m:look (jE (some args.length) (.pv x) ⟨aW fE (gX 0 args),h'⟩).t args.length=.pv x:=by
  simp[jE,look,St.put]
 rw[m]at a;exact⟨v,.pv x,g',none,l,i,j0 o s',⟨rfl,a.2⟩,rfl,λc k=>by cases k⟩
def nY(st:St):List ae->aD->Prop
 |[],zs=>zs=[]
 |a::xs,zs=>∃z r,zs=z::r∧gc st a∧mv st a=.pv z∧nY st xs r
theorem xG{st:St}{g:Gh}{a:Act}{w:ab}(h:Sim g st a w):∀{xs:List ae}{zs:aD},nY st xs zs->ax g zs (xs.map a.eval)
 |[],zs,e=>by
  have:zs=[]:=e;subst this;rfl
 |x::xs,zs,⟨z,r,hz,c,d,f⟩=>by
  subst hz;obtain⟨b,_⟩:=bm h x c;rw[d]at b;exact⟨_,_,rfl,b.2,xG h f⟩
theorem uU{g:Gh}:∀{xs ys:aD}{a vs:aG},ax g xs a->ax g ys vs->ax g (xs++ys) (a++vs)
 |[],ys,a,vs,h,k=>by
  have:a=[]:=h;subst this;exact k
 |x::xs,ys,a,vs,⟨v,r,h1,b,c⟩,k=>by
  subst h1;exact⟨v,r++vs,rfl,b,uU c k⟩
theorem cd.pureM{P:aa}{st:St}{x:ae}{args:Array ae}{d:Nat}{K:St->Prop}{f:az}{p q zs:aD}{y:PV}(R:aI P f (p++(zs++q)) [] (λr _=>r=.pv y))
 (hg:gc st x) (m:b8 st x=some (f,p,q)) (ha:nY st args.toList zs) (A:b7 0 (p++(zs++q))) (hy:y.bel 0)
 (hK:K (st.put d (.pv y))):cd P st x args (some d) K:=by
 intro o ad ho U g a w h hd K' Q H;obtain⟨C,R⟩:=R;obtain⟨u,v,hu,hv,M⟩:=mL h o x args ad f p q ho hg m C;have J:ax g (p++(zs++q)) (u.toList++(args.toList.map a.eval++v.toList)):=uU hu (uU (xG h ha) hv);generalize ah:p++(zs++q)=i at*;generalize ai:u.toList++(args.toList.map a.eval++v.toList)=vs at*
 let g0:Gh:={g with F:=λc=>if g.I c=none then w.heap[c]?else none,n:=0,n0:=0,N:=i.length+1,env:=cH w}
 have L:Gh.le {g with n:=0} g0:=⟨λ_ _ h=>h,Vu _,Vu _,λ_ h=>absurd h (XD _)⟩;have j:ax g0 i vs:=ax.mono L _ _ (ax.below i vs A J);have hl:=j.length;have Y:∀s,(vs.toArray++Array.replicate (i.length+1 -vs.toArray.size) undef).getD s undef=vs.getD s undef:=by
  intro s;simp only[VJ,Vr,Y1,Ww,ZA,Xb];split;rfl;rename_i hs;rw[V4 (by omega)];split<;>rfl
 have O:Sim g0 ⟨gX 0 i,[]⟩ {tmps:=vs.toArray++Array.replicate (i.length+1 -vs.toArray.size) undef,defers:=[]} w:=by
  refine{
   size:=?_,defs:=rfl,env:=rfl,n:=rfl,n0:=Vu _,B:=h.B,I:=h.I,F:=λc o m=>?_,μI:=λb A=>absurd A (XD _),μinj:=λb b' A=>absurd A (XD _),
   own:=⟨λ_=>none,?_⟩,al:=λs=>?_}
  show(vs.toArray++Array.replicate (i.length+1 -vs.toArray.size) undef).size=i.length+1;simp;omega
  change(if g.I c=none then w.heap[c]?else none)=some o at m
  split at m;exact m;cases m;refine{slots:=λs=>?_,blocks:=λb xs hx=>(by simp at hx),inj:=λp q c hp=>(by cases hp),free:=λp c hp=>by cases hp};show aO _ w _ ((vs.toArray++Array.replicate (i.length+1 -vs.toArray.size) undef).getD s undef) none;rw[Y];have:=lN g0 i vs 0 s j w;simpa using this;obtain⟨x,hx⟩:=mJ i 0 s;simp only[hx];trivial
 unfold Oper.wp;rw[M,Oper.upon_enter];refine(R g0 _ _ w vs O rfl j).mono λe w' ⟨v',r,h',g',he,hr,E,V⟩=>?_;subst he;subst hr;have hN:i.length<g0.N:=Yz _;have s':=V (some i.length) hN;obtain⟨bl,S⟩:=s'.own;have W:=S.slots i.length;have ab:i.length<(vs.toArray++Array.replicate (i.length+1 -vs.toArray.size) undef).size:=by
  rw[O.size];exact hN
 rw[fw ab,Vt rfl]at W;have Z:look (jE (some i.length) (.pv y) ⟨aW fE (gX 0 i),h'⟩).t i.length=.pv y:=by
  simp[jE,look,St.put]
 rw[Z]at W;have l:∀c,c<w.heap.size->w'.heap[c]?=w.heap[c]?:=λc m=>by
  have hx:w.heap[c]?=some w.heap[c]:=VK m;cases z:g.I c with
  |some o=>rw[s'.I c o (E.I c o z),h.I c o z]
  |none=>
   have hF:g'.F c=some w.heap[c]:=by
    rw[E.F];show(if g.I c=none then w.heap[c]?else none)=_;rw[Vt z,hx]
   rw[s'.F c _ hF,hx]
 have D:w.heap.size<=w'.heap.size:=by
  cases af:w.heap.size with
  |zero=>exact VH _
  |succ n=>
   have h1:=l n (by omega);rw[VK (show n<w.heap.size by omega)]at h1;have:=(VD.1 h1).1;omega
 have G:cH w'=cH w:=s'.env.trans E.env;obtain⟨h1,h2,h3⟩:=h.grown G D l g'.I s'.I;have X:Fit {g with I:=λc=>if w.heap.size<=c then g'.I c else g.I c} y v':=by
  refine Fit.mono ?_ _ _ (Fit.below y v' hy W.2);refine⟨λc o m=>?_,?_,VH _,λ_ A=>absurd A (XD _)⟩;show(if w.heap.size<=c then g'.I c else g.I c)=some o;have k:g'.I c=some o:=m;split;exact k;rename_i ag;cases z:g.I c with
  |some o2=>rw[E.I c o2 z]at k;exact k
  |none=>
   have hx:w.heap[c]?=some (w.heap[c]'(by omega)):=VK (by omega);have:=E.FI c (by show(if g.I c=none then w.heap[c]?else none)≠none;rw[Vt z,hx];simp) z;rw[this]at k;cases k
  show g.B<=g'.B;rw[E.B];exact Vu _
 rw[U];have T:d<g.N:=hd;exact H _ _ _ _ hK h2 (h1.put T ⟨rfl,X⟩ trivial rfl)
def blk(pre:aG)(zs:af)(a:aG):bj:=pre.map (λv=>.pv (.lit v))++(zs.map (λz=>.pv (.lit (.int .i64 z)))++a.map λv=>.pv (.lit v))
theorem fN(pre:aG)(zs:af)(a:aG):(blk pre zs a).length=pre.length+zs.length+a.length:=by
 unfold blk;simp only[Vz,VA];omega
theorem mM(pre:aG)(zs:af)(a:aG){i:Nat}(h:i<zs.length):(blk pre zs a)[pre.length+i]?=some (.pv (.lit (.int .i64 zs[i]))):=by
 unfold blk;rw[VM (by simp),VA,XL,Vv (by simpa using h),VO,Vq h];rfl
theorem uW(pre:aG)(zs:af)(a:aG){i:Nat}{ys:af}(h:i+ys.length<=zs.length):
 List.take (pre.length+i) (blk pre zs a)++(ys.map (λz=>SV.pv (.lit (.int .i64 z)))++List.drop (pre.length+i+ys.length) (blk pre zs a))=blk pre (zs.take i++ys++zs.drop (i+ys.length)) a:=by
 unfold blk;have b:pre.length=(pre.map (λv=>SV.pv (PV.lit v))).length:=by simp
 rw[show List.take (pre.length+i) (pre.map (λv=>SV.pv (PV.lit v))++(zs.map (λz=>SV.pv (.lit (.int .i64 z)))++a.map λv=>.pv (.lit v)))=pre.map (λv=>SV.pv (PV.lit v))++(zs.map (λz=>SV.pv (.lit (.int .i64 z)))).take i by
  rw[b,Y0];congr 1;rw[Wd (by simp;omega)],
  show List.drop (pre.length+i+ys.length) (pre.map (λv=>SV.pv (PV.lit v))++(zs.map (λz=>SV.pv (.lit (.int .i64 z)))++a.map λv=>.pv (.lit v)))=(zs.map (λz=>SV.pv (.lit (.int .i64 z)))).drop (i+ys.length)++a.map λv=>.pv (.lit v) by
   rw[Xf,b,Ya,WB (by simp;omega)]]
 simp only[V1,Xn,Yj,VV]
theorem zC(pre:aG)(zs:af)(a:aG){i:Nat}(y:Int)(h:i<zs.length):
 List.take (pre.length+i) (blk pre zs a)++SV.pv (.lit (.int .i64 y))::List.drop (pre.length+i+1) (blk pre zs a)=blk pre (zs.set i y) a:=by
 have:=uW pre zs a (i:=i) (ys:=[y]) (by simp;omega);simp only[VP,Xg,Wi,Wh,V8]at this;rw[this];congr 1;rw[XC,Vt h];simp
theorem KL(pre:aG)(zs:af)(a:aG)(t:ao)(n:Nat):tI (bE (blk pre zs a::t) (n+1) 0 pre.length) 1 zs.length=.seq false 1 (zs.map λz=>[.lit (.int .i64 z)]):=by
 have b:=fN pre zs a;have e:(blk pre zs a::t).getD 0 []=blk pre zs a:=rfl;simp only[bE,tI,e,VA];rw[Vt ⟨trivial,by omega⟩];congr 1;unfold blk;simp only[V1,Wo];rw[Zp (by simp),Xw (by simp),Wo];rfl
theorem gJ(k:Nat)(pre:aG)(zs:af)(a:aG):cA k (blk pre zs a):=by
 refine oV λx hx=>?_;unfold blk at hx;simp only[VF,VB]at hx;rcases hx with⟨_,_,rfl⟩|⟨_,_,rfl⟩|⟨_,_,rfl⟩<;>trivial
theorem uX(pre:aG)(zs:af)(a:aG){i n:Nat}(y:Int)(h:i+n<=zs.length):
 List.take (pre.length+i) (blk pre zs a)++(List.replicate n (SV.pv (.lit (.int .i64 y)))++List.drop (pre.length+i+n) (blk pre zs a))=blk pre (zs.take i++List.replicate n y++zs.drop (i+n)) a:=by
 have:=uW pre zs a (i:=i) (ys:=List.replicate n y) (by simpa using h);simpa only[Xq,Ym]using this
theorem qi{g:Gh}{w:ab}{arr:Array an}{bl:Nat->Option Nat}{vs:aG}(hs:arr.size=vs.length)(h:∀k x,(vs.map (λv=>SV.pv (.lit v)))[k]?=some x->aO g w x (arr.getD k undef) (bl k)):arr=vs.toArray:=by
 apply Array.ext;simpa using hs;intro i h1 b;have:=h i (.pv (.lit (vs[i]'(by omega)))) (by rw[VO,Vq (by omega)];rfl);have a:arr.getD i undef=vs[i]'(by omega):=this.2;simpa[Array.getD,h1]using a
def aU(zs:af):aT:=zs.map λz=>[.lit (.int .i64 z)]
theorem eP(G:Gh):∀zs:af,aK G 1 (aU zs) (zs.map (Value.int .i64))
 |[]=>rfl
 |z::zs=>⟨[.int .i64 z],zs.map (Value.int .i64),rfl,⟨rfl,λv a=>by simp at a;subst a;rfl⟩,⟨_,_,rfl,rfl,rfl⟩,eP G zs⟩
theorem cK{G:Gh}:∀{zs:af}{vs:aG},aK G 1 (aU zs) vs->vs=zs.map (Value.int .i64)
 |[],_,h=>h
 |z::zs,_,⟨g,i,h1,_,c,d⟩=>by
  obtain⟨v,r,rfl,e,f⟩:=c;have a:v=.int .i64 z:=e;have b:r=[]:=f;subst a b;rw[h1,cK d];rfl
def U3(k:Option Nat)(off cap:Nat):SV:=match k with
 |none=>.pv (.tup [])
 |some m=>.pv (.bsl 0 1 off m cap)
def Tv(k:Option Nat)(p:Option Addr)(cap:Nat):SV:=match k with
 |none=>.pv (.tup [])
 |some m=>.pv (.lit (.slice p m cap))
theorem qP.ofInts{P:aa}{f:az}{zs:af}{args:aD}{R:Option Nat->aT->Prop}(hc:aV P f=true)(ho:nQ args)(V:b7 0 args)
 (h : zs ≠ [] -> ∀ (pre a : aG) (cap : Nat), zs.length <= cap -> zs.length <= maxLen -> aI P f (.bsl 0 1 pre.length zs.length cap :: args) [blk pre zs a]
  (λr h'=>∃k d,R k (aU d)∧d.length=zs.length∧(∀m,k=some m->m<=zs.length)∧r=U3 k pre.length cap∧h'=[blk pre d a]))
 (h0:zs=[]->∀(p:Option Addr)(cap:Nat),aw P f (.lit (.slice p 0 cap)::args) (λr=>∃k,R k []∧(k=none∨k=some 0)∧r=Tv k p cap)):
 qP P f 1 (aU zs) args R:=by
 refine⟨hc,λY w c cap arr T pre vs a us h1 h2 Q h4 h5 h6 D=>?_,λE w p cap us h1=>?_⟩;have hz:zs≠[]:=λe=>Y (by rw[e];rfl);have H:(aU zs).length=zs.length:=by unfold aU;simp
 have ad:=cK h5;subst ad;rw[H]at Q h4⊢;have ae:c<w.heap.size:=(VD.1 h1).1;obtain⟨G,l⟩:∃G:Gh,G={I:=λk=>if k=c then none else w.heap[k]?,F:=λ_=>none,B:=0,μ:=λ_=>c,n:=1,n0:=1,N:=1,env:=cH w}:=⟨_,rfl⟩;have K:Sim G ⟨[],[blk pre zs a]⟩ ⟨#[undef],[]⟩ w:=by
  subst l;refine{size:=rfl,defs:=rfl,env:=rfl,n:=rfl,n0:=Vu _,B:=VH _,I:=λk o hk=>?_,F:=λk o hk=>(by cases hk),μI:=λb V=>⟨by simp,rfl⟩,μinj:=λb b' V g _=>?_,own:=⟨λ_=>none,?_⟩,al:=λs=>trivial};by_cases e:k=c;subst e;simp at hk;simpa[e]using hk;dsimp only at V g;omega;refine{slots:=λs=>⟨rfl,trivial⟩,blocks:=λb xs hx=>?_,inj:=λp q k hk=>(by cases hk),free:=λp k hk=>(by cases hk)};cases b with
  |succ b=>simp at hx
  |zero=>
   simp only[Wu,Wc]at hx;subst hx;have ab:arr.size=(blk pre zs a).length:=by rw[fN,←Wm,h2];simp only[Vz,VA]
   refine⟨arr,T,h1,⟨ab,D⟩,λk x hk=>?_⟩;have t:blk pre zs a=arr.toList.map (λv=>.pv (.lit v)):=by
    rw[h2];unfold blk;simp only[V1,Wo,VV];rfl
   rw[t,VO]at hk;cases A:arr.toList[k]?with
   |none=>rw[A]at hk;cases hk
   |some u=>
    rw[A]at hk;simp only[Wq,Wc]at hk;subst hk;refine⟨rfl,rfl,?_⟩;show arr.getD k undef=u;have:arr[k]?=some u:=by rw[←Vw];exact A
    rw[VJ,this];rfl
 have i:ax G (.bsl 0 1 pre.length zs.length cap::args) (.slice (some ⟨c,pre.length,none⟩) zs.length cap::us):=by
  refine⟨_,_,rfl,?_,?_⟩;subst l;exact⟨Y3,Q,rfl⟩;refine ax.monoC ⟨λk arr' T' fz hk=>?_,λk en ck hk=>?_⟩ _ _ (.inr ho) (.inl rfl) h6;obtain⟨M,O⟩:=J8 hk;subst l;simpa[M]using O;obtain⟨M,O⟩:=J9 hk;subst l;simpa[M]using O
 refine((h hz pre a cap Q h4).2 G _ _ w _ K rfl i).mono λe w' ⟨v,r,h',g',E,⟨k,d,r1,r2,r3,r4,r5⟩,t',Z⟩=>?_;subst r4 r5;have C:=Z (some 0) (by subst l;exact Y3);have hμ:g'.μ 0=c:=by rw[t'.μ 0 (by subst l;exact Y3)];subst l;rfl
 obtain⟨bl,g⟩:=C.own;have j:∀k,k<w.heap.size->k≠c->w'.heap[k]?=w.heap[k]?:=λk hk X=>by
  have hI:G.I k=some w.heap[k]:=by subst l;simp[X]
  rw[C.I _ _ (t'.I _ _ hI),VK hk]
 refine⟨k,aU d,d.map (Value.int .i64),r1,by unfold aU;simpa using r2,r3,?_,?_,?_,j,?_,λG _=>eP G d⟩;rw[E];have h0:=g.slots 0;cases k with
 |none=>
  have y:aO g' w' (.pv (.tup [])) v (bl (.slot 0)):=h0;obtain⟨_,vs,rfl,S⟩:=y;have z:vs.toList=[]:=S;have:vs=#[]:=WW z;rw[this]
 |some m=>
  have y:aO g' w' (.pv (.bsl 0 1 pre.length m cap)) v (bl (.slot 0)):=h0;obtain⟨_,_,_,rfl⟩:=y;rw[hμ]
 rw[C.env,t'.env];subst l;rfl;apply W5;intro J;have W:w'.heap[c]?≠none:=by
  obtain⟨arr',T',b1,_⟩:=g.blocks 0 (blk pre d a) (by cases k<;>rfl);rw[hμ]at b1;rw[b1];simp
 have L:w'.heap[w'.heap.size]?=none:=by simp
 by_cases e:w'.heap.size=c;rw[e]at L;exact W L;rw[j _ J e,VK J]at L;cases L;obtain⟨arr',T',b1,⟨b2,_⟩,b3⟩:=g.blocks 0 (blk pre d a) (by cases k<;>rfl);rw[hμ]at b1;refine⟨T',?_⟩;rw[b1];have t:blk pre d a=(pre++d.map (Value.int .i64)++a).map (λv=>.pv (.lit v)):=by
  unfold blk;simp only[V1,Wo,VV];rfl
 rw[t,VA]at b2;rw[qi (bl:=λk=>bl (.cell 0 k)) b2 λk x hk=>(b3 k x (by rw[t];exact hk)).2];have hz:zs=[]:=by
  cases zs with
  |nil=>rfl
  |cons _ _=>unfold aU at E;cases E
 subst hz;have i:ax (dZ w) (.lit (.slice p 0 cap)::args) (.slice p 0 cap::us):=⟨_,_,rfl,rfl,h1⟩;refine((h0 rfl p cap).2 w _ i).mono λe w' ⟨v,r,g',o,E,⟨k,r1,r2,r3⟩,U,hF,_,_⟩=>?_;subst r3;refine⟨k,r1,r2,?_,U.env,U.size,λk hk=>U.keep k hk⟩;rw[E];cases k with
 |none=>
  have y:aO g' w' (.pv (.tup [])) v o:=hF;obtain⟨_,vs,rfl,S⟩:=y;have z:vs.toList=[]:=S;have:vs=#[]:=WW z;rw[this]
 |some m=>
  have y:v=.slice p m cap:=hF.2;rw[y]
theorem aw.own0{P:aa}{f:az}{args:aD}{R R':SV->Prop}(h:aw P f args R)(j:∀r,R r->R' r∨(r=.pv (.lit (.slice none 0 0))∧∃nw e,R' (.own nw e []))):aw P f args R':=by
 refine⟨h.1,λw vs k=>(h.2 w vs k).mono λe w' ⟨v,r,g',o,h1,g,c,a,i,d⟩=>?_⟩;rcases j r g with b|⟨rfl,nw,e',b⟩;exact⟨v,r,g',o,h1,b,c,a,i,d⟩;exact⟨v,_,g',o,h1,b,c,.inl ⟨a.1,rfl,a.2⟩,rfl,d⟩
theorem ea{P:aa}(bad:bJ){f:az}{fn:Func}{c:Code}{args:aD}{h:ao}{R:SV->Prop}(rs:List ResultVar)(h1:ao)(C:h.length<=h1.length)(j:er h.length h->er h1.length h1)(aP:P.follows .mixedOrders=true)(B:P.funcs[f]?=some fn)(y:AC P h.length bad c (lM (ii P rs h1 R)) ⟨gX 0 args,h⟩)(b:aV P f=true:=by kernel_rfl)(z:fn.body=some c:=by rfl)(D:fn.results=rs.toArray:=by rfl)(l:pn fn.ntmps bad c=true:=by kernel_rfl)(hn:args.length<=fn.ntmps:=by exact WC rfl):aI P f args h (λr h'=>h'=h1∧R r):=by
 refine⟨b,λg st a w vs hs m E=>?_⟩;have d:er h1.length h1:=j (by have:=hs.belH;rwa [hs.n,m]at this);have key:=oR (R:=λr h'=>h'=h1∧R r) aP B b z l hn y λg' st' M w' hk k s'=>?_;exact key.2 g st a w vs hs m E;obtain⟨F,G,H,I⟩:=hk;obtain⟨g2,p,N,O,J,L,q,u⟩:=oQ rs s' F;obtain⟨v,t,x⟩:=i7 D (lO rs st') q u;have K:=J.weak (st':=⟨[],(gY P st' rs).2.1.h⟩) rfl λs=>.inr rfl;obtain⟨t4,o⟩:=Sim.dropB (st:=⟨[],(gY P st' rs).2.1.h⟩) (h1:=h1) G (ht:=trivial) d (hs:=K) (h0:=by rw[p.n0];exact Wb k C);obtain⟨e,i⟩:=o.own;exact⟨v,_,_,_,e,none,t,p.trans t4,o,i,⟨rfl,I⟩,⟨rfl,Fit.below _ _ H x⟩,rfl,λc A=>by cases A⟩
theorem av.keep{k0:Nat}{st:St}{t1:List (Nat×SV)}{h1:ao}(h:PU st.t t1)(a:st.h=h1):av k0 st ⟨t1,h1⟩:=a▸av.slots h
theorem av.nilCell{k0:Nat}{st:St}{b k:Nat}{xs:bj}(e:Nat)(nw:Bool)(hx:st.h[b]?=some xs)(hk:xs[k]?=some (.pv (.lit (.slice none 0 0)))):av k0 st ⟨aW (a8 b k 1) st.t,st.h.set b (xs.set k (.own nw e []))⟩:=λg a w _ hs=>by
 obtain⟨bl,f⟩:=hs.own;have d:k<xs.length:=(Vp.1 hk).1;obtain⟨arr,T,i,p,j⟩:=f.blocks b xs hx;have l:=(j k _ hk).2;have n:aA g a w (.cell b k)=.slice none 0 0:=by
  simp only[aA,i];exact l.2
 exact⟨g,hs.refl_to,(hs.adopt f hx d (sv:=.own nw e []) (o:=none) (.inl ⟨rfl,rfl,n⟩) rfl (λc m=>by cases m)).1⟩
theorem aI.below{P:aa}{f:az}{args:aD}{h:ao}{R:SV->ao->Prop}(d:aV P f=true)(c:er h.length h->aI P f args h R):aI P f args h R:=
 ⟨d,λg st a w vs hs b e=>(c (by have:=hs.belH;rwa [hs.n,b]at this)).2 g st a w vs hs b e⟩
def pq:aT->aT->Prop
 |[],[]=>True
 |x::xs,y::ys=>bX x y∧pq xs ys
 |_,_=>False
theorem BB:∀{a b:aD},bX a b->a.length=b.length
 |[],[],_=>rfl
 |[],_::_,h=>by simp[bX]at h
 |_::_,[],h=>by simp[bX]at h
 |x::a,y::b,h=>by
  simp only[bX]at h;rw[VR,VR,BB h.2]
theorem rx:∀{a b:aT},pq a b->a.length=b.length
 |[],[],_=>rfl
 |[],_::_,h=>h.elim
 |_::_,[],h=>h.elim
 |x::a,y::b,h=>by rw[VR,VR,rx h.2]
theorem aK.wk{g:Gh}{e:Nat}:∀{a b:aT}{vs:aG},pq a b->aK g e a vs->aK g e b vs
 |[],[],_,_,h=>h
 |[],_::_,_,h,_=>h.elim
 |_::_,[],_,h,_=>h.elim
 |x::a,y::b,_,h,⟨j,k,h1,⟨d,c⟩,f,i⟩=>⟨j,k,h1,⟨by rw[←BB h.1];exact d,c⟩,rh _ _ _ h.1 f,aK.wk h.2 i⟩
def OF:PV->PV->Prop
 |.seq nw e rows,.seq b e' a=>(b=true->nw=true)∧e=e'∧pq rows a
 |x,y=>cr x y
theorem vf{g:Gh}{x y:PV}{v:an}(h:OF x y)(j:Fit g x v):Fit g y v:=by
 unfold OF at h;split at h;rename_i nw e rows m e' d;obtain⟨hn,rfl,f⟩:=h;obtain⟨p,cap,h1,k,i⟩:=j;refine⟨p,cap,by rw[←rx f];exact h1,by rw[←rx f];exact k,?_⟩;rcases i with i|⟨c,off,arr,T,fz,vs,a,b,n,r,q⟩;subst i;cases d with
 |nil=>exact .inl rfl
 |cons _ _=>exact f.elim
 exact .inr ⟨c,off,arr,T,fz,vs,a,b,λl=>n (hn l),aK.wk f r,q⟩;exact zy _ _ _ h j
def BC:aD->aD->Prop
 |[],[]=>True
 |x::xs,y::ys=>OF x y∧BC xs ys
 |_,_=>False
theorem zQ{g:Gh}:∀{xs ys:aD}{vs:aG},BC xs ys->ax g xs vs->ax g ys vs
 |[],[],_,_,h=>h
 |[],_::_,_,h,_=>h.elim
 |_::_,[],_,h,_=>h.elim
 |_::_,_::_,_,h,⟨v,r,h1,a,b⟩=>⟨v,r,h1,vf h.1 a,zQ h.2 b⟩
theorem aI.argsA{P:aa}{f:az}{xs ys:aD}{h:ao}{R:SV->ao->Prop}(b:aI P f ys h R)(e:BC xs ys):aI P f xs h R:=
 ⟨b.1,λg st a w vs hs c d=>b.2 g st a w vs hs c (zQ e d)⟩
theorem ap.introE{P:aa}{st:St}{ok:Prop}{f k:az}{y p q b:aD}{h1:ao}{d:Option Tmp}{K:St->Prop}{x:ae}{args:Array ae}{R:SV->ao->Prop}
 (i:aI P f b h1 R) (n:gc st x) (m:b8 st x=some (f,p,q)) (u:(dE st args.toList).2.2) (s:(dE st args.toList).2.1.h=h1) (v:BC (p++((dE st args.toList).1++q)) b)
 (j:∀r h',R r h'->K (jE d r ⟨aW fE (dE st args.toList).2.1.t,h'⟩)):ap P st ok k y d K x args:=by
 subst s;exact ap.introX λo e ho hd g a w hs l K' Q c=>DB hs o x args e f p q ho n m u (hd▸l) (hd▸⟨R,i.argsA v,j⟩) c
theorem aw.wk{P:aa}{f:az}{args:aD}{R R':SV->Prop}(h:aw P f args R)(i:∀r,R r->∃x y,r=.pv x∧cr x y∧R' (.pv y)):aw P f args R':=
 ⟨h.1,λw vs j=>(h.2 w vs j).mono λe w' ⟨v,r,g',o,h1,b,c,a,l,d⟩=>by
  obtain⟨x,y,rfl,k,g⟩:=i r b;exact⟨v,.pv y,g',o,h1,g,c,⟨a.1,zy x y v k a.2⟩,rfl,d⟩⟩
def QJ(b:Nat)(k:Option Nat)(off cap:Nat):SV:=match k with
 |none=>.pv (.tup [])
 |some m=>.pv (.bsl b 1 off m cap)
theorem Sim.toBlk{g:Gh}{st:St}{a:Act}{w:ab}(h:Sim g st a w){bl:Pos->Option Nat}(i:Owns g st a w bl){s c:Nat}(G:bl (.slot s)=some c){arr:Array an}{T:ah}(m:w.heap[c]?=some (.cells arr T (0,0)))(A:∀v∈arr.toList,v.oneCell'=true)
 {xs:bj} (hx:xs=arr.toList.map λv=>.pv (.lit v)):
 Sim {g with n:=g.n+1,n0:=g.n+1,μ:=λb=>if b=g.n then c else g.μ b} ⟨(s,.pv .bot)::st.t,st.h++[xs]⟩ a w:=by
 obtain⟨Y,l,d,_,_,o⟩:=h.drop i (.slot s);obtain⟨M,N,H,O⟩:=o c G;have hle:g.le {g with n:=g.n+1,n0:=g.n+1,μ:=λb=>if b=g.n then c else g.μ b}:=⟨λ_ _ h=>h,Vu _,Xt _,λb i=>Vs (by omega)⟩;have hn:=h.n;refine{size:=h.size,defs:=h.defs,env:=h.env,n:=by simp[hn],n0:=Vu _,B:=h.B,I:=h.I,F:=h.F,μI:=λb i=>?_,μinj:=λb b' i E z=>?_,own:=⟨λp=>match p with|.slot u=>l (.slot u)|.cell b k=>if b=g.n then none else l (.cell b k),?_⟩,al:=λu=>?_};by_cases e:b=g.n;simp only[e,Xl];exact⟨M,N⟩;simp only[e,WM];exact h.μI b (by have:b<g.n+1:=i;omega);have R:b<g.n+1:=i;have K:b'<g.n+1:=E;by_cases e:b=g.n;by_cases e':b'=g.n;omega;simp only[e,e',Xl,WM]at z;exact absurd z.symm (H b' (by omega));by_cases e':b'=g.n;simp only[e,e',Xl,WM]at z;exact absurd z (H b (by omega));simp only[e,e',WM]at z;exact h.μinj b b' (by omega) (by omega) z;refine{slots:=λu=>aO.frame hle (λ_ _=>rfl) (d.slots u),blocks:=λb ys hy=>?_,inj:=λp q k hp f=>?_,free:=λp k hp=>?_};by_cases e:b=g.n;subst e;rw[hn,VM (Vu _),Xr]at hy;simp only[Wu,Wc]at hy;subst hy;refine⟨arr,T,by simp only[Xl];exact m,⟨by rw[hx];simp,A⟩,λk x hk=>?_⟩;rw[hx,VO]at hk;cases r:arr.toList[k]?with
 |none=>rw[r]at hk;cases hk
 |some v=>
  rw[r]at hk;simp only[Wq,Wc]at hk;subst hk;refine⟨rfl,by simp,?_⟩;show arr.getD k undef=v;have:arr[k]?=some v:=by rw[←Vw];exact r
  rw[VJ,this];rfl
 have y:b<st.h.length:=by
  have:=(Vp.1 hy).1;simp only[Vz,Wi]at this;omega
 rw[Vv y]at hy;obtain⟨arr',T',h1,P,J⟩:=d.blocks b ys hy;refine⟨arr',T',by simp only[e,WM];exact h1,P,λk x hk=>?_⟩;simp only[e,WM];exact⟨(J k x hk).1,aO.frame hle (λ_ _=>rfl) (J k x hk).2⟩;cases p with
 |slot u=>cases q with
  |slot v=>exact d.inj _ _ k hp f
  |cell b j=>
   dsimp only at f;split at f;cases f;exact d.inj _ _ k hp f
 |cell b j=>
  dsimp only at hp;split at hp;cases hp;cases q with
  |slot v=>exact d.inj _ _ k hp f
  |cell b2 Z=>
   dsimp only at f;split at f;cases f;exact d.inj _ _ k hp f
 have C:l p=some k:=by
  cases p with
  |slot u=>exact hp
  |cell b j=>
   dsimp only at hp;split at hp;cases hp;exact hp
 obtain⟨U,V,W,X⟩:=d.free p k C;refine⟨U,V,W,λb i=>?_⟩;by_cases e:b=g.n;simp only[e,Xl];intro L;exact O p (L▸C);simp only[e,WM];exact X b (by have:b<g.n+1:=i;omega);refine cL.congr (λp hp=>?_) (Y.al u);cases p with
 |slot v=>exact⟨rfl,rfl⟩
 |cell b k=>
  have y:b<st.h.length:=by
   apply Yy;intro S;simp only[aj]at hp;by_cases e:b=st.h.length;subst e;have D:(st.h++[xs]).getD st.h.length []=xs:=by simp[Vr]
   rw[D,hx,Vr,VO]at hp;cases Q:arr.toList[k]?<;>rw[Q]at hp<;>cases hp;have D:(st.h++[xs]).getD b []=[]:=by rw[Vr,V4 (by simp;omega)];rfl
   rw[D]at hp;cases hp
  refine⟨?_,?_⟩;simp only[aj,setPos,Vr];rw[Vv y];have e:b≠g.n:=by omega
  simp only[aA,e,WM]
theorem Sim.fromBlk{g g1 g':Gh}{st:St}{a:Act}{w w':ab}(h:Sim g st a w){s c n cap:Nat}{nw:Bool}{all all':af}{L:ao}{rest:aG}
 (O:look st.t s=.own nw 1 (aU all)) (hv:a.tmps.getD s undef=.slice (some ⟨c,0,none⟩) all.length cap) (l:all.length<=cap∧cap<=maxLen∧all.length+rest.length=cap) (Y:nw=true->g.B<=c) (z:all'.length=all.length)
 (d:g1={g with n:=g.n+1,n0:=g.n+1,μ:=λb=>if b=g.n then c else g.μ b}) (ht:g1.to g') (S0:Sim g' ⟨aW fE ((s,.pv .bot)::st.t),L++[blk [] all' rest]⟩ a w') (R:L.length=st.h.length) (U:mG st.h.length st.t) (T:er st.h.length L) (hn:n=st.h.length):
 g.to {g' with n:=g.n,n0:=g.n0}∧Sim {g' with n:=g.n,n0:=g.n0} ⟨(s,.own nw 1 (aU all'))::aW fE st.t,L⟩ a w'∧g'.μ g.n=c:=by
 subst hn;have m:=h.n;have y:g'.μ g.n=c:=by rw[ht.μ g.n (by rw[d];exact Yz _),d];simp
 have hμ:∀b,b<g.n->g'.μ b=g.μ b:=λb j=>by
  rw[ht.μ b (by rw[d];exact Y8 j),d];exact Vs (by omega)
 have i:g'.n=g.n+1:=by rw[S0.n];simp[R,m]
 have hB:g'.B=g.B:=by rw[ht.B,d]
 have hN:g'.N=g.N:=by rw[ht.N,d]
 obtain⟨E,f⟩:=S0.own;have H:=S0.μI g.n (by omega);rw[y]at H;have P:∀q,E q≠some c:=λq K=>(f.free q c K).2.2.2 g.n (by omega) y;obtain⟨arr',T',b1,⟨b2,Q⟩,b3⟩:=f.blocks g.n (blk [] all' rest) (by show(L++_)[g.n]?=_;rw[m,←R,VM (Vu _),Xr];rfl);rw[y]at b1;have C:blk [] all' rest=(all'.map (Value.int .i64)++rest).map λv=>.pv (.lit v):=by
  unfold blk;simp only[V1,Wo,Xg,V8];rfl
 have A:arr'=(all'.map (Value.int .i64)++rest).toArray:=by
  rw[C,VA]at b2;exact qi (bl:=λk=>E (.cell g.n k)) b2 λk x hk=>(b3 k x (by rw[C];exact hk)).2
 have hle:({g' with n:=g.n}:Gh).le {g' with n:=g.n,n0:=g.n0}:=⟨λ_ _ h=>h,Vu _,Vu _,λ_ _=>rfl⟩;refine⟨⟨λk o hk=>ht.I k o (by rw[d];exact hk),by rw[ht.F,d],hB,rfl,hN,by rw[ht.env,d],h.n0,λb j=>hμ b (WK j h.n0),λk hF hI=>ht.FI k (by rw[d];exact hF) (by rw[d];exact hI)⟩,?_,y⟩;refine{size:=S0.size,defs:=S0.defs,env:=S0.env,n:=by rw[m,←R],n0:=h.n0,B:=S0.B,I:=S0.I,F:=S0.F,μI:=λb j=>S0.μI b (by rw[i];exact Y8 j),μinj:=λb b' j f V=>S0.μinj b b' (by rw[i];exact Y8 j) (by rw[i];exact Y8 f) V,own:=⟨λp=>if p=.slot s then some c else E p,?_⟩,al:=λu=>?_};refine{slots:=λu=>?_,blocks:=λb ys hy=>?_,inj:=λp q k hp K=>?_,free:=λp k hp=>?_};by_cases e:s=u;subst e;simp only[look,Xl];refine .inr ⟨c,rfl,cap,arr',T',all'.map (Value.int .i64),?_,b1,?_,⟨?_,l.2.1,Q⟩,eP _ _,?_,λhn=>by show g'.B<=c;rw[hB];exact Y hn⟩;rw[hv];unfold aU;simp[z];rw[A];simp[z];exact l.2.2;unfold aU;simp[z];exact l.1;rw[A];exact⟨rest,rfl⟩;have e2:¬(Pos.slot u=Pos.slot s):=λe3=>e (by cases e3;rfl);simp only[look,Vs e,Vs e2,bI];have h1:=f.slots u;simp only[bI,look,Vs e]at h1;refine aO.frame hle (λ_ _=>rfl) (aO.below ?_ h1);rcases b6 fE (look st.t u)with G|⟨G,_⟩;rw[G];trivial;rw[G,m];exact ld U u;have W:=(Vp.1 hy).1;obtain⟨M,T2,d1,d2,d3⟩:=f.blocks b ys (by show(L++_)[b]?=_;rw[Vv W];exact hy);refine⟨M,T2,d1,d2,λk x hk=>⟨(d3 k x hk).1,?_⟩⟩;rw[Vs (by intro e;cases e)];refine aO.frame hle (λ_ _=>rfl) (aO.below ?_ (d3 k x hk).2);rw[m];exact mH (mI T b ys hy) k x hk;split at hp;rename_i e;split at K;rename_i e';rw[e,e'];cases hp;exact absurd K (P q);split at K;cases K;exact absurd hp (P p);exact f.inj p q k hp K;split at hp;cases hp;refine⟨H.1,H.2,(VD.1 b1).1,λb j e=>?_⟩;have aa:b<g.n:=j;have:=S0.μinj b g.n (by omega) (by omega) (by rw[y];exact e);omega;obtain⟨q1,q2,q3,q4⟩:=f.free p k hp;exact⟨q1,q2,q3,λb j=>q4 b (by rw[i];exact Y8 j)⟩;by_cases e:s=u;subst e;simp only[look,Xl];trivial;simp only[look,Vs e,bI];rcases b6 fE (look st.t u)with G|⟨G,S⟩;rw[G];trivial;rw[G];have D:(aj st (.slot s)).isOwn=true:=by show(look st.t s).isOwn=true;rw[O];rfl
 have h3:cL g (setPos st (.slot s) (.own nw 1 (aU all'))) a w (look st.t u) (a.tmps.getD u undef):=by
  refine cL.write (p:=.slot s) (sv':=.own nw 1 (aU all')) (λr hr=>dD st _ r _ (Yg hr)) (da D) D (λ_ _=>rfl) (λad e' Z V=>?_) (h.al u);cases V;exact⟨nw,aU all,O,by unfold aU;simp[z]⟩
 refine cL.congrA (q:=fE) (λp hp J=>?_) S h3;cases p with
 |cell b k=>cases hp
 |slot v=>
  refine⟨?_,rfl⟩;simp only[aj,setPos,look]at J⊢;split;rfl;rename_i X;rw[Vs X,bI]at J;rw[bI];exact fh J
theorem cd.introB{P:aa}{st:St}{f:az}{d:Option Tmp}{K:St->Prop}{c:ae}{args:Array ae}{q:aD}{x:ae}{xs:List ae}{s lo hi:Nat}{nw:Bool}{all zs:af}{va:aD}{R:Option Nat->af->ao->Prop}
 (F:look st.t s=.own nw 1 (aU all)) (aw:gc st c) (U:b8 st c=some (f,[],q)) (ha:args.toList=x::xs) (hp:partOf st x=some (.slot s,lo,hi)) (hg:gc st x) (aQ:lo<hi) (hz:(all.take hi).drop lo=zs)
 (hT:mG st.h.length st.t) (aB:pC st xs) (aK:k7 st xs++q=va)
 (h : ∀ (pre ak : aG) (cap : Nat), zs.length <= cap -> pre.length = lo -> aI P f (.bsl st.h.length 1 pre.length zs.length cap :: va) (st.h ++ [blk pre zs ak])
  (λr h'=>∃k e y,R k e y∧e.length=zs.length∧(∀m,k=some m->m<=zs.length)∧y.length=st.h.length∧er st.h.length y∧r=QJ st.h.length k pre.length cap∧h'=y++[blk pre e ak]))
 (hK:∀k e y,R k e y->e.length=zs.length->(∀m,k=some m->m<=zs.length)->K (Ia d k (.slot s) lo ⟨(s,.own nw 1 (aU (all.take lo++e++all.drop hi)))::aW fE st.t,y⟩)):cd P st c args d K:=by
 subst aK;intro o aS ho W g a w hs hd K' Q D;obtain⟨u,v,hx,hu,aJ⟩:=fZ hs aw U;have aH:u.toList=[]:=hu;obtain⟨aM,A,rows1,aA,j1,j2,q0,cap,jv,jc,jq,jz⟩:=oM hs hg hp;have C:look st.t s=.own aM A rows1:=aA;rw[F]at C;cases C;have l:(aU all).length=all.length:=by unfold aU;simp
 rw[l]at j2;obtain⟨bl,hb⟩:=hs.own;have Y:=hb.slots s;rw[F]at Y;rcases Y with⟨_,A,_⟩|⟨cc,aq,L,arr,T,vs,A,e2,e3,e4,e5,e6,e7⟩;rw[A]at l;simp at l;omega;have aL:=cK e5;subst aL;obtain⟨rest,p⟩:=e6;rw[l]at A e4;have aC:q0=some ⟨cc,lo,none⟩:=by
  rcases jq with jq|⟨c1,n1,cp,h5,h6⟩;omega;have M:a.tmps.getD s undef=.slice (some ⟨c1,0,none⟩) n1 cp:=h5;rw[A]at M;cases M;rw[h6,Zh]
 subst aC;have H:zs.length=hi -lo:=by rw[←hz,Wf,Vy];omega
 have z:all=all.take lo++zs++all.drop hi:=by
  rw[←hz];have h8:all.take lo=(all.take hi).take lo:=by rw[aal,WL (by omega)]
  rw[h8,Wz,Wz]
 have B:∀e:af,blk ((all.take lo).map (Value.int .i64)) e ((all.drop hi).map (Value.int .i64)++rest)=blk [] (all.take lo++e++all.drop hi) rest:=λe=>by
  unfold blk;simp only[V1,Wo,Xg,V8,VV];rfl
 have S:arr.toList.map (λv=>SV.pv (.lit v))=blk [] all rest:=by
  rw[←p];unfold blk;simp only[V1,Wo,Xg,V8];rfl
 have S1:=hs.toBlk hb aq e2 e4.2.2 (xs:=blk [] all rest) S.symm;obtain⟨I,j⟩:∃I:Gh,I={g with n:=g.n+1,n0:=g.n+1,μ:=λb=>if b=g.n then cc else g.μ b}:=⟨_,rfl⟩;rw[←j]at S1;have hle:g.le I:=by subst j;exact⟨λ_ _ h=>h,Vu _,Xt _,λb hb=>Vs (by omega)⟩
 have ad:((all.take lo).map (Value.int .i64)).length=lo:=by rw[VA,Vy];omega
 obtain⟨i,hA⟩:=h ((all.take lo).map (Value.int .i64)) ((all.drop hi).map (Value.int .i64)++rest) cap (by omega) ad;rw[B,←z,ad,H]at hA;have X:ax I (.bsl st.h.length 1 lo (hi -lo) cap::(k7 st xs++q)) (a.eval x::(xs.map a.eval++v.toList)):=by
  refine⟨_,_,rfl,⟨?_,jc,?_⟩,ax.append (ax.mono hle _ _ (nJ hs xs aB)) (ax.mono hle _ _ aJ)⟩;rw[j,hs.n];exact Yz _;rw[jv,j,hs.n];simp
 have aE:(a.eval x::(xs.map a.eval++v.toList)).toArray=u++args.map a.eval++v:=by
  apply WW;simp[aH,ha]
 have ag:(execOp a.eval o).run P w=.ok (.enter f (u++args.map a.eval++v)) w:=by
  unfold aV at i;split at i
  case h_2=>cases i
  rename_i fn av;simp only[VC,Wp]at i;simp only[execOp,ho,resolve,hx,Deferred.ofValue,invoke,callFunc,bD,bN,bK,run_program,av,i.1,i.2,We,WM]
 unfold Oper.wp;rw[ag,Oper.upon_enter,←aE];refine(hA I _ a w _ S1 rfl X).mono λe9 w' ⟨v9,r,h',g',he,⟨k,e,y,r1,r2,r3,r4,r5,r6,r7⟩,t',ah⟩=>?_;subst he r6 r7;have E:=hK k e y r1 (by rw[H];exact r2) (by rw[H];exact r3);have S0:=ah none trivial;have S0':Sim g' ⟨aW fE ((s,.pv .bot)::st.t),y++[blk [] (all.take lo++e++all.drop hi) rest]⟩ a w':=by
  rw[←B];exact S0
 have O:(all.take lo++e++all.drop hi).length=all.length:=by simp only[Vz,Vy,Wf,r2];omega
 have aF:all.length+rest.length=L:=by
  have:arr.size=arr.toList.length:=(Wm ..).symm;rw[←p]at this;simp only[Vz,VA]at this;omega
 obtain⟨f1,f2,f3⟩:=hs.fromBlk (all':=all.take lo++e++all.drop hi) F A ⟨e4.1,e4.2.1,aF⟩ e7 O j t' S0' r4 hT r5 rfl;cases d with
 |none=>rw[W];exact D _ _ _ _ E f1 f2
 |some d=>
  have V:d<g'.N:=by rw[t'.N,j];exact hd
  have ar:cX I.N (some d):=by rw[j];exact hd
  have Sd:=ah (some d) ar;obtain⟨J,an⟩:=Sd.own;have G:=an.slots d;have au:d<a.tmps.size:=by rw[hs.size];exact hd
  rw[fw au,Vt rfl]at G;rw[W];cases k with
  |none=>
   have h7:aO g' w' (.pv (.tup [])) v9 (J (.slot d)):=by simpa[QJ,jE,St.put,look]using G
   refine D _ _ _ _ E f1 (f2.put V ⟨rfl,h7.2⟩ trivial rfl)
  |some m=>
   have h7:aO g' w' (.pv (.bsl st.h.length 1 lo m cap)) v9 (J (.slot d)):=by simpa[QJ,jE,St.put,look]using G
   obtain⟨_,_,ay,ai⟩:=h7;have hm:=r3 m rfl;refine D _ _ _ _ E f1 (f2.put V rfl ?_ rfl);intro aR aP aN ab;simp only[aj,look,Xl]at ab;cases ab;have Z:lo+m -lo=m:=by omega
   rw[←hs.n,f3]at ai;refine⟨by omega,by rw[show(aU (all.take lo++e++all.drop hi)).length=all.length by unfold aU;rw[VA,O]];omega,_,_,by rw[Z];exact ai,by rw[Z];exact ay,.inr ⟨cc,_,_,A,by rw[Zh]⟩,λh0=>?_⟩;exact jz h0
section
open Go.Proofs Go.Shelf
theorem iU(c:Nat):∀(vs:aG)(o:Nat)(w:ab)(arr:Array an)(T:ah)(fz:Nat×Nat),w.heap[c]?=some (.cells arr T fz)->o+vs.length<=arr.size->
 (w.setCells c o vs).heap[c]?=some (.cells (arr.toList.take o++vs++arr.toList.drop (o+vs.length)).toArray T fz)∧(∀k,k≠c->(w.setCells c o vs).heap[k]?=w.heap[k]?)∧(w.setCells c o vs).heap.size=w.heap.size∧cH (w.setCells c o vs)=cH w
 |[],o,w,arr,T,fz,h,b=>by
  refine⟨?_,λ_ _=>rfl,rfl,rfl⟩;rw[World.setCells,h];simp
 |v::r,o,w,arr,T,fz,h,b=>by
  simp only[VR]at b;have l:c<w.heap.size:=(VD.1 h).1;have h1:(w.setCell ⟨c,o,none⟩ v).heap[c]?=some (.cells (arr.setIfInBounds o v) T fz):=by
   show(w.heap.modify c _)[c]?=_;rw[WZ,Vt rfl,h];simp
  have i:∀k,k≠c->(w.setCell ⟨c,o,none⟩ v).heap[k]?=w.heap[k]?:=λk hk=>by
   show(w.heap.modify c _)[k]?=_;rw[WZ,Vs (Yg hk)]
  have j:(w.setCell ⟨c,o,none⟩ v).heap.size=w.heap.size:=by
   show(w.heap.modify c _).size=_;rw[Xy]
  obtain⟨f,g2,g3,g⟩:=iU c r (o+1) (w.setCell ⟨c,o,none⟩ v) _ T fz h1 (by simp;omega);rw[World.setCells];refine⟨?_,λk hk=>(g2 k hk).trans (i k hk),g3.trans j,g.trans rfl⟩;rw[f];congr 2;simp only[Y9,VR];have m:arr.toList.length=arr.size:=Wm;have ho:o<arr.toList.length:=by omega
  have a:(arr.toList.take o).length=o:=by rw[Vy];omega
  have d:(arr.toList.set o v).take (o+1)=arr.toList.take o++[v]:=by
   rw[XC,Vt ho,List.take_append,a,VT (by omega),XL];rfl
  have e:(arr.toList.set o v).drop (o+1+r.length)=arr.toList.drop (o+(r.length+1)):=by
   rw[Yh (by omega)];congr 1;omega
  rw[d,e];simp
theorem dO(l:af):(aU l).length=l.length:=by unfold aU;simp
theorem vD{l:aG}{xs:aG}(h:xs<+:l){j:Nat}{v:an}(hj:xs[j]?=some v):l[j]?=some v:=by
 obtain⟨r,rfl⟩:=h;rw[Vv (Vp.1 hj).1];exact hj
theorem cd.introI{P:aa}{ρ:Ren}(L:Lays2.n21 P ρ)(i:aV P (ρ.f 21)=true){st:St}{d:Option Tmp}{K:St->Prop}{cx:ae}{args:Array ae}{x0 k y:ae}{ps py:Pos}{hi:Nat}{zs:af}{nw a1:Bool}{x:Int}
    (aK:gc st cx) (hcl:b8 st cx=some (ρ.f 21,[],[])) (ha:args.toList=[x0,k,y]) (hp:partOf st x0=some (ps,0,hi)) (aJ:gc st x0) (aL:gc st k) (hk:mv st k=.pv (.lit (.int .i64 0))) (aM:gc st y) (hy:partOf st y=some (py,0,1))
    (W:aj st py=.own a1 1 (aU [x])) (aO:ps≠py) (G:aj st ps=.own nw 1 (aU zs)) (aP:hi<zs.length)
    (hK:K (Ia d (some (hi+1)) ps 0 (setPos st ps (.own nw 1 (aU (x::(zs.take hi++zs.drop (hi+1)))))))):cd P st cx args d K:=by
  intro o a8 ho r g a w h hd K' Q ab
  obtain⟨u,v,hx,hu,aS⟩:=fZ h aK hcl
  have aR:u=#[]:=WW hu
  have aT:v=#[]:=WW aS
  subst aR aT
  obtain⟨bl,hb⟩:=h.own
  have m:(aj st ps).isOwn=true:=by rw[G];rfl
  have V:(aj st py).isOwn=true:=by rw[W];rfl
  -- the slice
  obtain⟨a0,e1,rows1,aw,j1,j2,q0,cap,jv,jc,_,jz⟩:=oM h aJ hp
  rw[G]at aw;cases aw
  obtain⟨n0,ar⟩:=jz rfl
  have ak:=bT hb m
  rw[G]at ak
  rcases ak with⟨_,A,_⟩|⟨c,R,a3,arr,T,vs,f1,Y,f3,f4,f5,f6,f7⟩
  · have:=Xp List.length A
    rw[dO,List.length_nil]at this
    omega
  rw[f1]at ar
  cases ar
  have aW:=cK f5
  subst aW
  have U:(aU zs).length=zs.length:=by unfold aU;simp
  rw[U]at f4
  have a5:arr.toList.length=arr.size:=Wm
  -- the number
  obtain⟨a7,e3,a2,O,_,_,qy,p,aY,_,_,aZ⟩:=oM h aM hy
  rw[W]at O;cases O
  obtain⟨n1,au⟩:=aZ rfl
  have ao:=bT hb V
  rw[W]at ao
  rcases ao with⟨_,A,_⟩|⟨c2,ag,a4,Z,T2,a9,y1,y2,y3,y4,y5,y6,y7⟩
  · simp[aU]at A
  rw[y1]at au
  cases au
  have aB:=cK y5
  subst aB
  have aF:c2≠c:=λe=>aO (hb.inj ps py c R (e▸ag))
  -- the place
  have aN:a.eval k=.int .i64 0:=by
    obtain⟨hf,_⟩:=bm h k aL
    rw[hk]at hf
    exact hf.2
  have ad:(#[]++args.map a.eval++#[])=#[.slice (some ⟨c,0,none⟩) (hi -0) cap,.int .i64 0,.slice (some ⟨c2,0,none⟩) 1 p]:=by
    apply WW
    simp[ha,jv,aN,aY]
  have ay:(execOp a.eval o).run P w=.ok (.enter (ρ.f 21) (#[]++args.map a.eval++#[])) w:=by
    unfold aV at i
    split at i
    case h_2=>cases i
    rename_i fn aI
    simp only[VC,Wp]at i
    simp only[execOp,ho,resolve,hx,Deferred.ofValue,invoke,callFunc,bD,bN,bK,run_program,aI,i.1,i.2,We,WM]
  have I:cap<=9223372036854775807:=by have:=f4.2.1;unfold maxLen at this;omega
  have S:∀j v,((zs.take hi).map (Value.int .i64))[j]?=some v->w.cell? ⟨c,0+j,none⟩=some v:=λj v hj=>by
    rw[Wr,cell_of Y,←Vw]
    refine vD f6 ?_
    rw[VO]at hj⊢
    by_cases e:j<hi
    · rw[Wg,Vt e]at hj
      exact hj
    · rw[Wg,Vs e]at hj
      simp at hj
  have C:∀j,j<hi+1->(w.cell? ⟨c,0+j,none⟩).isSome=true:=λj hj=>by
    rw[Wr,cell_of Y,VK (by omega)];rfl
  have an:∀j,w.frozen? ⟨c,j,none⟩=false:=λj=>by simp[World.frozen?,Y]
  have J:∀j,w.frozen? ⟨c2,j,none⟩=false:=λj=>by simp[World.frozen?,y2]
  have q:∀j v,([Value.int .i64 x]:aG)[j]?=some v->w.cell? ⟨c2,0+j,none⟩=some v:=λj v hj=>by
    rw[Wr,cell_of y2,←Vw]
    exact vD y6 (by simpa using hj)
  have M:∀v∈[Value.int .i64 x],v.oneCell'=true:=λv D=>by simp at D;subst D;rfl
  have B:∀v∈(zs.take hi).map (Value.int .i64),v.oneCell'=true:=λv D=>by
    obtain⟨z,_,rfl⟩:=VB.1 D
    rfl
  have H:((zs.take hi).map (Value.int .i64)).length=hi:=by simp;omega
  have E:Calls P (ρ.f 21) #[.slice (some ⟨c,0,none⟩) (hi -0) cap,.int .i64 0,.slice (some ⟨c2,0,none⟩) 1 p] w λe w'=>
      e=.returned (.slice (some ⟨c,0,none⟩) (hi+1) cap)∧w'.heap[c]?=some (.cells ((Value.int .i64 x::(zs.take hi).map (Value.int .i64))++arr.toList.drop (hi+1)).toArray T (0,0))∧(∀k,k≠c->w'.heap[k]?=w.heap[k]?)∧w'.heap.size=w.heap.size∧cH w'=cH w:=by
    rw[ZB]
    by_cases hz:hi=0
    · subst hz
      refine(Any2.slices_Insert_int_end_room L c 0 0 cap c2 0 1 p [.int .i64 x] w (by omega) (by omega) I rfl (λj hj=>by simpa using C j (by omega)) (λj _=>an _) q M).mono λe w' ⟨he,hw⟩=>?_
      obtain⟨s1,s2,s3,s4⟩:=iU c [.int .i64 x] 0 w arr T (0,0) Y (by simp;omega)
      subst hw
      refine⟨he,?_,s2,s3,s4⟩
      rw[s1]
      simp
    · refine(Any2.slices_Insert_int_shift L c 0 hi cap 0 c2 0 1 p ((zs.take hi).map (Value.int .i64)) [.int .i64 x] w (by omega) (by omega) (by omega) I aF H rfl S C (λj _=>an _) q B M T2 T Z.size arr.size (by simp[World.shape?,y2]) (by simp[World.shape?,Y]) (by omega) (J _) (J _)).mono λe w' ⟨he,hw⟩=>?_
      have aD:w.drew.heap[c]?=some (.cells arr T (0,0)):=Y
      obtain⟨s1,s2,s3,s4⟩:=iU c ((zs.take hi).map (Value.int .i64)) 1 w.drew arr T (0,0) aD (by rw[H];omega)
      obtain⟨r1,r2,r3,r4⟩:=iU c [.int .i64 x] 0 _ _ T (0,0) s1 (by simp;omega)
      have aX:w'=(w.drew.setCells c 1 ((zs.take hi).map (Value.int .i64))).setCells c 0 [.int .i64 x]:=by simpa using hw
      rw[aX]
      refine⟨he,?_,λk hk=>(r2 k hk).trans (s2 k hk),r3.trans s3,r4.trans s4⟩
      rw[r1]
      have h1:(arr.toList.take 1).length=1:=by rw[Vy];omega
      congr 3
      show List.take 0 (List.take 1 arr.toList++(zs.take hi).map (Value.int .i64)++List.drop (1+((zs.take hi).map (Value.int .i64)).length) arr.toList)++[Value.int .i64 x]++List.drop (0+[Value.int .i64 x].length) (List.take 1 arr.toList++(zs.take hi).map (Value.int .i64)++List.drop (1+((zs.take hi).map (Value.int .i64)).length) arr.toList)=_
      rw[H,VV (List.take 1 arr.toList),Zb,V8,Wi,Wr,Zp h1,show 1+hi=hi+1 by omega]
      rfl
  unfold Oper.wp
  rw[ay,Oper.upon_enter,ad]
  refine E.mono λe9 w' ⟨he,F,t,aQ,aH⟩=>?_
  subst he
  have l:(x::(zs.take hi++zs.drop (hi+1))).length=zs.length:=by simp;omega
  have az:Sim g (setPos st ps (.own nw 1 (aU (x::(zs.take hi++zs.drop (hi+1)))))) a w':=by
    refine h.ownWrite hb m R aH aQ t ?_ rfl ?_
    · right
      refine⟨c,rfl,cap,_,T,(x::(zs.take hi++zs.drop (hi+1))).map (Value.int .i64),?_,F,?_,?_,eP g _,?_,f7⟩
      · rw[f1,U,dO,l]
      · simp only[Ww,Vz,VR,H,Wf]
        omega
      · rw[dO,l]
        refine⟨f4.1,f4.2.1,?_⟩
        intro v D
        simp only[Zk,VF,VU]at D
        rcases D with(rfl|D)|D
        · rfl
        · exact B v D
        · exact f4.2.2 v (XB D)
      · obtain⟨rest,X⟩:=f6
        refine⟨rest,?_⟩
        rw[←X]
        simp only[VP,V1,Wh,VV,Zk]
        congr 2
        rw[WB (by simp;omega),Yj]
    · intro a6 e' rows1 hh
      cases hh
      exact⟨nw,aU zs,G,by rw[U,dO,l]⟩
  have ah:cX g.N o.dst:=by rw[r];exact hd
  cases ai:d with
  |none=>
    rw[ai]at hK r
    rw[r]
    exact ab _ g _ w' hK h.refl_to az
  |some dd=>
    rw[ai]at hK r
    rw[r]at ah⊢
    refine ab _ g _ w' hK h.refl_to ?_
    refine az.put ah rfl ?_ rfl
    intro a0 e1 rows1 av
    have aq:aj (setPos st ps (.own nw 1 (aU (x::(zs.take hi++zs.drop (hi+1)))))) ps=.own nw 1 (aU (x::(zs.take hi++zs.drop (hi+1)))):=da m
    rw[aq]at av
    cases av
    have ax:aA g a w' ps=aA g a w ps:=by
      cases ps with
      |slot s=>rfl
      |cell b j=>
        simp only[aj]at m
        cases aC:st.h[b]?with
        |none=>simp[List.getD,aC,SV.isOwn]at m
        |some ys=>
          have aE:b<g.n:=by rw[h.n];exact(Vp.1 aC).1
          simp only[aA];rw[t _ ((hb.free _ c R).2.2.2 b aE)]
    refine⟨VH _,by rw[dO,l];omega,some ⟨c,0,none⟩,cap,by rw[Wr,ZB],by omega,.inr ⟨c,_,cap,ax.trans f1,by simp⟩,λ_=>⟨_,ax.trans f1⟩⟩
def Vh(P:aa)(f:az)(zs:af)(hi:Nat)(args:aD)(b:af)(m:Nat):Prop:=
 aV P f=true∧∀(w:ab)(c cap:Nat)(arr:Array an)(T:ah)(a d:aG),w.heap[c]?=some (.cells arr T (0,0))->arr.toList=zs.map (Value.int .i64)++a->zs.length<=cap->cap<=maxLen->ax (oL w c) args d->(∀v∈arr.toList,v.oneCell'=true)->
  Calls P f ((.slice (some ⟨c,0,none⟩) hi cap)::d).toArray w λe w'=>e=.returned (.slice (some ⟨c,0,none⟩) m cap)∧w'.heap[c]?=some (.cells (b.map (Value.int .i64)++a).toArray T (0,0))∧(∀k,k≠c->w'.heap[k]?=w.heap[k]?)∧w'.heap.size=w.heap.size∧cH w'=cH w
theorem cd.introW{P:aa}{st:St}{f:az}{d:Option Tmp}{K:St->Prop}{cx:ae}{args:Array ae}{x0:ae}{xs:List ae}{ps:Pos}{hi m:Nat}{zs l:af}{nw:Bool}{q va:aD}
 (hA:Vh P f zs hi va l m) (U:l.length=zs.length) (hm:m<=zs.length) (h0:zs≠[]) (au:gc st cx) (hcl:b8 st cx=some (f,[],q)) (ha:args.toList=x0::xs) (hp:partOf st x0=some (ps,0,hi)) (ar:gc st x0)
 (A:aj st ps=.own nw 1 (aU zs)) (C:lK (setPos st ps (.pv .bot)) xs) (aB:Db 3 (setPos st ps (.pv .bot)) xs++eG (bE (setPos st ps (.pv .bot)).h 3) q=va)
 (hK:K (Ia d (some m) ps 0 (setPos st ps (.own nw 1 (aU l))))):cd P st cx args d K:=by
 intro o aJ ho p g a w h hd K' Q H;obtain⟨u,v,hx,hu,ay⟩:=fZ h au hcl;have aw:u.toList=[]:=hu;obtain⟨bl,hb⟩:=h.own;have i:(aj st ps).isOwn=true:=by rw[A];rfl
 obtain⟨aE,e1,rows1,Y,j1,j2,q0,cap,jv,jc,_,jz⟩:=oM h ar hp;rw[A]at Y;cases Y;obtain⟨n0,V⟩:=jz rfl;have R:=bT hb i;rw[A]at R;rcases R with⟨_,W,_⟩|⟨c,D,aF,arr,T,vs,f1,f2,f3,B,f5,f6,f7⟩;exfalso;apply h0;cases zs with
 |nil=>rfl
 |cons _ _=>simp[aU]at W
 rw[f1]at V;cases V;have aC:=cK f5;subst aC;have F:=dO zs;rw[F]at B;obtain⟨ah,t⟩:=f6;obtain⟨s0,aG,ak,_,_,E⟩:=h.drop hb ps;have G:Sim g (setPos st ps (.pv .bot)) a (sm w c):=s0.turn ak (E c D) rfl (by simp[sm]) (λk hk=>mF w hk);have O:ax (oL w c) va (xs.map a.eval++v.toList):=by
  rw[←aB];refine ax.monoC (AP w c) _ _ (.inl (VH _)) (.inl rfl) ?_;refine ax.append ?_ (ax.frz G.I (mB G 3) _ _ ay);rw[qb];exact sq G 3 xs C
 have J:(a.eval x0::(xs.map a.eval++v.toList)).toArray=u++args.map a.eval++v:=by
  apply WW;simp[aw,ha]
 obtain⟨e,x⟩:=hA;have ab:(execOp a.eval o).run P w=.ok (.enter f (u++args.map a.eval++v)) w:=by
  unfold aV at e;split at e
  case h_2=>cases e
  rename_i fn aq;simp only[VC,Wp]at e;simp only[execOp,ho,resolve,hx,Deferred.ofValue,invoke,callFunc,bD,bN,bK,run_program,aq,e.1,e.2,We,WM]
 have hc:=x w c cap arr T ah _ f2 t.symm B.1 B.2.1 O B.2.2;unfold Oper.wp;rw[ab,Oper.upon_enter,←J,jv,ZB];refine hc.mono λe9 w' ⟨he,y,r,av,ao⟩=>?_;subst he;have ad:Sim g (setPos st ps (.own nw 1 (aU l))) a w':=by
  refine h.ownWrite hb i D ao av r ?_ rfl ?_;right;refine⟨c,rfl,cap,_,T,l.map (Value.int .i64),?_,y,?_,?_,eP g _,⟨ah,by simp⟩,f7⟩;rw[f1,F,dO,U];have ai:arr.size=arr.toList.length:=Wm.symm;rw[←f3,ai,←t];simp[U];rw[dO,U];refine⟨B.1,B.2.1,?_⟩;intro v C;simp only[Zk,VF]at C;rcases C with C|C;obtain⟨z,_,rfl⟩:=VB.1 C;rfl;exact B.2.2 v (by rw[←t];exact Xi _ C);intro aI e' rows1 hh;cases hh;exact⟨nw,aU zs,A,by rw[F,dO,U]⟩
 have L:cX g.N o.dst:=by rw[p];exact hd
 cases M:d with
 |none=>
  rw[M]at hK p;rw[p];exact H _ g _ w' hK h.refl_to ad
 |some dd=>
  rw[M]at hK p;rw[p]at L⊢;refine H _ g _ w' hK h.refl_to ?_;refine ad.put L rfl ?_ rfl;intro aE e1 rows1 X;have S:aj (setPos st ps (.own nw 1 (aU l))) ps=.own nw 1 (aU l):=da i;rw[S]at X;cases X;have Z:aA g a w' ps=aA g a w ps:=by
   cases ps with
   |slot s=>rfl
   |cell b j=>
    simp only[aj]at i;cases ag:st.h[b]?with
    |none=>simp[List.getD,ag,SV.isOwn]at i
    |some ys=>
     have an:b<g.n:=by rw[h.n];exact(Vp.1 ag).1
     simp only[aA];rw[r _ ((hb.free _ c D).2.2.2 b an)]
  have aH:m<=cap:=by have:=B.1;omega
  refine⟨VH _,by rw[dO,U];omega,some ⟨c,0,none⟩,cap,by rw[Wr,ZB],by omega,.inr ⟨c,_,cap,Z.trans f1,by simp⟩,λ_=>⟨_,Z.trans f1⟩⟩
end
theorem Sim.rows{g:Gh}{st:St}{a:Act}{w:ab}(h:Sim g st a w){b k e:Nat}{nw:Bool}{rows d:aT}{xs:bj}(hx:st.h[b]?=some xs)(hk:xs[k]?=some (.own nw e rows))(E:pq rows d):Sim g ⟨st.t,st.h.set b (xs.set k (.own nw e d))⟩ a w:=by
 obtain⟨bl,ho⟩:=h.own;have o:=rx E;obtain⟨A,M⟩:=Vp.1 hx;obtain⟨C,O⟩:=Vp.1 hk;have hp:∀p,aj ⟨st.t,st.h.set b (xs.set k (.own nw e d))⟩ p=aj st p∨(aj st p=.own nw e rows∧aj ⟨st.t,st.h.set b (xs.set k (.own nw e d))⟩ p=.own nw e d):=by
  intro p;cases p with
  |slot s=>exact .inl rfl
  |cell b' k'=>
   simp only[aj,Vr];by_cases cb:b'=b;subst cb;rw[VZ A,hx];simp only[V7];by_cases ck:k'=k;subst ck;rw[VZ C,hk];exact .inr ⟨rfl,rfl⟩;rw[VL (Yg ck)];exact .inl rfl;rw[VL (Yg cb)];exact .inl rfl
 have D:∀{sv:SV}{v:an},cL g st a w sv v->cL g ⟨st.t,st.h.set b (xs.set k (.own nw e d))⟩ a w sv v:=by
  intro sv
  induction sv with
  |al p=>
   intro v m q;rcases hp p with j|⟨j,_⟩;rw[j]at q;exact m q;exact m (by rw[j];rfl)
  |loc p lo hi=>
   intro v m G j rows1 u;rcases hp p with r|⟨r,z⟩;exact m _ _ _ (by rw[←r];exact u);rw[z]at u;cases u;rw[←o];exact m _ _ _ r
  |sptr p i k=>
   intro v m G j rows1 u;rcases hp p with r|⟨r,z⟩;exact m _ _ _ (by rw[←r];exact u);rw[z]at u;cases u;exact m _ _ _ r
  |agl xs=>
   intro v m k x p l q;refine m k x p l ?_;rcases hp p with j|⟨j,_⟩;rw[j]at q;exact q;rw[j];rfl
  |opt c x P=>intro v m N;exact P (m N)
  |_=>intro v _;trivial
 refine{
  size:=h.size,defs:=h.defs,env:=h.env,n:=by rw[h.n];exact(VQ ..).symm,n0:=h.n0,B:=h.B,I:=h.I,F:=h.F,μI:=h.μI,μinj:=h.μinj,
  own:=⟨bl,{slots:=ho.slots,blocks:=λb' y f=>?_,inj:=ho.inj,free:=ho.free}⟩,al:=λs=>D (h.al s)}
 by_cases cb:b'=b;subst cb;have f:(st.h.set b' (xs.set k (.own nw e d)))[b']?=some y:=f;rw[VZ A]at f;cases f;obtain⟨arr,T,j,r,z⟩:=ho.blocks b' xs hx;refine⟨arr,T,j,⟨by rw[VQ];exact r.1,r.2⟩,λk' x l=>?_⟩;by_cases ck:k'=k;subst ck;rw[VZ C]at l;cases l;obtain⟨_,c2⟩:=z k' _ hk;refine⟨rfl,?_⟩;rcases c2 with⟨Q,R,S⟩|⟨c,j,cap,arr,T,vs,H,J,a3,a4,a5,K,L⟩;subst R;cases d with
 |nil=>exact .inl ⟨Q,rfl,S⟩
 |cons _ _=>exact E.elim
 exact .inr ⟨c,j,cap,arr,T,vs,by rw[←o];exact H,J,a3,by rw[←o];exact a4,aK.wk E a5,K,L⟩;rw[VL (Yg ck)]at l;exact z k' x l;have f:(st.h.set b (xs.set k (.own nw e d)))[b']?=some y:=f;rw[VL (Yg cb)]at f;exact ho.blocks b' y f
theorem av.rows{k0:Nat}{st:St}{b k e:Nat}{nw:Bool}{rows a:aT}{xs:bj}(hx:st.h[b]?=some xs)(hk:xs[k]?=some (.own nw e rows))(c:pq rows a):av k0 st ⟨st.t,st.h.set b (xs.set k (.own nw e a))⟩:=λg _ _ _ hs=>
 ⟨g,hs.refl_to,hs.rows hx hk c⟩
end Go.AX
