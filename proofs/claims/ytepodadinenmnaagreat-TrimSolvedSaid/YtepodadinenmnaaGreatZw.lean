/-
  Contracts: proof.Split: hints, parted; and what follows.
-/
import Derived.Test.YtepodadinenmnaaGreatZu
import Derived.Test.YtepodadinenmnaaGreatZv
set_option linter.unusedSimpArgs false
set_option maxRecDepth 16000
namespace Go.AX
open Go.Proofs
def nC(x:af×au)(h:Int):af×au:=
 if h<0 then(x.1,x.2++[[h]])else if x.2=[]then(x.1++[h],x.2)else(x.1,x.2.dropLast++[x.2.getLastD []++[h]])
def c9(hs:af)(i:Nat):af×au:=(hs.take i).foldl nC ([],[])
def rI(hs:af):af×au:=c9 hs hs.length
structure Bs where
  b:Nat
  n:Nat
  cap:Nat
def OW(e:Bs):aD:=[.bsl e.b 1 0 e.n e.cap]
def sN(l:af):bj:=l.map λx=>.pv (ak x)
structure BsOk (h:ao) (e:Bs) (l:af):Prop where
  n:e.n=l.length
  cap:e.n<=e.cap
  at':∃sp,h[e.b]?=some (sN l++sp)∧sp.length=e.cap -e.n
theorem LD(x:af×au)(h:Int):(nC x h).1.length+(nC x h).2.length<=x.1.length+x.2.length+1∧∀l∈(nC x h).2,∃l',(l'=[]∨l'∈x.2)∧l.length<=l'.length+1:=by
 unfold nC;split;refine⟨by simp;omega,λl a=>?_⟩;rcases VF.1 a with a|a;exact⟨l,.inr a,by omega⟩;rw[VY]at a;subst a;exact⟨[],.inl rfl,by simp⟩;split;exact⟨by simp;omega,λl a=>⟨l,.inr a,by omega⟩⟩;rename_i b;have hp:=WJ.2 b;refine⟨by simp;omega,λl a=>?_⟩;rcases VF.1 a with a|a;exact⟨l,.inr (aaj _ a),by omega⟩;rw[VY]at a;subst a;refine⟨x.2.getLastD [],.inr ?_,by simp⟩;rw[ZU,List.getLast?_eq_some_getLast b];exact List.getLast_mem b
theorem qx(hs:af){i:Nat}(h:i<hs.length):c9 hs (i+1)=nC (c9 hs i) hs[i]:=bf nC ([],[]) hs i h
theorem jR(hs:af):∀i,i<=hs.length->(c9 hs i).1.length+(c9 hs i).2.length<=i∧∀l∈(c9 hs i).2,l.length<=i
 |0,_=>by simp[c9]
 |i+1,h=>by
  obtain⟨h1,b⟩:=jR hs i (by omega);obtain⟨f,c⟩:=LD (c9 hs i) hs[i];rw[qx hs (by omega)];refine⟨by omega,λl e=>?_⟩;obtain⟨l',a,d⟩:=c l e;rcases a with rfl|a;simp at d;omega;have:=b l' a;omega
theorem LE(l:au){m:Nat}(b:l.length=m+1)(h:Int):l.dropLast++[l.getLastD []++[h]]=l.set m ((l.getD m [])++[h]):=by
 have d:l≠[]:=λe=>by rw[e]at b;simp at b
 have h1:l.getLastD []=l.getD m []:=by
  rw[ZU,List.getLast?_eq_getElem?,b,Yo,Vr]
 rw[h1];apply Wv;intro k;rw[V2];have a:l.dropLast.length=m:=by rw[List.length_dropLast];omega
 rcases Xd k m with c|c|c;rw[Vv (by omega),Vs (by omega),List.getElem?_dropLast,Vt (by omega)];subst c;rw[VM (by omega),Vt rfl,Vt (by omega),a,Xr];rfl;rw[V4 (by rw[Vz,a,Wi];omega),Vs (by omega),V4 (by omega)]
theorem Gw.of{k0:Nat}{st S:St}(h:av k0 st S):Gw k0 st (λ_:Unit=>S):=λg a w h0 hs=>by
 obtain⟨g',t,s'⟩:=h g a w h0 hs;exact⟨g',(),t,s'⟩
theorem BsOk.app{h:ao}{e:Bs}{l:af}(a:BsOk h e l)(c:e.b<h.length)(B:ao):BsOk (h++B) e l:=⟨a.n,a.cap,by
 obtain⟨sp,h1,d⟩:=a.at';exact⟨sp,by rw[Vv c];exact h1,d⟩⟩
theorem BsOk.lt{h:ao}{e:Bs}{l:af}(a:BsOk h e l):e.b<h.length:=by
 obtain⟨sp,h1,_⟩:=a.at';exact(Vp.1 h1).1
theorem vG{h:ao}{k:Nat}:∀{c:List Bs}{L:au},c.length=L.length->(∀i (_:i<c.length)(_:i<L.length),BsOk h c[i] L[i])->(∀e∈c,k<=e.b)->xZ h k (c.map OW) (L.map aF)
 |[],L,d,_,_=>by
  have:L=[]:=WA.1 d.symm;subst this;rfl
 |e::c,[],d,_,_=>by cases d
 |e::c,l::L,d,ho,hk=>by
  obtain⟨h1,g,sp,f,j⟩:=ho 0 (Nat.zero_lt_succ _) (Nat.zero_lt_succ _);refine⟨_,_,rfl,⟨_,_,rfl,⟨rfl,hk e VN,l,[],sp,rfl,h1,f,rfl⟩,rfl⟩,vG (by simpa using d) (λi a b=>?_) (λx hx=>hk x (VG _ hx))⟩;have:=ho (i+1) (by simpa using a) (by simpa using b);simpa using this
theorem Es(g:ao)(hs:af)(hl:hs.length<=1000000):aI Tryz.prog 220 [.seq false 1 (am hs)] g (λr g'=>g'=g∧r=.pv (.tup [.seq true 1 (am (rI hs).1),.seq true 1 ((rI hs).2.map aF)])):=by
 refine LC [5,7,11] [.tmp 2,.tmp 3] aP Tryz.func220 ?_;simp;refine aM.intro (S:=λ(x:Nat×List Bs×ao)=>⟨[(2,.own true 1 (am (c9 hs x.1).1)),(3,.own true 1 (x.2.1.map OW)),(7,.pv (.seq false 1 (am hs))),(8,.pv (ak hs.length)),(9,.pv (ak x.1))],g++x.2.2⟩) (λx=>x.1<=hs.length∧x.2.1.length=(c9 hs x.1).2.length∧(∀k (_:k<x.2.1.length)(_:k<(c9 hs x.1).2.length),BsOk (g++x.2.2) x.2.1[k] (c9 hs x.1).2[k])∧(∀e∈x.2.1,g.length<=e.b)∧(∀j k (_:j<x.2.1.length)(_:k<x.2.1.length),j<k->x.2.1[j].b<x.2.1[k].b)) (λx=>hs.length -x.1) (0,[],[]) ?_ ⟨VH _,rfl,(λk h=>by simp at h),(λe v=>by simp at v),(λj k hj=>by simp at hj)⟩ ?_;exact((av.nilOwn (s:=2) 1 true (by simp)).trans (av.nilOwn (s:=3) 1 true (by simp))).trans (av.keep (by simp[c9,am]) (by simp));rintro⟨i,a,B⟩ ⟨hi,o,f,w,D⟩;dsimp only at hi o f w D;by_cases h:i<hs.length;have X:=dU i;have u:c9 hs (i+1)=nC (c9 hs i) hs[i]:=bf nC ([],[]) hs i h;by_cases c1:hs[i]<0
 .have F:¬0<=hs[i]:=by omega
  simp[h,c1,F];refine jF.blk [31] ?_;simp;intro cap R;have P:nC (c9 hs i) hs[i]=((c9 hs i).1,(c9 hs i).2++[[hs[i]]]):=by unfold nC;rw[Vt c1]
  rw[P]at u;have aq:a.length<=1000000:=by have:=(jR hs i hi).1;omega
  refine⟨by omega,(i+1,a++[⟨g.length+B.length,1,cap⟩],B++[.pv (ak hs[i])::List.replicate (cap -1) (.pv .bot)]),by(try dsimp only);omega,⟨by(try dsimp only);omega,by rw[u];simp[o],?_,?_,?_⟩,av.keep (by simp[X,u,OW]) (by simp)⟩;rotate_left;intro e v;rcases VF.1 v with v|v;exact w e v;rw[VY]at v;subst v;exact Nat.le_add_right _ _;intro j k hj hk C;simp only[Vz,Wi]at hj hk;have K:j<a.length:=by omega
  simp only[V6 K];by_cases z:k<a.length;simp only[V6 z];exact D j k K z C;have N:k=a.length:=by omega
  subst N;simp only[Xz (Vu _),Xr,Yf];have:=(f j K (by omega)).lt;rw[Vz]at this;exact this;dsimp only;rw[u];intro k q M;simp only[Vz,Wi]at q M;rw[←VV];by_cases hk:k<a.length;have z:k<(c9 hs i).2.length:=by omega
  rw[V6 hk];simp only[V6 z];exact(f k hk z).app (f k hk z).lt _;have N:k=a.length:=by omega
  subst N;rw[Xz (Vu _)];simp only[Xr,Yf,o,Xz (Vu _)];refine⟨rfl,R,List.replicate (cap -1) (.pv .bot),?_,by simp⟩;dsimp only;rw[VM (by simp)];simp[sN]
 have F:0<=hs[i]:=by omega
 by_cases c2:a=[];subst c2;have ae:bG (0 -1)=-1:=by decide
 have ag:bG (-1)=-1:=by decide
 have P:nC (c9 hs i) hs[i]=((c9 hs i).1++[hs[i]],(c9 hs i).2):=by
  unfold nC;rw[Vs c1,Vt (WA.1 (by rw[←o];rfl))]
 rw[P]at u;have aj:(c9 hs i).1.length<=1000000:=by have:=(jR hs i hi).1;omega
 simp[h,c1,F,ae,ag];refine⟨by omega,(i+1,[],B),by(try dsimp only);omega,⟨by(try dsimp only);omega,by rw[u];exact o,(λk hk=>by simp at hk),(λe v=>by simp at v),(λj k hj=>by simp at hj)⟩,av.keep (by simp[X,u,am]) (by simp)⟩;have ar:0<a.length:=WJ.2 c2;obtain⟨m,hm⟩:∃m,a.length=m+1:=⟨a.length -1,by omega⟩;have A:m<a.length:=by omega
 have l:m<(c9 hs i).2.length:=by omega
 have ah:bG ((a.length:Int) -1)=(m:Int):=by rw[aC (by omega) (by have:=(jR hs i hi).1;omega)];omega
 obtain⟨b1,b2,sp,b3,b4⟩:=f m A l;have au:=(jR hs i hi).2 _ (Vx l);have ad:¬(m:Int)<0:=by omega
 have V:(0:Int)<=m:=by omega
 have an:(a.map OW)[m]?=some (OW a[m]):=by rw[VO,Vq A];rfl
 simp[h,c1,F,ah,ad,V];refine jF.blk [] ?_;simp[A,OW];have W:=Vx A;have aa:=w _ W;have Q:a[m].b<g.length+B.length:=by have:=(f m A l).lt;rwa [Vz]at this
 have P:nC (c9 hs i) hs[i]=((c9 hs i).1,(c9 hs i).2.set m ((c9 hs i).2[m]++[hs[i]])):=by
  unfold nC;rw[Vs c1,Vs (λe=>by rw[e]at l;simp at l),LE (c9 hs i).2 (m:=m) (by omega),Vr,Vq l];rfl
 rw[P]at u;generalize hL:(c9 hs i).2[m]=L at*;generalize v:a[m]=e at*;have hX:(g++B)[e.b]?.getD []=sN L++sp:=by rw[b3];rfl
 have T:(sN L).length=L.length:=by unfold sN;simp
 rw[hX];refine⟨Q,by rw[Vz,T];omega,by omega,L.map ak,?_,by simp[b1],λO=>?_,λZ d J=>?_⟩;rw[Wd (by omega),VT (by omega)];unfold sN;rw[Wo];rfl;have hY:(sN L++sp).take e.n++SV.pv (ak hs[i])::(sN L++sp).drop (e.n+1)=sN (L++[hs[i]])++sp.drop 1:=by
  rw[Wd (by omega),VT (by omega),ZG,Z8 (by omega),T];have:e.n+1 -L.length=1:=by omega
  rw[this];unfold sN;simp
 have H:∀Y,(g++B).set e.b Y=g++B.set (e.b -g.length) Y:=λY=>XG _ _ aa;have p:∀k (hk:k<(a.set m ⟨e.b,e.n+1,e.cap⟩).length),k≠m->(a.set m ⟨e.b,e.n+1,e.cap⟩)[k]=a[k]'(by simpa using hk):=λk hk E=>Zl (Yg E) _;have y:∀(hk:m<(a.set m ⟨e.b,e.n+1,e.cap⟩).length),(a.set m ⟨e.b,e.n+1,e.cap⟩)[m]=⟨e.b,e.n+1,e.cap⟩:=λhk=>YF _;have I:∀k (hk:k<(a.set m ⟨e.b,e.n+1,e.cap⟩).length),(a.set m ⟨e.b,e.n+1,e.cap⟩)[k].b=(a[k]'(by simpa using hk)).b:=λk hk=>by
  by_cases c:k=m;subst c;rw[y,v];rw[p k hk c]
 refine⟨(i+1,a.set m ⟨e.b,e.n+1,e.cap⟩,B.set (e.b -g.length) (sN (L++[hs[i]])++sp.drop 1)),by dsimp only;omega,⟨by dsimp only;omega,by rw[u];simp[o],?_,?_,?_⟩,av.keep (by simp[X,u,OW,Zn]) (by dsimp only;rw[←H,←hY])⟩;dsimp only;rw[u,←H];intro k q M;have t:k<a.length:=by simpa using q
 have G:k<(c9 hs i).2.length:=by omega
 by_cases c:k=m;subst c;rw[y];simp only[YF];refine⟨by simp[b1],O,sp.drop 1,?_,by rw[Wf];dsimp only;omega⟩;dsimp only;rw[VZ (by rw[Vz];exact Q)];rw[p k q c];simp only[Zl (Yg c)];obtain⟨o1,o2,ai,o3,o4⟩:=f k t G;refine⟨o1,o2,ai,?_,o4⟩;have E:e.b≠a[k].b:=by
  have h1:=D k m t A (by omega);rw[v]at h1;omega
 rw[VL E];exact o3;intro x hx;obtain⟨k,hk,rfl⟩:=VE hx;rw[I k hk];exact w _ (Vx _);intro j k hj hk C;rw[I j hj,I k hk];exact D j k (by simpa using hj) (by simpa using hk) C;have p:∀k (hk:k<(a.set m ⟨g.length+B.length,e.n+1,d⟩).length),k≠m->(a.set m ⟨g.length+B.length,e.n+1,d⟩)[k]=a[k]'(by simpa using hk):=λk hk E=>Zl (Yg E) _;have y:∀(hk:m<(a.set m ⟨g.length+B.length,e.n+1,d⟩).length),(a.set m ⟨g.length+B.length,e.n+1,d⟩)[m]=⟨g.length+B.length,e.n+1,d⟩:=λhk=>YF _;refine⟨(i+1,a.set m ⟨g.length+B.length,e.n+1,d⟩,B++[sN (L++[hs[i]])++List.replicate (d -(e.n+1)) (.pv .bot)]),by dsimp only;omega,⟨by dsimp only;omega,by rw[u];simp[o],?_,?_,?_⟩,av.keep (by simp[X,u,OW,Zn]) (by simp[sN])⟩;dsimp only;rw[u,←VV];intro k q M;have t:k<a.length:=by simpa using q
 have G:k<(c9 hs i).2.length:=by omega
 by_cases c:k=m;subst c;rw[y];simp only[YF];refine⟨by simp[b1],J,List.replicate (d -(e.n+1)) (.pv .bot),?_,by simp⟩;dsimp only;rw[VM (by simp)];simp;rw[p k q c];simp only[Zl (Yg c)];exact(f k t G).app (f k t G).lt _;intro x hx;obtain⟨k,hk,rfl⟩:=VE hx;by_cases c:k=m;subst c;rw[y];exact Nat.le_add_right _ _;rw[p k hk c];exact w _ (Vx _);intro j k hj hk C;have U:j<a.length:=by simpa using hj
 have t:k<a.length:=by simpa using hk
 rw[p j hj (by omega)];by_cases c:k=m;subst c;rw[y];have:=(f j U (by omega)).lt;rw[Vz]at this;exact this;rw[p k hk c];exact D j k U t C;have ab:i=hs.length:=by omega
 subst ab;simp;refine jF.weak _ (Gw.of ((av.frz (s:=2) (e:=1) (nw:=true) (rows:=am (c9 hs hs.length).1) (by simp)).trans (av.frz (s:=3) (e:=1) (nw:=true) (rows:=a.map OW) (by simp)))) (λ_=>jF.ops ?_);simp;exact⟨_,rfl,_,_,rfl,⟨_,rfl,tp _ _ _⟩,_,_,rfl,⟨_,rfl,vG o f w⟩,rfl⟩
open Go.Proofs Go.Proofs.Tryz
section
structure Stp where
  kind:Int
  id:Int
  lits:af
  hints:af
instance:Inhabited Stp:=⟨⟨0,0,[],[]⟩⟩
def bd(x:Stp):aD:=[ak x.kind,ak x.id,.seq false 1 (am x.lits),.seq false 1 (am x.hints)]
@[simp] theorem BX(k:Nat)(l:List Stp):bV k (l.map bd):=by
 induction l with
 |nil=>trivial
 |cons x xs a=>exact⟨⟨trivial,trivial,br k _,br k _,trivial⟩,a⟩
@[simp] theorem RQ(r:Nat->Nat->PV)(l:List Stp):mA r (l.map bd)=l.map bd:=by
 rw[cN,Wo];apply XE;intro x _;simp[bd]
def IQ(lo n:Int):Bool:=decide (n<lo)||decide (10000000<n)||decide (n=0)
theorem LJ(n lo:Int):aw prog 268 [ak n,.iptr 1 [[ak lo]] 0 0] (λr=>r=.pv (BL (IQ lo n))):=by
 refine aB aP func268 ?_;unfold IQ;by_cases c1:n<lo;simp[c1];by_cases c2:10000000<n;simp[c1,c2];simp[c1,c2]
def pR(l:af)(lo:Int):Bool:=decide (l.length<=1000)&&!(l.any (IQ lo))
theorem GJ(l:af)(lo:Int):aw prog 216 [.seq false 1 (am l),ak lo] (λr=>r=.pv (BL (pR l lo))):=by
 refine aB aP func216 ?_;unfold pR;by_cases c1:l.length<=1000;have b:=eQ l (by omega) 268 [.iptr 1 [[ak lo]] 0 0] (IQ lo) (λr=>by simp) rfl (λk=>by simp) (λx _=>LJ x lo);have a:(l.length:Int)<=1000:=by omega
 simp[c1,a,bE];refine bz.intro (λ_=>b) ?_;simp;have a:¬(l.length:Int)<=1000:=by omega
 simp[c1,a,bE];refine bz.intro (r:=.pv (BL false)) (λh:False=>h.elim) ?_;simp
def g8(x:Stp):Bool:=
 if x.kind=1 then decide (1<=x.id)&&(decide (x.id<=10000000)&&(decide (iM x.lits 100000=0)&&pR x.hints (-10000000)))
 else if x.kind=2 then decide (0<=x.id)&&(decide (x.id<=10000000)&&(decide (x.lits.length=0)&&pR x.hints 1))else false
theorem OX(x:Stp)(f:x.lits.length<=1000000):aw prog 139 [.agg (bd x)] (λr=>r=.pv (BL (g8 x))):=by
 refine aB aP func139 ?_;have e:=qm x.lits 100000 (by omega);have c:=GJ x.hints (-10000000);have d:=GJ x.hints 1;unfold g8;simp[bd];by_cases a:x.kind=1;by_cases c1:1<=x.id;by_cases c2:x.id<=10000000;simp[a,c1,c2];refine bz.intro (λ_=>e) ?_;by_cases c3:iM x.lits 100000=0;simp[c3];refine bz.intro (λ_=>c) ?_;simp;simp[c3];refine bz.intro (r:=.pv (BL false)) (λh:False=>h.elim) ?_;simp;simp[a,c1,c2];refine bz.intro (r:=.pv (ak 0)) (λh:False=>h.elim) ?_;simp;refine bz.intro (r:=.pv (BL false)) (λh:False=>h.elim) ?_;simp;simp[a,c1];refine bz.intro (r:=.pv (ak 0)) (λh:False=>h.elim) ?_;simp;refine bz.intro (r:=.pv (BL false)) (λh:False=>h.elim) ?_;simp;by_cases b:x.kind=2;by_cases c1:0<=x.id;by_cases c2:x.id<=10000000;by_cases c3:x.lits=[];simp[a,b,c1,c2,c3];refine bz.intro (λ_=>d) ?_;simp;simp[a,b,c1,c2,c3];refine bz.intro (r:=.pv (BL false)) (λh:False=>h.elim) ?_;simp;simp[a,b,c1,c2];refine bz.intro (r:=.pv (BL false)) (λh:False=>h.elim) ?_;simp;simp[a,b,c1];refine bz.intro (r:=.pv (BL false)) (λh:False=>h.elim) ?_;simp;simp[a,b]
theorem LK(x:Stp)(b:x.lits.length<=1000000):aw prog 138 [.agg (bd x)] (λr=>r=.pv (BL (!g8 x))):=by
 refine aB aP func138 ?_;have a:=OX x b;simp only[bd]at a;simp[bd];refine ap.intro a ?_;simp
theorem OY(l:List Stp)(f:l.length<=1000000)(hx:∀x∈l,x.lits.length<=1000000):aw prog 137 [.seq false 4 (l.map bd),.lit (.func (.func 138) #[] #[])] (λr=>r=.pv (ak (gD (λx=>!g8 x) l))):=by
 refine aB aP func137 ?_;simp;refine aM.intro (S:=λ(i:Nat)=>⟨[(0,.pv (.seq false 4 (l.map bd))),(1,.pv (.lit (.func (.func 138) #[] #[]))),(7,.pv (ak l.length)),(8,.pv (ak i))],[]⟩) (λi=>i<=l.length∧∀j (hj:j<l.length),j<i->(!g8 l[j])=false) (λi=>l.length -i) 0 ?_ ⟨VH _,λj _ h=>by omega⟩ ?_;exact av.keep (by simp) rfl;intro i ⟨hi,ho⟩;by_cases c:i<l.length;have d:=dU i;have hx:=LK l[i] (hx _ (Vx c));simp only[bd]at hx;simp[c,bd];refine ap.intro hx ?_;cases a:g8 l[i];simp;rw[d0 c ho (by simp[a])];simp;refine⟨i+1,by dsimp only;omega,⟨by omega,λj hj b=>?_⟩,av.keep (by simp[d,bd]) rfl⟩;by_cases e:j=i;subst e;simp[a];simpa using ho j hj (by omega);simp[c];rw[cw (λj hj=>ho j hj (by omega))]
def vH(l:List Stp):Int:=if 1000000<l.length then 3 else if 0<=gD (λx=>!g8 x) l then 2 else 0
def QP(l:List Stp):Int:=if 1000000<l.length then 0 else if 0<=gD (λx=>!g8 x) l then gD (λx=>!g8 x) l else l.length
theorem IR(l:List Stp)(hx:∀x∈l,x.lits.length<=1000000):aw prog 79 [.seq false 4 (l.map bd)] (λr=>r=.pv (.tup [ak (QP l),ak (vH l)])):=by
 refine sx [2,3] aP func79 (λ_ _=>results_tmp2 rfl _ _ _) ?_;unfold QP vH;by_cases c1:1000000<l.length;have a:(1000000:Int)<l.length:=by omega
 simp[c1,a];have a:¬(1000000:Int)<l.length:=by omega
 have b:=OY l (by omega) hx;simp[c1,a];refine ap.intro b ?_;by_cases c2:0<=gD (λx=>!g8 x) l;simp[c2];simp[c2]
end
section
def fC(l:af):PV:=.seq true 1 (am l)
@[simp] theorem UK(l:dV)(k:Int):dJ (aL fC l) k=(lk l k).map fC:=fH fC l k
@[simp] theorem U8(l:dV)(k:Int)(y:af):iz (aL fC l) k (.seq true 1 (am y))=aL fC (pt l k y):=iG fC l k y
@[simp] theorem x5(n:Nat):∀l:dV,fB n (aL fC l)
 |[]=>trivial
 |x::l=>⟨br n _,x5 n l⟩
structure Ck where
  m:dV
  last:Int
  done:Bool
def iV(c:Ck):bj:=[.omap true (aL fC c.m),.pv (ak c.last),.pv (BL c.done)]
def px(c:Ck)(id:Int)(l:af):Ck:=⟨pt c.m id l,id,c.done||decide (l.length=0)⟩
theorem gE(k:Nat)(c:Ck):cA k (iV c):=⟨x5 k _,trivial,trivial,trivial⟩
theorem vI(h:ao)(b:Nat)(c:Ck)(e:h[b]?=some (iV c)):aI prog 78 [.ptr b 0] h (λr h'=>h'=h∧r=.pv (BL true)):=by
 refine ea [] [.tmp 2] h (Vu _) (λf=>f) aP func78 ?_;obtain⟨d,a⟩:=Vp.1 e;simp[a,d,iV]
theorem BY(h:ao)(b:Nat)(c:Ck)(e:h[b]?=some (iV c)):aI prog 36 [.ptr b 0] h (λr h'=>h'=h∧r=.pv (BL c.done)):=by
 refine ea [] [.tmp 2] h (Vu _) (λf=>f) aP func36 ?_;obtain⟨d,a⟩:=Vp.1 e;have g:=vI h b c e;simp;refine ay.intro g ?_;rintro _ _ ⟨rfl,rfl⟩;simp[a,d,iV]
theorem GK(h:ao)(b:Nat)(c:Ck)(i:h[b]?=some (iV c))(id:Int)(l:af)(j:l.length<=1000000):
 aI prog 75 [.ptr b 0,ak id,.seq false 1 (am l)] h (λr h'=>h'=h.set b (iV (px c id l))∧r=.pv (.tup [])):=by
 refine ea [] [] (h.set b (iV (px c id l))) (by simp) (λg=>by rw[VQ];exact b9 (gE _ _) b g) aP func75 ?_;obtain⟨e,a⟩:=Vp.1 i;have f:∀x g,(h.set b x)[b]'g=x:=λx g=>by simp
 have hcl:=dy l j;simp[a,e,iV];refine bW.intro hcl ?_;by_cases d:c.done=true;simp[a,e,iV,f,d,px];exact VT (by simp);have d':c.done=false:=by simpa using d
 simp[a,e,iV,f,d',px];exact VT (by simp)
theorem vJ:aw prog 77 [.lit (.slice none 0 0)] (λr=>r=.pv (.lit (.slice none 0 0))):=by
 refine aB aP func77 ?_;simp
theorem Et(h:ao)(b:Nat)(c:Ck)(f:h[b]?=some (iV c))(id:Int)(g:∀l,lk c.m id=some l->l.length<=1000000):
 aI prog 152 [.ptr b 0,ak id] h (λr h'=>h'=h∧r=.pv (.tup [.seq true 1 (am ((lk c.m id).getD [])),BL (lk c.m id).isSome])):=by
 refine fJ [] [.tmp 4,.tmp 5] aP func152 ?_;obtain⟨d,a⟩:=Vp.1 f;have i:=vI h b c f;simp;refine ay.intro i ?_;rintro _ _ ⟨rfl,rfl⟩;cases e:lk c.m id with
 |none=>
  simp[a,d,iV,e];refine ap.intro vJ ?_;simp[cr,bX,am]
 |some l=>
  have hcl:=dy l (g l e);simp[a,d,iV,e,fC];refine ap.intro hcl ?_;simp[cr,bX]
end
def fD(l:af):PV:=.seq false 1 (am l)
@[simp] theorem UL(l:dV)(k:Int):dJ (aL fD l) k=(lk l k).map fD:=fH fD l k
@[simp] theorem IS(n:Nat):∀l:dV,fB n (aL fD l)
 |[]=>trivial
 |x::l=>⟨br n _,IS n l⟩
@[simp] theorem OZ(r:Nat->Nat->PV):∀l:dV,nL r (aL fC l)=aL fD l
 |[]=>rfl
 |x::l=>by
  have:=OZ r l;show(x.1,jD r (fC x.2))::nL r (aL fC l)=(x.1,fD x.2)::aL fD l;rw[this];simp[fC,fD]
@[simp] theorem O0(r:Nat->Nat->PV):∀l:dV,nL r (aL fD l)=aL fD l
 |[]=>rfl
 |x::l=>by
  have:=O0 r l;show(x.1,jD r (fD x.2))::nL r (aL fD l)=(x.1,fD x.2)::aL fD l;rw[this];simp[fD]
abbrev x7(c:Ck):PV:=.iptr 3 [[.amap false (aL fD c.m),ak c.last,BL c.done]] 0 0
theorem LL{h:ao}{b:Nat}{c:Ck}(a:h[b]?=some (iV c))(n:Nat):bE h (n+1) b 0=x7 c:=by
 simp[bE,a,iV,x7]
def zZ(id:Int):Int:=if id<bG (-id)then bG (-id)else id
theorem IT(c:Ck)(id:Int):aw prog 219 [ak id,.iptr 1 [[x7 c]] 0 0] (λr=>r=.pv (BL (!(lk c.m (zZ id)).isSome))):=by
 refine aB aP func219 ?_;simp[zZ]
def gF(c:Ck)(ids:af):Bool:=ids.all λid=>(lk c.m (zZ id)).isSome
theorem BZ(c:Ck)(ids:af)(d:ids.length<=1000000):aw prog 143 [x7 c,.seq false 1 (am ids)] (λr=>r=.pv (BL (gF c ids))):=by
 refine aB aP func143 ?_;have a:=eQ ids d 219 [.iptr 1 [[x7 c]] 0 0] (λid=>!(lk c.m (zZ id)).isSome) (λr=>by simp) rfl (λk=>by simp) (λx _=>IT c x);have b:gF c ids=!(ids.any λid=>!(lk c.m (zZ id)).isSome):=by
  unfold gF;rw[List.not_any_eq_all_not];simp
 simp[bE];refine ap.intro a ?_;rw[b];simp
theorem QQ(g:ao)(c:Ck)(id:Int):aI prog 221 [x7 c,ak id] g (λr g'=>g'=g∧r=.pv (.seq false 1 (am ((lk c.m id).getD [])))):=by
 refine fJ [] [.tmp 4] aP func221 ?_;cases e:lk c.m id with
 |none=>simp[e,cr,am]
 |some l=>simp[e,cr,fD]
def ct(c:Ck)(ids:af):au:=ids.map λid=>(lk c.m id).getD []
theorem vK(g:ao)(c:Ck)(ids:af)(n:ids.length<=1000000):aI prog 222 [.seq false 1 (am ids),.fn (.func 221) [x7 c] []] g (λr g'=>g'=g∧r=.pv (.seq true 1 ((ct c ids).map aF))):=by
 refine fJ [] [.tmp 4] aP func222 ?_;obtain⟨Q,a⟩:∃Q:Nat->au,∀i,Q i=(ct c ids).take i:=⟨_,λ_=>rfl⟩;have d:∀i,(Q i).length<=i:=λi=>by rw[a,Vy];omega
 simp;refine aM.intro (S:=λ(i:Nat)=>⟨[(1,.pv (.fn (.func 221) [x7 c] [])),(5,.own true 1 ((Q i).map aF)),(8,.pv (.seq false 1 (am ids))),(9,.pv (ak ids.length)),(10,.pv (ak i))],g⟩) (λi=>i<=ids.length) (λi=>ids.length -i) 0 ?_ (VH _) ?_;exact(av.nilOwn (s:=5) 1 true (by simp)).trans (av.keep (by simp[a]) rfl);intro i hi;by_cases h:i<ids.length;have l:=dU i;have f:=λg=>QQ g c ids[i];have e:Q (i+1)=Q i++[(lk c.m ids[i]).getD []]:=by
  rw[a,a,Ws (by unfold ct;rw[VA];exact h)];simp[ct]
 have k:=d i;simp[h];refine ap.introM (f _) ?_;rintro _ _ ⟨rfl,rfl⟩;simp;refine⟨by omega,i+1,by(try dsimp only);omega,by(try dsimp only);omega,av.keep (by simp[l,e,aF]) (by simp)⟩;have j:i=ids.length:=by omega
 subst j;have b:Q ids.length=ct c ids:=by rw[a];exact VT (by unfold ct;simp)
 simp[b,cr,bX]
section
theorem IU(l:af)(x:Int)(c:l.length<=1000000):aw prog 314 [.seq false 1 (am l),ak x] (λr=>r=.pv (ak (ca l x))):=by
 refine aB aP func314 ?_;have a:=fL l x (by omega);have b:=fL l (bG (-x)) (by omega);simp;refine ap.intro (aX x) ?_;cases ho:dF x;have hz:aq x=0:=by rw[lS];exact ho
 rw[BR l x ho];simp[hz];have hz:aq x≠0:=λe=>by rw[lS]at e;rw[ho]at e;cases e
 rw[sK l x ho];unfold mX;simp[hz];refine ap.intro a ?_;by_cases c1:x∈l;simp[c1];simp[c1];refine ap.intro b ?_;by_cases c2:bG (-x)∈l;simp[c2];simp[c2]
def mY(cs:au)(p:Int):Nat->af
 |0=>[]
 |i+1=>if ny p≠0∧mP (cs.getD i []) (ny p)=true then mY cs p i++[(i:Int)]else mY cs p i
theorem vL(cs:au)(p:Int):∀i,(mY cs p i).length<=i
 |0=>by simp[mY]
 |i+1=>by
  have:=vL cs p i;rw[mY];split;simp;omega;omega
theorem jS:∀l:aT,pq l l
 |[]=>trivial
 |x::l=>⟨lP x,jS l⟩
def LM(p:Int)(o:Option af)(x:Int):Option af:=
 o.bind λout=>if aq x=0∨x=ny p then some out else if ca out x=1 then none else if ca out x=0 then some (out++[bG (-x)])else some out
def B0(l c:af)(p:Int)(i:Nat):Option af:=(c.take i).foldl (LM p) (some l)
def Eu(l c:af)(p:Int)(hs:au):Int:=match B0 l c p c.length with
 |none=>0
 |some out=>if(gg out hs 0).2.2≠0 then 24 else 0
theorem x8(p:Int):∀c:af,c.foldl (LM p) none=none
 |[]=>rfl
 |x::c=>x8 p c
theorem IV{l c:af}{p:Int}{i:Nat}(h:B0 l c p i=none)(hi:i<=c.length):B0 l c p c.length=none:=by
 unfold B0 at h⊢;have:c.take c.length=c.take i++c.drop i:=by rw[VX,Wz]
 rw[this,Y7,h];exact x8 p _
theorem IW(g:ao)(l c:af)(p:Int)(hs:au)(v:l.length+c.length+hs.length<=1000000)(t:∀h∈hs,h.length<=1000000):aI prog 274 [.seq false 1 (am l),.seq false 1 (am c),ak p,.seq false 1 (hs.map aF)] g (λr g'=>g'=g∧r=.pv (ak (Eu l c p hs))):=by
 refine fJ [] [.tmp 8] aP func274 ?_;have hcl:=dy l (by omega);have b:Eu l c p hs=match B0 l c p c.length with
  |none=>0
  |some out=>if(gg out hs 0).2.2≠0 then 24 else 0:=rfl
 generalize Eu l c p hs=E at*;simp;refine ap.intro hcl ?_;simp;refine aM.intro (S:=λ(x:Nat×af)=>⟨[(2,.pv (ak p)),(3,.pv (.seq false 1 (hs.map aF))),(9,.own true 1 (am x.2)),(17,.pv (.seq false 1 (am c))),(18,.pv (ak c.length)),(19,.pv (ak x.1))],g⟩) (λx=>x.1<=c.length∧x.2.length<=l.length+x.1∧B0 l c p x.1=some x.2) (λx=>c.length -x.1) (0,l) ?_ ⟨VH _,Vu _,rfl⟩ ?_;exact av.keep (by simp) rfl;rintro⟨i,out⟩ ⟨hi,f,ho⟩;dsimp only at hi f ho;by_cases h:i<c.length;have m:=dU i;have a:B0 l c p (i+1)=LM p (B0 l c p i) c[i]:=bf (LM p) (some l) c i h;rw[ho]at a;have s:LM p (some out) c[i]=if aq c[i]=0∨c[i]=ny p then some out else if ca out c[i]=1 then none else if ca out c[i]=0 then some (out++[bG (-c[i])])else some out:=rfl;rw[s]at a;have u:=IU out c[i] (by omega);have q:=sB p;simp[h];refine ap.intro (aX c[i]) ?_;by_cases c1:aq c[i]=0;rw[Vt (.inl c1)]at a;simp[c1];refine bz.intro (r:=.pv (ak 0)) (λh:False=>h.elim) ?_;simp;exact⟨(i+1,out),by dsimp only;omega,⟨by dsimp only;omega,by(try dsimp only);omega,a⟩,av.keep (by simp[m]) (by simp)⟩;simp[c1];refine bz.intro (λ_=>q) ?_;by_cases c2:c[i]=ny p;rw[Vt (.inr c2)]at a;simp[c2];exact⟨(i+1,out),by dsimp only;omega,⟨by dsimp only;omega,by(try dsimp only);omega,a⟩,av.keep (by simp[m]) (by simp)⟩;rw[Vs (λe=>e.elim c1 c2)]at a;simp[c2];refine ap.intro u ?_;by_cases j:ca out c[i]=1;rw[Vt j]at a;have hn:=IV a (by omega);rw[hn]at b;simp only at b;subst b;simp[j,cr];rw[Vs j]at a;by_cases k:ca out c[i]=0;rw[Vt k]at a;simp[k];exact⟨by omega,(i+1,out++[bG (-c[i])]),by(try dsimp only);omega,⟨by(try dsimp only);omega,by simp;omega,a⟩,av.keep (by simp[m,am]) (by simp)⟩;rw[Vs k]at a;simp[j,k];exact⟨(i+1,out),by dsimp only;omega,⟨by dsimp only;omega,by(try dsimp only);omega,a⟩,av.keep (by simp[m]) (by simp)⟩;have o:i=c.length:=by omega
 subst o;rw[ho]at b;simp only at b;have n:=λg=>sM g out hs (by omega) t;simp;refine ap.introE (n g) (by simp) rfl (by simp) (by simp) (by simp[BC,OF,jS]) ?_;rintro _ _ ⟨rfl,rfl⟩;by_cases d:(gg out hs 0).2.2=0;rw[Vs (by simp[d])]at b;subst b;simp[d,cr];rw[Vt d]at b;subst b;simp[d,cr]
theorem LO(cs:au)(p:Int)(k:cs.length<=1000000)(g:∀c∈cs,c.length<=1000000):aw prog 275 [.seq false 1 (cs.map aF),ak p] (λr=>r=.own true 1 (am (mY cs p cs.length))):=by
 refine aB aP func275 ?_;have b:=sB p;simp;refine aM.intro (S:=λ(i:Nat)=>⟨[(1,.pv (ak p)),(5,.own true 1 (am (mY cs p i))),(9,.pv (.seq false 1 (cs.map aF))),(10,.pv (ak cs.length)),(11,.pv (ak i))],[]⟩) (λi=>i<=cs.length) (λi=>cs.length -i) 0 ?_ (VH _) ?_;exact(av.nilOwn (s:=5) 1 true (by simp)).trans (av.keep (by simp[mY,am]) rfl);intro i hi;have hle:=vL cs p i;by_cases h:i<cs.length;have d:=dU i;have j:cs.getD i []=cs[i]:=by rw[Vr,Vq h];rfl
 have hs:mY cs p (i+1)=if ny p≠0∧mP cs[i] (ny p)=true then mY cs p i++[(i:Int)]else mY cs p i:=by rw[mY,j]
 have f:=KP cs[i] (ny p) (by have:=g _ (Vx h);omega);simp[h,aF];refine ap.intro b ?_;by_cases c1:ny p=0;rw[Vs (λe=>e.1 c1)]at hs;simp[c1];refine bz.intro (r:=.pv (BL false)) (λh:False=>h.elim) ?_;simp;exact⟨i+1,by(try dsimp only);omega,by(try dsimp only);omega,av.keep (by simp[d,hs,aF]) (by simp)⟩;simp[c1];refine bz.intro (λ_=>f) ?_;by_cases c2:mP cs[i] (ny p)=true;rw[Vt ⟨c1,c2⟩]at hs;simp[c2];exact⟨by omega,i+1,by(try dsimp only);omega,by(try dsimp only);omega,av.keep (by simp[d,hs,am,aF]) (by simp)⟩;rw[Vs (λe=>c2 e.2)]at hs;simp[c2];exact⟨i+1,by(try dsimp only);omega,by(try dsimp only);omega,av.keep (by simp[d,hs,aF]) (by simp)⟩;have a:i=cs.length:=by omega
 subst a;simp
end
def km(v:Int):au->Nat->Int×Int
 |[],i=>(i,0)
 |c::L,i=>if iM c v≠0 then(i,iM c v)else if gN c=true then(i,11)else km v L (i+1)
def d6(v:Int)(L:au):Int×Int:=if v<0∨100000<v then(0,2)else if 1000000<L.length then(0,3)else km v L 0
theorem EC(v:Int){L:au}{i:Nat}(h:i<L.length):km v (L.drop i) i=if iM L[i] v≠0 then((i:Int),iM L[i] v)else if gN L[i]=true then((i:Int),11)else km v (L.drop (i+1)) (i+1):=by
 rw[V3 h,km]
theorem I0(v:Int)(L:au):km v (L.drop L.length) L.length=((L.length:Int),0):=by
 rw[VS (Vu _),km]
theorem z7(v:Int)(L:au)(k:∀c∈L,c.length<=1000000):aw Tryz.prog 62 [.agg [ak v,.seq false 1 (L.map aF)]] (λr=>r=.pv (.tup [ak (d6 v L).1,ak (d6 v L).2])):=by
 refine sx [2,3] aP Tryz.func62 (λ_ _=>results_tmp2 rfl _ _ _) ?_;have b:d6 v L=if v<0∨100000<v then(0,2)else if 1000000<L.length then(0,3)else km v (L.drop 0) 0:=rfl;generalize d6 v L=S at*;by_cases h1:v<0;rw[Vt (.inl h1)]at b;subst b;simp[h1];by_cases f:100000<v;rw[Vt (.inr f)]at b;subst b;simp[h1,f];rw[Vs (λe=>e.elim h1 f)]at b;by_cases g:1000000<L.length;have d:(1000000:Int)<(L.length:Int):=by omega
 rw[Vt g]at b;subst b;simp[h1,f,g,d];rw[Vs g]at b;have d:¬(1000000:Int)<(L.length:Int):=by omega
 simp[h1,f,g,d];refine aM.intro (S:=λ(i:Nat)=>⟨[(1,.pv (.ptr 0 0)),(22,.pv (.seq false 1 (L.map aF))),(23,.pv (ak L.length)),(24,.pv (ak i))],[[.pv (ak v),.pv (.seq false 1 (L.map aF))]]⟩) (λi=>i<=L.length∧S=km v (L.drop i) i) (λi=>L.length -i) 0 ?_ ⟨VH _,b⟩ ?_;exact av.keep (by simp) (by simp);rintro i ⟨hi,a⟩;by_cases h:i<L.length;rotate_left;have j:i=L.length:=by omega
 subst j;rw[I0]at a;subst a;simp;have l:=dU i;rw[EC v h]at a;have o:=k _ (Vx h);have m:=qm L[i] v (by omega);have n:=zG L[i] (by omega);simp[h,aF];refine ap.intro m ?_;by_cases c1:iM L[i] v=0;rw[Vs (by simp[c1])]at a;simp[c1];refine ap.intro n ?_;by_cases c2:gN L[i]=true;rw[Vt c2]at a;subst a;simp[c2];rw[Vs c2]at a;simp[c2];exact⟨i+1,by(try dsimp only);omega,⟨by(try dsimp only);omega,a⟩,av.keep (by simp[l,aF]) (by simp[aF])⟩;rw[Vt c1]at a;subst a;simp[c1]
end Go.AX
