/-
  Contracts: proof.Split: hints, parted; and what follows.
-/
import Derived.Test.YtepodadinenmnaaGreatS14AxTmB
import Derived.Test.YtepodadinenmnaaGreatAxFz
namespace Go.AX
open Go.Proofs
set_option linter.unusedSimpArgs false
def mc(x:List Int×List (List Int))(h:Int):List Int×List (List Int):=
 if h<0 then(x.1,x.2++[[h]])else if x.2=[]then(x.1++[h],x.2)else(x.1,x.2.dropLast++[x.2.getLastD []++[h]])
def ct(hs:List Int)(i:Nat):List Int×List (List Int):=(hs.take i).foldl mc ([],[])
def pW(hs:List Int):List Int×List (List Int):=ct hs hs.length
structure Bs where
  b:Nat
  n:Nat
  cap:Nat
def LT(e:Bs):List PV:=[.bsl e.b 1 0 e.n e.cap]
def qQ(l:List Int):List SV:=l.map λx=>.pv (ab x)
structure BsOk (h:List (List SV)) (e:Bs) (l:List Int):Prop where
  n:e.n=l.length
  cap:e.n<=e.cap
  at':∃sp,h[e.b]?=some (qQ l++sp)∧sp.length=e.cap -e.n
theorem IS(x:List Int×List (List Int))(h:Int):(mc x h).1.length+(mc x h).2.length<=x.1.length+x.2.length+1∧∀l∈(mc x h).2,∃l',(l'=[]∨l'∈x.2)∧l.length<=l'.length+1:=by
 unfold mc;split
 .refine⟨by simp;omega,λl a=>?_⟩;rcases S7.1 a with a|a
  .exact⟨l,.inr a,by omega⟩
  .rw[Tt]at a;subst a;exact⟨[],.inl rfl,by simp⟩
 .split
  .exact⟨by simp;omega,λl a=>⟨l,.inr a,by omega⟩⟩
  .rename_i b;have hp:=Up.2 b;refine⟨by simp;omega,λl a=>?_⟩;rcases S7.1 a with a|a
   .exact⟨l,.inr (XB _ a),by omega⟩
   .rw[Tt]at a;subst a;refine⟨x.2.getLastD [],.inr ?_,by simp⟩;rw[Xf,List.getLast?_eq_some_getLast b];exact List.getLast_mem b
theorem oU(hs:List Int){i:Nat}(h:i<hs.length):ct hs (i+1)=mc (ct hs i) hs[i]:=bd mc ([],[]) hs i h
theorem iN(hs:List Int):∀i,i<=hs.length->(ct hs i).1.length+(ct hs i).2.length<=i∧∀l∈(ct hs i).2,l.length<=i
 |0,_=>by simp[ct]
 |i+1,h=>by
  obtain⟨h1,b⟩:=iN hs i (by omega);obtain⟨f,c⟩:=IS (ct hs i) hs[i];rw[oU hs (by omega)];refine⟨by omega,λl e=>?_⟩;obtain⟨l',a,d⟩:=c l e;rcases a with rfl|a
  .simp at d;omega
  .have:=b l' a;omega
theorem IT(l:List (List Int)){m:Nat}(b:l.length=m+1)(h:Int):l.dropLast++[l.getLastD []++[h]]=l.set m ((l.getD m [])++[h]):=by
 have d:l≠[]:=λe=>by rw[e]at b;simp at b
 have h1:l.getLastD []=l.getD m []:=by
  rw[Xf,List.getLast?_eq_getElem?,b,Vw,SI]
 rw[h1];apply T7;intro k;rw[Ts];have a:l.dropLast.length=m:=by rw[List.length_dropLast];omega
 rcases UB k m with c|c|c
 .rw[SO (by omega),SM (by omega),List.getElem?_dropLast,SN (by omega)]
 .subst c;rw[Td (by omega),SN rfl,SN (by omega),a,UW];rfl
 .rw[Ty (by rw[SX,a,TZ];omega),SM (by omega),Ty (by omega)]
theorem DO.of{k0:Nat}{st S:St}(h:ai k0 st S):DO k0 st (λ_:Unit=>S):=λg a w h0 hs=>by
 obtain⟨g',t,s'⟩:=h g a w h0 hs;exact⟨g',(),t,s'⟩
theorem BsOk.app{h:List (List SV)}{e:Bs}{l:List Int}(a:BsOk h e l)(c:e.b<h.length)(B:List (List SV)):BsOk (h++B) e l:=⟨a.n,a.cap,by
 obtain⟨sp,h1,d⟩:=a.at';exact⟨sp,by rw[SO c];exact h1,d⟩⟩
theorem BsOk.lt{h:List (List SV)}{e:Bs}{l:List Int}(a:BsOk h e l):e.b<h.length:=by
 obtain⟨sp,h1,_⟩:=a.at';exact(SG.1 h1).1
theorem tU{h:List (List SV)}{k:Nat}:∀{c:List Bs}{L:List (List Int)},c.length=L.length->(∀i (_:i<c.length)(_:i<L.length),BsOk h c[i] L[i])->(∀e∈c,k<=e.b)->vX h k (c.map LT) (L.map aw)
 |[],L,d,_,_=>by
  have:L=[]:=Uh.1 d.symm;subst this;rfl
 |e::c,[],d,_,_=>by cases d
 |e::c,l::L,d,ho,hk=>by
  obtain⟨h1,g,sp,f,j⟩:=ho 0 (Nat.zero_lt_succ _) (Nat.zero_lt_succ _);refine⟨_,_,rfl,⟨_,_,rfl,⟨rfl,hk e Tj,l,[],sp,rfl,h1,f,rfl⟩,rfl⟩,tU (by simpa using d) (λi a b=>?_) (λx hx=>hk x (Tf _ hx))⟩;have:=ho (i+1) (by simpa using a) (by simpa using b);simpa using this
set_option maxRecDepth 16000 in
theorem Ci(g:List (List SV))(hs:List Int)(hl:hs.length<=1000000):ax Tryz.prog 220 [.seq false 1 (ae hs)] g (λr g'=>g'=g∧r=.pv (.tup [.seq true 1 (ae (pW hs).1),.seq true 1 ((pW hs).2.map aw)])):=by
 refine N0 [5,7,11] [.tmp 2,.tmp 3] aC Tryz.func220 ?_;simp;refine aF.intro (S:=λ(x:Nat×List Bs×List (List SV))=>⟨[(2,.own true 1 (ae (ct hs x.1).1)),(3,.own true 1 (x.2.1.map LT)),(7,.pv (.seq false 1 (ae hs))),(8,.pv (ab hs.length)),(9,.pv (ab x.1))],g++x.2.2⟩) (λx=>x.1<=hs.length∧x.2.1.length=(ct hs x.1).2.length∧(∀k (_:k<x.2.1.length)(_:k<(ct hs x.1).2.length),BsOk (g++x.2.2) x.2.1[k] (ct hs x.1).2[k])∧(∀e∈x.2.1,g.length<=e.b)∧(∀j k (_:j<x.2.1.length)(_:k<x.2.1.length),j<k->x.2.1[j].b<x.2.1[k].b)) (λx=>hs.length -x.1) (0,[],[]) ?_ ⟨Te _,rfl,(λk h=>by simp at h),(λe v=>by simp at v),(λj k hj=>by simp at hj)⟩ ?_
 .exact((ai.nilOwn (s:=2) 1 true (by simp)).trans (ai.nilOwn (s:=3) 1 true (by simp))).trans (ai.keep (by simp[ct,ae]) (by simp))
 rintro⟨i,a,B⟩ ⟨hi,o,f,w,D⟩;dsimp only at hi o f w D
 by_cases h:i<hs.length
 .have X:=dZ i;have u:ct hs (i+1)=mc (ct hs i) hs[i]:=bd mc ([],[]) hs i h
  by_cases c1:hs[i]<0
  .have F:¬0<=hs[i]:=by omega
   simp[h,c1,F];refine io.blk [31] ?_;simp;intro cap R;have P:mc (ct hs i) hs[i]=((ct hs i).1,(ct hs i).2++[[hs[i]]]):=by unfold mc;rw[SN c1]
   rw[P]at u;have ar:a.length<=1000000:=by have:=(iN hs i hi).1;omega
   refine⟨by omega,(i+1,a++[⟨g.length+B.length,1,cap⟩],B++[.pv (ab hs[i])::List.replicate (cap -1) (.pv .bot)]),by(try dsimp only);omega,⟨by(try dsimp only);omega,by rw[u];simp[o],?_,?_,?_⟩,ai.keep (by simp[X,u,LT]) (by simp)⟩;rotate_left
   .intro e v;rcases S7.1 v with v|v
    .exact w e v
    .rw[Tt]at v;subst v;exact Nat.le_add_right _ _
   .intro j k hj hk C;simp only[SX,TZ]at hj hk;have K:j<a.length:=by omega
    simp only[TB K]
    by_cases z:k<a.length
    .simp only[TB z];exact D j k K z C
    .have N:k=a.length:=by omega
     subst N;simp only[Vt (SQ _),UW,Vp];have:=(f j K (by omega)).lt;rw[SX]at this;exact this
   dsimp only;rw[u];intro k q M;simp only[SX,TZ]at q M;rw[←Tn]
   by_cases hk:k<a.length
   .have z:k<(ct hs i).2.length:=by omega
    rw[TB hk];simp only[TB z];exact(f k hk z).app (f k hk z).lt _
   .have N:k=a.length:=by omega
    subst N;rw[Vt (SQ _)];simp only[UW,Vp,o,Vt (SQ _)];refine⟨rfl,R,List.replicate (cap -1) (.pv .bot),?_,by simp⟩;dsimp only;rw[Td (by simp)];simp[qQ]
  .have F:0<=hs[i]:=by omega
   by_cases c2:a=[]
   .subst c2;have ag:aY (0 -1)=-1:=by decide
    have ah:aY (-1)=-1:=by decide
    have P:mc (ct hs i) hs[i]=((ct hs i).1++[hs[i]],(ct hs i).2):=by
     unfold mc;rw[SM c1,SN (Uh.1 (by rw[←o];rfl))]
    rw[P]at u;have an:(ct hs i).1.length<=1000000:=by have:=(iN hs i hi).1;omega
    simp[h,c1,F,ag,ah];refine⟨by omega,(i+1,[],B),by(try dsimp only);omega,⟨by(try dsimp only);omega,by rw[u];exact o,(λk hk=>by simp at hk),(λe v=>by simp at v),(λj k hj=>by simp at hj)⟩,ai.keep (by simp[X,u,ae]) (by simp)⟩
   .have au:0<a.length:=Up.2 c2;obtain⟨m,hm⟩:∃m,a.length=m+1:=⟨a.length -1,by omega⟩;have A:m<a.length:=by omega
    have l:m<(ct hs i).2.length:=by omega
    have aj:aY ((a.length:Int) -1)=(m:Int):=by rw[ao (by omega) (by have:=(iN hs i hi).1;omega)];omega
    obtain⟨b1,b2,sp,b3,b4⟩:=f m A l;have av:=(iN hs i hi).2 _ (SS l);have af:¬(m:Int)<0:=by omega
    have V:(0:Int)<=m:=by omega
    have aq:(a.map LT)[m]?=some (LT a[m]):=by rw[Tg,SH A];rfl
    simp[h,c1,F,aj,af,V];refine io.blk [] ?_;simp[A,LT];have W:=SS A;have aa:=w _ W;have Q:a[m].b<g.length+B.length:=by have:=(f m A l).lt;rwa [SX]at this
    have P:mc (ct hs i) hs[i]=((ct hs i).1,(ct hs i).2.set m ((ct hs i).2[m]++[hs[i]])):=by
     unfold mc;rw[SM c1,SM (λe=>by rw[e]at l;simp at l),IT (ct hs i).2 (m:=m) (by omega),SI,SH l];rfl
    rw[P]at u;generalize hL:(ct hs i).2[m]=L at*;generalize v:a[m]=e at*;have hX:(g++B)[e.b]?.getD []=qQ L++sp:=by rw[b3];rfl
    have T:(qQ L).length=L.length:=by unfold qQ;simp
    rw[hX];refine⟨Q,by rw[SX,T];omega,by omega,L.map ab,?_,by simp[b1],λO=>?_,λZ d J=>?_⟩
    .rw[TV (by omega),Tm (by omega)];unfold qQ;rw[TT];rfl
    .have hY:(qQ L++sp).take e.n++SV.pv (ab hs[i])::(qQ L++sp).drop (e.n+1)=qQ (L++[hs[i]])++sp.drop 1:=by
      rw[TV (by omega),Tm (by omega),WT,Xt (by omega),T];have:e.n+1 -L.length=1:=by omega
      rw[this];unfold qQ;simp
     have H:∀Y,(g++B).set e.b Y=g++B.set (e.b -g.length) Y:=λY=>Vj _ _ aa;have p:∀k (hk:k<(a.set m ⟨e.b,e.n+1,e.cap⟩).length),k≠m->(a.set m ⟨e.b,e.n+1,e.cap⟩)[k]=a[k]'(by simpa using hk):=λk hk E=>Wx (Vq E) _;have y:∀(hk:m<(a.set m ⟨e.b,e.n+1,e.cap⟩).length),(a.set m ⟨e.b,e.n+1,e.cap⟩)[m]=⟨e.b,e.n+1,e.cap⟩:=λhk=>Wf _;have I:∀k (hk:k<(a.set m ⟨e.b,e.n+1,e.cap⟩).length),(a.set m ⟨e.b,e.n+1,e.cap⟩)[k].b=(a[k]'(by simpa using hk)).b:=λk hk=>by
      by_cases c:k=m
      .subst c;rw[y,v]
      .rw[p k hk c]
     refine⟨(i+1,a.set m ⟨e.b,e.n+1,e.cap⟩,B.set (e.b -g.length) (qQ (L++[hs[i]])++sp.drop 1)),by(try dsimp only);omega,⟨by(try dsimp only);omega,by rw[u];simp[o],?_,?_,?_⟩,ai.keep (by simp[X,u,LT,WO]) (by dsimp only;rw[←H,←hY])⟩
     .dsimp only;rw[u,←H];intro k q M;have t:k<a.length:=by simpa using q
      have G:k<(ct hs i).2.length:=by omega
      by_cases c:k=m
      .subst c;rw[y];simp only[Wf];refine⟨by simp[b1],O,sp.drop 1,?_,by rw[TF];dsimp only;omega⟩;dsimp only;rw[Tu (by rw[SX];exact Q)]
      .rw[p k q c];simp only[Wx (Vq c)];obtain⟨o1,o2,ak,o3,o4⟩:=f k t G;refine⟨o1,o2,ak,?_,o4⟩;have E:e.b≠a[k].b:=by
        have h1:=D k m t A (by omega);rw[v]at h1;omega
       rw[Tc E];exact o3
     .intro x hx;obtain⟨k,hk,rfl⟩:=S6 hx;rw[I k hk];exact w _ (SS _)
     .intro j k hj hk C;rw[I j hj,I k hk];exact D j k (by simpa using hj) (by simpa using hk) C
    .have p:∀k (hk:k<(a.set m ⟨g.length+B.length,e.n+1,d⟩).length),k≠m->(a.set m ⟨g.length+B.length,e.n+1,d⟩)[k]=a[k]'(by simpa using hk):=λk hk E=>Wx (Vq E) _;have y:∀(hk:m<(a.set m ⟨g.length+B.length,e.n+1,d⟩).length),(a.set m ⟨g.length+B.length,e.n+1,d⟩)[m]=⟨g.length+B.length,e.n+1,d⟩:=λhk=>Wf _;refine⟨(i+1,a.set m ⟨g.length+B.length,e.n+1,d⟩,B++[qQ (L++[hs[i]])++List.replicate (d -(e.n+1)) (.pv .bot)]),by(try dsimp only);omega,⟨by(try dsimp only);omega,by rw[u];simp[o],?_,?_,?_⟩,ai.keep (by simp[X,u,LT,WO]) (by simp[qQ])⟩
     .dsimp only;rw[u,←Tn];intro k q M;have t:k<a.length:=by simpa using q
      have G:k<(ct hs i).2.length:=by omega
      by_cases c:k=m
      .subst c;rw[y];simp only[Wf];refine⟨by simp[b1],J,List.replicate (d -(e.n+1)) (.pv .bot),?_,by simp⟩;dsimp only;rw[Td (by simp)];simp
      .rw[p k q c];simp only[Wx (Vq c)];exact(f k t G).app (f k t G).lt _
     .intro x hx;obtain⟨k,hk,rfl⟩:=S6 hx
      by_cases c:k=m
      .subst c;rw[y];exact Nat.le_add_right _ _
      .rw[p k hk c];exact w _ (SS _)
     .intro j k hj hk C;have U:j<a.length:=by simpa using hj
      have t:k<a.length:=by simpa using hk
      rw[p j hj (by omega)]
      by_cases c:k=m
      .subst c;rw[y];have:=(f j U (by omega)).lt;rw[SX]at this;exact this
      .rw[p k hk c];exact D j k U t C
 .have ad:i=hs.length:=by omega
  subst ad;simp;refine io.weak _ (DO.of ((ai.frz (s:=2) (e:=1) (nw:=true) (rows:=ae (ct hs hs.length).1) (by simp)).trans (ai.frz (s:=3) (e:=1) (nw:=true) (rows:=a.map LT) (by simp)))) (λ_=>io.ops ?_);simp;exact⟨_,rfl,_,_,rfl,⟨_,rfl,ru _ _ _⟩,_,_,rfl,⟨_,rfl,tU o f w⟩,rfl⟩
end Go.AX
namespace Go.AX
set_option maxRecDepth 16000
open Go.Proofs
set_option linter.unusedSimpArgs false
structure Stp where
  kind:Int
  id:Int
  lits:List Int
  hints:List Int
instance:Inhabited Stp:=⟨⟨0,0,[],[]⟩⟩
def dq(x:Stp):List PV:=[ab x.kind,ab x.id,.seq false 1 (ae x.lits),.seq false 1 (ae x.hints)]
@[simp] theorem Nc(k:Nat)(l:List Stp):bL k (l.map dq):=by
 induction l with
 |nil=>trivial
 |cons x xs a=>exact⟨⟨trivial,trivial,aT k _,aT k _,trivial⟩,a⟩
@[simp] theorem OY(r:Nat->Nat->PV)(l:List Stp):l4 r (l.map dq)=l.map dq:=by
 rw[cm,TT];apply Vb;intro x _;simp[dq]
def FW(lo n:Int):Bool:=decide (n<lo)||decide (10000000<n)||decide (n=0)
theorem IU(n lo:Int):ak Tryz.prog 268 [ab n,.iptr 1 [[ab lo]] 0 0] (λr=>r=.pv (BL (FW lo n))):=by
 refine ap aC Tryz.func268 ?_;unfold FW
 by_cases c1:n<lo
 .simp[c1]
 .by_cases c2:10000000<n
  .simp[c1,c2]
  .simp[c1,c2]
def nY(l:List Int)(lo:Int):Bool:=decide (l.length<=1000)&&!(l.any (FW lo))
theorem D5(l:List Int)(lo:Int):ak Tryz.prog 216 [.seq false 1 (ae l),ab lo] (λr=>r=.pv (BL (nY l lo))):=by
 refine ap aC Tryz.func216 ?_;unfold nY
 by_cases c1:l.length<=1000
 .have b:=dQ l (by omega) 268 [.iptr 1 [[ab lo]] 0 0] (FW lo) (λr=>by simp) rfl (λk=>by simp) (λx _=>IU x lo);have a:(l.length:Int)<=1000:=by omega
  simp[c1,a,aZ];refine aV.intro (λ_=>b) ?_;simp
 .have a:¬(l.length:Int)<=1000:=by omega
  simp[c1,a,aZ];refine aV.intro (r:=.pv (BL false)) (λh:False=>h.elim) ?_;simp
def ir(x:Stp):Bool:=
 if x.kind=1 then decide (1<=x.id)&&(decide (x.id<=10000000)&&(decide (iD x.lits 100000=0)&&nY x.hints (-10000000)))
 else if x.kind=2 then decide (0<=x.id)&&(decide (x.id<=10000000)&&(decide (x.lits.length=0)&&nY x.hints 1))else false
theorem LU(x:Stp)(f:x.lits.length<=1000000):ak Tryz.prog 139 [.agg (dq x)] (λr=>r=.pv (BL (ir x))):=by
 refine ap aC Tryz.func139 ?_;have e:=oH x.lits 100000 (by omega);have c:=D5 x.hints (-10000000);have d:=D5 x.hints 1;unfold ir;simp[dq]
 by_cases a:x.kind=1
 .by_cases c1:1<=x.id
  .by_cases c2:x.id<=10000000
   .simp[a,c1,c2];refine aV.intro (λ_=>e) ?_
    by_cases c3:iD x.lits 100000=0
    .simp[c3];refine aV.intro (λ_=>c) ?_;simp
    .simp[c3];refine aV.intro (r:=.pv (BL false)) (λh:False=>h.elim) ?_;simp
   .simp[a,c1,c2];refine aV.intro (r:=.pv (ab 0)) (λh:False=>h.elim) ?_;simp;refine aV.intro (r:=.pv (BL false)) (λh:False=>h.elim) ?_;simp
  .simp[a,c1];refine aV.intro (r:=.pv (ab 0)) (λh:False=>h.elim) ?_;simp;refine aV.intro (r:=.pv (BL false)) (λh:False=>h.elim) ?_;simp
 .by_cases b:x.kind=2
  .by_cases c1:0<=x.id
   .by_cases c2:x.id<=10000000
    .by_cases c3:x.lits=[]
     .simp[a,b,c1,c2,c3];refine aV.intro (λ_=>d) ?_;simp
     .simp[a,b,c1,c2,c3];refine aV.intro (r:=.pv (BL false)) (λh:False=>h.elim) ?_;simp
    .simp[a,b,c1,c2];refine aV.intro (r:=.pv (BL false)) (λh:False=>h.elim) ?_;simp
   .simp[a,b,c1];refine aV.intro (r:=.pv (BL false)) (λh:False=>h.elim) ?_;simp
  .simp[a,b]
theorem IV(x:Stp)(b:x.lits.length<=1000000):ak Tryz.prog 138 [.agg (dq x)] (λr=>r=.pv (BL (!ir x))):=by
 refine ap aC Tryz.func138 ?_;have a:=LU x b;simp only[dq]at a;simp[dq];refine ah.intro a ?_;simp
theorem LV(l:List Stp)(f:l.length<=1000000)(hx:∀x∈l,x.lits.length<=1000000):ak Tryz.prog 137 [.seq false 4 (l.map dq),.lit (.func (.func 138) #[] #[])] (λr=>r=.pv (ab (gp (λx=>!ir x) l))):=by
 refine ap aC Tryz.func137 ?_;simp;refine aF.intro (S:=λ(i:Nat)=>⟨[(0,.pv (.seq false 4 (l.map dq))),(1,.pv (.lit (.func (.func 138) #[] #[]))),(7,.pv (ab l.length)),(8,.pv (ab i))],[]⟩) (λi=>i<=l.length∧∀j (hj:j<l.length),j<i->(!ir l[j])=false) (λi=>l.length -i) 0 ?_ ⟨Te _,λj _ h=>by omega⟩ ?_
 .exact ai.keep (by simp) rfl
 .intro i ⟨hi,ho⟩
  by_cases c:i<l.length
  .have d:=dZ i;have hx:=IV l[i] (hx _ (SS c));simp only[dq]at hx;simp[c,dq];refine ah.intro hx ?_;cases a:ir l[i]
   .simp;rw[d9 c ho (by simp[a])]
   .simp;refine⟨i+1,by dsimp only;omega,⟨by omega,λj hj b=>?_⟩,ai.keep (by simp[d,dq]) rfl⟩
    by_cases e:j=i
    .subst e;simp[a]
    .simpa using ho j hj (by omega)
  .simp[c];rw[cJ (λj hj=>ho j hj (by omega))]
def xO(l:List Stp):Int:=if 1000000<l.length then 3 else if 0<=gp (λx=>!ir x) l then 2 else 0
def N1(l:List Stp):Int:=if 1000000<l.length then 0 else if 0<=gp (λx=>!ir x) l then gp (λx=>!ir x) l else l.length
theorem FX(l:List Stp)(hx:∀x∈l,x.lits.length<=1000000):ak Tryz.prog 79 [.seq false 4 (l.map dq)] (λr=>r=.pv (.tup [ab (N1 l),ab (xO l)])):=by
 refine oB [2,3] aC Tryz.func79 (λ_ _=>results_tmp2 rfl _ _ _) ?_;unfold N1 xO
 by_cases c1:1000000<l.length
 .have a:(1000000:Int)<l.length:=by omega
  simp[c1,a]
 .have a:¬(1000000:Int)<l.length:=by omega
  have b:=LV l (by omega) hx;simp[c1,a];refine ah.intro b ?_
  by_cases c2:0<=gp (λx=>!ir x) l
  .simp[c2]
  .simp[c2]
end Go.AX
namespace Go.AX
open Go.Proofs
set_option linter.unusedSimpArgs false
def fC(l:List Int):PV:=.seq true 1 (ae l)
@[simp] theorem Sf(l:List (Int×List Int))(k:Int)(y:List Int):gr (aG fC l) k (.seq true 1 (ae y))=aG fC (pt l k y):=gA fC l k y
@[simp] theorem v6(n:Nat):∀l:List (Int×List Int),fj n (aG fC l)
 |[]=>trivial
 |x::l=>⟨aT n _,v6 n l⟩
structure Ck where
  m:List (Int×List Int)
  last:Int
  done:Bool
def jj(c:Ck):List SV:=[.omap true (aG fC c.m),.pv (ab c.last),.pv (BL c.done)]
def oV(c:Ck)(id:Int)(l:List Int):Ck:=⟨pt c.m id l,id,c.done||decide (l.length=0)⟩
theorem jd(k:Nat)(c:Ck):cD k (jj c):=⟨v6 k _,trivial,trivial,trivial⟩
theorem zP(h:List (List SV))(b:Nat)(c:Ck)(e:h[b]?=some (jj c)):ax Tryz.prog 78 [.ptr b 0] h (λr h'=>h'=h∧r=.pv (BL true)):=by
 refine dR [] [.tmp 2] h (SQ _) (λf=>f) aC Tryz.func78 ?_;obtain⟨d,a⟩:=SG.1 e;simp[a,d,jj]
theorem IW(h:List (List SV))(b:Nat)(c:Ck)(e:h[b]?=some (jj c)):ax Tryz.prog 36 [.ptr b 0] h (λr h'=>h'=h∧r=.pv (BL c.done)):=by
 refine dR [] [.tmp 2] h (SQ _) (λf=>f) aC Tryz.func36 ?_;obtain⟨d,a⟩:=SG.1 e;have g:=zP h b c e;simp;refine am.intro g ?_;rintro _ _ ⟨rfl,rfl⟩;simp[a,d,jj]
set_option maxRecDepth 16000 in
theorem D6(h:List (List SV))(b:Nat)(c:Ck)(i:h[b]?=some (jj c))(id:Int)(l:List Int)(j:l.length<=1000000):
 ax Tryz.prog 75 [.ptr b 0,ab id,.seq false 1 (ae l)] h (λr h'=>h'=h.set b (jj (oV c id l))∧r=.pv (.tup [])):=by
 refine dR [] [] (h.set b (jj (oV c id l))) (by simp) (λg=>by rw[Ti];exact bP (jd _ _) b g) aC Tryz.func75 ?_;obtain⟨e,a⟩:=SG.1 i;have f:∀x g,(h.set b x)[b]'g=x:=λx g=>by simp
 have hcl:=eI l j;simp[a,e,jj];refine bE.intro hcl ?_
 by_cases d:c.done=true
 .simp[a,e,jj,f,d,oV];exact Tm (by simp)
 .have d':c.done=false:=by simpa using d
  simp[a,e,jj,f,d',oV];exact Tm (by simp)
theorem Cj:ak Tryz.prog 77 [.lit (.slice none 0 0)] (λr=>r=.pv (.lit (.slice none 0 0))):=by
 refine ap aC Tryz.func77 ?_;simp
def fD(l:List Int):PV:=.seq false 1 (ae l)
@[simp] theorem RR(l:List (Int×List Int))(k:Int):df (aG fD l) k=(lk l k).map fD:=fL fD l k
@[simp] theorem FY(n:Nat):∀l:List (Int×List Int),fj n (aG fD l)
 |[]=>trivial
 |x::l=>⟨aT n _,FY n l⟩
@[simp] theorem LW(r:Nat->Nat->PV):∀l:List (Int×List Int),mq r (aG fC l)=aG fD l
 |[]=>rfl
 |x::l=>by
  have:=LW r l;show(x.1,iR r (fC x.2))::mq r (aG fC l)=(x.1,fD x.2)::aG fD l;rw[this];simp[fC,fD]
@[simp] theorem LY(r:Nat->Nat->PV):∀l:List (Int×List Int),mq r (aG fD l)=aG fD l
 |[]=>rfl
 |x::l=>by
  have:=LY r l;show(x.1,iR r (fD x.2))::mq r (aG fD l)=(x.1,fD x.2)::aG fD l;rw[this];simp[fD]
abbrev v7(c:Ck):PV:=.iptr 3 [[.amap false (aG fD c.m),ab c.last,BL c.done]] 0 0
theorem IX{h:List (List SV)}{b:Nat}{c:Ck}(a:h[b]?=some (jj c))(n:Nat):aZ h (n+1) b 0=v7 c:=by
 simp[aZ,a,jj,v7]
def xP(id:Int):Int:=if id<aY (-id)then aY (-id)else id
theorem FZ(c:Ck)(id:Int):ak Tryz.prog 219 [ab id,.iptr 1 [[v7 c]] 0 0] (λr=>r=.pv (BL (!(lk c.m (xP id)).isSome))):=by
 refine ap aC Tryz.func219 ?_;simp[xP]
def gJ(c:Ck)(ids:List Int):Bool:=ids.all λid=>(lk c.m (xP id)).isSome
theorem zQ(c:Ck)(ids:List Int)(d:ids.length<=1000000):ak Tryz.prog 143 [v7 c,.seq false 1 (ae ids)] (λr=>r=.pv (BL (gJ c ids))):=by
 refine ap aC Tryz.func143 ?_;have a:=dQ ids d 219 [.iptr 1 [[v7 c]] 0 0] (λid=>!(lk c.m (xP id)).isSome) (λr=>by simp) rfl (λk=>by simp) (λx _=>FZ c x);have b:gJ c ids=!(ids.any λid=>!(lk c.m (xP id)).isSome):=by
  unfold gJ;rw[List.not_any_eq_all_not];simp
 simp[aZ];refine ah.intro a ?_;rw[b];simp
theorem N2(g:List (List SV))(c:Ck)(id:Int):ax Tryz.prog 221 [v7 c,ab id] g (λr g'=>g'=g∧r=.pv (.seq false 1 (ae ((lk c.m id).getD [])))):=by
 refine fk [] [.tmp 4] aC Tryz.func221 ?_;cases e:lk c.m id with
 |none=>simp[e,bO,ae]
 |some l=>simp[e,bO,fD]
def cM(c:Ck)(ids:List Int):List (List Int):=ids.map λid=>(lk c.m id).getD []
set_option maxRecDepth 16000 in
theorem tV(g:List (List SV))(c:Ck)(ids:List Int)(n:ids.length<=1000000):ax Tryz.prog 222 [.seq false 1 (ae ids),.fn (.func 221) [v7 c] []] g (λr g'=>g'=g∧r=.pv (.seq true 1 ((cM c ids).map aw))):=by
 refine fk [] [.tmp 4] aC Tryz.func222 ?_;obtain⟨Q,a⟩:∃Q:Nat->List (List Int),∀i,Q i=(cM c ids).take i:=⟨_,λ_=>rfl⟩;have d:∀i,(Q i).length<=i:=λi=>by rw[a,SU];omega
 simp;refine aF.intro (S:=λ(i:Nat)=>⟨[(1,.pv (.fn (.func 221) [v7 c] [])),(5,.own true 1 ((Q i).map aw)),(8,.pv (.seq false 1 (ae ids))),(9,.pv (ab ids.length)),(10,.pv (ab i))],g⟩) (λi=>i<=ids.length) (λi=>ids.length -i) 0 ?_ (Te _) ?_
 .exact(ai.nilOwn (s:=5) 1 true (by simp)).trans (ai.keep (by simp[a]) rfl)
 intro i hi
 by_cases h:i<ids.length
 .have l:=dZ i;have f:=λg=>N2 g c ids[i];have e:Q (i+1)=Q i++[(lk c.m ids[i]).getD []]:=by
   rw[a,a,T8 (by unfold cM;rw[SZ];exact h)];simp[cM]
  have k:=d i;simp[h];refine ah.introM (f _) ?_;rintro _ _ ⟨rfl,rfl⟩;simp;refine⟨by omega,i+1,by(try dsimp only);omega,by(try dsimp only);omega,ai.keep (by simp[l,e,aw]) (by simp)⟩
 .have j:i=ids.length:=by omega
  subst j;have b:Q ids.length=cM c ids:=by rw[a];exact Tm (by unfold cM;simp)
  simp[b,bO,bK]
end Go.AX
namespace Go.AX
set_option maxRecDepth 16000
open Go.Proofs
set_option linter.unusedSimpArgs false
theorem F0(l:List Int)(x:Int)(c:l.length<=1000000):ak Tryz.prog 314 [.seq false 1 (ae l),ab x] (λr=>r=.pv (ab (bn l x))):=by
 refine ap aC Tryz.func314 ?_;have a:=eF l x (by omega);have b:=eF l (aY (-x)) (by omega);simp;refine ah.intro (aI x) ?_;cases ho:cX x
 .have hz:af x=0:=by rw[jX];exact ho
  rw[zK l x ho];simp[hz]
 .have hz:af x≠0:=λe=>by rw[jX]at e;rw[ho]at e;cases e
  rw[qN l x ho];unfold lI;simp[hz];refine ah.intro a ?_
  by_cases c1:x∈l
  .simp[c1]
  .simp[c1];refine ah.intro b ?_
   by_cases c2:aY (-x)∈l
   .simp[c2]
   .simp[c2]
def lJ(cs:List (List Int))(p:Int):Nat->List Int
 |0=>[]
 |i+1=>if l7 p≠0∧lA (cs.getD i []) (l7 p)=true then lJ cs p i++[(i:Int)]else lJ cs p i
theorem tW(cs:List (List Int))(p:Int):∀i,(lJ cs p i).length<=i
 |0=>by simp[lJ]
 |i+1=>by
  have:=tW cs p i;rw[lJ];split
  .simp;omega
  .omega
theorem ny:∀l:List (List PV),tw l l
 |[]=>trivial
 |x::l=>⟨jV x,ny l⟩
def IY(p:Int)(o:Option (List Int))(x:Int):Option (List Int):=
 o.bind λout=>if af x=0∨x=l7 p then some out else if bn out x=1 then none else if bn out x=0 then some (out++[aY (-x)])else some out
def zR(l c:List Int)(p:Int)(i:Nat):Option (List Int):=(c.take i).foldl (IY p) (some l)
def Cl(l c:List Int)(p:Int)(hs:List (List Int)):Int:=match zR l c p c.length with
 |none=>0
 |some out=>if(eX out hs 0).2.2≠0 then 24 else 0
theorem v8(p:Int):∀c:List Int,c.foldl (IY p) none=none
 |[]=>rfl
 |x::c=>v8 p c
theorem F1{l c:List Int}{p:Int}{i:Nat}(h:zR l c p i=none)(hi:i<=c.length):zR l c p c.length=none:=by
 unfold zR at h⊢;have:c.take c.length=c.take i++c.drop i:=by rw[Tw,TY]
 rw[this,Wh,h];exact v8 p _
theorem F2(g:List (List SV))(l c:List Int)(p:Int)(hs:List (List Int))(v:l.length+c.length+hs.length<=1000000)(t:∀h∈hs,h.length<=1000000):ax Tryz.prog 274 [.seq false 1 (ae l),.seq false 1 (ae c),ab p,.seq false 1 (hs.map aw)] g (λr g'=>g'=g∧r=.pv (ab (Cl l c p hs))):=by
 refine fk [] [.tmp 8] aC Tryz.func274 ?_;have hcl:=eI l (by omega);have b:Cl l c p hs=match zR l c p c.length with
  |none=>0
  |some out=>if(eX out hs 0).2.2≠0 then 24 else 0:=rfl
 generalize Cl l c p hs=E at*;simp;refine ah.intro hcl ?_;simp;refine aF.intro (S:=λ(x:Nat×List Int)=>⟨[(2,.pv (ab p)),(3,.pv (.seq false 1 (hs.map aw))),(9,.own true 1 (ae x.2)),(17,.pv (.seq false 1 (ae c))),(18,.pv (ab c.length)),(19,.pv (ab x.1))],g⟩) (λx=>x.1<=c.length∧x.2.length<=l.length+x.1∧zR l c p x.1=some x.2) (λx=>c.length -x.1) (0,l) ?_ ⟨Te _,SQ _,rfl⟩ ?_
 .exact ai.keep (by simp) rfl
 rintro⟨i,out⟩ ⟨hi,f,ho⟩;dsimp only at hi f ho
 by_cases h:i<c.length
 .have m:=dZ i;have a:zR l c p (i+1)=IY p (zR l c p i) c[i]:=bd (IY p) (some l) c i h;rw[ho]at a;have s:IY p (some out) c[i]=if af c[i]=0∨c[i]=l7 p then some out else if bn out c[i]=1 then none else if bn out c[i]=0 then some (out++[aY (-c[i])])else some out:=rfl;rw[s]at a;have u:=F0 out c[i] (by omega);have q:=qD p;simp[h];refine ah.intro (aI c[i]) ?_
  by_cases c1:af c[i]=0
  .rw[SN (.inl c1)]at a;simp[c1];refine aV.intro (r:=.pv (ab 0)) (λh:False=>h.elim) ?_;simp;exact⟨(i+1,out),by(try dsimp only);omega,⟨by(try dsimp only);omega,by(try dsimp only);omega,a⟩,ai.keep (by simp[m]) (by simp)⟩
  simp[c1];refine aV.intro (λ_=>q) ?_
  by_cases c2:c[i]=l7 p
  .rw[SN (.inr c2)]at a;simp[c2];exact⟨(i+1,out),by(try dsimp only);omega,⟨by(try dsimp only);omega,by(try dsimp only);omega,a⟩,ai.keep (by simp[m]) (by simp)⟩
  rw[SM (λe=>e.elim c1 c2)]at a;simp[c2];refine ah.intro u ?_
  by_cases j:bn out c[i]=1
  .rw[SN j]at a;have hn:=F1 a (by omega);rw[hn]at b;simp only at b;subst b;simp[j,bO]
  rw[SM j]at a
  by_cases k:bn out c[i]=0
  .rw[SN k]at a;simp[k];exact⟨by omega,(i+1,out++[aY (-c[i])]),by(try dsimp only);omega,⟨by(try dsimp only);omega,by simp;omega,a⟩,ai.keep (by simp[m,ae]) (by simp)⟩
  .rw[SM k]at a;simp[j,k];exact⟨(i+1,out),by(try dsimp only);omega,⟨by(try dsimp only);omega,by(try dsimp only);omega,a⟩,ai.keep (by simp[m]) (by simp)⟩
 have o:i=c.length:=by omega
 subst o;rw[ho]at b;simp only at b;have n:=λg=>qP g out hs (by omega) t;simp;refine ah.introE (n g) (by simp) rfl (by simp) (by simp) (by simp[Ie,RP,ny]) ?_;rintro _ _ ⟨rfl,rfl⟩
 by_cases d:(eX out hs 0).2.2=0
 .rw[SM (by simp[d])]at b;subst b;simp[d,bO]
 .rw[SN d]at b;subst b;simp[d,bO]
theorem IZ(cs:List (List Int))(p:Int)(k:cs.length<=1000000)(g:∀c∈cs,c.length<=1000000):ak Tryz.prog 275 [.seq false 1 (cs.map aw),ab p] (λr=>r=.own true 1 (ae (lJ cs p cs.length))):=by
 refine ap aC Tryz.func275 ?_;have b:=qD p;simp;refine aF.intro (S:=λ(i:Nat)=>⟨[(1,.pv (ab p)),(5,.own true 1 (ae (lJ cs p i))),(9,.pv (.seq false 1 (cs.map aw))),(10,.pv (ab cs.length)),(11,.pv (ab i))],[]⟩) (λi=>i<=cs.length) (λi=>cs.length -i) 0 ?_ (Te _) ?_
 .exact(ai.nilOwn (s:=5) 1 true (by simp)).trans (ai.keep (by simp[lJ,ae]) rfl)
 intro i hi;have hle:=tW cs p i
 by_cases h:i<cs.length
 .have d:=dZ i;have j:cs.getD i []=cs[i]:=by rw[SI,SH h];rfl
  have hs:lJ cs p (i+1)=if l7 p≠0∧lA cs[i] (l7 p)=true then lJ cs p i++[(i:Int)]else lJ cs p i:=by rw[lJ,j]
  have f:=HU cs[i] (l7 p) (by have:=g _ (SS h);omega);simp[h,aw];refine ah.intro b ?_
  by_cases c1:l7 p=0
  .rw[SM (λe=>e.1 c1)]at hs;simp[c1];refine aV.intro (r:=.pv (BL false)) (λh:False=>h.elim) ?_;simp;exact⟨i+1,by(try dsimp only);omega,by(try dsimp only);omega,ai.keep (by simp[d,hs,aw]) (by simp)⟩
  .simp[c1];refine aV.intro (λ_=>f) ?_
   by_cases c2:lA cs[i] (l7 p)=true
   .rw[SN ⟨c1,c2⟩]at hs;simp[c2];exact⟨by omega,i+1,by(try dsimp only);omega,by(try dsimp only);omega,ai.keep (by simp[d,hs,ae,aw]) (by simp)⟩
   .rw[SM (λe=>c2 e.2)]at hs;simp[c2];exact⟨i+1,by(try dsimp only);omega,by(try dsimp only);omega,ai.keep (by simp[d,hs,aw]) (by simp)⟩
 .have a:i=cs.length:=by omega
  subst a;simp
end Go.AX
namespace Go.AX
open Go.Proofs
set_option linter.unusedSimpArgs false
def lX(v:Int):List (List Int)->Nat->Int×Int
 |[],i=>(i,0)
 |c::L,i=>if iD c v≠0 then(i,iD c v)else if i8 c=true then(i,11)else lX v L (i+1)
def d7(v:Int)(L:List (List Int)):Int×Int:=if v<0∨100000<v then(0,2)else if 1000000<L.length then(0,3)else lX v L 0
theorem Cs(v:Int){L:List (List Int)}{i:Nat}(h:i<L.length):lX v (L.drop i) i=if iD L[i] v≠0 then((i:Int),iD L[i] v)else if i8 L[i]=true then((i:Int),11)else lX v (L.drop (i+1)) (i+1):=by
 rw[TJ h,lX]
theorem F8(v:Int)(L:List (List Int)):lX v (L.drop L.length) L.length=((L.length:Int),0):=by
 rw[Tq (SQ _),lX]
set_option maxRecDepth 16000 in
theorem xQ(v:Int)(L:List (List Int))(k:∀c∈L,c.length<=1000000):ak Tryz.prog 62 [.agg [ab v,.seq false 1 (L.map aw)]] (λr=>r=.pv (.tup [ab (d7 v L).1,ab (d7 v L).2])):=by
 refine oB [2,3] aC Tryz.func62 (λ_ _=>results_tmp2 rfl _ _ _) ?_;have b:d7 v L=if v<0∨100000<v then(0,2)else if 1000000<L.length then(0,3)else lX v (L.drop 0) 0:=rfl;generalize d7 v L=S at*
 by_cases h1:v<0
 .rw[SN (.inl h1)]at b;subst b;simp[h1]
 by_cases f:100000<v
 .rw[SN (.inr f)]at b;subst b;simp[h1,f]
 rw[SM (λe=>e.elim h1 f)]at b
 by_cases g:1000000<L.length
 .have d:(1000000:Int)<(L.length:Int):=by omega
  rw[SN g]at b;subst b;simp[h1,f,g,d]
 rw[SM g]at b;have d:¬(1000000:Int)<(L.length:Int):=by omega
 simp[h1,f,g,d];refine aF.intro (S:=λ(i:Nat)=>⟨[(1,.pv (.ptr 0 0)),(22,.pv (.seq false 1 (L.map aw))),(23,.pv (ab L.length)),(24,.pv (ab i))],[[.pv (ab v),.pv (.seq false 1 (L.map aw))]]⟩) (λi=>i<=L.length∧S=lX v (L.drop i) i) (λi=>L.length -i) 0 ?_ ⟨Te _,b⟩ ?_
 .exact ai.keep (by simp) (by simp)
 rintro i ⟨hi,a⟩
 by_cases h:i<L.length
 rotate_left
 .have j:i=L.length:=by omega
  subst j;rw[F8]at a;subst a;simp
 have l:=dZ i;rw[Cs v h]at a;have o:=k _ (SS h);have m:=oH L[i] v (by omega);have n:=xw L[i] (by omega);simp[h,aw];refine ah.intro m ?_
 by_cases c1:iD L[i] v=0
 .rw[SM (by simp[c1])]at a;simp[c1];refine ah.intro n ?_
  by_cases c2:i8 L[i]=true
  .rw[SN c2]at a;subst a;simp[c2]
  .rw[SM c2]at a;simp[c2];exact⟨i+1,by(try dsimp only);omega,⟨by(try dsimp only);omega,a⟩,ai.keep (by simp[l,aw]) (by simp[aw])⟩
 .rw[SN c1]at a;subst a;simp[c1]
end Go.AX