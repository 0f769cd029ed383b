/-
  Contracts: proof.Split: hints, parted.
  Contracts: proof.Check: steps that may be.
  Contracts: lrat.Checker: what it holds.
  Contracts: lrat.Checker, read only.
  Contracts: rat: candidates.
  Contracts: the document's steps: within.
  Contracts: whether a formula may be: the program's, the document's.
-/
import Derived.Test.YtepodadinenmnaaGreatS14AxTmB
import Derived.Test.YtepodadinenmnaaGreatAxFz
namespace Go.AX
open Go.Proofs
set_option linter.unusedSimpArgs false
def lF(x:List Int×List (List Int))(h:Int):List Int×List (List Int):=
 if h<0 then(x.1,x.2++[[h]])else if x.2=[]then(x.1++[h],x.2)else(x.1,x.2.dropLast++[x.2.getLastD []++[h]])
def cm(hs:List Int)(i:Nat):List Int×List (List Int):=(hs.take i).foldl lF ([],[])
def oW(hs:List Int):List Int×List (List Int):=cm hs hs.length
structure Bs where
  b:Nat
  n:Nat
  cap:Nat
def JK(e:Bs):List PV:=[.bsl e.b 1 0 e.n e.cap]
def pT(l:List Int):List SV:=l.map λx=>.pv (af x)
structure BsOk (h:List (List SV)) (e:Bs) (l:List Int):Prop where
  n:e.n=l.length
  cap:e.n<=e.cap
  at':∃sp,h[e.b]?=some (pT l++sp)∧sp.length=e.cap -e.n
theorem GQ(x:List Int×List (List Int))(h:Int):(lF x h).1.length+(lF x h).2.length<=x.1.length+x.2.length+1∧∀l∈(lF x h).2,∃l',(l'=[]∨l'∈x.2)∧l.length<=l'.length+1:=by
 unfold lF;split
 .refine⟨by simp;omega,λl a=>?_⟩;rcases Qn.1 a with a|a
  .exact⟨l,.inr a,by omega⟩
  .rw[QI]at a;subst a;exact⟨[],.inl rfl,by simp⟩
 .split
  .exact⟨by simp;omega,λl a=>⟨l,.inr a,by omega⟩⟩
  .rename_i b;have hp:=Ru.2 b;refine⟨by simp;omega,λl a=>?_⟩;rcases Qn.1 a with a|a
   .exact⟨l,.inr (UV _ a),by omega⟩
   .rw[QI]at a;subst a;refine⟨x.2.getLastD [],.inr ?_,by simp⟩;rw[Uy,List.getLast?_eq_some_getLast b];exact List.getLast_mem b
theorem nV(hs:List Int){i:Nat}(h:i<hs.length):cm hs (i+1)=lF (cm hs i) hs[i]:=bs lF ([],[]) hs i h
theorem im(hs:List Int):∀i,i<=hs.length->(cm hs i).1.length+(cm hs i).2.length<=i∧∀l∈(cm hs i).2,l.length<=i
 |0,_=>by simp[cm]
 |i+1,h=>by
  obtain⟨h1,b⟩:=im hs i (by omega);obtain⟨f,c⟩:=GQ (cm hs i) hs[i];rw[nV hs (by omega)];refine⟨by omega,λl e=>?_⟩;obtain⟨l',a,d⟩:=c l e;rcases a with rfl|a
  .simp at d;omega
  .have:=b l' a;omega
theorem GR(l:List (List Int)){m:Nat}(b:l.length=m+1)(h:Int):l.dropLast++[l.getLastD []++[h]]=l.set m ((l.getD m [])++[h]):=by
 have d:l≠[]:=λe=>by rw[e]at b;simp at b
 have h1:l.getLastD []=l.getD m []:=by
  rw[Uy,List.getLast?_eq_getElem?,b,SZ,P9]
 rw[h1];apply Rt;intro k;rw[QB];have a:l.dropLast.length=m:=by rw[List.length_dropLast];omega
 rcases RH k m with c|c|c
 .rw[Qd (by omega),Qa (by omega),List.getElem?_dropLast,Qb (by omega)]
 .subst c;rw[Qp (by omega),Qb rfl,Qb (by omega),a,RM];rfl
 .rw[QH (by rw[Qh,a,Ri];omega),Qa (by omega),QH (by omega)]
theorem Ch.of{k0:Nat}{st S:St}(h:ai k0 st S):Ch k0 st (λ_:Unit=>S):=λg a w h0 hs=>by
 obtain⟨g',t,s'⟩:=h g a w h0 hs;exact⟨g',(),t,s'⟩
theorem BsOk.app{h:List (List SV)}{e:Bs}{l:List Int}(a:BsOk h e l)(c:e.b<h.length)(B:List (List SV)):BsOk (h++B) e l:=⟨a.n,a.cap,by
 obtain⟨sp,h1,d⟩:=a.at';exact⟨sp,by rw[Qd c];exact h1,d⟩⟩
theorem BsOk.lt{h:List (List SV)}{e:Bs}{l:List Int}(a:BsOk h e l):e.b<h.length:=by
 obtain⟨sp,h1,_⟩:=a.at';exact(P7.1 h1).1
theorem sm{h:List (List SV)}{k:Nat}:∀{c:List Bs}{L:List (List Int)},c.length=L.length->(∀i (_:i<c.length)(_:i<L.length),BsOk h c[i] L[i])->(∀e∈c,k<=e.b)->uD h k (c.map JK) (L.map az)
 |[],L,d,_,_=>by
  have:L=[]:=Rj.1 d.symm;subst this;rfl
 |e::c,[],d,_,_=>by cases d
 |e::c,l::L,d,ho,hk=>by
  obtain⟨h1,g,sp,f,j⟩:=ho 0 (Nat.zero_lt_succ _) (Nat.zero_lt_succ _);refine⟨_,_,rfl,⟨_,_,rfl,⟨rfl,hk e Qy,l,[],sp,rfl,h1,f,rfl⟩,rfl⟩,sm (by simpa using d) (λi a b=>?_) (λx hx=>hk x (Qr _ hx))⟩;have:=ho (i+1) (by simpa using a) (by simpa using b);simpa using this
set_option maxRecDepth 16000 in
theorem AK(g:List (List SV))(hs:List Int)(hl:hs.length<=1000000):ay Tryz.prog 220 [.seq false 1 (ab hs)] g (λr g'=>g'=g∧r=.pv (.tup [.seq true 1 (ab (oW hs).1),.seq true 1 ((oW hs).2.map az)])):=by
 refine Lz [5,7,11] [.tmp 2,.tmp 3] aD Tryz.func220 ?_;simp;refine aH.intro (S:=λ(x:Nat×List Bs×List (List SV))=>⟨[(2,.own true 1 (ab (cm hs x.1).1)),(3,.own true 1 (x.2.1.map JK)),(7,.pv (.seq false 1 (ab hs))),(8,.pv (af hs.length)),(9,.pv (af x.1))],g++x.2.2⟩) (λx=>x.1<=hs.length∧x.2.1.length=(cm hs x.1).2.length∧(∀k (_:k<x.2.1.length)(_:k<(cm hs x.1).2.length),BsOk (g++x.2.2) x.2.1[k] (cm hs x.1).2[k])∧(∀e∈x.2.1,g.length<=e.b)∧(∀j k (_:j<x.2.1.length)(_:k<x.2.1.length),j<k->x.2.1[j].b<x.2.1[k].b)) (λx=>hs.length -x.1) (0,[],[]) ?_ ⟨Qq _,rfl,(λk h=>by simp at h),(λe v=>by simp at v),(λj k hj=>by simp at hj)⟩ ?_
 .exact((ai.nilOwn (s:=2) 1 true (by simp)).trans (ai.nilOwn (s:=3) 1 true (by simp))).trans (ai.keep (by simp[cm,ab]) (by simp))
 rintro⟨i,a,B⟩ ⟨hi,o,f,w,D⟩;dsimp only at hi o f w D
 by_cases h:i<hs.length
 .have X:=eq i;have u:cm hs (i+1)=lF (cm hs i) hs[i]:=bs lF ([],[]) hs i h
  by_cases c1:hs[i]<0
  .have F:¬0<=hs[i]:=by omega
   simp[h,c1,F];refine iF.blk [31] ?_;simp;intro cap R;have P:lF (cm hs i) hs[i]=((cm hs i).1,(cm hs i).2++[[hs[i]]]):=by unfold lF;rw[Qb c1]
   rw[P]at u;have ar:a.length<=1000000:=by have:=(im hs i hi).1;omega
   refine⟨by omega,(i+1,a++[⟨g.length+B.length,1,cap⟩],B++[.pv (af hs[i])::List.replicate (cap -1) (.pv .bot)]),by(try dsimp only);omega,⟨by(try dsimp only);omega,by rw[u];simp[o],?_,?_,?_⟩,ai.keep (by simp[X,u,JK]) (by simp)⟩;rotate_left
   .intro e v;rcases Qn.1 v with v|v
    .exact w e v
    .rw[QI]at v;subst v;exact UH _ _
   .intro j k hj hk C;simp only[Qh,Ri]at hj hk;have K:j<a.length:=by omega
    simp only[QN K]
    by_cases z:k<a.length
    .simp only[QN z];exact D j k K z C
    .have N:k=a.length:=by omega
     subst N;simp only[SA (Qc _),RM,Sv];have:=(f j K (by omega)).lt;rw[Qh]at this;exact this
   dsimp only;rw[u];intro k q M;simp only[Qh,Ri]at q M;rw[←QD]
   by_cases hk:k<a.length
   .have z:k<(cm hs i).2.length:=by omega
    rw[QN hk];simp only[QN z];exact(f k hk z).app (f k hk z).lt _
   .have N:k=a.length:=by omega
    subst N;rw[SA (Qc _)];simp only[RM,Sv,o,SA (Qc _)];refine⟨rfl,R,List.replicate (cap -1) (.pv .bot),?_,by simp⟩;dsimp only;rw[Qp (by simp)];simp[pT]
  .have F:0<=hs[i]:=by omega
   by_cases c2:a=[]
   .subst c2;have ag:aX (0 -1)=-1:=by decide
    have ah:aX (-1)=-1:=by decide
    have P:lF (cm hs i) hs[i]=((cm hs i).1++[hs[i]],(cm hs i).2):=by
     unfold lF;rw[Qa c1,Qb (Rj.1 (by rw[←o];rfl))]
    rw[P]at u;have an:(cm hs i).1.length<=1000000:=by have:=(im hs i hi).1;omega
    simp[h,c1,F,ag,ah];refine⟨by omega,(i+1,[],B),by(try dsimp only);omega,⟨by(try dsimp only);omega,by rw[u];exact o,(λk hk=>by simp at hk),(λe v=>by simp at v),(λj k hj=>by simp at hj)⟩,ai.keep (by simp[X,u,ab]) (by simp)⟩
   .have au:0<a.length:=Ru.2 c2;obtain⟨m,hm⟩:∃m,a.length=m+1:=⟨a.length -1,by omega⟩;have A:m<a.length:=by omega
    have l:m<(cm hs i).2.length:=by omega
    have aj:aX ((a.length:Int) -1)=(m:Int):=by rw[aq (by omega) (by have:=(im hs i hi).1;omega)];omega
    obtain⟨b1,b2,sp,b3,b4⟩:=f m A l;have av:=(im hs i hi).2 _ (Qe l);have ae:¬(m:Int)<0:=by omega
    have V:(0:Int)<=m:=by omega
    have ao:(a.map JK)[m]?=some (JK a[m]):=by rw[Qu,P8 A];rfl
    simp[h,c1,F,aj,ae,V];refine iF.blk [] ?_;simp[A,JK];have W:=Qe A;have aa:=w _ W;have Q:a[m].b<g.length+B.length:=by have:=(f m A l).lt;rwa [Qh]at this
    have P:lF (cm hs i) hs[i]=((cm hs i).1,(cm hs i).2.set m ((cm hs i).2[m]++[hs[i]])):=by
     unfold lF;rw[Qa c1,Qa (λe=>by rw[e]at l;simp at l),GR (cm hs i).2 (m:=m) (by omega),P9,P8 l];rfl
    rw[P]at u;generalize hL:(cm hs i).2[m]=L at*;generalize v:a[m]=e at*;have hX:(g++B)[e.b]?.getD []=pT L++sp:=by rw[b3];rfl
    have T:(pT L).length=L.length:=by unfold pT;simp
    rw[hX];refine⟨Q,by rw[Qh,T];omega,by omega,L.map af,?_,by simp[b1],λO=>?_,λZ d J=>?_⟩
    .rw[Rg (by omega),QM (by omega)];unfold pT;rw[Ra];rfl
    .have hY:(pT L++sp).take e.n++SV.pv (af hs[i])::(pT L++sp).drop (e.n+1)=pT (L++[hs[i]])++sp.drop 1:=by
      rw[Rg (by omega),QM (by omega),Ub,UK (by omega),T];have:e.n+1 -L.length=1:=by omega
      rw[this];unfold pT;simp
     have H:∀Y,(g++B).set e.b Y=g++B.set (e.b -g.length) Y:=λY=>Sm _ _ aa;have p:∀k (hk:k<(a.set m ⟨e.b,e.n+1,e.cap⟩).length),k≠m->(a.set m ⟨e.b,e.n+1,e.cap⟩)[k]=a[k]'(by simpa using hk):=λk hk E=>TM (SJ E) _;have y:∀(hk:m<(a.set m ⟨e.b,e.n+1,e.cap⟩).length),(a.set m ⟨e.b,e.n+1,e.cap⟩)[m]=⟨e.b,e.n+1,e.cap⟩:=λhk=>Tu _;have I:∀k (hk:k<(a.set m ⟨e.b,e.n+1,e.cap⟩).length),(a.set m ⟨e.b,e.n+1,e.cap⟩)[k].b=(a[k]'(by simpa using hk)).b:=λk hk=>by
      by_cases c:k=m
      .subst c;rw[y,v]
      .rw[p k hk c]
     refine⟨(i+1,a.set m ⟨e.b,e.n+1,e.cap⟩,B.set (e.b -g.length) (pT (L++[hs[i]])++sp.drop 1)),by(try dsimp only);omega,⟨by(try dsimp only);omega,by rw[u];simp[o],?_,?_,?_⟩,ai.keep (by simp[X,u,JK,T6]) (by dsimp only;rw[←H,←hY])⟩
     .dsimp only;rw[u,←H];intro k q M;have t:k<a.length:=by simpa using q
      have G:k<(cm hs i).2.length:=by omega
      by_cases c:k=m
      .subst c;rw[y];simp only[Tu];refine⟨by simp[b1],O,sp.drop 1,?_,by rw[QS];dsimp only;omega⟩;dsimp only;rw[Q0 (by rw[Qh];exact Q)]
      .rw[p k q c];simp only[TM (SJ c)];obtain⟨o1,o2,ak,o3,o4⟩:=f k t G;refine⟨o1,o2,ak,?_,o4⟩;have E:e.b≠a[k].b:=by
        have h1:=D k m t A (by omega);rw[v]at h1;omega
       rw[Qt E];exact o3
     .intro x hx;obtain⟨k,hk,rfl⟩:=Qm hx;rw[I k hk];exact w _ (Qe _)
     .intro j k hj hk C;rw[I j hj,I k hk];exact D j k (by simpa using hj) (by simpa using hk) C
    .have p:∀k (hk:k<(a.set m ⟨g.length+B.length,e.n+1,d⟩).length),k≠m->(a.set m ⟨g.length+B.length,e.n+1,d⟩)[k]=a[k]'(by simpa using hk):=λk hk E=>TM (SJ E) _;have y:∀(hk:m<(a.set m ⟨g.length+B.length,e.n+1,d⟩).length),(a.set m ⟨g.length+B.length,e.n+1,d⟩)[m]=⟨g.length+B.length,e.n+1,d⟩:=λhk=>Tu _;refine⟨(i+1,a.set m ⟨g.length+B.length,e.n+1,d⟩,B++[pT (L++[hs[i]])++List.replicate (d -(e.n+1)) (.pv .bot)]),by(try dsimp only);omega,⟨by(try dsimp only);omega,by rw[u];simp[o],?_,?_,?_⟩,ai.keep (by simp[X,u,JK,T6]) (by simp[pT])⟩
     .dsimp only;rw[u,←QD];intro k q M;have t:k<a.length:=by simpa using q
      have G:k<(cm hs i).2.length:=by omega
      by_cases c:k=m
      .subst c;rw[y];simp only[Tu];refine⟨by simp[b1],J,List.replicate (d -(e.n+1)) (.pv .bot),?_,by simp⟩;dsimp only;rw[Qp (by simp)];simp
      .rw[p k q c];simp only[TM (SJ c)];exact(f k t G).app (f k t G).lt _
     .intro x hx;obtain⟨k,hk,rfl⟩:=Qm hx
      by_cases c:k=m
      .subst c;rw[y];exact UH _ _
      .rw[p k hk c];exact w _ (Qe _)
     .intro j k hj hk C;have U:j<a.length:=by simpa using hj
      have t:k<a.length:=by simpa using hk
      rw[p j hj (by omega)]
      by_cases c:k=m
      .subst c;rw[y];have:=(f j U (by omega)).lt;rw[Qh]at this;exact this
      .rw[p k hk c];exact D j k U t C
 .have ad:i=hs.length:=by omega
  subst ad;simp;refine iF.weak _ (Ch.of ((ai.frz (s:=2) (e:=1) (nw:=true) (rows:=ab (cm hs hs.length).1) (by simp)).trans (ai.frz (s:=3) (e:=1) (nw:=true) (rows:=a.map JK) (by simp)))) (λ_=>iF.ops ?_);simp;exact⟨_,rfl,_,_,rfl,⟨_,rfl,qk _ _ _⟩,_,_,rfl,⟨_,rfl,sm o f w⟩,rfl⟩
end Go.AX
namespace Go.AX
set_option maxRecDepth 16000
open Go.Proofs
set_option linter.unusedSimpArgs false
structure Stp where
  kind:Int
  id:Int
  lits:List Int
  hints:List Int
instance:Inhabited Stp:=⟨⟨0,0,[],[]⟩⟩
def dF(x:Stp):List PV:=[af x.kind,af x.id,.seq false 1 (ab x.lits),.seq false 1 (ab x.hints)]
@[simp] theorem KI(k:Nat)(l:List Stp):bQ k (l.map dF):=by
 induction l with
 |nil=>trivial
 |cons x xs a=>exact⟨⟨trivial,trivial,aS k _,aS k _,trivial⟩,a⟩
@[simp] theorem MN(r:Nat->Nat->PV)(l:List Stp):lz r (l.map dF)=l.map dF:=by
 rw[cb,Ra];apply Sw;intro x _;simp[dF]
def sq(lo n:Int):Bool:=decide (n<lo)||decide (10000000<n)||decide (n=0)
theorem GS(n lo:Int):am Tryz.prog 268 [af n,.iptr 1 [[af lo]] 0 0] (λr=>r=.pv (BL (sq lo n))):=by
 refine ao aD Tryz.func268 ?_;unfold sq
 by_cases c1:n<lo
 .simp[c1]
 .by_cases c2:10000000<n
  .simp[c1,c2]
  .simp[c1,c2]
def mc(l:List Int)(lo:Int):Bool:=decide (l.length<=1000)&&!(l.any (sq lo))
theorem Ct(l:List Int)(lo:Int):am Tryz.prog 216 [.seq false 1 (ab l),af lo] (λr=>r=.pv (BL (mc l lo))):=by
 refine ao aD Tryz.func216 ?_;unfold mc
 by_cases c1:l.length<=1000
 .have b:=dM l (by omega) 268 [.iptr 1 [[af lo]] 0 0] (sq lo) (λr=>by simp) rfl (λk=>by simp) (λx _=>GS x lo);have a:(l.length:Int)<=1000:=by omega
  simp[c1,a,a8];refine aO.intro (λ_=>b) ?_;simp
 .have a:¬(l.length:Int)<=1000:=by omega
  simp[c1,a,a8];refine aO.intro (r:=.pv (BL false)) (λh:False=>h.elim) ?_;simp
def jr(x:Stp):Bool:=
 if x.kind=1 then decide (1<=x.id)&&(decide (x.id<=10000000)&&(decide (fj x.lits 100000=0)&&mc x.hints (-10000000)))
 else if x.kind=2 then decide (0<=x.id)&&(decide (x.id<=10000000)&&(decide (x.lits.length=0)&&mc x.hints 1))else false
theorem JM(x:Stp)(f:x.lits.length<=1000000):am Tryz.prog 139 [.agg (dF x)] (λr=>r=.pv (BL (jr x))):=by
 refine ao aD Tryz.func139 ?_;have e:=nM x.lits 100000 (by omega);have c:=Ct x.hints (-10000000);have d:=Ct x.hints 1;unfold jr;simp[dF]
 by_cases a:x.kind=1
 .by_cases c1:1<=x.id
  .by_cases c2:x.id<=10000000
   .simp[a,c1,c2];refine aO.intro (λ_=>e) ?_
    by_cases c3:fj x.lits 100000=0
    .simp[c3];refine aO.intro (λ_=>c) ?_;simp
    .simp[c3];refine aO.intro (r:=.pv (BL false)) (λh:False=>h.elim) ?_;simp
   .simp[a,c1,c2];refine aO.intro (r:=.pv (af 0)) (λh:False=>h.elim) ?_;simp;refine aO.intro (r:=.pv (BL false)) (λh:False=>h.elim) ?_;simp
  .simp[a,c1];refine aO.intro (r:=.pv (af 0)) (λh:False=>h.elim) ?_;simp;refine aO.intro (r:=.pv (BL false)) (λh:False=>h.elim) ?_;simp
 .by_cases b:x.kind=2
  .by_cases c1:0<=x.id
   .by_cases c2:x.id<=10000000
    .by_cases c3:x.lits=[]
     .simp[a,b,c1,c2,c3];refine aO.intro (λ_=>d) ?_;simp
     .simp[a,b,c1,c2,c3];refine aO.intro (r:=.pv (BL false)) (λh:False=>h.elim) ?_;simp
    .simp[a,b,c1,c2];refine aO.intro (r:=.pv (BL false)) (λh:False=>h.elim) ?_;simp
   .simp[a,b,c1];refine aO.intro (r:=.pv (BL false)) (λh:False=>h.elim) ?_;simp
  .simp[a,b]
theorem GT(x:Stp)(b:x.lits.length<=1000000):am Tryz.prog 138 [.agg (dF x)] (λr=>r=.pv (BL (!jr x))):=by
 refine ao aD Tryz.func138 ?_;have a:=JM x b;simp only[dF]at a;simp[dF];refine ah.intro a ?_;simp
theorem JN(l:List Stp)(f:l.length<=1000000)(hx:∀x∈l,x.lits.length<=1000000):am Tryz.prog 137 [.seq false 4 (l.map dF),.lit (.func (.func 138) #[] #[])] (λr=>r=.pv (af (gG (λx=>!jr x) l))):=by
 refine ao aD Tryz.func137 ?_;simp;refine aH.intro (S:=λ(i:Nat)=>⟨[(0,.pv (.seq false 4 (l.map dF))),(1,.pv (.lit (.func (.func 138) #[] #[]))),(7,.pv (af l.length)),(8,.pv (af i))],[]⟩) (λi=>i<=l.length∧∀j (hj:j<l.length),j<i->(!jr l[j])=false) (λi=>l.length -i) 0 ?_ ⟨Qq _,λj _ h=>by omega⟩ ?_
 .exact ai.keep (by simp) rfl
 .intro i ⟨hi,ho⟩
  by_cases c:i<l.length
  .have d:=eq i;have hx:=GT l[i] (hx _ (Qe c));simp only[dF]at hx;simp[c,dF];refine ah.intro hx ?_;cases a:jr l[i]
   .simp;rw[gx c ho (by simp[a])]
   .simp;refine⟨i+1,by dsimp only;omega,⟨by omega,λj hj b=>?_⟩,ai.keep (by simp[d,dF]) rfl⟩
    by_cases e:j=i
    .subst e;simp[a]
    .simpa using ho j hj (by omega)
  .simp[c];rw[eJ (λj hj=>ho j hj (by omega))]
def ww(l:List Stp):Int:=if 1000000<l.length then 3 else if 0<=gG (λx=>!jr x) l then 2 else 0
def LA(l:List Stp):Int:=if 1000000<l.length then 0 else if 0<=gG (λx=>!jr x) l then gG (λx=>!jr x) l else l.length
theorem DW(l:List Stp)(hx:∀x∈l,x.lits.length<=1000000):am Tryz.prog 79 [.seq false 4 (l.map dF)] (λr=>r=.pv (.tup [af (LA l),af (ww l)])):=by
 refine nE [2,3] aD Tryz.func79 (λ_ _=>results_tmp2 rfl _ _ _) ?_;unfold LA ww
 by_cases c1:1000000<l.length
 .have a:(1000000:Int)<l.length:=by omega
  simp[c1,a]
 .have a:¬(1000000:Int)<l.length:=by omega
  have b:=JN l (by omega) hx;simp[c1,a];refine ah.intro b ?_
  by_cases c2:0<=gG (λx=>!jr x) l
  .simp[c2]
  .simp[c2]
end Go.AX
namespace Go.AX
open Go.Proofs
set_option linter.unusedSimpArgs false
def fC(l:List Int):PV:=.seq true 1 (ab l)
@[simp] theorem PO(l:List (Int×List Int))(k:Int)(y:List Int):fY (aC fC l) k (.seq true 1 (ab y))=aC fC (pt l k y):=ge fC l k y
@[simp] theorem uG(n:Nat):∀l:List (Int×List Int),eU n (aC fC l)
 |[]=>trivial
 |x::l=>⟨aS n _,uG n l⟩
structure Ck where
  m:List (Int×List Int)
  last:Int
  done:Bool
def io(c:Ck):List SV:=[.omap true (aC fC c.m),.pv (af c.last),.pv (BL c.done)]
def nW(c:Ck)(id:Int)(l:List Int):Ck:=⟨pt c.m id l,id,c.done||decide (l.length=0)⟩
theorem kX(k:Nat)(c:Ck):cT k (io c):=⟨uG k _,trivial,trivial,trivial⟩
theorem yl(h:List (List SV))(b:Nat)(c:Ck)(e:h[b]?=some (io c)):ay Tryz.prog 78 [.ptr b 0] h (λr h'=>h'=h∧r=.pv (BL true)):=by
 refine dY [] [.tmp 2] h (Qc _) (λf=>f) aD Tryz.func78 ?_;obtain⟨d,a⟩:=P7.1 e;simp[a,d,io]
theorem GU(h:List (List SV))(b:Nat)(c:Ck)(e:h[b]?=some (io c)):ay Tryz.prog 36 [.ptr b 0] h (λr h'=>h'=h∧r=.pv (BL c.done)):=by
 refine dY [] [.tmp 2] h (Qc _) (λf=>f) aD Tryz.func36 ?_;obtain⟨d,a⟩:=P7.1 e;have g:=yl h b c e;simp;refine ak.intro g ?_;rintro _ _ ⟨rfl,rfl⟩;simp[a,d,io]
set_option maxRecDepth 16000 in
theorem Cu(h:List (List SV))(b:Nat)(c:Ck)(j:h[b]?=some (io c))(id:Int)(l:List Int)(k:l.length<=1000000):
 ay Tryz.prog 75 [.ptr b 0,af id,.seq false 1 (ab l)] h (λr h'=>h'=h.set b (io (nW c id l))∧r=.pv (.tup [])):=by
 refine dY [] [] (h.set b (io (nW c id l))) (by simp) (λg=>by rw[Qz];exact bX (kX _ _) b g) aD Tryz.func75 ?_;obtain⟨e,a⟩:=P7.1 j;have f:∀x g,(h.set b x)[b]'g=x:=λx g=>by simp
 have i:=ez l k;simp[a,e,io];refine br.intro i ?_
 by_cases d:c.done=true
 .simp[a,e,io,f,d,nW];exact QM (by simp)
 .have d':c.done=false:=by simpa using d
  simp[a,e,io,f,d',nW];exact QM (by simp)
theorem AL:am Tryz.prog 77 [.lit (.slice none 0 0)] (λr=>r=.pv (.lit (.slice none 0 0))):=by
 refine ao aD Tryz.func77 ?_;simp
def fD(l:List Int):PV:=.seq false 1 (ab l)
@[simp] theorem Ps(l:List (Int×List Int))(k:Int):c9 (aC fD l) k=(lk l k).map fD:=fq fD l k
@[simp] theorem DX(n:Nat):∀l:List (Int×List Int),eU n (aC fD l)
 |[]=>trivial
 |x::l=>⟨aS n _,DX n l⟩
@[simp] theorem JO(r:Nat->Nat->PV):∀l:List (Int×List Int),lO r (aC fC l)=aC fD l
 |[]=>rfl
 |x::l=>by
  have:=JO r l;show(x.1,iu r (fC x.2))::lO r (aC fC l)=(x.1,fD x.2)::aC fD l;rw[this];simp[fC,fD]
@[simp] theorem JQ(r:Nat->Nat->PV):∀l:List (Int×List Int),lO r (aC fD l)=aC fD l
 |[]=>rfl
 |x::l=>by
  have:=JQ r l;show(x.1,iu r (fD x.2))::lO r (aC fD l)=(x.1,fD x.2)::aC fD l;rw[this];simp[fD]
abbrev uH(c:Ck):PV:=.iptr 3 [[.amap false (aC fD c.m),af c.last,BL c.done]] 0 0
theorem GV{h:List (List SV)}{b:Nat}{c:Ck}(a:h[b]?=some (io c))(n:Nat):a8 h (n+1) b 0=uH c:=by
 simp[a8,a,io,uH]
def AM(id:Int):Int:=if id<aX (-id)then aX (-id)else id
theorem DY(c:Ck)(id:Int):am Tryz.prog 219 [af id,.iptr 1 [[uH c]] 0 0] (λr=>r=.pv (BL (!(lk c.m (AM id)).isSome))):=by
 refine ao aD Tryz.func219 ?_;simp[AM]
def gU(c:Ck)(ids:List Int):Bool:=ids.all λid=>(lk c.m (AM id)).isSome
theorem ym(c:Ck)(ids:List Int)(d:ids.length<=1000000):am Tryz.prog 143 [uH c,.seq false 1 (ab ids)] (λr=>r=.pv (BL (gU c ids))):=by
 refine ao aD Tryz.func143 ?_;have a:=dM ids d 219 [.iptr 1 [[uH c]] 0 0] (λid=>!(lk c.m (AM id)).isSome) (λr=>by simp) rfl (λk=>by simp) (λx _=>DY c x);have b:gU c ids=!(ids.any λid=>!(lk c.m (AM id)).isSome):=by
  unfold gU;rw[List.not_any_eq_all_not];simp
 simp[a8];refine ah.intro a ?_;rw[b];simp
theorem LB(g:List (List SV))(c:Ck)(id:Int):ay Tryz.prog 221 [uH c,af id] g (λr g'=>g'=g∧r=.pv (.seq false 1 (ab ((lk c.m id).getD [])))):=by
 refine fh [] [.tmp 4] aD Tryz.func221 ?_;cases e:lk c.m id with
 |none=>simp[e,bI,ab]
 |some l=>simp[e,bI,fD]
def cJ(c:Ck)(ids:List Int):List (List Int):=ids.map λid=>(lk c.m id).getD []
set_option maxRecDepth 16000 in
theorem sr(g:List (List SV))(c:Ck)(ids:List Int)(n:ids.length<=1000000):ay Tryz.prog 222 [.seq false 1 (ab ids),.fn (.func 221) [uH c] []] g (λr g'=>g'=g∧r=.pv (.seq true 1 ((cJ c ids).map az))):=by
 refine fh [] [.tmp 4] aD Tryz.func222 ?_;obtain⟨Q,a⟩:∃Q:Nat->List (List Int),∀i,Q i=(cJ c ids).take i:=⟨_,λ_=>rfl⟩;have d:∀i,(Q i).length<=i:=λi=>by rw[a,Qg];omega
 simp;refine aH.intro (S:=λ(i:Nat)=>⟨[(1,.pv (.fn (.func 221) [uH c] [])),(5,.own true 1 ((Q i).map az)),(8,.pv (.seq false 1 (ab ids))),(9,.pv (af ids.length)),(10,.pv (af i))],g⟩) (λi=>i<=ids.length) (λi=>ids.length -i) 0 ?_ (Qq _) ?_
 .exact(ai.nilOwn (s:=5) 1 true (by simp)).trans (ai.keep (by simp[a]) rfl)
 intro i hi
 by_cases h:i<ids.length
 .have l:=eq i;have f:=λg=>LB g c ids[i];have e:Q (i+1)=Q i++[(lk c.m ids[i]).getD []]:=by
   rw[a,a,Rf (by unfold cJ;rw[Ql];exact h)];simp[cJ]
  have k:=d i;simp[h];refine ah.introM (f _) ?_;rintro _ _ ⟨rfl,rfl⟩;simp;refine⟨by omega,i+1,by(try dsimp only);omega,by(try dsimp only);omega,ai.keep (by simp[l,e,az]) (by simp)⟩
 .have j:i=ids.length:=by omega
  subst j;have b:Q ids.length=cJ c ids:=by rw[a];exact QM (by unfold cJ;simp)
  simp[b,bI,bG]
end Go.AX
namespace Go.AX
set_option maxRecDepth 16000
open Go.Proofs
set_option linter.unusedSimpArgs false
theorem DZ(l:List Int)(x:Int)(c:l.length<=1000000):am Tryz.prog 314 [.seq false 1 (ab l),af x] (λr=>r=.pv (af (bu l x))):=by
 refine ao aD Tryz.func314 ?_;have a:=er l x (by omega);have b:=er l (aX (-x)) (by omega);simp;refine ah.intro (aG x) ?_;cases ho:cK x
 .have hz:ae x=0:=by rw[jF];exact ho
  rw[yf l x ho];simp[hz]
 .have hz:ae x≠0:=λe=>by rw[jF]at e;rw[ho]at e;cases e
  rw[pQ l x ho];unfold kU;simp[hz];refine ah.intro a ?_
  by_cases c1:x∈l
  .simp[c1]
  .simp[c1];refine ah.intro b ?_
   by_cases c2:aX (-x)∈l
   .simp[c2]
   .simp[c2]
def kY(cs:List (List Int))(p:Int):Nat->List Int
 |0=>[]
 |i+1=>if lC p≠0∧ku (cs.getD i []) (lC p)=true then kY cs p i++[(i:Int)]else kY cs p i
theorem su(cs:List (List Int))(p:Int):∀i,(kY cs p i).length<=i
 |0=>by simp[kY]
 |i+1=>by
  have:=su cs p i;rw[kY];split
  .simp;omega
  .omega
theorem mK:∀l:List (List PV),Dy l l
 |[]=>trivial
 |x::l=>⟨mD x,mK l⟩
def GW(p:Int)(o:Option (List Int))(x:Int):Option (List Int):=
 o.bind λout=>if ae x=0∨x=lC p then some out else if bu out x=1 then none else if bu out x=0 then some (out++[aX (-x)])else some out
def yn(l c:List Int)(p:Int)(i:Nat):Option (List Int):=(c.take i).foldl (GW p) (some l)
def AN(l c:List Int)(p:Int)(hs:List (List Int)):Int:=match yn l c p c.length with
 |none=>0
 |some out=>if(eM out hs 0).2.2≠0 then 24 else 0
theorem uI(p:Int):∀c:List Int,c.foldl (GW p) none=none
 |[]=>rfl
 |x::c=>uI p c
theorem D4{l c:List Int}{p:Int}{i:Nat}(h:yn l c p i=none)(hi:i<=c.length):yn l c p c.length=none:=by
 unfold yn at h⊢;have:c.take c.length=c.take i++c.drop i:=by rw[QO,Q7]
 rw[this,UB,h];exact uI p _
theorem D5(g:List (List SV))(l c:List Int)(p:Int)(hs:List (List Int))(w:l.length+c.length+hs.length<=1000000)(u:∀h∈hs,h.length<=1000000):ay Tryz.prog 274 [.seq false 1 (ab l),.seq false 1 (ab c),af p,.seq false 1 (hs.map az)] g (λr g'=>g'=g∧r=.pv (af (AN l c p hs))):=by
 refine fh [] [.tmp 8] aD Tryz.func274 ?_;have o:=ez l (by omega);have b:AN l c p hs=match yn l c p c.length with
  |none=>0
  |some out=>if(eM out hs 0).2.2≠0 then 24 else 0:=rfl
 generalize AN l c p hs=E at*;simp;refine ah.intro o ?_;simp;refine aH.intro (S:=λ(x:Nat×List Int)=>⟨[(2,.pv (af p)),(3,.pv (.seq false 1 (hs.map az))),(9,.own true 1 (ab x.2)),(17,.pv (.seq false 1 (ab c))),(18,.pv (af c.length)),(19,.pv (af x.1))],g⟩) (λx=>x.1<=c.length∧x.2.length<=l.length+x.1∧yn l c p x.1=some x.2) (λx=>c.length -x.1) (0,l) ?_ ⟨Qq _,Qc _,rfl⟩ ?_
 .exact ai.keep (by simp) rfl
 rintro⟨i,out⟩ ⟨hi,f,ho⟩;dsimp only at hi f ho
 by_cases h:i<c.length
 .have m:=eq i;have a:yn l c p (i+1)=GW p (yn l c p i) c[i]:=bs (GW p) (some l) c i h;rw[ho]at a;have t:GW p (some out) c[i]=if ae c[i]=0∨c[i]=lC p then some out else if bu out c[i]=1 then none else if bu out c[i]=0 then some (out++[aX (-c[i])])else some out:=rfl;rw[t]at a;have v:=DZ out c[i] (by omega);have s:=pG p;simp[h];refine ah.intro (aG c[i]) ?_
  by_cases c1:ae c[i]=0
  .rw[Qb (.inl c1)]at a;simp[c1];refine aO.intro (r:=.pv (af 0)) (λh:False=>h.elim) ?_;simp;exact⟨(i+1,out),by(try dsimp only);omega,⟨by(try dsimp only);omega,by(try dsimp only);omega,a⟩,ai.keep (by simp[m]) (by simp)⟩
  simp[c1];refine aO.intro (λ_=>s) ?_
  by_cases c2:c[i]=lC p
  .rw[Qb (.inr c2)]at a;simp[c2];exact⟨(i+1,out),by(try dsimp only);omega,⟨by(try dsimp only);omega,by(try dsimp only);omega,a⟩,ai.keep (by simp[m]) (by simp)⟩
  rw[Qa (λe=>e.elim c1 c2)]at a;simp[c2];refine ah.intro v ?_
  by_cases j:bu out c[i]=1
  .rw[Qb j]at a;have hn:=D4 a (by omega);rw[hn]at b;simp only at b;subst b;simp[j,bI]
  rw[Qa j]at a
  by_cases k:bu out c[i]=0
  .rw[Qb k]at a;simp[k];exact⟨by omega,(i+1,out++[aX (-c[i])]),by(try dsimp only);omega,⟨by(try dsimp only);omega,by simp;omega,a⟩,ai.keep (by simp[m,ab]) (by simp)⟩
  .rw[Qa k]at a;simp[j,k];exact⟨(i+1,out),by(try dsimp only);omega,⟨by(try dsimp only);omega,by(try dsimp only);omega,a⟩,ai.keep (by simp[m]) (by simp)⟩
 have q:i=c.length:=by omega
 subst q;rw[ho]at b;simp only at b;have n:=λg=>pS g out hs (by omega) u;simp;refine ah.introE (n g) (by simp) rfl (by simp) (by simp) (by simp[Gf,Pq,mK]) ?_;rintro _ _ ⟨rfl,rfl⟩
 by_cases d:(eM out hs 0).2.2=0
 .rw[Qa (by simp[d])]at b;subst b;simp[d,bI]
 .rw[Qb d]at b;subst b;simp[d,bI]
theorem GX(cs:List (List Int))(p:Int)(k:cs.length<=1000000)(g:∀c∈cs,c.length<=1000000):am Tryz.prog 275 [.seq false 1 (cs.map az),af p] (λr=>r=.own true 1 (ab (kY cs p cs.length))):=by
 refine ao aD Tryz.func275 ?_;have b:=pG p;simp;refine aH.intro (S:=λ(i:Nat)=>⟨[(1,.pv (af p)),(5,.own true 1 (ab (kY cs p i))),(9,.pv (.seq false 1 (cs.map az))),(10,.pv (af cs.length)),(11,.pv (af i))],[]⟩) (λi=>i<=cs.length) (λi=>cs.length -i) 0 ?_ (Qq _) ?_
 .exact(ai.nilOwn (s:=5) 1 true (by simp)).trans (ai.keep (by simp[kY,ab]) rfl)
 intro i hi;have hle:=su cs p i
 by_cases h:i<cs.length
 .have d:=eq i;have j:cs.getD i []=cs[i]:=by rw[P9,P8 h];rfl
  have hs:kY cs p (i+1)=if lC p≠0∧ku cs[i] (lC p)=true then kY cs p i++[(i:Int)]else kY cs p i:=by rw[kY,j]
  have f:=F2 cs[i] (lC p) (by have:=g _ (Qe h);omega);simp[h,az];refine ah.intro b ?_
  by_cases c1:lC p=0
  .rw[Qa (λe=>e.1 c1)]at hs;simp[c1];refine aO.intro (r:=.pv (BL false)) (λh:False=>h.elim) ?_;simp;exact⟨i+1,by(try dsimp only);omega,by(try dsimp only);omega,ai.keep (by simp[d,hs,az]) (by simp)⟩
  .simp[c1];refine aO.intro (λ_=>f) ?_
   by_cases c2:ku cs[i] (lC p)=true
   .rw[Qb ⟨c1,c2⟩]at hs;simp[c2];exact⟨by omega,i+1,by(try dsimp only);omega,by(try dsimp only);omega,ai.keep (by simp[d,hs,ab,az]) (by simp)⟩
   .rw[Qa (λe=>c2 e.2)]at hs;simp[c2];exact⟨i+1,by(try dsimp only);omega,by(try dsimp only);omega,ai.keep (by simp[d,hs,az]) (by simp)⟩
 .have a:i=cs.length:=by omega
  subst a;simp
end Go.AX
namespace Go.AX
open Go.Proofs
set_option linter.unusedSimpArgs false
set_option maxRecDepth 16000 in
theorem wx(l:List Int)(lo:Int)(s:l.length<=140737488355328):am Tryz.prog 83 [.seq false 1 (ab l),af lo] (λr=>r=.pv (BL (mc l lo))):=by
 refine ao aD Tryz.func83 ?_;simp;refine aH.intro (S:=λ(i:Nat)=>⟨[(0,.pv (.seq false 1 (ab l))),(1,.pv (af lo)),(5,.pv (af i))],[]⟩) (λi=>i<=l.length∧∀m (_:m<l.length),m<i->sq lo l[m]=false) (λi=>l.length -i) 0 ?_ ⟨Qq _,λm _ h=>by omega⟩ ?_
 .exact ai.keep (by simp) rfl
 rintro i ⟨hi,ho⟩
 by_cases h:i<l.length
 .have p:=eq i;have d:l[i]?=some l[i]:=P8 h;cases c:sq lo l[i]
  .have g:=c;unfold sq at g;simp only[S4,RS]at g;obtain⟨⟨c1,c2⟩,c3⟩:=g;have a:lo<=l[i]:=by omega
   have b:l[i]<=10000000:=by omega
   simp[h,d,c1,c2,c3,a,b];refine⟨i+1,by(try dsimp only);omega,⟨by(try dsimp only);omega,λm h1 q=>?_⟩,ai.keep (by simp[p]) (by simp)⟩
   by_cases e:m=i
   .subst e;exact c
   .exact ho m h1 (by omega)
  .have o:mc l lo=false:=by
    unfold mc;have:(l.any (sq lo))=true:=R7.2 ⟨_,Qe h,c⟩;rw[this];simp
   rw[o];unfold sq at c
   by_cases c1:l[i]<lo
   .have a:¬lo<=l[i]:=by omega
    simp[h,d,c1,a]
   .by_cases c2:10000000<l[i]
    .have b:¬l[i]<=10000000:=by omega
     simp[h,d,c1,c2,b]
    .have c3:l[i]=0:=by simpa[c1,c2]using c
     rw[c3]at c1 c2;simp[h,d,c1,c2,c3]
 .have j:i=l.length:=by omega
  subst j;have n:(l.any (sq lo))=false:=Sa.2 λx hx=>by
   obtain⟨m,k,rfl⟩:=Qm hx;simp[ho m k k]
  unfold mc;rw[n]
  by_cases c:l.length<=1000
  .have f:(l.length:Int)<=1000:=by omega
   simp[c,f]
  .have f:¬(l.length:Int)<=1000:=by omega
   simp[c,f]
def lr(v:Int):List (List Int)->Nat->Int×Int
 |[],i=>(i,0)
 |c::L,i=>if fj c v≠0 then(i,fj c v)else if iK c=true then(i,11)else lr v L (i+1)
def lG(v:Int)(L:List (List Int)):Int×Int:=if v<0∨100000<v then(0,2)else if 1000000<L.length then(0,3)else lr v L 0
theorem AV(v:Int){L:List (List Int)}{i:Nat}(h:i<L.length):lr v (L.drop i) i=if fj L[i] v≠0 then((i:Int),fj L[i] v)else if iK L[i]=true then((i:Int),11)else lr v (L.drop (i+1)) (i+1):=by
 rw[QU h,lr]
theorem Eb(v:Int)(L:List (List Int)):lr v (L.drop L.length) L.length=((L.length:Int),0):=by
 rw[QK (Qc _),lr]
set_option maxRecDepth 16000 in
theorem wy(v:Int)(L:List (List Int))(k:∀c∈L,c.length<=1000000):am Tryz.prog 62 [.agg [af v,.seq false 1 (L.map az)]] (λr=>r=.pv (.tup [af (lG v L).1,af (lG v L).2])):=by
 refine nE [2,3] aD Tryz.func62 (λ_ _=>results_tmp2 rfl _ _ _) ?_;have b:lG v L=if v<0∨100000<v then(0,2)else if 1000000<L.length then(0,3)else lr v (L.drop 0) 0:=rfl;generalize lG v L=S at*
 by_cases h1:v<0
 .rw[Qb (.inl h1)]at b;subst b;simp[h1]
 by_cases f:100000<v
 .rw[Qb (.inr f)]at b;subst b;simp[h1,f]
 rw[Qa (λe=>e.elim h1 f)]at b
 by_cases g:1000000<L.length
 .have d:(1000000:Int)<(L.length:Int):=by omega
  rw[Qb g]at b;subst b;simp[h1,f,g,d]
 rw[Qa g]at b;have d:¬(1000000:Int)<(L.length:Int):=by omega
 simp[h1,f,g,d];refine aH.intro (S:=λ(i:Nat)=>⟨[(1,.pv (.ptr 0 0)),(22,.pv (.seq false 1 (L.map az))),(23,.pv (af L.length)),(24,.pv (af i))],[[.pv (af v),.pv (.seq false 1 (L.map az))]]⟩) (λi=>i<=L.length∧S=lr v (L.drop i) i) (λi=>L.length -i) 0 ?_ ⟨Qq _,b⟩ ?_
 .exact ai.keep (by simp) (by simp)
 rintro i ⟨hi,a⟩
 by_cases h:i<L.length
 rotate_left
 .have j:i=L.length:=by omega
  subst j;rw[Eb]at a;subst a;simp
 have l:=eq i;rw[AV v h]at a;have o:=k _ (Qe h);have m:=nM L[i] v (by omega);have n:=v6 L[i] (by omega);simp[h,az];refine ah.intro m ?_
 by_cases c1:fj L[i] v=0
 .rw[Qa (by simp[c1])]at a;simp[c1];refine ah.intro n ?_
  by_cases c2:iK L[i]=true
  .rw[Qb c2]at a;subst a;simp[c2]
  .rw[Qa c2]at a;simp[c2];exact⟨i+1,by(try dsimp only);omega,⟨by(try dsimp only);omega,a⟩,ai.keep (by simp[l,az]) (by simp[az])⟩
 .rw[Qb c1]at a;subst a;simp[c1]
end Go.AX