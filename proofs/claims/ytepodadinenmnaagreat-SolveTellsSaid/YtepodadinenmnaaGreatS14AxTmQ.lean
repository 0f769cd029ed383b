/-
  Contracts: proof.Split: hints, parted; and what follows.
-/
import Derived.Test.YtepodadinenmnaaGreatS14AxTmB
import Derived.Test.YtepodadinenmnaaGreatAxFz
set_option linter.unusedSimpArgs false
namespace Go.AX
open Go.Proofs
def qD(x:List Int×List (List Int))(h:Int):List Int×List (List Int):=
 if h<0 then(x.1,x.2++[[h]])else if x.2=[]then(x.1++[h],x.2)else(x.1,x.2.dropLast++[x.2.getLastD []++[h]])
def eJ(hs:List Int)(i:Nat):List Int×List (List Int):=(hs.take i).foldl qD ([],[])
def kb(hs:List Int):List Int×List (List Int):=eJ hs hs.length
structure Bs where
  b:Nat
  n:Nat
  cap:Nat
def Sp(l:List Int):List SV:=l.map λx=>.pv (ab x)
structure BsOk (h:List (List SV)) (e:Bs) (l:List Int):Prop where
  n:e.n=l.length
  cap:e.n<=e.cap
  at':∃sp,h[e.b]?=some (Sp l++sp)∧sp.length=e.cap -e.n
theorem I9(x:List Int×List (List Int))(h:Int):(qD x h).1.length+(qD x h).2.length<=x.1.length+x.2.length+1∧∀l∈(qD x h).2,∃l',(l'=[]∨l'∈x.2)∧l.length<=l'.length+1:=by
 unfold qD;split
 .refine⟨by simp;omega,λl a=>?_⟩;rcases Te.1 a with a|a
  .exact⟨l,.inr a,by omega⟩
  .rw[TA]at a;subst a;exact⟨[],.inl rfl,by simp⟩
 .split
  .exact⟨by simp;omega,λl a=>⟨l,.inr a,by omega⟩⟩
  .rename_i b;have hp:=UG.2 b;refine⟨by simp;omega,λl a=>?_⟩;rcases Te.1 a with a|a
   .exact⟨l,.inr (XF _ a),by omega⟩
   .rw[TA]at a;subst a;refine⟨x.2.getLastD [],.inr ?_,by simp⟩;rw[Xg,List.getLast?_eq_some_getLast b];exact List.getLast_mem b
theorem gE(hs:List Int){i:Nat}(h:i<hs.length):eJ hs (i+1)=qD (eJ hs i) hs[i]:=bL qD ([],[]) hs i h
theorem vZ(hs:List Int):∀i,i<=hs.length->(eJ hs i).1.length+(eJ hs i).2.length<=i∧∀l∈(eJ hs i).2,l.length<=i
 |0,_=>by simp[eJ]
 |i+1,h=>by
  obtain⟨h1,b⟩:=vZ hs i (by omega);obtain⟨f,c⟩:=I9 (eJ hs i) hs[i];rw[gE hs (by omega)];refine⟨by omega,λl e=>?_⟩;obtain⟨l',a,d⟩:=c l e;rcases a with rfl|a
  .simp at d;omega
  .have:=b l' a;omega
theorem BsOk.app{h:List (List SV)}{e:Bs}{l:List Int}(a:BsOk h e l)(c:e.b<h.length)(B:List (List SV)):BsOk (h++B) e l:=⟨a.n,a.cap,by
 obtain⟨sp,h1,d⟩:=a.at';exact⟨sp,by rw[SZ c];exact h1,d⟩⟩
structure Stp where
  kind:Int
  id:Int
  lits:List Int
  hints:List Int
instance:Inhabited Stp:=⟨⟨0,0,[],[]⟩⟩
def dX(x:Stp):List PV:=[ab x.kind,ab x.id,.seq false 1 (ae x.lits),.seq false 1 (ae x.hints)]
@[simp] theorem Ng(k:Nat)(l:List Stp):bI k (l.map dX):=by
 induction l with
 |nil=>trivial
 |cons x xs a=>exact⟨⟨trivial,trivial,aU k _,aU k _,trivial⟩,a⟩
@[simp] theorem O2(r:Nat->Nat->PV)(l:List Stp):jN r (l.map dX)=l.map dX:=by
 rw[bP,TX];apply UW;intro x _;simp[dX]
def uO(lo n:Int):Bool:=decide (n<lo)||decide (10000000<n)||decide (n=0)
def gp(l:List Int)(lo:Int):Bool:=decide (l.length<=1000)&&!(l.any (uO lo))
def fQ(x:Stp):Bool:=
 if x.kind=1 then decide (1<=x.id)&&(decide (x.id<=10000000)&&(decide (fj x.lits 100000=0)&&gp x.hints (-10000000)))
 else if x.kind=2 then decide (0<=x.id)&&(decide (x.id<=10000000)&&(decide (x.lits.length=0)&&gp x.hints 1))else false
def zV(l:List Stp):Int:=if 1000000<l.length then 3 else if 0<=iP (λx=>!fQ x) l then 2 else 0
structure Ck where
  m:List (Int×List Int)
  last:Int
  done:Bool
def qE(c:Ck)(id:Int)(l:List Int):Ck:=⟨pt c.m id l,id,c.done||decide (l.length=0)⟩
theorem Cv:aj Tryz.prog 77 [.lit (.slice none 0 0)] (λr=>r=.pv (.lit (.slice none 0 0))):=by
 refine ap aD Tryz.func77 ?_;simp
def Cw(id:Int):Int:=if id<aX (-id)then aX (-id)else id
def jK(c:Ck)(ids:List Int):Bool:=ids.all λid=>(lk c.m (Cw id)).isSome
def bZ(c:Ck)(ids:List Int):List (List Int):=ids.map λid=>(lk c.m id).getD []
def lJ(cs:List (List Int))(p:Int):Nat->List Int
 |0=>[]
 |i+1=>if l8 p≠0∧fA (cs.getD i []) (l8 p)=true then lJ cs p i++[(i:Int)]else lJ cs p i
theorem tM(cs:List (List Int))(p:Int):∀i,(lJ cs p i).length<=i
 |0=>by simp[lJ]
 |i+1=>by
  have:=tM cs p i;rw[lJ];split
  .simp;omega
  .omega
theorem qF:∀l:List (List PV),tq l l
 |[]=>trivial
 |x::l=>⟨jS x,qF l⟩
def Ja(p:Int)(o:Option (List Int))(x:Int):Option (List Int):=
 o.bind λout=>if af x=0∨x=l8 p then some out else if bK out x=1 then none else if bK out x=0 then some (out++[aX (-x)])else some out
def zW(l c:List Int)(p:Int)(i:Nat):Option (List Int):=(c.take i).foldl (Ja p) (some l)
def Cx(l c:List Int)(p:Int)(hs:List (List Int)):Int:=match zW l c p c.length with
 |none=>0
 |some out=>if(eV out hs 0).2.2≠0 then 24 else 0
theorem v6(p:Int):∀c:List Int,c.foldl (Ja p) none=none
 |[]=>rfl
 |x::c=>v6 p c
theorem Gg{l c:List Int}{p:Int}{i:Nat}(h:zW l c p i=none)(hi:i<=c.length):zW l c p c.length=none:=by
 unfold zW at h⊢;have:c.take c.length=c.take i++c.drop i:=by rw[Tw,T7]
 rw[this,VW,h];exact v6 p _
end Go.AX
namespace Go.AX
set_option maxRecDepth 16000
open Go.Proofs
theorem uP(g:List (List SV))(l c:List Int)(p:Int)(hs:List (List Int))(y:l.length+c.length+hs.length<=1000000)(v:∀h∈hs,h.length<=1000000):aA Tryz.prog 311 [.seq false 1 (ae l),.seq false 1 (ae c),ab p,.seq false 1 (hs.map aq)] g (λr g'=>g'=g∧r=.pv (ab (Cx l c p hs))):=by
 refine d7 [] [.tmp 8] aD Tryz.func311 ?_;have b:Cx l c p hs=match zW l c p c.length with
  |none=>0
  |some out=>if(eV out hs 0).2.2≠0 then 24 else 0:=rfl
 generalize Cx l c p hs=E at*;simp;refine⟨by omega,?_⟩;refine ax.intro (S:=λ(x:Nat×List Int)=>⟨[(2,.pv (ab p)),(3,.pv (.seq false 1 (hs.map aq))),(1,.pv (.seq false 1 (ae c))),(9,.own true 1 (ae x.2)),(10,.pv (ab x.1))],g⟩) (λx=>x.1<=c.length∧x.2.length<=l.length+x.1∧zW l c p x.1=some x.2) (λx=>c.length -x.1) (0,l) ?_ ⟨Tf _,SY _,rfl⟩ ?_
 .exact ah.keep (by simp) rfl
 rintro⟨i,out⟩ ⟨hi,k,ho⟩;dsimp only at hi k ho
 by_cases h:i<c.length
 .have o:=dv i;have a:zW l c p (i+1)=Ja p (zW l c p i) c[i]:=bL (Ja p) (some l) c i h;rw[ho]at a;have u:Ja p (some out) c[i]=if af c[i]=0∨c[i]=l8 p then some out else if bK out c[i]=1 then none else if bK out c[i]=0 then some (out++[aX (-c[i])])else some out:=rfl;rw[u]at a;have w:=gU out c[i] (by omega);have t:=vE p;have hz:af c[i]=0↔aV c[i]<0:=by rw[vI,Ij]
  simp[h];refine ai.intro (dH c[i]) ?_
  by_cases c1:af c[i]=0
  .rw[SX (.inl c1)]at a;have f:=hz.1 c1;have j:¬0<=aV c[i]:=by omega
   simp[f,j];refine bf.intro (r:=.pv (ab 0)) (λh:False=>h.elim) ?_;simp;exact⟨(i+1,out),by(try dsimp only);omega,⟨by(try dsimp only);omega,by(try dsimp only);omega,a⟩,ah.keep (by simp[o]) (by simp)⟩
  have f:¬aV c[i]<0:=λe=>c1 (hz.2 e);have j:0<=aV c[i]:=by omega
  simp[f,j];refine bf.intro (λ_=>t) ?_
  by_cases c2:c[i]=l8 p
  .rw[SX (.inr c2)]at a;simp[c2];exact⟨(i+1,out),by(try dsimp only);omega,⟨by(try dsimp only);omega,by(try dsimp only);omega,a⟩,ah.keep (by simp[o]) (by simp)⟩
  rw[SU (λe=>e.elim c1 c2)]at a;simp[c2];refine ai.intro w ?_
  by_cases m:bK out c[i]=1
  .rw[SX m]at a;have hn:=Gg a (by omega);rw[hn]at b;simp only at b;subst b;simp[m,bB]
  rw[SU m]at a
  by_cases n:bK out c[i]=0
  .rw[SX n]at a;simp[n];exact⟨by omega,(i+1,out++[aX (-c[i])]),by(try dsimp only);omega,⟨by(try dsimp only);omega,by simp;omega,a⟩,ah.keep (by simp[o,ae]) (by simp)⟩
  .rw[SU n]at a;simp[m,n];exact⟨(i+1,out),by(try dsimp only);omega,⟨by(try dsimp only);omega,by(try dsimp only);omega,a⟩,ah.keep (by simp[o]) (by simp)⟩
 have s:i=c.length:=by omega
 subst s;rw[ho]at b;simp only at b;have q:=λg=>lI g out hs (by omega) v;simp;refine ai.introE (q g) (by simp) rfl (by simp) (by simp) (by simp[Iz,R1,qF]) ?_;rintro _ _ ⟨rfl,rfl⟩
 by_cases d:(eV out hs 0).2.2=0
 .rw[SU (by simp[d])]at b;subst b;simp[d,bB]
 .rw[SX d]at b;subst b;simp[d,bB]
theorem xQ(cs:List (List Int))(p:Int)(m:cs.length<=1000000)(k:∀c∈cs,c.length<=1000000):aj Tryz.prog 310 [.seq false 1 (cs.map aq),ab p] (λr=>r=.own true 1 (ae (lJ cs p cs.length))):=by
 refine ap aD Tryz.func310 ?_;simp;refine ax.intro (S:=λ(i:Nat)=>⟨[(0,.pv (.seq false 1 (cs.map aq))),(1,.pv (ab p)),(5,.own true 1 (ae (lJ cs p i))),(6,.pv (ab i))],[]⟩) (λi=>i<=cs.length) (λi=>cs.length -i) 0 ?_ (Tf _) ?_
 .exact(ah.nilOwn (s:=5) 1 true (by simp)).trans (ah.keep (by simp[lJ,ae]) rfl)
 intro i hi;have hle:=tM cs p i
 by_cases h:i<cs.length
 .have f:=dv i;have l:cs.getD i []=cs[i]:=by rw[SS,SR h];rfl
  have hs:lJ cs p (i+1)=if l8 p≠0∧fA cs[i] (l8 p)=true then lJ cs p i++[(i:Int)]else lJ cs p i:=by rw[lJ,l]
  have g:cs[i]?=some cs[i]:=SR h;simp[h,aq];refine ai.intro (dH p) ?_;cases ho:cF p
  .have hn:l8 p=0:=by unfold l8;rw[SU (by simp[ho])]
   have hx:¬0<=aV p:=by rw[lA];simp[ho]
   have a:aV p<0:=by omega
   rw[SU (λe=>e.1 hn)]at hs;simp[hx,a,g,aq];refine bf.intro (r:=.pv (BL false)) (λh:False=>h.elim) ?_;simp;exact⟨i+1,by(try dsimp only);omega,by(try dsimp only);omega,ah.keep (by simp[f,hs,aq]) (by simp)⟩
  .have n:=(aY p).1 ho;have hn:l8 p=aX (-p):=by unfold l8;rw[SX ho,ao (by omega) (by omega)]
   have b:l8 p≠0:=by rw[hn,ao (by omega) (by omega)];omega
   have hx:0<=aV p:=by rw[lA];exact ho
   have a:¬aV p<0:=by omega
   have j:=oE cs[i] (aX (-p)) (by have:=k _ (S5 h);omega);rw[hn]at hs b;simp[hx,a,h,g,aq];refine bf.intro (λ_=>j) ?_
   by_cases c2:fA cs[i] (aX (-p))=true
   .rw[SX ⟨b,c2⟩]at hs;simp[c2];exact⟨by omega,i+1,by(try dsimp only);omega,by(try dsimp only);omega,ah.keep (by simp[f,hs,ae,aq]) (by simp)⟩
   .rw[SU (λe=>c2 e.2)]at hs;simp[c2];exact⟨i+1,by(try dsimp only);omega,by(try dsimp only);omega,ah.keep (by simp[f,hs,aq]) (by simp)⟩
 .have d:i=cs.length:=by omega
  subst d;simp
end Go.AX
namespace Go.AX
open Go.Proofs
def SO(hs:List Int)(k:Nat):Nat:=(hs.take k).countP λh=>decide (h<0)
theorem qG(hs:List Int){k:Nat}(hk:k<hs.length)(hn:hs[k]<0):∀j,k<j->(hj:j<=hs.length)->(∀m (_:m<hs.length),k<m->m<j->¬hs[m]<0)->eJ hs j=((eJ hs k).1,(eJ hs k).2++[(hs.take j).drop k])
 |0,h,_,_=>by omega
 |j+1,h,hj,c=>by
  by_cases e:j=k
  .subst e;rw[gE hs hk];unfold qD;rw[SX hn,←U7 hk,Ua (by rw[S6];omega),Tq (by rw[S6];omega)];rfl
  .have f:=qG hs hk hn j (by omega) (by omega) (λm h1 d g=>c m h1 d (by omega));have a:j<hs.length:=by omega
   have b:=c j a (by omega) (by omega);rw[gE hs a,f];unfold qD;rw[SU b];simp only;rw[SU (by simp),←U7 a,Ua (by rw[S6];omega)];simp[Xg]
theorem qH(hs:List Int):∀j,j<=hs.length->(∀m (_:m<hs.length),m<j->¬hs[m]<0)->eJ hs j=(hs.take j,[])
 |0,_,_=>by simp[eJ]
 |j+1,h,b=>by
  have a:j<hs.length:=by omega
  rw[gE hs a,qH hs j (by omega) (λm h1 c=>b m h1 (by omega))];unfold qD;rw[SU (b j a (by omega)),SX rfl,U7 a]
set_option maxRecDepth 16000 in
theorem uQ(g:List (List SV))(hs:List Int)(T:hs.length<=1000000):aA Tryz.prog 259 [.seq false 1 (ae hs)] g (λr g'=>g'=g∧r=.pv (.tup [.seq false 1 (ae (kb hs).1),.seq true 1 ((kb hs).2.map aq)])):=by
 refine d7 [] [.tmp 2,.tmp 3] aD Tryz.func259 ?_;have B:∀i,i<hs.length->aX ((i:Int)+1)=((i+1:Nat):Int):=λi hi=>by rw[ao (by omega) (by omega)];omega
 simp;refine ax.intro (S:=λ(i:Nat)=>⟨[(0,.pv (.seq false 1 (ae hs))),(4,.pv (ab i))],g⟩) (λi=>i<=hs.length∧∀m (_:m<hs.length),m<i->¬hs[m]<0) (λi=>hs.length -i) 0 ?_ ⟨Tf _,λm _ h=>by omega⟩ ?_
 .exact ah.keep (by simp) rfl
 rintro i ⟨hi,hp⟩
 by_cases h:i<hs.length
 .by_cases c:hs[i]<0
  .have c':¬0<=hs[i]:=by omega
   simp[h,c,c'];obtain⟨A,M⟩:∃A,A=hs.take i:=⟨_,rfl⟩;have E:eJ hs i=(A,[]):=by rw[M];exact qH hs i hi hp
   refine ax.intro (S:=λ(x:Nat×List (List Int))=>⟨[(0,.pv (.seq false 1 (ae hs))),(4,.pv (ab i)),(5,.own true 1 (x.2.map aq)),(6,.pv (ab x.1))],g⟩) (λx=>x.1<=hs.length∧x.2.length<=x.1∧∃e,x.1<=e∧e<=hs.length∧(∀m (_:m<hs.length),x.1<=m->m<e->0<=hs[m])∧(∀_:e<hs.length,hs[e]<0)∧eJ hs e=(A,x.2)) (λx=>hs.length -x.1) (i,[]) ?_ ⟨hi,Tf _,i,SY _,hi,(λm _ h1 v=>by omega),(λq=>by first|exact c|omega),E⟩ ?_
   .exact(ah.nilOwn (s:=5) 1 true (by simp)).trans (ah.keep (by simp) rfl)
   rintro⟨k,R⟩ ⟨hk,F,e,G,w,o,p,b⟩;dsimp only at hk F G w o p b
   by_cases a:k<hs.length
   .by_cases ck:hs[k]<0
    .have I:e=k:=Ts λq=>by have:=o k a (SY _) (by omega);omega
     subst I;simp[a,ck];refine ax.intro (S:=λ(j:Nat)=>⟨[(0,.pv (.seq false 1 (ae hs))),(4,.pv (ab i)),(5,.own true 1 (R.map aq)),(6,.pv (ab e)),(7,.pv (ab j))],g⟩) (λj=>e<j∧j<=hs.length∧∀m (_:m<hs.length),e<m->m<j->0<=hs[m]) (λj=>hs.length -j) (e+1) ?_ ⟨by omega,by omega,λm _ h1 v=>by omega⟩ ?_
     .exact ah.keep (by simp[B e a]) rfl
     rintro j ⟨J,y,t⟩;have l:=qG hs a ck j J y (λm N O a3=>by have:=t m N O a3;omega);rw[b]at l;have d:∀(_:∀_:j<hs.length,hs[j]<0),(e+1)<=hs.length∧(R++[(hs.take j).drop e]).length<=e+1∧∃e',e+1<=e'∧e'<=hs.length∧(∀m (_:m<hs.length),e+1<=m->m<e'->0<=hs[m])∧(∀_:e'<hs.length,hs[e']<0)∧eJ hs e'=(A,R++[(hs.take j).drop e]):=λq=>⟨by omega,by simp;omega,j,by omega,y,λm h1 v C=>t m h1 (by omega) C,q,l⟩;have f:((ae hs).take j).drop e=ae ((hs.take j).drop e):=by unfold ae;rw[VD,UB]
     by_cases u:j<hs.length
     .by_cases D:hs[j]<0
      .have n:¬0<=hs[j]:=by omega
       simp[u,D,n,f];exact⟨⟨by omega,by omega⟩,by omega,(e+1,R++[(hs.take j).drop e]),by(try dsimp only);omega,d (λq=>D),ah.keep (by simp[B e a,aq]) (by simp)⟩
      .have n:0<=hs[j]:=by omega
       simp[u,D,n];refine⟨j+1,by(try dsimp only);omega,⟨by omega,by omega,λm h1 v C=>?_⟩,ah.keep (by simp[B j u]) (by simp)⟩
       by_cases em:m=j
       .subst em;omega
       .have:=t m h1 v (by omega);omega
     .have K:j=hs.length:=by omega
      subst K;simp[f];exact⟨by omega,by omega,(e+1,R++[(hs.take hs.length).drop e]),by(try dsimp only);omega,d (λq=>by omega),ah.keep (by simp[B e a,aq]) (by simp)⟩
    .simp[a,ck];have z:k≠e:=λq=>by subst q;exact ck (p a)
     exact⟨(k+1,R),by(try dsimp only);omega,⟨by(try dsimp only);omega,by(try dsimp only);omega,e,by(try dsimp only);omega,w,(λm h1 v C=>o m h1 (by(try dsimp only at v);omega) C),p,b⟩,ah.keep (by simp[B k a]) (by simp)⟩
   .have z:k=hs.length:=by omega
    have H:e=hs.length:=by omega
    subst z;rw[H]at b;have P:kb hs=(A,R):=b;have L:(ae hs).take i=ae A:=by rw[M];unfold ae;rw[UB]
    rw[P];simp[bB,bc,L]
    try omega
  .have c':0<=hs[i]:=by omega
   simp[h,c,c'];refine⟨i+1,by(try dsimp only);omega,⟨by(try dsimp only);omega,λm h1 v=>?_⟩,ah.keep (by simp[B i h]) (by simp)⟩
   by_cases e:m=i
   .subst e;omega
   .have:=hp m h1 (by omega);omega
 .have Q:i=hs.length:=by omega
  subst Q;simp;obtain⟨A,M⟩:∃A,A=hs.take hs.length:=⟨_,rfl⟩;have E:eJ hs hs.length=(A,[]):=by rw[M];exact qH hs hs.length hi hp
  refine ax.intro (S:=λ(x:Nat×List (List Int))=>⟨[(0,.pv (.seq false 1 (ae hs))),(4,.pv (ab hs.length)),(5,.own true 1 (x.2.map aq)),(6,.pv (ab x.1))],g⟩) (λx=>x.1<=hs.length∧x.2.length<=x.1∧∃e,x.1<=e∧e<=hs.length∧(∀m (_:m<hs.length),x.1<=m->m<e->0<=hs[m])∧(∀_:e<hs.length,hs[e]<0)∧eJ hs e=(A,x.2)) (λx=>hs.length -x.1) (hs.length,[]) ?_ ⟨hi,Tf _,hs.length,SY _,hi,(λm _ h1 v=>by omega),(λq=>by first|exact c|omega),E⟩ ?_
  .exact(ah.nilOwn (s:=5) 1 true (by simp)).trans (ah.keep (by simp) rfl)
  rintro⟨k,R⟩ ⟨hk,F,e,G,w,o,p,b⟩;dsimp only at hk F G w o p b
  by_cases a:k<hs.length
  .by_cases ck:hs[k]<0
   .have I:e=k:=Ts λq=>by have:=o k a (SY _) (by omega);omega
    subst I;simp[a,ck];refine ax.intro (S:=λ(j:Nat)=>⟨[(0,.pv (.seq false 1 (ae hs))),(4,.pv (ab hs.length)),(5,.own true 1 (R.map aq)),(6,.pv (ab e)),(7,.pv (ab j))],g⟩) (λj=>e<j∧j<=hs.length∧∀m (_:m<hs.length),e<m->m<j->0<=hs[m]) (λj=>hs.length -j) (e+1) ?_ ⟨by omega,by omega,λm _ h1 v=>by omega⟩ ?_
    .exact ah.keep (by simp[B e a]) rfl
    rintro j ⟨J,y,t⟩;have l:=qG hs a ck j J y (λm N O a3=>by have:=t m N O a3;omega);rw[b]at l;have d:∀(_:∀_:j<hs.length,hs[j]<0),(e+1)<=hs.length∧(R++[(hs.take j).drop e]).length<=e+1∧∃e',e+1<=e'∧e'<=hs.length∧(∀m (_:m<hs.length),e+1<=m->m<e'->0<=hs[m])∧(∀_:e'<hs.length,hs[e']<0)∧eJ hs e'=(A,R++[(hs.take j).drop e]):=λq=>⟨by omega,by simp;omega,j,by omega,y,λm h1 v C=>t m h1 (by omega) C,q,l⟩;have f:((ae hs).take j).drop e=ae ((hs.take j).drop e):=by unfold ae;rw[VD,UB]
    by_cases u:j<hs.length
    .by_cases D:hs[j]<0
     .have n:¬0<=hs[j]:=by omega
      simp[u,D,n,f];exact⟨⟨by omega,by omega⟩,by omega,(e+1,R++[(hs.take j).drop e]),by(try dsimp only);omega,d (λq=>D),ah.keep (by simp[B e a,aq]) (by simp)⟩
     .have n:0<=hs[j]:=by omega
      simp[u,D,n];refine⟨j+1,by(try dsimp only);omega,⟨by omega,by omega,λm h1 v C=>?_⟩,ah.keep (by simp[B j u]) (by simp)⟩
      by_cases em:m=j
      .subst em;omega
      .have:=t m h1 v (by omega);omega
    .have K:j=hs.length:=by omega
     subst K;simp[f];exact⟨by omega,by omega,(e+1,R++[(hs.take hs.length).drop e]),by(try dsimp only);omega,d (λq=>by omega),ah.keep (by simp[B e a,aq]) (by simp)⟩
   .simp[a,ck];have z:k≠e:=λq=>by subst q;exact ck (p a)
    exact⟨(k+1,R),by(try dsimp only);omega,⟨by(try dsimp only);omega,by(try dsimp only);omega,e,by(try dsimp only);omega,w,(λm h1 v C=>o m h1 (by(try dsimp only at v);omega) C),p,b⟩,ah.keep (by simp[B k a]) (by simp)⟩
  .have z:k=hs.length:=by omega
   have H:e=hs.length:=by omega
   subst z;rw[H]at b;have P:kb hs=(A,R):=b;have L:(ae hs).take hs.length=ae A:=by rw[M];unfold ae;rw[UB]
   rw[P];simp[bB,bc,L]
   try omega
set_option maxRecDepth 16000 in
theorem pS(l:List Int)(lo:Int)(q:l.length<=140737488355328):aj Tryz.prog 83 [.seq false 1 (ae l),ab lo] (λr=>r=.pv (BL (gp l lo))):=by
 refine ap aD Tryz.func83 ?_;simp;refine ax.intro (S:=λ(i:Nat)=>⟨[(0,.pv (.seq false 1 (ae l))),(1,.pv (ab lo)),(5,.pv (ab i))],[]⟩) (λi=>i<=l.length∧∀m (_:m<l.length),m<i->uO lo l[m]=false) (λi=>l.length -i) 0 ?_ ⟨Tf _,λm _ h=>by omega⟩ ?_
 .exact ah.keep (by simp) rfl
 rintro i ⟨hi,ho⟩
 by_cases h:i<l.length
 .have o:=dv i;have d:l[i]?=some l[i]:=SR h;cases c:uO lo l[i]
  .have f:=c;unfold uO at f;simp only[Vp,Un]at f;obtain⟨⟨c1,c2⟩,c3⟩:=f;have a:lo<=l[i]:=by omega
   have b:l[i]<=10000000:=by omega
   simp[h,d,c1,c2,c3,a,b];refine⟨i+1,by(try dsimp only);omega,⟨by(try dsimp only);omega,λm h1 p=>?_⟩,ah.keep (by simp[o]) (by simp)⟩
   by_cases e:m=i
   .subst e;exact c
   .exact ho m h1 (by omega)
  .have n:gp l lo=false:=by
    unfold gp;have:(l.any (uO lo))=true:=UL.2 ⟨_,S5 h,c⟩;rw[this];simp
   rw[n];unfold uO at c
   by_cases c1:l[i]<lo
   .have a:¬lo<=l[i]:=by omega
    simp[h,d,c1,a]
   .by_cases c2:10000000<l[i]
    .have b:¬l[i]<=10000000:=by omega
     simp[h,d,c1,c2,b]
    .have c3:l[i]=0:=by simpa[c1,c2]using c
     rw[c3]at c1 c2;simp[h,d,c1,c2,c3]
 .have g:i=l.length:=by omega
  subst g;have k:(l.any (uO lo))=false:=UE.2 λx hx=>by
   obtain⟨m,j,rfl⟩:=Tc hx;simp[ho m j j]
  unfold gp;rw[k]
  by_cases c:l.length<=1000
  .have c':(l.length:Int)<=1000:=by omega
   simp[c,c']
  .have c':¬(l.length:Int)<=1000:=by omega
   simp[c,c']
end Go.AX
namespace Go.AX
set_option maxRecDepth 16000
open Go.Proofs
def jy(v:Int):List (List Int)->Nat->Int×Int
 |[],i=>(i,0)
 |c::L,i=>if fj c v≠0 then(i,fj c v)else if eY c=true then(i,11)else jy v L (i+1)
def cH(v:Int)(L:List (List Int)):Int×Int:=if v<0∨100000<v then(0,2)else if 1000000<L.length then(0,3)else jy v L 0
theorem tT(v:Int){L:List (List Int)}{i:Nat}(h:i<L.length):jy v (L.drop i) i=if fj L[i] v≠0 then((i:Int),fj L[i] v)else if eY L[i]=true then((i:Int),11)else jy v (L.drop (i+1)) (i+1):=by
 rw[TG h,jy]
theorem wc(v:Int)(L:List (List Int)):jy v (L.drop L.length) L.length=((L.length:Int),0):=by
 rw[Tq (SY _),jy]
theorem El(v:Int)(L:List (List Int))(k:∀c∈L,c.length<=1000000):aj Tryz.prog 62 [.agg [ab v,.seq false 1 (L.map aq)]] (λr=>r=.pv (.tup [ab (cH v L).1,ab (cH v L).2])):=by
 refine mC [2,3] aD Tryz.func62 (λ_ _=>results_tmp2 rfl _ _ _) ?_;have b:cH v L=if v<0∨100000<v then(0,2)else if 1000000<L.length then(0,3)else jy v (L.drop 0) 0:=rfl;generalize cH v L=S at*
 by_cases h1:v<0
 .rw[SX (.inl h1)]at b;subst b;simp[h1]
 by_cases f:100000<v
 .rw[SX (.inr f)]at b;subst b;simp[h1,f]
 rw[SU (λe=>e.elim h1 f)]at b
 by_cases g:1000000<L.length
 .have d:(1000000:Int)<(L.length:Int):=by omega
  rw[SX g]at b;subst b;simp[h1,f,g,d]
 rw[SU g]at b;have d:¬(1000000:Int)<(L.length:Int):=by omega
 simp[h1,f,g,d];refine ax.intro (S:=λ(i:Nat)=>⟨[(1,.pv (.ptr 0 0)),(22,.pv (.seq false 1 (L.map aq))),(23,.pv (ab L.length)),(24,.pv (ab i))],[[.pv (ab v),.pv (.seq false 1 (L.map aq))]]⟩) (λi=>i<=L.length∧S=jy v (L.drop i) i) (λi=>L.length -i) 0 ?_ ⟨Tf _,b⟩ ?_
 .exact ah.keep (by simp) (by simp)
 rintro i ⟨hi,a⟩
 by_cases h:i<L.length
 rotate_left
 .have j:i=L.length:=by omega
  subst j;rw[wc]at a;subst a;simp
 have l:=dv i;rw[tT v h]at a;have o:=k _ (S5 h);have m:=tm L[i] v (by omega);have n:=Ly L[i] (by omega);simp[h,aq];refine ai.intro m ?_
 by_cases c1:fj L[i] v=0
 .rw[SU (by simp[c1])]at a;simp[c1];refine ai.intro n ?_
  by_cases c2:eY L[i]=true
  .rw[SX c2]at a;subst a;simp[c2]
  .rw[SU c2]at a;simp[c2];exact⟨i+1,by(try dsimp only);omega,⟨by(try dsimp only);omega,a⟩,ah.keep (by simp[l,aq]) (by simp[aq])⟩
 .rw[SX c1]at a;subst a;simp[c1]
theorem wd(v:Int)(L:List (List Int))(l:∀c∈L,c.length<=1000000):aj Tryz.prog 73 [.agg [ab v,.seq false 1 (L.map aq)]] (λr=>r=.pv (.tup [ab (cH v L).1,ab (cH v L).2])):=by
 refine mC [2,3] aD Tryz.func73 (λ_ _=>results_tmp2 rfl _ _ _) ?_;have b:cH v L=if v<0∨100000<v then(0,2)else if 1000000<L.length then(0,3)else jy v (L.drop 0) 0:=rfl;generalize cH v L=S at*
 by_cases h1:v<0
 .rw[SX (.inl h1)]at b;subst b;simp[h1]
 by_cases f:100000<v
 .rw[SX (.inr f)]at b;subst b;simp[h1,f]
 rw[SU (λe=>e.elim h1 f)]at b
 by_cases g:1000000<L.length
 .have d:(1000000:Int)<(L.length:Int):=by omega
  rw[SX g]at b;subst b;simp[h1,f,g,d]
 rw[SU g]at b;have d:¬(1000000:Int)<(L.length:Int):=by omega
 simp[h1,f,g,d];refine ax.intro (S:=λ(i:Nat)=>⟨[(1,.pv (.ptr 0 0)),(4,.pv (ab i))],[[.pv (ab v),.pv (.seq false 1 (L.map aq))]]⟩) (λi=>i<=L.length∧S=jy v (L.drop i) i) (λi=>L.length -i) 0 ?_ ⟨Tf _,b⟩ ?_
 .exact ah.keep (by simp) (by simp)
 rintro i ⟨hi,a⟩
 by_cases h:i<L.length
 rotate_left
 .have j:i=L.length:=by omega
  subst j;rw[wc]at a;subst a;simp
 have m:=dv i;rw[tT v h]at a;have p:=l _ (S5 h);have n:=nT L[i] v (by omega);have o:=oF L[i] (by omega);have k:L[i]?=some L[i]:=SR h;simp[h,k,aq];refine bz.intro n ?_
 by_cases c1:fj L[i] v=0
 .rw[SU (by simp[c1])]at a;simp[c1,h,k,aq];refine ai.intro o ?_
  by_cases c2:eY L[i]=true
  .rw[SX c2]at a;subst a;simp[c2]
  .rw[SU c2]at a;simp[c2];exact⟨i+1,by(try dsimp only);omega,⟨by(try dsimp only);omega,a⟩,ah.keep (by simp[m,aq]) (by simp[aq])⟩
 .rw[SX c1]at a;subst a;simp[c1]
end Go.AX