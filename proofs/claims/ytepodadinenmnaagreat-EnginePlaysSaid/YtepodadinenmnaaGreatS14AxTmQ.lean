/-
  Contracts: proof.Split: hints, parted.
  Contracts: proof.Check: steps that may be.
  Contracts: lrat.Checker: what it holds.
  Contracts: lrat.Checker, read only.
  Contracts: rat: candidates.
  Contracts: the document's candidates (layer 9).
  Plain facts: hints, parted by where they are below 0.
  Contracts: the document's Split.
  Contracts: the document's steps: within.
  Contracts: whether a formula may be: the program's, the document's.
-/
import Derived.Test.YtepodadinenmnaaGreatS14AxTmB
import Derived.Test.YtepodadinenmnaaGreatAxFz
namespace Go.AX
open Go.Proofs
set_option linter.unusedSimpArgs false
def qf(x:List Int×List (List Int))(h:Int):List Int×List (List Int):=
 if h<0 then(x.1,x.2++[[h]])else if x.2=[]then(x.1++[h],x.2)else(x.1,x.2.dropLast++[x.2.getLastD []++[h]])
def eU(hs:List Int)(i:Nat):List Int×List (List Int):=(hs.take i).foldl qf ([],[])
def jZ(hs:List Int):List Int×List (List Int):=eU hs hs.length
structure Bs where
  b:Nat
  n:Nat
  cap:Nat
theorem Ib(x:List Int×List (List Int))(h:Int):(qf x h).1.length+(qf x h).2.length<=x.1.length+x.2.length+1∧∀l∈(qf x h).2,∃l',(l'=[]∨l'∈x.2)∧l.length<=l'.length+1:=by
 unfold qf;split
 .refine⟨by simp;omega,λl a=>?_⟩;rcases RI.1 a with a|a
  .exact⟨l,.inr a,by omega⟩
  .rw[Sc]at a;subst a;exact⟨[],.inl rfl,by simp⟩
 .split
  .exact⟨by simp;omega,λl a=>⟨l,.inr a,by omega⟩⟩
  .rename_i b;have hp:=Td.2 b;refine⟨by simp;omega,λl a=>?_⟩;rcases RI.1 a with a|a
   .exact⟨l,.inr (Wa _ a),by omega⟩
   .rw[Sc]at a;subst a;refine⟨x.2.getLastD [],.inr ?_,by simp⟩;rw[VP,List.getLast?_eq_some_getLast b];exact List.getLast_mem b
theorem gy(hs:List Int){i:Nat}(h:i<hs.length):eU hs (i+1)=qf (eU hs i) hs[i]:=bf qf ([],[]) hs i h
theorem vo(hs:List Int):∀i,i<=hs.length->(eU hs i).1.length+(eU hs i).2.length<=i∧∀l∈(eU hs i).2,l.length<=i
 |0,_=>by simp[eU]
 |i+1,h=>by
  obtain⟨h1,b⟩:=vo hs i (by omega);obtain⟨f,c⟩:=Ib (eU hs i) hs[i];rw[gy hs (by omega)];refine⟨by omega,λl e=>?_⟩;obtain⟨l',a,d⟩:=c l e;rcases a with rfl|a
  .simp at d;omega
  .have:=b l' a;omega
structure Stp where
  kind:Int
  id:Int
  lits:List Int
  hints:List Int
instance:Inhabited Stp:=⟨⟨0,0,[],[]⟩⟩
def gA(x:Stp):List PV:=[ae x.kind,ae x.id,.seq false 1 (aa x.lits),.seq false 1 (aa x.hints)]
@[simp] theorem NV(r:Nat->Nat->PV)(l:List Stp):kw r (l.map gA)=l.map gA:=by
 rw[bV,Sz];apply TT;intro x _;simp[gA]
def xe(lo n:Int):Bool:=decide (n<lo)||decide (10000000<n)||decide (n=0)
def jw(l:List Int)(lo:Int):Bool:=decide (l.length<=1000)&&!(l.any (xe lo))
def iO(x:Stp):Bool:=
 if x.kind=1 then decide (1<=x.id)&&(decide (x.id<=10000000)&&(decide (fp x.lits 100000=0)&&jw x.hints (-10000000)))
 else if x.kind=2 then decide (0<=x.id)&&(decide (x.id<=10000000)&&(decide (x.lits.length=0)&&jw x.hints 1))else false
def zj(l:List Stp):Int:=if 1000000<l.length then 3 else if 0<=i7 (λx=>!iO x) l then 2 else 0
structure Ck where
  m:List (Int×List Int)
  last:Int
  done:Bool
def qg(c:Ck)(id:Int)(l:List Int):Ck:=⟨pt c.m id l,id,c.done||decide (l.length=0)⟩
theorem BO:am Tryz.prog 77 [.lit (.slice none 0 0)] (λr=>r=.pv (.lit (.slice none 0 0))):=by
 refine aq aE Tryz.func77 ?_;simp
def BP(id:Int):Int:=if id<aS (-id)then aS (-id)else id
def jH(c:Ck)(ids:List Int):Bool:=ids.all λid=>(lk c.m (BP id)).isSome
def bY(c:Ck)(ids:List Int):List (List Int):=ids.map λid=>(lk c.m id).getD []
def lA(cs:List (List Int))(p:Int):Nat->List Int
 |0=>[]
 |i+1=>if lV p≠0∧d4 (cs.getD i []) (lV p)=true then lA cs p i++[(i:Int)]else lA cs p i
theorem tb(cs:List (List Int))(p:Int):∀i,(lA cs p i).length<=i
 |0=>by simp[lA]
 |i+1=>by
  have:=tb cs p i;rw[lA];split
  .simp;omega
  .omega
theorem qh:∀l:List (List PV),EQ l l
 |[]=>trivial
 |x::l=>⟨mU x,qh l⟩
def Ic(p:Int)(o:Option (List Int))(x:Int):Option (List Int):=
 o.bind λout=>if af x=0∨x=lV p then some out else if bJ out x=1 then none else if bJ out x=0 then some (out++[aS (-x)])else some out
def zk(l c:List Int)(p:Int)(i:Nat):Option (List Int):=(c.take i).foldl (Ic p) (some l)
def BQ(l c:List Int)(p:Int)(hs:List (List Int)):Int:=match zk l c p c.length with
 |none=>0
 |some out=>if(fg out hs 0).2.2≠0 then 24 else 0
theorem vp(p:Int):∀c:List Int,c.foldl (Ic p) none=none
 |[]=>rfl
 |x::c=>vp p c
theorem Fm{l c:List Int}{p:Int}{i:Nat}(h:zk l c p i=none)(hi:i<=c.length):zk l c p c.length=none:=by
 unfold zk at h⊢;have:c.take c.length=c.take i++c.drop i:=by rw[RY,Sy]
 rw[this,Vk,h];exact vp p _
end Go.AX
namespace Go.AX
set_option maxRecDepth 16000
open Go.Proofs
set_option linter.unusedSimpArgs false
theorem uk(g:List (List SV))(l c:List Int)(p:Int)(hs:List (List Int))(y:l.length+c.length+hs.length<=1000000)(v:∀h∈hs,h.length<=1000000):aB Tryz.prog 311 [.seq false 1 (aa l),.seq false 1 (aa c),ae p,.seq false 1 (hs.map ao)] g (λr g'=>g'=g∧r=.pv (ae (BQ l c p hs))):=by
 refine dQ [] [.tmp 8] aE Tryz.func311 ?_;have b:BQ l c p hs=match zk l c p c.length with
  |none=>0
  |some out=>if(fg out hs 0).2.2≠0 then 24 else 0:=rfl
 generalize BQ l c p hs=E at*;simp;refine⟨by omega,?_⟩;refine aw.intro (S:=λ(x:Nat×List Int)=>⟨[(2,.pv (ae p)),(3,.pv (.seq false 1 (hs.map ao))),(1,.pv (.seq false 1 (aa c))),(9,.own true 1 (aa x.2)),(10,.pv (ae x.1))],g⟩) (λx=>x.1<=c.length∧x.2.length<=l.length+x.1∧zk l c p x.1=some x.2) (λx=>c.length -x.1) (0,l) ?_ ⟨RL _,Ry _,rfl⟩ ?_
 .exact ah.keep (by simp) rfl
 rintro⟨i,out⟩ ⟨hi,k,ho⟩;dsimp only at hi k ho
 by_cases h:i<c.length
 .have o:=dr i;have a:zk l c p (i+1)=Ic p (zk l c p i) c[i]:=bf (Ic p) (some l) c i h;rw[ho]at a;have u:Ic p (some out) c[i]=if af c[i]=0∨c[i]=lV p then some out else if bJ out c[i]=1 then none else if bJ out c[i]=0 then some (out++[aS (-c[i])])else some out:=rfl;rw[u]at a;have w:=gQ out c[i] (by omega);have t:=uY p;have hz:af c[i]=0↔aW c[i]<0:=by rw[u9,Hk]
  simp[h];refine ai.intro (dM c[i]) ?_
  by_cases c1:af c[i]=0
  .rw[Rx (.inl c1)]at a;have f:=hz.1 c1;have j:¬0<=aW c[i]:=by omega
   simp[f,j];refine aP.intro (r:=.pv (ae 0)) (λh:False=>h.elim) ?_;simp;exact⟨(i+1,out),by(try dsimp only);omega,⟨by(try dsimp only);omega,by(try dsimp only);omega,a⟩,ah.keep (by simp[o]) (by simp)⟩
  have f:¬aW c[i]<0:=λe=>c1 (hz.2 e);have j:0<=aW c[i]:=by omega
  simp[f,j];refine aP.intro (λ_=>t) ?_
  by_cases c2:c[i]=lV p
  .rw[Rx (.inr c2)]at a;simp[c2];exact⟨(i+1,out),by(try dsimp only);omega,⟨by(try dsimp only);omega,by(try dsimp only);omega,a⟩,ah.keep (by simp[o]) (by simp)⟩
  rw[Rw (λe=>e.elim c1 c2)]at a;simp[c2];refine ai.intro w ?_
  by_cases m:bJ out c[i]=1
  .rw[Rx m]at a;have hn:=Fm a (by omega);rw[hn]at b;simp only at b;subst b;simp[m,bu]
  rw[Rw m]at a
  by_cases n:bJ out c[i]=0
  .rw[Rx n]at a;simp[n];exact⟨by omega,(i+1,out++[aS (-c[i])]),by(try dsimp only);omega,⟨by(try dsimp only);omega,by simp;omega,a⟩,ah.keep (by simp[o,aa]) (by simp)⟩
  .rw[Rw n]at a;simp[m,n];exact⟨(i+1,out),by(try dsimp only);omega,⟨by(try dsimp only);omega,by(try dsimp only);omega,a⟩,ah.keep (by simp[o]) (by simp)⟩
 have s:i=c.length:=by omega
 subst s;rw[ho]at b;simp only at b;have q:=λg=>lz g out hs (by omega) v;simp;refine ai.introE (q g) (by simp) rfl (by simp) (by simp) (by simp[HA,QN,qh]) ?_;rintro _ _ ⟨rfl,rfl⟩
 by_cases d:(fg out hs 0).2.2=0
 .rw[Rw (by simp[d])]at b;subst b;simp[d,bu]
 .rw[Rx d]at b;subst b;simp[d,bu]
theorem xf(cs:List (List Int))(p:Int)(m:cs.length<=1000000)(k:∀c∈cs,c.length<=1000000):am Tryz.prog 310 [.seq false 1 (cs.map ao),ae p] (λr=>r=.own true 1 (aa (lA cs p cs.length))):=by
 refine aq aE Tryz.func310 ?_;simp;refine aw.intro (S:=λ(i:Nat)=>⟨[(0,.pv (.seq false 1 (cs.map ao))),(1,.pv (ae p)),(5,.own true 1 (aa (lA cs p i))),(6,.pv (ae i))],[]⟩) (λi=>i<=cs.length) (λi=>cs.length -i) 0 ?_ (RL _) ?_
 .exact(ah.nilOwn (s:=5) 1 true (by simp)).trans (ah.keep (by simp[lA,aa]) rfl)
 intro i hi;have hle:=tb cs p i
 by_cases h:i<cs.length
 .have f:=dr i;have l:cs.getD i []=cs[i]:=by rw[Rv,Ru h];rfl
  have hs:lA cs p (i+1)=if lV p≠0∧d4 cs[i] (lV p)=true then lA cs p i++[(i:Int)]else lA cs p i:=by rw[lA,l]
  have g:cs[i]?=some cs[i]:=Ru h;simp[h,ao];refine ai.intro (dM p) ?_;cases ho:cE p
  .have hn:lV p=0:=by unfold lV;rw[Rw (by simp[ho])]
   have hx:¬0<=aW p:=by rw[ll];simp[ho]
   have a:aW p<0:=by omega
   rw[Rw (λe=>e.1 hn)]at hs;simp[hx,a,g,ao];refine aP.intro (r:=.pv (BL false)) (λh:False=>h.elim) ?_;simp;exact⟨i+1,by(try dsimp only);omega,by(try dsimp only);omega,ah.keep (by simp[f,hs,ao]) (by simp)⟩
  .have n:=(aY p).1 ho;have hn:lV p=aS (-p):=by unfold lV;rw[Rx ho,ap (by omega) (by omega)]
   have b:lV p≠0:=by rw[hn,ap (by omega) (by omega)];omega
   have hx:0<=aW p:=by rw[ll];exact ho
   have a:¬aW p<0:=by omega
   have j:=iK cs[i] (aS (-p)) (by have:=k _ (Rz h);omega);rw[hn]at hs b;simp[hx,a,h,g,ao];refine aP.intro (λ_=>j) ?_
   by_cases c2:d4 cs[i] (aS (-p))=true
   .rw[Rx ⟨b,c2⟩]at hs;simp[c2];exact⟨by omega,i+1,by(try dsimp only);omega,by(try dsimp only);omega,ah.keep (by simp[f,hs,aa,ao]) (by simp)⟩
   .rw[Rw (λe=>c2 e.2)]at hs;simp[c2];exact⟨i+1,by(try dsimp only);omega,by(try dsimp only);omega,ah.keep (by simp[f,hs,ao]) (by simp)⟩
 .have d:i=cs.length:=by omega
  subst d;simp
end Go.AX
namespace Go.AX
open Go.Proofs
set_option linter.unusedSimpArgs false
def Rs(hs:List Int)(k:Nat):Nat:=(hs.take k).countP λh=>decide (h<0)
theorem qi(hs:List Int){k:Nat}(hk:k<hs.length)(hn:hs[k]<0):∀j,k<j->(hj:j<=hs.length)->(∀m (_:m<hs.length),k<m->m<j->¬hs[m]<0)->eU hs j=((eU hs k).1,(eU hs k).2++[(hs.take j).drop k])
 |0,h,_,_=>by omega
 |j+1,h,hj,c=>by
  by_cases e:j=k
  .subst e;rw[gy hs hk];unfold qf;rw[Rx hn,←TH hk,SI (by rw[RD];omega),R2 (by rw[RD];omega)];rfl
  .have f:=qi hs hk hn j (by omega) (by omega) (λm h1 d g=>c m h1 d (by omega));have a:j<hs.length:=by omega
   have b:=c j a (by omega) (by omega);rw[gy hs a,f];unfold qf;rw[Rw b];simp only;rw[Rw (by simp),←TH a,SI (by rw[RD];omega)];simp[VP]
theorem qj(hs:List Int):∀j,j<=hs.length->(∀m (_:m<hs.length),m<j->¬hs[m]<0)->eU hs j=(hs.take j,[])
 |0,_,_=>by simp[eU]
 |j+1,h,b=>by
  have a:j<hs.length:=by omega
  rw[gy hs a,qj hs j (by omega) (λm h1 c=>b m h1 (by omega))];unfold qf;rw[Rw (b j a (by omega)),Rx rfl,TH a]
set_option maxRecDepth 16000 in
theorem ul(g:List (List SV))(hs:List Int)(T:hs.length<=1000000):aB Tryz.prog 259 [.seq false 1 (aa hs)] g (λr g'=>g'=g∧r=.pv (.tup [.seq false 1 (aa (jZ hs).1),.seq true 1 ((jZ hs).2.map ao)])):=by
 refine dQ [] [.tmp 2,.tmp 3] aE Tryz.func259 ?_;have B:∀i,i<hs.length->aS ((i:Int)+1)=((i+1:Nat):Int):=λi hi=>by rw[ap (by omega) (by omega)];omega
 simp;refine aw.intro (S:=λ(i:Nat)=>⟨[(0,.pv (.seq false 1 (aa hs))),(4,.pv (ae i))],g⟩) (λi=>i<=hs.length∧∀m (_:m<hs.length),m<i->¬hs[m]<0) (λi=>hs.length -i) 0 ?_ ⟨RL _,λm _ h=>by omega⟩ ?_
 .exact ah.keep (by simp) rfl
 rintro i ⟨hi,hp⟩
 by_cases h:i<hs.length
 .by_cases c:hs[i]<0
  .have c':¬0<=hs[i]:=by omega
   simp[h,c,c'];obtain⟨A,M⟩:∃A,A=hs.take i:=⟨_,rfl⟩;have E:eU hs i=(A,[]):=by rw[M];exact qj hs i hi hp
   refine aw.intro (S:=λ(x:Nat×List (List Int))=>⟨[(0,.pv (.seq false 1 (aa hs))),(4,.pv (ae i)),(5,.own true 1 (x.2.map ao)),(6,.pv (ae x.1))],g⟩) (λx=>x.1<=hs.length∧x.2.length<=x.1∧∃e,x.1<=e∧e<=hs.length∧(∀m (_:m<hs.length),x.1<=m->m<e->0<=hs[m])∧(∀_:e<hs.length,hs[e]<0)∧eU hs e=(A,x.2)) (λx=>hs.length -x.1) (i,[]) ?_ ⟨hi,RL _,i,Ry _,hi,(λm _ h1 v=>by omega),(λq=>by first|exact c|omega),E⟩ ?_
   .exact(ah.nilOwn (s:=5) 1 true (by simp)).trans (ah.keep (by simp) rfl)
   rintro⟨k,R⟩ ⟨hk,F,e,G,w,o,p,b⟩;dsimp only at hk F G w o p b
   by_cases a:k<hs.length
   .by_cases ck:hs[k]<0
    .have I:e=k:=RW λq=>by have:=o k a (Ry _) (by omega);omega
     subst I;simp[a,ck];refine aw.intro (S:=λ(j:Nat)=>⟨[(0,.pv (.seq false 1 (aa hs))),(4,.pv (ae i)),(5,.own true 1 (R.map ao)),(6,.pv (ae e)),(7,.pv (ae j))],g⟩) (λj=>e<j∧j<=hs.length∧∀m (_:m<hs.length),e<m->m<j->0<=hs[m]) (λj=>hs.length -j) (e+1) ?_ ⟨by omega,by omega,λm _ h1 v=>by omega⟩ ?_
     .exact ah.keep (by simp[B e a]) rfl
     rintro j ⟨J,y,t⟩;have l:=qi hs a ck j J y (λm N O a3=>by have:=t m N O a3;omega);rw[b]at l;have d:∀(_:∀_:j<hs.length,hs[j]<0),(e+1)<=hs.length∧(R++[(hs.take j).drop e]).length<=e+1∧∃e',e+1<=e'∧e'<=hs.length∧(∀m (_:m<hs.length),e+1<=m->m<e'->0<=hs[m])∧(∀_:e'<hs.length,hs[e']<0)∧eU hs e'=(A,R++[(hs.take j).drop e]):=λq=>⟨by omega,by simp;omega,j,by omega,y,λm h1 v C=>t m h1 (by omega) C,q,l⟩;have f:((aa hs).take j).drop e=aa ((hs.take j).drop e):=by unfold aa;rw[UR,TG]
     by_cases u:j<hs.length
     .by_cases D:hs[j]<0
      .have n:¬0<=hs[j]:=by omega
       simp[u,D,n,f];exact⟨⟨by omega,by omega⟩,by omega,(e+1,R++[(hs.take j).drop e]),by(try dsimp only);omega,d (λq=>D),ah.keep (by simp[B e a,ao]) (by simp)⟩
      .have n:0<=hs[j]:=by omega
       simp[u,D,n];refine⟨j+1,by(try dsimp only);omega,⟨by omega,by omega,λm h1 v C=>?_⟩,ah.keep (by simp[B j u]) (by simp)⟩
       by_cases em:m=j
       .subst em;omega
       .have:=t m h1 v (by omega);omega
     .have K:j=hs.length:=by omega
      subst K;simp[f];exact⟨by omega,by omega,(e+1,R++[(hs.take hs.length).drop e]),by(try dsimp only);omega,d (λq=>by omega),ah.keep (by simp[B e a,ao]) (by simp)⟩
    .simp[a,ck];have z:k≠e:=λq=>by subst q;exact ck (p a)
     exact⟨(k+1,R),by(try dsimp only);omega,⟨by(try dsimp only);omega,by(try dsimp only);omega,e,by(try dsimp only);omega,w,(λm h1 v C=>o m h1 (by(try dsimp only at v);omega) C),p,b⟩,ah.keep (by simp[B k a]) (by simp)⟩
   .have z:k=hs.length:=by omega
    have H:e=hs.length:=by omega
    subst z;rw[H]at b;have P:jZ hs=(A,R):=b;have L:(aa hs).take i=aa A:=by rw[M];unfold aa;rw[TG]
    rw[P];simp[bu,bd,L]
    try omega
  .have c':0<=hs[i]:=by omega
   simp[h,c,c'];refine⟨i+1,by(try dsimp only);omega,⟨by(try dsimp only);omega,λm h1 v=>?_⟩,ah.keep (by simp[B i h]) (by simp)⟩
   by_cases e:m=i
   .subst e;omega
   .have:=hp m h1 (by omega);omega
 .have Q:i=hs.length:=by omega
  subst Q;simp;obtain⟨A,M⟩:∃A,A=hs.take hs.length:=⟨_,rfl⟩;have E:eU hs hs.length=(A,[]):=by rw[M];exact qj hs hs.length hi hp
  refine aw.intro (S:=λ(x:Nat×List (List Int))=>⟨[(0,.pv (.seq false 1 (aa hs))),(4,.pv (ae hs.length)),(5,.own true 1 (x.2.map ao)),(6,.pv (ae x.1))],g⟩) (λx=>x.1<=hs.length∧x.2.length<=x.1∧∃e,x.1<=e∧e<=hs.length∧(∀m (_:m<hs.length),x.1<=m->m<e->0<=hs[m])∧(∀_:e<hs.length,hs[e]<0)∧eU hs e=(A,x.2)) (λx=>hs.length -x.1) (hs.length,[]) ?_ ⟨hi,RL _,hs.length,Ry _,hi,(λm _ h1 v=>by omega),(λq=>by first|exact c|omega),E⟩ ?_
  .exact(ah.nilOwn (s:=5) 1 true (by simp)).trans (ah.keep (by simp) rfl)
  rintro⟨k,R⟩ ⟨hk,F,e,G,w,o,p,b⟩;dsimp only at hk F G w o p b
  by_cases a:k<hs.length
  .by_cases ck:hs[k]<0
   .have I:e=k:=RW λq=>by have:=o k a (Ry _) (by omega);omega
    subst I;simp[a,ck];refine aw.intro (S:=λ(j:Nat)=>⟨[(0,.pv (.seq false 1 (aa hs))),(4,.pv (ae hs.length)),(5,.own true 1 (R.map ao)),(6,.pv (ae e)),(7,.pv (ae j))],g⟩) (λj=>e<j∧j<=hs.length∧∀m (_:m<hs.length),e<m->m<j->0<=hs[m]) (λj=>hs.length -j) (e+1) ?_ ⟨by omega,by omega,λm _ h1 v=>by omega⟩ ?_
    .exact ah.keep (by simp[B e a]) rfl
    rintro j ⟨J,y,t⟩;have l:=qi hs a ck j J y (λm N O a3=>by have:=t m N O a3;omega);rw[b]at l;have d:∀(_:∀_:j<hs.length,hs[j]<0),(e+1)<=hs.length∧(R++[(hs.take j).drop e]).length<=e+1∧∃e',e+1<=e'∧e'<=hs.length∧(∀m (_:m<hs.length),e+1<=m->m<e'->0<=hs[m])∧(∀_:e'<hs.length,hs[e']<0)∧eU hs e'=(A,R++[(hs.take j).drop e]):=λq=>⟨by omega,by simp;omega,j,by omega,y,λm h1 v C=>t m h1 (by omega) C,q,l⟩;have f:((aa hs).take j).drop e=aa ((hs.take j).drop e):=by unfold aa;rw[UR,TG]
    by_cases u:j<hs.length
    .by_cases D:hs[j]<0
     .have n:¬0<=hs[j]:=by omega
      simp[u,D,n,f];exact⟨⟨by omega,by omega⟩,by omega,(e+1,R++[(hs.take j).drop e]),by(try dsimp only);omega,d (λq=>D),ah.keep (by simp[B e a,ao]) (by simp)⟩
     .have n:0<=hs[j]:=by omega
      simp[u,D,n];refine⟨j+1,by(try dsimp only);omega,⟨by omega,by omega,λm h1 v C=>?_⟩,ah.keep (by simp[B j u]) (by simp)⟩
      by_cases em:m=j
      .subst em;omega
      .have:=t m h1 v (by omega);omega
    .have K:j=hs.length:=by omega
     subst K;simp[f];exact⟨by omega,by omega,(e+1,R++[(hs.take hs.length).drop e]),by(try dsimp only);omega,d (λq=>by omega),ah.keep (by simp[B e a,ao]) (by simp)⟩
   .simp[a,ck];have z:k≠e:=λq=>by subst q;exact ck (p a)
    exact⟨(k+1,R),by(try dsimp only);omega,⟨by(try dsimp only);omega,by(try dsimp only);omega,e,by(try dsimp only);omega,w,(λm h1 v C=>o m h1 (by(try dsimp only at v);omega) C),p,b⟩,ah.keep (by simp[B k a]) (by simp)⟩
  .have z:k=hs.length:=by omega
   have H:e=hs.length:=by omega
   subst z;rw[H]at b;have P:jZ hs=(A,R):=b;have L:(aa hs).take hs.length=aa A:=by rw[M];unfold aa;rw[TG]
   rw[P];simp[bu,bd,L]
   try omega
set_option maxRecDepth 16000 in
theorem pu(l:List Int)(lo:Int)(q:l.length<=140737488355328):am Tryz.prog 83 [.seq false 1 (aa l),ae lo] (λr=>r=.pv (BL (jw l lo))):=by
 refine aq aE Tryz.func83 ?_;simp;refine aw.intro (S:=λ(i:Nat)=>⟨[(0,.pv (.seq false 1 (aa l))),(1,.pv (ae lo)),(5,.pv (ae i))],[]⟩) (λi=>i<=l.length∧∀m (_:m<l.length),m<i->xe lo l[m]=false) (λi=>l.length -i) 0 ?_ ⟨RL _,λm _ h=>by omega⟩ ?_
 .exact ah.keep (by simp) rfl
 rintro i ⟨hi,ho⟩
 by_cases h:i<l.length
 .have o:=dr i;have d:l[i]?=some l[i]:=Ru h;cases c:xe lo l[i]
  .have f:=c;unfold xe at f;simp only[T5,S5]at f;obtain⟨⟨c1,c2⟩,c3⟩:=f;have a:lo<=l[i]:=by omega
   have b:l[i]<=10000000:=by omega
   simp[h,d,c1,c2,c3,a,b];refine⟨i+1,by(try dsimp only);omega,⟨by(try dsimp only);omega,λm h1 p=>?_⟩,ah.keep (by simp[o]) (by simp)⟩
   by_cases e:m=i
   .subst e;exact c
   .exact ho m h1 (by omega)
  .have n:jw l lo=false:=by
    unfold jw;have:(l.any (xe lo))=true:=Ti.2 ⟨_,Rz h,c⟩;rw[this];simp
   rw[n];unfold xe at c
   by_cases c1:l[i]<lo
   .have a:¬lo<=l[i]:=by omega
    simp[h,d,c1,a]
   .by_cases c2:10000000<l[i]
    .have b:¬l[i]<=10000000:=by omega
     simp[h,d,c1,c2,b]
    .have c3:l[i]=0:=by simpa[c1,c2]using c
     rw[c3]at c1 c2;simp[h,d,c1,c2,c3]
 .have g:i=l.length:=by omega
  subst g;have k:(l.any (xe lo))=false:=Tp.2 λx hx=>by
   obtain⟨m,j,rfl⟩:=RJ hx;simp[ho m j j]
  unfold jw;rw[k]
  by_cases c:l.length<=1000
  .have c':(l.length:Int)<=1000:=by omega
   simp[c,c']
  .have c':¬(l.length:Int)<=1000:=by omega
   simp[c,c']
end Go.AX
namespace Go.AX
set_option maxRecDepth 16000
open Go.Proofs
set_option linter.unusedSimpArgs false
def jx(v:Int):List (List Int)->Nat->Int×Int
 |[],i=>(i,0)
 |c::L,i=>if fp c v≠0 then(i,fp c v)else if fh c=true then(i,11)else jx v L (i+1)
def eV(v:Int)(L:List (List Int)):Int×Int:=if v<0∨100000<v then(0,2)else if 1000000<L.length then(0,3)else jx v L 0
theorem tf(v:Int){L:List (List Int)}{i:Nat}(h:i<L.length):jx v (L.drop i) i=if fp L[i] v≠0 then((i:Int),fp L[i] v)else if fh L[i]=true then((i:Int),11)else jx v (L.drop (i+1)) (i+1):=by
 rw[R8 h,jx]
theorem vx(v:Int)(L:List (List Int)):jx v (L.drop L.length) L.length=((L.length:Int),0):=by
 rw[R2 (Ry _),jx]
theorem Dw(v:Int)(L:List (List Int))(k:∀c∈L,c.length<=1000000):am Tryz.prog 62 [.agg [ae v,.seq false 1 (L.map ao)]] (λr=>r=.pv (.tup [ae (eV v L).1,ae (eV v L).2])):=by
 refine jG [2,3] aE Tryz.func62 (λ_ _=>results_tmp2 rfl _ _ _) ?_;have b:eV v L=if v<0∨100000<v then(0,2)else if 1000000<L.length then(0,3)else jx v (L.drop 0) 0:=rfl;generalize eV v L=S at*
 by_cases h1:v<0
 .rw[Rx (.inl h1)]at b;subst b;simp[h1]
 by_cases f:100000<v
 .rw[Rx (.inr f)]at b;subst b;simp[h1,f]
 rw[Rw (λe=>e.elim h1 f)]at b
 by_cases g:1000000<L.length
 .have d:(1000000:Int)<(L.length:Int):=by omega
  rw[Rx g]at b;subst b;simp[h1,f,g,d]
 rw[Rw g]at b;have d:¬(1000000:Int)<(L.length:Int):=by omega
 simp[h1,f,g,d];refine aw.intro (S:=λ(i:Nat)=>⟨[(1,.pv (.ptr 0 0)),(22,.pv (.seq false 1 (L.map ao))),(23,.pv (ae L.length)),(24,.pv (ae i))],[[.pv (ae v),.pv (.seq false 1 (L.map ao))]]⟩) (λi=>i<=L.length∧S=jx v (L.drop i) i) (λi=>L.length -i) 0 ?_ ⟨RL _,b⟩ ?_
 .exact ah.keep (by simp) (by simp)
 rintro i ⟨hi,a⟩
 by_cases h:i<L.length
 rotate_left
 .have j:i=L.length:=by omega
  subst j;rw[vx]at a;subst a;simp
 have l:=dr i;rw[tf v h]at a;have o:=k _ (Rz h);have m:=sH L[i] v (by omega);have n:=KC L[i] (by omega);simp[h,ao];refine ai.intro m ?_
 by_cases c1:fp L[i] v=0
 .rw[Rw (by simp[c1])]at a;simp[c1];refine ai.intro n ?_
  by_cases c2:fh L[i]=true
  .rw[Rx c2]at a;subst a;simp[c2]
  .rw[Rw c2]at a;simp[c2];exact⟨i+1,by(try dsimp only);omega,⟨by(try dsimp only);omega,a⟩,ah.keep (by simp[l,ao]) (by simp[ao])⟩
 .rw[Rx c1]at a;subst a;simp[c1]
theorem vy(v:Int)(L:List (List Int))(l:∀c∈L,c.length<=1000000):am Tryz.prog 73 [.agg [ae v,.seq false 1 (L.map ao)]] (λr=>r=.pv (.tup [ae (eV v L).1,ae (eV v L).2])):=by
 refine jG [2,3] aE Tryz.func73 (λ_ _=>results_tmp2 rfl _ _ _) ?_;have b:eV v L=if v<0∨100000<v then(0,2)else if 1000000<L.length then(0,3)else jx v (L.drop 0) 0:=rfl;generalize eV v L=S at*
 by_cases h1:v<0
 .rw[Rx (.inl h1)]at b;subst b;simp[h1]
 by_cases f:100000<v
 .rw[Rx (.inr f)]at b;subst b;simp[h1,f]
 rw[Rw (λe=>e.elim h1 f)]at b
 by_cases g:1000000<L.length
 .have d:(1000000:Int)<(L.length:Int):=by omega
  rw[Rx g]at b;subst b;simp[h1,f,g,d]
 rw[Rw g]at b;have d:¬(1000000:Int)<(L.length:Int):=by omega
 simp[h1,f,g,d];refine aw.intro (S:=λ(i:Nat)=>⟨[(1,.pv (.ptr 0 0)),(4,.pv (ae i))],[[.pv (ae v),.pv (.seq false 1 (L.map ao))]]⟩) (λi=>i<=L.length∧S=jx v (L.drop i) i) (λi=>L.length -i) 0 ?_ ⟨RL _,b⟩ ?_
 .exact ah.keep (by simp) (by simp)
 rintro i ⟨hi,a⟩
 by_cases h:i<L.length
 rotate_left
 .have j:i=L.length:=by omega
  subst j;rw[vx]at a;subst a;simp
 have m:=dr i;rw[tf v h]at a;have p:=l _ (Rz h);have n:=nA L[i] v (by omega);have o:=oc L[i] (by omega);have k:L[i]?=some L[i]:=Ru h;simp[h,k,ao];refine br.intro n ?_
 by_cases c1:fp L[i] v=0
 .rw[Rw (by simp[c1])]at a;simp[c1,h,k,ao];refine ai.intro o ?_
  by_cases c2:fh L[i]=true
  .rw[Rx c2]at a;subst a;simp[c2]
  .rw[Rw c2]at a;simp[c2];exact⟨i+1,by(try dsimp only);omega,⟨by(try dsimp only);omega,a⟩,ah.keep (by simp[m,ao]) (by simp[ao])⟩
 .rw[Rx c1]at a;subst a;simp[c1]
end Go.AX