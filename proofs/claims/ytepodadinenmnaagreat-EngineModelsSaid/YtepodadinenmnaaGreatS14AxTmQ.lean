/-
  Contracts: proof.Split: hints, parted.
  Contracts: proof.Check: steps that may be.
  Contracts: lrat.Checker: what it holds.
  Contracts: lrat.Checker, read only.
  Contracts: rat: candidates.
  Contracts: the document's candidates (layer 9).
  Plain facts: hints, parted by where they are below 0.
  Contracts: the document's Split.
  Contracts: the document's steps: within.
  Contracts: whether a formula may be: the program's, the document's.
-/
import Derived.Test.YtepodadinenmnaaGreatS14AxTmB
import Derived.Test.YtepodadinenmnaaGreatAxFz
namespace Go.AX
open Go.Proofs
set_option linter.unusedSimpArgs false
def qk(x:List Int×List (List Int))(h:Int):List Int×List (List Int):=
 if h<0 then(x.1,x.2++[[h]])else if x.2=[]then(x.1++[h],x.2)else(x.1,x.2.dropLast++[x.2.getLastD []++[h]])
def eW(hs:List Int)(i:Nat):List Int×List (List Int):=(hs.take i).foldl qk ([],[])
def j8(hs:List Int):List Int×List (List Int):=eW hs hs.length
structure Bs where
  b:Nat
  n:Nat
  cap:Nat
theorem Ik(x:List Int×List (List Int))(h:Int):(qk x h).1.length+(qk x h).2.length<=x.1.length+x.2.length+1∧∀l∈(qk x h).2,∃l',(l'=[]∨l'∈x.2)∧l.length<=l'.length+1:=by
 unfold qk;split
 .refine⟨by simp;omega,λl a=>?_⟩;rcases RS.1 a with a|a
  .exact⟨l,.inr a,by omega⟩
  .rw[Sp]at a;subst a;exact⟨[],.inl rfl,by simp⟩
 .split
  .exact⟨by simp;omega,λl a=>⟨l,.inr a,by omega⟩⟩
  .rename_i b;have hp:=To.2 b;refine⟨by simp;omega,λl a=>?_⟩;rcases RS.1 a with a|a
   .exact⟨l,.inr (Wk _ a),by omega⟩
   .rw[Sp]at a;subst a;refine⟨x.2.getLastD [],.inr ?_,by simp⟩;rw[VZ,List.getLast?_eq_some_getLast b];exact List.getLast_mem b
theorem gC(hs:List Int){i:Nat}(h:i<hs.length):eW hs (i+1)=qk (eW hs i) hs[i]:=bf qk ([],[]) hs i h
theorem vv(hs:List Int):∀i,i<=hs.length->(eW hs i).1.length+(eW hs i).2.length<=i∧∀l∈(eW hs i).2,l.length<=i
 |0,_=>by simp[eW]
 |i+1,h=>by
  obtain⟨h1,b⟩:=vv hs i (by omega);obtain⟨f,c⟩:=Ik (eW hs i) hs[i];rw[gC hs (by omega)];refine⟨by omega,λl e=>?_⟩;obtain⟨l',a,d⟩:=c l e;rcases a with rfl|a
  .simp at d;omega
  .have:=b l' a;omega
structure Stp where
  kind:Int
  id:Int
  lits:List Int
  hints:List Int
instance:Inhabited Stp:=⟨⟨0,0,[],[]⟩⟩
def gD(x:Stp):List PV:=[ae x.kind,ae x.id,.seq false 1 (aa x.lits),.seq false 1 (aa x.hints)]
@[simp] theorem N6(r:Nat->Nat->PV)(l:List Stp):kJ r (l.map gD)=l.map gD:=by
 rw[bW,SJ];apply TW;intro x _;simp[gD]
def xk(lo n:Int):Bool:=decide (n<lo)||decide (10000000<n)||decide (n=0)
def jA(l:List Int)(lo:Int):Bool:=decide (l.length<=1000)&&!(l.any (xk lo))
def iR(x:Stp):Bool:=
 if x.kind=1 then decide (1<=x.id)&&(decide (x.id<=10000000)&&(decide (fu x.lits 100000=0)&&jA x.hints (-10000000)))
 else if x.kind=2 then decide (0<=x.id)&&(decide (x.id<=10000000)&&(decide (x.lits.length=0)&&jA x.hints 1))else false
def zr(l:List Stp):Int:=if 1000000<l.length then 3 else if 0<=iH (λx=>!iR x) l then 2 else 0
structure Ck where
  m:List (Int×List Int)
  last:Int
  done:Bool
def ql(c:Ck)(id:Int)(l:List Int):Ck:=⟨pt c.m id l,id,c.done||decide (l.length=0)⟩
theorem BZ:am Tryz.prog 77 [.lit (.slice none 0 0)] (λr=>r=.pv (.lit (.slice none 0 0))):=by
 refine aq aE Tryz.func77 ?_;simp
def B0(id:Int):Int:=if id<aR (-id)then aR (-id)else id
def jJ(c:Ck)(ids:List Int):Bool:=ids.all λid=>(lk c.m (B0 id)).isSome
def bZ(c:Ck)(ids:List Int):List (List Int):=ids.map λid=>(lk c.m id).getD []
def lC(cs:List (List Int))(p:Int):Nat->List Int
 |0=>[]
 |i+1=>if lX p≠0∧d7 (cs.getD i []) (lX p)=true then lC cs p i++[(i:Int)]else lC cs p i
theorem tq(cs:List (List Int))(p:Int):∀i,(lC cs p i).length<=i
 |0=>by simp[lC]
 |i+1=>by
  have:=tq cs p i;rw[lC];split
  .simp;omega
  .omega
theorem qm:∀l:List (List PV),E9 l l
 |[]=>trivial
 |x::l=>⟨mX x,qm l⟩
def Il(p:Int)(o:Option (List Int))(x:Int):Option (List Int):=
 o.bind λout=>if ah x=0∨x=lX p then some out else if bH out x=1 then none else if bH out x=0 then some (out++[aR (-x)])else some out
def zt(l c:List Int)(p:Int)(i:Nat):Option (List Int):=(c.take i).foldl (Il p) (some l)
def B1(l c:List Int)(p:Int)(hs:List (List Int)):Int:=match zt l c p c.length with
 |none=>0
 |some out=>if(fk out hs 0).2.2≠0 then 24 else 0
theorem vx(p:Int):∀c:List Int,c.foldl (Il p) none=none
 |[]=>rfl
 |x::c=>vx p c
theorem Fx{l c:List Int}{p:Int}{i:Nat}(h:zt l c p i=none)(hi:i<=c.length):zt l c p c.length=none:=by
 unfold zt at h⊢;have:c.take c.length=c.take i++c.drop i:=by rw[R8,SI]
 rw[this,Vv,h];exact vx p _
end Go.AX
namespace Go.AX
set_option maxRecDepth 16000
open Go.Proofs
set_option linter.unusedSimpArgs false
theorem uq(g:List (List SV))(l c:List Int)(p:Int)(hs:List (List Int))(y:l.length+c.length+hs.length<=1000000)(v:∀h∈hs,h.length<=1000000):aB Tryz.prog 311 [.seq false 1 (aa l),.seq false 1 (aa c),ae p,.seq false 1 (hs.map an)] g (λr g'=>g'=g∧r=.pv (ae (B1 l c p hs))):=by
 refine dV [] [.tmp 8] aE Tryz.func311 ?_;have b:B1 l c p hs=match zt l c p c.length with
  |none=>0
  |some out=>if(fk out hs 0).2.2≠0 then 24 else 0:=rfl
 generalize B1 l c p hs=E at*;simp;refine⟨by omega,?_⟩;refine av.intro (S:=λ(x:Nat×List Int)=>⟨[(2,.pv (ae p)),(3,.pv (.seq false 1 (hs.map an))),(1,.pv (.seq false 1 (aa c))),(9,.own true 1 (aa x.2)),(10,.pv (ae x.1))],g⟩) (λx=>x.1<=c.length∧x.2.length<=l.length+x.1∧zt l c p x.1=some x.2) (λx=>c.length -x.1) (0,l) ?_ ⟨RW _,RJ _,rfl⟩ ?_
 .exact af.keep (by simp) rfl
 rintro⟨i,out⟩ ⟨hi,k,ho⟩;dsimp only at hi k ho
 by_cases h:i<c.length
 .have o:=dq i;have a:zt l c p (i+1)=Il p (zt l c p i) c[i]:=bf (Il p) (some l) c i h;rw[ho]at a;have u:Il p (some out) c[i]=if ah c[i]=0∨c[i]=lX p then some out else if bH out c[i]=1 then none else if bH out c[i]=0 then some (out++[aR (-c[i])])else some out:=rfl;rw[u]at a;have w:=fP out c[i] (by omega);have t:=u9 p;have hz:ah c[i]=0↔aW c[i]<0:=by rw[ve,Ht]
  simp[h];refine ai.intro (dP c[i]) ?_
  by_cases c1:ah c[i]=0
  .rw[RI (.inl c1)]at a;have f:=hz.1 c1;have j:¬0<=aW c[i]:=by omega
   simp[f,j];refine aH.intro (r:=.pv (ae 0)) (λh:False=>h.elim) ?_;simp;exact⟨(i+1,out),by(try dsimp only);omega,⟨by(try dsimp only);omega,by(try dsimp only);omega,a⟩,af.keep (by simp[o]) (by simp)⟩
  have f:¬aW c[i]<0:=λe=>c1 (hz.2 e);have j:0<=aW c[i]:=by omega
  simp[f,j];refine aH.intro (λ_=>t) ?_
  by_cases c2:c[i]=lX p
  .rw[RI (.inr c2)]at a;simp[c2];exact⟨(i+1,out),by(try dsimp only);omega,⟨by(try dsimp only);omega,by(try dsimp only);omega,a⟩,af.keep (by simp[o]) (by simp)⟩
  rw[RH (λe=>e.elim c1 c2)]at a;simp[c2];refine ai.intro w ?_
  by_cases m:bH out c[i]=1
  .rw[RI m]at a;have hn:=Fx a (by omega);rw[hn]at b;simp only at b;subst b;simp[m,bu]
  rw[RH m]at a
  by_cases n:bH out c[i]=0
  .rw[RI n]at a;simp[n];exact⟨by omega,(i+1,out++[aR (-c[i])]),by(try dsimp only);omega,⟨by(try dsimp only);omega,by simp;omega,a⟩,af.keep (by simp[o,aa]) (by simp)⟩
  .rw[RH n]at a;simp[m,n];exact⟨(i+1,out),by(try dsimp only);omega,⟨by(try dsimp only);omega,by(try dsimp only);omega,a⟩,af.keep (by simp[o]) (by simp)⟩
 have s:i=c.length:=by omega
 subst s;rw[ho]at b;simp only at b;have q:=λg=>lB g out hs (by omega) v;simp;refine ai.introE (q g) (by simp) rfl (by simp) (by simp) (by simp[HJ,QX,qm]) ?_;rintro _ _ ⟨rfl,rfl⟩
 by_cases d:(fk out hs 0).2.2=0
 .rw[RH (by simp[d])]at b;subst b;simp[d,bu]
 .rw[RI d]at b;subst b;simp[d,bu]
theorem xl(cs:List (List Int))(p:Int)(m:cs.length<=1000000)(k:∀c∈cs,c.length<=1000000):am Tryz.prog 310 [.seq false 1 (cs.map an),ae p] (λr=>r=.own true 1 (aa (lC cs p cs.length))):=by
 refine aq aE Tryz.func310 ?_;simp;refine av.intro (S:=λ(i:Nat)=>⟨[(0,.pv (.seq false 1 (cs.map an))),(1,.pv (ae p)),(5,.own true 1 (aa (lC cs p i))),(6,.pv (ae i))],[]⟩) (λi=>i<=cs.length) (λi=>cs.length -i) 0 ?_ (RW _) ?_
 .exact(af.nilOwn (s:=5) 1 true (by simp)).trans (af.keep (by simp[lC,aa]) rfl)
 intro i hi;have hle:=tq cs p i
 by_cases h:i<cs.length
 .have f:=dq i;have l:cs.getD i []=cs[i]:=by rw[RG,RF h];rfl
  have hs:lC cs p (i+1)=if lX p≠0∧d7 cs[i] (lX p)=true then lC cs p i++[(i:Int)]else lC cs p i:=by rw[lC,l]
  have g:cs[i]?=some cs[i]:=RF h;simp[h,an];refine ai.intro (dP p) ?_;cases ho:cF p
  .have hn:lX p=0:=by unfold lX;rw[RH (by simp[ho])]
   have hx:¬0<=aW p:=by rw[lp];simp[ho]
   have a:aW p<0:=by omega
   rw[RH (λe=>e.1 hn)]at hs;simp[hx,a,g,an];refine aH.intro (r:=.pv (BL false)) (λh:False=>h.elim) ?_;simp;exact⟨i+1,by(try dsimp only);omega,by(try dsimp only);omega,af.keep (by simp[f,hs,an]) (by simp)⟩
  .have n:=(aY p).1 ho;have hn:lX p=aR (-p):=by unfold lX;rw[RI ho,ap (by omega) (by omega)]
   have b:lX p≠0:=by rw[hn,ap (by omega) (by omega)];omega
   have hx:0<=aW p:=by rw[lp];exact ho
   have a:¬aW p<0:=by omega
   have j:=iN cs[i] (aR (-p)) (by have:=k _ (RK h);omega);rw[hn]at hs b;simp[hx,a,h,g,an];refine aH.intro (λ_=>j) ?_
   by_cases c2:d7 cs[i] (aR (-p))=true
   .rw[RI ⟨b,c2⟩]at hs;simp[c2];exact⟨by omega,i+1,by(try dsimp only);omega,by(try dsimp only);omega,af.keep (by simp[f,hs,aa,an]) (by simp)⟩
   .rw[RH (λe=>c2 e.2)]at hs;simp[c2];exact⟨i+1,by(try dsimp only);omega,by(try dsimp only);omega,af.keep (by simp[f,hs,an]) (by simp)⟩
 .have d:i=cs.length:=by omega
  subst d;simp
end Go.AX
namespace Go.AX
open Go.Proofs
set_option linter.unusedSimpArgs false
def RD(hs:List Int)(k:Nat):Nat:=(hs.take k).countP λh=>decide (h<0)
theorem qn(hs:List Int){k:Nat}(hk:k<hs.length)(hn:hs[k]<0):∀j,k<j->(hj:j<=hs.length)->(∀m (_:m<hs.length),k<m->m<j->¬hs[m]<0)->eW hs j=((eW hs k).1,(eW hs k).2++[(hs.take j).drop k])
 |0,h,_,_=>by omega
 |j+1,h,hj,c=>by
  by_cases e:j=k
  .subst e;rw[gC hs hk];unfold qk;rw[RI hn,←TT hk,SU (by rw[RN];omega),Sc (by rw[RN];omega)];rfl
  .have f:=qn hs hk hn j (by omega) (by omega) (λm h1 d g=>c m h1 d (by omega));have a:j<hs.length:=by omega
   have b:=c j a (by omega) (by omega);rw[gC hs a,f];unfold qk;rw[RH b];simp only;rw[RH (by simp),←TT a,SU (by rw[RN];omega)];simp[VZ]
theorem qo(hs:List Int):∀j,j<=hs.length->(∀m (_:m<hs.length),m<j->¬hs[m]<0)->eW hs j=(hs.take j,[])
 |0,_,_=>by simp[eW]
 |j+1,h,b=>by
  have a:j<hs.length:=by omega
  rw[gC hs a,qo hs j (by omega) (λm h1 c=>b m h1 (by omega))];unfold qk;rw[RH (b j a (by omega)),RI rfl,TT a]
set_option maxRecDepth 16000 in
theorem ur(g:List (List SV))(hs:List Int)(T:hs.length<=1000000):aB Tryz.prog 259 [.seq false 1 (aa hs)] g (λr g'=>g'=g∧r=.pv (.tup [.seq false 1 (aa (j8 hs).1),.seq true 1 ((j8 hs).2.map an)])):=by
 refine dV [] [.tmp 2,.tmp 3] aE Tryz.func259 ?_;have B:∀i,i<hs.length->aR ((i:Int)+1)=((i+1:Nat):Int):=λi hi=>by rw[ap (by omega) (by omega)];omega
 simp;refine av.intro (S:=λ(i:Nat)=>⟨[(0,.pv (.seq false 1 (aa hs))),(4,.pv (ae i))],g⟩) (λi=>i<=hs.length∧∀m (_:m<hs.length),m<i->¬hs[m]<0) (λi=>hs.length -i) 0 ?_ ⟨RW _,λm _ h=>by omega⟩ ?_
 .exact af.keep (by simp) rfl
 rintro i ⟨hi,hp⟩
 by_cases h:i<hs.length
 .by_cases c:hs[i]<0
  .have c':¬0<=hs[i]:=by omega
   simp[h,c,c'];obtain⟨A,M⟩:∃A,A=hs.take i:=⟨_,rfl⟩;have E:eW hs i=(A,[]):=by rw[M];exact qo hs i hi hp
   refine av.intro (S:=λ(x:Nat×List (List Int))=>⟨[(0,.pv (.seq false 1 (aa hs))),(4,.pv (ae i)),(5,.own true 1 (x.2.map an)),(6,.pv (ae x.1))],g⟩) (λx=>x.1<=hs.length∧x.2.length<=x.1∧∃e,x.1<=e∧e<=hs.length∧(∀m (_:m<hs.length),x.1<=m->m<e->0<=hs[m])∧(∀_:e<hs.length,hs[e]<0)∧eW hs e=(A,x.2)) (λx=>hs.length -x.1) (i,[]) ?_ ⟨hi,RW _,i,RJ _,hi,(λm _ h1 v=>by omega),(λq=>by first|exact c|omega),E⟩ ?_
   .exact(af.nilOwn (s:=5) 1 true (by simp)).trans (af.keep (by simp) rfl)
   rintro⟨k,R⟩ ⟨hk,F,e,G,w,o,p,b⟩;dsimp only at hk F G w o p b
   by_cases a:k<hs.length
   .by_cases ck:hs[k]<0
    .have I:e=k:=R6 λq=>by have:=o k a (RJ _) (by omega);omega
     subst I;simp[a,ck];refine av.intro (S:=λ(j:Nat)=>⟨[(0,.pv (.seq false 1 (aa hs))),(4,.pv (ae i)),(5,.own true 1 (R.map an)),(6,.pv (ae e)),(7,.pv (ae j))],g⟩) (λj=>e<j∧j<=hs.length∧∀m (_:m<hs.length),e<m->m<j->0<=hs[m]) (λj=>hs.length -j) (e+1) ?_ ⟨by omega,by omega,λm _ h1 v=>by omega⟩ ?_
     .exact af.keep (by simp[B e a]) rfl
     rintro j ⟨J,y,t⟩;have l:=qn hs a ck j J y (λm N O a3=>by have:=t m N O a3;omega);rw[b]at l;have d:∀(_:∀_:j<hs.length,hs[j]<0),(e+1)<=hs.length∧(R++[(hs.take j).drop e]).length<=e+1∧∃e',e+1<=e'∧e'<=hs.length∧(∀m (_:m<hs.length),e+1<=m->m<e'->0<=hs[m])∧(∀_:e'<hs.length,hs[e']<0)∧eW hs e'=(A,R++[(hs.take j).drop e]):=λq=>⟨by omega,by simp;omega,j,by omega,y,λm h1 v C=>t m h1 (by omega) C,q,l⟩;have f:((aa hs).take j).drop e=aa ((hs.take j).drop e):=by unfold aa;rw[U1,TR]
     by_cases u:j<hs.length
     .by_cases D:hs[j]<0
      .have n:¬0<=hs[j]:=by omega
       simp[u,D,n,f];exact⟨⟨by omega,by omega⟩,by omega,(e+1,R++[(hs.take j).drop e]),by(try dsimp only);omega,d (λq=>D),af.keep (by simp[B e a,an]) (by simp)⟩
      .have n:0<=hs[j]:=by omega
       simp[u,D,n];refine⟨j+1,by(try dsimp only);omega,⟨by omega,by omega,λm h1 v C=>?_⟩,af.keep (by simp[B j u]) (by simp)⟩
       by_cases em:m=j
       .subst em;omega
       .have:=t m h1 v (by omega);omega
     .have K:j=hs.length:=by omega
      subst K;simp[f];exact⟨by omega,by omega,(e+1,R++[(hs.take hs.length).drop e]),by(try dsimp only);omega,d (λq=>by omega),af.keep (by simp[B e a,an]) (by simp)⟩
    .simp[a,ck];have z:k≠e:=λq=>by subst q;exact ck (p a)
     exact⟨(k+1,R),by(try dsimp only);omega,⟨by(try dsimp only);omega,by(try dsimp only);omega,e,by(try dsimp only);omega,w,(λm h1 v C=>o m h1 (by(try dsimp only at v);omega) C),p,b⟩,af.keep (by simp[B k a]) (by simp)⟩
   .have z:k=hs.length:=by omega
    have H:e=hs.length:=by omega
    subst z;rw[H]at b;have P:j8 hs=(A,R):=b;have L:(aa hs).take i=aa A:=by rw[M];unfold aa;rw[TR]
    rw[P];simp[bu,bd,L]
    try omega
  .have c':0<=hs[i]:=by omega
   simp[h,c,c'];refine⟨i+1,by(try dsimp only);omega,⟨by(try dsimp only);omega,λm h1 v=>?_⟩,af.keep (by simp[B i h]) (by simp)⟩
   by_cases e:m=i
   .subst e;omega
   .have:=hp m h1 (by omega);omega
 .have Q:i=hs.length:=by omega
  subst Q;simp;obtain⟨A,M⟩:∃A,A=hs.take hs.length:=⟨_,rfl⟩;have E:eW hs hs.length=(A,[]):=by rw[M];exact qo hs hs.length hi hp
  refine av.intro (S:=λ(x:Nat×List (List Int))=>⟨[(0,.pv (.seq false 1 (aa hs))),(4,.pv (ae hs.length)),(5,.own true 1 (x.2.map an)),(6,.pv (ae x.1))],g⟩) (λx=>x.1<=hs.length∧x.2.length<=x.1∧∃e,x.1<=e∧e<=hs.length∧(∀m (_:m<hs.length),x.1<=m->m<e->0<=hs[m])∧(∀_:e<hs.length,hs[e]<0)∧eW hs e=(A,x.2)) (λx=>hs.length -x.1) (hs.length,[]) ?_ ⟨hi,RW _,hs.length,RJ _,hi,(λm _ h1 v=>by omega),(λq=>by first|exact c|omega),E⟩ ?_
  .exact(af.nilOwn (s:=5) 1 true (by simp)).trans (af.keep (by simp) rfl)
  rintro⟨k,R⟩ ⟨hk,F,e,G,w,o,p,b⟩;dsimp only at hk F G w o p b
  by_cases a:k<hs.length
  .by_cases ck:hs[k]<0
   .have I:e=k:=R6 λq=>by have:=o k a (RJ _) (by omega);omega
    subst I;simp[a,ck];refine av.intro (S:=λ(j:Nat)=>⟨[(0,.pv (.seq false 1 (aa hs))),(4,.pv (ae hs.length)),(5,.own true 1 (R.map an)),(6,.pv (ae e)),(7,.pv (ae j))],g⟩) (λj=>e<j∧j<=hs.length∧∀m (_:m<hs.length),e<m->m<j->0<=hs[m]) (λj=>hs.length -j) (e+1) ?_ ⟨by omega,by omega,λm _ h1 v=>by omega⟩ ?_
    .exact af.keep (by simp[B e a]) rfl
    rintro j ⟨J,y,t⟩;have l:=qn hs a ck j J y (λm N O a3=>by have:=t m N O a3;omega);rw[b]at l;have d:∀(_:∀_:j<hs.length,hs[j]<0),(e+1)<=hs.length∧(R++[(hs.take j).drop e]).length<=e+1∧∃e',e+1<=e'∧e'<=hs.length∧(∀m (_:m<hs.length),e+1<=m->m<e'->0<=hs[m])∧(∀_:e'<hs.length,hs[e']<0)∧eW hs e'=(A,R++[(hs.take j).drop e]):=λq=>⟨by omega,by simp;omega,j,by omega,y,λm h1 v C=>t m h1 (by omega) C,q,l⟩;have f:((aa hs).take j).drop e=aa ((hs.take j).drop e):=by unfold aa;rw[U1,TR]
    by_cases u:j<hs.length
    .by_cases D:hs[j]<0
     .have n:¬0<=hs[j]:=by omega
      simp[u,D,n,f];exact⟨⟨by omega,by omega⟩,by omega,(e+1,R++[(hs.take j).drop e]),by(try dsimp only);omega,d (λq=>D),af.keep (by simp[B e a,an]) (by simp)⟩
     .have n:0<=hs[j]:=by omega
      simp[u,D,n];refine⟨j+1,by(try dsimp only);omega,⟨by omega,by omega,λm h1 v C=>?_⟩,af.keep (by simp[B j u]) (by simp)⟩
      by_cases em:m=j
      .subst em;omega
      .have:=t m h1 v (by omega);omega
    .have K:j=hs.length:=by omega
     subst K;simp[f];exact⟨by omega,by omega,(e+1,R++[(hs.take hs.length).drop e]),by(try dsimp only);omega,d (λq=>by omega),af.keep (by simp[B e a,an]) (by simp)⟩
   .simp[a,ck];have z:k≠e:=λq=>by subst q;exact ck (p a)
    exact⟨(k+1,R),by(try dsimp only);omega,⟨by(try dsimp only);omega,by(try dsimp only);omega,e,by(try dsimp only);omega,w,(λm h1 v C=>o m h1 (by(try dsimp only at v);omega) C),p,b⟩,af.keep (by simp[B k a]) (by simp)⟩
  .have z:k=hs.length:=by omega
   have H:e=hs.length:=by omega
   subst z;rw[H]at b;have P:j8 hs=(A,R):=b;have L:(aa hs).take hs.length=aa A:=by rw[M];unfold aa;rw[TR]
   rw[P];simp[bu,bd,L]
   try omega
set_option maxRecDepth 16000 in
theorem pA(l:List Int)(lo:Int)(q:l.length<=140737488355328):am Tryz.prog 83 [.seq false 1 (aa l),ae lo] (λr=>r=.pv (BL (jA l lo))):=by
 refine aq aE Tryz.func83 ?_;simp;refine av.intro (S:=λ(i:Nat)=>⟨[(0,.pv (.seq false 1 (aa l))),(1,.pv (ae lo)),(5,.pv (ae i))],[]⟩) (λi=>i<=l.length∧∀m (_:m<l.length),m<i->xk lo l[m]=false) (λi=>l.length -i) 0 ?_ ⟨RW _,λm _ h=>by omega⟩ ?_
 .exact af.keep (by simp) rfl
 rintro i ⟨hi,ho⟩
 by_cases h:i<l.length
 .have o:=dq i;have d:l[i]?=some l[i]:=RF h;cases c:xk lo l[i]
  .have f:=c;unfold xk at f;simp only[Ug,Th]at f;obtain⟨⟨c1,c2⟩,c3⟩:=f;have a:lo<=l[i]:=by omega
   have b:l[i]<=10000000:=by omega
   simp[h,d,c1,c2,c3,a,b];refine⟨i+1,by(try dsimp only);omega,⟨by(try dsimp only);omega,λm h1 p=>?_⟩,af.keep (by simp[o]) (by simp)⟩
   by_cases e:m=i
   .subst e;exact c
   .exact ho m h1 (by omega)
  .have n:jA l lo=false:=by
    unfold jA;have:(l.any (xk lo))=true:=Tm.2 ⟨_,RK h,c⟩;rw[this];simp
   rw[n];unfold xk at c
   by_cases c1:l[i]<lo
   .have a:¬lo<=l[i]:=by omega
    simp[h,d,c1,a]
   .by_cases c2:10000000<l[i]
    .have b:¬l[i]<=10000000:=by omega
     simp[h,d,c1,c2,b]
    .have c3:l[i]=0:=by simpa[c1,c2]using c
     rw[c3]at c1 c2;simp[h,d,c1,c2,c3]
 .have g:i=l.length:=by omega
  subst g;have k:(l.any (xk lo))=false:=Tv.2 λx hx=>by
   obtain⟨m,j,rfl⟩:=RU hx;simp[ho m j j]
  unfold jA;rw[k]
  by_cases c:l.length<=1000
  .have c':(l.length:Int)<=1000:=by omega
   simp[c,c']
  .have c':¬(l.length:Int)<=1000:=by omega
   simp[c,c']
end Go.AX
namespace Go.AX
set_option maxRecDepth 16000
open Go.Proofs
set_option linter.unusedSimpArgs false
def jB(v:Int):List (List Int)->Nat->Int×Int
 |[],i=>(i,0)
 |c::L,i=>if fu c v≠0 then(i,fu c v)else if fl c=true then(i,11)else jB v L (i+1)
def eX(v:Int)(L:List (List Int)):Int×Int:=if v<0∨100000<v then(0,2)else if 1000000<L.length then(0,3)else jB v L 0
theorem tw(v:Int){L:List (List Int)}{i:Nat}(h:i<L.length):jB v (L.drop i) i=if fu L[i] v≠0 then((i:Int),fu L[i] v)else if fl L[i]=true then((i:Int),11)else jB v (L.drop (i+1)) (i+1):=by
 rw[Sk h,jB]
theorem vB(v:Int)(L:List (List Int)):jB v (L.drop L.length) L.length=((L.length:Int),0):=by
 rw[Sc (RJ _),jB]
theorem DF(v:Int)(L:List (List Int))(k:∀c∈L,c.length<=1000000):am Tryz.prog 62 [.agg [ae v,.seq false 1 (L.map an)]] (λr=>r=.pv (.tup [ae (eX v L).1,ae (eX v L).2])):=by
 refine iG [2,3] aE Tryz.func62 (λ_ _=>results_tmp2 rfl _ _ _) ?_;have b:eX v L=if v<0∨100000<v then(0,2)else if 1000000<L.length then(0,3)else jB v (L.drop 0) 0:=rfl;generalize eX v L=S at*
 by_cases h1:v<0
 .rw[RI (.inl h1)]at b;subst b;simp[h1]
 by_cases f:100000<v
 .rw[RI (.inr f)]at b;subst b;simp[h1,f]
 rw[RH (λe=>e.elim h1 f)]at b
 by_cases g:1000000<L.length
 .have d:(1000000:Int)<(L.length:Int):=by omega
  rw[RI g]at b;subst b;simp[h1,f,g,d]
 rw[RH g]at b;have d:¬(1000000:Int)<(L.length:Int):=by omega
 simp[h1,f,g,d];refine av.intro (S:=λ(i:Nat)=>⟨[(1,.pv (.ptr 0 0)),(22,.pv (.seq false 1 (L.map an))),(23,.pv (ae L.length)),(24,.pv (ae i))],[[.pv (ae v),.pv (.seq false 1 (L.map an))]]⟩) (λi=>i<=L.length∧S=jB v (L.drop i) i) (λi=>L.length -i) 0 ?_ ⟨RW _,b⟩ ?_
 .exact af.keep (by simp) (by simp)
 rintro i ⟨hi,a⟩
 by_cases h:i<L.length
 rotate_left
 .have j:i=L.length:=by omega
  subst j;rw[vB]at a;subst a;simp
 have l:=dq i;rw[tw v h]at a;have o:=k _ (RK h);have m:=sU L[i] v (by omega);have n:=KN L[i] (by omega);simp[h,an];refine ai.intro m ?_
 by_cases c1:fu L[i] v=0
 .rw[RH (by simp[c1])]at a;simp[c1];refine ai.intro n ?_
  by_cases c2:fl L[i]=true
  .rw[RI c2]at a;subst a;simp[c2]
  .rw[RH c2]at a;simp[c2];exact⟨i+1,by(try dsimp only);omega,⟨by(try dsimp only);omega,a⟩,af.keep (by simp[l,an]) (by simp[an])⟩
 .rw[RI c1]at a;subst a;simp[c1]
theorem vC(v:Int)(L:List (List Int))(l:∀c∈L,c.length<=1000000):am Tryz.prog 73 [.agg [ae v,.seq false 1 (L.map an)]] (λr=>r=.pv (.tup [ae (eX v L).1,ae (eX v L).2])):=by
 refine iG [2,3] aE Tryz.func73 (λ_ _=>results_tmp2 rfl _ _ _) ?_;have b:eX v L=if v<0∨100000<v then(0,2)else if 1000000<L.length then(0,3)else jB v (L.drop 0) 0:=rfl;generalize eX v L=S at*
 by_cases h1:v<0
 .rw[RI (.inl h1)]at b;subst b;simp[h1]
 by_cases f:100000<v
 .rw[RI (.inr f)]at b;subst b;simp[h1,f]
 rw[RH (λe=>e.elim h1 f)]at b
 by_cases g:1000000<L.length
 .have d:(1000000:Int)<(L.length:Int):=by omega
  rw[RI g]at b;subst b;simp[h1,f,g,d]
 rw[RH g]at b;have d:¬(1000000:Int)<(L.length:Int):=by omega
 simp[h1,f,g,d];refine av.intro (S:=λ(i:Nat)=>⟨[(1,.pv (.ptr 0 0)),(4,.pv (ae i))],[[.pv (ae v),.pv (.seq false 1 (L.map an))]]⟩) (λi=>i<=L.length∧S=jB v (L.drop i) i) (λi=>L.length -i) 0 ?_ ⟨RW _,b⟩ ?_
 .exact af.keep (by simp) (by simp)
 rintro i ⟨hi,a⟩
 by_cases h:i<L.length
 rotate_left
 .have j:i=L.length:=by omega
  subst j;rw[vB]at a;subst a;simp
 have m:=dq i;rw[tw v h]at a;have p:=l _ (RK h);have n:=nE L[i] v (by omega);have o:=oh L[i] (by omega);have k:L[i]?=some L[i]:=RF h;simp[h,k,an];refine br.intro n ?_
 by_cases c1:fu L[i] v=0
 .rw[RH (by simp[c1])]at a;simp[c1,h,k,an];refine ai.intro o ?_
  by_cases c2:fl L[i]=true
  .rw[RI c2]at a;subst a;simp[c2]
  .rw[RH c2]at a;simp[c2];exact⟨i+1,by(try dsimp only);omega,⟨by(try dsimp only);omega,a⟩,af.keep (by simp[m,an]) (by simp[an])⟩
 .rw[RI c1]at a;subst a;simp[c1]
end Go.AX