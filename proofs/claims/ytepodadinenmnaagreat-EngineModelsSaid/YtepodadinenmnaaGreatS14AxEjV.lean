/-
  The law's contract: EngineShows.
  Contracts: the document's engine: the clauses of a checker, how many were learnt, what follows, a new one; a trail's model.
  Contracts: law20's play: the level of a literal, the level to go back to.
  Contracts: law20's play: the checker takes the steps that are new.
  Plain law: the levels that law20's play tells are the trail's.
  Contracts: law20's play: what holds of it; all follows.
  Contracts: law20's play: a conflict is resolved.
  Contracts: law20's play: a call.
  Contracts: law20's play: one is begun.
  The law's contract: EngineModels.
-/
import Derived.Test.YtepodadinenmnaaGreatS14AxEhC
import Derived.Test.YtepodadinenmnaaGreatS14AxEiA
import Derived.Test.YtepodadinenmnaaGreatS14AxTxC
import Derived.Test.YtepodadinenmnaaGreatS14AxWaD
import Derived.Test.YtepodadinenmnaaGreatS14AxTxG
import Derived.Test.YtepodadinenmnaaGreatS14AxMovR
import Derived.Test.YtepodadinenmnaaGreatS14AxRfB
import Derived.Test.YtepodadinenmnaaGreatS14AxTyA
import Derived.Test.YtepodadinenmnaaGreatS14AxEgW
import Derived.Test.YtepodadinenmnaaGreatS14AxVaA
namespace Go.AX
open Go.Proofs
set_option linter.unusedSimpArgs false
def Kj(E:ES):Prop:=∀s∈E.pf,s.kind=1∧s.lits.length<=1000∧s.hints.length<=1000
theorem CkE.kin{n r s:Nat}{F:List (List Int)}{l l':List Rc}{E a:ES}{c:Ck}(K:CkE F l E c)(h:EI n F r s l E)(d:Kj E)(k:Rq l E l' a)(oM:E.id+1<=10000000):(∃c',CkE F l' a c')∧Kj a∧a.id<=E.id+1∧a.pf.length<=E.pf.length+1:=by
 rcases k with⟨rfl,b,f⟩|⟨ho,e,rfl,q,p,k,rfl⟩
 .exact⟨⟨c,{K with run:=by rw[b];exact K.run,last:=K.last.trans f.symm,may:=by rw[b];exact K.may}⟩,by unfold Kj;rw[b];exact d,by omega,by rw[b];omega⟩
 .refine⟨⟨_,K.res h e oM q p k⟩,λs hs=>?_,T8 _,by show(E.pf++[_]).length<=_;simp⟩;have R:=h.res e;have g:=h.n9;rcases RS.1 hs with hs|hs
  .exact d s hs
  .rw[Sp]at hs;subst hs;exact⟨rfl,by have:=R.len;dsimp only;omega,by have:=R.hle;dsimp only;rw[RR];omega⟩
end Go.AX
namespace Go.AX
set_option maxRecDepth 16000
open Go.Proofs
set_option linter.unusedSimpArgs false
def xR(c:Ck):List (List Int):=c.m.map (·.2)
theorem pO(c:Ck)(o:c.m.length<=100000):aB Tryz.prog 110 [nc false c] [] (λr g'=>g'=[]∧r=.pv (.seq true 1 ((xR c).map an))):=by
 refine dV [] [.tmp 2] aE Tryz.func110 ?_;obtain⟨Q,a⟩:∃Q:Nat->List (List PV),∀i,Q i=((c.m.take i).map (·.2)).map an:=⟨_,λ_=>rfl⟩;have b:Q 0=[]:=by rw[a];rfl
 have e:Q c.m.length=(xR c).map an:=by rw[a,R8];rfl
 have g:∀i (h:i<c.m.length),Q (i+1)=Q i++[[.seq false 1 (aa c.m[i].2)]]:=λi h=>by
  rw[a,a,SA,RF h,Sb,Sb];rfl
 have f:∀i,(Q i).length<=c.m.length:=λi=>by rw[a];simp;omega
 simp;refine av.intro (S:=λ(i:Nat)=>⟨[(1,.pv (.ptr 0 0)),(3,.own true 1 (Q i)),(4,.pv (ae i))],[[.pv (.seq false 2 (c.m.map bN)),.pv (ae c.last),.pv (BL c.done)]]⟩) (λi=>i<=c.m.length) (λi=>c.m.length -i) 0 ?_ (RW _) ?_
 .exact(af.nilOwn (s:=3) 1 true (by simp)).trans (af.keep (by simp[b]) (by simp))
 intro i hi;have l:=f i
 by_cases d:i<c.m.length
 .have n:=dq i;have k:c.m[i]?=some c.m[i]:=RF d;have j:=g i d;simp[d,k,bN];exact⟨by omega,i+1,by(try dsimp only);omega,by(try dsimp only);omega,af.keep (by simp[n,j]) (by simp[bN])⟩
 .have:i=c.m.length:=by omega
  subst this;simp[e,bu]
def J9(c:Ck)(n:Int):Int:=((c.m.filter λq=>decide (n<q.1)).length:Int)
theorem AD(c:Ck)(n:Int)(t:c.m.length<=100000):am Tryz.prog 52 [nc false c,ae n] (λr=>r=.pv (ae (J9 c n))):=by
 refine aq aE Tryz.func52 ?_;obtain⟨Q,b⟩:∃Q:Nat->Nat,∀i,Q i=((c.m.take i).filter λq=>decide (n<q.1)).length:=⟨_,λ_=>rfl⟩;have f:Q 0=0:=by rw[b];rfl
 have g:(Q c.m.length:Int)=J9 c n:=by rw[b,R8];rfl
 have k:∀i (h:i<c.m.length),Q (i+1)=Q i+if n<c.m[i].1 then 1 else 0:=λi h=>by
  rw[b,b,SA,RF h];simp only[Ty,S5,RP,Sz,U0];split<;>simp_all
 have j:∀i,Q i<=c.m.length:=λi=>by rw[b];exact Sn (Ta _ _) (by simp;omega)
 simp;refine av.intro (S:=λ(i:Nat)=>⟨[(1,.pv (ae n)),(2,.pv (.ptr 0 0)),(5,.pv (ae (Q i))),(6,.pv (ae i))],[[.pv (.seq false 2 (c.m.map bN)),.pv (ae c.last),.pv (BL c.done)]]⟩) (λi=>i<=c.m.length) (λi=>c.m.length -i) 0 ?_ (RW _) ?_
 .exact af.keep (by simp[f]) (by simp)
 intro i hi;have s:=j i
 by_cases d:i<c.m.length
 .have p:=dq i;have l:=dq (Q i);have o:c.m[i]?=some c.m[i]:=RF d;have a:=k i d
  by_cases e:n<c.m[i].1
  .rw[RI e]at a;simp[d,o,bN,e];exact⟨i+1,by(try dsimp only);omega,by(try dsimp only);omega,af.keep (by simp[p,l,a]) (by simp[bN])⟩
  .rw[RH e]at a;simp[d,o,bN,e];exact⟨i+1,by(try dsimp only);omega,by(try dsimp only);omega,af.keep (by simp[p,a]) (by simp[bN])⟩
 .have:i=c.m.length:=by omega
  subst this;simp[g]
def qD(l:List Int)(n:Nat):List Bool:=(List.range n).map λ(i:Nat)=>decide (bH l ((i:Int)+1)=1)
theorem Ga(l:List Int)(n:Nat)(c:l.length<=1000000)(hn:n<=100000):am Tryz.prog 19 [.seq false 1 (aa l),ae n] (λr=>r=.own true 1 (cM (qD l n))):=by
 refine aq aE Tryz.func19 ?_;have h1:¬(n:Int)<0:=by omega
 have b:¬(100000:Int)<n:=by omega
 simp[h1,b];refine av.intro (S:=λ(i:Nat)=>⟨[(0,.pv (.seq false 1 (aa l))),(1,.pv (ae n)),(5,.own true 1 (cM (qD l i))),(6,.pv (ae ((i:Int)+1)))],[]⟩) (λi=>i<=n) (λi=>n -i) 0 ?_ (RW _) ?_
 .exact(af.nilOwn (s:=5) 1 true (by simp)).trans (af.keep (by simp[qD,cM]) (by simp))
 intro i hi;have a:(qD l i).length=i:=by simp[qD]
 by_cases d:i<n
 .have e:aR ((i:Int)+1+1)=(i:Int)+1+1:=ap (by omega) (by omega);have c1:(i:Int)+1<=n:=by omega
  have hs:cM (qD l (i+1))=cM (qD l i)++[[BL (decide (bH l ((i:Int)+1)=1))]]:=by
   unfold qD cM;rw[Uq];simp
  simp[c1];refine ai.intro (fP l ((i:Int)+1) c) ?_;simp;exact⟨by simp[cM,a];omega,i+1,by(try dsimp only);omega,by(try dsimp only);omega,af.keep (by simp[e,hs]) (by simp)⟩
 .have:i=n:=by omega
  subst this;have c1:¬(i:Int)+1<=i:=by omega
  simp[c1]
theorem Gb(v:Int)(L:List (List Int))(m:List Bool)(e:L.length<=1000000)(b:∀x∈L,x.length<=1000000):am Tryz.prog 18 [.agg [ae v,.seq false 1 (L.map an)],.seq false 1 (cM m)] (λr=>r=.pv (BL (decide ((m.length:Int)=v)&&decide (jL L m=-1)))):=by
 refine aq aE Tryz.func18 ?_;have d:=Aa v L m (by omega) (λx hx=>by have:=b x hx;omega);have a:(cM m).length=m.length:=by simp[cM]
 simp[a];refine aH.intro (λ_=>d) ?_
 by_cases c:(m.length:Int)=v
 .simp[c]
 .simp[c]
theorem xS(c:Ck)(l:List Int)(a:c.m.length<=100000)(d:l.length<=1000)(b:fewC (xR c)):am Tryz.prog 107 [nc false c,.seq false 1 (aa l)] (λr=>r=.pv (.tup [.seq true 1 (aa (eV (xR c) l).1),BL (decide (0<=(eV (xR c) l).2.2))])):=by
 refine iG [4,5] aE Tryz.func107 (λ_ _=>results_tmp2 rfl _ _ _) ?_;have e:=(pO c a).mono (R':=λr _=>r=.pv (.seq true 1 ((xR c).map an))) λ_ _ h=>h.2;have f:=BK (xR c) l d b;simp;refine ai.introX (bC.pureM (p:=[]) (q:=[]) (zs:=[nc false c]) e (by simp) rfl (by simp[dW]) (by simp) (by simp) ?_);simp;refine ai.intro f ?_;simp
def lI(v:Int)(L:List (List Int)):Int:=if(eX v L).2≠0 then(eX v L).2 else if 900<v then 3 else 0
def oL(v:Int)(L:List (List Int)):Ck:=if lI v L≠0 then⟨[],0,false⟩else de L
theorem AF(v:Int)(L:List (List Int))(j:L.length<=100000)(g:∀c∈L,c.length<=1000000):aB Tryz.prog 48 [.agg [ae v,.seq false 1 (L.map an)]] [] (λr g'=>g'=[]∧r=.pv (.tup [nc false (oL v L),ae (lI v L)])):=by
 refine dV [] [.cell 2 _,.tmp 3] aE Tryz.func48 ?_;have i:=vC v L g;have k:=(Ll v L j g).mono (R':=λr _=>r=.pv (.tup [nc false (vI v L),ae (eX v L).2])) λ_ _ h=>h.2;have f:vI v L=if(eX v L).2≠0 then⟨[],0,false⟩else de L:=rfl;have a:lI v L=if(eX v L).2≠0 then(eX v L).2 else if 900<v then 3 else 0:=rfl;have b:oL v L=if lI v L≠0 then⟨[],0,false⟩else de L:=rfl;generalize oL v L=K at*;generalize lI v L=e at*;generalize vI v L=D at*;simp;refine ai.intro i ?_
 by_cases c:(eX v L).2=0
 rotate_left
 .rw[RI c]at a;subst a;rw[RI c]at b;subst b;simp[c,bu,bd]
 rw[RH (by simp[c])]at a f;subst f
 by_cases d:900<v
 .rw[RI d]at a;subst a;rw[RI (by decide)]at b;subst b;simp[c,d,bu,bd]
 .rw[RH d]at a;subst a;rw[RH (by decide)]at b;subst b;simp[c,d];refine ai.introX (bC.pureM (p:=[]) (q:=[]) (zs:=[.agg [ae v,.seq false 1 (L.map an)]]) k (by simp) rfl (by simp[dW]) (by simp) (by simp) ?_);simp[c,bu,bd]
end Go.AX
namespace Go.AX
set_option maxRecDepth 16000
open Go.Proofs
set_option linter.unusedSimpArgs false
structure PlS where
  c:Ck
  steps:Int
  first:Int
  bad:Bool
  calm:Bool
  vars:Int
  beg:List Int
def bR(be:Nat)(P:PlS):List SV:=[.pv (.ptr be 0),.pv (.seq false 2 (P.c.m.map bN)),.pv (ae P.c.last),.pv (BL P.c.done),.pv (ae P.steps),.pv (ae P.first),.pv (BL P.bad),.pv (BL P.calm),.pv (ae P.vars),.own true 1 (aa P.beg)]
def ux(was:List Int)(b m:Int)(k:Nat):Bool:=((was.take k).drop b.toNat).any λx=>decide (x=m)
theorem Gc(was:List Int){b:Int}(m:Int){k:Nat}(h:k<was.length)(a:b.toNat<=k):ux was b m (k+1)=(ux was b m k||decide (was[k]=m)):=by
 unfold ux;rw[SN h,SU (by simp;omega),List.any_append];simp
def pP(beg was:List Int)(m:Int):Nat->Int
 |0=>0
 |i+1=>if ux was (beg.getD i 0) m was.length=true then((i+1:Nat):Int)else pP beg was m i
section
variable {h : List (List SV)} {bp be : Nat} {P : PlS}
theorem Ge(x:h[bp]?=some (bR be P))(was:List Int)(l:Int)(A:was.length<=1000000)(y:∀b∈P.beg,0<=b∧b<=was.length)(hn:P.beg.length<=1000000):
 aB Tryz.prog 185 [.ptr bp 0,.seq false 1 (aa was),ae l] h (λr h'=>h'=h∧r=.pv (ae (pP P.beg was (aR (-l)) P.beg.length))):=by
 refine fD [] [.tmp 6] aE Tryz.func185 ?_;obtain⟨f,a⟩:=RE.1 x;obtain⟨N,m⟩:∃N:Nat->Int,∀i,N i=pP P.beg was (aR (-l)) i:=⟨_,λ_=>rfl⟩;have o:N 0=0:=by rw[m];rfl
 rw[←m];have q:h[bp][9]?=some (.own true 1 (aa P.beg)):=by rw[a];rfl
 simp;refine av.intro (S:=λ(i:Nat)=>⟨[(0,.pv (.ptr bp 0)),(1,.pv (.seq false 1 (aa was))),(2,.pv (ae l)),(7,.pv (ae (N i))),(8,.pv (ae i))],h⟩) (λi=>i<=P.beg.length) (λi=>P.beg.length -i) 0 ?_ (RW _) ?_
 .exact af.keep (by simp[o]) rfl
 intro i hi
 by_cases d:i<P.beg.length
 .have g:=dq i;have t:=y _ (RK d);obtain⟨b,c⟩:=Te t.1;have s:P.beg.getD i 0=(b:Int):=by simp[d,c]
  have p:N (i+1)=if ux was b (aR (-l)) was.length=true then((i+1:Nat):Int)else N i:=by rw[m,pP,s,m]
  simp[f,a,bR,d,c];refine av.intro (S:=λ(k:Nat)=>⟨[(0,.pv (.ptr bp 0)),(1,.pv (.seq false 1 (aa was))),(2,.pv (ae l)),(7,.pv (ae (if ux was b (aR (-l)) k=true then((i+1:Nat):Int)else N i))),(8,.pv (ae i)),(9,.pv (ae k))],h⟩) (λk=>b<=k∧k<=was.length) (λk=>was.length -k) b ?_ ⟨RJ _,by omega⟩ ?_
  .have:ux was b (aR (-l)) b=false:=by unfold ux;simp
   exact af.keep (by simp[this]) rfl
  rintro k ⟨v,z⟩
  by_cases n:k<was.length
  .have j:=dq k;have hs:=Gc was (b:=b) (aR (-l)) n (by simpa using v)
   by_cases e:was[k]=aR (-l)
   .simp[n,e,g];exact⟨k+1,by(try dsimp only);omega,⟨by(try dsimp only);omega,by(try dsimp only);omega⟩,af.keep (by simp[j,hs,e]) rfl⟩
   .simp[n,e];exact⟨k+1,by(try dsimp only);omega,⟨by(try dsimp only);omega,by(try dsimp only);omega⟩,af.keep (by simp[j,hs,e]) rfl⟩
  .have w:k=was.length:=by omega
   subst w;rw[←p];simp;exact⟨i+1,by(try dsimp only);omega,by(try dsimp only);omega,af.keep (by simp[g]) rfl⟩
 .have u:i=P.beg.length:=by omega
  subst u;simp[f,a,bR]
def uf(beg was lits:List Int)(u:Int):Nat->Int
 |0=>0
 |i+1=>if lits.getD i 0=u then uf beg was lits u i else max (uf beg was lits u i) (pP beg was (aR (-(lits.getD i 0))) beg.length)
theorem CF(m:h[bp]?=some (bR be P))(was lits:List Int)(u:Int)(q:was.length<=1000000)(t:lits.length<=1000000)(o:∀b∈P.beg,0<=b∧b<=was.length)(hn:P.beg.length<=1000000):
 aB Tryz.prog 113 [.ptr bp 0,.seq false 1 (aa was),.seq false 1 (aa lits),ae u] h (λr h'=>h'=h∧r=.pv (ae (uf P.beg was lits u lits.length))):=by
 refine fD [] [.tmp 8] aE Tryz.func113 ?_;obtain⟨p,n⟩:=RE.1 m;obtain⟨N,f⟩:∃N:Nat->Int,∀i,N i=uf P.beg was lits u i:=⟨_,λ_=>rfl⟩;have g:N 0=0:=by rw[f];rfl
 rw[←f];simp;refine av.intro (S:=λ(i:Nat)=>⟨[(0,.pv (.ptr bp 0)),(1,.pv (.seq false 1 (aa was))),(2,.pv (.seq false 1 (aa lits))),(3,.pv (ae u)),(9,.pv (ae (N i))),(10,.pv (ae i))],h⟩) (λi=>i<=lits.length) (λi=>lits.length -i) 0 ?_ (RW _) ?_
 .exact af.keep (by simp[g]) rfl
 intro i hi
 by_cases d:i<lits.length
 .have c:=dq i;have j:lits.getD i 0=lits[i]:=by simp[d]
  have a:N (i+1)=if lits[i]=u then N i else max (N i) (pP P.beg was (aR (-lits[i])) P.beg.length):=by rw[f,uf,j,f]
  have s:=Ge m was lits[i] q o hn
  by_cases e:lits[i]=u
  .rw[RI e]at a;simp[d,e];exact⟨i+1,by(try dsimp only);omega,by(try dsimp only);omega,af.keep (by simp[c,a]) rfl⟩
  .rw[RH e]at a;simp[d,e];refine aj.intro s ?_;rintro _ _ ⟨rfl,rfl⟩;simp;have l:N (i+1)=if N i<pP P.beg was (aR (-lits[i])) P.beg.length then pP P.beg was (aR (-lits[i])) P.beg.length else N i:=by rw[a];split<;>omega
   exact⟨i+1,by(try dsimp only);omega,by(try dsimp only);omega,af.keep (by simp[c,l]) rfl⟩
 .have k:i=lits.length:=by omega
  subst k;simp
end
end Go.AX
namespace Go.AX
open Go.Proofs
set_option linter.unusedSimpArgs false
def Ka:Sch:=
 let g:Sch:=.fork [(16,.take 17 .done)]
 let l:Sch:=.fork [(15,g)]
 let e:Sch:=.fork [(11,.take 12 (.take 13 (.take 14 g)))]
 let h:Sch:=.fork [(11,.take 12 (.take 13 (.take 14 l))),(15,e)]
 let f:Sch:=.fork [(10,e)]
 let i:Sch:=.fork [(10,h),(15,f)]
 let j:Sch:=.fork [(8,.take 9 f)]
 let m:Sch:=.fork [(8,.take 9 i),(15,j)]
 let k:Sch:=.fork [(3,e)]
 let n:Sch:=.fork [(3,h),(15,k)]
 let a:Sch:=.fork [(3,f),(10,k)]
 let b:Sch:=.fork [(3,i),(10,n),(15,a)]
 let c:Sch:=.fork [(3,j),(8,.take 9 a)]
 let d:Sch:=.fork [(3,m),(8,.take 9 b),(15,c)]
 .take 0 (.take 1 (.take 2 (.take 4 (.take 5 (.take 6 (.take 7 d))))))
def Kb:Sch:=
 let a:Sch:=.fork [(9,.take 10 (.take 11 .done))]
 let b:Sch:=.fork [(8,a)]
 let c:Sch:=.fork [(4,.take 10 (.take 11 .done))]
 let d:Sch:=.fork [(4,a),(9,c)]
 let e:Sch:=.fork [(4,b),(8,d)]
 .take 0 (.take 1 (.take 2 (.take 3 (.take 5 (.take 6 (.take 7 e))))))
theorem CG{k be:Nat}(h:be<k)(P:PlS):cX k (bR be P):=⟨h,zF k _,trivial,trivial,trivial,trivial,trivial,trivial,trivial,bc k _,trivial⟩
section
variable {h : List (List SV)} {bp be bt ba bw bh : Nat} {P : PlS} {E : ES} {c' : Ck}
set_option maxRecDepth 16000 in
set_option maxHeartbeats 2000000 in
theorem qE{k0 N:Nat}(hb:h[bp]?=some (bR be P))(R:h[be]?=some (bQ bt ba bw bh E))(V:bp≠be)(b:Int)(I:P.steps=k0)(hk:k0<=E.pf.length)(hm:(E.pf.length:Int)<=k0+b)(ab:0<=b∧b<=1000)
 (t:iY P.c (E.pf.drop k0) c') (A:CkN (N+k0) P.c) (F:CkG P.c) (O:N+E.pf.length<=900) (hp:∀s∈E.pf,s.lits.length<=1000∧s.hints.length<=1000):
 aB Tryz.prog 54 [.ptr bp 0,ae b] h (λr h'=>h'=h.set bp (bR be {P with c:=c',steps:=(E.pf.length:Int)})∧r=.pv (BL (decide (c'.done=E.over)))):=by
 refine aB.below (by kernel_rfl) λT=>?_;refine cR [6,10] [.tmp 4] aE Tryz.func54 ?_;obtain⟨l,v⟩:=RE.1 hb;obtain⟨hle,aa⟩:=RE.1 R;have W:E.pf.length<=900:=by omega
 have kP:=qB R (by omega) (λs hs=>by have:=hp s hs;omega);have hw:=ap (n:=(k0:Int)+b) (by omega) (by omega);have c1:¬((E.pf.length:Int)<k0):=by omega
 have c2:¬((k0:Int)+b<E.pf.length):=by omega
 simp[l,v,bR];refine aj.intro kP ?_;rintro _ h ⟨rfl,rfl⟩;obtain⟨ss,X⟩:∃ss,E.pf=ss:=⟨_,rfl⟩;rw[X]at hk hm t O hp W c1 c2⊢;simp[l,v,bR,I,hw,c1,c2];refine av.intro (S:=λ(x:Nat×Ck)=>⟨[(0,.pv (.ptr bp 0)),(5,.pv (.seq true 4 (ss.map l4)))],h.set bp (bR be {P with c:=x.2,steps:=(x.1:Int)})⟩)
  (λx=>x.1<=ss.length∧iY x.2 (ss.drop x.1) c'∧CkN (N+x.1) x.2∧CkG x.2) (λx=>ss.length -x.1) (k0,P.c) ?_ ⟨hk,t,A,F⟩ ?_
 .refine af.keep (by simp) ?_;rw[←I,←v,UH]
 rintro⟨i,d⟩ ⟨hi,t,A,F⟩;dsimp only at hi t A F;obtain⟨G,z⟩:∃G,G=h.set bp (bR be {P with c:=d,steps:=(i:Int)}):=⟨_,rfl⟩;have a:bp<G.length:=by rw[z];simpa using l
 have f:G[bp]=bR be {P with c:=d,steps:=(i:Int)}:=by simp[z]
 have u:∀x,(G++x)[bp]?=some (bR be {P with c:=d,steps:=(i:Int)}):=λx=>by rw[RL a,RF a,f]
 have j:∀x h',(G++x)[bp]'h'=bR be {P with c:=d,steps:=(i:Int)}:=λx h'=>by rw[SE a,f]
 have M:∀y x,(G.set bp y++x)[bp]?=some y:=λy x=>by rw[RL (by simpa using a),Su a]
 have L:G[be]?=some (bQ bt ba bw bh E):=by rw[z,RY V];exact R
 rw[←z]
 by_cases B:i<ss.length
 .have Z:=dq i;have ad:=hp _ (RK B);rw[Sk B]at t;obtain⟨K,r2⟩:=t;have w:=FM F ss[i];have H:=(Cb F K).1;have C:=A.step (s:=ss[i]) (by omega);have kS:=(IM d (A.ok (by omega)) (by have:=A.n;omega) ss[i] (by omega) (by omega)).mono (R':=λr _=>r=.pv (.tup [nc false (eY d ss[i]).1,ae 0])) λ_ _ T=>by rw[T.2,w,K]
  generalize eY d ss[i]=D at*;obtain⟨D,e⟩:=D;dsimp only at K r2 H C kS;subst K;have kT:=kS.args (xs:=[nc false d,.agg (l4 ss[i])]) (by simp[bd,bu,l4,gD]);have o:List.take 4 (l4 ss[i])=l4 ss[i]:=rfl;have k:eI (bG G 3) (l4 ss[i])=gD ss[i]:=by simp[l4,gD]
  have g:bO 0 (l4 ss[i]):=by simp[l4]
  obtain⟨Y,J⟩:∃Y,Y=l4 ss[i]:=⟨_,rfl⟩;rw[←J]at o k g kT;simp[B,a,f,bR,←J,o];refine aQ.meet Ka ⟨[(0,.pv (.ptr bp 0)),(5,.pv (.seq true 4 (ss.map l4))),(6,.pv (.ptr G.length 0)),(7,.pv (ae 0))],G++[[.pv (.seq false 2 (D.m.map bN)),.pv (ae D.last),.pv (BL D.done)]]⟩ (by kernel_rfl) ?_ ?_
  .simp[Ka,B,a,f,u,j,bR,←J,o,k,g];and_intros
   all_goals first
    |refine ai.introX (bC.pureM (p:=[]) (q:=[]) (zs:=[nc false d,.agg Y]) kT (by simp) rfl (by simp[dW,k,g]) (by simp[g]) (by simp[k,g]) ?_)
     simp[B,a,f,u,j,bR,←J,o,k,g]
     try and_intros
     all_goals exact af.keep (by simp) (by simp)
    |skip
  .simp[a,u,j,M,Z,bR];refine⟨(i+1,D),by(try dsimp only);omega,⟨by(try dsimp only);omega,r2,C,H⟩,af.to (by simp) ?_ (by simp) (by simpa using l) ?_⟩
   .simp[z,bR]
   .rw[Sg];exact dQ (CG hle {P with c:=D,steps:=((i+1:Nat):Int)}) bp T
 .have U:i=ss.length:=by omega
  subst U;rw[Wb]at t;have Q:d=c':=t;subst Q;simp[a,f,bR];have kO:=fg L;refine aQ.one Kb (by kernel_rfl) ?_;simp[Kb,a,f,bR];and_intros
  all_goals
   refine aj.intro kO ?_;rintro _ _ ⟨rfl,rfl⟩;simp[a,f,bR];exact⟨z,by cases d.done<;>cases E.over<;>rfl⟩
end
theorem TMk.cons{n:Nat}{T:Tr}(h:TMk n T):Cons T.lits:=λ_ hy a=>h.one hy a
theorem Grow.der{n:Nat}{S:WS}{T0 T:Tr}(f:TOk n T0){cs:List (List Int)}(h:∀k c,CW S k c->c∈cs)(g:Grow (CW S) n T0 T):TOk n T∧Der cs T0.lits T.lits:=by
 induction g with
 |refl=>exact⟨f,.base⟩
 |@step T k o c _ h1 d b l e a=>
  obtain⟨m,i,j⟩:=(a.1.may o).1 b;exact⟨a.1.imp b k,.step a.2 (h _ _ h1) d i j e⟩
theorem LO{was:List Int}(hn:was.Nodup){q:Nat}(d:q<was.length){b:Int}(a:0<=b):ux was b was[q] was.length=decide (b<=q):=by
 unfold ux;rw[R8]
 by_cases c:b<=q
 .rw[Tk c,Tm];exact⟨was[q],Um.2 ⟨q -b.toNat,by omega,by congr 1;omega⟩,by simp⟩
 .rw[TB c,Tv];intro x hx e;obtain⟨j,hj,rfl⟩:=Um.1 hx;have e:was[b.toNat+j]=was[q]:=by simpa using e
  have:=(List.getElem_inj hn).1 e;omega
theorem Eh{beg was:List Int}(hn:was.Nodup)(g:beg.Pairwise (·<·))(e:∀b∈beg,0<=b){q:Nat}(f:q<was.length):∀i,i<=beg.length->pP beg was was[q] i=(((beg.take i).filter λb=>decide (b<=(q:Int))).length:Nat)
 |0,_=>rfl
 |i+1,h=>by
  have hi:i<beg.length:=by omega
  have k:beg.getD i 0=beg[i]:=by simp[hi]
  rw[pP,k,LO hn f (e _ (RK hi)),Eh hn g e f i (by omega),SN hi,S5,RP]
  by_cases c:beg[i]<=(q:Int)
  .have a:(beg.take i).filter (λb=>decide (b<=(q:Int)))=beg.take i:=by
    rw[TG];intro b d;obtain⟨j,hj,rfl⟩:=SS.1 d;have:=Sl.1 g j i (by omega) hi (by omega);simp;omega
   rw[a];simp[c];omega
  .simp[c]
theorem Nr{n:Nat}{T:Tr}(a:TOk n T)(hn:n<=1000000){l:Int}(h:-l∈T.lits)(g:ax l n=0):pP T.beg T.lits (aR (-l)) T.beg.length=dO T l:=by
 obtain⟨q,c,e⟩:=RU h;have ho:=V.okL_chk (v:=n) (by have:=a.hn;omega) g;rw[(V.litO ho).2.2.2.2,←e,Eh a.toTMk.nodup a.rise (λb f=>(a.bnd b f).1) c _ (RJ _),R8];have d:l=-T.lits[q]:=by omega
 rw[d,xM a c];rfl
theorem Kc{beg was lits:List Int}{u k:Int}(h:∀y∈lits,y≠u->pP beg was (aR (-y)) beg.length<=k)(hk:0<=k):∀i,i<=lits.length->0<=uf beg was lits u i∧uf beg was lits u i<=k
 |0,_=>⟨T8 _,hk⟩
 |i+1,hi=>by
  have b:=Kc h hk i (by omega);have a:lits.getD i 0=lits[i]:=by simp[show i<lits.length by omega]
  rw[uf,a];split
  .exact b
  .rename_i c;have:=h _ (RK (show i<lits.length by omega)) c;omega
theorem Kd{beg was lits:List Int}{u:Int}:∀i,i<=lits.length->∀j (hj:j<lits.length),j<i->lits[j]≠u->pP beg was (aR (-lits[j])) beg.length<=uf beg was lits u i
 |0,_,j,_,h,_=>by omega
 |i+1,hi,j,hj,h,a=>by
  have b:lits.getD i 0=lits[i]:=by simp[show i<lits.length by omega]
  rw[uf,b]
  by_cases e:j=i
  .subst e;rw[RH a];omega
  .have:=Kd (beg:=beg) (was:=was) i (by omega) j hj (by omega) a;split<;>omega
section
variable {n r s : Nat} {F : List (List Int)} {l : List Rc} {E : ES}
theorem EI.asked(h:EI n F r s l E)(i:0<=E.con){u:Int}{w:List Int}(e:az E=u::w):uf E.T.beg E.T.lits (az E) u (az E).length=dB E.T (az E):=by
 have R:=h.res i;have m:=h.n9;rcases R.lev with⟨_,a⟩|⟨o,p,a,b0,b1,b2,b3,b4⟩
 .rw[e]at a;cases a
 rw [e] at a; obtain ⟨rfl, rfl⟩ := List.cons.inj a; have c := R.nd; rw [e, Tg] at c; have b : ∀ y ∈ az E, pP E.T.beg E.T.lits (aR (-y)) E.T.beg.length = dO E.T y := λ y hy => Nr h.tok (by omega) (R.neg y hy) (R.chk y hy); have h1 := Kc (beg := E.T.beg) (was := E.T.lits) (lits := az E) (u := u) (k := dB E.T (az E)) (λ y hy f => by
  rw[b y hy];rw[e]at hy;exact b3 y ((R9.1 hy).resolve_left f)) b0 _ (RJ _)
 rcases b4 with b4|⟨y,hy,b4⟩
 .omega
 .have d:y∈az E:=by rw[e];exact RZ _ hy
  obtain⟨j,hj,ej⟩:=RU d;have g:=Kd (beg:=E.T.beg) (was:=E.T.lits) (u:=u) _ (RJ _) j hj hj (by rw[ej];exactλa=>c.1 (a▸hy));rw[ej,b y d]at g;omega
theorem EI.uok(h:EI n F r s l E):UOk n (rC l)where
 hn:=by have:=h.n9;omega
 nd:=λc a=>by obtain⟨y,hy,rfl⟩:=RO.1 a;exact(h.cls y hy).2.1
 len:=λc a=>by obtain⟨y,hy,rfl⟩:=RO.1 a;exact(h.cls y hy).1
 chk:=λc a=>by obtain⟨y,hy,rfl⟩:=RO.1 a;exact(h.cls y hy).2.2
theorem EI.fol(h:EI n F r s l E):decide (0<=(eV (rC l) E.T.lits).2.2)=decide (0<=(dC E.S E.T).2.2)∧E.T.lits<+:(dC E.S E.T).2.1.lits∧((dC E.S E.T).2.2<0->(dC E.S E.T).2.1.lits.length=(eV (rC l) E.T.lits).1.length∧KO (dC E.S E.T).2.1.lits (eV (rC l) E.T.lits).1=true∧zR (rC l) (dC E.S E.T).2.1.lits=true):=by
 have v:=xC h.wok h.tok;have w:=h.uok;have u:=h.prp;have g:=u.cal;have i:=u.con;have m:∀c∈rC l,c.length<=1000∧∀y∈c,cF y=true:=λc o=>by obtain⟨y,hy,rfl⟩:=RO.1 o;exact h.cl hy
 dsimp only at g i;have j:=v.grow;have p:=v.tok;generalize(dC E.S E.T).2.1=t at*;generalize(dC E.S E.T).2.2=k at*;obtain⟨_,z⟩:=j.der h.tok (cs:=rC l) λk c o=>by
  obtain⟨x,hx,_,e⟩:=(h.att k c).1 o;exact e▸TI hx
 have b:=p.toTMk.cons;have f:(k<0∧Calm (rC l) t.lits)∨(0<=k∧∃c∈rC l,pS t.lits c=-1):=by
  by_cases c:k<0
  .refine .inl ⟨c,xK m (λy _ hy=>b y hy.1 hy.2) λd hd=>?_⟩;obtain⟨x,hx,rfl⟩:=RO.1 hd;exact g (by simpa using c) x hx
  .obtain⟨x,hx,_,e⟩:=i (by omega);exact .inr ⟨by omega,x.lits,TI hx,(w.fail b (TI hx)).2 e⟩
 have a:=I6 w h.tok.toTMk.cons h.tok.toTMk.nodup z (f.imp And.right And.right);refine⟨?_,j.pre.1,λhk=>?_⟩
 .rw[decide_eq_decide];rcases f with⟨c,q⟩|⟨c,q⟩
  .have:=(a.2 q).1;omega
  .exact⟨λ_=>c,λ_=>a.1.2 q⟩
 .rcases f with⟨_,q⟩|⟨c,_⟩
  .obtain⟨_,A,B⟩:=a.2 q;refine⟨A,?_,I7 q⟩;unfold KO;rw[Se];intro x hx;unfold d7;have:=B x hx;cases cF x<;>simp[this]
  .omega
theorem EI.unitd(h:EI n F r s l E)(a:0<=E.con){u:Int}{w:List Int}(e:az E=u::w):
 pS E.T.lits (az E)=-1∧∃j:Nat,dB E.T (az E)=j∧∃hj:j<E.T.beg.length,bD (bz E.T j).lits (az E)=(u,true)∧(bz E.T j).lits=E.T.lits.take (E.T.beg[j]).toNat∧(bz E.T j).beg=E.T.beg.take j∧fE (bz E.T j) u=0:=by
 have R:=h.res a;have v:=h.n9;have d:=h.tok.toTMk.cons;have o:UOk n [az E]:=⟨by omega,λc a=>by simp at a;subst a;exact R.nd,λc a=>by simp at a;subst a;have:=R.len;omega,λc a=>by simp at a;subst a;exact R.chk⟩;refine⟨(o.fail d (by simp)).2 R.neg,?_⟩;rcases R.lev with⟨_,g⟩|⟨x,z,g,b0,b1,b2,b3,b4⟩
 .rw[e]at g;cases g
 rw[e]at g;obtain⟨rfl,rfl⟩:=List.cons.inj g;obtain⟨j,hj⟩:∃j:Nat,dB E.T (az E)=j:=⟨(dB E.T (az E)).toNat,by omega⟩;have b:j<E.T.beg.length:=by omega
 obtain⟨t1,t,t3⟩:=h.tok.back b;have f:u∈az E:=by rw[e];simp
 have i:-u∈E.T.lits:=R.neg u f;have p:u∉(bz E.T j).lits:=λk=>by
  rw[t]at k;exact h.tok.one (Sx k) i
 have q:-u∉(bz E.T j).lits:=λk=>by
  have:=(rT h.tok b i).1 k;omega
 refine⟨j,hj,b,o.unit_of t1.toTMk.cons (by simp) f p q λy hy m=>?_,t,t3,(t1.may u).2 ⟨R.chk u f,p,q⟩⟩;refine(rT h.tok b (R.neg y hy)).2 ?_;rw[e]at hy;have:=b3 y ((R9.1 hy).resolve_left m);omega
end
structure PyK (n:Nat) (F:List (List Int)) (k:Nat) (l:List Rc) (E:ES) (P:PlS):Prop where
  ck:CkE F l E P.c
  st:P.steps=E.pf.length
  fi:P.first=F.length
  vr:P.vars=n
  bad:P.bad=(!E.over&&decide (0<=E.con))
  cal:E.over=false->P.calm=E.calm
  beg:E.over=false->P.beg=E.T.beg
  few:l.length+k<=120
  pfk:E.pf.length+k<=60
  pfs:Kj E
structure PyJ (n:Nat) (F:List (List Int)) (r s:Nat) (h:List (List SV)) (be bt ba bw bh:Nat) (mp:List (Int×Nat)) (mb:List (Int×By)) (bp:Nat) (E:ES) (l:List Rc) (P:PlS):Prop where
  L:LayE h be bt ba bw bh mp mb E
  J:EJ n F r s l E
  b:h[bp]?=some (bR be P)
  nd:¬df be bt ba bw bh mp mb bp
  K:PyK n F r l E P
def pQ(be bt ba bw bh bp:Nat)(mp:List (Int×Nat))(mb:List (Int×By))(b:Nat):Prop:=b=bp∨df be bt ba bw bh mp mb b
section
variable {n r s : Nat} {F : List (List Int)} {h : List (List SV)} {be bt ba bw bh bp : Nat} {mp : List (Int × Nat)} {mb : List (Int × By)} {E : ES} {l : List Rc} {P : PlS}
theorem LayE.other(L:LayE h be bt ba bw bh mp mb E)(b:Nat)(x:List SV)(a:¬df be bt ba bw bh mp mb b):LayE (h.set b x) be bt ba bw bh mp mb E where
 w:=L.w.other b x (λd=>a (.inr (.inr (.inr d)))) (λe=>a (.inr (.inr (.inl e))))
 e:=(RY (λe=>a (.inl e))).trans L.e
 q:=(RY (λe=>a (.inr (.inl e)))).trans L.q
 ne:=L.ne
 eo:=L.eo
 ho:=L.ho
theorem CkE.same{c:Ck}{a:ES}(K:CkE F l E c)(b:a.pf=E.pf)(d:a.id=E.id):CkE F l a c:=
 {K with run:=by rw[b];exact K.run,last:=K.last.trans d.symm,may:=by rw[b];exact K.may}
theorem iY.rest:∀{a b:List Stp}{c d e:Ck},iY c (a++b) d->iY c a e->iY e b d
 |[],_,_,_,_,h,f=>by cases f;exact h
 |_::a,_,_,_,_,h,f=>iY.rest (a:=a) h.2 f.2
theorem EJ.resd{q:HS}{p:List Bool}{k:Int}(I:EJ n F (r+1) (s+(n+3)) l E)(b:0<=E.con)(a:EI n F r s (l++[⟨E.id+1,1,az E⟩]) (nr E q p k)):EJ n F r s (l++[⟨E.id+1,1,az E⟩]) (nr E q p k):=by
 have R:=I.toEI.res b;have c:=R.len;have hle:=R.hle;have d:=I.n9;refine{a with kp:=?_,mny:=?_,pfz:=?_,pfs:=?_,vr:=I.vr,fm:=I.fm}
 .have e:=I.kp;show _<=E.keep;rw[S5];simp;omega
 .have:=I.mny;show 0<=E.many+1∧E.many+1+r<=1000000;omega
 .have:=I.pfz;show(E.pf++[_]).length+r<=1000000;simp;omega
 .intro x hx;rcases RS.1 hx with hx|hx
  .exact I.pfs x hx
  .simp at hx;subst hx;exact⟨by show(az E).length<=_;omega,by simp;omega⟩
theorem PyK.less(K:PyK n F (r+1) l E P):PyK n F r l E P:={K with few:=by have:=K.few;omega,pfk:=by have:=K.pfk;omega}
theorem PyJ.less(Q:PyJ n F (r+1) (s+(n+3)) h be bt ba bw bh mp mb bp E l P):PyJ n F r s h be bt ba bw bh mp mb bp E l P:={Q with J:=Q.J.less,K:=Q.K.less}
theorem PyK.cls(K:PyK n F r l E P):xR P.c=rC l:=by
 have e:=Ul (List.map Prod.snd) (nk l 0 K.ck.al);unfold xR rC;rw[K.ck.m];simpa[SJ,Uz]using e.symm
theorem PyJ.step{h':List (List SV)}{mp':List (Int×Nat)}{mb':List (Int×By)}{f:ES}{l':List Rc}{g:PlS}{k s':Nat}(Q:PyJ n F r s h be bt ba bw bh mp mb bp E l P)(o:LayE h' be bt ba bw bh mp' mb' f)(X:Ext h h' (df be bt ba bw bh mp mb) (df be bt ba bw bh mp' mb'))(m:EJ n F k s' l' f)(K':PyK n F k l' f g):
 PyJ n F k s' (h'.set bp (bR be g)) be bt ba bw bh mp' mb' bp f l' g∧Ext h (h'.set bp (bR be g)) (pQ be bt ba bw bh bp mp mb) (pQ be bt ba bw bh bp mp' mb'):=by
 have j:=(RE.1 Q.b).1;have c:¬df be bt ba bw bh mp' mb' bp:=λd=>Q.nd (X.sub bp j d);have a:=X.len;refine⟨⟨o.other bp _ c,m,Su (by omega),c,K'⟩,by rw[Sg];exact a,λb i d=>?_,λb i d=>?_⟩
 .rw[RY (λe=>d (.inl e.symm))];exact X.same b i λe=>d (.inr e)
 .rcases d with d|d
  .exact .inl d
  .exact .inr (X.sub b i d)
theorem PyK.fewC(K:PyK n F r l E P)(J:EJ n F r s l E):fewC (rC l):=by
 have b:=K.few;have e:=Ul List.length (nk l 0 K.ck.al);simp at e;refine⟨by unfold rC;rw[RR];omega,λc a=>?_⟩;obtain⟨y,hy,rfl⟩:=RO.1 a;exact(J.toEI.cls y hy).1
set_option maxRecDepth 16000 in
theorem CH(Q:PyJ n F r s h be bt ba bw bh mp mb bp E l P):
 aB Tryz.prog 49 [.ptr bp 0] h (λy h'=>y=.pv (BL true)∧∃mb' P',PyJ n F r s h' be bt ba bw bh mp mb' bp (aP E) l P'∧Ext h h' (pQ be bt ba bw bh bp mp mb) (pQ be bt ba bw bh bp mp mb')):=by
 refine cR [] [.tmp 2] aE Tryz.func49 ?_;obtain⟨w,I⟩:=RE.1 Q.b;have B:=Q.J.toEI;have ag:=B.n9;have ae:=B.tok.few;have k1:=fh Q.L (by omega);have k2:=fg Q.L.e;have k3:=t6 Q.L B.wok B.tok;simp[w,I,bR];refine aj.intro k1 ?_;rintro _ h ⟨rfl,rfl⟩;simp[w,I,bR];refine aj.intro k2 ?_;rintro _ h ⟨rfl,rfl⟩;simp[w,I,bR];have key:∀(H:List (List SV))(mb':List (Int×By)),LayE H be bt ba bw bh mp mb' (aP E)->Ext h H (df be bt ba bw bh mp mb) (df be bt ba bw bh mp mb')->PyJ n F r s (H.set bp (bR be {P with bad:=!E.over&&!(aP E).calm,calm:=!E.over&&(aP E).calm})) be bt ba bw bh mp mb' bp (aP E) l {P with bad:=!E.over&&!(aP E).calm,calm:=!E.over&&(aP E).calm}∧Ext h (H.set bp (bR be {P with bad:=!E.over&&!(aP E).calm,calm:=!E.over&&(aP E).calm})) (pQ be bt ba bw bh bp mp mb) (pQ be bt ba bw bh bp mp mb'):=λH mb' O D=>by
  have K:=Q.K;refine Q.step O D (Q.J.to B.prps rfl (by unfold aP;split<;>rfl) (by unfold aP;split<;>rfl) (by unfold aP;split<;>rfl) (by unfold aP;split<;>rfl) (by unfold aP;split<;>rfl)) ?_;have R:(aP E).over=E.over:=by unfold aP;split<;>rfl
  exact{K with
   ck:=K.ck.same (by unfold aP;split<;>rfl) (by unfold aP;split<;>rfl)
   st:=K.st.trans (by unfold aP;split<;>rfl)
   bad:=by
    dsimp only;rw[R];unfold aP;split
    .rename_i c;simp[c]
    .dsimp only;congr 1;rw[←decide_not];congr 1;apply propext;omega
   cal:=λho=>by rw[R]at ho;simp[ho]
   beg:=λho=>by
    rw[R]at ho;rw[show(aP E).T.beg=E.T.beg from by
     unfold aP;split
     .rfl
     .exact(xC B.wok B.tok).grow.pre.2]
    exact K.beg ho
   pfk:=by rw[show(aP E).pf=E.pf from by unfold aP;split<;>rfl];exact K.pfk
   pfs:=by unfold Kj;rw[show(aP E).pf=E.pf from by unfold aP;split<;>rfl];exact K.pfs}
 have ad:P.c.m.length<=120:=by rw[Q.K.ck.m,RR];have:=Q.K.few;omega
 have C:=Q.K.fewC Q.J;have k5:=xS P.c E.T.lits (by omega) (by omega) (by rw[Q.K.cls];exact C);rw[Q.K.cls]at k5;have v:=B.fol;cases ho:E.over
 rotate_left
 .have x:aP E=E:=by unfold aP;rw[RI ho]
  rw[x,ho]at k3 key;rw[x];refine aj.intro k3 ?_;rintro _ H ⟨rfl,mb',O,D⟩;obtain⟨u,A⟩:=key H mb' O D;have Z:=(D.same bp w Q.nd).trans Q.b;obtain⟨a,N⟩:=RE.1 Z;simp[a,N,bR];simp at u A;have V:=fh u.L (by omega);simp only[bR]at V;refine aj.intro V ?_;rintro _ G ⟨rfl,rfl⟩;simp[a];refine aH.intro (λ_=>jp E.T.lits E.T.lits (by omega)) ?_;simp;exact⟨mb',⟨_,u⟩,A⟩
 .have x:aP E={E with S:=(dC E.S E.T).1,T:=(dC E.S E.T).2.1,con:=(dC E.S E.T).2.2,calm:=decide ((dC E.S E.T).2.2<0)}:=by unfold aP;rw[RH (by simp[ho])]
  have R:(aP E).T=(dC E.S E.T).2.1:=by rw[x]
  have o:(aP E).calm=decide ((dC E.S E.T).2.2<0):=by rw[x]
  rw[←R]at v;generalize(dC E.S E.T).2.2=k at*;generalize eV (rC l) E.T.lits=W at*;obtain⟨w1,w2,X⟩:=W;dsimp only at v k5;obtain⟨f1,f2,f3⟩:=v;refine aj.intro k3 ?_;rintro _ H ⟨rfl,mb',O,D⟩;obtain⟨u,A⟩:=key H mb' O D;have Z:=(D.same bp w Q.nd).trans Q.b;obtain⟨a,N⟩:=RE.1 Z;simp[a,N,bR,ho];simp[ho]at u A;have ab:=u.J.toEI.tok.few;have V:=fh u.L (by omega);have f:=f2.length_le;have g:List.take E.T.lits.length (aa (aP E).T.lits)=aa E.T.lits:=by
   obtain⟨t,ht⟩:=f2;rw[←ht];simp[aa]
  have U:=jp E.T.lits E.T.lits (by omega);generalize(aP E).T.lits=M at*;simp only[bR]at V;refine aj.intro V ?_;rintro _ G ⟨rfl,rfl⟩;simp[a];refine ai.intro k5 ?_;have ah:0<=X↔0<=k:=by simpa using f1
  have kC:=(pO P.c (by omega)).mono (R':=λr _=>r=.pv (.seq true 1 ((rC l).map an))) λ_ _ h=>by rw[h.2,Q.K.cls]
  by_cases hk:k<0
  .have i:¬0<=X:=by omega
   have d:X<0:=by omega
   have af:¬0<=k:=by omega
   obtain⟨Y,g2,g3⟩:=f3 hk;have z:E.T.lits.length<=w1.length:=by omega
   have kS:=wY M w1 (by omega) (by omega);have kD:=Cl (rC l) M (by omega) C;rw[g2]at kS;rw[g3]at kD;simp[a,o,hk,i,d,f,g];refine aH.intro (λ_=>U) ?_;simp[a,o,hk,i,d,f,z,g,Y];refine aH.intro (λ_=>kS) ?_;simp[a,o,hk,i,d,f,z,g,Y];refine aH.introK (λ_=>ai.introX (bC.pureM (p:=[]) (q:=[]) (zs:=[nc false P.c]) kC (by simp[a]) rfl (by simp[dW]) (by simp) (by simp) ?_)) (λe=>absurd trivial e);simp[a,o,hk,i,d,f,z,g,Y];refine aH.intro (λ_=>kD) ?_;simp[o,hk]at u A;simp[a,o,hk,i,d,f,z,g,Y];exact⟨mb',⟨_,u⟩,A⟩
  .have j:0<=X:=by omega
   have d:¬X<0:=by omega
   simp[a,o,hk,j,d,f,g];refine aH.intro (λ_=>U) ?_;simp[a,o,hk,j,d,f,g];refine aH.introK (λe=>e.elim) (λ_=>?_);simp[a,o,hk,j,d,f,g];refine aH.introK (λe=>e.elim) (λ_=>?_);simp[a,o,hk,j,d,f,g];refine aH.introK (λe=>e.elim) (λ_=>?_);simp[o,hk]at u A;simp[a,o,hk,j,d,f,g];exact⟨mb',⟨_,u⟩,A⟩
end
def xT:Sch:=
 let a:Sch:=.fork [(40,.take 41 (.take 42 .done))]
 let b:Sch:=.fork [(38,.take 39 a)]
 let c:Sch:=.fork [(22,.take 24 (.take 25 (.take 26 (.take 27 (.take 28 (.take 29 (.take 30 (.take 31 (.take 32 (.take 33 (.take 34 (.take 35 (.take 36 (.take 37 b))))))))))))))]
 let d:Sch:=.fork [(21,c)]
 let e:Sch:=.fork [(13,.take 15 (.take 16 (.take 17 (.take 18 (.take 19 (.take 20 (.take 23 d)))))))]
 .take 0 (.take 1 (.take 2 (.take 3 (.take 4 (.take 5 (.take 6 (.take 7 (.take 8 (.take 9 (.take 10 (.take 11 (.take 12 (.take 14 e)))))))))))))
section
variable {n r s : Nat} {F : List (List Int)} {h : List (List SV)} {be bt ba bw bh bp : Nat} {mp : List (Int × Nat)} {mb : List (Int × By)} {E : ES} {l : List Rc} {P : PlS}
theorem PyJ.cat(Q:PyJ n F r s h be bt ba bw bh mp mb bp E l P):CkN (l.length+0) P.c∧CkG P.c:=by
 have K:=Q.K.ck;have b:=Q.J.toEI;have oM:=b.idz;have g:=K.g;have key:∀q∈P.c.m,1<=q.1∧q.2.length<=1000:=λq a=>by
  rw[K.m]at a;obtain⟨x,hx,rfl⟩:=RO.1 a;have e:=nk l 0 K.al;have:(x.id,x.lits)∈(bn 0 l).map λy=>(y.id,y.lits):=by rw[e];exact RO.2 ⟨x,hx,rfl⟩
  obtain⟨y,hy,f⟩:=RO.1 this;obtain⟨i,j⟩:=Wx f;have h1:=(b.cls y hy).1;have d:=b.ari.ids y hy;rw[i]at d;rw[j]at h1;exact⟨d,h1⟩
 refine⟨⟨by rw[K.m,RR];exact RJ _,λq a=>?_,λq a=>by have:=(key q a).2;omega,?_⟩,g⟩
 .have:=g.hi q a;have:=(key q a).1;rw[K.last]at*;exact B4 (by omega) (by omega)
 .rw[K.last];omega
set_option maxRecDepth 16000 in
set_option maxHeartbeats 1000000 in
theorem AH(Q:PyJ n F (r+1) (s+(n+3)) h be bt ba bw bh mp mb bp E l P):
 aB Tryz.prog 50 [.ptr bp 0] h (λy h'=>y=.pv (BL true)∧∃mp' i l' P',PyJ n F r s h' be bt ba bw bh mp' mb bp i l' P'∧Ext h h' (pQ be bt ba bw bh bp mp mb) (pQ be bt ba bw bh bp mp' mb)):=by
 refine cR [20] [.tmp 2] aE Tryz.func50 ?_;obtain⟨t,v⟩:=RE.1 Q.b;have hI:=Q.J.toEI;have bA:=hI.n9;have bv:=hI.tok.few;have bo:=Q.K.few;have br:=Q.K.pfk;have aG:=Q.K.pfs;unfold Kj at aG;have k1:=fh Q.L (by omega);have k2:=gG Q.L;have k3:=nj Q.L.e;have a6:bp≠be:=λe=>Q.nd (.inl e);simp[t,v,bR];refine aj.intro k1 ?_;rintro _ h ⟨rfl,rfl⟩;simp[t,v,bR];refine aj.intro k2 ?_;rintro _ h ⟨rfl,rfl⟩;simp[t,v,bR];refine aj.intro k3 ?_;rintro _ h ⟨rfl,rfl⟩;simp[t,v,bR]
 by_cases cc:E.over=true∨E.con<0
 .have z:P.bad=false:=by
   rw[Q.K.bad];rcases cc with c|c
   .simp[c]
   .simp[show¬0<=E.con by omega]
  refine aj.intro (xP Q.L.e cc) ?_;rintro _ h ⟨rfl,rfl⟩;obtain⟨cN,cG⟩:=Q.cat;have a9:({P with c:=P.c,steps:=(E.pf.length:Int)}:PlS)=P:=by rw[←Q.K.st]
  have kC:=qE (k0:=E.pf.length) (N:=l.length) (c':=P.c) Q.b Q.L.e a6 0 Q.K.st (RJ _) (by omega) (by omega) (by rw[Wb];rfl) (cN.up (by omega)) cG (by omega) (λs hs=>(aG s hs).2);rw[a9,←v,UH,Tk (Q.K.ck.over hI)]at kC;simp[t,v,bR,z];refine aj.intro kC ?_;rintro _ h ⟨rfl,rfl⟩;simp[t,v,bR,z];refine aj.intro (nj Q.L.e) ?_;rintro _ h ⟨rfl,rfl⟩;simp[t,v,bR,z];exact⟨mp,⟨E,l,P,Q.less⟩,⟨RJ _,λ_ _ _=>rfl,λ_ _ e=>e⟩⟩
 .have ho:E.over=false:=by cases e:E.over<;>simp[e]at cc⊢
  have hc:0<=E.con:=by omega
  have R:=hI.res hc;have z:P.bad=true:=by rw[Q.K.bad,ho];simpa using hc
  have C:P.beg=E.T.beg:=Q.K.beg ho;refine aj.intro (qY Q.L hI ho hc (by omega) (by have:=Q.J.mny;omega)) ?_;rintro _ H ⟨rfl,mp',q,p,k',L',X',I'⟩;have J':=Q.J.resd hc I';obtain⟨⟨c',K'⟩,ax,-,-⟩:=Q.K.ck.kin hI Q.K.pfs (.inr ⟨ho,hc,rfl,q,p,k',rfl⟩) (by have:=hI.idz;omega);obtain⟨i,S⟩:∃i,i=nr E q p k':=⟨_,rfl⟩;have av:i.pf=E.pf++[⟨1,E.id+1,az E,(ff E).map (i7 E.A)⟩]:=by rw[S];rfl
  have bj:i.over=(E.over||decide ((az E).length=0)):=by rw[S];rfl
  have bi:i.many=E.many+1:=by rw[S];rfl
  have a2:i.T=if az E=[]then E.T else jb (je E) ((az E).headD 0) E.A.row.length:=by rw[S];rfl
  rw[←S]at L' I' J' K' ax;have hH:=(X'.same bp t Q.nd).trans Q.b;obtain⟨au,bf⟩:=RE.1 hH;have a5:¬df be bt ba bw bh mp' mb bp:=λd=>Q.nd (X'.sub bp t d);have aU:=K'.over I';obtain⟨m,hm⟩:∃m,E.pf.length=m:=⟨_,rfl⟩;obtain⟨st,aX⟩:∃st:Stp,st=⟨1,E.id+1,az E,(ff E).map (i7 E.A)⟩:=⟨_,rfl⟩;rw[←aX]at av;have g:i.pf.length=m+1:=by rw[av,RP,hm];rfl
  have aD:i.pf[m]?=some st:=by rw[av,←hm];simp
  have aV:i.pf.drop m=[st]:=by rw[av,←hm];simp
  have a7:iY P.c (i.pf.drop m) c':=by
   have h1:=K'.run;rw[av]at h1;rw[aV];exact iY.rest h1 Q.K.ck.run
  unfold Kj at ax;have aC:P.steps=m:=by rw[Q.K.st,hm]
  obtain⟨cN,cG⟩:=Q.cat;have bn:=ap (n:=E.many+1) (by have:=Q.J.mny;omega) (by have:=Q.J.mny;omega);simp[au,bf,bR,z];obtain⟨G,hG⟩:∃G,G=H.set bp (bR be {P with bad:=false,calm:=false}):=⟨_,rfl⟩;have LG:LayE G be bt ba bw bh mp' mb i:=by rw[hG];exact L'.other bp _ a5
  have a1:bp<G.length:=by rw[hG];simpa using au
  have a0:G[bp]=bR be {P with bad:=false,calm:=false}:=by simp[hG]
  have a8:∀x,G.set bp x=H.set bp x:=λx=>by rw[hG,UY]
  have aM:=hG;simp only[bR]at aM;rw[←aM];clear aM;have k4:=qB LG.e (by omega) (λs hs=>by have:=(ax s hs).2;omega);have kC:=qE (h:=G) (P:={P with bad:=false,calm:=false}) (k0:=m) (N:=l.length) (c':=c') (by rw[RF a1,a0]) LG.e a6 1 aC (by omega) (by omega) (by omega) a7 (cN.up (by omega)) cG (by omega) (λs hs=>(ax s hs).2);rw[a8,Tk aU]at kC;refine aj.intro k4 ?_;rintro _ G ⟨rfl,rfl⟩;obtain⟨pp,aW⟩:∃pp,i.pf=pp:=⟨_,rfl⟩;have L2:∀x,LayE (H.set bp x) be bt ba bw bh mp' mb i:=λx=>L'.other bp x a5;rw[aW]at g aD kC⊢;have c1:¬(pp.length:Int)=0:=by omega
  have D:¬(m:Int)+1=0:=by omega
  have ad:aR (m:Int)=m:=ap (by omega) (by omega);have af:aR ((m:Int)+1 -1)=m:=by rw[ap (by omega) (by omega)];omega
  have c2:pp≠[]:=λe=>by rw[e]at g;cases g
  simp[a1,a0,bR,g,c2,D];refine aj.intro kC ?_;clear kC k4;rintro _ O ⟨an,rfl⟩;have f:bp<O.length:=by rw[an];simpa using au
  have a:O[bp]=bR be {P with c:=c',steps:=(pp.length:Int),bad:=false,calm:=false}:=by simp[an]
  have LG2:LayE O be bt ba bw bh mp' mb i:=by rw[an];exact L2 _
  simp[f,a,bR,g,c2,D];refine aj.intro (nj LG2.e) ?_;rintro _ O ⟨rfl,rfl⟩;have k:∀h',pp[m]'h'=st:=λh'=>by have:=RF h';rw[aD]at this;exact(TX this).symm
  have X:(l4 st)[2]?.getD PV.bot=.seq true 1 (aa (az E)):=by rw[aX];rfl
  have aw:(l4 st)[0]?.getD PV.bot=ae 1:=by rw[aX];rfl
  have o:(m:Int)<m+1:=by omega
  have bq:=I'.tok.few;have k5:=fh LG2 (by omega);have k6:=gG LG2;have bx:=R.len;have k7:=lu E.T.lits (az E) (by omega) (by omega);simp[f,a,bR,g,c2,D,bi,bn,ad,af,k,X,o];refine aj.intro k5 ?_;rintro _ O ⟨rfl,rfl⟩;have K3:∀b:List Int,(i.over=false->b=i.T.beg)->PyK n F r (l++[⟨E.id+1,1,az E⟩]) i {P with c:=c',steps:=(pp.length:Int),bad:=false,calm:=false,beg:=b}:=λb hb=>{
   ck:=K'
   st:=by rw[aW]
   fi:=Q.K.fi
   vr:=Q.K.vr
   bad:=by rw[show i.con=-1 from by rw[S];rfl];simp
   cal:=λ_=>by rw[S];rfl
   beg:=hb
   few:=by rw[RP];simp;omega
   pfk:=by rw[aW,g];omega
   pfs:=by unfold Kj;exact ax}
  by_cases I:az E=[]
  .have aA:i.T=E.T:=by rw[a2,RI I]
   have aF:i.over=true:=by rw[bj,I];simp
   rw[I]at X;simp[f,a,bR,g,c2,D,ad,af,k,X,aw,o,I];refine aH.introK (λe=>e.elim) (λ_=>?_);simp[f,a,bR,g,c2,D,ad,af,k,X,aw,o,I];refine aj.intro k6 ?_;rintro _ O ⟨rfl,rfl⟩;simp[f,a,bR,g,c2,D,ad,af,k,X,aw,o,I,aA];refine aj.intro (fg LG2.e) ?_;rintro _ O ⟨rfl,rfl⟩;simp[aF];obtain⟨Q3,X3⟩:=Q.step L' X' J' (K3 P.beg λe=>by rw[aF]at e;cases e);rw[←an]at Q3 X3;exact⟨mp',⟨i,_,_,Q3⟩,X3⟩
  .obtain⟨u,w,ay⟩:∃u w,az E=u::w:=by
    cases e:az E with
    |nil=>exact absurd e I
    |cons u w=>exact⟨u,w,rfl⟩
   obtain⟨h1,j,hj,ar,bk,ab,bl,bm⟩:=hI.unitd hc ay;have aI:=hI.asked hc ay;rw[hj]at aI;obtain⟨bb,bc⟩:=hI.tok.bnd _ (RK ar);obtain⟨B,hB⟩:∃B:Nat,E.T.beg[j]=B:=⟨_,(Ve bb).symm⟩;rw[hB]at ab bc;rw[SQ]at ab;obtain⟨K0,aN⟩:∃K0,E.T.lits.take B=K0:=⟨_,rfl⟩;rw[aN]at ab;have aO:K0.length=B:=by rw[←aN,RN];omega
   have bg:er E.T (dB E.T (az E))=bz E.T j:=by
    unfold er;have e0:(if(j:Int)<0 then(0:Int)else j)=j:=RH (by omega);rw[hj,e0,RI (by omega)];rfl
   have aA:i.T=gy (bz E.T j) u E.A.row.length:=by
    rw[a2,RH I];unfold je;rw[RH I,bg,ay];show jb (bz E.T j) u _=_;have e0:wW (bz E.T j) u E.A.row.length=0:=by unfold wW;rw[RH (by simp[bm]),RH (by omega)]
    unfold jb;rw[RI e0]
   have a3:i.T.beg=E.T.beg.take j:=by rw[aA];exact bl
   obtain⟨M,hM⟩:∃M,i.T.lits=M:=⟨_,rfl⟩;have aS:M=K0++[u]:=by rw[←hM,aA,←ab];rfl
   have U:M.length=B+1:=by rw[aS];simp[aO]
   have aP:∀h',M[B]'h'=u:=λh'=>by subst aS;simp[←aO]
   have ao:List.take B (aa M)=aa K0:=by rw[aS];simp[aa,←aO]
   have aT:List.take B (aa E.T.lits)=aa K0:=by rw[←aN];simp[aa]
   have V:i.T.beg.length=j:=by rw[a3,RN];omega
   have kU:=ot K0 (az E) (by omega) (by omega);rw[←ab,bk,ab]at kU;have bs:=hI.tok.deep;have kT:=λ(O:List (List SV)) (x:O[bp]?=some (bR be {P with c:=c',steps:=(pp.length:Int),bad:=false,calm:=false}))=>CF x E.T.lits (az E) u (by omega) (by omega) (by dsimp only;rw[C];exactλb hb=>by have:=hI.tok.bnd b hb;omega) (by dsimp only;rw[C];omega);have Y:aR (B:Int)=B:=ap (by omega) (by omega);have ag:¬(B:Int)<0:=by omega
   have aJ:¬(E.T.lits.length:Int)<B:=by omega
   have ah:(B:Int)<E.T.lits.length:=by omega
   have W:0<(az E).length:=by rw[ay];simp
   have aq:¬(E.T.beg.length:Int)<j:=by omega
   have Z:¬(E.T.beg.length:Int)<=j:=by omega
   rw[h1]at k7;rw[hM];simp[f,a,bR,g,c2,D,ad,af,k,X,aw,o,I,W];refine aH.intro (λ_=>k7) ?_;simp[f,a,bR,g,c2,D,ad,af,k,X,aw,o,I,W];refine aj.intro k6 ?_;rintro _ O ⟨rfl,rfl⟩;have ak:(B:Int)<=B+1:=by omega
   have aK:¬(B:Int)+1=0:=by omega
   have aL:(B:Int)<B+1:=by omega
   simp[f,a,bR,I,W,V,aq,U,Y,ag,ao,ak];refine ai.intro kU ?_;simp[f,a,bR,I,W,V,aq,U,Y,ag,ao,ak];refine aQ.one xT (by kernel_rfl) ?_;simp[xT,f,a,bR,I,W,V,aq,U,Y,ag,ao,ak,aK,aL,aP,aJ,ah,aT];refine aj.intro k6 ?_;rintro _ O ⟨rfl,rfl⟩;have kI:=jp K0 K0 (by omega);rw[Tk rfl]at kI;have aZ:B<=E.T.lits.length:=by omega
   simp[xT,f,a,bR,I,W,V,aq,Z,ar,U,Y,ag,ao,ak,aK,aL,aP,aJ,ah,aT,aZ];refine aH.intro (λ_=>kI) ?_;have aY:=kT O (by rw[RF f,a]);dsimp only at aY;rw[C,aI]at aY;simp[f,a,bR,I,W,V,aq,Z,ar,U,Y,ag,ao,ak,aK,aL,aP,aJ,ah,aT,aZ];refine aj.intro (aY.args (xs:=[.ptr bp 0,.seq true 1 (aa E.T.lits),.seq true 1 (aa (az E)),ae u]) (by simp[bd,bu])) ?_;rintro _ O ⟨rfl,rfl⟩;have a4:∀h',E.T.beg[j]'h'=(B:Int):=λ_=>hB;simp[f,a,bR,C,ar,Z,V,U,Y,a4];refine aj.intro k6 ?_;rintro _ O ⟨rfl,rfl⟩;simp[f,a,bR,C,ar,Z,V,U,Y,a4];obtain⟨Q3,X3⟩:=Q.step L' X' J' (K3 (E.T.beg.take j) λ_=>a3.symm);have e:H.set bp (bR be {P with c:=c',steps:=(pp.length:Int),bad:=false,calm:=false,beg:=E.T.beg.take j})=O.set bp [SV.pv (PV.ptr be 0),SV.pv (PV.seq false 2 (List.map bN c'.m)),SV.pv (ae c'.last),SV.pv (BL c'.done),SV.pv (ae (pp.length:Int)),SV.pv (ae P.first),SV.pv (BL false),SV.pv (BL false),SV.pv (ae P.vars),SV.own true 1 (List.take j (aa E.T.beg))]:=by
    rw[an,UY];simp[bR,aa]
   rw[e]at Q3 X3;exact⟨by omega,mp',⟨i,_,_,Q3⟩,X3⟩
end
def Ei:Sch:=
 let a:Sch:=.fork [(9,.take 10 (.take 11 .done))]
 let c:Sch:=.fork [(8,a)]
 let b:Sch:=.fork [(4,a)]
 let d:Sch:=.fork [(4,c),(8,b)]
 let e:Sch:=.fork [(3,b)]
 let f:Sch:=.fork [(3,d),(8,e)]
 .take 0 (.take 1 (.take 2 (.take 5 (.take 6 (.take 7 f)))))
def Ke:Sch:=
 let a:Sch:=.fork [(23,.take 27 (.take 28 (.take 29 .done)))]
 let b:Sch:=.fork [(22,a)]
 let c:Sch:=.fork [(18,a)]
 let d:Sch:=.fork [(18,b),(22,c)]
 let e:Sch:=.fork [(12,.take 13 (.take 14 (.take 15 (.take 16 (.take 17 (.take 19 (.take 20 (.take 21 (.take 24 (.take 25 (.take 26 d)))))))))))]
 .take 0 (.take 1 (.take 2 (.take 3 (.take 4 (.take 5 (.take 6 (.take 7 (.take 8 (.take 9 (.take 10 (.take 11 e)))))))))))
theorem Ext.up{h h':List (List SV)}{be bt ba bw bh bp:Nat}{mp mp':List (Int×Nat)}{mb mb':List (Int×By)}(X:Ext h h' (df be bt ba bw bh mp mb) (df be bt ba bw bh mp' mb')):Ext h h' (pQ be bt ba bw bh bp mp mb) (pQ be bt ba bw bh bp mp' mb'):=
 ⟨X.len,λb a d=>X.same b a λe=>d (.inr e),λb a d=>d.imp id (X.sub b a)⟩
section
variable {n r s : Nat} {F : List (List Int)} {h : List (List SV)} {be bt ba bw bh bp : Nat} {mp : List (Int × Nat)} {mb : List (Int × By)} {E : ES} {l : List Rc} {P : PlS}
theorem EJ.decs(J:EJ n F r s l E){a:ES}{b:Bool}(hd:Au n E a b):EJ n F r s l a:=by
 have c:=J.toEI.decs hd;rcases hd with⟨_,rfl,_⟩|⟨_,_,q,_,⟨_,x,_,rfl,_⟩|⟨_,rfl,_,_⟩⟩
 .exact J
 .exact J.to c rfl rfl rfl rfl rfl rfl
 .exact J.to c rfl rfl rfl rfl rfl rfl
theorem EI.full(h:EI n F r s l E)(k:∀v∈E.q.row,v∈E.T.lits.map ah):E.T.lits.length=n:=by
 have m:=h.tok.few;have h1:∀v∈(List.range n).map (λi:Nat=>((i+1:Nat):Int)),v∈E.T.lits.map ah:=λv j=>by
  obtain⟨i,hi,rfl⟩:=RO.1 j;rw[SY]at hi
  by_cases c:((i+1:Nat):Int)∈E.T.lits.map ah
  .exact c
  .exact k _ (h.inh _ (by omega) (by omega) c)
 have f:((List.range n).map (λi:Nat=>((i+1:Nat):Int))).Nodup:=by
  refine Tu.2 (List.nodup_range.imp ?_);intro a b d e;exact d (by omega)
 have g:=cZ _ _ f h1;rw[RR,RR,Vx]at g;omega
set_option maxRecDepth 16000 in
set_option maxHeartbeats 1000000 in
theorem LP(Q:PyJ n F (r+1) (s+(n+3)) h be bt ba bw bh mp mb bp E l P)(k:Int):
 aB Tryz.prog 14 [.ptr bp 0,ae k] h (λy h'=>y=.pv (BL true)∧∃mp' mb' U l' C,PyJ n F r s h' be bt ba bw bh mp' mb' bp U l' C∧Ext h h' (pQ be bt ba bw bh bp mp mb) (pQ be bt ba bw bh bp mp' mb')):=by
 refine cR [4,10,26] [.tmp 4] aE Tryz.func14 ?_;have o:=Q.less;obtain⟨i,j⟩:=RE.1 Q.b;have J:=o.J;have t:=J.toEI;have aL:=t.n9;have aJ:=t.tok.few;have ax:=t.tok.deep;have k1:=fh Q.L (by omega);have k2:=gG Q.L;have aA:bp≠be:=λe=>Q.nd (.inl e)
 by_cases c0:k=0
 .simp[c0];refine aj.intro (CH o) ?_;rintro _ H ⟨rfl,mb',C,M,u⟩;simp;exact⟨mp,mb',⟨_,_,C,M⟩,u⟩
 by_cases c1:k=1
 .simp[c1];refine aj.intro (AH Q) ?_;rintro _ H ⟨rfl,mp',U,l',C,M,u⟩;simp;exact⟨mp',mb,⟨U,l',C,M⟩,u⟩
 by_cases c2:k=2
 .have kD:=CA Q.L t.tok t.hp t.ph;simp[c2];refine aQ.meet Ei ⟨[(0,.pv (.ptr bp 0)),(5,.pv (.seq true 1 (aa E.T.lits))),(6,.pv (ae E.T.beg.length))],h⟩ (by kernel_rfl) ?_ ?_
  .simp[Ei,i,j,bR];and_intros
   all_goals
    repeat first
     |(refine aj.intro k1 ?_;rintro _ h ⟨rfl,rfl⟩;simp[i,j,bR];try and_intros)
     |(refine aj.intro k2 ?_;rintro _ h ⟨rfl,rfl⟩;simp[i,j,bR];try and_intros)
   all_goals exact af.keep (by simp) rfl
  simp[i,j,bR];refine aj.intro kD ?_;rintro _ H ⟨U,b,rfl,hd,D,u⟩;have Z:=(u.same bp i Q.nd).trans Q.b;obtain⟨a,g⟩:=RE.1 Z;have W:=J.decs hd;have z:=W.toEI.tok.few;have k3:=fh D (by omega);have X:=fg D.e;have k5:=gG D;have kI:=jp E.T.lits E.T.lits (by omega);rw[Tk rfl]at kI;have ao:=Q.K.vr;have w:=Q.K.cal;simp[a,g,bR];refine aj.intro k3 ?_;rintro _ H ⟨rfl,rfl⟩;rcases hd with⟨ho,rfl,rfl⟩|⟨ho,hc,q,hq,⟨rfl,x,hx,rfl,hin⟩|⟨rfl,rfl,hr,hin⟩⟩
  .have M:PyJ n F r s H be bt ba bw bh mp mb bp U l P:=⟨D,W,Z,λd=>Q.nd d,o.K⟩
   by_cases f:P.calm=true
   .have aC:U.over=true:=by
     rcases ho with ho|ho
     .exact ho
     .cases e:U.over with
      |true=>rfl
      |false=>rw[w e,ho]at f;cases f
    simp[a,g,bR,f];refine aj.intro X ?_;rintro _ H ⟨rfl,rfl⟩;simp[a,g,bR,f,aC];refine ai.intro kI ?_;simp[a,g,bR,f];refine aj.intro k5 ?_;rintro _ H ⟨rfl,rfl⟩;simp;exact⟨mp,mb,⟨_,_,_,M⟩,u.up⟩
   .have f:P.calm=false:=by simpa using f
    simp[a,g,bR,f];refine ai.intro kI ?_;simp[a,g,bR,f];refine aj.intro k5 ?_;rintro _ H ⟨rfl,rfl⟩;simp;exact⟨mp,mb,⟨_,_,_,M⟩,u.up⟩
  .have f:P.calm=true:=by rw[w ho,hc]
   have B:(gQ E.T x).lits=E.T.lits++[x]∧(gQ E.T x).beg=E.T.beg++[(E.T.lits.length:Int)]:=by
    unfold gQ;rw[RI hx];exact⟨rfl,rfl⟩
   dsimp only at z k3 X k5⊢;rw[B.1,RP]at z;simp only[Sa,List.length_nil]at z;have I:(E.T.lits.length:Int)<P.vars:=by rw[ao];omega
   simp[a,g,bR,f];refine aj.intro X ?_;rintro _ H ⟨rfl,rfl⟩;have ag:P.beg=E.T.beg:=Q.K.beg ho;have ak:(gQ E.T x).lits.length=E.T.lits.length+1:=by rw[B.1];simp
   have V:(gQ E.T x).beg.length=E.T.beg.length+1:=by rw[B.2];simp
   have an:List.take E.T.lits.length (aa (gQ E.T x).lits)=aa E.T.lits:=by rw[B.1];simp[aa]
   have aq:aR ((E.T.lits.length:Int)+1)=(E.T.lits.length:Int)+1:=ap (by omega) (by omega);have aD:aR ((E.T.beg.length:Int)+1)=(E.T.beg.length:Int)+1:=ap (by omega) (by omega);have R:(E.T.lits.length:Int)<=E.T.lits.length+1:=by omega
   have ad:(E.T.beg.length+1)*8<=140737488355328:=by omega
   simp[a,g,bR,f,ho,I,ak,V,an,aq,ag,ad,R];refine aH.intro (λ_=>kI) ?_;simp[a,g,bR,f,ho,I,ak,V,an,aq,ag,ad,R];obtain⟨C,ab⟩:∃C:PlS,C={P with calm:=false,beg:=E.T.beg++[(E.T.lits.length:Int)]}:=⟨_,rfl⟩;have aF:=J.toEI.calmc hc;have K':PyK n F r l {E with T:=gQ E.T x,calm:=false,q:=q} C:=by
    rw[ab];exact{o.K with
     ck:=o.K.ck.same rfl rfl
     bad:=o.K.bad
     cal:=λ_=>rfl
     beg:=λ_=>B.2.symm}
   obtain⟨v,O⟩:=Q.step D u W K';have e:H.set bp (bR be C)=H.set bp [SV.pv (PV.ptr be 0),SV.pv (PV.seq false 2 (List.map bN P.c.m)),SV.pv (ae P.c.last),SV.pv (BL P.c.done),SV.pv (ae P.steps),SV.pv (ae P.first),SV.pv (BL P.bad),SV.pv (BL false),SV.pv (ae P.vars),SV.own true 1 (aa E.T.beg++[[ae (E.T.lits.length:Int)]])]:=by
    rw[ab];simp[bR,aa]
   rw[e]at v O;refine aj.intro (gG v.L) ?_;rintro _ G ⟨rfl,rfl⟩;simp[V,aD];exact⟨mp,mb,⟨_,_,_,v⟩,O⟩
  .have f:P.calm=true:=by rw[w ho,hc]
   have I:¬(E.T.lits.length:Int)<P.vars:=by rw[ao,t.full hin];omega
   have K':PyK n F r l {E with q:=q} P:={o.K with ck:=o.K.ck.same rfl rfl,bad:=o.K.bad,cal:=o.K.cal,beg:=o.K.beg};have M:PyJ n F r s H be bt ba bw bh mp mb bp _ l P:=⟨D,W,Z,λd=>Q.nd d,K'⟩;simp[a,g,bR,f];refine aj.intro X ?_;rintro _ H ⟨rfl,rfl⟩;simp[a,g,bR,f,ho,I];refine ai.intro kI ?_;simp[a,g,bR,f,ho];refine aj.intro k5 ?_;rintro _ H ⟨rfl,rfl⟩;simp;exact⟨mp,mb,⟨_,_,_,M⟩,u.up⟩
 by_cases c3:k=3
 .have kR:=An Q.L t.tok t.hp t.ph;simp[c3,i,j,bR];refine aj.intro kR ?_;rintro _ H ⟨rfl,⟨ho,rfl⟩|⟨ho,q,p,D,u,hq,hp,hin⟩⟩
  .have K':PyK n F r l E {P with bad:=false,calm:=false}:={o.K with
    ck:=o.K.ck
    bad:=by simp[ho]
    cal:=λe=>by rw[ho]at e;cases e
    beg:=o.K.beg}
   obtain⟨v,O⟩:=Q.step Q.L (Ext.refl _ _) J K';simp[i,j,bR];simp only[bR]at v O;refine aj.intro (fg v.L.e) ?_;rintro _ G ⟨rfl,rfl⟩;simp[ho];exact⟨mp,mb,⟨_,_,_,v⟩,O⟩
  .have Z:=(u.same bp i Q.nd).trans Q.b;obtain⟨a,g⟩:=RE.1 Z;have ah:=F7 E.T;have au:=t.again q hq p hp hin;have W:=J.to au rfl rfl rfl rfl rfl rfl;have aw:[]=(er E.T 0).beg:=(Td.1 ah).symm;have K':∀b:List Int,(b=[]∨True)->PyK n F r l {E with T:=er E.T 0,q:=q,ph:=p,con:=-1,calm:=false} {P with bad:=false,calm:=false,beg:=[]}:=λ_ _=>{o.K with
    ck:=o.K.ck.same rfl rfl
    bad:=by simp
    cal:=λ_=>rfl
    beg:=λ_=>aw}
   obtain⟨v,O⟩:=Q.step D u W (K' [] (.inl rfl));simp[a,g,bR];have az:¬df be bt ba bw bh mp mb bp:=Q.nd;have LG:=λx=>D.other bp x az;refine aj.intro (fg (LG _).e) ?_;rintro _ G ⟨hG,rfl⟩;have Y:bp<G.length:=by rw[hG];simpa using a
   have ar:G[bp]=[SV.pv (PV.ptr be 0),SV.pv (PV.seq false 2 (List.map bN P.c.m)),SV.pv (ae P.c.last),SV.pv (BL P.c.done),SV.pv (ae P.steps),SV.pv (ae P.first),SV.pv (BL false),SV.pv (BL false),SV.pv (ae P.vars),SV.own true 1 (aa P.beg)]:=by simp[hG]
   simp[ho,Y,ar];have aK:(H.set bp (bR be {P with bad:=false,calm:=false,beg:=[]}))[bp]?=some (bR be {P with bad:=false,calm:=false,beg:=[]}):=Su a;refine lW.to ⟨[(0,.pv (.ptr bp 0))],H.set bp (bR be {P with bad:=false,calm:=false,beg:=[]})⟩ ?_ (lW.ops ?_)
   .refine(af.nilCell (b:=bp) (k:=9) (xs:=[SV.pv (PV.ptr be 0),SV.pv (PV.seq false 2 (List.map bN P.c.m)),SV.pv (ae P.c.last),SV.pv (BL P.c.done),SV.pv (ae P.steps),SV.pv (ae P.first),SV.pv (BL false),SV.pv (BL false),SV.pv (ae P.vars),.pv (.lit (.slice none 0 0))]) 1 true (Su Y) rfl).trans (af.keep (by simp) ?_);simp[hG,bR,aa]
   simp[a,bR];simp only[bR]at v O;refine aj.intro (gG v.L) ?_;rintro _ G3 ⟨rfl,rfl⟩;simp[ah];exact⟨mp,mb,⟨_,_,_,v⟩,O⟩
 have X := Al Q.L t.ari (by have := t.rsz; omega) t.tok.okT (by
  have h1:=Eg (A:=E.A) l [] (by rw[Sj];exact t.ari.row);have h2:=J.kp;have h3:(((rA l).filter (pJ E.A)).length)<=(l.filter λx=>decide (x.side=1)).length:=h1;omega)
 obtain⟨cN,cG⟩:=Q.cat;have aG:=Q.K.few;have aI:=Q.K.pfk;have S:=Q.K.pfs;unfold Kj at S;have kL:=AD P.c P.first (by have:=cN.n;omega);have av:({P with c:=P.c,steps:=(E.pf.length:Int)}:PlS)=P:=by rw[←Q.K.st]
 have kC:=qE (k0:=E.pf.length) (N:=l.length) (c':=P.c) Q.b Q.L.e aA 1 Q.K.st (RJ _) (by omega) (by omega) (by rw[Wb];rfl) (cN.up (by omega)) cG (by omega) (λs hs=>(S s hs).2);rw[av,←j,UH,Tk (Q.K.ck.over t)]at kC;have ay:aR (J9 P.c P.first)=J9 P.c P.first:=by
  have h1:=cN.n;have h2:=Ta (λq=>decide (P.first<q.1)) P.c.m;unfold J9;exact ap (by omega) (by omega)
 simp[c0,c1,c2,c3,i,j,bR];refine br.intro kL ?_;simp[i,j,bR];refine aj.intro X ?_;rintro _ h ⟨rfl,rfl⟩;simp[i,j,bR];refine aQ.one Ke (by kernel_rfl) ?_;simp[Ke,i,j,bR];refine aj.intro kC ?_;rintro _ h ⟨rfl,rfl⟩;simp[i,j,bR];and_intros
 all_goals
  refine aH.intro (λ_=>kL) ?_;simp[ay];exact⟨mp,mb,⟨_,_,_,o⟩,(Ext.refl _ _).up⟩
end
end Go.AX
namespace Go.AX
set_option maxRecDepth 16000
open Go.Proofs
set_option linter.unusedSimpArgs false
section
variable {n r s : Nat} {F : List (List Int)} {l : List Rc} {E : ES}
def P4(n:Nat)(cs:List (List Int)):PlS:=⟨de cs,0,cs.length,false,false,n,[]⟩
theorem PyK.new{cs:List (List Int)}{kp:Int}(I:EI n cs r s l E)(N:NewOk n cs kp E l cs)(b:cs.length+r<=120)(a:r<=60):PyK n cs r l E (P4 n cs)where
 ck:=CkE.new (by omega) N.num N.side N.id N.pf
 st:=by rw[N.pf];rfl
 fi:=rfl
 vr:=rfl
 bad:=by rw[N.con];simp[P4]
 cal:=λ_=>N.calm.symm
 beg:=λ_=>by rw[N.T];rfl
 few:=by
  have:=Ul List.length N.num;simp at this;omega
 pfk:=by rw[N.pf];simpa using a
 pfs:=by unfold Kj;rw[N.pf];simp
end
theorem ug{v:Int}{cs:List (List Int)}(a:v<=900):lI v cs=(eX v cs).2:=by
 unfold lI;split
 .rfl
 .rename_i c;rw[RH (by omega)];have:(eX v cs).2=0:=R6 c;exact this.symm
theorem LayE.dlt{h:List (List SV)}{be bt ba bw bh:Nat}{mp:List (Int×Nat)}{mb:List (Int×By)}{E:ES}(L:LayE h be bt ba bw bh mp mb E){b:Nat}(hd:df be bt ba bw bh mp mb b):b<h.length:=by
 have key:∀{b:Nat}{x:List SV},h[b]?=some x->b<h.length:=λe=>(RE.1 e).1;rcases hd with rfl|rfl|rfl|rfl|rfl|⟨k,hk⟩|⟨l,e,d,rfl⟩
 .exact key L.e
 .exact key L.q
 .exact key L.w.a
 .exact key L.w.w
 .exact key L.w.t
 .obtain⟨p,_,c,_⟩:=L.w.pr k b hk;exact key c
 .obtain⟨zs,_,⟨sp,c,_⟩,_⟩:=L.w.by' l e d
  exact key c
set_option maxHeartbeats 1000000 in
theorem Kf(g:List (List SV))(n:Nat)(cs:List (List Int))(rs kp dc:Int)(hn:n<=10)(ag:cs.length<=60)(ad:∀c∈cs,c.length<=50){r:Nat}(hr:r<=60)(hk:(eX n cs).2=0):
 aB Tryz.prog 13 [.agg [ae n,.seq false 1 (cs.map an)],.agg [ae rs,ae kp,ae dc]] g (λy g'=>∃be bt ba bw bh mp bp E l P,y=.pv (.tup [.ptr bp 0,BL true])∧PyJ n cs r (r*(n+3)) g' be bt ba bw bh mp [] bp E l P∧Ext g g' (λ_=>False) (pQ be bt ba bw bh bp mp [])):=by
 refine cR [7] [.tmp 4,.tmp 5] aE Tryz.func13 ?_;have R:∀c∈cs,c.length<=1000000:=λc hc=>by have:=ad c hc;omega
 have ao:r*(n+3)<=60*13:=Wn hr (by omega);have U:lI n cs=0:=by rw[ug (by omega)];exact hk
 have hC:oL n cs=de cs:=by unfold oL;rw[RH (by simp[U])]
 have kD:=(AF n cs (by omega) R).mono (R':=λr _=>r=.pv (.tup [nc false (de cs),ae 0])) λ_ _ h=>by rw[h.2,hC,U]
 have kN:=xO (g++[[.pv (ae n),.pv (.seq false 1 (cs.map an))],[.pv (ae rs),.pv (ae kp),.pv (ae dc)]]) n (by omega) cs rs kp dc (by omega) R hk (r:=r) (s:=r*(n+3)) (by omega) (by omega);simp;refine ai.introM kN ?_;clear kN;rintro _ H ⟨be,bt,ba,bw,bh,mp,E,l,rfl,L,X,I,N⟩;have S:=X.len;have M:g.length<H.length:=by simp at S;omega
 have ah:g.length+1<H.length:=by simp at S;omega
 have B:H[g.length]?=some [.pv (ae n),.pv (.seq false 1 (cs.map an))]:=(X.same g.length (by simp) (λe=>e)).trans (by simp);obtain⟨ak,Q⟩:=RE.1 B;simp[B,M,Q];refine ai.introX (bC.pureM (p:=[]) (q:=[]) (zs:=[.agg [ae n,.seq false 1 (cs.map an)]]) kD (by simp) rfl (by simp[dW,B,M,Q]) (by simp[B,M,Q]) (by simp[B,M,Q]) ?_);clear kD;simp[B,M,Q];obtain⟨G,Y⟩:∃G:List (List SV),G=H++[[.pv (.seq false 2 ((de cs).m.map bN)),.pv (ae (de cs).last),.pv (BL (de cs).done)]]:=⟨_,rfl⟩;have f:G.length=H.length+1:=by rw[Y];simp
 have v:H.length<G.length:=by omega
 have j:G[g.length]?=some [.pv (ae n),.pv (.seq false 1 (cs.map an))]:=by rw[Y,RL M,B]
 have u:∀x,(G++x)[g.length]?=some [.pv (ae n),.pv (.seq false 1 (cs.map an))]:=λx=>by rw[RL (by omega),j]
 have C:∀h',G[g.length]'h'=[.pv (ae n),.pv (.seq false 1 (cs.map an))]:=λh'=>by have:=RF h';rw[j]at this;exact(TX this).symm
 have D:∀x h',(G++x)[g.length]'h'=[.pv (ae n),.pv (.seq false 1 (cs.map an))]:=λx h'=>by have:=RF h';rw[u]at this;exact(TX this).symm
 have o:G[H.length]?=some [.pv (.seq false 2 ((de cs).m.map bN)),.pv (ae (de cs).last),.pv (BL (de cs).done)]:=by rw[Y];simp
 have w:∀x,(G++x)[H.length]?=some [.pv (.seq false 2 ((de cs).m.map bN)),.pv (ae (de cs).last),.pv (BL (de cs).done)]:=λx=>by rw[RL v,o]
 have F:∀h',G[H.length]'h'=[.pv (.seq false 2 ((de cs).m.map bN)),.pv (ae (de cs).last),.pv (BL (de cs).done)]:=λh'=>by have:=RF h';rw[o]at this;exact(TX this).symm
 have J:∀x h',(G++x)[H.length]'h'=[.pv (.seq false 2 ((de cs).m.map bN)),.pv (ae (de cs).last),.pv (BL (de cs).done)]:=λx h'=>by have:=RF h';rw[w]at this;exact(TX this).symm
 have K:=PyK.new I N (by omega) hr;have z:E.over=(de cs).done:=(K.ck.over I).symm;have i:E.T.lits=[]:=by rw[N.T];rfl
 have Z:LayE G be bt ba bw bh mp [] E:=by rw[Y];exact L.app _
 have LG2:LayE (G++[[.pv (.ptr be 0),.pv (.seq false 2 ((de cs).m.map bN)),.pv (ae (de cs).last),.pv (BL (de cs).done),.pv (ae 0),.pv (ae cs.length),.pv (BL false),.pv (BL false),.pv (ae n),.pv (.lit (.slice none 0 0))]]) be bt ba bw bh mp [] E:=Z.app _;have kO:=fg Z.e;have W:=fg LG2.e;have kL:=fh Z (by rw[i];simp);have V:=fh LG2 (by rw[i];simp);rw[z]at kO W;rw[i]at kL V;rw[←Y];refine aQ.tab [] ⟨[some (33,.pv (.ptr be 0)),some (34,.pv (.agg [.seq false 2 ((de cs).m.map bN),ae (de cs).last,BL (de cs).done])),some (35,.pv (.ptr g.length 1)),some (36,.pv (.seq false 1 (cs.map an))),some (37,.pv (ae cs.length)),some (38,.pv (.ptr g.length 0)),some (39,.pv (ae n)),some (40,.pv (.agg [.ptr be 0,.seq false 2 ((de cs).m.map bN),ae (de cs).last,BL (de cs).done,ae 0,ae cs.length,BL false,BL false,ae n,.lit (.slice none 0 0)])),some (41,.pv (.ptr (H.length+1) 0)),some (42,.pv (.ptr be 0)),some (43,.pv (BL (de cs).done)),some (44,.pv (.ptr H.length 2)),some (45,.pv (BL (de cs).done)),some (46,.pv (BL true)),some (47,.pv (BL true)),some (48,.opt True (.pv (.ptr be 0))),some (49,.pv (.seq true 1 (aa []))),some (50,.opt True (.pv (ae 0))),some (51,.opt True (.pv (BL true))),some (52,.pv (BL true)),some (4,.pv (.ptr (H.length+1) 0)),some (5,.pv (BL true))],[(2,.pv (.ptr g.length 0)),(6,.pv (.ptr be 0)),(8,.pv (.ptr H.length 0))],[[],[],[],[2],[3],[],[5],[0,1,4,6],[7],[],[9],[],[11],[10,12],[13],[14],[14,15],[14,16],[14,17],[14,18],[8],[19]],[8],[[0],[0],[0,1],[0],[0],[0],[0],[0],[0],[0,1],[0,1],[0,1],[0,1],[0,1],[0,1],[0,1],[0,1],[0,1],[0,1],[0,1],[1],[1]],[],λ|0=>G|_=>G++[[.pv (.ptr be 0),.pv (.seq false 2 ((de cs).m.map bN)),.pv (ae (de cs).last),.pv (BL (de cs).done),.pv (ae 0),.pv (ae cs.length),.pv (BL false),.pv (BL false),.pv (ae n),.pv (.lit (.slice none 0 0))]]⟩ ⟨[(4,.pv (.ptr (H.length+1) 0)),(5,.pv (BL true))],G++[bR be (P4 n cs)]⟩ (by kernel_rfl) (by simp[aT]) rfl ?_ (λt h1 O=>?_) ?_
 .simp only[Tb.steps,Gi,Tb.lvA,Tb.dpA,y8,pm,Tp,TH,cz,dY,lN,gZ,eO,eM,GS,gM,im,SC,Tw,Ui,U3,Uw,Vl,Vk,TC,Ux,Ss,S8];and_intros
  all_goals first|trivial|(intro t h1 O;simp only[aT,Sq,Sj]at h1;simp[f,v,j,u,C,D,o,w,F,J,z,i,h1,O,Tb.postL,Tb.wth,qP,pm,aT,aZ]<;>and_intros<;>first|omega|(intro e;simp[f,v,j,u,C,D,o,w,F,J,z,i,e]))|(intro t h1 O;simp only[aT,Sq,Sj]at h1;simp[f,v,j,u,C,D,o,w,F,J,z,i,h1,O,Tb.postL,Tb.wth,qP,pm,aT,aZ])
  .first|(refine aj.intro kO ?_;rintro _ A ⟨a,rfl⟩;rw[a];clear a A)|(refine aj.intro W ?_;rintro _ A ⟨a,rfl⟩;rw[a];clear a A)
   simp[f,v,j,u,C,D,o,w,F,J,z,i,h1,O,Tb.postL,Tb.wth,qP,pm,aT,aZ]<;>and_intros<;>first|omega|(intro e;simp[e])
  .first|(refine aj.intro kO ?_;rintro _ A ⟨a,rfl⟩;rw[a];clear a A)|(refine aj.intro W ?_;rintro _ A ⟨a,rfl⟩;rw[a];clear a A)
   simp[f,v,j,u,C,D,o,w,F,J,z,i,h1,O,Tb.postL,Tb.wth,qP,pm,aT,aZ]<;>and_intros<;>first|omega|(intro e;simp[e])
  .first|(refine aj.intro kL ?_;rintro _ A ⟨a,rfl⟩;rw[a];clear a A)|(refine aj.intro V ?_;rintro _ A ⟨a,rfl⟩;rw[a];clear a A)
   simp[f,v,j,u,C,D,o,w,F,J,z,i,h1,O,Tb.postL,Tb.wth,qP,pm,aT,aZ]<;>and_intros<;>first|omega|(intro e;simp[e])
  .first|(refine aj.intro kL ?_;rintro _ A ⟨a,rfl⟩;rw[a];clear a A)|(refine aj.intro V ?_;rintro _ A ⟨a,rfl⟩;rw[a];clear a A)
   simp[f,v,j,u,C,D,o,w,F,J,z,i,h1,O,Tb.postL,Tb.wth,qP,pm,aT,aZ]<;>and_intros<;>first|omega|(intro e;simp[e])
 .simp only[aT,Sq,Sj]at h1 O;simp[Gj]at O;exact(af.keep (t1:=[(4,.pv (.ptr (H.length+1) 0)),(5,.pv (BL true))]) (by simp[h1,O]) rfl).trans ((af.nilCell (b:=H.length+1) (k:=9) (xs:=[.pv (.ptr be 0),.pv (.seq false 2 ((de cs).m.map bN)),.pv (ae (de cs).last),.pv (BL (de cs).done),.pv (ae 0),.pv (ae cs.length),.pv (BL false),.pv (BL false),.pv (ae n),.pv (.lit (.slice none 0 0))]) 1 true (by simp[←f]) rfl).trans (af.keep (by simp) (by simp[←f,bR,P4,aa])))
 simp;have ab:∀b,df be bt ba bw bh mp [] b->b<H.length:=λb hd=>L.dlt hd;refine⟨be,bt,ba,bw,bh,mp,⟨E,l,P4 n cs,⟨Z.app _,N.ej I (by omega),by rw[R5 (by omega),f];simp,λd=>by have:=ab _ d;omega,K⟩⟩,?_⟩;rw[Y,Si];refine⟨by simp;omega,λb hb _=>?_,λb hb d=>?_⟩
 .rw[RL (by omega),X.same b (by simp;omega) (λe=>e),RL hb]
 .rcases d with d|d
  .omega
  .exact X.sub b (by simp;omega) d
theorem Gf(g:List (List SV))(v:Int)(cs:List (List Int))(rs kp l:Int)(A:v<=900)(w:cs.length<=60)(m:∀c∈cs,c.length<=50)(hk:(eX v cs).2≠0):
 aB Tryz.prog 13 [.agg [ae v,.seq false 1 (cs.map an)],.agg [ae rs,ae kp,ae l]] g (λy g'=>y=.pv (.tup [.lit (.pointer none),BL true])∧Ext g g' (λ_=>False) (λ_=>False)):=by
 refine cR [7] [.tmp 4,.tmp 5] aE Tryz.func13 ?_;have i:∀c∈cs,c.length<=1000000:=λc u=>by have:=m c u;omega
 have j:lI v cs=(eX v cs).2:=ug A;have s:oL v cs=⟨[],0,false⟩:=by unfold oL;rw[RI (by rw[j];exact hk)]
 have o:=(AF v cs (by omega) i).mono (R':=λr _=>r=.pv (.tup [nc false ⟨[],0,false⟩,ae (eX v cs).2])) λ_ _ h=>by rw[h.2,s,j]
 have n:=Am (g++[[.pv (ae v),.pv (.seq false 1 (cs.map an))],[.pv (ae rs),.pv (ae kp),.pv (ae l)]]) v cs rs kp l i (.inl hk);rw[RI hk]at n;generalize(eX v cs).2=x at*;simp;refine ai.introM n ?_;clear n;rintro _ H ⟨rfl,X⟩;have k:=X.len;have f:g.length<H.length:=by simp at k;omega
 have a:H[g.length]?=some [.pv (ae v),.pv (.seq false 1 (cs.map an))]:=(X.same g.length (by simp) (λe=>e)).trans (by simp);obtain⟨z,d⟩:=RE.1 a;simp[a,f,d];refine ai.introX (bC.pureM (p:=[]) (q:=[]) (zs:=[.agg [ae v,.seq false 1 (cs.map an)]]) o (by simp) rfl (by simp[dW,a,f,d]) (by simp[a,f,d]) (by simp[a,f,d]) ?_);clear o;simp[a,f,d,hk];refine⟨by simp;omega,λb t _=>?_,λ_ _ e=>e⟩;rw[RL (by omega),X.same b (by simp;omega) (λe=>e),RL t]
end Go.AX
namespace Go.AX
open Go.Proofs
set_option linter.unusedSimpArgs false
def xU:Sch:=
 let a:Sch:=.fork [(26,.take 27 (.take 28 .done))]
 let b:Sch:=.fork [(25,a)]
 let c:Sch:=.fork [(24,b)]
 let d:Sch:=.fork [(21,a)]
 let e:Sch:=.fork [(21,b),(25,d)]
 let f:Sch:=.fork [(21,c),(24,e)]
 let g:Sch:=.fork [(17,.take 18 (.take 19 (.take 20 (.take 22 (.take 23 f)))))]
 let h:Sch:=.fork [(10,.take 11 (.take 12 (.take 13 (.take 14 (.take 15 (.take 16 g))))))]
 let i:Sch:=.fork [(9,h)]
 let j:Sch:=.fork [(3,.take 4 (.take 5 (.take 6 (.take 7 (.take 8 i)))))]
 .take 0 (.take 1 (.take 2 j))
theorem Kg{n:Nat}{T:Tr}(b:TOk n T)(hn:n<=100000):qD T.lits n=iX T.lits n:=by
 unfold qD iX;refine TW λi hi=>?_;rw[SY]at hi;have a:ax ((i:Int)+1) n=0:=by
  unfold ax;rw[RH (by omega),RI (by unfold nD;simp;omega)]
 rw[I0 hn a]
 by_cases c:(i:Int)+1∈T.lits
 .simp[c]
 .rw[RH c];split<;>simp[c]
theorem AI{cs:List (List Int)}{m:List Bool}:decide (jL cs m=-1)=decide (∀c∈cs,cO c m=true):=by
 rw[decide_eq_decide,←tV];constructor
 .omega
 .intro h;unfold jL iH at*;split at h
  .omega
  .rfl
set_option maxRecDepth 16000 in
set_option maxHeartbeats 2000000 in
theorem rm(v:Int)(cs:List (List Int))(rs kp B:Int)(a:List Int):
 am Tryz.prog 4 [.agg [ae v,.seq false 1 (cs.map an)],.agg [ae rs,ae kp,ae B],.seq false 1 (aa a)] (λr=>r=.pv (BL true)):=by
 refine oX [13] aE Tryz.func4 ?_;simp;refine ai.intro (JS v cs a) ?_;cases hf:At v cs a
 .simp;refine ai.intro oI ?_;simp
 obtain⟨⟨f1,f2⟩,⟨V,f4⟩,f5⟩:=J3 hf;simp
 by_cases hk:(eX v cs).2=0
 rotate_left
 .have kE:=Gf [[.pv (ae v),.pv (.seq false 1 (cs.map an))],[.pv (ae rs),.pv (ae kp),.pv (ae B)]] v cs rs kp B (by omega) V f5 hk;refine ai.introM kE ?_;rintro _ H ⟨rfl,_⟩;simp;refine av.intro (S:=λ(_:Nat)=>⟨[(2,.pv (.seq false 1 (aa a))),(7,.pv (.lit (.pointer none))),(9,.pv (ae 0))],H⟩) (λ_=>True) (λ_=>0) 0 ?_ trivial ?_
  .exact af.keep (by simp) rfl
  intro _ _;simp;refine ai.intro oI ?_;simp
 obtain⟨n,rfl⟩:=Te f1;have Z:=Kf [[.pv (ae n),.pv (.seq false 1 (cs.map an))],[.pv (ae rs),.pv (ae kp),.pv (ae B)]] n cs rs kp B (by omega) V f5 (r:=a.length) (by omega) hk;refine ai.introM Z ?_;rintro _ H ⟨be,bt,ba,bw,bh,mp,bp,E,l,P,rfl,R,U⟩;clear Z;simp;refine av.intro (S:=λ(x:Nat×List (List SV)×List (Int×Nat)×List (Int×By)×ES×List Rc×PlS)=>⟨[(2,.pv (.seq false 1 (aa a))),(7,.pv (.ptr bp 0)),(9,.pv (ae x.1)),(3,.pv (.ptr 0 0))],x.2.1⟩)
  (λx=>x.1<=a.length∧PyJ n cs (a.length -x.1) ((a.length -x.1)*(n+3)) x.2.1 be bt ba bw bh x.2.2.1 x.2.2.2.1 bp x.2.2.2.2.1 x.2.2.2.2.2.1 x.2.2.2.2.2.2∧Ext [[.pv (ae n),.pv (.seq false 1 (cs.map an))],[.pv (ae rs),.pv (ae kp),.pv (ae B)]] x.2.1 (λ_=>False) (pQ be bt ba bw bh bp x.2.2.1 x.2.2.2.1)) (λx=>a.length -x.1)
  (0,H,mp,[],E,l,P) ?_ ⟨RW _,R,U⟩ ?_
 .exact af.keep (by simp) rfl
 clear R U H mp E l P;rintro⟨i,H,mp,mb,E,l,P⟩ ⟨hi,Q,X⟩;dsimp only at hi Q X
 by_cases d:i<a.length
 .have Y:=dq i;have hd:a.length -i=(a.length -(i+1))+1:=by omega
  rw[hd,TD]at Q;simp[d];refine aj.intro (LP Q a[i]) ?_;rintro _ y ⟨rfl,mp',mb',p,l',G,u,X'⟩;replace X:=X.trans X';have F:=u.J.toEI;have ad:=F.n9;have ab:=F.tok.few;obtain⟨g,f⟩:=RE.1 u.b;have h:y[0]?=some [.pv (ae n),.pv (.seq false 1 (cs.map an))]:=X.same 0 (by simp) (λe=>e);obtain⟨k,j⟩:=RE.1 h;have kM:=v8 u.L F.tok u.J.vr (by rw[u.J.fm];omega) (by rw[u.J.fm];exactλc hc=>by have:=f5 c hc;omega);have kL:=fh u.L (by omega);have kO:=fg u.L.e;simp[g,f,bR];refine aj.intro kM ?_;rintro _ y ⟨rfl,rfl⟩;simp[g,f,bR];refine aj.intro kL ?_;rintro _ y ⟨rfl,rfl⟩;simp[g,f,bR,h,k,j];have z:=Kg F.tok (by omega);have A:=Ga p.T.lits n (by omega) (by omega);have O:=Gb n cs (qD p.T.lits n) (by omega) (λx hx=>by have:=f5 x hx;omega);have D:(qD p.T.lits n).length=n:=by simp[qD]
  rw[D,AI,z]at O;rw[z]at A;have kS:=nQ (iX p.T.lits n) (iX p.T.lits n) (by rw[←z,D];omega);have q:=u.K.bad;obtain⟨b,W⟩:∃b,Av p n=b:=⟨_,rfl⟩;have t:b=(!p.over&&(decide (p.con<0)&&(decide (p.T.lits.length=n)&&decide (∀c∈cs,cO c (iX p.T.lits n)=true)))):=by rw[←W,Av,u.J.fm]
  rw[W];obtain⟨I,M⟩:∃x,decide (∀c∈cs,cO c (iX p.T.lits n)=true)=x:=⟨_,rfl⟩;rw[M]at O t;generalize iX p.T.lits n=md at*;refine aQ.meet xU ⟨[(2,.pv (.seq false 1 (aa a))),(7,.pv (.ptr bp 0)),(9,.pv (ae i)),(3,.pv (.ptr 0 0)),(10,.pv (if b=true then .seq true 1 (cM md)else .lit (.slice none 0 0))),(11,.pv (BL b)),(12,.pv (.seq true 1 (aa p.T.lits))),(13,.pv (BL b))],y⟩ (by kernel_rfl) ?_ ?_
  .cases m:G.bad
   rotate_left
   .rw[m]at q;have o:b=false:=by
     cases ho:p.over
     .rw[ho]at q;have:¬p.con<0:=by simp at q;omega
      rw[t];simp[this]
     .rw[t,ho];simp
    simp[xU,g,f,bR,h,k,j,m,o];and_intros
    all_goals
     refine aH.introK (λe=>e.elim) (λ_=>?_);simp[g,f,bR,h,k,j,m,o]
     try and_intros
    all_goals
     refine aH.introK (λe=>e.elim) (λ_=>?_);simp[g,f,bR,h,k,j,m,o]
     try and_intros
    all_goals exact af.keep (by simp) rfl
   .rw[m]at q;simp[xU,g,f,bR,h,k,j,m];refine aj.intro kO ?_;rintro _ y ⟨rfl,rfl⟩;cases ho:p.over
    rotate_left
    .have o:b=false:=by rw[t,ho];simp
     simp[g,f,bR,h,k,j,m,ho,o]
     try and_intros
     all_goals
      refine aH.introK (λe=>e.elim) (λ_=>?_);simp[g,f,bR,h,k,j,m,ho,o]
      try and_intros
     all_goals
      refine aH.introK (λe=>e.elim) (λ_=>?_);simp[g,f,bR,h,k,j,m,ho,o]
      try and_intros
     all_goals exact af.keep (by simp) rfl
    .rw[ho]at q t;have C:p.con<0:=by simp at q;omega
     by_cases s:p.T.lits.length=n
     .have o:b=I:=by rw[t];simp[C,s]
      have w:(p.T.lits.length:Int)=n:=by omega
      simp[g,f,bR,h,k,j,m,ho,s]
      try and_intros
      all_goals
       refine aH.intro (λ_=>A) ?_;simp[g,f,bR,h,k,j,m,ho,s]
       try and_intros
      all_goals
       refine aH.intro (λ_=>O) ?_;simp[g,f,bR,h,k,j,m,ho,s,o]
       try and_intros
      all_goals exact af.keep (by simp[o]) rfl
     .have o:b=false:=by rw[t];simp[C,s]
      have w:¬(p.T.lits.length:Int)=n:=by omega
      simp[g,f,bR,h,k,j,m,ho,s,w,o]
      try and_intros
      all_goals
       refine aH.introK (λe=>e.elim) (λ_=>?_);simp[g,f,bR,h,k,j,m,ho,o,s,w]
       try and_intros
      all_goals
       refine aH.introK (λe=>e.elim) (λ_=>?_);simp[g,f,bR,h,k,j,m,ho,o,s,w]
       try and_intros
      all_goals exact af.keep (by simp) rfl
  .cases b
   .simp[g,f,bR,h,k,j];refine aH.introK (λe=>e.elim) (λ_=>?_);simp[g,f,bR,h,k,j];refine aH.introK (λe=>e.elim) (λ_=>?_);simp[g,f,bR,h,k,j];exact⟨(i+1,y,mp',mb',p,l',G),by(try dsimp only);omega,⟨by(try dsimp only);omega,u,X⟩,af.keep (by simp[Y]) rfl⟩
   .simp[g,f,bR,h,k,j];refine aH.intro (λ_=>A) ?_;simp[g,f,bR,h,k,j];refine aH.intro (λ_=>kS) ?_;simp[g,f,bR,h,k,j];exact⟨(i+1,y,mp',mb',p,l',G),by(try dsimp only);omega,⟨by(try dsimp only);omega,u,X⟩,af.keep (by simp[Y]) rfl⟩
 .have N:i=a.length:=by omega
  subst N;simp;refine ai.intro oI ?_;simp
end Go.AX