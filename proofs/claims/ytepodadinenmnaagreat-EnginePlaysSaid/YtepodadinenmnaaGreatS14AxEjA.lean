/-
  What formulas, tunes and acts are handed in as.
  The law's contract: EngineShows.
  Contracts: the document's engine: the clauses of a checker, how many were learnt, what follows, a new one; a trail's model.
-/
import Derived.Test.YtepodadinenmnaaGreatS14AxEhC
import Derived.Test.YtepodadinenmnaaGreatAxZ
import Derived.Test.YtepodadinenmnaaGreatS14AxEiA
import Derived.Test.YtepodadinenmnaaGreatS14AxTxC
import Derived.Test.YtepodadinenmnaaGreatS14AxWaD
import Derived.Test.YtepodadinenmnaaGreatS14AxTxG
import Derived.Test.YtepodadinenmnaaGreatS14AxMovR
import Derived.Test.YtepodadinenmnaaGreatS14AxRfB
import Derived.Test.YtepodadinenmnaaGreatS14AxTyA
import Derived.Test.YtepodadinenmnaaGreatS14AxEgW
import Derived.Test.YtepodadinenmnaaGreatS14AxVaA
namespace Go.AX
theorem tV{α:Type}(f:α->List PV)(s:List Sh)(h1:∀r,de s r->∃x,r=f x):∀rows:List (List PV),(∀r∈rows,de s r)->∃l:List α,rows=l.map f
 |[],_=>⟨[],rfl⟩
 |r::rows,h=>by
  obtain⟨x,rfl⟩:=h1 r (h r RR);obtain⟨l,rfl⟩:=tV f s h1 rows (λr a=>h r (RO _ a));exact⟨x::l,rfl⟩
theorem As{x:PV}(h:Ap (.sl [.int .i64]) x):∃l:List Int,x=.seq false 1 (aa l):=by
 simp only [Ap] at h; obtain ⟨rows, rfl, _, h⟩ := h; obtain ⟨l, rfl⟩ := tV (λ i : Int => [ae i]) _ (λ r b => by
  simp only[de,Ap]at b;obtain⟨_,_,rfl,⟨a,rfl,_⟩,rfl⟩:=b;exact⟨a,rfl⟩) rows h
 exact⟨l,rfl⟩
theorem Lx{x:PV}(h:Ap (.sl [.sl [.int .i64]]) x):∃cs:List (List Int),x=.seq false 1 (cs.map ao):=by
 rw [Ap] at h; obtain ⟨rows, rfl, _, h⟩ := h; obtain ⟨l, rfl⟩ := tV ao _ (λ r b => by
  rw[de]at b;obtain⟨_,_,rfl,h1,a⟩:=b;obtain⟨l,rfl⟩:=As h1;rw[de]at a;subst a;exact⟨l,rfl⟩) rows h
 exact⟨l,rfl⟩
theorem JV{xs:List PV}(h:de [.int .i64,.sl [.sl [.int .i64]]] xs):∃(v:Int)(L:List (List Int)),xs=[ae v,.seq false 1 (L.map ao)]:=by
 rw[de]at h;obtain⟨_,_,rfl,h1,h⟩:=h;rw[de]at h;obtain⟨_,_,rfl,a,h⟩:=h;rw[de]at h;subst h;rw[Ap]at h1;obtain⟨v,rfl,_⟩:=h1;obtain⟨L,rfl⟩:=Lx a;exact⟨v,L,rfl⟩
theorem Ng{xs:List PV}(h:oF [(true,[.int .i64,.sl [.sl [.int .i64]]]),(true,[.int .i64,.int .i64,.int .i64]),(false,[.sl [.int .i64]])] xs):∃(v:Int)(L:List (List Int))(a b c:Int)(l:List Int),xs=[.agg [ae v,.seq false 1 (L.map ao)],.agg [ae a,ae b,ae c],.seq false 1 (aa l)]:=by
 rw[oF]at h;obtain⟨_,_,rfl,h1,h⟩:=h;rw[oF]at h;obtain⟨_,_,rfl,d,h⟩:=h;rw[oF]at h;obtain⟨_,_,rfl,f,h⟩:=h;rw[oF]at h;subst h;simp only[Aq]at h1 d f;obtain⟨ys,rfl,h1⟩:=h1;obtain⟨zs,rfl,d⟩:=d;rw[de]at f;obtain⟨t,g,e,f⟩:=f;cases e
 obtain⟨v,L,rfl⟩:=JV h1;obtain⟨l,rfl⟩:=As f.1;simp only[de,Ap]at d;obtain⟨_,_,rfl,⟨a,rfl,_⟩,_,_,rfl,⟨b,rfl,_⟩,_,_,rfl,⟨c,rfl,_⟩,rfl⟩:=d;exact⟨v,L,a,b,c,l,rfl⟩
end Go.AX
namespace Go.AX
open Go.Proofs
set_option linter.unusedSimpArgs false
def J8(E:ES):Prop:=∀s∈E.pf,s.kind=1∧s.lits.length<=1000∧s.hints.length<=1000
theorem CkE.kin{n r s:Nat}{F:List (List Int)}{l l':List Rc}{E a:ES}{c:Ck}(K:CkE F l E c)(h:EI n F r s l E)(d:J8 E)(k:Rf l E l' a)(oI:E.id+1<=10000000):(∃c',CkE F l' a c')∧J8 a∧a.id<=E.id+1∧a.pf.length<=E.pf.length+1:=by
 rcases k with⟨rfl,b,f⟩|⟨ho,e,rfl,q,p,k,rfl⟩
 .exact⟨⟨c,{K with run:=by rw[b];exact K.run,last:=K.last.trans f.symm,may:=by rw[b];exact K.may}⟩,by unfold J8;rw[b];exact d,by omega,by rw[b];omega⟩
 .refine⟨⟨_,K.res h e oI q p k⟩,λs hs=>?_,TU _,by show(E.pf++[_]).length<=_;simp⟩;have R:=h.res e;have g:=h.n9;rcases RI.1 hs with hs|hs
  .exact d s hs
  .rw[Sc]at hs;subst hs;exact⟨rfl,by have:=R.len;dsimp only;omega,by have:=R.hle;dsimp only;rw[RH];omega⟩
end Go.AX
namespace Go.AX
set_option maxRecDepth 16000
open Go.Proofs
set_option linter.unusedSimpArgs false
def xM(c:Ck):List (List Int):=c.m.map (·.2)
theorem pK(c:Ck)(o:c.m.length<=100000):aB Tryz.prog 110 [m7 false c] [] (λr g'=>g'=[]∧r=.pv (.seq true 1 ((xM c).map ao))):=by
 refine dQ [] [.tmp 2] aE Tryz.func110 ?_;obtain⟨Q,a⟩:∃Q:Nat->List (List PV),∀i,Q i=((c.m.take i).map (·.2)).map ao:=⟨_,λ_=>rfl⟩;have b:Q 0=[]:=by rw[a];rfl
 have e:Q c.m.length=(xM c).map ao:=by rw[a,RY];rfl
 have g:∀i (h:i<c.m.length),Q (i+1)=Q i++[[.seq false 1 (aa c.m[i].2)]]:=λi h=>by
  rw[a,a,Sp,Ru h,R1,R1];rfl
 have f:∀i,(Q i).length<=c.m.length:=λi=>by rw[a];simp;omega
 simp;refine aw.intro (S:=λ(i:Nat)=>⟨[(1,.pv (.ptr 0 0)),(3,.own true 1 (Q i)),(4,.pv (ae i))],[[.pv (.seq false 2 (c.m.map bN)),.pv (ae c.last),.pv (BL c.done)]]⟩) (λi=>i<=c.m.length) (λi=>c.m.length -i) 0 ?_ (RL _) ?_
 .exact(ah.nilOwn (s:=3) 1 true (by simp)).trans (ah.keep (by simp[b]) (by simp))
 intro i hi;have l:=f i
 by_cases d:i<c.m.length
 .have n:=dr i;have k:c.m[i]?=some c.m[i]:=Ru d;have j:=g i d;simp[d,k,bN];exact⟨by omega,i+1,by(try dsimp only);omega,by(try dsimp only);omega,ah.keep (by simp[n,j]) (by simp[bN])⟩
 .have:i=c.m.length:=by omega
  subst this;simp[e,bu]
def JW(c:Ck)(n:Int):Int:=((c.m.filter λq=>decide (n<q.1)).length:Int)
theorem At(c:Ck)(n:Int)(t:c.m.length<=100000):am Tryz.prog 52 [m7 false c,ae n] (λr=>r=.pv (ae (JW c n))):=by
 refine aq aE Tryz.func52 ?_;obtain⟨Q,b⟩:∃Q:Nat->Nat,∀i,Q i=((c.m.take i).filter λq=>decide (n<q.1)).length:=⟨_,λ_=>rfl⟩;have f:Q 0=0:=by rw[b];rfl
 have g:(Q c.m.length:Int)=JW c n:=by rw[b,RY];rfl
 have k:∀i (h:i<c.m.length),Q (i+1)=Q i+if n<c.m[i].1 then 1 else 0:=λi h=>by
  rw[b,b,Sp,Ru h];simp only[Tm,SO,RF,Sn,UQ];split<;>simp_all
 have j:∀i,Q i<=c.m.length:=λi=>by rw[b];exact Sb (SU _ _) (by simp;omega)
 simp;refine aw.intro (S:=λ(i:Nat)=>⟨[(1,.pv (ae n)),(2,.pv (.ptr 0 0)),(5,.pv (ae (Q i))),(6,.pv (ae i))],[[.pv (.seq false 2 (c.m.map bN)),.pv (ae c.last),.pv (BL c.done)]]⟩) (λi=>i<=c.m.length) (λi=>c.m.length -i) 0 ?_ (RL _) ?_
 .exact ah.keep (by simp[f]) (by simp)
 intro i hi;have s:=j i
 by_cases d:i<c.m.length
 .have p:=dr i;have l:=dr (Q i);have o:c.m[i]?=some c.m[i]:=Ru d;have a:=k i d
  by_cases e:n<c.m[i].1
  .rw[Rx e]at a;simp[d,o,bN,e];exact⟨i+1,by(try dsimp only);omega,by(try dsimp only);omega,ah.keep (by simp[p,l,a]) (by simp[bN])⟩
  .rw[Rw e]at a;simp[d,o,bN,e];exact⟨i+1,by(try dsimp only);omega,by(try dsimp only);omega,ah.keep (by simp[p,a]) (by simp[bN])⟩
 .have:i=c.m.length:=by omega
  subst this;simp[g]
theorem xN(c:Ck)(l:List Int)(a:c.m.length<=100000)(d:l.length<=1000)(b:fewC (xM c)):am Tryz.prog 107 [m7 false c,.seq false 1 (aa l)] (λr=>r=.pv (.tup [.seq true 1 (aa (eQ (xM c) l).1),BL (decide (0<=(eQ (xM c) l).2.2))])):=by
 refine jG [4,5] aE Tryz.func107 (λ_ _=>results_tmp2 rfl _ _ _) ?_;have e:=(pK c a).mono (R':=λr _=>r=.pv (.seq true 1 ((xM c).map ao))) λ_ _ h=>h.2;have f:=BA (xM c) l d b;simp;refine ai.introX (bC.pureM (p:=[]) (q:=[]) (zs:=[m7 false c]) e (by simp) rfl (by simp[dR]) (by simp) (by simp) ?_);simp;refine ai.intro f ?_;simp
def lG(v:Int)(L:List (List Int)):Int:=if(eV v L).2≠0 then(eV v L).2 else if 900<v then 3 else 0
def oG(v:Int)(L:List (List Int)):Ck:=if lG v L≠0 then⟨[],0,false⟩else c9 L
theorem Au(v:Int)(L:List (List Int))(j:L.length<=100000)(g:∀c∈L,c.length<=1000000):aB Tryz.prog 48 [.agg [ae v,.seq false 1 (L.map ao)]] [] (λr g'=>g'=[]∧r=.pv (.tup [m7 false (oG v L),ae (lG v L)])):=by
 refine dQ [] [.cell 2 _,.tmp 3] aE Tryz.func48 ?_;have i:=vy v L g;have k:=(La v L j g).mono (R':=λr _=>r=.pv (.tup [m7 false (vE v L),ae (eV v L).2])) λ_ _ h=>h.2;have f:vE v L=if(eV v L).2≠0 then⟨[],0,false⟩else c9 L:=rfl;have a:lG v L=if(eV v L).2≠0 then(eV v L).2 else if 900<v then 3 else 0:=rfl;have b:oG v L=if lG v L≠0 then⟨[],0,false⟩else c9 L:=rfl;generalize oG v L=K at*;generalize lG v L=e at*;generalize vE v L=D at*;simp;refine ai.intro i ?_
 by_cases c:(eV v L).2=0
 rotate_left
 .rw[Rx c]at a;subst a;rw[Rx c]at b;subst b;simp[c,bu,bd]
 rw[Rw (by simp[c])]at a f;subst f
 by_cases d:900<v
 .rw[Rx d]at a;subst a;rw[Rx (by decide)]at b;subst b;simp[c,d,bu,bd]
 .rw[Rw d]at a;subst a;rw[Rw (by decide)]at b;subst b;simp[c,d];refine ai.introX (bC.pureM (p:=[]) (q:=[]) (zs:=[.agg [ae v,.seq false 1 (L.map ao)]]) k (by simp) rfl (by simp[dR]) (by simp) (by simp) ?_);simp[c,bu,bd]
end Go.AX