/-
  Contracts: law20's play: the level of a literal, the level to go back to.
  Contracts: law20's play: the checker takes the steps that are new.
  Plain law: the levels that law20's play tells are the trail's.
  Contracts: law20's play: what holds of it; all follows.
  Contracts: law20's play: a conflict is resolved.
  Contracts: law20's play: a call.
  Contracts: law20's play: one is begun.
  The law's contract: EnginePlays.
-/
import Derived.Test.YtepodadinenmnaaGreatS14AxEjA
namespace Go.AX
set_option maxRecDepth 16000
open Go.Proofs
set_option linter.unusedSimpArgs false
structure PlS where
  c:Ck
  steps:Int
  first:Int
  bad:Bool
  calm:Bool
  vars:Int
  beg:List Int
def cM(be:Nat)(P:PlS):List SV:=[.pv (.ptr be 0),.pv (.seq false 2 (P.c.m.map bN)),.pv (ae P.c.last),.pv (BL P.c.done),.pv (ae P.steps),.pv (ae P.first),.pv (BL P.bad),.pv (BL P.calm),.pv (ae P.vars),.own true 1 (aa P.beg)]
def ut(was:List Int)(b m:Int)(k:Nat):Bool:=((was.take k).drop b.toNat).any λx=>decide (x=m)
theorem F4(was:List Int){b:Int}(m:Int){k:Nat}(h:k<was.length)(a:b.toNat<=k):ut was b m (k+1)=(ut was b m k||decide (was[k]=m)):=by
 unfold ut;rw[SC h,SI (by simp;omega),List.any_append];simp
def pL(beg was:List Int)(m:Int):Nat->Int
 |0=>0
 |i+1=>if ut was (beg.getD i 0) m was.length=true then((i+1:Nat):Int)else pL beg was m i
section
variable {h : List (List SV)} {bp be : Nat} {P : PlS}
theorem F5(x:h[bp]?=some (cM be P))(was:List Int)(l:Int)(A:was.length<=1000000)(y:∀b∈P.beg,0<=b∧b<=was.length)(hn:P.beg.length<=1000000):
 aB Tryz.prog 185 [.ptr bp 0,.seq false 1 (aa was),ae l] h (λr h'=>h'=h∧r=.pv (ae (pL P.beg was (aS (-l)) P.beg.length))):=by
 refine fC [] [.tmp 6] aE Tryz.func185 ?_;obtain⟨f,a⟩:=Rt.1 x;obtain⟨N,m⟩:∃N:Nat->Int,∀i,N i=pL P.beg was (aS (-l)) i:=⟨_,λ_=>rfl⟩;have o:N 0=0:=by rw[m];rfl
 rw[←m];have q:h[bp][9]?=some (.own true 1 (aa P.beg)):=by rw[a];rfl
 simp;refine aw.intro (S:=λ(i:Nat)=>⟨[(0,.pv (.ptr bp 0)),(1,.pv (.seq false 1 (aa was))),(2,.pv (ae l)),(7,.pv (ae (N i))),(8,.pv (ae i))],h⟩) (λi=>i<=P.beg.length) (λi=>P.beg.length -i) 0 ?_ (RL _) ?_
 .exact ah.keep (by simp[o]) rfl
 intro i hi
 by_cases d:i<P.beg.length
 .have g:=dr i;have t:=y _ (Rz d);obtain⟨b,c⟩:=S6 t.1;have s:P.beg.getD i 0=(b:Int):=by simp[d,c]
  have p:N (i+1)=if ut was b (aS (-l)) was.length=true then((i+1:Nat):Int)else N i:=by rw[m,pL,s,m]
  simp[f,a,cM,d,c];refine aw.intro (S:=λ(k:Nat)=>⟨[(0,.pv (.ptr bp 0)),(1,.pv (.seq false 1 (aa was))),(2,.pv (ae l)),(7,.pv (ae (if ut was b (aS (-l)) k=true then((i+1:Nat):Int)else N i))),(8,.pv (ae i)),(9,.pv (ae k))],h⟩) (λk=>b<=k∧k<=was.length) (λk=>was.length -k) b ?_ ⟨Ry _,by omega⟩ ?_
  .have:ut was b (aS (-l)) b=false:=by unfold ut;simp
   exact ah.keep (by simp[this]) rfl
  rintro k ⟨v,z⟩
  by_cases n:k<was.length
  .have j:=dr k;have hs:=F4 was (b:=b) (aS (-l)) n (by simpa using v)
   by_cases e:was[k]=aS (-l)
   .simp[n,e,g];exact⟨k+1,by(try dsimp only);omega,⟨by(try dsimp only);omega,by(try dsimp only);omega⟩,ah.keep (by simp[j,hs,e]) rfl⟩
   .simp[n,e];exact⟨k+1,by(try dsimp only);omega,⟨by(try dsimp only);omega,by(try dsimp only);omega⟩,ah.keep (by simp[j,hs,e]) rfl⟩
  .have w:k=was.length:=by omega
   subst w;rw[←p];simp;exact⟨i+1,by(try dsimp only);omega,by(try dsimp only);omega,ah.keep (by simp[g]) rfl⟩
 .have u:i=P.beg.length:=by omega
  subst u;simp[f,a,cM]
def tW(beg was lits:List Int)(u:Int):Nat->Int
 |0=>0
 |i+1=>if lits.getD i 0=u then tW beg was lits u i else max (tW beg was lits u i) (pL beg was (aS (-(lits.getD i 0))) beg.length)
theorem Cw(m:h[bp]?=some (cM be P))(was lits:List Int)(u:Int)(q:was.length<=1000000)(t:lits.length<=1000000)(o:∀b∈P.beg,0<=b∧b<=was.length)(hn:P.beg.length<=1000000):
 aB Tryz.prog 113 [.ptr bp 0,.seq false 1 (aa was),.seq false 1 (aa lits),ae u] h (λr h'=>h'=h∧r=.pv (ae (tW P.beg was lits u lits.length))):=by
 refine fC [] [.tmp 8] aE Tryz.func113 ?_;obtain⟨p,n⟩:=Rt.1 m;obtain⟨N,f⟩:∃N:Nat->Int,∀i,N i=tW P.beg was lits u i:=⟨_,λ_=>rfl⟩;have g:N 0=0:=by rw[f];rfl
 rw[←f];simp;refine aw.intro (S:=λ(i:Nat)=>⟨[(0,.pv (.ptr bp 0)),(1,.pv (.seq false 1 (aa was))),(2,.pv (.seq false 1 (aa lits))),(3,.pv (ae u)),(9,.pv (ae (N i))),(10,.pv (ae i))],h⟩) (λi=>i<=lits.length) (λi=>lits.length -i) 0 ?_ (RL _) ?_
 .exact ah.keep (by simp[g]) rfl
 intro i hi
 by_cases d:i<lits.length
 .have c:=dr i;have j:lits.getD i 0=lits[i]:=by simp[d]
  have a:N (i+1)=if lits[i]=u then N i else max (N i) (pL P.beg was (aS (-lits[i])) P.beg.length):=by rw[f,tW,j,f]
  have s:=F5 m was lits[i] q o hn
  by_cases e:lits[i]=u
  .rw[Rx e]at a;simp[d,e];exact⟨i+1,by(try dsimp only);omega,by(try dsimp only);omega,ah.keep (by simp[c,a]) rfl⟩
  .rw[Rw e]at a;simp[d,e];refine aj.intro s ?_;rintro _ _ ⟨rfl,rfl⟩;simp;have l:N (i+1)=if N i<pL P.beg was (aS (-lits[i])) P.beg.length then pL P.beg was (aS (-lits[i])) P.beg.length else N i:=by rw[a];split<;>omega
   exact⟨i+1,by(try dsimp only);omega,by(try dsimp only);omega,ah.keep (by simp[c,l]) rfl⟩
 .have k:i=lits.length:=by omega
  subst k;simp
end
end Go.AX
namespace Go.AX
open Go.Proofs
set_option linter.unusedSimpArgs false
def JX:Sch:=
 let g:Sch:=.fork [(16,.take 17 .done)]
 let l:Sch:=.fork [(15,g)]
 let e:Sch:=.fork [(11,.take 12 (.take 13 (.take 14 g)))]
 let h:Sch:=.fork [(11,.take 12 (.take 13 (.take 14 l))),(15,e)]
 let f:Sch:=.fork [(10,e)]
 let i:Sch:=.fork [(10,h),(15,f)]
 let j:Sch:=.fork [(8,.take 9 f)]
 let m:Sch:=.fork [(8,.take 9 i),(15,j)]
 let k:Sch:=.fork [(3,e)]
 let n:Sch:=.fork [(3,h),(15,k)]
 let a:Sch:=.fork [(3,f),(10,k)]
 let b:Sch:=.fork [(3,i),(10,n),(15,a)]
 let c:Sch:=.fork [(3,j),(8,.take 9 a)]
 let d:Sch:=.fork [(3,m),(8,.take 9 b),(15,c)]
 .take 0 (.take 1 (.take 2 (.take 4 (.take 5 (.take 6 (.take 7 d))))))
def JY:Sch:=
 let a:Sch:=.fork [(9,.take 10 (.take 11 .done))]
 let b:Sch:=.fork [(8,a)]
 let c:Sch:=.fork [(4,.take 10 (.take 11 .done))]
 let d:Sch:=.fork [(4,a),(9,c)]
 let e:Sch:=.fork [(4,b),(8,d)]
 .take 0 (.take 1 (.take 2 (.take 3 (.take 5 (.take 6 (.take 7 e))))))
theorem Cx{k be:Nat}(h:be<k)(P:PlS):cU k (cM be P):=⟨h,zy k _,trivial,trivial,trivial,trivial,trivial,trivial,trivial,bc k _,trivial⟩
section
variable {h : List (List SV)} {bp be bt ba bw bh : Nat} {P : PlS} {E : ES} {c' : Ck}
set_option maxRecDepth 16000 in
set_option maxHeartbeats 2000000 in
theorem qx{k0 N:Nat}(hb:h[bp]?=some (cM be P))(R:h[be]?=some (bQ bt ba bw bh E))(V:bp≠be)(b:Int)(I:P.steps=k0)(hk:k0<=E.pf.length)(hm:(E.pf.length:Int)<=k0+b)(ab:0<=b∧b<=1000)
 (t:iU P.c (E.pf.drop k0) c') (A:CkN (N+k0) P.c) (F:CkG P.c) (O:N+E.pf.length<=900) (hp:∀s∈E.pf,s.lits.length<=1000∧s.hints.length<=1000):
 aB Tryz.prog 54 [.ptr bp 0,ae b] h (λr h'=>h'=h.set bp (cM be {P with c:=c',steps:=(E.pf.length:Int)})∧r=.pv (BL (decide (c'.done=E.over)))):=by
 refine aB.below (by kernel_rfl) λT=>?_;refine cO [6,10] [.tmp 4] aE Tryz.func54 ?_;obtain⟨l,v⟩:=Rt.1 hb;obtain⟨hle,aa⟩:=Rt.1 R;have W:E.pf.length<=900:=by omega
 have kP:=qv R (by omega) (λs hs=>by have:=hp s hs;omega);have hw:=ap (n:=(k0:Int)+b) (by omega) (by omega);have c1:¬((E.pf.length:Int)<k0):=by omega
 have c2:¬((k0:Int)+b<E.pf.length):=by omega
 simp[l,v,cM];refine aj.intro kP ?_;rintro _ h ⟨rfl,rfl⟩;obtain⟨ss,X⟩:∃ss,E.pf=ss:=⟨_,rfl⟩;rw[X]at hk hm t O hp W c1 c2⊢;simp[l,v,cM,I,hw,c1,c2];refine aw.intro (S:=λ(x:Nat×Ck)=>⟨[(0,.pv (.ptr bp 0)),(5,.pv (.seq true 4 (ss.map lZ)))],h.set bp (cM be {P with c:=x.2,steps:=(x.1:Int)})⟩)
  (λx=>x.1<=ss.length∧iU x.2 (ss.drop x.1) c'∧CkN (N+x.1) x.2∧CkG x.2) (λx=>ss.length -x.1) (k0,P.c) ?_ ⟨hk,t,A,F⟩ ?_
 .refine ah.keep (by simp) ?_;rw[←I,←v,Ux]
 rintro⟨i,d⟩ ⟨hi,t,A,F⟩;dsimp only at hi t A F;obtain⟨G,z⟩:∃G,G=h.set bp (cM be {P with c:=d,steps:=(i:Int)}):=⟨_,rfl⟩;have a:bp<G.length:=by rw[z];simpa using l
 have f:G[bp]=cM be {P with c:=d,steps:=(i:Int)}:=by simp[z]
 have u:∀x,(G++x)[bp]?=some (cM be {P with c:=d,steps:=(i:Int)}):=λx=>by rw[RB a,Ru a,f]
 have j:∀x h',(G++x)[bp]'h'=cM be {P with c:=d,steps:=(i:Int)}:=λx h'=>by rw[Su a,f]
 have M:∀y x,(G.set bp y++x)[bp]?=some y:=λy x=>by rw[RB (by simpa using a),Si a]
 have L:G[be]?=some (bQ bt ba bw bh E):=by rw[z,RN V];exact R
 rw[←z]
 by_cases B:i<ss.length
 .have Z:=dr i;have ad:=hp _ (Rz B);rw[R8 B]at t;obtain⟨K,r2⟩:=t;have w:=FB F ss[i];have H:=(B1 F K).1;have C:=A.step (s:=ss[i]) (by omega);have kS:=(IE d (A.ok (by omega)) (by have:=A.n;omega) ss[i] (by omega) (by omega)).mono (R':=λr _=>r=.pv (.tup [m7 false (eW d ss[i]).1,ae 0])) λ_ _ T=>by rw[T.2,w,K]
  generalize eW d ss[i]=D at*;obtain⟨D,e⟩:=D;dsimp only at K r2 H C kS;subst K;have kT:=kS.args (xs:=[m7 false d,.agg (lZ ss[i])]) (by simp[bd,bu,lZ,gA]);have o:List.take 4 (lZ ss[i])=lZ ss[i]:=rfl;have k:eD (bG G 3) (lZ ss[i])=gA ss[i]:=by simp[lZ,gA]
  have g:bO 0 (lZ ss[i]):=by simp[lZ]
  obtain⟨Y,J⟩:∃Y,Y=lZ ss[i]:=⟨_,rfl⟩;rw[←J]at o k g kT;simp[B,a,f,cM,←J,o];refine aQ.meet JX ⟨[(0,.pv (.ptr bp 0)),(5,.pv (.seq true 4 (ss.map lZ))),(6,.pv (.ptr G.length 0)),(7,.pv (ae 0))],G++[[.pv (.seq false 2 (D.m.map bN)),.pv (ae D.last),.pv (BL D.done)]]⟩ (by kernel_rfl) ?_ ?_
  .simp[JX,B,a,f,u,j,cM,←J,o,k,g];and_intros
   all_goals first
    |refine ai.introX (bC.pureM (p:=[]) (q:=[]) (zs:=[m7 false d,.agg Y]) kT (by simp) rfl (by simp[dR,k,g]) (by simp[g]) (by simp[k,g]) ?_)
     simp[B,a,f,u,j,cM,←J,o,k,g]
     try and_intros
     all_goals exact ah.keep (by simp) (by simp)
    |skip
  .simp[a,u,j,M,Z,cM];refine⟨(i+1,D),by(try dsimp only);omega,⟨by(try dsimp only);omega,r2,C,H⟩,ah.to (by simp) ?_ (by simp) (by simpa using l) ?_⟩
   .simp[z,cM]
   .rw[R5];exact dN (Cx hle {P with c:=D,steps:=((i+1:Nat):Int)}) bp T
 .have U:i=ss.length:=by omega
  subst U;rw[V1]at t;have Q:d=c':=t;subst Q;simp[a,f,cM];have kO:=fu L;refine aQ.one JY (by kernel_rfl) ?_;simp[JY,a,f,cM];and_intros
  all_goals
   refine aj.intro kO ?_;rintro _ _ ⟨rfl,rfl⟩;simp[a,f,cM];exact⟨z,by cases d.done<;>cases E.over<;>rfl⟩
end
theorem TMk.cons{n:Nat}{T:Tr}(h:TMk n T):Cons T.lits:=λ_ hy a=>h.one hy a
theorem Grow.der{n:Nat}{S:WS}{T0 T:Tr}(f:TOk n T0){cs:List (List Int)}(h:∀k c,CW S k c->c∈cs)(g:Grow (CW S) n T0 T):TOk n T∧Der cs T0.lits T.lits:=by
 induction g with
 |refl=>exact⟨f,.base⟩
 |@step T k o c _ h1 d b l e a=>
  obtain⟨m,i,j⟩:=(a.1.may o).1 b;exact⟨a.1.imp b k,.step a.2 (h _ _ h1) d i j e⟩
theorem Ly{was:List Int}(hn:was.Nodup){q:Nat}(d:q<was.length){b:Int}(a:0<=b):ut was b was[q] was.length=decide (b<=q):=by
 unfold ut;rw[RY]
 by_cases c:b<=q
 .rw[S9 c,Ti];exact⟨was[q],Ub.2 ⟨q -b.toNat,by omega,by congr 1;omega⟩,by simp⟩
 .rw[Tq c,Tp];intro x hx e;obtain⟨j,hj,rfl⟩:=Ub.1 hx;have e:was[b.toNat+j]=was[q]:=by simpa using e
  have:=(List.getElem_inj hn).1 e;omega
theorem D8{beg was:List Int}(hn:was.Nodup)(g:beg.Pairwise (·<·))(e:∀b∈beg,0<=b){q:Nat}(f:q<was.length):∀i,i<=beg.length->pL beg was was[q] i=(((beg.take i).filter λb=>decide (b<=(q:Int))).length:Nat)
 |0,_=>rfl
 |i+1,h=>by
  have hi:i<beg.length:=by omega
  have k:beg.getD i 0=beg[i]:=by simp[hi]
  rw[pL,k,Ly hn f (e _ (Rz hi)),D8 hn g e f i (by omega),SC hi,SO,RF]
  by_cases c:beg[i]<=(q:Int)
  .have a:(beg.take i).filter (λb=>decide (b<=(q:Int)))=beg.take i:=by
    rw[Tw];intro b d;obtain⟨j,hj,rfl⟩:=SH.1 d;have:=R9.1 g j i (by omega) hi (by omega);simp;omega
   rw[a];simp[c];omega
  .simp[c]
theorem Nh{n:Nat}{T:Tr}(a:TOk n T)(hn:n<=1000000){l:Int}(h:-l∈T.lits)(g:ax l n=0):pL T.beg T.lits (aS (-l)) T.beg.length=dL T l:=by
 obtain⟨q,c,e⟩:=RJ h;have ho:=V.okL_chk (v:=n) (by have:=a.hn;omega) g;rw[(V.litO ho).2.2.2.2,←e,D8 a.toTMk.nodup a.rise (λb f=>(a.bnd b f).1) c _ (Ry _),RY];have d:l=-T.lits[q]:=by omega
 rw[d,xH a c];rfl
theorem JZ{beg was lits:List Int}{u k:Int}(h:∀y∈lits,y≠u->pL beg was (aS (-y)) beg.length<=k)(hk:0<=k):∀i,i<=lits.length->0<=tW beg was lits u i∧tW beg was lits u i<=k
 |0,_=>⟨TU _,hk⟩
 |i+1,hi=>by
  have b:=JZ h hk i (by omega);have a:lits.getD i 0=lits[i]:=by simp[show i<lits.length by omega]
  rw[tW,a];split
  .exact b
  .rename_i c;have:=h _ (Rz (show i<lits.length by omega)) c;omega
theorem J3{beg was lits:List Int}{u:Int}:∀i,i<=lits.length->∀j (hj:j<lits.length),j<i->lits[j]≠u->pL beg was (aS (-lits[j])) beg.length<=tW beg was lits u i
 |0,_,j,_,h,_=>by omega
 |i+1,hi,j,hj,h,a=>by
  have b:lits.getD i 0=lits[i]:=by simp[show i<lits.length by omega]
  rw[tW,b]
  by_cases e:j=i
  .subst e;rw[Rw a];omega
  .have:=J3 (beg:=beg) (was:=was) i (by omega) j hj (by omega) a;split<;>omega
section
variable {n r s : Nat} {F : List (List Int)} {l : List Rc} {E : ES}
theorem EI.asked(h:EI n F r s l E)(i:0<=E.con){u:Int}{w:List Int}(e:az E=u::w):tW E.T.beg E.T.lits (az E) u (az E).length=dy E.T (az E):=by
 have R:=h.res i;have m:=h.n9;rcases R.lev with⟨_,a⟩|⟨o,p,a,b0,b1,b2,b3,b4⟩
 .rw[e]at a;cases a
 rw [e] at a; obtain ⟨rfl, rfl⟩ := List.cons.inj a; have c := R.nd; rw [e, S4] at c; have b : ∀ y ∈ az E, pL E.T.beg E.T.lits (aS (-y)) E.T.beg.length = dL E.T y := λ y hy => Nh h.tok (by omega) (R.neg y hy) (R.chk y hy); have h1 := JZ (beg := E.T.beg) (was := E.T.lits) (lits := az E) (u := u) (k := dy E.T (az E)) (λ y hy f => by
  rw[b y hy];rw[e]at hy;exact b3 y ((RZ.1 hy).resolve_left f)) b0 _ (Ry _)
 rcases b4 with b4|⟨y,hy,b4⟩
 .omega
 .have d:y∈az E:=by rw[e];exact RO _ hy
  obtain⟨j,hj,ej⟩:=RJ d;have g:=J3 (beg:=E.T.beg) (was:=E.T.lits) (u:=u) _ (Ry _) j hj hj (by rw[ej];exactλa=>c.1 (a▸hy));rw[ej,b y d]at g;omega
theorem EI.uok(h:EI n F r s l E):UOk n (rC l)where
 hn:=by have:=h.n9;omega
 nd:=λc a=>by obtain⟨y,hy,rfl⟩:=RE.1 a;exact(h.cls y hy).2.1
 len:=λc a=>by obtain⟨y,hy,rfl⟩:=RE.1 a;exact(h.cls y hy).1
 chk:=λc a=>by obtain⟨y,hy,rfl⟩:=RE.1 a;exact(h.cls y hy).2.2
theorem EI.fol(h:EI n F r s l E):decide (0<=(eQ (rC l) E.T.lits).2.2)=decide (0<=(dz E.S E.T).2.2)∧E.T.lits<+:(dz E.S E.T).2.1.lits∧((dz E.S E.T).2.2<0->(dz E.S E.T).2.1.lits.length=(eQ (rC l) E.T.lits).1.length∧KD (dz E.S E.T).2.1.lits (eQ (rC l) E.T.lits).1=true∧zL (rC l) (dz E.S E.T).2.1.lits=true):=by
 have v:=xw h.wok h.tok;have w:=h.uok;have u:=h.prp;have g:=u.cal;have i:=u.con;have m:∀c∈rC l,c.length<=1000∧∀y∈c,cE y=true:=λc o=>by obtain⟨y,hy,rfl⟩:=RE.1 o;exact h.cl hy
 dsimp only at g i;have j:=v.grow;have p:=v.tok;generalize(dz E.S E.T).2.1=t at*;generalize(dz E.S E.T).2.2=k at*;obtain⟨_,z⟩:=j.der h.tok (cs:=rC l) λk c o=>by
  obtain⟨x,hx,_,e⟩:=(h.att k c).1 o;exact e▸Ty hx
 have b:=p.toTMk.cons;have f:(k<0∧Calm (rC l) t.lits)∨(0<=k∧∃c∈rC l,pN t.lits c=-1):=by
  by_cases c:k<0
  .refine .inl ⟨c,xF m (λy _ hy=>b y hy.1 hy.2) λd hd=>?_⟩;obtain⟨x,hx,rfl⟩:=RE.1 hd;exact g (by simpa using c) x hx
  .obtain⟨x,hx,_,e⟩:=i (by omega);exact .inr ⟨by omega,x.lits,Ty hx,(w.fail b (Ty hx)).2 e⟩
 have a:=IU w h.tok.toTMk.cons h.tok.toTMk.nodup z (f.imp And.right And.right);refine⟨?_,j.pre.1,λhk=>?_⟩
 .rw[decide_eq_decide];rcases f with⟨c,q⟩|⟨c,q⟩
  .have:=(a.2 q).1;omega
  .exact⟨λ_=>c,λ_=>a.1.2 q⟩
 .rcases f with⟨_,q⟩|⟨c,_⟩
  .obtain⟨_,A,B⟩:=a.2 q;refine⟨A,?_,IV q⟩;unfold KD;rw[R3];intro x hx;unfold d4;have:=B x hx;cases cE x<;>simp[this]
  .omega
theorem EI.unitd(h:EI n F r s l E)(a:0<=E.con){u:Int}{w:List Int}(e:az E=u::w):
 pN E.T.lits (az E)=-1∧∃j:Nat,dy E.T (az E)=j∧∃hj:j<E.T.beg.length,bD (bz E.T j).lits (az E)=(u,true)∧(bz E.T j).lits=E.T.lits.take (E.T.beg[j]).toNat∧(bz E.T j).beg=E.T.beg.take j∧fD (bz E.T j) u=0:=by
 have R:=h.res a;have v:=h.n9;have d:=h.tok.toTMk.cons;have o:UOk n [az E]:=⟨by omega,λc a=>by simp at a;subst a;exact R.nd,λc a=>by simp at a;subst a;have:=R.len;omega,λc a=>by simp at a;subst a;exact R.chk⟩;refine⟨(o.fail d (by simp)).2 R.neg,?_⟩;rcases R.lev with⟨_,g⟩|⟨x,z,g,b0,b1,b2,b3,b4⟩
 .rw[e]at g;cases g
 rw[e]at g;obtain⟨rfl,rfl⟩:=List.cons.inj g;obtain⟨j,hj⟩:∃j:Nat,dy E.T (az E)=j:=⟨(dy E.T (az E)).toNat,by omega⟩;have b:j<E.T.beg.length:=by omega
 obtain⟨t1,t,t3⟩:=h.tok.back b;have f:u∈az E:=by rw[e];simp
 have i:-u∈E.T.lits:=R.neg u f;have p:u∉(bz E.T j).lits:=λk=>by
  rw[t]at k;exact h.tok.one (Sl k) i
 have q:-u∉(bz E.T j).lits:=λk=>by
  have:=(rI h.tok b i).1 k;omega
 refine⟨j,hj,b,o.unit_of t1.toTMk.cons (by simp) f p q λy hy m=>?_,t,t3,(t1.may u).2 ⟨R.chk u f,p,q⟩⟩;refine(rI h.tok b (R.neg y hy)).2 ?_;rw[e]at hy;have:=b3 y ((RZ.1 hy).resolve_left m);omega
end
structure PyK (n:Nat) (F:List (List Int)) (k:Nat) (l:List Rc) (E:ES) (P:PlS):Prop where
  ck:CkE F l E P.c
  st:P.steps=E.pf.length
  fi:P.first=F.length
  vr:P.vars=n
  bad:P.bad=(!E.over&&decide (0<=E.con))
  cal:E.over=false->P.calm=E.calm
  beg:E.over=false->P.beg=E.T.beg
  few:l.length+k<=120
  pfk:E.pf.length+k<=60
  pfs:J8 E
structure PyJ (n:Nat) (F:List (List Int)) (r s:Nat) (h:List (List SV)) (be bt ba bw bh:Nat) (mp:List (Int×Nat)) (mb:List (Int×By)) (bp:Nat) (E:ES) (l:List Rc) (P:PlS):Prop where
  L:LayE h be bt ba bw bh mp mb E
  J:EJ n F r s l E
  b:h[bp]?=some (cM be P)
  nd:¬da be bt ba bw bh mp mb bp
  K:PyK n F r l E P
def qz(be bt ba bw bh bp:Nat)(mp:List (Int×Nat))(mb:List (Int×By))(b:Nat):Prop:=b=bp∨da be bt ba bw bh mp mb b
section
variable {n r s : Nat} {F : List (List Int)} {h : List (List SV)} {be bt ba bw bh bp : Nat} {mp : List (Int × Nat)} {mb : List (Int × By)} {E : ES} {l : List Rc} {P : PlS}
theorem LayE.other(L:LayE h be bt ba bw bh mp mb E)(b:Nat)(x:List SV)(a:¬da be bt ba bw bh mp mb b):LayE (h.set b x) be bt ba bw bh mp mb E where
 w:=L.w.other b x (λd=>a (.inr (.inr (.inr d)))) (λe=>a (.inr (.inr (.inl e))))
 e:=(RN (λe=>a (.inl e))).trans L.e
 q:=(RN (λe=>a (.inr (.inl e)))).trans L.q
 ne:=L.ne
 eo:=L.eo
 ho:=L.ho
theorem CkE.same{c:Ck}{a:ES}(K:CkE F l E c)(b:a.pf=E.pf)(d:a.id=E.id):CkE F l a c:=
 {K with run:=by rw[b];exact K.run,last:=K.last.trans d.symm,may:=by rw[b];exact K.may}
theorem iU.rest:∀{a b:List Stp}{c d e:Ck},iU c (a++b) d->iU c a e->iU e b d
 |[],_,_,_,_,h,f=>by cases f;exact h
 |_::a,_,_,_,_,h,f=>iU.rest (a:=a) h.2 f.2
theorem EJ.resd{q:HS}{p:List Bool}{k:Int}(I:EJ n F (r+1) (s+(n+3)) l E)(b:0<=E.con)(a:EI n F r s (l++[⟨E.id+1,1,az E⟩]) (nl E q p k)):EJ n F r s (l++[⟨E.id+1,1,az E⟩]) (nl E q p k):=by
 have R:=I.toEI.res b;have c:=R.len;have hle:=R.hle;have d:=I.n9;refine{a with kp:=?_,mny:=?_,pfz:=?_,pfs:=?_,vr:=I.vr,fm:=I.fm}
 .have e:=I.kp;show _<=E.keep;rw[SO];simp;omega
 .have:=I.mny;show 0<=E.many+1∧E.many+1+r<=1000000;omega
 .have:=I.pfz;show(E.pf++[_]).length+r<=1000000;simp;omega
 .intro x hx;rcases RI.1 hx with hx|hx
  .exact I.pfs x hx
  .simp at hx;subst hx;exact⟨by show(az E).length<=_;omega,by simp;omega⟩
theorem PyK.less(K:PyK n F (r+1) l E P):PyK n F r l E P:={K with few:=by have:=K.few;omega,pfk:=by have:=K.pfk;omega}
theorem PyJ.less(Q:PyJ n F (r+1) (s+(n+3)) h be bt ba bw bh mp mb bp E l P):PyJ n F r s h be bt ba bw bh mp mb bp E l P:={Q with J:=Q.J.less,K:=Q.K.less}
theorem PyK.cls(K:PyK n F r l E P):xM P.c=rC l:=by
 have e:=Ua (List.map Prod.snd) (ng l 0 K.ck.al);unfold xM rC;rw[K.ck.m];simpa[Sz,Uo]using e.symm
theorem PyJ.step{h':List (List SV)}{mp':List (Int×Nat)}{mb':List (Int×By)}{f:ES}{l':List Rc}{g:PlS}{k s':Nat}(Q:PyJ n F r s h be bt ba bw bh mp mb bp E l P)(o:LayE h' be bt ba bw bh mp' mb' f)(X:Ext h h' (da be bt ba bw bh mp mb) (da be bt ba bw bh mp' mb'))(m:EJ n F k s' l' f)(K':PyK n F k l' f g):
 PyJ n F k s' (h'.set bp (cM be g)) be bt ba bw bh mp' mb' bp f l' g∧Ext h (h'.set bp (cM be g)) (qz be bt ba bw bh bp mp mb) (qz be bt ba bw bh bp mp' mb'):=by
 have j:=(Rt.1 Q.b).1;have c:¬da be bt ba bw bh mp' mb' bp:=λd=>Q.nd (X.sub bp j d);have a:=X.len;refine⟨⟨o.other bp _ c,m,Si (by omega),c,K'⟩,by rw[R5];exact a,λb i d=>?_,λb i d=>?_⟩
 .rw[RN (λe=>d (.inl e.symm))];exact X.same b i λe=>d (.inr e)
 .rcases d with d|d
  .exact .inl d
  .exact .inr (X.sub b i d)
theorem PyK.fewC(K:PyK n F r l E P)(J:EJ n F r s l E):fewC (rC l):=by
 have b:=K.few;have e:=Ua List.length (ng l 0 K.ck.al);simp at e;refine⟨by unfold rC;rw[RH];omega,λc a=>?_⟩;obtain⟨y,hy,rfl⟩:=RE.1 a;exact(J.toEI.cls y hy).1
set_option maxRecDepth 16000 in
theorem Cy(Q:PyJ n F r s h be bt ba bw bh mp mb bp E l P):
 aB Tryz.prog 49 [.ptr bp 0] h (λy h'=>y=.pv (BL true)∧∃mb' P',PyJ n F r s h' be bt ba bw bh mp mb' bp (aO E) l P'∧Ext h h' (qz be bt ba bw bh bp mp mb) (qz be bt ba bw bh bp mp mb')):=by
 refine cO [] [.tmp 2] aE Tryz.func49 ?_;obtain⟨w,I⟩:=Rt.1 Q.b;have B:=Q.J.toEI;have ag:=B.n9;have ae:=B.tok.few;have k1:=fv Q.L (by omega);have k2:=fu Q.L.e;have k3:=tN Q.L B.wok B.tok;simp[w,I,cM];refine aj.intro k1 ?_;rintro _ h ⟨rfl,rfl⟩;simp[w,I,cM];refine aj.intro k2 ?_;rintro _ h ⟨rfl,rfl⟩;simp[w,I,cM];have key:∀(H:List (List SV))(mb':List (Int×By)),LayE H be bt ba bw bh mp mb' (aO E)->Ext h H (da be bt ba bw bh mp mb) (da be bt ba bw bh mp mb')->PyJ n F r s (H.set bp (cM be {P with bad:=!E.over&&!(aO E).calm,calm:=!E.over&&(aO E).calm})) be bt ba bw bh mp mb' bp (aO E) l {P with bad:=!E.over&&!(aO E).calm,calm:=!E.over&&(aO E).calm}∧Ext h (H.set bp (cM be {P with bad:=!E.over&&!(aO E).calm,calm:=!E.over&&(aO E).calm})) (qz be bt ba bw bh bp mp mb) (qz be bt ba bw bh bp mp mb'):=λH mb' O D=>by
  have K:=Q.K;refine Q.step O D (Q.J.to B.prps rfl (by unfold aO;split<;>rfl) (by unfold aO;split<;>rfl) (by unfold aO;split<;>rfl) (by unfold aO;split<;>rfl) (by unfold aO;split<;>rfl)) ?_;have R:(aO E).over=E.over:=by unfold aO;split<;>rfl
  exact{K with
   ck:=K.ck.same (by unfold aO;split<;>rfl) (by unfold aO;split<;>rfl)
   st:=K.st.trans (by unfold aO;split<;>rfl)
   bad:=by
    dsimp only;rw[R];unfold aO;split
    .rename_i c;simp[c]
    .dsimp only;congr 1;rw[←decide_not];congr 1;apply propext;omega
   cal:=λho=>by rw[R]at ho;simp[ho]
   beg:=λho=>by
    rw[R]at ho;rw[show(aO E).T.beg=E.T.beg from by
     unfold aO;split
     .rfl
     .exact(xw B.wok B.tok).grow.pre.2]
    exact K.beg ho
   pfk:=by rw[show(aO E).pf=E.pf from by unfold aO;split<;>rfl];exact K.pfk
   pfs:=by unfold J8;rw[show(aO E).pf=E.pf from by unfold aO;split<;>rfl];exact K.pfs}
 have ad:P.c.m.length<=120:=by rw[Q.K.ck.m,RH];have:=Q.K.few;omega
 have C:=Q.K.fewC Q.J;have k5:=xN P.c E.T.lits (by omega) (by omega) (by rw[Q.K.cls];exact C);rw[Q.K.cls]at k5;have v:=B.fol;cases ho:E.over
 rotate_left
 .have x:aO E=E:=by unfold aO;rw[Rx ho]
  rw[x,ho]at k3 key;rw[x];refine aj.intro k3 ?_;rintro _ H ⟨rfl,mb',O,D⟩;obtain⟨u,A⟩:=key H mb' O D;have Z:=(D.same bp w Q.nd).trans Q.b;obtain⟨a,N⟩:=Rt.1 Z;simp[a,N,cM];simp at u A;have V:=fv u.L (by omega);simp only[cM]at V;refine aj.intro V ?_;rintro _ G ⟨rfl,rfl⟩;simp[a];refine aP.intro (λ_=>jm E.T.lits E.T.lits (by omega)) ?_;simp;exact⟨mb',⟨_,u⟩,A⟩
 .have x:aO E={E with S:=(dz E.S E.T).1,T:=(dz E.S E.T).2.1,con:=(dz E.S E.T).2.2,calm:=decide ((dz E.S E.T).2.2<0)}:=by unfold aO;rw[Rw (by simp[ho])]
  have R:(aO E).T=(dz E.S E.T).2.1:=by rw[x]
  have o:(aO E).calm=decide ((dz E.S E.T).2.2<0):=by rw[x]
  rw[←R]at v;generalize(dz E.S E.T).2.2=k at*;generalize eQ (rC l) E.T.lits=W at*;obtain⟨w1,w2,X⟩:=W;dsimp only at v k5;obtain⟨f1,f2,f3⟩:=v;refine aj.intro k3 ?_;rintro _ H ⟨rfl,mb',O,D⟩;obtain⟨u,A⟩:=key H mb' O D;have Z:=(D.same bp w Q.nd).trans Q.b;obtain⟨a,N⟩:=Rt.1 Z;simp[a,N,cM,ho];simp[ho]at u A;have ab:=u.J.toEI.tok.few;have V:=fv u.L (by omega);have f:=f2.length_le;have g:List.take E.T.lits.length (aa (aO E).T.lits)=aa E.T.lits:=by
   obtain⟨t,ht⟩:=f2;rw[←ht];simp[aa]
  have U:=jm E.T.lits E.T.lits (by omega);generalize(aO E).T.lits=M at*;simp only[cM]at V;refine aj.intro V ?_;rintro _ G ⟨rfl,rfl⟩;simp[a];refine ai.intro k5 ?_;have ah:0<=X↔0<=k:=by simpa using f1
  have kC:=(pK P.c (by omega)).mono (R':=λr _=>r=.pv (.seq true 1 ((rC l).map ao))) λ_ _ h=>by rw[h.2,Q.K.cls]
  by_cases hk:k<0
  .have i:¬0<=X:=by omega
   have d:X<0:=by omega
   have af:¬0<=k:=by omega
   obtain⟨Y,g2,g3⟩:=f3 hk;have z:E.T.lits.length<=w1.length:=by omega
   have kS:=wS M w1 (by omega) (by omega);have kD:=Ca (rC l) M (by omega) C;rw[g2]at kS;rw[g3]at kD;simp[a,o,hk,i,d,f,g];refine aP.intro (λ_=>U) ?_;simp[a,o,hk,i,d,f,z,g,Y];refine aP.intro (λ_=>kS) ?_;simp[a,o,hk,i,d,f,z,g,Y];refine aP.introK (λ_=>ai.introX (bC.pureM (p:=[]) (q:=[]) (zs:=[m7 false P.c]) kC (by simp[a]) rfl (by simp[dR]) (by simp) (by simp) ?_)) (λe=>absurd trivial e);simp[a,o,hk,i,d,f,z,g,Y];refine aP.intro (λ_=>kD) ?_;simp[o,hk]at u A;simp[a,o,hk,i,d,f,z,g,Y];exact⟨mb',⟨_,u⟩,A⟩
  .have j:0<=X:=by omega
   have d:¬X<0:=by omega
   simp[a,o,hk,j,d,f,g];refine aP.intro (λ_=>U) ?_;simp[a,o,hk,j,d,f,g];refine aP.introK (λe=>e.elim) (λ_=>?_);simp[a,o,hk,j,d,f,g];refine aP.introK (λe=>e.elim) (λ_=>?_);simp[a,o,hk,j,d,f,g];refine aP.introK (λe=>e.elim) (λ_=>?_);simp[o,hk]at u A;simp[a,o,hk,j,d,f,g];exact⟨mb',⟨_,u⟩,A⟩
end
def xO:Sch:=
 let a:Sch:=.fork [(40,.take 41 (.take 42 .done))]
 let b:Sch:=.fork [(38,.take 39 a)]
 let c:Sch:=.fork [(22,.take 24 (.take 25 (.take 26 (.take 27 (.take 28 (.take 29 (.take 30 (.take 31 (.take 32 (.take 33 (.take 34 (.take 35 (.take 36 (.take 37 b))))))))))))))]
 let d:Sch:=.fork [(21,c)]
 let e:Sch:=.fork [(13,.take 15 (.take 16 (.take 17 (.take 18 (.take 19 (.take 20 (.take 23 d)))))))]
 .take 0 (.take 1 (.take 2 (.take 3 (.take 4 (.take 5 (.take 6 (.take 7 (.take 8 (.take 9 (.take 10 (.take 11 (.take 12 (.take 14 e)))))))))))))
section
variable {n r s : Nat} {F : List (List Int)} {h : List (List SV)} {be bt ba bw bh bp : Nat} {mp : List (Int × Nat)} {mb : List (Int × By)} {E : ES} {l : List Rc} {P : PlS}
theorem PyJ.cat(Q:PyJ n F r s h be bt ba bw bh mp mb bp E l P):CkN (l.length+0) P.c∧CkG P.c:=by
 have K:=Q.K.ck;have b:=Q.J.toEI;have oI:=b.idz;have g:=K.g;have key:∀q∈P.c.m,1<=q.1∧q.2.length<=1000:=λq a=>by
  rw[K.m]at a;obtain⟨x,hx,rfl⟩:=RE.1 a;have e:=ng l 0 K.al;have:(x.id,x.lits)∈(bn 0 l).map λy=>(y.id,y.lits):=by rw[e];exact RE.2 ⟨x,hx,rfl⟩
  obtain⟨y,hy,f⟩:=RE.1 this;obtain⟨i,j⟩:=Wm f;have h1:=(b.cls y hy).1;have d:=b.ari.ids y hy;rw[i]at d;rw[j]at h1;exact⟨d,h1⟩
 refine⟨⟨by rw[K.m,RH];exact Ry _,λq a=>?_,λq a=>by have:=(key q a).2;omega,?_⟩,g⟩
 .have:=g.hi q a;have:=(key q a).1;rw[K.last]at*;exact BU (by omega) (by omega)
 .rw[K.last];omega
set_option maxRecDepth 16000 in
set_option maxHeartbeats 1000000 in
theorem Av(Q:PyJ n F (r+1) (s+(n+3)) h be bt ba bw bh mp mb bp E l P):
 aB Tryz.prog 50 [.ptr bp 0] h (λy h'=>y=.pv (BL true)∧∃mp' i l' P',PyJ n F r s h' be bt ba bw bh mp' mb bp i l' P'∧Ext h h' (qz be bt ba bw bh bp mp mb) (qz be bt ba bw bh bp mp' mb)):=by
 refine cO [20] [.tmp 2] aE Tryz.func50 ?_;obtain⟨t,v⟩:=Rt.1 Q.b;have hI:=Q.J.toEI;have bA:=hI.n9;have bv:=hI.tok.few;have bo:=Q.K.few;have br:=Q.K.pfk;have aG:=Q.K.pfs;unfold J8 at aG;have k1:=fv Q.L (by omega);have k2:=gE Q.L;have k3:=nf Q.L.e;have a6:bp≠be:=λe=>Q.nd (.inl e);simp[t,v,cM];refine aj.intro k1 ?_;rintro _ h ⟨rfl,rfl⟩;simp[t,v,cM];refine aj.intro k2 ?_;rintro _ h ⟨rfl,rfl⟩;simp[t,v,cM];refine aj.intro k3 ?_;rintro _ h ⟨rfl,rfl⟩;simp[t,v,cM]
 by_cases cc:E.over=true∨E.con<0
 .have z:P.bad=false:=by
   rw[Q.K.bad];rcases cc with c|c
   .simp[c]
   .simp[show¬0<=E.con by omega]
  refine aj.intro (xK Q.L.e cc) ?_;rintro _ h ⟨rfl,rfl⟩;obtain⟨cN,cG⟩:=Q.cat;have a9:({P with c:=P.c,steps:=(E.pf.length:Int)}:PlS)=P:=by rw[←Q.K.st]
  have kC:=qx (k0:=E.pf.length) (N:=l.length) (c':=P.c) Q.b Q.L.e a6 0 Q.K.st (Ry _) (by omega) (by omega) (by rw[V1];rfl) (cN.up (by omega)) cG (by omega) (λs hs=>(aG s hs).2);rw[a9,←v,Ux,S9 (Q.K.ck.over hI)]at kC;simp[t,v,cM,z];refine aj.intro kC ?_;rintro _ h ⟨rfl,rfl⟩;simp[t,v,cM,z];refine aj.intro (nf Q.L.e) ?_;rintro _ h ⟨rfl,rfl⟩;simp[t,v,cM,z];exact⟨mp,⟨E,l,P,Q.less⟩,⟨Ry _,λ_ _ _=>rfl,λ_ _ e=>e⟩⟩
 .have ho:E.over=false:=by cases e:E.over<;>simp[e]at cc⊢
  have hc:0<=E.con:=by omega
  have R:=hI.res hc;have z:P.bad=true:=by rw[Q.K.bad,ho];simpa using hc
  have C:P.beg=E.T.beg:=Q.K.beg ho;refine aj.intro (qT Q.L hI ho hc (by omega) (by have:=Q.J.mny;omega)) ?_;rintro _ H ⟨rfl,mp',q,p,k',L',X',I'⟩;have J':=Q.J.resd hc I';obtain⟨⟨c',K'⟩,ax,-,-⟩:=Q.K.ck.kin hI Q.K.pfs (.inr ⟨ho,hc,rfl,q,p,k',rfl⟩) (by have:=hI.idz;omega);obtain⟨i,S⟩:∃i,i=nl E q p k':=⟨_,rfl⟩;have av:i.pf=E.pf++[⟨1,E.id+1,az E,(eZ E).map (iW E.A)⟩]:=by rw[S];rfl
  have bj:i.over=(E.over||decide ((az E).length=0)):=by rw[S];rfl
  have bi:i.many=E.many+1:=by rw[S];rfl
  have a2:i.T=if az E=[]then E.T else i8 (ja E) ((az E).headD 0) E.A.row.length:=by rw[S];rfl
  rw[←S]at L' I' J' K' ax;have hH:=(X'.same bp t Q.nd).trans Q.b;obtain⟨au,bf⟩:=Rt.1 hH;have a5:¬da be bt ba bw bh mp' mb bp:=λd=>Q.nd (X'.sub bp t d);have aU:=K'.over I';obtain⟨m,hm⟩:∃m,E.pf.length=m:=⟨_,rfl⟩;obtain⟨st,aX⟩:∃st:Stp,st=⟨1,E.id+1,az E,(eZ E).map (iW E.A)⟩:=⟨_,rfl⟩;rw[←aX]at av;have g:i.pf.length=m+1:=by rw[av,RF,hm];rfl
  have aD:i.pf[m]?=some st:=by rw[av,←hm];simp
  have aV:i.pf.drop m=[st]:=by rw[av,←hm];simp
  have a7:iU P.c (i.pf.drop m) c':=by
   have h1:=K'.run;rw[av]at h1;rw[aV];exact iU.rest h1 Q.K.ck.run
  unfold J8 at ax;have aC:P.steps=m:=by rw[Q.K.st,hm]
  obtain⟨cN,cG⟩:=Q.cat;have bn:=ap (n:=E.many+1) (by have:=Q.J.mny;omega) (by have:=Q.J.mny;omega);simp[au,bf,cM,z];obtain⟨G,hG⟩:∃G,G=H.set bp (cM be {P with bad:=false,calm:=false}):=⟨_,rfl⟩;have LG:LayE G be bt ba bw bh mp' mb i:=by rw[hG];exact L'.other bp _ a5
  have a1:bp<G.length:=by rw[hG];simpa using au
  have a0:G[bp]=cM be {P with bad:=false,calm:=false}:=by simp[hG]
  have a8:∀x,G.set bp x=H.set bp x:=λx=>by rw[hG,UO]
  have aL:=hG;simp only[cM]at aL;rw[←aL];clear aL;have k4:=qv LG.e (by omega) (λs hs=>by have:=(ax s hs).2;omega);have kC:=qx (h:=G) (P:={P with bad:=false,calm:=false}) (k0:=m) (N:=l.length) (c':=c') (by rw[Ru a1,a0]) LG.e a6 1 aC (by omega) (by omega) (by omega) a7 (cN.up (by omega)) cG (by omega) (λs hs=>(ax s hs).2);rw[a8,S9 aU]at kC;refine aj.intro k4 ?_;rintro _ G ⟨rfl,rfl⟩;obtain⟨pp,aW⟩:∃pp,i.pf=pp:=⟨_,rfl⟩;have L2:∀x,LayE (H.set bp x) be bt ba bw bh mp' mb i:=λx=>L'.other bp x a5;rw[aW]at g aD kC⊢;have c1:¬(pp.length:Int)=0:=by omega
  have D:¬(m:Int)+1=0:=by omega
  have ad:aS (m:Int)=m:=ap (by omega) (by omega);have af:aS ((m:Int)+1 -1)=m:=by rw[ap (by omega) (by omega)];omega
  have c2:pp≠[]:=λe=>by rw[e]at g;cases g
  simp[a1,a0,cM,g,c2,D];refine aj.intro kC ?_;clear kC k4;rintro _ O ⟨an,rfl⟩;have f:bp<O.length:=by rw[an];simpa using au
  have a:O[bp]=cM be {P with c:=c',steps:=(pp.length:Int),bad:=false,calm:=false}:=by simp[an]
  have LG2:LayE O be bt ba bw bh mp' mb i:=by rw[an];exact L2 _
  simp[f,a,cM,g,c2,D];refine aj.intro (nf LG2.e) ?_;rintro _ O ⟨rfl,rfl⟩;have k:∀h',pp[m]'h'=st:=λh'=>by have:=Ru h';rw[aD]at this;exact(TL this).symm
  have X:(lZ st)[2]?.getD PV.bot=.seq true 1 (aa (az E)):=by rw[aX];rfl
  have aw:(lZ st)[0]?.getD PV.bot=ae 1:=by rw[aX];rfl
  have o:(m:Int)<m+1:=by omega
  have bq:=I'.tok.few;have k5:=fv LG2 (by omega);have k6:=gE LG2;have bx:=R.len;have k7:=lq E.T.lits (az E) (by omega) (by omega);simp[f,a,cM,g,c2,D,bi,bn,ad,af,k,X,o];refine aj.intro k5 ?_;rintro _ O ⟨rfl,rfl⟩;have K3:∀b:List Int,(i.over=false->b=i.T.beg)->PyK n F r (l++[⟨E.id+1,1,az E⟩]) i {P with c:=c',steps:=(pp.length:Int),bad:=false,calm:=false,beg:=b}:=λb hb=>{
   ck:=K'
   st:=by rw[aW]
   fi:=Q.K.fi
   vr:=Q.K.vr
   bad:=by rw[show i.con=-1 from by rw[S];rfl];simp
   cal:=λ_=>by rw[S];rfl
   beg:=hb
   few:=by rw[RF];simp;omega
   pfk:=by rw[aW,g];omega
   pfs:=by unfold J8;exact ax}
  by_cases I:az E=[]
  .have aA:i.T=E.T:=by rw[a2,Rx I]
   have aF:i.over=true:=by rw[bj,I];simp
   rw[I]at X;simp[f,a,cM,g,c2,D,ad,af,k,X,aw,o,I];refine aP.introK (λe=>e.elim) (λ_=>?_);simp[f,a,cM,g,c2,D,ad,af,k,X,aw,o,I];refine aj.intro k6 ?_;rintro _ O ⟨rfl,rfl⟩;simp[f,a,cM,g,c2,D,ad,af,k,X,aw,o,I,aA];refine aj.intro (fu LG2.e) ?_;rintro _ O ⟨rfl,rfl⟩;simp[aF];obtain⟨Q3,X3⟩:=Q.step L' X' J' (K3 P.beg λe=>by rw[aF]at e;cases e);rw[←an]at Q3 X3;exact⟨mp',⟨i,_,_,Q3⟩,X3⟩
  .obtain⟨u,w,ay⟩:∃u w,az E=u::w:=by
    cases e:az E with
    |nil=>exact absurd e I
    |cons u w=>exact⟨u,w,rfl⟩
   obtain⟨h1,j,hj,ar,bk,ab,bl,bm⟩:=hI.unitd hc ay;have aH:=hI.asked hc ay;rw[hj]at aH;obtain⟨bb,bc⟩:=hI.tok.bnd _ (Rz ar);obtain⟨B,hB⟩:∃B:Nat,E.T.beg[j]=B:=⟨_,(U3 bb).symm⟩;rw[hB]at ab bc;rw[SF]at ab;obtain⟨K0,aM⟩:∃K0,E.T.lits.take B=K0:=⟨_,rfl⟩;rw[aM]at ab;have aN:K0.length=B:=by rw[←aM,RD];omega
   have bg:ed E.T (dy E.T (az E))=bz E.T j:=by
    unfold ed;have e0:(if(j:Int)<0 then(0:Int)else j)=j:=Rw (by omega);rw[hj,e0,Rx (by omega)];rfl
   have aA:i.T=gu (bz E.T j) u E.A.row.length:=by
    rw[a2,Rw I];unfold ja;rw[Rw I,bg,ay];show i8 (bz E.T j) u _=_;have e0:wQ (bz E.T j) u E.A.row.length=0:=by unfold wQ;rw[Rw (by simp[bm]),Rw (by omega)]
    unfold i8;rw[Rx e0]
   have a3:i.T.beg=E.T.beg.take j:=by rw[aA];exact bl
   obtain⟨M,hM⟩:∃M,i.T.lits=M:=⟨_,rfl⟩;have aR:M=K0++[u]:=by rw[←hM,aA,←ab];rfl
   have U:M.length=B+1:=by rw[aR];simp[aN]
   have aO:∀h',M[B]'h'=u:=λh'=>by subst aR;simp[←aN]
   have ao:List.take B (aa M)=aa K0:=by rw[aR];simp[aa,←aN]
   have aT:List.take B (aa E.T.lits)=aa K0:=by rw[←aM];simp[aa]
   have V:i.T.beg.length=j:=by rw[a3,RD];omega
   have kU:=oi K0 (az E) (by omega) (by omega);rw[←ab,bk,ab]at kU;have bs:=hI.tok.deep;have kT:=λ(O:List (List SV)) (x:O[bp]?=some (cM be {P with c:=c',steps:=(pp.length:Int),bad:=false,calm:=false}))=>Cw x E.T.lits (az E) u (by omega) (by omega) (by dsimp only;rw[C];exactλb hb=>by have:=hI.tok.bnd b hb;omega) (by dsimp only;rw[C];omega);have Y:aS (B:Int)=B:=ap (by omega) (by omega);have ag:¬(B:Int)<0:=by omega
   have aI:¬(E.T.lits.length:Int)<B:=by omega
   have ah:(B:Int)<E.T.lits.length:=by omega
   have W:0<(az E).length:=by rw[ay];simp
   have aq:¬(E.T.beg.length:Int)<j:=by omega
   have Z:¬(E.T.beg.length:Int)<=j:=by omega
   rw[h1]at k7;rw[hM];simp[f,a,cM,g,c2,D,ad,af,k,X,aw,o,I,W];refine aP.intro (λ_=>k7) ?_;simp[f,a,cM,g,c2,D,ad,af,k,X,aw,o,I,W];refine aj.intro k6 ?_;rintro _ O ⟨rfl,rfl⟩;have ak:(B:Int)<=B+1:=by omega
   have aJ:¬(B:Int)+1=0:=by omega
   have aK:(B:Int)<B+1:=by omega
   simp[f,a,cM,I,W,V,aq,U,Y,ag,ao,ak];refine ai.intro kU ?_;simp[f,a,cM,I,W,V,aq,U,Y,ag,ao,ak];refine aQ.one xO (by kernel_rfl) ?_;simp[xO,f,a,cM,I,W,V,aq,U,Y,ag,ao,ak,aJ,aK,aO,aI,ah,aT];refine aj.intro k6 ?_;rintro _ O ⟨rfl,rfl⟩;have kI:=jm K0 K0 (by omega);rw[S9 rfl]at kI;have aZ:B<=E.T.lits.length:=by omega
   simp[xO,f,a,cM,I,W,V,aq,Z,ar,U,Y,ag,ao,ak,aJ,aK,aO,aI,ah,aT,aZ];refine aP.intro (λ_=>kI) ?_;have aY:=kT O (by rw[Ru f,a]);dsimp only at aY;rw[C,aH]at aY;simp[f,a,cM,I,W,V,aq,Z,ar,U,Y,ag,ao,ak,aJ,aK,aO,aI,ah,aT,aZ];refine aj.intro (aY.args (xs:=[.ptr bp 0,.seq true 1 (aa E.T.lits),.seq true 1 (aa (az E)),ae u]) (by simp[bd,bu])) ?_;rintro _ O ⟨rfl,rfl⟩;have a4:∀h',E.T.beg[j]'h'=(B:Int):=λ_=>hB;simp[f,a,cM,C,ar,Z,V,U,Y,a4];refine aj.intro k6 ?_;rintro _ O ⟨rfl,rfl⟩;simp[f,a,cM,C,ar,Z,V,U,Y,a4];obtain⟨Q3,X3⟩:=Q.step L' X' J' (K3 (E.T.beg.take j) λ_=>a3.symm);have e:H.set bp (cM be {P with c:=c',steps:=(pp.length:Int),bad:=false,calm:=false,beg:=E.T.beg.take j})=O.set bp [SV.pv (PV.ptr be 0),SV.pv (PV.seq false 2 (List.map bN c'.m)),SV.pv (ae c'.last),SV.pv (BL c'.done),SV.pv (ae (pp.length:Int)),SV.pv (ae P.first),SV.pv (BL false),SV.pv (BL false),SV.pv (ae P.vars),SV.own true 1 (List.take j (aa E.T.beg))]:=by
    rw[an,UO];simp[cM,aa]
   rw[e]at Q3 X3;exact⟨by omega,mp',⟨i,_,_,Q3⟩,X3⟩
end
def D9:Sch:=
 let a:Sch:=.fork [(9,.take 10 (.take 11 .done))]
 let c:Sch:=.fork [(8,a)]
 let b:Sch:=.fork [(4,a)]
 let d:Sch:=.fork [(4,c),(8,b)]
 let e:Sch:=.fork [(3,b)]
 let f:Sch:=.fork [(3,d),(8,e)]
 .take 0 (.take 1 (.take 2 (.take 5 (.take 6 (.take 7 f)))))
def J4:Sch:=
 let a:Sch:=.fork [(23,.take 27 (.take 28 (.take 29 .done)))]
 let b:Sch:=.fork [(22,a)]
 let c:Sch:=.fork [(18,a)]
 let d:Sch:=.fork [(18,b),(22,c)]
 let e:Sch:=.fork [(12,.take 13 (.take 14 (.take 15 (.take 16 (.take 17 (.take 19 (.take 20 (.take 21 (.take 24 (.take 25 (.take 26 d)))))))))))]
 .take 0 (.take 1 (.take 2 (.take 3 (.take 4 (.take 5 (.take 6 (.take 7 (.take 8 (.take 9 (.take 10 (.take 11 e)))))))))))
theorem Ext.up{h h':List (List SV)}{be bt ba bw bh bp:Nat}{mp mp':List (Int×Nat)}{mb mb':List (Int×By)}(X:Ext h h' (da be bt ba bw bh mp mb) (da be bt ba bw bh mp' mb')):Ext h h' (qz be bt ba bw bh bp mp mb) (qz be bt ba bw bh bp mp' mb'):=
 ⟨X.len,λb a d=>X.same b a λe=>d (.inr e),λb a d=>d.imp id (X.sub b a)⟩
section
variable {n r s : Nat} {F : List (List Int)} {h : List (List SV)} {be bt ba bw bh bp : Nat} {mp : List (Int × Nat)} {mb : List (Int × By)} {E : ES} {l : List Rc} {P : PlS}
theorem EJ.decs(J:EJ n F r s l E){a:ES}{b:Bool}(hd:Al n E a b):EJ n F r s l a:=by
 have c:=J.toEI.decs hd;rcases hd with⟨_,rfl,_⟩|⟨_,_,q,_,⟨_,x,_,rfl,_⟩|⟨_,rfl,_,_⟩⟩
 .exact J
 .exact J.to c rfl rfl rfl rfl rfl rfl
 .exact J.to c rfl rfl rfl rfl rfl rfl
theorem EI.full(h:EI n F r s l E)(k:∀v∈E.q.row,v∈E.T.lits.map af):E.T.lits.length=n:=by
 have m:=h.tok.few;have h1:∀v∈(List.range n).map (λi:Nat=>((i+1:Nat):Int)),v∈E.T.lits.map af:=λv j=>by
  obtain⟨i,hi,rfl⟩:=RE.1 j;rw[SK]at hi
  by_cases c:((i+1:Nat):Int)∈E.T.lits.map af
  .exact c
  .exact k _ (h.inh _ (by omega) (by omega) c)
 have f:((List.range n).map (λi:Nat=>((i+1:Nat):Int))).Nodup:=by
  refine Tj.2 (List.nodup_range.imp ?_);intro a b d e;exact d (by omega)
 have g:=cW _ _ f h1;rw[RH,RH,Vm]at g;omega
set_option maxRecDepth 16000 in
set_option maxHeartbeats 1000000 in
theorem Lz(Q:PyJ n F (r+1) (s+(n+3)) h be bt ba bw bh mp mb bp E l P)(k:Int):
 aB Tryz.prog 14 [.ptr bp 0,ae k] h (λy h'=>y=.pv (BL true)∧∃mp' mb' U l' C,PyJ n F r s h' be bt ba bw bh mp' mb' bp U l' C∧Ext h h' (qz be bt ba bw bh bp mp mb) (qz be bt ba bw bh bp mp' mb')):=by
 refine cO [4,10,26] [.tmp 4] aE Tryz.func14 ?_;have o:=Q.less;obtain⟨i,j⟩:=Rt.1 Q.b;have J:=o.J;have t:=J.toEI;have aK:=t.n9;have aI:=t.tok.few;have ax:=t.tok.deep;have k1:=fv Q.L (by omega);have k2:=gE Q.L;have aA:bp≠be:=λe=>Q.nd (.inl e)
 by_cases c0:k=0
 .simp[c0];refine aj.intro (Cy o) ?_;rintro _ H ⟨rfl,mb',C,M,u⟩;simp;exact⟨mp,mb',⟨_,_,C,M⟩,u⟩
 by_cases c1:k=1
 .simp[c1];refine aj.intro (Av Q) ?_;rintro _ H ⟨rfl,mp',U,l',C,M,u⟩;simp;exact⟨mp',mb,⟨U,l',C,M⟩,u⟩
 by_cases c2:k=2
 .have kD:=Cr Q.L t.tok t.hp t.ph;simp[c2];refine aQ.meet D9 ⟨[(0,.pv (.ptr bp 0)),(5,.pv (.seq true 1 (aa E.T.lits))),(6,.pv (ae E.T.beg.length))],h⟩ (by kernel_rfl) ?_ ?_
  .simp[D9,i,j,cM];and_intros
   all_goals
    repeat first
     |(refine aj.intro k1 ?_;rintro _ h ⟨rfl,rfl⟩;simp[i,j,cM];try and_intros)
     |(refine aj.intro k2 ?_;rintro _ h ⟨rfl,rfl⟩;simp[i,j,cM];try and_intros)
   all_goals exact ah.keep (by simp) rfl
  simp[i,j,cM];refine aj.intro kD ?_;rintro _ H ⟨U,b,rfl,hd,D,u⟩;have Z:=(u.same bp i Q.nd).trans Q.b;obtain⟨a,g⟩:=Rt.1 Z;have W:=J.decs hd;have z:=W.toEI.tok.few;have k3:=fv D (by omega);have X:=fu D.e;have k5:=gE D;have kI:=jm E.T.lits E.T.lits (by omega);rw[S9 rfl]at kI;have ao:=Q.K.vr;have w:=Q.K.cal;simp[a,g,cM];refine aj.intro k3 ?_;rintro _ H ⟨rfl,rfl⟩;rcases hd with⟨ho,rfl,rfl⟩|⟨ho,hc,q,hq,⟨rfl,x,hx,rfl,hin⟩|⟨rfl,rfl,hr,hin⟩⟩
  .have M:PyJ n F r s H be bt ba bw bh mp mb bp U l P:=⟨D,W,Z,λd=>Q.nd d,o.K⟩
   by_cases f:P.calm=true
   .have aC:U.over=true:=by
     rcases ho with ho|ho
     .exact ho
     .cases e:U.over with
      |true=>rfl
      |false=>rw[w e,ho]at f;cases f
    simp[a,g,cM,f];refine aj.intro X ?_;rintro _ H ⟨rfl,rfl⟩;simp[a,g,cM,f,aC];refine ai.intro kI ?_;simp[a,g,cM,f];refine aj.intro k5 ?_;rintro _ H ⟨rfl,rfl⟩;simp;exact⟨mp,mb,⟨_,_,_,M⟩,u.up⟩
   .have f:P.calm=false:=by simpa using f
    simp[a,g,cM,f];refine ai.intro kI ?_;simp[a,g,cM,f];refine aj.intro k5 ?_;rintro _ H ⟨rfl,rfl⟩;simp;exact⟨mp,mb,⟨_,_,_,M⟩,u.up⟩
  .have f:P.calm=true:=by rw[w ho,hc]
   have B:(gP E.T x).lits=E.T.lits++[x]∧(gP E.T x).beg=E.T.beg++[(E.T.lits.length:Int)]:=by
    unfold gP;rw[Rx hx];exact⟨rfl,rfl⟩
   dsimp only at z k3 X k5⊢;rw[B.1,RF]at z;simp only[R0,List.length_nil]at z;have I:(E.T.lits.length:Int)<P.vars:=by rw[ao];omega
   simp[a,g,cM,f];refine aj.intro X ?_;rintro _ H ⟨rfl,rfl⟩;have af:P.beg=E.T.beg:=Q.K.beg ho;have ak:(gP E.T x).lits.length=E.T.lits.length+1:=by rw[B.1];simp
   have V:(gP E.T x).beg.length=E.T.beg.length+1:=by rw[B.2];simp
   have an:List.take E.T.lits.length (aa (gP E.T x).lits)=aa E.T.lits:=by rw[B.1];simp[aa]
   have aq:aS ((E.T.lits.length:Int)+1)=(E.T.lits.length:Int)+1:=ap (by omega) (by omega);have aD:aS ((E.T.beg.length:Int)+1)=(E.T.beg.length:Int)+1:=ap (by omega) (by omega);have R:(E.T.lits.length:Int)<=E.T.lits.length+1:=by omega
   have ad:(E.T.beg.length+1)*8<=140737488355328:=by omega
   simp[a,g,cM,f,ho,I,ak,V,an,aq,af,ad,R];refine aP.intro (λ_=>kI) ?_;simp[a,g,cM,f,ho,I,ak,V,an,aq,af,ad,R];obtain⟨C,ab⟩:∃C:PlS,C={P with calm:=false,beg:=E.T.beg++[(E.T.lits.length:Int)]}:=⟨_,rfl⟩;have aF:=J.toEI.calmc hc;have K':PyK n F r l {E with T:=gP E.T x,calm:=false,q:=q} C:=by
    rw[ab];exact{o.K with
     ck:=o.K.ck.same rfl rfl
     bad:=o.K.bad
     cal:=λ_=>rfl
     beg:=λ_=>B.2.symm}
   obtain⟨v,O⟩:=Q.step D u W K';have e:H.set bp (cM be C)=H.set bp [SV.pv (PV.ptr be 0),SV.pv (PV.seq false 2 (List.map bN P.c.m)),SV.pv (ae P.c.last),SV.pv (BL P.c.done),SV.pv (ae P.steps),SV.pv (ae P.first),SV.pv (BL P.bad),SV.pv (BL false),SV.pv (ae P.vars),SV.own true 1 (aa E.T.beg++[[ae (E.T.lits.length:Int)]])]:=by
    rw[ab];simp[cM,aa]
   rw[e]at v O;refine aj.intro (gE v.L) ?_;rintro _ G ⟨rfl,rfl⟩;simp[V,aD];exact⟨mp,mb,⟨_,_,_,v⟩,O⟩
  .have f:P.calm=true:=by rw[w ho,hc]
   have I:¬(E.T.lits.length:Int)<P.vars:=by rw[ao,t.full hin];omega
   have K':PyK n F r l {E with q:=q} P:={o.K with ck:=o.K.ck.same rfl rfl,bad:=o.K.bad,cal:=o.K.cal,beg:=o.K.beg};have M:PyJ n F r s H be bt ba bw bh mp mb bp _ l P:=⟨D,W,Z,λd=>Q.nd d,K'⟩;simp[a,g,cM,f];refine aj.intro X ?_;rintro _ H ⟨rfl,rfl⟩;simp[a,g,cM,f,ho,I];refine ai.intro kI ?_;simp[a,g,cM,f,ho];refine aj.intro k5 ?_;rintro _ H ⟨rfl,rfl⟩;simp;exact⟨mp,mb,⟨_,_,_,M⟩,u.up⟩
 by_cases c3:k=3
 .have kR:=Af Q.L t.tok t.hp t.ph;simp[c3,i,j,cM];refine aj.intro kR ?_;rintro _ H ⟨rfl,⟨ho,rfl⟩|⟨ho,q,p,D,u,hq,hp,hin⟩⟩
  .have K':PyK n F r l E {P with bad:=false,calm:=false}:={o.K with
    ck:=o.K.ck
    bad:=by simp[ho]
    cal:=λe=>by rw[ho]at e;cases e
    beg:=o.K.beg}
   obtain⟨v,O⟩:=Q.step Q.L (Ext.refl _ _) J K';simp[i,j,cM];simp only[cM]at v O;refine aj.intro (fu v.L.e) ?_;rintro _ G ⟨rfl,rfl⟩;simp[ho];exact⟨mp,mb,⟨_,_,_,v⟩,O⟩
  .have Z:=(u.same bp i Q.nd).trans Q.b;obtain⟨a,g⟩:=Rt.1 Z;have ag:=F1 E.T;have au:=t.again q hq p hp hin;have W:=J.to au rfl rfl rfl rfl rfl rfl;have aw:[]=(ed E.T 0).beg:=(SY.1 ag).symm;have K':∀b:List Int,(b=[]∨True)->PyK n F r l {E with T:=ed E.T 0,q:=q,ph:=p,con:=-1,calm:=false} {P with bad:=false,calm:=false,beg:=[]}:=λ_ _=>{o.K with
    ck:=o.K.ck.same rfl rfl
    bad:=by simp
    cal:=λ_=>rfl
    beg:=λ_=>aw}
   obtain⟨v,O⟩:=Q.step D u W (K' [] (.inl rfl));simp[a,g,cM];have az:¬da be bt ba bw bh mp mb bp:=Q.nd;have LG:=λx=>D.other bp x az;refine aj.intro (fu (LG _).e) ?_;rintro _ G ⟨hG,rfl⟩;have Y:bp<G.length:=by rw[hG];simpa using a
   have ar:G[bp]=[SV.pv (PV.ptr be 0),SV.pv (PV.seq false 2 (List.map bN P.c.m)),SV.pv (ae P.c.last),SV.pv (BL P.c.done),SV.pv (ae P.steps),SV.pv (ae P.first),SV.pv (BL false),SV.pv (BL false),SV.pv (ae P.vars),SV.own true 1 (aa P.beg)]:=by simp[hG]
   simp[ho,Y,ar];have aJ:(H.set bp (cM be {P with bad:=false,calm:=false,beg:=[]}))[bp]?=some (cM be {P with bad:=false,calm:=false,beg:=[]}):=Si a;refine lU.to ⟨[(0,.pv (.ptr bp 0))],H.set bp (cM be {P with bad:=false,calm:=false,beg:=[]})⟩ ?_ (lU.ops ?_)
   .refine(ah.nilCell (b:=bp) (k:=9) (xs:=[SV.pv (PV.ptr be 0),SV.pv (PV.seq false 2 (List.map bN P.c.m)),SV.pv (ae P.c.last),SV.pv (BL P.c.done),SV.pv (ae P.steps),SV.pv (ae P.first),SV.pv (BL false),SV.pv (BL false),SV.pv (ae P.vars),.pv (.lit (.slice none 0 0))]) 1 true (Si Y) rfl).trans (ah.keep (by simp) ?_);simp[hG,cM,aa]
   simp[a,cM];simp only[cM]at v O;refine aj.intro (gE v.L) ?_;rintro _ G3 ⟨rfl,rfl⟩;simp[ag];exact⟨mp,mb,⟨_,_,_,v⟩,O⟩
 have X := Ad Q.L t.ari (by have := t.rsz; omega) t.tok.okT (by
  have h1:=D7 (A:=E.A) l [] (by rw[R7];exact t.ari.row);have h2:=J.kp;have h3:(((rA l).filter (pF E.A)).length)<=(l.filter λx=>decide (x.side=1)).length:=h1;omega)
 obtain⟨cN,cG⟩:=Q.cat;have aG:=Q.K.few;have aH:=Q.K.pfk;have S:=Q.K.pfs;unfold J8 at S;have kL:=At P.c P.first (by have:=cN.n;omega);have av:({P with c:=P.c,steps:=(E.pf.length:Int)}:PlS)=P:=by rw[←Q.K.st]
 have kC:=qx (k0:=E.pf.length) (N:=l.length) (c':=P.c) Q.b Q.L.e aA 1 Q.K.st (Ry _) (by omega) (by omega) (by rw[V1];rfl) (cN.up (by omega)) cG (by omega) (λs hs=>(S s hs).2);rw[av,←j,Ux,S9 (Q.K.ck.over t)]at kC;have ay:aS (JW P.c P.first)=JW P.c P.first:=by
  have h1:=cN.n;have h2:=SU (λq=>decide (P.first<q.1)) P.c.m;unfold JW;exact ap (by omega) (by omega)
 simp[c0,c1,c2,c3,i,j,cM];refine br.intro kL ?_;simp[i,j,cM];refine aj.intro X ?_;rintro _ h ⟨rfl,rfl⟩;simp[i,j,cM];refine aQ.one J4 (by kernel_rfl) ?_;simp[J4,i,j,cM];refine aj.intro kC ?_;rintro _ h ⟨rfl,rfl⟩;simp[i,j,cM];and_intros
 all_goals
  refine aP.intro (λ_=>kL) ?_;simp[ay];exact⟨mp,mb,⟨_,_,_,o⟩,(Ext.refl _ _).up⟩
end
end Go.AX
namespace Go.AX
set_option maxRecDepth 16000
open Go.Proofs
set_option linter.unusedSimpArgs false
section
variable {n r s : Nat} {F : List (List Int)} {l : List Rc} {E : ES}
def PT(n:Nat)(cs:List (List Int)):PlS:=⟨c9 cs,0,cs.length,false,false,n,[]⟩
theorem PyK.new{cs:List (List Int)}{kp:Int}(I:EI n cs r s l E)(N:NewOk n cs kp E l cs)(b:cs.length+r<=120)(a:r<=60):PyK n cs r l E (PT n cs)where
 ck:=CkE.new (by omega) N.num N.side N.id N.pf
 st:=by rw[N.pf];rfl
 fi:=rfl
 vr:=rfl
 bad:=by rw[N.con];simp[PT]
 cal:=λ_=>N.calm.symm
 beg:=λ_=>by rw[N.T];rfl
 few:=by
  have:=Ua List.length N.num;simp at this;omega
 pfk:=by rw[N.pf];simpa using a
 pfs:=by unfold J8;rw[N.pf];simp
end
theorem tX{v:Int}{cs:List (List Int)}(a:v<=900):lG v cs=(eV v cs).2:=by
 unfold lG;split
 .rfl
 .rename_i c;rw[Rw (by omega)];have:(eV v cs).2=0:=RW c;exact this.symm
theorem LayE.dlt{h:List (List SV)}{be bt ba bw bh:Nat}{mp:List (Int×Nat)}{mb:List (Int×By)}{E:ES}(L:LayE h be bt ba bw bh mp mb E){b:Nat}(hd:da be bt ba bw bh mp mb b):b<h.length:=by
 have key:∀{b:Nat}{x:List SV},h[b]?=some x->b<h.length:=λe=>(Rt.1 e).1;rcases hd with rfl|rfl|rfl|rfl|rfl|⟨k,hk⟩|⟨l,e,d,rfl⟩
 .exact key L.e
 .exact key L.q
 .exact key L.w.a
 .exact key L.w.w
 .exact key L.w.t
 .obtain⟨p,_,c,_⟩:=L.w.pr k b hk;exact key c
 .obtain⟨zs,_,⟨sp,c,_⟩,_⟩:=L.w.by' l e d
  exact key c
set_option maxHeartbeats 1000000 in
theorem J5(g:List (List SV))(n:Nat)(cs:List (List Int))(rs kp dc:Int)(hn:n<=10)(af:cs.length<=60)(ad:∀c∈cs,c.length<=50){r:Nat}(hr:r<=60)(hk:(eV n cs).2=0):
 aB Tryz.prog 13 [.agg [ae n,.seq false 1 (cs.map ao)],.agg [ae rs,ae kp,ae dc]] g (λy g'=>∃be bt ba bw bh mp bp E l P,y=.pv (.tup [.ptr bp 0,BL true])∧PyJ n cs r (r*(n+3)) g' be bt ba bw bh mp [] bp E l P∧Ext g g' (λ_=>False) (qz be bt ba bw bh bp mp [])):=by
 refine cO [7] [.tmp 4,.tmp 5] aE Tryz.func13 ?_;have R:∀c∈cs,c.length<=1000000:=λc hc=>by have:=ad c hc;omega
 have an:r*(n+3)<=60*13:=Wd hr (by omega);have U:lG n cs=0:=by rw[tX (by omega)];exact hk
 have hC:oG n cs=c9 cs:=by unfold oG;rw[Rw (by simp[U])]
 have kD:=(Au n cs (by omega) R).mono (R':=λr _=>r=.pv (.tup [m7 false (c9 cs),ae 0])) λ_ _ h=>by rw[h.2,hC,U]
 have kN:=xJ (g++[[.pv (ae n),.pv (.seq false 1 (cs.map ao))],[.pv (ae rs),.pv (ae kp),.pv (ae dc)]]) n (by omega) cs rs kp dc (by omega) R hk (r:=r) (s:=r*(n+3)) (by omega) (by omega);simp;refine ai.introM kN ?_;clear kN;rintro _ H ⟨be,bt,ba,bw,bh,mp,E,l,rfl,L,X,I,N⟩;have S:=X.len;have M:g.length<H.length:=by simp at S;omega
 have ag:g.length+1<H.length:=by simp at S;omega
 have B:H[g.length]?=some [.pv (ae n),.pv (.seq false 1 (cs.map ao))]:=(X.same g.length (by simp) (λe=>e)).trans (by simp);obtain⟨ak,Q⟩:=Rt.1 B;simp[B,M,Q];refine ai.introX (bC.pureM (p:=[]) (q:=[]) (zs:=[.agg [ae n,.seq false 1 (cs.map ao)]]) kD (by simp) rfl (by simp[dR,B,M,Q]) (by simp[B,M,Q]) (by simp[B,M,Q]) ?_);clear kD;simp[B,M,Q];obtain⟨G,Y⟩:∃G:List (List SV),G=H++[[.pv (.seq false 2 ((c9 cs).m.map bN)),.pv (ae (c9 cs).last),.pv (BL (c9 cs).done)]]:=⟨_,rfl⟩;have f:G.length=H.length+1:=by rw[Y];simp
 have v:H.length<G.length:=by omega
 have j:G[g.length]?=some [.pv (ae n),.pv (.seq false 1 (cs.map ao))]:=by rw[Y,RB M,B]
 have u:∀x,(G++x)[g.length]?=some [.pv (ae n),.pv (.seq false 1 (cs.map ao))]:=λx=>by rw[RB (by omega),j]
 have C:∀h',G[g.length]'h'=[.pv (ae n),.pv (.seq false 1 (cs.map ao))]:=λh'=>by have:=Ru h';rw[j]at this;exact(TL this).symm
 have D:∀x h',(G++x)[g.length]'h'=[.pv (ae n),.pv (.seq false 1 (cs.map ao))]:=λx h'=>by have:=Ru h';rw[u]at this;exact(TL this).symm
 have o:G[H.length]?=some [.pv (.seq false 2 ((c9 cs).m.map bN)),.pv (ae (c9 cs).last),.pv (BL (c9 cs).done)]:=by rw[Y];simp
 have w:∀x,(G++x)[H.length]?=some [.pv (.seq false 2 ((c9 cs).m.map bN)),.pv (ae (c9 cs).last),.pv (BL (c9 cs).done)]:=λx=>by rw[RB v,o]
 have F:∀h',G[H.length]'h'=[.pv (.seq false 2 ((c9 cs).m.map bN)),.pv (ae (c9 cs).last),.pv (BL (c9 cs).done)]:=λh'=>by have:=Ru h';rw[o]at this;exact(TL this).symm
 have J:∀x h',(G++x)[H.length]'h'=[.pv (.seq false 2 ((c9 cs).m.map bN)),.pv (ae (c9 cs).last),.pv (BL (c9 cs).done)]:=λx h'=>by have:=Ru h';rw[w]at this;exact(TL this).symm
 have K:=PyK.new I N (by omega) hr;have z:E.over=(c9 cs).done:=(K.ck.over I).symm;have i:E.T.lits=[]:=by rw[N.T];rfl
 have Z:LayE G be bt ba bw bh mp [] E:=by rw[Y];exact L.app _
 have LG2:LayE (G++[[.pv (.ptr be 0),.pv (.seq false 2 ((c9 cs).m.map bN)),.pv (ae (c9 cs).last),.pv (BL (c9 cs).done),.pv (ae 0),.pv (ae cs.length),.pv (BL false),.pv (BL false),.pv (ae n),.pv (.lit (.slice none 0 0))]]) be bt ba bw bh mp [] E:=Z.app _;have kO:=fu Z.e;have W:=fu LG2.e;have kL:=fv Z (by rw[i];simp);have V:=fv LG2 (by rw[i];simp);rw[z]at kO W;rw[i]at kL V;rw[←Y];refine aQ.tab [] ⟨[some (33,.pv (.ptr be 0)),some (34,.pv (.agg [.seq false 2 ((c9 cs).m.map bN),ae (c9 cs).last,BL (c9 cs).done])),some (35,.pv (.ptr g.length 1)),some (36,.pv (.seq false 1 (cs.map ao))),some (37,.pv (ae cs.length)),some (38,.pv (.ptr g.length 0)),some (39,.pv (ae n)),some (40,.pv (.agg [.ptr be 0,.seq false 2 ((c9 cs).m.map bN),ae (c9 cs).last,BL (c9 cs).done,ae 0,ae cs.length,BL false,BL false,ae n,.lit (.slice none 0 0)])),some (41,.pv (.ptr (H.length+1) 0)),some (42,.pv (.ptr be 0)),some (43,.pv (BL (c9 cs).done)),some (44,.pv (.ptr H.length 2)),some (45,.pv (BL (c9 cs).done)),some (46,.pv (BL true)),some (47,.pv (BL true)),some (48,.opt True (.pv (.ptr be 0))),some (49,.pv (.seq true 1 (aa []))),some (50,.opt True (.pv (ae 0))),some (51,.opt True (.pv (BL true))),some (52,.pv (BL true)),some (4,.pv (.ptr (H.length+1) 0)),some (5,.pv (BL true))],[(2,.pv (.ptr g.length 0)),(6,.pv (.ptr be 0)),(8,.pv (.ptr H.length 0))],[[],[],[],[2],[3],[],[5],[0,1,4,6],[7],[],[9],[],[11],[10,12],[13],[14],[14,15],[14,16],[14,17],[14,18],[8],[19]],[8],[[0],[0],[0,1],[0],[0],[0],[0],[0],[0],[0,1],[0,1],[0,1],[0,1],[0,1],[0,1],[0,1],[0,1],[0,1],[0,1],[0,1],[1],[1]],[],λ|0=>G|_=>G++[[.pv (.ptr be 0),.pv (.seq false 2 ((c9 cs).m.map bN)),.pv (ae (c9 cs).last),.pv (BL (c9 cs).done),.pv (ae 0),.pv (ae cs.length),.pv (BL false),.pv (BL false),.pv (ae n),.pv (.lit (.slice none 0 0))]]⟩ ⟨[(4,.pv (.ptr (H.length+1) 0)),(5,.pv (BL true))],G++[cM be (PT n cs)]⟩ (by kernel_rfl) (by simp[aT]) rfl ?_ (λt h1 O=>?_) ?_
 .simp only[Tb.steps,F8,Tb.lvA,Tb.dpA,yU,pd,Te,Tx,cv,dV,lL,gY,eK,eJ,GK,gL,il,Sr,Tk,T7,UT,Ul,Va,U9,Ts,Um,Sg,SR];and_intros
  all_goals first|trivial|(intro t h1 O;simp only[aT,Se,R7]at h1;simp[f,v,j,u,C,D,o,w,F,J,z,i,h1,O,Tb.postL,Tb.wth,qK,pd,aT,aZ]<;>and_intros<;>first|omega|(intro e;simp[f,v,j,u,C,D,o,w,F,J,z,i,e]))|(intro t h1 O;simp only[aT,Se,R7]at h1;simp[f,v,j,u,C,D,o,w,F,J,z,i,h1,O,Tb.postL,Tb.wth,qK,pd,aT,aZ])
  .first|(refine aj.intro kO ?_;rintro _ A ⟨a,rfl⟩;rw[a];clear a A)|(refine aj.intro W ?_;rintro _ A ⟨a,rfl⟩;rw[a];clear a A)
   simp[f,v,j,u,C,D,o,w,F,J,z,i,h1,O,Tb.postL,Tb.wth,qK,pd,aT,aZ]<;>and_intros<;>first|omega|(intro e;simp[e])
  .first|(refine aj.intro kO ?_;rintro _ A ⟨a,rfl⟩;rw[a];clear a A)|(refine aj.intro W ?_;rintro _ A ⟨a,rfl⟩;rw[a];clear a A)
   simp[f,v,j,u,C,D,o,w,F,J,z,i,h1,O,Tb.postL,Tb.wth,qK,pd,aT,aZ]<;>and_intros<;>first|omega|(intro e;simp[e])
  .first|(refine aj.intro kL ?_;rintro _ A ⟨a,rfl⟩;rw[a];clear a A)|(refine aj.intro V ?_;rintro _ A ⟨a,rfl⟩;rw[a];clear a A)
   simp[f,v,j,u,C,D,o,w,F,J,z,i,h1,O,Tb.postL,Tb.wth,qK,pd,aT,aZ]<;>and_intros<;>first|omega|(intro e;simp[e])
  .first|(refine aj.intro kL ?_;rintro _ A ⟨a,rfl⟩;rw[a];clear a A)|(refine aj.intro V ?_;rintro _ A ⟨a,rfl⟩;rw[a];clear a A)
   simp[f,v,j,u,C,D,o,w,F,J,z,i,h1,O,Tb.postL,Tb.wth,qK,pd,aT,aZ]<;>and_intros<;>first|omega|(intro e;simp[e])
 .simp only[aT,Se,R7]at h1 O;simp[F9]at O;exact(ah.keep (t1:=[(4,.pv (.ptr (H.length+1) 0)),(5,.pv (BL true))]) (by simp[h1,O]) rfl).trans ((ah.nilCell (b:=H.length+1) (k:=9) (xs:=[.pv (.ptr be 0),.pv (.seq false 2 ((c9 cs).m.map bN)),.pv (ae (c9 cs).last),.pv (BL (c9 cs).done),.pv (ae 0),.pv (ae cs.length),.pv (BL false),.pv (BL false),.pv (ae n),.pv (.lit (.slice none 0 0))]) 1 true (by simp[←f]) rfl).trans (ah.keep (by simp) (by simp[←f,cM,PT,aa])))
 simp;have ab:∀b,da be bt ba bw bh mp [] b->b<H.length:=λb hd=>L.dlt hd;refine⟨be,bt,ba,bw,bh,mp,⟨E,l,PT n cs,⟨Z.app _,N.ej I (by omega),by rw[RV (by omega),f];simp,λd=>by have:=ab _ d;omega,K⟩⟩,?_⟩;rw[Y,R6];refine⟨by simp;omega,λb hb _=>?_,λb hb d=>?_⟩
 .rw[RB (by omega),X.same b (by simp;omega) (λe=>e),RB hb]
 .rcases d with d|d
  .omega
  .exact X.sub b (by simp;omega) d
theorem F6(g:List (List SV))(v:Int)(cs:List (List Int))(rs kp l:Int)(A:v<=900)(w:cs.length<=60)(m:∀c∈cs,c.length<=50)(hk:(eV v cs).2≠0):
 aB Tryz.prog 13 [.agg [ae v,.seq false 1 (cs.map ao)],.agg [ae rs,ae kp,ae l]] g (λy g'=>y=.pv (.tup [.lit (.pointer none),BL true])∧Ext g g' (λ_=>False) (λ_=>False)):=by
 refine cO [7] [.tmp 4,.tmp 5] aE Tryz.func13 ?_;have i:∀c∈cs,c.length<=1000000:=λc u=>by have:=m c u;omega
 have j:lG v cs=(eV v cs).2:=tX A;have s:oG v cs=⟨[],0,false⟩:=by unfold oG;rw[Rx (by rw[j];exact hk)]
 have o:=(Au v cs (by omega) i).mono (R':=λr _=>r=.pv (.tup [m7 false ⟨[],0,false⟩,ae (eV v cs).2])) λ_ _ h=>by rw[h.2,s,j]
 have n:=Ae (g++[[.pv (ae v),.pv (.seq false 1 (cs.map ao))],[.pv (ae rs),.pv (ae kp),.pv (ae l)]]) v cs rs kp l i (.inl hk);rw[Rx hk]at n;generalize(eV v cs).2=x at*;simp;refine ai.introM n ?_;clear n;rintro _ H ⟨rfl,X⟩;have k:=X.len;have f:g.length<H.length:=by simp at k;omega
 have a:H[g.length]?=some [.pv (ae v),.pv (.seq false 1 (cs.map ao))]:=(X.same g.length (by simp) (λe=>e)).trans (by simp);obtain⟨z,d⟩:=Rt.1 a;simp[a,f,d];refine ai.introX (bC.pureM (p:=[]) (q:=[]) (zs:=[.agg [ae v,.seq false 1 (cs.map ao)]]) o (by simp) rfl (by simp[dR,a,f,d]) (by simp[a,f,d]) (by simp[a,f,d]) ?_);clear o;simp[a,f,d,hk];refine⟨by simp;omega,λb t _=>?_,λ_ _ e=>e⟩;rw[RB (by omega),X.same b (by simp;omega) (λe=>e),RB t]
end Go.AX
namespace Go.AX
open Go.Proofs
set_option linter.unusedSimpArgs false
set_option maxRecDepth 16000 in
set_option maxHeartbeats 1000000 in
theorem tY(v:Int)(cs:List (List Int))(rs kp b:Int)(a:List Int):
 am Tryz.prog 3 [.agg [ae v,.seq false 1 (cs.map ao)],.agg [ae rs,ae kp,ae b],.seq false 1 (aa a)] (λr=>r=.pv (BL true)):=by
 refine aq aE Tryz.func3 ?_;simp;refine ai.intro (JG v cs a) ?_;cases q:Ak v cs a
 .simp;refine ai.intro oE ?_;simp
 obtain⟨⟨p,w⟩,⟨f,y⟩,f5⟩:=JQ q;simp
 by_cases hk:(eV v cs).2=0
 rotate_left
 .have t:=F6 [[.pv (ae v),.pv (.seq false 1 (cs.map ao))],[.pv (ae rs),.pv (ae kp),.pv (ae b)]] v cs rs kp b (by omega) f f5 hk;refine ai.introM t ?_;rintro _ H ⟨rfl,_⟩;simp;refine aw.intro (S:=λ(_:Nat)=>⟨[(2,.pv (.seq false 1 (aa a))),(7,.pv (.lit (.pointer none))),(9,.pv (ae 0))],H⟩) (λ_=>True) (λ_=>0) 0 ?_ trivial ?_
  .exact ah.keep (by simp) rfl
  intro _ _;simp;refine ai.intro oE ?_;simp
 obtain⟨n,rfl⟩:=S6 p;have g:=J5 [[.pv (ae n),.pv (.seq false 1 (cs.map ao))],[.pv (ae rs),.pv (ae kp),.pv (ae b)]] n cs rs kp b (by omega) f f5 (r:=a.length) (by omega) hk;refine ai.introM g ?_;rintro _ H ⟨be,bt,ba,bw,bh,mp,bp,E,l,P,rfl,e,o⟩;clear g;simp;refine aw.intro (S:=λ(x:Nat×List (List SV)×List (Int×Nat)×List (Int×By)×ES×List Rc×PlS)=>⟨[(2,.pv (.seq false 1 (aa a))),(7,.pv (.ptr bp 0)),(9,.pv (ae x.1))],x.2.1⟩)
  (λx=>x.1<=a.length∧PyJ n cs (a.length -x.1) ((a.length -x.1)*(n+3)) x.2.1 be bt ba bw bh x.2.2.1 x.2.2.2.1 bp x.2.2.2.2.1 x.2.2.2.2.2.1 x.2.2.2.2.2.2) (λx=>a.length -x.1)
  (0,H,mp,[],E,l,P) ?_ ⟨RL _,e⟩ ?_
 .exact ah.keep (by simp) rfl
 clear e o H mp E l P;rintro⟨i,H,mp,mb,E,l,P⟩ ⟨hi,Q⟩;dsimp only at hi Q
 by_cases d:i<a.length
 .have s:=dr i;have hd:a.length -i=(a.length -(i+1))+1:=by omega
  rw[hd,Tt]at Q;simp[d];refine aj.intro (Lz Q a[i]) ?_;rintro _ j ⟨rfl,mp',mb',h,l',k,m,u⟩;simp;exact⟨(i+1,j,mp',mb',h,l',k),by(try dsimp only);omega,⟨by(try dsimp only);omega,m⟩,ah.keep (by simp[s]) rfl⟩
 .have c:i=a.length:=by omega
  subst c;simp;refine ai.intro oE ?_;simp
end Go.AX