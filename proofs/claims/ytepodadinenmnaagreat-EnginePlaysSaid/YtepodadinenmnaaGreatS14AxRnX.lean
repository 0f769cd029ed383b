/-
  Contracts: how glued literals are; whether a clause is a reason.
  Contracts: arenas that are only read; what other literals a reason has.
  Contracts: the asker of what is deeply left over.
  Contracts: what is deeply left over; what is a part of what.
  Contracts: slices.DeleteFunc whose predicate turns blocks.
  Contracts: a clause that is made shorter.
  Each reason of a desk is a clause, all others of which fail by what stands ahead (plain law).
  What is left over, of a desk: it is deeply left over; made shorter again it is the same (plain law).
  Contracts: the probe of the layer shorten.
  Contracts: what other literals a reason has, and what is left over, by the document.
  What is left over, deeply, of a desk: the program's answer is the document's (plain law).
  How a desk's trail came about: each level is calm ahead of the next decision (plain law).
  A desk's trail came about as trails do; a conflict is a clause that fails (plain law).
  What a conflict teaches: of the last level one literal is left (plain law).
  What a conflict teaches: its first literal, its levels, and that it is shown by reasons (plain law).
  Contracts: a conflict is taken apart.
  Contracts: what a conflict teaches is gone through; levels; what fails.
  Contracts: what fails; whether literals say one thing ahead; the level to which one goes back.
  Contracts: the reasons that are needed are gathered.
  Contracts: by which clauses what a conflict teaches is shown.
  Contracts: the one literal of the greatest level first; what a conflict teaches.
  What is gathered of reasons is all that is needed (plain law).
  Hints that were found show what a conflict teaches (plain law).
  Contracts: the document's chains of hints.
  Contracts: assign: how many literals hold, fail, are open; what a unit says.
  Contracts: trails that go back.
  Plain facts: the level to which one goes back, and what fails there.
  Plain facts: what is learnt, made shorter, is shown as well, and holds where its hints do.
-/
import Derived.Test.YtepodadinenmnaaGreatS14AxDkQ
import Derived.Test.YtepodadinenmnaaGreatAxIs
import Derived.Test.YtepodadinenmnaaGreatS14AxGlC
import Derived.Test.YtepodadinenmnaaGreatS14AxEvC
import Derived.Test.YtepodadinenmnaaGreatS14AxShelf2
import Derived.Test.YtepodadinenmnaaGreatAxDl
import Derived.Test.YtepodadinenmnaaGreatS14AxMovR
namespace Go.AX
set_option maxRecDepth 8000
open Go.Proofs
set_option linter.unusedSimpArgs false
def sP(T:Tr)(l:List Int):Nat->List (Int×Int)
 |0=>[]
 |i+1=>if 0<(dE T (af (l.getD i 0))).1.lev then pt (sP T l i) (dE T (af (l.getD i 0))).1.lev (aS ((lk (sP T l i) (dE T (af (l.getD i 0))).1.lev).getD 0+1))else sP T l i
def KN(T:Tr)(l:List Int):Int:=((sP T l l.length).length:Int)
theorem EU(T:Tr)(ht:T.ok)(l:List Int)(g:l.length<=1000000):am Tryz.prog 97 [bM T,.seq false 1 (aa l)] (λr=>r=.pv (ae (KN T l))):=by
 refine aq aE Tryz.func97 ?_;have a:=λv=>fM T v ht;simp only[bM,cV]at a;simp[bM,cV];refine aw.intro (S:=λ(i:Nat)=>⟨[(0,.pv (bM T)),(5,.omap true (a8 fI (sP T l i))),(12,.pv (.seq false 1 (aa l))),(13,.pv (ae l.length)),(14,.pv (ae i))],[]⟩) (λi=>i<=l.length) (λi=>l.length -i) 0 ?_ (RL _) ?_
 .exact ah.to (by simp[sP,bM,cV,a8]) rfl (by simp) (by simp[bM,cV]) (by simp)
 intro i hi
 by_cases f:i<l.length
 .have b:=dr i;have e:l.getD i 0=l[i]:=by rw[Rv,Ru f];rfl
  have d:sP T l (i+1)=if 0<(dE T (af l[i])).1.lev then pt (sP T l i) (dE T (af l[i])).1.lev (aS ((lk (sP T l i) (dE T (af l[i])).1.lev).getD 0+1))else sP T l i:=by rw[sP,e]
  simp[f,cV];refine ai.intro (aI l[i]) ?_;simp[cV];refine ai.intro (a (af l[i])) ?_;generalize(dE T (af l[i])).1.lev=n at*
  by_cases c:0<n
  .rw[Rx c]at d;simp[c];exact⟨i+1,by dsimp only;omega,by dsimp only;omega,ah.to (by simp[b,d,bM,cV]) rfl (by simp) (by simp[bM,cV]) (by simp)⟩
  .rw[Rw c]at d;simp[c];exact⟨i+1,by dsimp only;omega,by dsimp only;omega,ah.to (by simp[b,d,bM,cV]) rfl (by simp) (by simp[bM,cV]) (by simp)⟩
 .have:i=l.length:=by omega
  subst this;simp[KN,a8]
theorem jU(T:Tr):am Tryz.prog 105 [bM T] (λr=>r=.pv (ae T.beg.length)):=by
 refine aq aE Tryz.func105 ?_;have hi:=mz T;simp only[bM,cV]at hi;simp[bM,cV];refine ai.intro hi ?_;simp
def Do(T:Tr)(at' l:Int):Bool:=decide (0<cr T l)&&decide ((dE T (af l)).1.rea=at')
def HB(T:Tr)(at':Int)(l:List Int):Bool:=l.any (Do T at')
theorem BB(T:Tr)(ht:T.ok)(at' l:Int):am Tryz.prog 255 [ae l,.iptr 1 [[bM T]] 0 0,.iptr 1 [[ae at']] 0 0] (λr=>r=.pv (BL (Do T at' l))):=by
 refine aq aE Tryz.func255 ?_;have b:=fN T l ht;have a:=gt T (af l) ht;simp only[bM,cV]at b a;simp[bM,cV];refine br.intro b ?_;unfold Do
 by_cases c:0<cr T l
 .simp[c,cV];refine eq.intro (r:=.pv (ae (af l))) (λ_=>aI l) ?_;simp[c,cV];refine eq.intro (r:=.pv (ae (dE T (af l)).1.rea)) (λ_=>a) ?_;simp
 .simp[c,cV];refine eq.intro (r:=.pv (ae (af l))) (λ_=>aI l) ?_;simp[c,cV];refine eq.intro (r:=.pv (ae (dE T (af l)).1.rea)) (λ_=>a) ?_;simp
theorem EV(T:Tr)(ht:T.ok)(at':Int)(l:List Int)(b:l.length<=1000000):am Tryz.prog 194 [bM T,ae at',.seq false 1 (aa l)] (λr=>r=.pv (BL (HB T at' l))):=by
 refine aq aE Tryz.func194 ?_;have a:=fY l b 255 [.iptr 1 [[bM T]] 0 0,.iptr 1 [[ae at']] 0 0] (Do T at') (λr=>by simp[bM,cV]) rfl (λk=>by simp[bM,cV]) (λx _=>BB T ht at' x);simp only[bM,cV]at a;simp[bM,cV,bG];refine aP.intro (r:=.pv (BL (HB T at' l))) (λ_=>a) ?_;simp
end Go.AX
namespace Go.AX
set_option maxRecDepth 16000
open Go.Proofs
set_option linter.unusedSimpArgs false
def pg(A:Ar):List PV:=[.seq false 1 (aa A.row),.amap false (a8 fI A.hd)]
abbrev lW(A:Ar):PV:=.iptr 2 [pg A] 0 0
@[simp] theorem EW:∀l:List Int,wn (aa l)
 |[]=>trivial
 |_::l=>⟨⟨trivial,trivial⟩,EW l⟩
@[simp] theorem HC:∀l:List Mk,wn (l.map pM)
 |[]=>trivial
 |_::l=>⟨⟨trivial,trivial,trivial,trivial,trivial⟩,HC l⟩
theorem KO{h:List (List SV)}{b:Nat}{A:Ar}(d:h[b]?=some (mA A))(n:Nat):bG h (n+1) b 0=lW A:=by
 obtain⟨c,a⟩:=Rt.1 d;simp[bG,c,a,mA,pg,frzC]
@[simp] theorem NR(k v:Int)(l:List (Int×Int)):a8 fI ((k,v)::l)=(k,ae v)::a8 fI l:=rfl
theorem EX(A:Ar)(h0:A.hd≠[]):am Tryz.prog 207 [lW A] (λr=>r=.pv (BL true)):=by
 refine aq aE Tryz.func207 ?_;obtain⟨row,hd⟩:=A;cases hd with
 |nil=>exact absurd rfl h0
 |cons x hd=>
  obtain⟨k,v⟩:=x;simp[lW,pg]
theorem Dp(A:Ar)(h0:A.hd≠[])(q:Int):am Tryz.prog 237 [lW A,ae q] (λr=>r=.pv (BL (isA A q))):=by
 refine aq aE Tryz.func237 ?_;have a:=EX A h0;simp only[lW,pg]at a;simp[lW,pg];refine ai.intro a ?_;simp[isA]
theorem EY(h:List (List SV))(A:Ar)(p n:Nat)(d:AtOk A p n)(k:A.row.length<=1000000000):aB Tryz.prog 239 [lW A,ae p] h (λr h'=>h'=h∧r=.pv (.seq false 1 (aa (dF A p n)))):=by
 refine fC [] [.tmp 4] aE Tryz.func239 ?_;obtain⟨j,b⟩:=d;have h1:p+1<A.row.length:=by omega
 have c:A.row[p+1]=(n:Int):=by rw[←b,Rv,Ru h1];rfl
 have f:=dr p;have g:aS ((p:Int)+3)=((p+3:Nat):Int):=by rw[ap (by omega) (by omega)];omega
 have i:aS ((p:Int)+3+n)=(p:Int)+3+n:=ap (by omega) (by omega);have a:List.drop (p+3) (List.take (p+3+n) (aa A.row))=aa (dF A p n):=by
  unfold aa dF;rw[←TG,←UR,List.drop_take];congr 3;omega
 have t1:((p:Int)+3).toNat=p+3:=by omega
 have e:((p:Int)+3+n).toNat=p+3+n:=by omega
 simp[lW,pg,f,g,i,h1,c,t1,e,a,fX]
 try omega
def av(A:Ar)(q:Int):List Int:=if isA A q=true then dF A q.toNat (A.row.getD (q.toNat+1) 0).toNat else[]
def lr(A:Ar):Prop:=∀q:Int,isA A q=true->∃p n:Nat,q=(p:Int)∧AtOk A p n
theorem jV(A:Ar)(h0:A.hd≠[])(hk:lr A)(o:A.row.length<=1000000)(q:Int):am Tryz.prog 160 [lW A,ae q] (λr=>r=.own true 1 (aa (av A q))):=by
 refine am.own0 (R:=λr=>r=.own true 1 (aa (av A q))∨(av A q=[]∧r=.pv (.lit (.slice none 0 0)))) ?_ (λr h=>h.imp id λ⟨i,j⟩=>⟨j,true,1,by rw[i];rfl⟩);refine aq aE Tryz.func160 ?_;have hi:=Dp A h0 q;simp only[lW,pg]at hi;simp[lW,pg];refine ai.intro hi ?_
 by_cases c:isA A q=true
 rotate_left
 .have c':isA A q=false:=by simpa using c
  have b:av A q=[]:=Rw c;simp[c',b]
 obtain⟨p,n,rfl,d⟩:=hk q c;have f:=λh=>EY h A p n d (by omega);have b:av A p=dF A p n:=by
  unfold av;rw[Rx c,SF,d.num,SF]
 obtain⟨m,g⟩:=d;have h1:p+1<A.row.length:=by omega
 have k:A.row[p+1]=(n:Int):=by rw[←g,Rv,Ru h1];rfl
 have l:=dr p;have a:(dF A p n).length=n:=by unfold dF;rw[RD,Sj];omega
 have e:(aa (dF A p n)).take n=aa (dF A p n):=SA (by simp[a]);rw[b];generalize dF A p n=y at*;simp only[lW,pg]at f;simp[c,l,h1,k,pg];refine⟨by omega,by omega,?_⟩;refine ai.introM (f _) ?_;rintro _ _ ⟨rfl,rfl⟩;simp[a,e]
theorem fO(A:Ar)(hk:lr A)(q:Int):(av A q).length<=A.row.length:=by
 unfold av;split
 .unfold dF;rw[RD,Sj];omega
 .simp
def uj(T:Tr)(l x:Int):Bool:=decide (x=aS (-l))||decide ((dE T (af x)).1.lev=0)
def pi(A:Ar)(T:Tr)(l:Int):Bool:=!(decide (0<=cr T l)||decide ((dE T (af l)).1.rea<0)||!d4 (av A (dE T (af l)).1.rea) (aS (-l)))
def sQ(A:Ar)(T:Tr)(l:Int):List Int:=if pi A T l=true then(av A (dE T (af l)).1.rea).filter λx=>!uj T l x else[]
theorem MP(T:Tr)(ht:T.ok)(l x:Int):am Tryz.prog 289 [ae x,.iptr 1 [[ae l]] 0 0,.iptr 1 [[bM T]] 0 0] (λr=>r=.pv (BL (uj T l x))):=by
 refine aq aE Tryz.func289 ?_;have a:=fM T (af x) ht;simp only[bM,cV]at a;unfold uj
 by_cases c:x=aS (-l)
 .simp[bM,cV,c];refine eq.intro (r:=.pv (ae 0)) (λh:False=>h.elim) ?_;simp[cV];refine eq.intro (r:=.pv (ae 0)) (λh:False=>h.elim) ?_;simp
 .simp[bM,cV,c];refine eq.intro (λ_=>aI x) ?_;simp[cV];refine eq.intro (λ_=>a) ?_;simp
theorem EZ(A:Ar)(T:Tr)(l:Int)(ht:T.ok)(hk:lr A)(s:A.row.length<=1000000)(h0:0<=(dE T (af l)).1.rea->A.hd≠[]):am Tryz.prog 246 [lW A,bM T,ae l] (λr=>r=.pv (.tup [.seq true 1 (aa (sQ A T l)),BL (pi A T l)])):=by
 refine am.wk (R:=λr=>∃x,r=.pv x∧bu x (.tup [.seq true 1 (aa (sQ A T l)),BL (pi A T l)])) ?_ (λr ⟨x,e,h⟩=>⟨x,_,e,h,rfl⟩);refine mq [] [.tmp 6,.tmp 7] aE Tryz.func246 ?_;have n:=gt T (af l) ht;have p:=fN T l ht;have d:=λh=>jV A h hk s (dE T (af l)).1.rea;have g:=λx=>MP T ht l x;simp only[bM,cV]at n p;simp only[lW,pg]at d;simp[lW,pg,bM,cV];refine br.intro (aI l) ?_;simp[cV];refine br.intro n ?_;simp[cV];refine br.intro p ?_;have i:pi A T l=!(decide (0<=cr T l)||decide ((dE T (af l)).1.rea<0)||!d4 (av A (dE T (af l)).1.rea) (aS (-l))):=rfl;have b:sQ A T l=if pi A T l=true then(av A (dE T (af l)).1.rea).filter λx=>!uj T l x else[]:=rfl;have t:=fO A hk (dE T (af l)).1.rea;generalize(dE T (af l)).1.rea=why at*
 by_cases c1:0<=cr T l
 .have a:pi A T l=false:=by rw[i];simp[c1]
  rw[a]at b;simp only[Sg,SR]at b;simp[c1,a,b];refine eq.intro (r:=.pv (.seq true 1 [])) (λh:False=>h.elim) ?_;simp;refine eq.intro (r:=.pv (BL false)) (λh:False=>h.elim) ?_;simp[bu,bd,aa]
 by_cases c2:why<0
 .have a:pi A T l=false:=by rw[i];simp[c2]
  rw[a]at b;simp only[Sg,SR]at b;simp[c1,c2,a,b];refine eq.intro (r:=.pv (.seq true 1 [])) (λh:False=>h.elim) ?_;simp;refine eq.intro (r:=.pv (BL false)) (λh:False=>h.elim) ?_;simp[bu,bd,aa]
 have d:=d (h0 (by omega));simp[c1,c2];refine eq.intro (λ_=>d) ?_;simp;refine eq.intro (λ_=>MH _ (aS (-l)) (by omega)) ?_;cases c3:d4 (av A why) (aS (-l))
 .have a:pi A T l=false:=by rw[i];simp[c3]
  rw[a]at b;simp only[Sg,SR]at b;simp[a,b,bu,bd,aa]
 .have a:pi A T l=true:=by rw[i];simp[c1,c2,c3]
  rw[a]at b;simp only[TA]at b;simp[a,cV,pg];refine ai.intro d ?_;generalize av A why=y at*;have q:=iG y (by omega) 289 [.iptr 1 [[ae l]] 0 0,.iptr 1 [[bM T]] 0 0] (uj T l) (λr=>by simp[bM,cV]) rfl (λk=>by simp[bM,cV]) (by simp[bM,cV,PV.old,qW,wn]) (λx _=>g x);simp;refine ai.introX (bC.introS (o:=.slot 34) (lo:=0) (hi:=y.length) q (by simp) rfl rfl (by simp) (by simp) rfl (by simp;rw[SA (by simp)];rfl) (bc 0 y) (by simp) (by simp[bM,cV,bG]) ?_);rintro k m ⟨rfl,rfl⟩ _ _;have j:List.drop y.length (aa y)=[]:=R2 (by simp);have c:∀X,List.take (bk (uj T l) y).length (aD (bk (uj T l) y++X))=aa (bk (uj T l) y):=λX=>by
   unfold aD;rw[R1,TI (by simp)];rfl
  have f:bk (uj T l) y=sQ A T l:=b.symm;simp[j,c,f,bu,bd];rw[f]at c;exact c _
theorem HD(A:Ar)(T:Tr)(l:Int)(hk:lr A):(sQ A T l).length<=A.row.length:=by
 unfold sQ;split
 .exact Sb (SU _ _) (fO A hk _)
 .simp
end Go.AX
namespace Go.AX
set_option maxRecDepth 16000
open Go.Proofs
set_option linter.unusedSimpArgs false
def pj(n:Nat):PV:=.fn (.func 244) [] [.ptr (n+1) 0,.ptr (n+3) 0,.ptr n 0,.ptr (n+2) 0,.ptr (n+4) 0]
def HE(A:Ar)(T:Tr)(lits:List Int)(m:List (Int×Int))(n:Nat):List (List SV):=[[.pv (lW A)],[.pv (bM T)],[.pv (.seq false 1 (aa lits))],[.omap true (a8 fI m)],[.pv (pj n)]]
theorem HF(h:List (List SV))(A:Ar)(T:Tr)(lits:List Int):aB Tryz.prog 164 [lW A,bM T,.seq false 1 (aa lits)] h (λr h'=>h'=h++HE A T lits [] h.length∧r=.pv (pj h.length)):=by
 refine cO [] [.tmp 6] aE Tryz.func164 ?_;simp[lW,pg,bM,cV,HE,pj];rfl
def cF(T:Tr)(l:Int):Int:=(dE T (af l)).1.pla
def lM(T:Tr)(lits:List Int)(l x:Int):Bool:=!decide (x=l)&&(decide (x∈lits)&&decide (cF T x<cF T l))
def nD(A:Ar)(T:Tr)(lits:List Int):Nat->Int->Bool
 |0,_=>false
 |k+1,l=>pi A T l&&(sQ A T l).all λx=>lM T lits l x||(decide (0<=cF T x∧cF T x<cF T l)&&nD A T lits k x)
theorem yY(A:Ar)(T:Tr)(lits:List Int):∀(k k':Nat)(l:Int),(cF T l).toNat<k->(cF T l).toNat<k'->nD A T lits k l=nD A T lits k' l
 |0,_,_,h,_=>by omega
 |_+1,0,_,_,h=>by omega
 |k+1,k'+1,l,h,h'=>by
  have e:(λx=>lM T lits l x||(decide (0<=cF T x∧cF T x<cF T l)&&nD A T lits k x))=(λx=>lM T lits l x||(decide (0<=cF T x∧cF T x<cF T l)&&nD A T lits k' x)):=by
   funext x
   by_cases c:0<=cF T x∧cF T x<cF T l
   .rw[yY A T lits k k' x (by omega) (by omega)]
   .rw[Tq c,Ts,Ts]
  rw[nD,nD,e]
def lN(A:Ar)(T:Tr)(lits:List Int)(l:Int):Bool:=nD A T lits ((cF T l).toNat+1) l
def nE(A:Ar)(T:Tr)(lits:List Int)(l x:Int):Bool:=lM T lits l x||(decide (0<=cF T x∧cF T x<cF T l)&&lN A T lits x)
theorem sR(A:Ar)(T:Tr)(lits:List Int)(l:Int):lN A T lits l=(pi A T l&&(sQ A T l).all (nE A T lits l)):=by
 have e:(λx=>lM T lits l x||(decide (0<=cF T x∧cF T x<cF T l)&&nD A T lits (cF T l).toNat x))=nE A T lits l:=by
  funext x;unfold nE lN
  by_cases c:0<=cF T x∧cF T x<cF T l
  .rw[yY A T lits (cF T l).toNat ((cF T x).toNat+1) x (by omega) (by omega)]
  .rw[Tq c,Ts,Ts]
 unfold lN;rw[nD,e]
def iL(A:Ar)(T:Tr)(lits:List Int)(l a:Int):Bool:=decide (0<=cF T l∧cF T l<a)&&lN A T lits l
def ol(A:Ar)(T:Tr)(lits:List Int)(m:List (Int×Int)):Prop:=∀q:Int,(lk m q).getD 0=0∨((lk m q).getD 0=1∧lN A T lits q=true)∨((lk m q).getD 0=2∧lN A T lits q=false)
def mZ:Sch:=
 let E:Sch:=.fork [(14,.take 16 (.take 17 (.take 18 (.take 20 (.take 21 (.fork [(19,.fork [(22,.take 23 (.take 24 (.fork [(25,.done)])))])]))))))]
 .take 0 (.take 1 (.take 2 (.take 3 (.take 4 (.take 5 (.take 7 (.fork [(6,.fork [(8,.take 9 (.take 10 (.take 12 (.take 15 (.fork [(11,.fork [(13,E)]),(13,.fork [(11,E)])])))))])])))))))
structure AskAt (A:Ar) (T:Tr) (lits:List Int) (m:List (Int×Int)) (n:Nat) (h:List (List SV)):Prop where
  b0:h[n]?=some [.pv (lW A)]
  b1:h[n+1]?=some [.pv (bM T)]
  b2:h[n+2]?=some [.pv (.seq false 1 (aa lits))]
  b3:h[n+3]?=some [.omap true (a8 fI m)]
  b4:h[n+4]?=some [.pv (pj n)]
theorem AskAt.set{A:Ar}{T:Tr}{lits:List Int}{m b:List (Int×Int)}{n:Nat}{h:List (List SV)}(a:AskAt A T lits m n h):AskAt A T lits b n (h.set (n+3) [.omap true (a8 fI b)])where
 b0:=by rw[RN (by omega)];exact a.b0
 b1:=by rw[RN (by omega)];exact a.b1
 b2:=by rw[RN (by omega)];exact a.b2
 b3:=by rw[Si (Rt.1 a.b3).1]
 b4:=by rw[RN (by omega)];exact a.b4
structure ShOk (A:Ar) (T:Tr) (lits:List Int):Prop where
  tr:T.ok
  ar:lr A
  len:A.row.length<=1000000
  few:lits.length<=1000000
  hd:∀v,0<=(dE T v).1.rea->A.hd≠[]
theorem HH(A:Ar)(T:Tr)(lits:List Int)(n:Nat)(hs:ShOk A T lits)(l a:Int)(m:List (Int×Int))(h:List (List SV))(k:¬(0<=cF T l∧cF T l<a))(b:AskAt A T lits m n h)(g:ol A T lits m):
 aB Tryz.prog 244 [ae l,ae a,.ptr (n+1) 0,.ptr (n+3) 0,.ptr n 0,.ptr (n+2) 0,.ptr (n+4) 0] h (λr h'=>∃i,ol A T lits i∧h'=h.set (n+3) [.omap true (a8 fI i)]∧r=.pv (BL (iL A T lits l a))):=by
 refine cO [10] [.tmp 9] aE Tryz.func244 ?_;have c:=mW T (af l) hs.tr;have e:(dE T (af l)).1.pla=cF T l:=rfl;obtain⟨n0,g0⟩:=Rt.1 b.b0;obtain⟨j,f⟩:=Rt.1 b.b1;obtain⟨p,g2⟩:=Rt.1 b.b2;obtain⟨q,g3⟩:=Rt.1 b.b3;obtain⟨s,o⟩:=Rt.1 b.b4;rw[e]at c;simp only[bM,cV]at c;simp[j,f,bM,cV];refine br.intro (aI l) ?_;simp[j,f,bM,cV];refine br.intro c ?_
 by_cases c1:cF T l<0
 .have d:iL A T lits l a=false:=by unfold iL;rw[Tq (by omega),Ts]
  simp[c1,d];exact⟨m,g,(dh b.b3).symm⟩
 by_cases c2:a<=cF T l
 .have d:iL A T lits l a=false:=by unfold iL;rw[Tq (by omega),Ts]
  simp[c1,c2,d];exact⟨m,g,(dh b.b3).symm⟩
 exact absurd ⟨by omega,by omega⟩ k
theorem KP(A:Ar)(T:Tr)(lits:List Int)(n:Nat)(hs:ShOk A T lits):∀(N:Nat)(l a:Int)(m:List (Int×Int))(h:List (List SV)),(0<=cF T l->cF T l<a->cF T l<N)->AskAt A T lits m n h->ol A T lits m->
 aB Tryz.prog 244 [ae l,ae a,.ptr (n+1) 0,.ptr (n+3) 0,.ptr n 0,.ptr (n+2) 0,.ptr (n+4) 0] h (λr h'=>∃m',ol A T lits m'∧h'=h.set (n+3) [.omap true (a8 fI m')]∧r=.pv (BL (iL A T lits l a))):=by
 intro N
 induction N with
 |zero=>
  intro l a m h hN B M;exact HH A T lits n hs l a m h (λc=>by have:=hN c.1 c.2;omega) B M
 |succ N ih=>
  intro l a m h hN B M;refine cO [10] [.tmp 9] aE Tryz.func244 ?_;have O:=mW T (af l) hs.tr;have ag:(dE T (af l)).1.pla=cF T l:=rfl;obtain⟨n0,g0⟩:=Rt.1 B.b0;obtain⟨n1,Z⟩:=Rt.1 B.b1;obtain⟨n2,g2⟩:=Rt.1 B.b2;obtain⟨n3,g3⟩:=Rt.1 B.b3;obtain⟨n4,g4⟩:=Rt.1 B.b4;rw[ag]at O;simp only[bM,cV]at O;simp[n1,Z,bM,cV];refine br.intro (aI l) ?_;simp[n1,Z,bM,cV];refine br.intro O ?_
  by_cases c1:cF T l<0
  .have P:iL A T lits l a=false:=by unfold iL;rw[Tq (by omega),Ts]
   simp[c1,P];exact⟨m,M,(dh B.b3).symm⟩
  by_cases c2:a<=cF T l
  .have P:iL A T lits l a=false:=by unfold iL;rw[Tq (by omega),Ts]
   simp[c1,c2,P];exact⟨m,M,(dh B.b3).symm⟩
  have P:iL A T lits l a=lN A T lits l:=by unfold iL;rw[S9 (by omega),Um]
  rw[P];have ad:=M l
  by_cases c3:(lk m l).getD 0=0
  rotate_left
  .simp[c1,c2,n3,g3,c3];refine⟨m,M,(dh B.b3).symm,?_⟩;rcases ad with e|⟨e,W⟩|⟨e,W⟩
   .exact absurd e c3
   .rw[e,W];rfl
   .rw[e,W];rfl
  have R:=EZ A T l hs.tr hs.ar hs.len (hs.hd _);have aq:=HD A T l hs.ar;have ak:=sR A T lits l;simp only[lW,pg,bM,cV]at R;simp[c1,c2,n0,g0,n1,Z,n3,g3,c3,lW,pg,bM,cV];refine ai.intro R ?_;simp;generalize sQ A T l=rest at*;generalize pi A T l=ok at*;refine aw.intro (S:=λ(y:Nat×List (Int×Int))=>⟨[(0,.pv (ae l)),(1,.pv (ae a)),(2,.pv (.ptr (n+1) 0)),(3,.pv (.ptr (n+3) 0)),(4,.pv (.ptr n 0)),(5,.pv (.ptr (n+2) 0)),(6,.pv (.ptr (n+4) 0)),(10,.pv (ae (cF T l))),(12,.pv (BL (ok&&(rest.take y.1).all (nE A T lits l)))),(41,.pv (.seq true 1 (aa rest))),(42,.pv (ae rest.length)),(43,.pv (ae y.1))],h.set (n+3) [.omap true (a8 fI y.2)]⟩) (λy=>y.1<=rest.length∧ol A T lits y.2) (λy=>rest.length -y.1) (0,m) ?_ ⟨RL _,M⟩ ?_
  .exact ah.keep (by simp) (dh B.b3).symm
  rintro⟨i,u⟩ ⟨hi,z⟩;dsimp only at hi z;have w:AskAt A T lits u n (h.set (n+3) [.omap true (a8 fI u)]):=B.set;have E:∀X Y:List SV,(h.set (n+3) X).set (n+3) Y=h.set (n+3) Y:=λX Y=>UO ..;have ao:(h.set (n+3) [.omap true (a8 fI u)]).length=h.length:=R5 ..;generalize L:h.set (n+3) [.omap true (a8 fI u)]=H at*;obtain⟨k0,f0⟩:=Rt.1 w.b0;obtain⟨p,j⟩:=Rt.1 w.b1;obtain⟨s,k⟩:=Rt.1 w.b2;obtain⟨k3,f3⟩:=Rt.1 w.b3;obtain⟨t,o⟩:=Rt.1 w.b4
  by_cases g:i<rest.length
  .have F:aS ((i:Int)+1)=((i+1:Nat):Int):=by
    have:=hs.len;rw[ap (by omega) (by omega)];omega
   have b:(ok&&(rest.take (i+1)).all (nE A T lits l))=((ok&&(rest.take i).all (nE A T lits l))&&nE A T lits l rest[i]):=by
    rw[Sp,Ru g,Tm,List.all_append];simp[Wc]
   simp[g];refine aQ.one mZ (by kernel_rfl) ?_;generalize an:(ok&&(rest.take i).all (nE A T lits l))=acc at*;cases acc
   .simp[mZ,g,p,j,s,k,t,o];refine aP.intro (r:=.pv (BL false)) (λh:False=>h.elim) ?_;simp[g,p,j,s,k,t,o,bM,cV];and_intros
    all_goals
     refine aP.intro (r:=.pv (ae 0)) (λh:False=>h.elim) ?_;simp[g,p,j,s,k,t,o,bM,cV];refine aP.intro (r:=.pv (ae 0)) (λh:False=>h.elim) ?_;simp[g,p,j,s,k,t,o,bM,cV,pj];exact⟨(i+1,u),by(try dsimp only);omega,⟨by(try dsimp only);omega,z⟩,ah.keep (by simp[F,b]) (by simp[L])⟩
   .generalize d:rest[i]=x at*;have C:=jn lits x (by have:=hs.few;omega);have J:=mW T (af x) hs.tr;have U:(dE T (af x)).1.pla=cF T x:=rfl;rw[U]at J;simp only[bM,cV]at J;have v:=ih x (cF T l) u H (λh1 h2=>by have:=hN (by omega) (by omega);omega) w z;have G:nE A T lits l x=(lM T lits l x||iL A T lits x (cF T l)):=rfl;have I:lM T lits l x=(!decide (x=l)&&(decide (x∈lits)&&decide (cF T x<cF T l))):=rfl
    by_cases c5:x=l
    .have f:lM T lits l x=false:=by rw[I];simp[c5]
     rw[f,Ul]at G;rw[c5]at v G d b;rw[G]at b;simp[mZ,g,p,j,s,k,t,o,d,bM,cV,c5];refine aP.intro (r:=.pv (BL false)) (λh:False=>h.elim) ?_;simp[g,p,j,s,k,t,o,d,bM,cV];and_intros
     all_goals
      refine aP.intro (r:=.pv (ae 0)) (λh:False=>h.elim) ?_;simp[g,p,j,s,k,t,o,d,bM,cV];refine aP.intro (r:=.pv (ae 0)) (λh:False=>h.elim) ?_;simp[g,p,j,s,k,t,o,d,bM,cV,pj];refine aj.intro v ?_ (by trivial);rintro _ _ ⟨V,D,rfl,rfl⟩;simp;exact⟨(i+1,V),by(try dsimp only);omega,⟨by(try dsimp only);omega,D⟩,ah.keep (by simp[F,b]) (by simp[←L,E])⟩
    .by_cases c6:x∈lits
     .by_cases c7:cF T x<cF T l
      .have f:lM T lits l x=true:=by rw[I];simp[c5,c6,c7]
       rw[f,U9]at G;rw[G]at b;simp[mZ,g,p,j,s,k,t,o,d,bM,cV,c5];refine aP.intro (λ_=>C) ?_;simp[g,p,j,s,k,t,o,d,bM,cV,c6];and_intros
       all_goals
        refine aP.intro (λ_=>aI x) ?_;simp[g,p,j,s,k,t,o,d,bM,cV,c6];refine aP.intro (λ_=>J) ?_;simp[g,p,j,s,k,t,o,d,bM,cV,pj,c6,c7];exact⟨(i+1,u),by(try dsimp only);omega,⟨by(try dsimp only);omega,z⟩,ah.keep (by simp[F,b]) (by simp[L])⟩
      .have f:lM T lits l x=false:=by rw[I];simp[c7]
       rw[f,Ul]at G;rw[G]at b;simp[mZ,g,p,j,s,k,t,o,d,bM,cV,c5];refine aP.intro (λ_=>C) ?_;simp[g,p,j,s,k,t,o,d,bM,cV,c6];and_intros
       all_goals
        refine aP.intro (λ_=>aI x) ?_;simp[g,p,j,s,k,t,o,d,bM,cV,c6];refine aP.intro (λ_=>J) ?_;simp[g,p,j,s,k,t,o,d,bM,cV,pj,c6,c7];refine aj.intro v ?_ (by trivial);rintro _ _ ⟨V,D,rfl,rfl⟩;simp;exact⟨(i+1,V),by(try dsimp only);omega,⟨by(try dsimp only);omega,D⟩,ah.keep (by simp[F,b]) (by simp[←L,E])⟩
     .have f:lM T lits l x=false:=by rw[I];simp[c6]
      rw[f,Ul]at G;rw[G]at b;simp[mZ,g,p,j,s,k,t,o,d,bM,cV,c5];refine aP.intro (λ_=>C) ?_;simp[g,p,j,s,k,t,o,d,bM,cV,c6];and_intros
      all_goals
       refine aP.intro (r:=.pv (ae 0)) (λh:False=>h.elim) ?_;simp[g,p,j,s,k,t,o,d,bM,cV];refine aP.intro (r:=.pv (ae 0)) (λh:False=>h.elim) ?_;simp[g,p,j,s,k,t,o,d,bM,cV,pj];refine aj.intro v ?_ (by trivial);rintro _ _ ⟨V,D,rfl,rfl⟩;simp;exact⟨(i+1,V),by(try dsimp only);omega,⟨by(try dsimp only);omega,D⟩,ah.keep (by simp[F,b]) (by simp[←L,E])⟩
  .have ab:i=rest.length:=by omega
   subst ab;rw[RY,←ak];have K:∀q:Int,lk (pt u l 2) q=if l=q then some 2 else lk u q:=λq=>bK u l 2 q;have Q:∀q:Int,lk (pt (pt u l 2) l 1) q=if l=q then some 1 else lk (pt u l 2) q:=λq=>bK (pt u l 2) l 1 q;cases hv:lN A T lits l
   .simp[k3,f3];refine⟨pt u l 2,λq=>?_,?_⟩
    .rw[K];split
     .rename_i e;subst e;exact .inr (.inr ⟨rfl,hv⟩)
     .exact z q
    .simp[←L,E]
   .simp[k3,f3];refine⟨pt (pt u l 2) l 1,λq=>?_,?_⟩
    .rw[Q];split
     .rename_i e;subst e;exact .inr (.inl ⟨rfl,hv⟩)
     .rename_i e;rw[K,Rw e];exact z q
    .simp[←L,E]
end Go.AX
namespace Go.AX
open Go.Proofs
set_option linter.unusedSimpArgs false
def gR(A:Ar)(T:Tr)(lits:List Int)(l:Int):Bool:=iL A T lits l T.lits.length
theorem HI(A:Ar)(T:Tr)(lits:List Int):ol A T lits []:=λq=>.inl rfl
end Go.AX
namespace Go.AX
set_option maxRecDepth 16000
open Go.Proofs
set_option linter.unusedSimpArgs false
theorem E8(zs:List Int)(z:zs.length<=1000000)(g:Nat)(cap:List PV)(p:Int->Bool)(n:Nat)(Inv:List (List SV)->Prop)(hp:jD cap=true)(pre a:List Value)(cp:Nat)
 (hz:∀x∈zs,∀h,Inv h->aB Tryz.prog g (ae x::cap) h (λr h'=>Inv h'∧h'[n]?=h[n]?∧r=.pv (BL (p x)))) (h:List (List SV)) (u:Inv h) (hn:h[n]?=some (blk pre zs a)):
 aB Tryz.prog 230 [.bsl n 1 pre.length zs.length cp,.fn (.func g) [] cap] h (λr h'=>Inv h'∧h'[n]?=some (blk pre zs a)∧r=.pv (ae (i7 p zs))):=by
 refine nz aE Tryz.func230 ?_;simp;refine aw.intro (S:=λ(y:Nat×List (List SV))=>⟨[(0,.pv (.bsl n 1 pre.length zs.length cp)),(1,.pv (.fn (.func g) [] cap)),(7,.pv (ae zs.length)),(8,.pv (ae y.1))],y.2⟩) (λy=>y.1<=zs.length∧(∀j (hj:j<zs.length),j<y.1->p zs[j]=false)∧Inv y.2∧y.2[n]?=some (blk pre zs a)) (λy=>zs.length -y.1) (0,h) ?_ ⟨RL _,λj _ h=>absurd h (TP _),u,hn⟩ ?_
 .exact ah.keep (by simp) rfl
 .rintro⟨i,h1⟩ ⟨hi,ho,d,b⟩;dsimp only at hi ho d b;obtain⟨w,s⟩:=Rt.1 b
  by_cases c:i<zs.length
  .have v:=dr i;have hx:=hz zs[i] (Rz c) h1 d;have l:=lh pre zs a (i:=i) c;have m:=eM pre zs a;simp[c,hp,w,s,l,m];refine⟨by omega,?_⟩;refine aj.intro hx ?_ (by trivial);rintro _ t ⟨k,f,rfl⟩;rw[b]at f;cases o:p zs[i]
   .simp;refine⟨(i+1,t),by(try dsimp only);omega,⟨by(try dsimp only);omega,λj hj q=>?_,k,f⟩,ah.keep (by simp[v]) rfl⟩;dsimp only at q
    by_cases e:j=i
    .subst e;exact o
    .exact ho j hj (by omega)
   .simp;rw[gH c ho o];exact⟨k,f,rfl⟩
  .simp[c];rw[ff (λj hj=>ho j hj (by omega))];exact⟨d,b,rfl⟩
theorem BC(zs:List Int)(hl:zs.length<=1000000)(g:Nat)(cap:List PV)(p:Int->Bool)(n:Nat)(Inv:List (List SV)->Prop)(hp:jD cap=true)(s:∀h L,Inv h->Inv (h.set n L))(pre d:List Value)(cp:Nat)(aa:zs.length<=cp)
 (hz:∀x∈zs,∀h,Inv h->aB Tryz.prog g (ae x::cap) h (λr h'=>Inv h'∧h'[n]?=h[n]?∧r=.pv (BL (p x)))) (h:List (List SV)) (hI:Inv h) (hn:h[n]?=some (blk pre zs d)):
 aB Tryz.prog 150 [.bsl n 1 pre.length zs.length cp,.fn (.func g) [] cap] h (λr h'=>Inv h'∧∃G,G=bk p zs++List.replicate (zs.length -(bk p zs).length) 0∧h'[n]?=some (blk pre G d)∧r=.pv (.bsl n 1 pre.length (bk p zs).length cp)):=by
 have P:=E8 zs hl g cap p n Inv hp pre d cp hz h hI hn;refine nz aE Tryz.func150 ?_;simp;refine aj.intro P ?_ (by trivial);rintro _ h0 ⟨A,E,rfl⟩
 by_cases c:∃i,∃h:i<zs.length,p zs[i]=true∧∀j (hj:j<zs.length),j<i->p zs[j]=false
 rotate_left
 .have m:∀j (hj:j<zs.length),p zs[j]=false:=by
   intro j
   induction j using Nat.strongRecOn with
   |ind j ih=>
    intro hj;cases e:p zs[j]
    .rfl
    .exact absurd ⟨j,hj,e,λk hk R=>ih k R hk⟩ c
  have hd:=mV p zs λx hx=>by
   obtain⟨j,hj,rfl⟩:=RJ hx;exact m j hj
  rw[ff m,hd];simp;exact⟨A,E⟩
 obtain⟨t,u,w,m⟩:=c;rw[gH u m w];have U:=dr t;have C:bk p (zs.take t)=zs.take t:=mV p _ λx hx=>by
  obtain⟨j,hj,rfl⟩:=RJ hx;rw[RD]at hj;rw[SQ];exact m j (by omega) (by omega)
 simp;refine aw.intro (S:=λ(y:Nat×List Int×List (List SV))=>⟨[(0,.pv (.bsl n 1 pre.length zs.length cp)),(1,.pv (.fn (.func g) [] cap)),(5,.pv (ae ((bk p (zs.take y.1)).length:Nat))),(6,.pv (ae y.1))],y.2.2⟩)
  (λy=>y.1<=zs.length∧(bk p (zs.take y.1)).length<y.1∧y.2.1.length=zs.length∧y.2.1.take (bk p (zs.take y.1)).length=bk p (zs.take y.1)∧y.2.1.drop y.1=zs.drop y.1∧Inv y.2.2∧y.2.2[n]?=some (blk pre y.2.1 d)) (λy=>zs.length -y.1) (t+1,zs,h0) ?_ ?_ ?_
 .refine ah.keep ?_ rfl;have:(bk p (zs.take (t+1))).length=t:=by rw[iw p zs u,Rx w,C,RD];omega
  simp[U,this]
 .have:bk p (zs.take (t+1))=zs.take t:=by rw[iw p zs u,Rx w,C]
  refine⟨by dsimp only;omega,?_,rfl,?_,rfl,A,E⟩
  .dsimp only;rw[this,RD];omega
  .dsimp only;rw[this,RD];congr 1;omega
 .rintro⟨j,a,H⟩ ⟨h1,X,J,z,K,N,O⟩;dsimp only at h1 X J z K N O;have q:=eM pre a d;obtain⟨n1,W⟩:=Rt.1 O
  by_cases I:j<zs.length
  .have Y:=dr j;have Q:a[j]'(by omega)=zs[j]:=by
    have:=Ua (λl=>l[0]?) K;simp only[SZ,Uw]at this;rw[Ru (by omega),Ru I]at this;exact TL this
   have o:=lh pre a d (i:=j) (by omega);rw[Q]at o;have hx:=hz zs[j] (Rz I) H N;have b:=iw p zs I;simp[I,hp,n1,W,o,q];refine⟨by omega,aj.intro hx ?_ (by trivial)⟩;rintro _ M ⟨B,v,rfl⟩;rw[O]at v;obtain⟨Z,f1⟩:=Rt.1 v;cases F:p zs[j]
   .rw[F]at b;simp only[Sg,SR]at b;have V:=dr ((bk p (zs.take j)).length);have T:=wN pre a d (i:=(bk p (zs.take j)).length) zs[j] (by omega);simp[Z,f1,q];refine⟨by omega,by omega,(j+1,a.set (bk p (zs.take j)).length zs[j],M.set n (blk pre (a.set (bk p (zs.take j)).length zs[j]) d)),by(try dsimp only);omega,⟨by(try dsimp only);omega,?_,by(try dsimp only);rw[R5];exact J,?_,?_,s M _ B,?_⟩,ah.keep ?_ (by simp[T])⟩
    .dsimp only;rw[b,RF,SS];omega
    .dsimp only;rw[b,RF,SS,Sp,VG (Ry _),z,Si (by omega)];rfl
    .dsimp only;rw[U5 (by omega)];have:=Ua (List.drop 1) K
     rwa [S7,S7]at this
    .dsimp only;rw[Si Z]
    .simp[Y,V,b]
   .rw[F]at b;simp only[TA]at b;simp;refine⟨(j+1,a,M),by(try dsimp only);omega,⟨by(try dsimp only);omega,by dsimp only;rw[b];omega,J,by dsimp only;rw[b];exact z,?_,B,v⟩,ah.keep (by simp[Y,b]) rfl⟩;dsimp only;have:=Ua (List.drop 1) K
    rwa [S7,S7]at this
  .have:j=zs.length:=by omega
   subst this;rw[RY]at X z;have f:=sy pre a d (i:=(bk p zs).length) (n:=zs.length -(bk p zs).length) 0 (by omega);have D:a.take (bk p zs).length++List.replicate (zs.length -(bk p zs).length) 0++a.drop ((bk p zs).length+(zs.length -(bk p zs).length))=bk p zs++List.replicate (zs.length -(bk p zs).length) 0:=by
    rw[z,R2 (by omega),SX]
   rw[D]at f;simp[n1,W,J,f];refine⟨⟨by omega,by omega⟩,by omega,by omega,⟨by omega,by omega⟩,s H _ N⟩
end Go.AX
namespace Go.AX
set_option maxRecDepth 16000
open Go.Proofs
set_option linter.unusedSimpArgs false
@[simp] theorem E9:∀l:List (Int×Int),Gy (a8 fI l)
 |[]=>trivial
 |(_,_)::l=>⟨trivial,E9 l⟩
def Dq(A:Ar)(T:Tr)(lits:List Int)(m:List (Int×Int)):List (List SV):=HE A T lits m 0++[[.pv (pj 0)],[.pv (ae T.lits.length)]]
def PA(A:Ar)(T:Tr)(lits:List Int)(h:List (List SV)):Prop:=∃m L,ol A T lits m∧h=Dq A T lits m++[L]
theorem KQ(A:Ar)(T:Tr)(lits:List Int)(h:List (List SV))(L:List SV)(hi:PA A T lits h):PA A T lits (h.set 7 L):=by
 obtain⟨m,L0,h1,rfl⟩:=hi;exact⟨m,L,h1,rfl⟩
theorem HJ(A:Ar)(T:Tr)(lits:List Int)(m:List (Int×Int))(L:List SV):AskAt A T lits m 0 (Dq A T lits m++[L]):=⟨rfl,rfl,rfl,rfl,rfl⟩
theorem Fa(A:Ar)(T:Tr)(lits:List Int)(hs:ShOk A T lits)(x:Int)(h:List (List SV))(i:PA A T lits h):
 aB Tryz.prog 165 [ae x,.ptr 5 0,.ptr 6 0] h (λr h'=>PA A T lits h'∧h'[7]?=h[7]?∧r=.pv (BL (gR A T lits x))):=by
 obtain⟨m,L,j,rfl⟩:=i;refine nz aE Tryz.func165 ?_;have hd:=KP A T lits 0 hs T.lits.length x T.lits.length m (Dq A T lits m++[L]) (λ_ h=>h) (HJ A T lits m L) j;have e:(Dq A T lits m++[L])[5]?=some [.pv (pj 0)]:=rfl;have f:(Dq A T lits m++[L])[6]?=some [.pv (ae T.lits.length)]:=rfl;have d:(Dq A T lits m++[L]).length=8:=rfl;have b:∀a,(Dq A T lits m++[L]).set 3 [.omap true (a8 fI a)]=Dq A T lits a++[L]:=λ_=>rfl;have g:∀a,(Dq A T lits a++[L])[7]?=some L:=λ_=>rfl;have n:=g m;generalize o:Dq A T lits m++[L]=H at*;obtain⟨k,f5⟩:=Rt.1 e;obtain⟨l,f6⟩:=Rt.1 f;simp[k,f5,l,f6,pj];refine aj.intro hd ?_ (by trivial);rintro _ _ ⟨a,c,rfl,rfl⟩;simp[gR];rw[b a];exact⟨a,L,c,rfl⟩
def qb(A:Ar)(T:Tr)(lits:List Int):List Int:=lits.take 1++bk (gR A T lits) (lits.drop 1)
def HK:Sch:=.take 0 (.take 1 (.take 2 (.take 3 (.fork [(4,.fork [(5,.fork [(6,.take 7 .done)])])]))))
theorem BD(A:Ar)(T:Tr)(lits:List Int)(hs:ShOk A T lits)(J:T.lits.length<=1000000):am Tryz.prog 93 [lW A,bM T,.seq false 1 (aa lits)] (λr=>r=.own true 1 (aa (qb A T lits))):=by
 refine ru [6] aE Tryz.func93 ?_;have b:=λh=>HF h A T lits;have i:=fo T J;have p:=iF lits hs.few;simp only[lW,pg,bM,cV]at b i;simp[lW,pg,bM,cV];refine ai.intro p ?_
 by_cases c:lits=[]
 .subst c;simp[qb,bk]
 have w:0<lits.length:=Td.2 c;simp[c];refine ai.introM (b _) ?_;rintro _ _ ⟨rfl,rfl⟩;simp[pj,HE];refine⟨rfl,ai.intro i ?_⟩;simp;refine aQ.one HK (by kernel_rfl) ?_;simp[HK];refine⟨by omega,?_⟩;have I:∀l:List Int,List.drop lits.length (aa lits)=[]:=λ_=>R2 (by simp)
 by_cases c1:lits.length=1
 .obtain⟨u,rfl⟩:=T8.1 c1;have n:qb A T [u]=[u]:=rfl;rw[n];generalize j:eD (bG [[SV.pv (lW A)],[SV.pv (bM T)],[SV.pv (PV.seq false 1 (aa [u]))],[SV.omap true []],[SV.pv (PV.fn (Fn.func 244) [] [PV.ptr 1 0,PV.ptr 3 0,PV.ptr 0 0,PV.ptr 2 0,PV.ptr 4 0])],[SV.pv (PV.fn (Fn.func 244) [] [PV.ptr 1 0,PV.ptr 3 0,PV.ptr 0 0,PV.ptr 2 0,PV.ptr 4 0])],[SV.pv (PV.lit (Value.int .i64 T.lits.length))]] 3) [PV.ptr 5 0,PV.ptr 6 0]=cap;have E:=iG [] (by simp) 165 cap (λ_=>false) (λr=>by rw[←j];simp[bG,lW,pg,bM,cV]) (by rw[←j];rfl) (λk=>by rw[←j];simp[bG,lW,pg,bM,cV]) (by rw[←j];simp[bG,lW,pg,bM,cV,PV.old,qW,wn]) (λx hx=>by cases hx);refine ai.introX (bC.introS (o:=.slot 7) (lo:=1) (hi:=1) E (by simp) rfl rfl (by simp) (by simp) rfl (by simp[aD]) trivial (by simp) (by rw[←j];simp) ?_);rintro k t ⟨rfl,rfl⟩ _ _;have q:bk (λ_=>false) []=[]:=rfl;simp[q,aD,aa]
 .have B:1<lits.length:=by omega
  have F := λ (pre a : List Value) (cp : Nat) (d : (lits.drop 1).length <= cp) => BC (lits.drop 1) (by have := hs.few; rw [Sj]; omega) 165 [.ptr 5 0, .ptr 6 0] (gR A T lits) 7 (PA A T lits) rfl (KQ A T lits) pre a cp d (λ x _ h G => Fa A T lits hs x h G) (Dq A T lits [] ++ [blk pre (lits.drop 1) a]) ⟨[], _, HI A T lits, rfl⟩ rfl; refine ai.introX (bC.introB (s := 7) (lo := 1) (hi := lits.length) (nw := true) (all := lits) (zs := lits.drop 1) (R := λ k f v => k = some (bk (gR A T lits) (lits.drop 1)).length ∧ f = bk (gR A T lits) (lits.drop 1) ++ List.replicate ((lits.drop 1).length - (bk (gR A T lits) (lits.drop 1)).length) 0 ∧ ∃ m, v = Dq A T lits m)
   rfl (by simp) rfl rfl rfl (by simp) B (by rw[RY]) (by simp) (by simp) rfl (λpre a cp d K=>(F pre a cp d).mono ?_) ?_)
  .rintro r h' ⟨⟨m,L,N,rfl⟩,f,rfl,C,rfl⟩;have H:L=blk pre (bk (gR A T lits) (lits.drop 1)++List.replicate ((lits.drop 1).length -(bk (gR A T lits) (lits.drop 1)).length) 0) a:=TL C;subst H;have e:=jP (gR A T lits) (lits.drop 1);refine⟨_,_,Dq A T lits m,⟨rfl,rfl,m,rfl⟩,by rw[RF,Ue];omega,λk hk=>by cases hk;exact e,rfl,by simp[Dq,HE,pj,pg,cV],rfl,rfl⟩
  .rintro k f v ⟨rfl,rfl,m,rfl⟩ _ _;have n:qb A T lits=lits.take 1++bk (gR A T lits) (lits.drop 1):=rfl;have e:=jP (gR A T lits) (lits.drop 1);have M:=hs.few;generalize bk (gR A T lits) (lits.drop 1)=D at*;simp only[Sj]at e;have g:(aD (lits.take 1++(D++List.replicate (lits.length -1 -D.length) 0))).length=lits.length:=by
    simp only[aD,RH,RF,RD,Ue];omega
   simp[g];refine⟨by omega,?_⟩;rw[n];have h1:(lits.take 1).length=1:=by rw[RD];omega
   generalize lits.take 1=Z at*;obtain⟨z,rfl⟩:=T8.1 h1;have y:List.take (1+D.length) (aD ([z]++(D++List.replicate (lits.length -1 -D.length) 0)))=aa ([z]++D):=by
    unfold aD aa;rw[←TG,←R6,TI (by simp;omega)]
   rw[y];rfl
end Go.AX
namespace Go.AX
open Go.Proofs
set_option linter.unusedSimpArgs false
def jW(l c:List Int)(v:Int):Nat:=(c.filter λy=>decide (bJ l y=v)).length
def gh(l c:List Int):List Int:=c.filter λy=>decide (0<=aW y∧bJ l y≠1∧bJ l y≠-1)
theorem om(l:List Int):∀(c:List Int)(a b z:Nat),a+c.length<=1000000->b+c.length<=1000000->z+c.length<=1000000->
 c.foldl (vf l) ((a:Int),(b:Int),(z:Int))=(((a+jW l c 1:Nat):Int),((b+jW l c (-1):Nat):Int),((z+(gh l c).length:Nat):Int))
 |[],a,b,z,_,_,_=>by simp[jW,gh]
 |y::c,a,b,z,d,f,hz=>by
  simp only[R0]at d f hz;rw[Ud]
  by_cases c1:bJ l y=1
  .have e:vf l ((a:Int),(b:Int),(z:Int)) y=(((a+1:Nat):Int),(b:Int),(z:Int)):=by
    unfold vf;rw[Rx c1,ap (by dsimp only;omega) (by dsimp only;omega)];simp
   rw[e,om l c (a+1) b z (by omega) (by omega) (by omega)];simp[jW,gh,c1];omega
  .by_cases c2:bJ l y=-1
   .have e:vf l ((a:Int),(b:Int),(z:Int)) y=((a:Int),((b+1:Nat):Int),(z:Int)):=by
     unfold vf;rw[Rw c1,Rx c2,ap (by dsimp only;omega) (by dsimp only;omega)];simp
    rw[e,om l c a (b+1) z (by omega) (by omega) (by omega)];simp[jW,gh,c1,c2];omega
   .by_cases c3:0<=aW y
    .have e:vf l ((a:Int),(b:Int),(z:Int)) y=((a:Int),(b:Int),((z+1:Nat):Int)):=by
      unfold vf;rw[Rw c1,Rw c2,Rx c3,ap (by dsimp only;omega) (by dsimp only;omega)];simp
     rw[e,om l c a b (z+1) (by omega) (by omega) (by omega)];simp[jW,gh,c1,c2,c3];omega
    .have e:vf l ((a:Int),(b:Int),(z:Int)) y=((a:Int),(b:Int),(z:Int)):=by
      unfold vf;rw[Rw c1,Rw c2,Rw c3]
     rw[e,om l c a b z (by omega) (by omega) (by omega)];simp[jW,gh,c1,c2,c3]
theorem lu(l:List Int)(y:Int):bJ l y=0∨bJ l y=1∨bJ l y=-1:=by
 unfold bJ;split
 .exact .inl rfl
 .split
  .exact .inr (.inl rfl)
  .split
   .exact .inr (.inr rfl)
   .exact .inl rfl
theorem w7(l:List Int):∀(c:List Int)(n:Int),c.foldl (Bz l) n=((gh l c).getLast?).getD n
 |[],n=>rfl
 |y::c,n=>by
  rw[Ud,w7 l c];have f:=lu l y
  by_cases c1:0<=aW y∧bJ l y=0
  .have e:Bz l n y=y:=by unfold Bz;rw[Rx c1]
   have a:gh l (y::c)=y::gh l c:=by
    unfold gh;rw[Sn,Rx (by rw[RP];exact⟨c1.1,by omega,by omega⟩)]
   rw[e,a,List.getLast?_cons];rfl
  .have e:Bz l n y=n:=by unfold Bz;rw[Rw c1]
   have a:gh l (y::c)=gh l c:=by
    unfold gh;rw[Sn,Rw (by rw[RP];rintro⟨b,d,a3⟩;exact c1 ⟨b,by omega⟩)]
   rw[e,a]
theorem Dr{l c:List Int}(p:c.length<=1000)(hx:∀y∈c,0<=aW y)(h:(bD l c).2=true):(bD l c).1∈c∧bJ l (bD l c).1=0∧∀y∈c,y≠(bD l c).1->bJ l y=-1:=by
 have o:=om l c 0 0 0 (by omega) (by omega) (by omega);have f:Ga l c=(((0+jW l c 1:Nat):Int),((0+jW l c (-1):Nat):Int),((0+(gh l c).length:Nat):Int)):=o;have h0:jW l c 1=0∧(gh l c).length=1∧(bD l c).1=c.foldl (Bz l) 0:=by
  unfold bD at h⊢;rw[f]at h⊢;dsimp only at h⊢
  by_cases e:((0+jW l c 1:Nat):Int)≠0∨((0+(gh l c).length:Nat):Int)≠1
  .rw[Rx e]at h;cases h
  .rw[Rw e];refine⟨by omega,by omega,rfl⟩
 obtain⟨h1,k,m⟩:=h0;obtain⟨x,b⟩:=T8.1 k;have n:(bD l c).1=x:=by rw[m,w7,b];rfl
 have j:x∈gh l c:=by rw[b];simp
 have a:=j;unfold gh at a;rw[Ss,RP]at a;rw[n];have v3:=lu l x;refine⟨a.1,by omega,λy hy i=>?_⟩;have d:=lu l y;have g:bJ l y≠1:=λe=>by
  have:y∈c.filter λy=>decide (bJ l y=1):=by rw[Ss];exact⟨hy,by simpa using e⟩
  unfold jW at h1;rw[TC h1]at this;cases this
 rcases d with d|d|d
 .have:y∈gh l c:=by
   unfold gh;rw[Ss,RP];exact⟨hy,hx y hy,by omega,by omega⟩
  rw[b]at this;simp at this;exact absurd this i
 .exact absurd d g
 .exact d
structure Cls6 (cs:List (List Int)) (ats:List Int):Prop where
  len:∀c∈cs,c.length<=1000
  chk:∀c∈cs,∀y∈c,ax y 6=0
  pos:∀k,k<cs.length->0<=ats.getD k 0
theorem Q8{y:Int}(h:ax y 6=0):y≠0∧-6<=y∧y<=6∧0<=aW y∧aS (-y)=-y:=by
 obtain⟨a,b,c⟩:=(dt (by omega)).1 h;refine⟨a,b,c,?_,ap (by omega) (by omega)⟩;rw[ll];exact(aY y).2 ⟨a,by omega,by omega⟩
theorem w8{l:List Int}{y:Int}(h:bJ l y=-1):aS (-y)∈l:=by
 unfold bJ at h;split at h
 .omega
 .split at h
  .omega
  .split at h
   .assumption
   .omega
def DkR(D:DK):Prop:=∀i (hi:i<D.t.rows.length),D.t.rows[i].rea<0∨(isA D.A D.t.rows[i].rea=true∧D.t.rows[i].l∈av D.A D.t.rows[i].rea∧∀y∈av D.A D.t.rows[i].rea,ax y 6=0∧(y≠D.t.rows[i].l->aS (-y)∈(D.t.rows.take i).map (·.l)))
structure DeskOk (D:DK):Prop where
  rel:RelD D.T D.t
  relA:RelA D.A D.a
  rea:DkR D
  len:D.A.row.length<=1000000
theorem HL{A:Ar}{q:Int}(h:isA A q=true):A.hd≠[]:=λe=>by
 unfold isA at h;rw[e]at h;simp[lk]at h
theorem ry{α:Type}{p:α->Bool}:∀{l:List α}{j:Nat}(hj:j<l.length),p l[j]=true->0<=i7 p l∧i7 p l<=j:=by
 intro l j hj h;unfold i7;cases a:l.findIdx? p with
 |none=>
  rw[TQ]at a;have:=a _ (Rz hj);rw[h]at this;cases this
 |some i=>
  rw[SG]at a;obtain⟨h1,d,c⟩:=a;dsimp only;refine⟨by omega,?_⟩;apply Int.ofNat_le.2;apply Th;intro b;exact c j b h
theorem HM(A:Ar)(T:Tr)(c:List Int):List.Sublist (qb A T c) c:=by
 have h:List.Sublist (c.take 1++bk (gR A T c) (c.drop 1)) (c.take 1++c.drop 1):=List.Sublist.append (VV _) VH;rw[Sy]at h;exact h
@[simp ↓ high] theorem PB{P:Program}{st:St}{a:Prop}{o:Op}{d:Option Tmp}{K:St->Prop}(h:a):C0 P st a o d K=AE P st o d K:=
 propext ⟨λx=>x.1 h,λx=>⟨λ_=>x,λhn=>absurd h hn⟩⟩
instance:Inhabited Ro:=⟨⟨0,0,[]⟩⟩
theorem dG(l:Int):af (-l)=af l:=by
 unfold af;rw[KB];unfold dg;split
 .split<;>split<;>omega
 .rfl
theorem BE(l:List Int):∀(c:List Int)(n:Int),-1<=n->n<=c.foldl (Dm l) n∧(c.foldl (Dm l) n=-1↔n=-1∧∀y∈c,0<=aW y->bJ l y=-1)
 |[],n,h=>by simp
 |y::c,n,h=>by
  have f:=lu l y;rw[Ud]
  by_cases q:0<=aW y∧n<bJ l y
  .have e:Dm l n y=bJ l y:=by unfold Dm;rw[Rx q]
   rw[e];obtain⟨d,g2⟩:=BE l c (bJ l y) (by omega);refine⟨by omega,?_⟩;constructor
   .intro g;omega
   .rintro⟨b,a⟩;have:=a y (RR ..) q.1;omega
  .have e:Dm l n y=n:=by unfold Dm;rw[Rw q]
   rw[e];obtain⟨d,g2⟩:=BE l c n h;refine⟨d,?_⟩;rw[g2];constructor
   .rintro⟨b,a⟩;refine⟨b,λz hz hx=>?_⟩;rcases RZ.1 hz with rfl|hz
    .omega
    .exact a z hz hx
   .rintro⟨b,a⟩;exact⟨b,λz hz=>a z (RO _ hz)⟩
theorem mB{l c:List Int}:pN l c=-1↔∀y∈c,0<=aW y->bJ l y=-1:=by
 have:=(BE l c (-1) (by omega)).2;unfold pN;rw[this];exact⟨λh=>h.2,λh=>⟨rfl,h⟩⟩
theorem yZ{l:List Int}{x:Int}(d:bJ l x=0)(a:0<=aW x):∀{c:List Int},c.Nodup->x∈c->(∀y∈c,y≠x->bJ l y=-1)->gh l c=[x]
 |[],_,h,_=>by cases h
 |y::c,hn,b,ho=>by
  rw[S4]at hn;unfold gh
  by_cases e:y=x
  .subst e;rw[Sn,Rx (by rw[RP];exact⟨a,by omega,by omega⟩)];congr 1;rw[Tn];intro z hz;have:=ho z (RO _ hz) (λe=>hn.1 (e▸hz));simp[this]
  .have hy:=ho y (RR ..) e;rw[Sn,Rw (by simp[hy])];rcases RZ.1 b with rfl|b
   .exact absurd rfl e
   .exact yZ d a hn.2 b (λz hz=>ho z (RO _ hz))
theorem unit_of{l c:List Int}{x:Int}(i:c.length<=1000)(hn:c.Nodup)(h:x∈c)(b:0<=aW x)(d:bJ l x=0)(ho:∀y∈c,y≠x->bJ l y=-1):bD l c=(x,true):=by
 have g:=om l c 0 0 0 (by omega) (by omega) (by omega);have a:Ga l c=(((0+jW l c 1:Nat):Int),((0+jW l c (-1):Nat):Int),((0+(gh l c).length:Nat):Int)):=g;have h1:=yZ d b hn h ho;have f:jW l c 1=0:=by
  unfold jW;rw[SY,Tn];intro y hy
  by_cases e:y=x
  .subst e;simp[d]
  .simp[ho y hy e]
 unfold bD;rw[a,h1,f,w7,h1];simp
structure ClsN (cs:List (List Int)) (ats:List Int):Prop extends Cls6 cs ats where
  nd:∀c∈cs,c.Nodup
def Calm(cs:List (List Int))(ls:List Int):Prop:=∀c∈cs,(bD ls c).2=false∧pN ls c≠-1
def dO(t:RT):List Int:=t.rows.map (·.l)
def bel(t:RT)(k:Int):List Int:=(t.rows.filter λx=>decide (x.lev<k)).map (·.l)
inductive Tra (cs:List (List Int)) (ats:List Int):RT->Prop
  |nil:Tra cs ats ⟨6,[],0⟩
  |dec {t:RT} {l:Int}:Tra cs ats t->mayR t l=0->Calm cs (dO t)->Tra cs ats ⟨t.vars,t.rows++[⟨l,t.dep+1,-1⟩],t.dep+1⟩
  |imp {t:RT} {k:Nat} {x:Int} (hk:k<cs.length):Tra cs ats t->mayR t x=0->bD (dO t) cs[k]=(x,true)->Tra cs ats ⟨t.vars,t.rows++[⟨x,t.dep,ats.getD k 0⟩],t.dep⟩
theorem KR{t:RT}(h:∀x∈t.rows,x.lev<=t.dep):bel t (t.dep+1)=dO t:=by
 unfold bel dO;rw[Tw.2];intro x hx;have:=h x hx;simp;omega
theorem jt{t:RT}{k:Int}:∀y∈bel t k,y∈dO t:=by
 intro y hy;unfold bel at hy;obtain⟨x,hx,rfl⟩:=RE.1 hy;exact RE.2 ⟨x,(Ss.1 hx).1,rfl⟩
theorem HN{t:RT}{l:Int}(h:mayR t l=0):ax l t.vars=0∧p9 t (af l)<0:=by
 unfold mayR at h;split at h
 .cases h
 .rename_i c1;split at h
  .cases h
  .exact⟨by simpa using c1,by omega⟩
theorem xa{t:RT}{v:Int}(h:p9 t v<0):∀x∈t.rows,af x.l≠v:=by
 intro x hx e;obtain⟨j,hj,rfl⟩:=RJ hx;have:=ry (p:=λx:En=>decide (af x.l=v)) hj (by simp[e]);unfold p9 at h;omega
structure TraF (cs:List (List Int)) (ats:List Int) (t:RT):Prop where
  vars:t.vars=6
  dep:0<=t.dep
  chk:∀x∈t.rows,ax x.l 6=0
  nd:(t.rows.map λx=>af x.l).Nodup
  lev:∀x∈t.rows,0<=x.lev∧x.lev<=t.dep
  mono:∀i j (hi:i<t.rows.length)(hj:j<t.rows.length),i<j->t.rows[i].lev<=t.rows[j].lev
  dec:∀i (hi:i<t.rows.length),t.rows[i].rea<0->0<t.rows[i].lev∧∀j (hj:j<t.rows.length),j<i->t.rows[j].lev<t.rows[i].lev
  top:0<t.dep->Calm cs (bel t t.dep)
  fst:∀k:Int,0<k->k<=t.dep->∃x∈t.rows,x.lev=k∧x.rea<0
  imp:∀i (hi:i<t.rows.length),0<=t.rows[i].rea->∃k,∃hk:k<cs.length,t.rows[i].rea=ats.getD k 0∧t.rows[i].l∈cs[k]∧(∀y∈cs[k],y≠t.rows[i].l->∃j,∃hj:j<t.rows.length,j<i∧t.rows[j].l=-y)∧
    (0<t.rows[i].lev->∃y∈cs[k],y≠t.rows[i].l∧∃j,∃hj:j<t.rows.length,j<i∧t.rows[j].l=-y∧t.rows[j].lev=t.rows[i].lev)
theorem iM{α:Type}{l:List α}{x:α}{i:Nat}(h:i<(l++[x]).length):(∃hi:i<l.length,(l++[x])[i]=l[i])∨(i=l.length∧(l++[x])[i]=x):=by
 by_cases c:i<l.length
 .exact .inl ⟨c,Su c⟩
 .have:i=l.length:=by simp at h;omega
  subst this;exact .inr ⟨rfl,by simp⟩
theorem TraF.inj{cs:List (List Int)}{ats:List Int}{t:RT}(h:TraF cs ats t){i j:Nat}(hi:i<t.rows.length)(hj:j<t.rows.length)(e:af t.rows[i].l=af t.rows[j].l):i=j:=by
 have hn:=R9.1 (Tj.1 h.nd);rcases TM i j with c|c|c
 .exact absurd e (hn i j hi hj c)
 .exact c
 .exact absurd e.symm (hn j i hj hi c)
theorem TraF.one{cs:List (List Int)}{ats:List Int}{t:RT}(h:TraF cs ats t){y:Int}(hy:ax y 6=0):¬(y∈dO t∧-y∈dO t):=by
 rintro⟨h1,d⟩;unfold dO at h1 d;obtain⟨a,g,e⟩:=RE.1 h1;obtain⟨b,k,f⟩:=RE.1 d;obtain⟨i,hi,rfl⟩:=RJ g;obtain⟨j,hj,rfl⟩:=RJ k;have m:af t.rows[i].l=af t.rows[j].l:=by rw[e,f,dG]
 have c:i=j:=h.inj hi hj m;subst c;obtain⟨n0,_⟩:=Q8 hy;omega
theorem BF(cs:List (List Int)):qM cs=cs.flatten.length:=by
 have:∀(cs:List (List Int))(n:Nat),cs.foldl (λn c=>n+c.length) n=n+cs.flatten.length:=by
  intro cs
  induction cs with
  |nil=>intro n;simp
  |cons c cs a=>intro n;rw[Ud,a];simp;omega
 unfold qM;rw[this];omega
theorem KS{cs:List (List Int)}{ls:List Int}(h1:ii cs ls<0)(a:(eP cs ls).2.2=false):Calm cs ls:=by
 intro c b;constructor
 .unfold eP at a;split at a
  .cases a
  .rename_i d;rw[TQ]at d;simpa using d c b
 .intro e;obtain⟨j,hj,rfl⟩:=RJ b;have:=ry (p:=λc=>decide (pN ls c=-1)) hj (by simp[e]);unfold ii at h1;omega
theorem Ds{cs:List (List Int)}{ls:List Int}(h:0<=ii cs ls):∃i,∃hi:i<cs.length,ii cs ls=(i:Int)∧pN ls cs[i]=-1:=by
 unfold ii i7 at*;split at h
 .rename_i i a;rw[SG]at a;obtain⟨h1,b,_⟩:=a;exact⟨i,h1,rfl,by simpa using b⟩
 .omega
structure Way (cs:List (List Int)) (ats:List Int) (D:DK):Prop where
  rel:RelD D.T D.t
  tra:Tra cs ats D.t
  con:(D.con<0∧Calm cs (dO D.t))∨∃k,∃hk:k<cs.length,D.con=ats.getD k 0∧pN (dO D.t) cs[k]=-1
theorem Fb{l:List Int}(h:ig l l.length=0):l.Nodup:=by
 refine R9.2 λi j hi hj b e=>?_;have a:=oe l (i:=j+1) l.length (by omega);rw[ig]at a;have:l.getD j 0∈l.take j:=by
  rw[Rv,Ru hj,Sa,←e];rw[SH];exact⟨i,by omega,rfl⟩
 rw[Rx this]at a;omega
structure DeskT (cs:List (List Int)) (ats:List Int) (D:DK):Prop where
  ok:DeskOk D
  cls:ClsN cs ats
  way:Way cs ats D
  ars:∀k (hk:k<cs.length),isA D.A (ats.getD k 0)=true∧av D.A (ats.getD k 0)=cs[k]
structure PS where
  seen:List (Int×Int)
  lits:List Int
  many:Nat
def aC(s:List (Int×Int))(v:Int):Bool:=decide (0<(lk s v).getD 0)
def dL(T:Tr)(l:Int):Int:=(dE T (af l)).1.lev
def takeF(T:Tr)(but:Int)(p:PS)(l:Int):PS:=
 if af l=but∨aC p.seen (af l)=true∨dL T l<=0 then p
 else if dL T l=T.beg.length then⟨pt p.seen (af l) 1,p.lits,p.many+1⟩else⟨pt p.seen (af l) 1,p.lits++[l],p.many⟩
def dx(T:Tr)(but:Int)(c:List Int)(p:PS):PS:=c.foldl (takeF T but) p
def nF(T:Tr)(p:PS)(l:Int):Bool:=aC p.seen (af l)&&(decide (dL T l=T.beg.length)&&decide (0<=(dE T (af l)).1.rea))
def oq(A:Ar)(T:Tr)(p:PS)(l:Int):PS:=dx T (af l) (av A (dE T (af l)).1.rea) ⟨pt p.seen (af l) 0,p.lits,p.many -1⟩
def cL(A:Ar)(T:Tr)(all:List Int):Nat->PS->PS
 |0,p=>p
 |n+1,p=>if p.many<=1 then p else if nF T p (all.getD n 0)=true then cL A T all n (oq A T p (all.getD n 0))else cL A T all n p
def q6(T:Tr)(all:List Int)(p:PS):List Int:=p.lits++(all.filter λl=>aC p.seen (af l)&&decide (dL T l=T.beg.length)).map λl=>aS (-l)
/-! ### Places of what is assigned -/
theorem TraF.pla{cs:List (List Int)}{ats:List Int}{t:RT}(h:TraF cs ats t){j:Nat}(hj:j<t.rows.length):p9 t (af t.rows[j].l)=j:=by
 have h1:=ry (p:=λx:En=>decide (af x.l=af t.rows[j].l)) hj (by simp);obtain⟨i,hi,a,b⟩:=lj (t:=t) (v:=af t.rows[j].l) h1.1;have:=h.inj hi hj b;subst this;exact a
theorem qc{t:RT}{j:Nat}(hj:j<t.rows.length){y:Int}(hy:t.rows[j].l=-y):af y=af t.rows[j].l:=by rw[hy,dG]
theorem iN{t:RT}{j:Nat}(hj:j<t.rows.length){y:Int}(hy:t.rows[j].l=-y):y=-t.rows[j].l:=by omega
/-! ### Counting -/
theorem ot{α:Type}{P Q:α->Bool}:∀{l:List α}{j:Nat}(hj:j<l.length),P l[j]=false->Q l[j]=true->(∀i (hi:i<l.length),i≠j->Q l[i]=P l[i])->l.countP Q=l.countP P+1
 |[],j,hj,_,_,_=>by simp at hj
 |x::l,0,hj,a,b,ho=>by
  simp only[UL]at a b;have:l.countP Q=l.countP P:=by
   apply List.countP_congr;intro y hy;obtain⟨i,hi,rfl⟩:=RJ hy;have:=ho (i+1) (by simpa using hi) (by omega);simp only[UM]at this;rw[this]
  rw[Uv,Uv,this,a,b];simp
 |x::l,j+1,hj,a,b,ho=>by
  simp only [UM] at a b; have h0 := ho 0 (by simp) (by omega); simp only [UL] at h0; have := ot (l := l) (j := j) (by simpa using hj) a b (λ i hi c => by
   have:=ho (i+1) (by simpa using hi) (by omega);simpa using this)
  rw[Uv,Uv,this,h0];omega
theorem sS{α:Type}{P:α->Bool}:∀{l:List α},2<=l.countP P->∃i j,∃hi:i<l.length,∃hj:j<l.length,i<j∧P l[i]=true∧P l[j]=true
 |[],h=>by simp at h
 |x::l,h=>by
  rw[Uv]at h
  by_cases c:P x=true
  .rw[Rx c]at h;have:0<l.countP P:=by omega
   rw[VI]at this;obtain⟨y,hy,hp⟩:=this;obtain⟨j,hj,rfl⟩:=RJ hy;exact⟨0,j+1,by simp,by simpa using hj,by omega,by simpa using c,by simpa using hp⟩
  .rw[Rw c]at h;obtain⟨i,j,hi,hj,a,b,d⟩:=sS (l:=l) (by omega);exact⟨i+1,j+1,by simpa using hi,by simpa using hj,by omega,by simpa using b,by simpa using d⟩
/-! ### What is known while a conflict is taken apart -/
structure LI (t:RT) (p:PS) (n:Nat):Prop where
  sn:∀v,aC p.seen v=true->∃j,∃hj:j<t.rows.length,af t.rows[j].l=v∧0<t.rows[j].lev∧(t.rows[j].lev=t.dep->j<n∨t.rows[j].rea<0)
  li:∀l∈p.lits,∃j,∃hj:j<t.rows.length,t.rows[j].l=-l∧0<t.rows[j].lev∧t.rows[j].lev<t.dep
  ls:∀j (hj:j<t.rows.length),aC p.seen (af t.rows[j].l)=true->t.rows[j].lev<t.dep->-t.rows[j].l∈p.lits
  mn:p.many=t.rows.countP (λx=>aC p.seen (af x.l)&&decide (x.lev=t.dep))
theorem m6(s:List (Int×Int))(v w:Int)(n:Int):aC (pt s v n) w=if v=w then decide (0<n)else aC s w:=by
 unfold aC;rw[bK];split<;>rfl
theorem MR(t:RT)(n:Nat):LI t ⟨[],[],0⟩ n where
 sn:=λv h=>by simp[aC,lk]at h
 li:=by simp
 ls:=λj hj h=>by simp[aC,lk]at h
 mn:=by
  symm;rw[VJ];intro x _;simp[aC,lk]
/-! ### The one literal of the greatest level first -/
def cI(T:Tr)(out:List Int):Nat->Int×Nat×Nat
 |0=>(-1,0,0)
 |i+1=>if(cI T out i).1<dL T (out.getD i 0)then(dL T (out.getD i 0),1,i)
  else if dL T (out.getD i 0)=(cI T out i).1 then((cI T out i).1,(cI T out i).2.1+1,(cI T out i).2.2)else cI T out i
def HP(T:Tr)(out:List Int):List Int:=if(cI T out out.length).2.1=1 then out.getD (cI T out out.length).2.2 0::out.eraseIdx (cI T out out.length).2.2 else out
def HQ(T:Tr)(lits:List Int):List Int:=HP T (eO lits)
def gZ(A:Ar)(T:Tr)(con:Int):PS:=dx T 0 (av A con) ⟨[],[],0⟩
def dw(A:Ar)(T:Tr)(con:Int):List Int:=HQ T (q6 T T.lits (cL A T T.lits T.lits.length (gZ A T con)))
theorem y8{T:Tr}{out:List Int}{k:Nat}(hk:k<out.length)(h0:0<=dL T out[k])(ho:∀i (hi:i<out.length),i≠k->dL T out[i]<dL T out[k]):∀i,i<=out.length->
 if k<i then cI T out i=(dL T out[k],1,k)else(cI T out i).1<dL T out[k]
 |0,_=>by rw[Rw (by omega)];simp only[cI];omega
 |i+1,hi=>by
  have a:=y8 hk h0 ho i (by omega);have b:out.getD i 0=out[i]:=by rw[Rv,Ru (by omega)];rfl
  rw[cI,b]
  by_cases c:k<i
  .rw[Rx c]at a;have:=ho i (by omega) (by omega);rw[Rx (by omega),a];dsimp only;rw[Rw (by omega),Rw (by omega)]
  .rw[Rw c]at a
   by_cases e:k=i
   .subst e;rw[Rx (by omega),Rx a]
   .have:=ho i (by omega) (by omega);rw[Rw (by omega)];split
    .exact this
    .split
     .exact a
     .exact a
theorem KT{T:Tr}{out:List Int}{k:Nat}(hk:k<out.length)(h0:0<=dL T out[k])(ho:∀i (hi:i<out.length),i≠k->dL T out[i]<dL T out[k]):HP T out=out[k]::out.eraseIdx k:=by
 have:=y8 hk h0 ho out.length (Ry _);rw[Rx hk]at this;unfold HP;rw[this,Rx rfl,Rv,Ru hk];rfl
theorem mC{l:List Int}{k:Nat}(hk:k<l.length)(x:Int):x∈l[k]::l.eraseIdx k↔x∈l:=by
 rw[RZ,UI];constructor
 .rintro(rfl|⟨i,hi,_,rfl⟩)
  .exact Rz hk
  .exact Rz _
 .intro h;obtain⟨i,hi,rfl⟩:=RJ h
  by_cases e:i=k
  .subst e;exact .inl rfl
  .exact .inr ⟨i,hi,e,rfl⟩
theorem vg{l:List Int}(h:l.Nodup){i j:Nat}(hi:i<l.length)(hj:j<l.length)(e:l[i]=l[j]):i=j:=by
 have hn:=R9.1 h;rcases TM i j with c|c|c
 .exact absurd e (hn i j hi hj c)
 .exact c
 .exact absurd e.symm (hn j i hj hi c)
theorem y9(c:List Int):(eO c).Nodup:=(o6 c).1.imp λh e=>by rw[e]at h;omega
/-! ### What reasons show -/
inductive HOk (A:Ar) (T:Tr) (R:List Int):Int->Prop
  |stop {l:Int}:l∈R->HOk A T R l
  |why {l:Int}:cr T l<0->0<=(dE T (af l)).1.rea->isA A (dE T (af l)).1.rea=true->(∀y∈av A (dE T (af l)).1.rea,y≠-l->HOk A T R y)->HOk A T R l
def Fr(D:DK)(p:PS)(R:List Int):Prop:=∀j (hj:j<D.t.rows.length),aC p.seen (af D.t.rows[j].l)=true->HOk D.A D.T R (-D.t.rows[j].l)
structure Conf (D:DK) (con:Int):Prop where
  is:isA D.A con=true
  neg:∀y∈av D.A con,ax y 6=0∧∃j,∃hj:j<D.t.rows.length,D.t.rows[j].l=-y
  top:0<D.t.dep->∃y∈av D.A con,∃j,∃hj:j<D.t.rows.length,D.t.rows[j].l=-y∧D.t.rows[j].lev=D.t.dep
structure Learnt (D:DK) (L:List Int):Prop where
  nd:L.Nodup
  neg:∀y∈L,ax y 6=0∧∃j,∃hj:j<D.t.rows.length,D.t.rows[j].l=-y∧0<D.t.rows[j].lev
  nil:D.t.dep=0->L=[]
  top:0<D.t.dep->∃u r,L=u::r∧dL D.T u=D.t.dep∧∀y∈r,dL D.T y<D.t.dep
theorem ou{α:Type}{P:α->Bool}:∀{l:List α}{i j:Nat}(b:i<j)(hj:j<l.length),P (l[i]'(by omega))=true->P l[j]=true->2<=l.countP P
 |[],i,j,_,hj,_,_=>by simp at hj
 |x::l,0,j+1,_,hj,h1,a=>by
  simp only[UL,UM]at h1 a;have:0<l.countP P:=VI.2 ⟨_,Rz (by simpa using hj),a⟩;rw[Uv,Rx h1];omega
 |x::l,i+1,j+1,b,hj,h1,a=>by
  simp only[UM]at h1 a;have:=ou (l:=l) (i:=i) (j:=j) (by omega) (by simpa using hj) h1 a;rw[Uv];omega
theorem Fc:eO []=[]:=by
 have:=(o6 []).2;cases e:eO []with
 |nil=>rfl
 |cons x l=>have h:=(this x).1 (by rw[e];simp);simp at h
end Go.AX
namespace Go.AX
set_option maxRecDepth 16000
open Go.Proofs
set_option linter.unusedSimpArgs false
def iV(A:Ar)(T:Tr)(p:PS):List SV:=[.pv (lW A),.pv (bM T),.omap true (a8 fI p.seen),.own true 1 (aa p.lits),.pv (ae p.many)]
@[simp] theorem PC(r:Nat->Nat->PV)(A:Ar):eD r (pg A)=pg A:=by simp[pg]
@[simp] theorem PD(r:Nat->Nat->PV)(T:Tr):eD r (cV T)=cV T:=by simp[cV]
@[simp] theorem MS(k:Nat)(A:Ar):bO k (pg A):=by simp[pg]
@[simp] theorem MT(k:Nat)(T:Tr):bO k (cV T):=by simp[cV]
theorem aR(k:Nat)(A:Ar)(T:Tr)(p:PS):cU k (iV A T p):=⟨⟨⟨bc k _,iv k _,trivial⟩,trivial⟩,⟨⟨oa k _,bc k _,bc k _,trivial,trivial⟩,trivial⟩,iv k _,bc k _,trivial,trivial⟩
theorem HR(T:Tr)(but:Int)(p:PS)(l:Int):(takeF T but p l).many<=p.many+1∧(takeF T but p l).lits.length<=p.lits.length+1:=by
 unfold takeF;split
 .exact⟨by omega,by omega⟩
 .split
  .exact⟨by simp,by simp⟩
  .exact⟨by simp,by simp⟩
theorem jX(T:Tr)(but:Int):∀(c:List Int)(p:PS),(dx T but c p).many<=p.many+c.length∧(dx T but c p).lits.length<=p.lits.length+c.length
 |[],p=>⟨Ry _,Ry _⟩
 |y::c,p=>by
  have h1:=HR T but p y;have a:=jX T but c (takeF T but p y);have e:dx T but (y::c) p=dx T but c (takeF T but p y):=rfl;rw[e,R0];omega
theorem sT(T:Tr)(but:Int)(c:List Int)(p:PS){i:Nat}(h:i<c.length):dx T but (c.take (i+1)) p=takeF T but (dx T but (c.take i) p) c[i]:=bf _ _ _ _ h
theorem HT(A:Ar)(T:Tr)(p:PS)(q but:Int)(ht:T.ok)(h0:A.hd≠[])(hk:lr A)(k:A.row.length<=1000000)(m:p.many<=1000000000)(hp:p.lits.length<=1000000000):
 aB Tryz.prog 161 [.ptr 0 0,ae q,ae but] [iV A T p] (λr h'=>h'=[iV A T (dx T but (av A q) p)]∧r=.pv (.tup [])):=by
 refine iH [] [] [iV A T (dx T but (av A q) p)] (by simp) (λ_=>⟨aR _ _ _ _,trivial⟩) aE Tryz.func161 ?_;have j:=jV A h0 hk k q;have l:=fO A hk q;generalize av A q=c at*;simp[iV];refine ai.intro j ?_;simp;refine aw.intro (S:=λ(i:Nat)=>⟨[(0,.pv (.ptr 0 0)),(2,.pv (ae but)),(6,.pv (.fn (.func 170) [bM T] [])),(20,.own true 1 (aa c)),(21,.pv (ae c.length)),(22,.pv (ae i))],[iV A T (dx T but (c.take i) p)]⟩) (λi=>i<=c.length) (λi=>c.length -i) 0 ?_ (RL _) ?_
 .exact ah.to (by simp) (by simp[iV,dx]) (by simp) (by simp) (by simp[aR])
 intro i hi
 by_cases h:i<c.length
 rotate_left
 .have f:i=c.length:=by omega
  subst f;simp[iV,fX]
 have d:=dr i;have hs:=sT T but c p h;have hle:=jX T but (c.take i) p;rw[RD]at hle;generalize dx T but (c.take i) p=s at*;have b:=fM T (af c[i]) ht;simp[h,iV];refine ai.intro (aI c[i]) ?_;simp;refine aP.intro (λ_=>b) ?_
 by_cases c1:af c[i]=but
 .have hd:takeF T but s c[i]=s:=by unfold takeF;rw[Rx (.inl c1)]
  simp[c1];refine⟨i+1,by(try dsimp only);omega,by(try dsimp only);omega,ah.to (by simp[d]) (by simp[iV,hs,hd]) (by simp) (by simp) (by simp[aR])⟩
 by_cases c2:0<(lk s.seen (af c[i])).getD 0
 .have hd:takeF T but s c[i]=s:=by unfold takeF;rw[Rx (.inr (.inl (by simpa[aC]using c2)))]
  simp[c1,c2];refine⟨i+1,by(try dsimp only);omega,by(try dsimp only);omega,ah.to (by simp[d]) (by simp[iV,hs,hd]) (by simp) (by simp) (by simp[aR])⟩
 have a:(lk s.seen (af c[i])).getD 0<=0:=by omega
 by_cases c3:(dE T (af c[i])).1.lev<=0
 .have hd:takeF T but s c[i]=s:=by unfold takeF;rw[Rx (.inr (.inr c3))]
  simp[c1,c2,a,c3];refine⟨i+1,by(try dsimp only);omega,by(try dsimp only);omega,ah.to (by simp[d]) (by simp[iV,hs,hd]) (by simp) (by simp) (by simp[aR])⟩
 have hd:takeF T but s c[i]=if(dE T (af c[i])).1.lev=T.beg.length then⟨pt s.seen (af c[i]) 1,s.lits,s.many+1⟩else⟨pt s.seen (af c[i]) 1,s.lits++[c[i]],s.many⟩:=by
  unfold takeF;rw[Rw]
  .rfl
  rintro(e|e|e)
  .exact c1 e
  .exact c2 (by simpa[aC]using e)
  .exact c3 e
 simp[c1,c2,a,c3];refine br.intro b ?_;simp;refine br.intro (jU T) ?_
 by_cases c4:(dE T (af c[i])).1.lev=T.beg.length
 .rw[Rx c4]at hd;have g:=dr s.many;simp[c4];refine⟨i+1,by(try dsimp only);omega,by(try dsimp only);omega,ah.to (by simp[d]) (by simp[iV,hs,hd,g]) (by simp) (by simp) (by simp[aR])⟩
 .rw[Rw c4]at hd;simp[c4];refine⟨by omega,i+1,by(try dsimp only);omega,by(try dsimp only);omega,ah.to (by simp[d]) (by simp[iV,hs,hd,aa]) (by simp) (by simp) (by simp[aR])⟩
def jY(T:Tr)(p:PS)(all:List Int):Nat->Int
 |0=>-1
 |n+1=>if nF T p (all.getD n 0)=true then(n:Int)else jY T p all n
theorem Fd(A:Ar)(T:Tr)(all:List Int)(p:PS)(h:p.many<=1):∀k,cL A T all k p=p
 |0=>rfl
 |k+1=>by rw[cL,Rx h]
theorem za(A:Ar)(T:Tr)(all:List Int)(p:PS):∀k,(jY T p all k=-1∧cL A T all k p=p)∨∃j,j<k∧jY T p all k=(j:Int)∧(1<p.many->cL A T all k p=cL A T all j (oq A T p (all.getD j 0)))
 |0=>.inl ⟨rfl,rfl⟩
 |k+1=>by
  rw[jY,cL]
  by_cases c:nF T p (all.getD k 0)=true
  .rw[Rx c,Rx c];exact .inr ⟨k,by omega,rfl,λh=>by rw[Rw (by omega)]⟩
  .rw[Rw c,Rw c];rcases za A T all p k with⟨h1,a⟩|⟨j,h1,a,b⟩
   .refine .inl ⟨h1,?_⟩;split
    .rfl
    .exact a
   .refine .inr ⟨j,by omega,a,λh=>?_⟩;rw[Rw (by omega)];exact b h
theorem HU(A:Ar)(T:Tr)(p:PS)(all:List Int)(n:Nat)(ht:T.ok)(hn:n<=all.length)(q:all.length<=1000000):
 aB Tryz.prog 240 [.ptr 0 0,.seq false 1 (aa all),ae ((n:Int) -1)] [iV A T p] (λr h'=>h'=[iV A T p]∧r=.pv (ae (jY T p all n))):=by
 refine iH [] [.tmp 6] [iV A T p] (by simp) (λ_=>⟨aR _ _ _ _,trivial⟩) aE Tryz.func240 ?_;generalize l:jY T p all n=F;simp;refine aw.intro (S:=λ(k:Nat)=>⟨[(0,.pv (.ptr 0 0)),(1,.pv (.seq false 1 (aa all))),(7,.pv (ae ((k:Int) -1)))],[iV A T p]⟩) (λk=>k<=n∧F=jY T p all k) (λk=>k) n ?_ ⟨Ry _,l.symm⟩ ?_
 .exact ah.to (by simp) (by simp) (by simp) (by simp) (by simp[aR])
 rintro k ⟨hk,a⟩;cases k with
 |zero=>simp[jY]at a;subst a;simp[fX]
 |succ j=>
  have hj:j<all.length:=by omega
  have m:all.getD j 0=all[j]:=by rw[Rv,Ru hj];rfl
  have o:aS ((j:Int) -1)=(j:Int) -1:=ap (by omega) (by omega);have c:=fM T (af all[j]) ht;have e:=gt T (af all[j]) ht;have d:jY T p all (j+1)=if nF T p all[j]=true then(j:Int)else jY T p all j:=by rw[jY,m]
  have i:nF T p all[j]=(decide (0<(lk p.seen (af all[j])).getD 0)&&(decide ((dE T (af all[j])).1.lev=T.beg.length)&&decide (0<=(dE T (af all[j])).1.rea))):=rfl;rw[d,i]at a;simp[hj,iV];refine ai.intro (aI all[j]) ?_;simp;refine eq.intro (λ_=>c) ?_;simp;refine eq.intro (λ_=>jU T) ?_;simp;refine eq.intro (λ_=>e) ?_
  by_cases b:(0<(lk p.seen (af all[j])).getD 0∧(dE T (af all[j])).1.lev=T.beg.length)∧0<=(dE T (af all[j])).1.rea
  .obtain⟨⟨f,g⟩,h⟩:=b;rw[Rx (by simp[f,g,h])]at a;subst a;simp[f,g,h,fX,iV]
  .rw[Rw (by simpa[and_assoc]using b)]at a;simp[b];refineλ_=>⟨j,by(try dsimp only);omega,⟨by(try dsimp only);omega,a⟩,ah.to (by simp[o]) (by simp[iV]) (by simp) (by simp) (by simp[aR])⟩
end Go.AX
namespace Go.AX
open Go.Proofs
set_option linter.unusedSimpArgs false
theorem KU(A:Ar)(T:Tr)(hk:lr A)(b:A.row.length<=1000000)(p:PS)(l:Int):(oq A T p l).many<=p.many+1000000∧(oq A T p l).lits.length<=p.lits.length+1000000:=by
 have h:=jX T (af l) (av A (dE T (af l)).1.rea) ⟨pt p.seen (af l) 0,p.lits,p.many -1⟩;have a:=fO A hk (dE T (af l)).1.rea;dsimp only at h;unfold oq;omega
def HV(T:Tr)(p:PS)(l:Int):Bool:=aC p.seen (af l)&&decide (dL T l=T.beg.length)
def nG(T:Tr)(all:List Int)(p:PS)(i:Nat):List Int:=p.lits++((all.take i).filter (HV T p)).map λl=>aS (-l)
theorem BG(T:Tr)(all:List Int)(p:PS){i:Nat}(h:i<all.length):nG T all p (i+1)=if HV T p all[i]=true then nG T all p i++[aS (-all[i])]else nG T all p i:=by
 unfold nG;rw[←TH h,SO,R1]
 by_cases c:HV T p all[i]=true
 .rw[Rx c,Sn,Rx c];simp
 .rw[Rw c,Sn,Rw c];simp
theorem zb(T:Tr)(all:List Int)(p:PS)(i:Nat)(hi:i<=all.length):(nG T all p i).length<=p.lits.length+i:=by
 unfold nG;rw[RF,RH];have:=SU (HV T p) (all.take i);rw[RD]at this;omega
theorem vh(T:Tr)(all:List Int)(p:PS):nG T all p all.length=q6 T all p:=by
 unfold nG q6;rw[RY];rfl
def fin(A:Ar)(T:Tr)(all:List Int)(p:PS):PS:=⟨(cL A T all all.length p).seen,q6 T all (cL A T all all.length p),(cL A T all all.length p).many⟩
set_option maxRecDepth 16000 in
theorem HW(A:Ar)(T:Tr)(p:PS)(all:List Int)(ht:T.ok)(h0:A.hd≠[])(hk:lr A)(I:A.row.length<=1000000)(hn:all.length<=400)(N:p.many<=1000000)(hp:p.lits.length<=1000000):
 aB Tryz.prog 162 [.ptr 0 0,.seq false 1 (aa all)] [iV A T p] (λr h'=>h'=[iV A T (fin A T all p)]∧r=.pv (.tup [])):=by
 refine iH [] [] [iV A T (fin A T all p)] (by simp) (λ_=>⟨aR _ _ _ _,trivial⟩) aE Tryz.func162 ?_;have a:=λp n hn=>HU A T p all n ht hn (by omega);have C:aS ((all.length:Int) -1)=(all.length:Int) -1:=ap (by omega) (by omega);unfold fin;generalize K:cL A T all all.length p=F;simp[C];refine aj.intro (a p all.length (Ry _)) ?_;rintro _ _ ⟨rfl,rfl⟩;simp;refine aw.intro (S:=λ(x:Nat×PS)=>⟨[(0,.pv (.ptr 0 0)),(1,.pv (.seq false 1 (aa all))),(4,.pv (ae (jY T x.2 all x.1)))],[iV A T x.2]⟩) (λx=>x.1<=all.length∧F=cL A T all x.1 x.2∧x.2.many<=1000000*(all.length -x.1+1)∧x.2.lits.length<=1000000*(all.length -x.1+1)) (λx=>x.1) (all.length,p) ?_ ⟨Ry _,K.symm,by dsimp only;omega,by dsimp only;omega⟩ ?_
 .exact ah.to (by simp) (by simp) (by simp) (by simp) (by simp[aR])
 rintro⟨k,s⟩ ⟨t,b,w,y⟩;dsimp only at t b w y;have d:=za A T all s k
 by_cases H:(1:Int)<(s.many:Int)∧0<=jY T s all k
 rotate_left
 .have m:F=s:=by
   rcases d with⟨h1,e⟩|⟨j,h1,e,D⟩
   .rw[b,e]
   .rw[b,Fd A T all s (by omega)]
  subst m;clear b d a;simp[iV,H];intro _;refine aw.intro (S:=λ(i:Nat)=>⟨[(0,.pv (.ptr 0 0)),(1,.pv (.seq false 1 (aa all))),(55,.pv (.seq false 1 (aa all))),(56,.pv (ae all.length)),(57,.pv (ae i))],[iV A T ⟨F.seen,nG T all F i,F.many⟩]⟩) (λi=>i<=all.length) (λi=>all.length -i) 0 ?_ (RL _) ?_
  .exact ah.to (by simp) (by simp[iV,nG]) (by simp) (by simp) (by simp[aR])
  intro i hi
  by_cases h:i<all.length
  rotate_left
  .have q:i=all.length:=by omega
   subst q;simp[iV,fX,vh]
  have J:=dr i;have c:=BG T all F h;have hle:=zb T all F i hi;have u:=fM T (af all[i]) ht;have E:HV T F all[i]=(decide (0<(lk F.seen (af all[i])).getD 0)&&decide ((dE T (af all[i])).1.lev=T.beg.length)):=rfl;simp[h,iV];refine ai.intro (aI all[i]) ?_;simp;refine eq.intro (λ_=>u) ?_;simp;refine eq.intro (λ_=>jU T) ?_
  by_cases hd:0<(lk F.seen (af all[i])).getD 0∧(dE T (af all[i])).1.lev=T.beg.length
  .rw[Rx (by rw[E];simp[hd])]at c;simp[hd];refine⟨by omega,i+1,by(try dsimp only);omega,by(try dsimp only);omega,ah.to (by simp[J]) (by simp[iV,c,aa]) (by simp) (by simp) (by simp[aR])⟩
  .rw[Rw (by rw[E];simpa using hd)]at c;simp[hd];refineλ_=>⟨i+1,by(try dsimp only);omega,by(try dsimp only);omega,ah.to (by simp[J]) (by simp[iV,c]) (by simp) (by simp) (by simp[aR])⟩
 obtain⟨o,L⟩:=H;rcases d with⟨h1,e⟩|⟨j,h1,e,D⟩
 .omega
 have hj:j<all.length:=by omega
 have M:all.getD j 0=all[j]:=by rw[Rv,Ru hj];rfl
 have f:=D (by omega);rw[M]at f;have v:=gt T (af all[j]) ht;have B:aS ((s.many:Int) -1)=((s.many -1:Nat):Int):=by rw[ap (by omega) (by omega)];omega
 have z:aS ((j:Int) -1)=(j:Int) -1:=ap (by omega) (by omega);have G:1000000*(all.length -k+1)+1000000<=1000000*(all.length -j+1):=by omega
 have l:=HT A T ⟨pt s.seen (af all[j]) 0,s.lits,s.many -1⟩ (dE T (af all[j])).1.rea (af all[j]) ht h0 hk I (by dsimp only;omega) (by dsimp only;omega);have hle:=KU A T hk I s all[j];have g:dx T (af all[j]) (av A (dE T (af all[j])).1.rea) ⟨pt s.seen (af all[j]) 0,s.lits,s.many -1⟩=oq A T s all[j]:=rfl;rw[g]at l;generalize oq A T s all[j]=s' at*;simp[iV,o,e,hj];refine ai.intro (aI all[j]) ?_;simp[B];refine ai.intro v ?_;simp;refine aj.intro l ?_;rintro _ _ ⟨rfl,rfl⟩;simp[z];refine aj.intro (a s' j (by omega)) ?_;rintro _ _ ⟨rfl,rfl⟩;simp;refine⟨(j,s'),by(try dsimp only);omega,⟨by(try dsimp only);omega,by(try dsimp only);rw[b,f],by(try dsimp only);omega,by(try dsimp only);omega⟩,ah.to (by simp) (by simp[iV]) (by simp) (by simp) (by simp[aR])⟩
theorem BH(T:Tr)(ht:T.ok)(x:Int):am Tryz.prog 238 [ae x,.iptr 1 [[bM T]] 0 0] (λr=>r=.pv (BL (decide (0<=cr T x)))):=by
 refine aq aE Tryz.func238 ?_;have a:=fN T x ht;simp;refine ai.intro a ?_;simp
def ow(T:Tr)(lits:List Int):Bool:=!(lits.any λx=>decide (0<=cr T x))
theorem Fe(T:Tr)(lits:List Int)(ht:T.ok)(b:lits.length<=1000000):am Tryz.prog 159 [bM T,.seq false 1 (aa lits)] (λr=>r=.pv (BL (ow T lits))):=by
 refine aq aE Tryz.func159 ?_;have a:=fY lits b 238 [.iptr 1 [[bM T]] 0 0] (λx=>decide (0<=cr T x)) (λr=>by simp) rfl (λk=>by simp) (λx _=>BH T ht x);simp[bG];refine ai.intro a ?_;simp[ow]
def fP(T:Tr)(lits:List Int)(i:Nat):List Int:=((lits.take i).filter λl=>!decide (cr T l=0)).map (dL T)
theorem BI(T:Tr)(lits:List Int){i:Nat}(h:i<lits.length):fP T lits (i+1)=if cr T lits[i]=0 then fP T lits i else fP T lits i++[dL T lits[i]]:=by
 unfold fP;rw[←TH h,SO,R1]
 by_cases c:cr T lits[i]=0
 .rw[Rx c,Sn,Rw (by simp[c])];simp
 .rw[Rw c,Sn,Rx (by simp[c])];simp
theorem zc(T:Tr)(lits:List Int)(i:Nat):(fP T lits i).length<=i:=by
 unfold fP;rw[RH];have:=SU (λl=>!decide (cr T l=0)) (lits.take i);rw[RD]at this;omega
def HX(T:Tr)(lits:List Int):List Int:=cP (er (fP T lits lits.length))
def dy(T:Tr)(lits:List Int):Int:=if(HX T lits).length<2 then 0 else(HX T lits).getD ((HX T lits).length -2) 0
set_option maxRecDepth 16000 in
theorem HY(T:Tr)(lits:List Int)(ht:T.ok)(L:lits.length<=1000000):am Tryz.prog 98 [bM T,.seq false 1 (aa lits)] (λr=>r=.pv (ae (dy T lits))):=by
 refine aq aE Tryz.func98 ?_;simp;refine aw.intro (S:=λ(i:Nat)=>⟨[(0,.pv (bM T)),(5,.own true 1 (aa (fP T lits i))),(8,.pv (.seq false 1 (aa lits))),(9,.pv (ae lits.length)),(10,.pv (ae i))],[]⟩) (λi=>i<=lits.length) (λi=>lits.length -i) 0 ?_ (RL _) ?_
 .exact(ah.nilOwn (s:=5) 1 true (by simp)).trans (ah.to (by simp[fP,aa]) (by simp) (by simp) (by simp) (by simp))
 intro i hi
 by_cases h:i<lits.length
 .have v:=dr i;have C:=fM T (af lits[i]) ht;have K:=fN T lits[i] ht;have d:=BI T lits h;have hle:=zc T lits i;simp[h];refine aP.intro (λ_=>K) ?_
  by_cases c:cr T lits[i]=0
  .rw[Rx c]at d;simp[c];refine⟨i+1,by(try dsimp only);omega,by(try dsimp only);omega,ah.to (by simp[v,d]) (by simp) (by simp) (by simp) (by simp)⟩
  .rw[Rw c]at d;simp[c];refine ai.intro (aI lits[i]) ?_;simp;refine ai.intro C ?_;simp;refine⟨by omega,i+1,by(try dsimp only);omega,by(try dsimp only);omega,ah.to (by simp[v,d,aa,dL]) (by simp) (by simp) (by simp) (by simp)⟩
 have z:i=lits.length:=by omega
 subst z;have hle:=zc T lits lits.length;have H:=ET (fP T lits lits.length) (by omega);have n:dy T lits=if(cP (er (fP T lits lits.length))).length<2 then 0 else(cP (er (fP T lits lits.length))).getD ((cP (er (fP T lits lits.length))).length -2) 0:=rfl;generalize dy T lits=B at*;have J:(er (fP T lits lits.length)).length=(fP T lits lits.length).length:=by unfold er;exact S8 _
 generalize fP T lits lits.length=xs at*;have F:=sD (er xs) (by omega);have w:=iJ (er xs) (er xs).length;unfold MF at F;have x:aJ (er xs) (er xs).length=cP (er xs):=rfl;rw[x]at w;generalize er xs=e at*;generalize cP e=a at*;simp;refine ai.introX (bC.introS (o:=.slot 5) (lo:=0) (hi:=xs.length) H (by simp) rfl rfl (by simp) (by simp) rfl (by simp;exact SA (by simp)) (bc 0 xs) (by simp) (by simp) ?_);rintro k l ⟨rfl,rfl⟩ _ _;have y:List.drop xs.length (aa xs)=[]:=R2 (by simp);simp[y];refine ai.introX (bC.introS (o:=.slot 5) (lo:=0) (hi:=e.length) F (by simp) rfl rfl (by simp) (by simp) rfl (by simp;exact SA (by simp)) (fZ 0 e) (by simp) (by simp) ?_);rintro k l ⟨rfl,rfl⟩ _ _;have q:List.drop e.length (aa e)=[]:=R2 (by simp);have G:(aD (a++List.replicate (e.length -a.length) 0)).length=e.length:=by rw[gv];simp;omega
 have f:min a.length (aD (a++List.replicate (e.length -a.length) 0)).length=a.length:=by rw[G];omega
 have E:=od a (List.replicate (e.length -a.length) 0)
 by_cases c2:a.length<2
 .rw[Rx c2]at n;have g:(a.length:Int)<2:=by omega
  have j:¬2<=(a.length:Int):=by omega
  simp[q,c2,g,j,n,f]
 rw[Rw c2]at n;obtain⟨m,I⟩:∃m,a.length=m+2:=⟨a.length -2,by omega⟩;have v:aS ((a.length:Int) -2)=(m:Int):=by rw[ap (by omega) (by omega)];omega
 have g:¬(a.length:Int)<2:=by omega
 have b:m<a.length:=by omega
 have p:B=a[m]:=by rw[n,I,Rv,UN,Ru b];rfl
 have t:(aD a)[m]?=some [ae a[m]]:=by unfold aD;rw[RS,Ru b];rfl
 have D:(m:Int)<(a.length:Int):=by omega
 rw[p];clear n p;have A:=gv a;have j:2<=(a.length:Int):=by omega
 have u:∀h,(aD a)[m]'h=[ae a[m]]:=λh=>by rw[Ru h]at t;exact TL t
 simp[q,c2,g,j,v,f,E,D,A,u,b]
def iW(A:Ar)(q:Int):Int:=if isA A q=true then A.row.getD q.toNat 0 else 0
theorem xb(A:Ar)(h0:A.hd≠[])(hk:lr A)(b:A.row.length<=1000000)(q:Int):am Tryz.prog 158 [lW A,ae q] (λr=>r=.pv (ae (iW A q))):=by
 refine aq aE Tryz.func158 ?_;have hi:=Dp A h0 q;unfold iW;simp only[lW,pg]at hi;simp[lW,pg];refine ai.intro hi ?_
 by_cases c:isA A q=true
 rotate_left
 .have c':isA A q=false:=by simpa using c
  simp[c']
 obtain⟨p,n,rfl,a⟩:=hk q c;have hp:p<A.row.length:=by have:=a.len;omega
 simp[c,hp]
structure NS where
  at':List (Int×Int)
  ok:Bool
def pla(T:Tr)(l:Int):Int:=(dE T (af l)).1.pla
def rea(T:Tr)(l:Int):Int:=(dE T (af l)).1.rea
def vi(T:Tr)(stop:List (Int×Int))(but:Int)(s:NS)(l:Int):Bool:=decide (l=but)||aC stop l||(aC s.at' (pla T l)&&decide (0<=pla T l))
def Ff(A:Ar)(T:Tr)(l:Int):Bool:=decide (0<=cr T l)||decide (rea T l<0)||decide (iW A (rea T l)=0)
def sU(T:Tr)(s:NS)(l:Int):NS:=⟨pt s.at' (pla T l) (aS ((lk s.at' (pla T l)).getD 0+1)),s.ok⟩
def sV(f:NS->Int->Int->NS)(A:Ar)(T:Tr)(stop:List (Int×Int))(but:Int):List Int->NS->NS
 |[],s=>s
 |l::c,s=>if vi T stop but s l=true then sV f A T stop but c s else if Ff A T l=true then⟨s.at',false⟩else sV f A T stop but c (f (sU T s l) (rea T l) (aS (-l)))
def q7(A:Ar)(T:Tr)(stop:List (Int×Int)):Nat->NS->Int->Int->NS
 |0,s,_,_=>s
 |k+1,s,q,but=>sV (q7 A T stop k) A T stop but (av A q) s
def sW(A:Ar)(T:Tr)(stop:List (Int×Int))(s:NS):List SV:=[.pv (lW A),.pv (bM T),.omap true (a8 fI stop),.omap true (a8 fI s.at'),.pv (BL s.ok)]
theorem dW(k:Nat)(A:Ar)(T:Tr)(stop:List (Int×Int))(s:NS):cU k (sW A T stop s):=⟨⟨⟨bc k _,iv k _,trivial⟩,trivial⟩,⟨⟨oa k _,bc k _,bc k _,trivial,trivial⟩,trivial⟩,iv k _,iv k _,trivial,trivial⟩
structure AheadOk (A:Ar) (T:Tr):Prop where
  tr:T.ok
  hd:A.hd≠[]
  ar:lr A
  len:A.row.length<=1000000
  ahead:∀l:Int,cr T l<0->0<=rea T l->0<=pla T l∧∀y∈av A (rea T l),y≠aS (-l)->pla T y<pla T l
set_option maxRecDepth 16000 in
theorem KV(A:Ar)(T:Tr)(stop:List (Int×Int))(K:AheadOk A T):∀(k:Nat)(q but:Int)(s:NS),(∀y∈av A q,y≠but->pla T y<k)->
 aB Tryz.prog 166 [.ptr 0 0,ae q,ae but] [sW A T stop s] (λr h'=>h'=[sW A T stop (q7 A T stop (k+1) s q but)]∧r=.pv (.tup [])):=by
 intro k
 induction k using Nat.strongRecOn with
 |ind k O=>
 intro q but s N;refine iH [] [] [sW A T stop (q7 A T stop (k+1) s q but)] (by simp) (λ_=>⟨dW _ _ _ _ _,trivial⟩) aE Tryz.func166 ?_;obtain⟨ht,h0,hk,G,p⟩:=K;have L:=jV A h0 hk G q;have X:=fO A hk q;rw[q7];generalize E:sV (q7 A T stop k) A T stop but (av A q) s=F;generalize av A q=c at*;simp[sW];refine ai.intro L ?_;simp;refine aw.intro (S:=λ(x:Nat×NS)=>⟨[(0,.pv (.ptr 0 0)),(2,.pv (ae but)),(15,.own true 1 (aa c)),(16,.pv (ae c.length)),(17,.pv (ae x.1))],[sW A T stop x.2]⟩) (λx=>x.1<=c.length∧F=sV (q7 A T stop k) A T stop but (c.drop x.1) x.2) (λx=>c.length -x.1) (0,s) ?_ ⟨RL _,E.symm⟩ ?_
 .exact ah.to (by simp) (by simp[sW]) (by simp) (by simp) (by simp[dW])
 clear E;rintro⟨i,s⟩ ⟨hi,d⟩;dsimp only at hi d
 by_cases h:i<c.length
 rotate_left
 .have w:i=c.length:=by omega
  subst w;rw[R2 (Ry _),sV]at d;subst d;simp[sW,fX]
 have H:=dr i;have v:c.drop i=c[i]::c.drop (i+1):=R8 h;rw[v,sV]at d;have f:=mW T (af c[i]) ht;have m:=gt T (af c[i]) ht;have D:=fN T c[i] ht;have n:vi T stop but s c[i]=(decide (c[i]=but)||decide (0<(lk stop c[i]).getD 0)||(decide (0<(lk s.at' (pla T c[i])).getD 0)&&decide (0<=pla T c[i]))):=rfl;have l:Ff A T c[i]=(decide (0<=cr T c[i])||decide (rea T c[i]<0)||decide (iW A (rea T c[i])=0)):=rfl;have B:(dE T (af c[i])).1.pla=pla T c[i]:=rfl;have C:(dE T (af c[i])).1.rea=rea T c[i]:=rfl;rw[B]at f;rw[C]at m;simp[h,sW];refine ai.intro (aI c[i]) ?_;simp;refine eq.intro (λ_=>f) ?_;simp;refine eq.intro (λ_=>f) ?_;simp;refine⟨λa b=>⟨⟨a,b⟩,λe=>⟨⟨a,b⟩,e⟩⟩,λhs=>?_,λI Y U=>?_⟩
 .rw[Rx (by rw[n];simpa using hs)]at d;exact⟨(i+1,s),by(try dsimp only);omega,⟨by(try dsimp only);omega,d⟩,ah.to (by simp[H]) (by simp[sW]) (by simp) (by simp) (by simp[dW])⟩
 have o:¬vi T stop but s c[i]=true:=by
  rw[n];simp only[SN,RG,RP];rintro((e|e)|⟨J,W⟩)
  .exact I e
  .omega
  .have:=U J;omega
 rw[Rw o]at d;refine ai.intro m ?_;simp;refine ai.intro D ?_;simp;refine aP.intro (λ_=>xb A h0 hk G _) ?_
 by_cases j:Ff A T c[i]=true
 .rw[Rx j]at d;rw[l]at j;have t:(0<=cr T c[i]∨rea T c[i]<0)∨iW A (rea T c[i])=0:=by simpa using j
  subst d;simp[t,fX]
 rw[Rw j]at d;have u:¬(0<=cr T c[i])∧¬(rea T c[i]<0)∧¬(iW A (rea T c[i])=0):=by
  rw[l]at j;simpa[and_assoc]using j
 obtain⟨P,Q,R⟩:=u;obtain⟨Z,V⟩:=p c[i] (by omega) (by omega);have M:=N c[i] (Rz h) I;simp[P,Q,R];refine⟨by omega,?_⟩;refine br.intro f ?_;simp;obtain⟨k',rfl⟩:∃k',k=k'+1:=⟨k -1,by omega⟩;have g:=O k' (by omega) (rea T c[i]) (aS (-c[i])) (sU T s c[i]) (λy hy z=>by have:=V y hy z;omega);simp only[sW,sU]at g;refine aj.intro g ?_;rintro _ _ ⟨rfl,rfl⟩;simp;refine⟨(i+1,q7 A T stop (k'+1) (sU T s c[i]) (rea T c[i]) (aS (-c[i]))),by(try dsimp only);omega,⟨by(try dsimp only);omega,d⟩,ah.to (by simp[H]) (by simp[sW,sU]) (by simp) (by simp) (by simp[dW])⟩
def cJ(lits:List Int):Nat->List (Int×Int)
 |0=>[]
 |i+1=>pt (cJ lits i) (lits.getD i 0) ((lk (cJ lits i) (lits.getD i 0)).getD 0+1)
theorem pm(lits:List Int):∀(i:Nat)(v:Int),0<=(lk (cJ lits i) v).getD 0∧(lk (cJ lits i) v).getD 0<=i
 |0,v=>by simp[cJ,lk]
 |i+1,v=>by
  have h:=pm lits i;rw[cJ,bK];split
  .have:=h (lits.getD i 0);rw[Sa];omega
  .have:=h v;omega
theorem sX(lits:List Int)(v:Int):∀i,i<=lits.length->(aC (cJ lits i) v=true↔v∈lits.take i)
 |0,_=>by simp[cJ,lk,aC]
 |i+1,h=>by
  have b:=sX lits v i (by omega);have a:lits.getD i 0=lits[i]:=by rw[Rv,Ru (by omega)];rfl
  have hle:=pm lits i lits[i];rw[cJ,a,m6,Sp,Ru (by omega),Tm,RI,Sc];split
  .rename_i e;subst e;have:0<(lk (cJ lits i) lits[i]).getD 0+1:=by omega
   simp[this]
  .rename_i e;rw[b];exact⟨.inl,λh=>h.elim id (λh=>absurd h.symm e)⟩
def HZ(T:Tr)(at':List (Int×Int))(out:List Int)(i:Nat):Bool:=aC at' i&&!decide (rea T (T.lits.getD i 0)∈out)
def eu(T:Tr)(at':List (Int×Int)):Nat->List Int
 |0=>[]
 |i+1=>if HZ T at' (eu T at' i) i=true then eu T at' i++[rea T (T.lits.getD i 0)]else eu T at' i
theorem sY(T:Tr)(at':List (Int×Int)):∀i,(eu T at' i).length<=i
 |0=>by simp[eu]
 |i+1=>by
  have:=sY T at' i;rw[eu];split
  .simp;omega
  .omega
def lX(A:Ar)(T:Tr)(lits:List Int)(con:Int):NS:=q7 A T (cJ lits lits.length) (T.lits.length+1) ⟨[],true⟩ con 0
def q8(T:Tr)(at':List (Int×Int))(con:Int):List Int:=if con∈eu T at' T.lits.length then eu T at' T.lits.length else eu T at' T.lits.length++[con]
def q9(A:Ar)(T:Tr)(lits:List Int)(con:Int):List Int×Bool:=
 if iW A con=0 then([],false)else if(lX A T lits con).ok=false then([],false)else(q8 T (lX A T lits con).at' con,true)
set_option maxRecDepth 16000 in
theorem H0(A:Ar)(T:Tr)(lits:List Int)(con:Int)(j:AheadOk A T)(hp:∀l,pla T l<T.lits.length)(B:lits.length<=1000000)(z:T.lits.length<=1000000):
 am Tryz.prog 94 [lW A,bM T,.seq false 1 (aa lits),ae con] (λr=>r=.pv (.tup [.seq true 1 (aa (q9 A T lits con).1),BL (q9 A T lits con).2])):=by
 refine am.wk (R:=λr=>∃x,r=.pv x∧bu x (.tup [.seq true 1 (aa (q9 A T lits con).1),BL (q9 A T lits con).2])) ?_ (λr ⟨x,e,h⟩=>⟨x,_,e,h,rfl⟩);refine mq [] [.tmp 8,.tmp 9] aE Tryz.func94 ?_;have p:=xb A j.hd j.ar j.len con;have b:=KV A T (cJ lits lits.length) j T.lits.length con 0 ⟨[],true⟩ (λy _ _=>hp y);have v:=fo T z;obtain⟨H,c⟩:∃H,q9 A T lits con=H:=⟨_,rfl⟩;rw[c];unfold q9 at c;have w:q7 A T (cJ lits lits.length) (T.lits.length+1) ⟨[],true⟩ con 0=lX A T lits con:=rfl;rw[w]at b;generalize lX A T lits con=N at*;simp;refine aP.intro (λ_=>p) ?_
 by_cases m:iW A con=0
 .rw[Rx m]at c;subst c;simp[m,bu,bd,aa]
 rw[Rw m]at c;simp[m];refine aw.intro (S:=λ(i:Nat)=>⟨[(0,.pv (lW A)),(1,.pv (bM T)),(2,.pv (.seq false 1 (aa lits))),(3,.pv (ae con)),(10,.pv (.ptr 0 0)),(35,.pv (.seq false 1 (aa lits))),(36,.pv (ae lits.length)),(37,.pv (ae i))],[sW A T (cJ lits i) ⟨[],true⟩]⟩) (λi=>i<=lits.length) (λi=>lits.length -i) 0 ?_ (RL _) ?_
 .exact ah.to (by simp) (by simp[sW,cJ]) (by simp) (by simp) (by simp[dW])
 intro i hi
 by_cases h:i<lits.length
 .have o:=dr i;have n:lits.getD i 0=lits[i]:=by rw[Rv,Ru h];rfl
  have hle:=pm lits i lits[i];have t:aS ((lk (cJ lits i) lits[i]).getD 0+1)=(lk (cJ lits i) lits[i]).getD 0+1:=ap (by omega) (by omega);have a:cJ lits (i+1)=pt (cJ lits i) lits[i] ((lk (cJ lits i) lits[i]).getD 0+1):=by rw[cJ,n]
  simp[h,sW];refine⟨i+1,by(try dsimp only);omega,by(try dsimp only);omega,ah.to (by simp[o]) (by simp[sW,a,t]) (by simp) (by simp) (by simp[dW])⟩
 have g:i=lits.length:=by omega
 subst g;simp only[sW]at b;simp[sW];refine aj.intro b ?_;rintro _ _ ⟨rfl,rfl⟩;cases c1:N.ok
 .rw[Rx c1]at c;subst c;simp[c1,bu,bd,aa]
 rw[Rw (by simp[c1])]at c;subst c;simp[c1];refine ai.intro v ?_;simp;refine aw.intro (S:=λ(i:Nat)=>⟨[(1,.pv (bM T)),(3,.pv (ae con)),(10,.pv (.ptr 0 0)),(13,.own true 1 (aa (eu T N.at' i))),(58,.own true 1 (aa T.lits)),(59,.pv (ae T.lits.length)),(60,.pv (ae i))],[sW A T (cJ lits lits.length) N]⟩) (λi=>i<=T.lits.length) (λi=>T.lits.length -i) 0 ?_ (RL _) ?_
 .exact(ah.nilOwn (s:=13) 1 true (by simp)).trans (ah.to (by simp[eu,aa]) (by simp[sW,c1]) (by simp) (by simp) (by simp[dW]))
 intro i hi;have hle:=sY T N.at' i
 by_cases h:i<T.lits.length
 .have o:=dr i;have n:T.lits.getD i 0=T.lits[i]:=by rw[Rv,Ru h];rfl
  have k:=gt T (af T.lits[i]) j.tr;have q:(dE T (af T.lits[i])).1.rea=rea T T.lits[i]:=rfl;rw[q]at k;have a:eu T N.at' (i+1)=if HZ T N.at' (eu T N.at' i) i=true then eu T N.at' i++[rea T T.lits[i]]else eu T N.at' i:=by rw[eu,n]
  have u:HZ T N.at' (eu T N.at' i) i=(decide (0<(lk N.at' (i:Int)).getD 0)&&!decide (rea T T.lits[i]∈eu T N.at' i)):=by unfold HZ;rw[n];rfl
  have f:=jn (eu T N.at' i) (rea T T.lits[i]) (by omega);simp[h,sW];refine ai.intro (aI T.lits[i]) ?_;simp;refine ai.intro k ?_;simp;refine aP.intro (λ_=>f) ?_
  by_cases d:0<(lk N.at' (i:Int)).getD 0∧¬rea T T.lits[i]∈eu T N.at' i
  .rw[Rx (by rw[u];simp[d])]at a;simp[d];refine⟨by omega,i+1,by(try dsimp only);omega,by(try dsimp only);omega,ah.to (by simp[o,a,aa]) (by simp[sW]) (by simp) (by simp) (by simp[dW])⟩
  .rw[Rw (by rw[u];simpa using d)]at a;simp[d];refineλ_=>⟨i+1,by(try dsimp only);omega,by(try dsimp only);omega,ah.to (by simp[o,a]) (by simp[sW]) (by simp) (by simp) (by simp[dW])⟩
 have g:i=T.lits.length:=by omega
 subst g;have f:=jn (eu T N.at' T.lits.length) con (by omega);unfold q8;generalize eu T N.at' T.lits.length=O at*;simp;refine ai.intro f ?_
 by_cases d:con∈O
 .simp[d,bu,bd]
 .simp[d,bu,bd,aa];omega
end Go.AX
namespace Go.AX
set_option maxRecDepth 16000
open Go.Proofs
set_option linter.unusedSimpArgs false
theorem ze(T:Tr)(out:List Int):∀i,(cI T out i).2.1<=i∧((cI T out i).2.1=0∨(cI T out i).2.2<i)∧(cI T out i).2.2<=i
 |0=>⟨Ry _,.inl rfl,Ry _⟩
 |i+1=>by
  have a:=ze T out i;rw[cI];split
  .exact⟨by dsimp only;omega,.inr (by dsimp only;omega),by dsimp only;omega⟩
  .split
   .refine⟨by dsimp only;omega,?_,by dsimp only;omega⟩;dsimp only;rename_i c1 c2;rcases a.2.1 with e|e
    .exact .inr (by omega)
    .exact .inr (by omega)
   .exact⟨by omega,a.2.1.imp id (λe=>by omega),by omega⟩
theorem Fg(T:Tr)(lits:List Int)(ht:T.ok)(y:lits.length<=1000000):am Tryz.prog 163 [bM T,.seq false 1 (aa lits)] (λr=>r=.own true 1 (aa (HQ T lits))):=by
 refine aq aE Tryz.func163 ?_;have w:=KF lits y;have z:=EM lits;unfold HQ HP;generalize eO lits=out at*;simp;refine ai.intro w ?_;simp;refine aw.intro (S:=λ(i:Nat)=>⟨[(0,.pv (bM T)),(5,.own true 1 (aa out)),(6,.pv (ae (cI T out i).1)),(7,.pv (ae (cI T out i).2.1)),(8,.pv (ae (cI T out i).2.2)),(15,.al (.slot 5)),(16,.pv (ae out.length)),(17,.pv (ae i))],[]⟩) (λi=>i<=out.length) (λi=>out.length -i) 0 ?_ (RL _) ?_
 .exact ah.to (by simp[cI]) (by simp) (by simp) (by simp) (by simp)
 intro i hi;obtain⟨t,v,a3⟩:=ze T out i
 by_cases h:i<out.length
 .have f:=dr i;have k:out.getD i 0=out[i]:=by rw[Rv,Ru h];rfl
  have m:=fM T (af out[i]) ht;have a:cI T out (i+1)=if(cI T out i).1<(dE T (af out[i])).1.lev then((dE T (af out[i])).1.lev,1,i)else if(dE T (af out[i])).1.lev=(cI T out i).1 then((cI T out i).1,(cI T out i).2.1+1,(cI T out i).2.2)else cI T out i:=by rw[cI,k];rfl
  have p:=dr ((cI T out i).2.1);simp[h];refine ai.intro (aI out[i]) ?_;simp;refine ai.intro m ?_
  by_cases c1:(cI T out i).1<(dE T (af out[i])).1.lev
  .rw[Rx c1]at a;simp[c1];refine⟨i+1,by(try dsimp only);omega,by(try dsimp only);omega,ah.to (by simp[f,a]) (by simp) (by simp) (by simp) (by simp)⟩
  rw[Rw c1]at a
  by_cases c2:(dE T (af out[i])).1.lev=(cI T out i).1
  .rw[Rx c2]at a;simp[c1,c2];refine⟨i+1,by(try dsimp only);omega,by(try dsimp only);omega,ah.to (by simp[f,a,p]) (by simp) (by simp) (by simp) (by simp)⟩
  .rw[Rw c2]at a;simp[c1,c2];refine⟨i+1,by(try dsimp only);omega,by(try dsimp only);omega,ah.to (by simp[f,a]) (by simp) (by simp) (by simp) (by simp)⟩
 have l:i=out.length:=by omega
 subst l;clear hi h;generalize cI T out out.length=s at*;obtain⟨top,many,at'⟩:=s;dsimp only at t v a3⊢
 by_cases c:many=1
 rotate_left
 .have c':¬(many:Int)=1:=by omega
  simp[c,c']
 subst c;have b:at'<out.length:=by omega
 have k:out.getD at' 0=out[at']:=by rw[Rv,Ru b];rfl
 have f:=dr (at');simp only[Rx,k];simp[b,f];have d:(out.take at'++out.drop (at'+1)++List.replicate (at'+1 -at') 0).length=out.length:=by simp;omega
 have g:out.length -(at'+1 -at')=out.length -1:=by omega
 have q:=zd Tryz.dlaA out at' (at'+1) (by omega) (by omega) (by kernel_rfl);rw[g]at q;refine ai.introX (bC.introW (ps:=.slot 5) (hi:=out.length) q d (by omega) (λe=>by rw[e]at b;simp at b) (by simp) rfl rfl (by simp) (by simp) rfl (by simp) (by simp) ?_);have n:(out.take at'++out.drop (at'+1)).length=out.length -1:=by simp;omega
 have o:(out.take at'++out.drop (at'+1)++List.replicate (at'+1 -at') 0).take (out.length -1)=out.eraseIdx at':=by
  rw[TI n,List.eraseIdx_eq_take_drop_succ]
 have j:(out.take at'++out.drop (at'+1)++List.replicate (at'+1 -at') 0).drop (out.length -1+1)=[]:=R2 (by rw[d];omega);generalize out.take at'++out.drop (at'+1)++List.replicate (at'+1 -at') 0=dl at*;generalize out[at']=u at*;simp;refine ai.introX (bC.introI (ps:=.slot 5) (py:=.slot 51) (hi:=out.length -1) (zs:=dl) (x:=u) Tryz.insA (by kernel_rfl) (by simp) rfl rfl (by simp) (by simp) (by simp) (by simp) (by simp) (by simp) rfl (by decide) rfl (by omega) ?_);rw[o,j];simp;exact SA (by rw[gv,R0,List.length_eraseIdx_of_lt b];omega)
def MU(A:Ar)(T:Tr):List SV:=[.pv (lW A),.pv (bM T),.omap true (a8 fI []),.pv (.lit (.slice none 0 0)),.pv (ae 0)]
theorem Fh(A:Ar)(T:Tr)(q but:Int)(ht:T.ok)(h0:A.hd≠[])(hk:lr A)(m:A.row.length<=1000000):
 aB Tryz.prog 161 [.ptr 0 0,ae q,ae but] [MU A T] (λr h'=>h'=[iV A T (dx T but (av A q) ⟨[],[],0⟩)]∧r=.pv (.tup [])):=by
 obtain⟨p,hp⟩:∃p:PS,p=⟨[],[],0⟩:=⟨_,rfl⟩;rw[←hp];have o:p.many=0:=by rw[hp]
 have n:p.lits.length=0:=by rw[hp];rfl
 refine iH [] [] [iV A T (dx T but (av A q) p)] (by simp) (λ_=>⟨aR _ _ _ _,trivial⟩) aE Tryz.func161 ?_;have l:=jV A h0 hk m q;have t:=fO A hk q;generalize av A q=c at*;simp[MU];refine ai.intro l ?_;simp;refine aw.intro (S:=λ(i:Nat)=>⟨[(0,.pv (.ptr 0 0)),(2,.pv (ae but)),(6,.pv (.fn (.func 170) [bM T] [])),(20,.own true 1 (aa c)),(21,.pv (ae c.length)),(22,.pv (ae i))],[iV A T (dx T but (c.take i) p)]⟩) (λi=>i<=c.length) (λi=>c.length -i) 0 ?_ (RL _) ?_
 .exact(ah.nilCell (b:=0) (k:=3) (xs:=MU A T) 1 true (by simp[MU]) (by simp[MU])).trans (ah.to (by simp) (by simp[iV,MU,dx,hp,aa]) (by simp) (by simp) (by simp[aR]))
 intro i hi
 by_cases h:i<c.length
 rotate_left
 .have g:i=c.length:=by omega
  subst g;simp[iV,fX]
 have f:=dr i;have hs:=sT T but c p h;have hle:=jX T but (c.take i) p;rw[RD]at hle;generalize dx T but (c.take i) p=s at*;have d:=fM T (af c[i]) ht;simp[h,iV];refine ai.intro (aI c[i]) ?_;simp;refine aP.intro (λ_=>d) ?_
 by_cases c1:af c[i]=but
 .have hd:takeF T but s c[i]=s:=by unfold takeF;rw[Rx (.inl c1)]
  simp[c1];refine⟨i+1,by(try dsimp only);omega,by(try dsimp only);omega,ah.to (by simp[f]) (by simp[iV,hs,hd]) (by simp) (by simp) (by simp[aR])⟩
 by_cases c2:0<(lk s.seen (af c[i])).getD 0
 .have hd:takeF T but s c[i]=s:=by unfold takeF;rw[Rx (.inr (.inl (by simpa[aC]using c2)))]
  simp[c1,c2];refine⟨i+1,by(try dsimp only);omega,by(try dsimp only);omega,ah.to (by simp[f]) (by simp[iV,hs,hd]) (by simp) (by simp) (by simp[aR])⟩
 have a:(lk s.seen (af c[i])).getD 0<=0:=by omega
 by_cases c3:(dE T (af c[i])).1.lev<=0
 .have hd:takeF T but s c[i]=s:=by unfold takeF;rw[Rx (.inr (.inr c3))]
  simp[c1,c2,a,c3];refine⟨i+1,by(try dsimp only);omega,by(try dsimp only);omega,ah.to (by simp[f]) (by simp[iV,hs,hd]) (by simp) (by simp) (by simp[aR])⟩
 have hd:takeF T but s c[i]=if(dE T (af c[i])).1.lev=T.beg.length then⟨pt s.seen (af c[i]) 1,s.lits,s.many+1⟩else⟨pt s.seen (af c[i]) 1,s.lits++[c[i]],s.many⟩:=by
  unfold takeF;rw[Rw]
  .rfl
  rintro(e|e|e)
  .exact c1 e
  .exact c2 (by simpa[aC]using e)
  .exact c3 e
 simp[c1,c2,a,c3];refine br.intro d ?_;simp;refine br.intro (jU T) ?_
 by_cases c4:(dE T (af c[i])).1.lev=T.beg.length
 .rw[Rx c4]at hd;have j:=dr s.many;simp[c4];refine⟨i+1,by(try dsimp only);omega,by(try dsimp only);omega,ah.to (by simp[f]) (by simp[iV,hs,hd,j]) (by simp) (by simp) (by simp[aR])⟩
 .rw[Rw c4]at hd;simp[c4];refine⟨by omega,i+1,by(try dsimp only);omega,by(try dsimp only);omega,ah.to (by simp[f]) (by simp[iV,hs,hd,aa]) (by simp) (by simp) (by simp[aR])⟩
def lw(A:Ar)(T:Tr)(con:Int):Int:=if iW A con=0 then 20 else if ow T (av A con)=false then 30 else 0
def qd(A:Ar)(T:Tr)(con:Int):List Int:=if lw A T con=0 then dw A T con else[]
end Go.AX
namespace Go.AX
open Go.Proofs
set_option linter.unusedSimpArgs false
structure DeskI (cs:List (List Int)) (ats:List Int) (D:DK):Prop extends DeskT cs ats D where
  id:∀x∈D.a.rows,1<=x.id
/-! ### What was gathered -/
structure NI (D:DK) (L:List Int) (s:NS):Prop where
  val:∀p,0<=(lk s.at' p).getD 0
  mem:∀p,aC s.at' p=true->∃j,∃hj:j<D.t.rows.length,p=(j:Int)∧0<=D.t.rows[j].rea∧-D.t.rows[j].l∉L
def Met(D:DK)(L:List Int)(s:NS)(y:Int):Prop:=y∈L∨∃j,∃hj:j<D.t.rows.length,D.t.rows[j].l=-y∧aC s.at' j=true
structure Post (D:DK) (L:List Int) (s s':NS) (c:List Int) (but:Int):Prop where
  ni:NI D L s'
  mono:∀p,aC s.at' p=true->aC s'.at' p=true
  all:s'.ok=true->s.ok=true∧(∀y∈c,y≠but->Met D L s' y)∧∀j (hj:j<D.t.rows.length),aC s'.at' j=true->aC s.at' j=false->∀y∈av D.A D.t.rows[j].rea,y≠D.t.rows[j].l->Met D L s' y
  ok:(∀y∈c,y≠but->HOk D.A D.T L y)->s'.ok=s.ok
theorem Met.mono{D:DK}{L:List Int}{s s':NS}{y:Int}(h:Met D L s y)(c:∀p,aC s.at' p=true->aC s'.at' p=true):Met D L s' y:=
 h.imp id λ⟨j,hj,a,b⟩=>⟨j,hj,a,c _ b⟩
def fg(l:List Int):List (List Int)->Nat->List Int×Nat×Int
 |[],n=>(l,n,23)
 |h::hs,n=>if pN l h=-1 then(l,n+1,0)else if(bD l h).2=true then fg (l++[(bD l h).1]) hs (n+1)else([],n,22)
def ju(c:List Int):Nat->List Int
 |0=>[]
 |i+1=>if c.getD i 0∈c.take i then ju c i else ju c i++[aS (-(c.getD i 0))]
theorem vk(c:List Int)(x:Int):∀i,i<=c.length->(x∈ju c i↔∃y∈c.take i,x=aS (-y))
 |0,_=>by simp[ju]
 |i+1,h=>by
  have b:=vk c x i (by omega);have d:c.getD i 0=c[i]:=by rw[Rv,Ru (by omega)];rfl
  have ht:c.take (i+1)=c.take i++[c[i]]:=(TH (by omega)).symm;rw[ju,d,ht]
  by_cases e:c[i]∈c.take i
  .rw[Rx e,b];constructor
   .rintro⟨y,hy,a⟩;exact⟨y,SJ _ hy,a⟩
   .rintro⟨y,hy,a⟩;rcases RI.1 hy with hy|hy
    .exact⟨y,hy,a⟩
    .simp at hy;subst hy;exact⟨_,e,a⟩
  .rw[Rw e,RI,b,Sc];constructor
   .rintro(⟨y,hy,a⟩|a)
    .exact⟨y,SJ _ hy,a⟩
    .exact⟨_,TJ _ (Sc.2 rfl),a⟩
   .rintro⟨y,hy,a⟩;rcases RI.1 hy with hy|hy
    .exact .inl ⟨y,hy,a⟩
    .simp at hy;subst hy;exact .inr a
def gi(c:List Int):List Int:=ju c c.length
theorem pn(c:List Int)(x:Int):x∈gi c↔∃y∈c,x=aS (-y):=by
 have:=vk c x c.length (Ry _)
 rwa [RY]at this
def AllNeg(D:DK)(L:List Int):Prop:=∀y∈L,ax y 6=0∧∃j,∃hj:j<D.t.rows.length,D.t.rows[j].l=-y
def rj(D:DK)(j:Nat):Int:=rea D.T (D.T.lits.getD j 0)
theorem gx{t:RT}{j:Nat}(hj:j<t.rows.length):t.rows[j].l∈dO t:=RE.2 ⟨_,Rz hj,rfl⟩
def Fi(s:NS)(i:Nat):List Nat:=(List.range i).filter λj=>aC s.at' j
theorem H9(s:NS)(i:Nat):Fi s (i+1)=if aC s.at' i=true then Fi s i++[i]else Fi s i:=by
 unfold Fi;rw[Ur,SO]
 by_cases c:aC s.at' i=true
 .rw[Rx c,Sn,Rx c];rfl
 .rw[Rw c,Sn,Rw c];simp
theorem xc(s:NS)(i j:Nat):j∈Fi s i↔j<i∧aC s.at' j=true:=by
 unfold Fi;rw[Ss,SK]
structure CInv (D:DK) (L:List Int) (s:NS) (l:List Int) (js:List Nat):Prop where
  sub:∀x∈l,x∈dO D.t
  neg:∀y∈L,-y∈l
  don:∀j (hj:j<D.t.rows.length),aC s.at' j=true->j∉js->D.t.rows[j].l∈l
  todo:∀j∈js,∃hj:j<D.t.rows.length,aC s.at' j=true∧D.t.rows[j].l∉l
  inc:js.Pairwise (·<·)
end Go.AX
namespace Go.AX
set_option maxRecDepth 16000
open Go.Proofs
set_option linter.unusedSimpArgs false
def Fj(l h:List Int):List Int×Bool×Int:=if pN l h=-1 then(l,true,0)else if(bD l h).2=true then(l++[(bD l h).1],false,0)else([],false,22)
theorem zf(g:List (List SV))(l h:List Int)(b:l.length<=1000000)(a:h.length<=1000000):aB Tryz.prog 327 [.seq false 1 (aa l),.seq false 1 (aa h)] g (λr g'=>g'=g∧r=.pv (.tup [.seq false 1 (aa (Fj l h).1),BL (Fj l h).2.1,ae (Fj l h).2.2])):=by
 refine dQ [] [.tmp 4,.tmp 5,.tmp 6] aE Tryz.func327 ?_;have c:=lq l h b a;have d:=oi l h b a;unfold Fj;simp;refine ai.intro c ?_
 by_cases c1:pN l h=-1
 .simp[c1,bu,bd]
 simp[c1];refine ai.intro d ?_;cases c2:(bD l h).2
 .simp[c2,bu,bd,aa]
 .simp[c2,bu,bd,aa];omega
theorem zg(hs:List (List Int)){i:Nat}(h:i<hs.length):∀h',(hs.map ao)[i]'h'=[.seq false 1 (aa hs[i])]:=λh'=>by simp[ao]
theorem lz(g:List (List SV))(l:List Int)(hs:List (List Int))(p:l.length+hs.length<=1000000)(o:∀h∈hs,h.length<=1000000):aB Tryz.prog 309 [.seq false 1 (aa l),.seq false 1 (hs.map ao)] g (λr g'=>g'=g∧r=.pv (.tup [.seq false 1 (aa (fg l hs 0).1),ae (fg l hs 0).2.1,ae (fg l hs 0).2.2])):=by
 refine dQ [] [.tmp 4,.tmp 5,.tmp 6] aE Tryz.func309 ?_;generalize a:fg l hs 0=F;simp;refine aw.intro (S:=λ(x:Nat×List Int)=>⟨[(0,.pv (.seq false 1 (aa x.2))),(1,.pv (.seq false 1 (hs.map ao))),(7,.pv (ae x.1))],g⟩) (λx=>x.1<=hs.length∧x.2.length<=l.length+x.1∧F=fg x.2 (hs.drop x.1) x.1) (λx=>hs.length -x.1) (0,l) ?_ ⟨RL _,Ry _,a.symm⟩ ?_
 .exact ah.keep (by simp) (by simp)
 clear a;rintro⟨i,b⟩ ⟨hi,k,a⟩;dsimp only at hi k a
 by_cases h:i<hs.length
 rotate_left
 .have j:i=hs.length:=by omega
  subst j;rw[R2 (Ry _),fg]at a;subst a;simp[bu,bd]
 have n:=dr i;have f:hs.drop i=hs[i]::hs.drop (i+1):=R8 h;rw[f,fg]at a;have m:=λg=>zf g b hs[i] (by omega) (o _ (Rz h));have e:=zg hs h;generalize hs[i]=c at*;have d:Fj b c=if pN b c=-1 then(b,true,0)else if(bD b c).2=true then(b++[(bD b c).1],false,0)else([],false,22):=rfl;generalize Fj b c=s at*;simp[h,e];refine ai.introM (m _) ?_;rintro _ _ ⟨rfl,rfl⟩
 by_cases c1:pN b c=-1
 .rw[Rx c1]at a d;subst a d;simp[bu,bd,n]
 rw[Rw c1]at a d
 by_cases c2:(bD b c).2=true
 .rw[Rx c2]at a d;subst d;simp;refine⟨(i+1,b++[(bD b c).1]),by(try dsimp only);omega,⟨by(try dsimp only);omega,by simp;omega,a⟩,ah.keep (by simp[n]) (by simp)⟩
 .rw[Rw c2]at a d;subst a d;simp[bu,bd,aa]
def Ia(c:List Int):Bool:=c.any λx=>decide (aW x<0)
def lY(c:List Int):Int:=if Ia c=true then 10 else if fh c=true then 11 else 0
def Fk(c:List Int):List Int:=if lY c=0 then gi c else[]
theorem po(c:List Int):∀i,(ju c i).length<=i
 |0=>Ry _
 |i+1=>by
  have:=po c i;rw[ju];split
  .omega
  .simp;omega
theorem pq(c:List Int)(q:c.length<=1000000):am Tryz.prog 308 [.seq false 1 (aa c)] (λr=>r=.pv (.tup [.seq true 1 (aa (Fk c)),ae (lY c)])):=by
 refine am.wk (R:=λr=>∃x,r=.pv x∧bu x (.tup [.seq true 1 (aa (Fk c)),ae (lY c)])) ?_ (λr ⟨x,e,h⟩=>⟨x,_,e,h,rfl⟩);refine mq [] [.tmp 2,.tmp 3] aE Tryz.func308 ?_;have b:lY c=if Ia c=true then 10 else if fh c=true then 11 else 0:=rfl;have f:Fk c=if lY c=0 then gi c else[]:=rfl;have n:=oc c q;generalize Fk c=R at*;generalize lY c=E at*;simp;refine aw.intro (S:=λ(i:Nat)=>⟨[(0,.pv (.seq false 1 (aa c))),(4,.pv (ae i))],[]⟩) (λi=>i<=c.length∧∀j (h:j<c.length),j<i->0<=aW c[j]) (λi=>c.length -i) 0 ?_ ⟨RL _,λj _ h=>by omega⟩ ?_
 .exact ah.to (by simp) (by simp) (by simp) (by simp) (by simp)
 rintro i ⟨hi,ho⟩
 by_cases h:i<c.length
 .have k:=dr i;simp[h];refine ai.intro (dM c[i]) ?_
  by_cases c1:aW c[i]<0
  .have g:Ia c=true:=Ti.2 ⟨_,Rz h,by simpa using c1⟩;rw[Rx g]at b;subst b;rw[Rw (by omega)]at f;subst f;simp[c1,bu,bd,aa]
  .simp[c1];refine⟨i+1,by(try dsimp only);omega,⟨by(try dsimp only);omega,λj hj p=>?_⟩,ah.to (by simp[k]) (by simp) (by simp) (by simp) (by simp)⟩
   by_cases e:j=i
   .subst e;omega
   .exact ho j hj (by omega)
 have d:i=c.length:=by omega
 subst d;have g:Ia c=false:=Tp.2 λx hx=>by
  obtain⟨j,hj,rfl⟩:=RJ hx;have:=ho j hj hj;simp;omega
 rw[Rw (by simp[g])]at b;clear ho g hi h;simp;refine ai.intro n ?_;cases c2:fh c
 rotate_left
 .rw[Rx c2]at b;subst b;rw[Rw (by omega)]at f;subst f;simp[bu,bd,aa]
 rw[Rw (by simp[c2])]at b;subst b;rw[Rx rfl]at f;subst f;simp;refine aw.intro (S:=λ(i:Nat)=>⟨[(0,.pv (.seq false 1 (aa c))),(5,.own true 1 (aa (ju c i))),(6,.pv (ae i))],[]⟩) (λi=>i<=c.length) (λi=>c.length -i) 0 ?_ (RL _) ?_
 .exact(ah.nilOwn (s:=5) 1 true (by simp)).trans (ah.to (by simp[ju,aa]) (by simp) (by simp) (by simp) (by simp))
 intro i hi;have hle:=po c i
 by_cases h:i<c.length
 rotate_left
 .have d:i=c.length:=by omega
  subst d;simp[bu,bd,gi]
 have k:=dr i;have o:c.getD i 0=c[i]:=by rw[Rv,Ru h];rfl
 have a:ju c (i+1)=if c[i]∈c.take i then ju c i else ju c i++[aS (-c[i])]:=by rw[ju,o]
 have m:=jO (c.take i) c[i] (by simp;omega);have l:(aa c).take i=aa (c.take i):=by unfold aa;rw[TG]
 simp[h,l];refine⟨by omega,?_⟩;refine br.intro m ?_
 by_cases c3:c[i]∈c.take i
 .rw[Rx c3]at a;simp[c3];refine⟨i+1,by(try dsimp only);omega,by(try dsimp only);omega,ah.to (by simp[k,a]) (by simp) (by simp) (by simp) (by simp)⟩
 .rw[Rw c3]at a;simp[c3,h];refine⟨by omega,i+1,by(try dsimp only);omega,by(try dsimp only);omega,ah.to (by simp[k,a,aa]) (by simp) (by simp) (by simp) (by simp)⟩
def ra(c:List Int)(hs:List (List Int)):Nat×Int:=if lY c=0 then((fg (gi c) hs 0).2.1,(fg (gi c) hs 0).2.2)else(0,lY c)
theorem zh(c:List Int)(hs:List (List Int))(f:c.length+hs.length<=1000000)(e:∀h∈hs,h.length<=1000000):am Tryz.prog 260 [.seq false 1 (aa c),.seq false 1 (hs.map ao)] (λr=>r=.pv (.tup [ae (ra c hs).1,ae (ra c hs).2])):=by
 refine jG [4,5] aE Tryz.func260 (λ_ _=>results_tmp2 rfl _ _ _) ?_;have d:=pq c (by omega);have hle:=po c c.length;have b:=λg=>lz g (gi c) hs (by unfold gi;omega) e;unfold ra;have a:Fk c=if lY c=0 then gi c else[]:=rfl;simp;refine ai.intro d ?_
 by_cases c1:lY c=0
 .rw[Rx c1]at a;rw[a];simp[c1];refine ai.introM (b _) ?_;rintro _ _ ⟨rfl,rfl⟩;simp
 .simp[c1]
end Go.AX
namespace Go.AX
open Go.Proofs
set_option linter.unusedSimpArgs false
def KW(l:List Int)(x:Int):Int:=if x∈l then 1 else if aS (-x)∈l then-1 else 0
theorem xd(l:List Int)(x:Int):(0<(lk (cJ l l.length) x).getD 0)=(x∈l):=by
 have:=sX l x l.length (Ry _);rw[RY]at this;unfold aC at this;rw[RP]at this;exact propext this
def BJ(n:Nat):PV:=.fn (.func 200) [] [.ptr n 0]
theorem BK(l:List Int)(x:Int):am Tryz.prog 200 [ae x,.iptr 1 [[.amap false (a8 fI (cJ l l.length))]] 0 0] (λr=>r=.pv (ae (KW l x))):=by
 refine aq aE Tryz.func200 ?_;unfold KW
 by_cases c1:x∈l
 .simp[xd,c1]
 .by_cases c2:aS (-x)∈l
  .simp[xd,c1,c2]
  .simp[xd,c1,c2]
set_option maxRecDepth 16000 in
theorem Fl(h:List (List SV))(l:List Int)(g:l.length<=1000000):aB Tryz.prog 120 [.seq false 1 (aa l)] h (λr h'=>h'=h++[[.omap true (a8 fI (cJ l l.length))]]∧r=.pv (BJ h.length)):=by
 refine aB.below (by kernel_rfl) λf=>?_;refine cO [] [.tmp 2] aE Tryz.func120 ?_;simp;refine aw.intro (S:=λ(i:Nat)=>⟨[(3,.pv (.ptr h.length 0)),(9,.pv (.seq false 1 (aa l))),(10,.pv (ae l.length)),(11,.pv (ae i))],h++[[.omap true (a8 fI (cJ l i))]]⟩) (λi=>i<=l.length) (λi=>l.length -i) 0 ?_ (RL _) ?_
 .exact ah.keep (by simp) (by simp[cJ])
 intro i hi
 by_cases c:i<l.length
 .have d:=dr i;have b:l.getD i 0=l[i]:=by simp[c]
  have hs:cJ l (i+1)=pt (cJ l i) l[i] ((lk (cJ l i) l[i]).getD 0+1):=by rw[cJ,b]
  have e:=pm l i l[i];have a:aS ((lk (cJ l i) l[i]).getD 0+1)=(lk (cJ l i) l[i]).getD 0+1:=ap (by omega) (by omega);simp[c];exact⟨i+1,by(try dsimp only);omega,by(try dsimp only);omega,ah.keep (by simp[d]) (by simp[a,hs])⟩
 .have:i=l.length:=by omega
  subst this;simp[BJ]
def lC(T:Tr):Tr:=⟨T.marks.set (af (T.lits.getD (T.lits.length -1) 0)).toNat ⟨0,0,0,0⟩,T.lits.take (T.lits.length -1),T.beg⟩
def popN(T:Tr):Nat->Tr
 |0=>T
 |j+1=>lC (popN T j)
def bz(T:Tr)(k:Nat):Tr:=⟨(popN T (T.lits.length -(T.beg.getD k 0).toNat)).marks,(popN T (T.lits.length -(T.beg.getD k 0).toNat)).lits,T.beg.take k⟩
set_option maxRecDepth 16000 in
theorem B9(h:List (List SV))(n b:Nat)(T:Tr)(hn:h[n]?=some [.pv (.ptr b 0)])(s:h[b]?=some (gr T))(h0:T.lits≠[])(hs:T.lits.length<=1000000)(D:∀y∈T.lits,0<=af y∧af y<T.marks.length):
 aB Tryz.prog 265 [.ptr n 0] h (λr h'=>h'=h.set b (gr (lC T))∧r=.pv (ae (T.lits.getD (T.lits.length -1) 0))):=by
 refine iH [] [.tmp 1] (h.set b (gr (lC T))) (by simp) (λd=>by rw[R5];exact dN (iI _ _) b d) aE Tryz.func265 ?_;obtain⟨p,k⟩:=Rt.1 s;obtain⟨g,q⟩:=Rt.1 hn;obtain⟨m,B⟩:∃m,T.lits.length=m+1:=⟨T.lits.length -1,by have:=Td.2 h0;omega⟩;have a:m<T.lits.length:=by omega
 have C:aS ((T.lits.length:Int) -1)=(m:Int):=by rw[ap (by omega) (by omega)];omega
 have A:T.lits.getD (T.lits.length -1) 0=T.lits[m]:=by rw[B,UN,Rv,Ru a];rfl
 rw[A];have w:n≠b:=λe=>by subst e;rw[hn]at s;simp[gr]at s
 have t:∀x,(h.set b x)[n]?=some [.pv (.ptr b 0)]:=λx=>by rw[RN (UK w)];exact hn
 have c:∀x d,(h.set b x)[n]'d=[.pv (.ptr b 0)]:=λx d=>by have:=t x;rw[Ru d]at this;exact TL this
 have l:∀x d,(h.set b x)[b]'d=x:=λx d=>by simp
 obtain⟨E,F⟩:=D _ (Rz a);have j:=aI T.lits[m];obtain⟨i,hi⟩:∃i:Nat,af T.lits[m]=(i:Int):=⟨(af T.lits[m]).toNat,by omega⟩;have u:i<T.marks.length:=by omega
 have v:(T.marks.map pM).set i [ae 0,ae 0,ae 0,ae 0]=(T.marks.set i ⟨0,0,0,0⟩).map pM:=by rw[V6];rfl
 have f:(aa T.lits).take m=aa (T.lits.take m):=by unfold aa;rw[TG]
 have z:lC T=⟨T.marks.set i ⟨0,0,0,0⟩,T.lits.take m,T.beg⟩:=by unfold lC;rw[A,hi,SF,B,UN]
 have o:m<=T.lits.length:=by omega
 rw[z];rw[hi]at j;simp[k,q,p,g,gr,C,c,l,a,o,f];refine br.intro j ?_;simp[k,q,p,g,gr,C,c,l,a,o,f,u,v];rw[SA (by simp)];simp[pM]
theorem FC(h:List (List SV))(b:Nat):
 aB Tryz.prog 211 [.ptr b 0] h (λr h'=>h'=h++[[.pv (.ptr b 0)]]∧r=.pv (.fn (.func 265) [] [.ptr h.length 0])):=by
 refine cO [] [.tmp 2] aE Tryz.func211 ?_;simp
theorem tx(T:Tr):∀j,(popN T j).beg=T.beg
 |0=>rfl
 |j+1=>tx T j
theorem DE(T:Tr):∀j,(popN T j).marks.length=T.marks.length
 |0=>rfl
 |j+1=>by rw[popN];unfold lC;rw[R5];exact DE T j
theorem d9(T:Tr):∀j,(popN T j).lits=T.lits.take (T.lits.length -j)
 |0=>by rw[popN,VO,RY]
 |j+1=>by
  rw[popN];unfold lC;simp only;rw[d9 T j,Wb,RD,show min (min (T.lits.length -j) T.lits.length -1) (T.lits.length -j)=T.lits.length -(j+1) by omega]
def tz(T:Tr):Nat->List Int
 |0=>[]
 |j+1=>tz T j++[(popN T j).lits.getD ((popN T j).lits.length -1) 0]
theorem tA(T:Tr):∀j,(tz T j).length=j
 |0=>rfl
 |j+1=>by rw[tz,RF,tA T j];rfl
/-! ### Levels, in order, each once -/
theorem zU{zs:List Int}(hs:zs.Pairwise (·<=·)):∀j,j<=zs.length->(aJ zs j).Pairwise (·<·)∧∀x,x∈aJ zs j↔x∈zs.take j
 |0,_=>⟨by simp[aJ],λx=>by simp[aJ]⟩
 |j+1,h=>by
  obtain⟨h1,b⟩:=zU hs j (by omega);have f:zs.getD j 0=zs[j]:=by simp[show j<zs.length by omega]
  rw[aJ,f,Sp,Ru (by omega),Tm];have hp:=R9.1 hs
  by_cases d:j=0∨zs[j]≠zs.getD (j -1) 0
  .rw[Rx d];refine⟨Uk.2 ⟨h1,by simp,λy hy z hz=>?_⟩,λx=>by rw[RI,RI,b]⟩;rw[Sc]at hz;subst hz;obtain⟨k,hk,rfl⟩:=RJ ((b y).1 hy);rw[RD]at hk;rw[SQ];rcases d with rfl|d
   .omega
   .have a:zs.getD (j -1) 0=zs[j -1]:=by simp[show j -1<zs.length by omega]
    rw[a]at d;have i:zs[k]<=zs[j -1]:=by
     by_cases e:k=j -1
     .subst e;exact TU _
     .exact hp k (j -1) (by omega) (by omega) (by omega)
    have l:zs[j -1]<=zs[j]:=hp (j -1) j (by omega) (by omega) (by omega);omega
  .rw[Rw d];refine⟨h1,λx=>?_⟩;rw[b,RI,Sc];refine⟨.inl,λhx=>hx.elim id λe=>?_⟩;have hj:j≠0:=λe=>d (.inl e);have a:zs.getD (j -1) 0=zs[j -1]:=by simp[show j -1<zs.length by omega]
   have c:zs[j]=zs[j -1]:=RW λg=>d (.inr (by rw[a];exact g));rw[e,c];exact SH.2 ⟨j -1,by omega,rfl⟩
theorem zV(l:List Int):(cP (er l)).Pairwise (·<·)∧∀x,x∈cP (er l)↔x∈l:=by
 obtain⟨h1,a⟩:=zU (w6 l) (er l).length (Ry _);refine⟨h1,λx=>?_⟩;rw[RY]at a;refine(a x).trans ?_;unfold er;exact(Uq _ _).mem_iff
theorem DR{T:Tr}{L:List Int}{u:Int}{r:List Int}(e:L=u::r)(w:∀y∈L,cr T y≠0)(hp:∀y∈L,0<dL T y)(m:∀y∈r,dL T y<dL T u):
 0<=dy T L∧dy T L<dL T u∧∀y∈r,dL T y<=dy T L:=by
 have h:fP T L L.length=L.map (dL T):=by
  unfold fP;rw[RY,Tw.2 (λy hy=>by simpa using w y hy)]
 obtain⟨h1,b⟩:=zV (L.map (dL T));unfold dy HX;rw[h];have t:dL T u∈cP (er (L.map (dL T))):=(b _).2 (RE.2 ⟨u,by rw[e];exact RR,rfl⟩);have p:∀y∈r,dL T y∈cP (er (L.map (dL T))):=λy hy=>(b _).2 (RE.2 ⟨y,by rw[e];exact RO _ hy,rfl⟩);have o:∀x∈cP (er (L.map (dL T))),0<x∧x<=dL T u:=λx hx=>by
  obtain⟨y,hy,rfl⟩:=RE.1 ((b x).1 hx);refine⟨hp y hy,?_⟩;rw[e]at hy;rcases RZ.1 hy with rfl|hy
  .exact TU _
  .have:=m y hy;omega
 generalize cP (er (L.map (dL T)))=C at*;have a:=R9.1 h1;obtain⟨i,hi,v⟩:=RJ t;have f:i=C.length -1:=by
  refine RW λk=>?_;have:=a i (C.length -1) hi (by omega) (by omega);have:=(o _ (Rz (show C.length -1<C.length by omega))).2;omega
 have l:=hp u (by rw[e];exact RR);split
 .rename_i g;refine⟨TU _,l,λy hy=>?_⟩;obtain⟨j,hj,n⟩:=RJ (p y hy);have d:j=i:=by omega
  subst d;have:=m y hy;omega
 .rename_i g;have c:C.getD (C.length -2) 0=C[C.length -2]:=by rw[Rv,Ru (by omega)];rfl
  rw[c];have s:=o _ (Rz (show C.length -2<C.length by omega));refine⟨by omega,?_,λy hy=>?_⟩
  .have:=a (C.length -2) i (by omega) hi (by omega);omega
  .obtain⟨j,hj,n⟩:=RJ (p y hy);have k:j≠i:=λe=>by subst e;have:=m y hy;omega
   by_cases q:j=C.length -2
   .subst q;omega
   .have:=a j (C.length -2) hj (by omega) (by omega);omega
/-! ### Where levels begin -/
/-! ### Back -/
/-! ### What is left stands for what was there -/
theorem FP{A:Ar}{T:Tr}{R S:List Int}(h:∀x∈R,HOk A T S x){y:Int}(hy:HOk A T R y):HOk A T S y:=by
 induction hy with
 |stop d=>exact h _ d
 |why a b c _ e=>exact .why a b c e
theorem Lm(A:Ar)(T:Tr)(L:List Int):(qb A T L).Sublist L:=HM A T L
theorem Jh(A:Ar)(T:Tr)(u:Int)(r:List Int):∃a,qb A T (u::r)=u::a∧∀y∈a,y∈r:=by
 refine⟨bk (gR A T (u::r)) r,by unfold qb;rfl,λy hy=>?_⟩;unfold bk at hy;exact(Ss.1 hy).1
theorem back_mem{T:Tr}{L:List Int}{u:Int}{r:List Int}(e:L=u::r)(d:∀y∈L,cr T y≠0)(hp:∀y∈L,0<dL T y)(h:∀y∈r,dL T y<dL T u):
 dy T L=0∨∃y∈r,dy T L=dL T y:=by
 obtain⟨_,b1,_⟩:=DR e d hp h;have b:fP T L L.length=L.map (dL T):=by
  unfold fP;rw[RY,Tw.2 (λy hy=>by simpa using d y hy)]
 obtain⟨_,g⟩:=zV (L.map (dL T));unfold dy HX at b1⊢;rw[b]at b1⊢;split at b1
 .rename_i c;rw[Rx c];exact .inl rfl
 .rename_i c;rw[Rw c];right;generalize i:cP (er (L.map (dL T)))=C at*;have a:C.getD (C.length -2) 0=C[C.length -2]:=by rw[Rv,Ru (by omega)];rfl
  rw[a]at b1⊢;obtain⟨y,hy,f⟩:=RE.1 ((g _).1 (Rz (show C.length -2<C.length by omega)));refine⟨y,?_,f.symm⟩;rw[e]at hy;rcases RZ.1 hy with rfl|hy
  .omega
  .exact hy
/-! ### What is shown holds -/
theorem lE{m:List Bool}{x:Int}(h:ka m x=true):cE x=true∧0<=aW x:=by
 have hk:cE x=true:=by
  rw[aY];unfold ka at h;simp only[RG,RP]at h;have h1:=h.1;unfold gD at h1;split at h1
  .omega
  .split at h1
   .omega
   .exact absurd rfl h1
 refine⟨hk,?_⟩;have:=(aY x).1 hk;unfold aW dg;rw[Rx hk];split<;>omega
theorem zW{m:List Bool}{x:Int}(h:ka m x=true):ka m (-x)=false:=by
 obtain⟨hk,_⟩:=lE h;have b:=(aY x).1 hk;unfold ka gD at*
 by_cases c:0<x
 .rw[Rx (by omega)]at h;rw[Rw (by omega),Rx (by omega)];simp only[Tz]at h⊢
  revert h
  cases a:(decide (x<=(m.length:Int))&&m.getD (x -1).toNat false)<;>simp
 .rw[Rw (by omega),Rx (by omega)]at h;rw[Rx (by omega)];simp only at h⊢
  revert h
  cases a:(decide (-x<=(m.length:Int))&&m.getD (-x -1).toNat false)<;>simp
theorem Ji{m:List Bool}{x:Int}(hk:cE x=true)(h:ka m x=false):ka m (-x)=true:=by
 have b:=(aY x).1 hk;unfold ka gD at*
 by_cases c:0<x
 .rw[Rx (by omega)]at h;rw[Rw (by omega),Rx (by omega)];simp only[Tz]at h⊢
  revert h
  have:x≠0:=by omega
  cases a:(decide (x<=(m.length:Int))&&m.getD (x -1).toNat false)<;>simp[this]
 .rw[Rw (by omega),Rx (by omega)]at h;rw[Rx (by omega)];simp only at h⊢
  revert h
  have:-x≠0:=by omega
  cases a:(decide (-x<=(m.length:Int))&&m.getD (-x -1).toNat false)<;>simp[this]
theorem Ln{l:List Int}{x:Int}(h:bJ l x=-1):aS (-x)∈l:=by
 unfold bJ at h;split at h
 .omega
 .split at h
  .omega
  .split at h
   .assumption
   .omega
theorem DS{m:List Bool}{l:List Int}(a:∀y∈l,ka m y=true){x:Int}(hx:ka m x=true):bJ l x≠-1:=λe=>by
 have h1:=Ln e;obtain⟨hk,_⟩:=lE hx;have b:=(aY x).1 hk;rw[ap (by omega) (by omega)]at h1;have:=a _ h1;rw[zW hx]at this;cases this
theorem Ci{m:List Bool}{l c:List Int}(o:c.length<=1000000)(n:∀y∈l,ka m y=true)(k:eh c m=true)(f:(bD l c).2=true):ka m (bD l c).1=true:=by
 obtain⟨y,hy,a⟩:=Ti.1 k;have j:=om l c 0 0 0 (by omega) (by omega) (by omega);have h:Ga l c=(((0+jW l c 1:Nat):Int),((0+jW l c (-1):Nat):Int),((0+(gh l c).length:Nat):Int)):=j;have h0:jW l c 1=0∧(gh l c).length=1∧(bD l c).1=c.foldl (Bz l) 0:=by
  unfold bD at f⊢;rw[h]at f⊢;split at f
  .cases f
  .rename_i hn;rw[Rw hn];simp only[ne_eq,Wn,Decidable.not_not]at hn;exact⟨by omega,by omega,rfl⟩
 obtain⟨g,i,a3⟩:=h0;obtain⟨u,b⟩:∃u,gh l c=[u]:=T8.1 i;rw[w7,b]at a3;have d:y∈gh l c:=by
  unfold gh;rw[Ss];refine⟨hy,?_⟩;rw[RP];refine⟨(lE a).2,λe=>?_,DS n a⟩;unfold jW at g;rw[SY,Tn]at g;exact g y hy (by simpa using e)
 rw[b,Sc]at d;rw[a3,←d];exact a
theorem vO{m:List Bool}:∀(hs:List (List Int))(l:List Int)(n:Nat),(∀c∈hs,c.length<=1000000)->(∀y∈l,ka m y=true)->(∀c∈hs,eh c m=true)->(fg l hs n).2.2=0->False
 |[],l,n,_,_,_,h=>by simp[fg]at h
 |c::hs,l,n,f,e,d,h=>by
  rw[fg]at h;split at h
  .rename_i h1;obtain⟨y,hy,b⟩:=Ti.1 (d c RR);exact DS e b (mB.1 h1 y hy (lE b).2)
  .split at h
   .rename_i g;have i:=Ci (f c RR) e (d c RR) g;refine vO hs _ _ (λc a=>f c (RO _ a)) (λy hy=>?_) (λc a=>d c (RO _ a)) h;rcases RI.1 hy with hy|hy
    .exact e y hy
    .rw[Sc]at hy;rw[hy];exact i
   .simp at h
end Go.AX