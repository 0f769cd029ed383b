/-
  Contracts: how glued literals are; whether a clause is a reason.
  Contracts: arenas that are only read; what other literals a reason has.
  Contracts: the asker of what is deeply left over.
  Contracts: what is deeply left over; what is a part of what.
  Contracts: slices.DeleteFunc whose predicate turns blocks.
  Contracts: a clause that is made shorter.
  Each reason of a desk is a clause, all others of which fail by what stands ahead (plain law).
  What is left over, of a desk: it is deeply left over; made shorter again it is the same (plain law).
  Contracts: the probe of the layer shorten.
  Contracts: what other literals a reason has, and what is left over, by the document.
  What is left over, deeply, of a desk: the program's answer is the document's (plain law).
  How a desk's trail came about: each level is calm ahead of the next decision (plain law).
  A desk's trail came about as trails do; a conflict is a clause that fails (plain law).
  What a conflict teaches: of the last level one literal is left (plain law).
  What a conflict teaches: its first literal, its levels, and that it is shown by reasons (plain law).
  Contracts: a conflict is taken apart.
  Contracts: what a conflict teaches is gone through; levels; what fails.
  Contracts: what fails; whether literals say one thing ahead; the level to which one goes back.
  Contracts: the reasons that are needed are gathered.
  Contracts: by which clauses what a conflict teaches is shown.
  Contracts: the one literal of the greatest level first; what a conflict teaches.
  What is gathered of reasons is all that is needed (plain law).
  Hints that were found show what a conflict teaches (plain law).
  Contracts: the document's chains of hints.
  Contracts: assign: how many literals hold, fail, are open; what a unit says.
  Contracts: trails that go back.
  Plain facts: the level to which one goes back, and what fails there.
  Plain facts: what is learnt, made shorter, is shown as well, and holds where its hints do.
  Contracts: luby: what tells one number behind the other, when a search begins again.
-/
import Derived.Test.YtepodadinenmnaaGreatS14AxDkQ
import Derived.Test.YtepodadinenmnaaGreatAxIs
import Derived.Test.YtepodadinenmnaaGreatS14AxGlC
import Derived.Test.YtepodadinenmnaaGreatS14AxEvC
import Derived.Test.YtepodadinenmnaaGreatS14AxShelf2
import Derived.Test.YtepodadinenmnaaGreatAxDl
import Derived.Test.YtepodadinenmnaaGreatS14AxMovR
import Derived.Lib.TrailingZeros
namespace Go.AX
set_option maxRecDepth 8000
open Go.Proofs
set_option linter.unusedSimpArgs false
def qS(T:Tr)(l:List Int):Nat->List (Int×Int)
 |0=>[]
 |i+1=>if 0<(dm T (ab (l.getD i 0))).1.lev then pt (qS T l i) (dm T (ab (l.getD i 0))).1.lev (a8 ((lk (qS T l i) (dm T (ab (l.getD i 0))).1.lev).getD 0+1))else qS T l i
def GW(T:Tr)(l:List Int):Int:=((qS T l l.length).length:Int)
theorem BM(T:Tr)(ht:T.ok)(l:List Int)(g:l.length<=1000000):an Tryz.prog 97 [bB T,.seq false 1 (af l)] (λr=>r=.pv (ae (GW T l))):=by
 refine ax aG Tryz.func97 ?_;have a:=λv=>eO T v ht;simp only[bB,cF]at a;simp[bB,cF];refine aJ.intro (S:=λ(i:Nat)=>⟨[(0,.pv (bB T)),(5,.omap true (aS fI (qS T l i))),(12,.pv (.seq false 1 (af l))),(13,.pv (ae l.length)),(14,.pv (ae i))],[]⟩) (λi=>i<=l.length) (λi=>l.length -i) 0 ?_ (Oz _) ?_
 .exact ai.to (by simp[qS,bB,cF,aS]) rfl (by simp) (by simp[bB,cF]) (by simp)
 intro i hi
 by_cases f:i<l.length
 .have b:=fQ i;have e:l.getD i 0=l[i]:=by rw[N7,N6 f];rfl
  have d:qS T l (i+1)=if 0<(dm T (ab l[i])).1.lev then pt (qS T l i) (dm T (ab l[i])).1.lev (a8 ((lk (qS T l i) (dm T (ab l[i])).1.lev).getD 0+1))else qS T l i:=by rw[qS,e]
  simp[f,cF];refine aj.intro (aF l[i]) ?_;simp[cF];refine aj.intro (a (ab l[i])) ?_;generalize(dm T (ab l[i])).1.lev=n at*
  by_cases c:0<n
  .rw[N9 c]at d;simp[c];exact⟨i+1,by dsimp only;omega,by dsimp only;omega,ai.to (by simp[b,d,bB,cF]) rfl (by simp) (by simp[bB,cF]) (by simp)⟩
  .rw[N8 c]at d;simp[c];exact⟨i+1,by dsimp only;omega,by dsimp only;omega,ai.to (by simp[b,d,bB,cF]) rfl (by simp) (by simp[bB,cF]) (by simp)⟩
 .have:i=l.length:=by omega
  subst this;simp[GW,aS]
theorem lV(T:Tr):an Tryz.prog 105 [bB T] (λr=>r=.pv (ae T.beg.length)):=by
 refine ax aG Tryz.func105 ?_;have hi:=ll T;simp only[bB,cF]at hi;simp[bB,cF];refine aj.intro hi ?_;simp
def At(T:Tr)(at' l:Int):Bool:=decide (0<bZ T l)&&decide ((dm T (ab l)).1.rea=at')
def DU(T:Tr)(at':Int)(l:List Int):Bool:=l.any (At T at')
theorem yz(T:Tr)(ht:T.ok)(at' l:Int):an Tryz.prog 255 [ae l,.iptr 1 [[bB T]] 0 0,.iptr 1 [[ae at']] 0 0] (λr=>r=.pv (BL (At T at' l))):=by
 refine ax aG Tryz.func255 ?_;have b:=eP T l ht;have a:=fE T (ab l) ht;simp only[bB,cF]at b a;simp[bB,cF];refine bA.intro b ?_;unfold At
 by_cases c:0<bZ T l
 .simp[c,cF];refine dO.intro (r:=.pv (ae (ab l))) (λ_=>aF l) ?_;simp[c,cF];refine dO.intro (r:=.pv (ae (dm T (ab l)).1.rea)) (λ_=>a) ?_;simp
 .simp[c,cF];refine dO.intro (r:=.pv (ae (ab l))) (λ_=>aF l) ?_;simp[c,cF];refine dO.intro (r:=.pv (ae (dm T (ab l)).1.rea)) (λ_=>a) ?_;simp
theorem BN(T:Tr)(ht:T.ok)(at':Int)(l:List Int)(b:l.length<=1000000):an Tryz.prog 194 [bB T,ae at',.seq false 1 (af l)] (λr=>r=.pv (BL (DU T at' l))):=by
 refine ax aG Tryz.func194 ?_;have a:=fe l b 255 [.iptr 1 [[bB T]] 0 0,.iptr 1 [[ae at']] 0 0] (At T at') (λr=>by simp[bB,cF]) rfl (λk=>by simp[bB,cF]) (λx _=>yz T ht at' x);simp only[bB,cF]at a;simp[bB,cF,br];refine bK.intro (r:=.pv (BL (DU T at' l))) (λ_=>a) ?_;simp
end Go.AX
namespace Go.AX
set_option maxRecDepth 16000
open Go.Proofs
set_option linter.unusedSimpArgs false
def nJ(A:Ar):List PV:=[.seq false 1 (af A.row),.amap false (aS fI A.hd)]
abbrev ke(A:Ar):PV:=.iptr 2 [nJ A] 0 0
@[simp] theorem BO:∀l:List Int,tU (af l)
 |[]=>trivial
 |_::l=>⟨⟨trivial,trivial⟩,BO l⟩
@[simp] theorem DV:∀l:List Mk,tU (l.map oe)
 |[]=>trivial
 |_::l=>⟨⟨trivial,trivial,trivial,trivial,trivial⟩,DV l⟩
theorem GX{h:List (List SV)}{b:Nat}{A:Ar}(d:h[b]?=some (lm A))(n:Nat):br h (n+1) b 0=ke A:=by
 obtain⟨c,a⟩:=N5.1 d;simp[br,c,a,lm,nJ,frzC]
@[simp] theorem J5(k v:Int)(l:List (Int×Int)):aS fI ((k,v)::l)=(k,ae v)::aS fI l:=rfl
theorem BP(A:Ar)(h0:A.hd≠[]):an Tryz.prog 207 [ke A] (λr=>r=.pv (BL true)):=by
 refine ax aG Tryz.func207 ?_;obtain⟨row,hd⟩:=A;cases hd with
 |nil=>exact absurd rfl h0
 |cons x hd=>
  obtain⟨k,v⟩:=x;simp[ke,nJ]
theorem Au(A:Ar)(h0:A.hd≠[])(q:Int):an Tryz.prog 237 [ke A,ae q] (λr=>r=.pv (BL (isA A q))):=by
 refine ax aG Tryz.func237 ?_;have a:=BP A h0;simp only[ke,nJ]at a;simp[ke,nJ];refine aj.intro a ?_;simp[isA]
theorem BQ(h:List (List SV))(A:Ar)(p n:Nat)(d:AtOk A p n)(k:A.row.length<=1000000000):aB Tryz.prog 239 [ke A,ae p] h (λr h'=>h'=h∧r=.pv (.seq false 1 (af (dq A p n)))):=by
 refine gm [] [.tmp 4] aG Tryz.func239 ?_;obtain⟨j,b⟩:=d;have h1:p+1<A.row.length:=by omega
 have c:A.row[p+1]=(n:Int):=by rw[←b,N7,N6 h1];rfl
 have f:=fQ p;have g:a8 ((p:Int)+3)=((p+3:Nat):Int):=by rw[ap (by omega) (by omega)];omega
 have i:a8 ((p:Int)+3+n)=(p:Int)+3+n:=ap (by omega) (by omega);have a:List.drop (p+3) (List.take (p+3+n) (af A.row))=af (dq A p n):=by
  unfold af dq;rw[←QI,←RW,List.drop_take];congr 3;omega
 have t1:((p:Int)+3).toNat=p+3:=by omega
 have e:((p:Int)+3+n).toNat=p+3+n:=by omega
 simp[ke,nJ,f,g,i,h1,c,t1,e,a,fc]
 try omega
def aq(A:Ar)(q:Int):List Int:=if isA A q=true then dq A q.toNat (A.row.getD (q.toNat+1) 0).toNat else[]
def jI(A:Ar):Prop:=∀q:Int,isA A q=true->∃p n:Nat,q=(p:Int)∧AtOk A p n
theorem iZ(A:Ar)(h0:A.hd≠[])(hk:jI A)(o:A.row.length<=1000000)(q:Int):an Tryz.prog 160 [ke A,ae q] (λr=>r=.own true 1 (af (aq A q))):=by
 refine an.own0 (R:=λr=>r=.own true 1 (af (aq A q))∨(aq A q=[]∧r=.pv (.lit (.slice none 0 0)))) ?_ (λr h=>h.imp id λ⟨i,j⟩=>⟨j,true,1,by rw[i];rfl⟩);refine ax aG Tryz.func160 ?_;have hi:=Au A h0 q;simp only[ke,nJ]at hi;simp[ke,nJ];refine aj.intro hi ?_
 by_cases c:isA A q=true
 rotate_left
 .have c':isA A q=false:=by simpa using c
  have b:aq A q=[]:=N8 c;simp[c',b]
 obtain⟨p,n,rfl,d⟩:=hk q c;have f:=λh=>BQ h A p n d (by omega);have b:aq A p=dq A p n:=by
  unfold aq;rw[N9 c,Pe,d.num,Pe]
 obtain⟨m,g⟩:=d;have h1:p+1<A.row.length:=by omega
 have k:A.row[p+1]=(n:Int):=by rw[←g,N7,N6 h1];rfl
 have l:=fQ p;have a:(dq A p n).length=n:=by unfold dq;rw[Oe,OO];omega
 have e:(af (dq A p n)).take n=af (dq A p n):=Pf (by simp[a]);rw[b];generalize dq A p n=y at*;simp only[ke,nJ]at f;simp[c,l,h1,k,nJ];refine⟨by omega,by omega,?_⟩;refine aj.introM (f _) ?_;rintro _ _ ⟨rfl,rfl⟩;simp[a,e]
theorem eQ(A:Ar)(hk:jI A)(q:Int):(aq A q).length<=A.row.length:=by
 unfold aq;split
 .unfold dq;rw[Oe,OO];omega
 .simp
def rV(T:Tr)(l x:Int):Bool:=decide (x=a8 (-l))||decide ((dm T (ab x)).1.lev=0)
def nK(A:Ar)(T:Tr)(l:Int):Bool:=!(decide (0<=bZ T l)||decide ((dm T (ab l)).1.rea<0)||!l7 (aq A (dm T (ab l)).1.rea) (a8 (-l)))
def qT(A:Ar)(T:Tr)(l:Int):List Int:=if nK A T l=true then(aq A (dm T (ab l)).1.rea).filter λx=>!rV T l x else[]
theorem I4(T:Tr)(ht:T.ok)(l x:Int):an Tryz.prog 289 [ae x,.iptr 1 [[ae l]] 0 0,.iptr 1 [[bB T]] 0 0] (λr=>r=.pv (BL (rV T l x))):=by
 refine ax aG Tryz.func289 ?_;have a:=eO T (ab x) ht;simp only[bB,cF]at a;unfold rV
 by_cases c:x=a8 (-l)
 .simp[bB,cF,c];refine dO.intro (r:=.pv (ae 0)) (λh:False=>h.elim) ?_;simp[cF];refine dO.intro (r:=.pv (ae 0)) (λh:False=>h.elim) ?_;simp
 .simp[bB,cF,c];refine dO.intro (λ_=>aF x) ?_;simp[cF];refine dO.intro (λ_=>a) ?_;simp
theorem BR(A:Ar)(T:Tr)(l:Int)(ht:T.ok)(hk:jI A)(s:A.row.length<=1000000)(h0:0<=(dm T (ab l)).1.rea->A.hd≠[]):an Tryz.prog 246 [ke A,bB T,ae l] (λr=>r=.pv (.tup [.seq true 1 (af (qT A T l)),BL (nK A T l)])):=by
 refine an.wk (R:=λr=>∃x,r=.pv x∧cw x (.tup [.seq true 1 (af (qT A T l)),BL (nK A T l)])) ?_ (λr ⟨x,e,h⟩=>⟨x,_,e,h,rfl⟩);refine iL [] [.tmp 6,.tmp 7] aG Tryz.func246 ?_;have n:=fE T (ab l) ht;have p:=eP T l ht;have d:=λh=>iZ A h hk s (dm T (ab l)).1.rea;have g:=λx=>I4 T ht l x;simp only[bB,cF]at n p;simp only[ke,nJ]at d;simp[ke,nJ,bB,cF];refine bA.intro (aF l) ?_;simp[cF];refine bA.intro n ?_;simp[cF];refine bA.intro p ?_;have i:nK A T l=!(decide (0<=bZ T l)||decide ((dm T (ab l)).1.rea<0)||!l7 (aq A (dm T (ab l)).1.rea) (a8 (-l))):=rfl;have b:qT A T l=if nK A T l=true then(aq A (dm T (ab l)).1.rea).filter λx=>!rV T l x else[]:=rfl;have t:=eQ A hk (dm T (ab l)).1.rea;generalize(dm T (ab l)).1.rea=why at*
 by_cases c1:0<=bZ T l
 .have a:nK A T l=false:=by rw[i];simp[c1]
  rw[a]at b;simp only[OQ,Pk]at b;simp[c1,a,b];refine dO.intro (r:=.pv (.seq true 1 [])) (λh:False=>h.elim) ?_;simp;refine dO.intro (r:=.pv (BL false)) (λh:False=>h.elim) ?_;simp[cw,cE,af]
 by_cases c2:why<0
 .have a:nK A T l=false:=by rw[i];simp[c2]
  rw[a]at b;simp only[OQ,Pk]at b;simp[c1,c2,a,b];refine dO.intro (r:=.pv (.seq true 1 [])) (λh:False=>h.elim) ?_;simp;refine dO.intro (r:=.pv (BL false)) (λh:False=>h.elim) ?_;simp[cw,cE,af]
 have d:=d (h0 (by omega));simp[c1,c2];refine dO.intro (λ_=>d) ?_;simp;refine dO.intro (λ_=>IT _ (a8 (-l)) (by omega)) ?_;cases c3:l7 (aq A why) (a8 (-l))
 .have a:nK A T l=false:=by rw[i];simp[c3]
  rw[a]at b;simp only[OQ,Pk]at b;simp[a,b,cw,cE,af]
 .have a:nK A T l=true:=by rw[i];simp[c1,c2,c3]
  rw[a]at b;simp only[PT]at b;simp[a,cF,nJ];refine aj.intro d ?_;generalize aq A why=y at*;have q:=gQ y (by omega) 289 [.iptr 1 [[ae l]] 0 0,.iptr 1 [[bB T]] 0 0] (rV T l) (λr=>by simp[bB,cF]) rfl (λk=>by simp[bB,cF]) (by simp[bB,cF,PV.old,pq,tU]) (λx _=>g x);simp;refine aj.introX (dg.introS (o:=.slot 34) (lo:=0) (hi:=y.length) q (by simp) rfl rfl (by simp) (by simp) rfl (by simp;rw[Pf (by simp)];rfl) (bd 0 y) (by simp) (by simp[bB,cF,br]) ?_);rintro k m ⟨rfl,rfl⟩ _ _;have j:List.drop y.length (af y)=[]:=OK (by simp);have c:∀X,List.take (aV (rV T l) y).length (az (aV (rV T l) y++X))=af (aV (rV T l) y):=λX=>by
   unfold az;rw[OJ,P4 (by simp)];rfl
  have f:aV (rV T l) y=qT A T l:=b.symm;simp[j,c,f,cw,cE];rw[f]at c;exact c _
theorem DW(A:Ar)(T:Tr)(l:Int)(hk:jI A):(qT A T l).length<=A.row.length:=by
 unfold qT;split
 .exact OM (P6 _ _) (eQ A hk _)
 .simp
end Go.AX
namespace Go.AX
set_option maxRecDepth 16000
open Go.Proofs
set_option linter.unusedSimpArgs false
def nL(n:Nat):PV:=.fn (.func 244) [] [.ptr (n+1) 0,.ptr (n+3) 0,.ptr n 0,.ptr (n+2) 0,.ptr (n+4) 0]
def DX(A:Ar)(T:Tr)(lits:List Int)(m:List (Int×Int))(n:Nat):List (List SV):=[[.pv (ke A)],[.pv (bB T)],[.pv (.seq false 1 (af lits))],[.omap true (aS fI m)],[.pv (nL n)]]
theorem DY(h:List (List SV))(A:Ar)(T:Tr)(lits:List Int):aB Tryz.prog 164 [ke A,bB T,.seq false 1 (af lits)] h (λr h'=>h'=h++DX A T lits [] h.length∧r=.pv (nL h.length)):=by
 refine cL [] [.tmp 6] aG Tryz.func164 ?_;simp[ke,nJ,bB,cF,DX,nL];rfl
def cr(T:Tr)(l:Int):Int:=(dm T (ab l)).1.pla
def jX(T:Tr)(lits:List Int)(l x:Int):Bool:=!decide (x=l)&&(decide (x∈lits)&&decide (cr T x<cr T l))
def mu(A:Ar)(T:Tr)(lits:List Int):Nat->Int->Bool
 |0,_=>false
 |k+1,l=>nK A T l&&(qT A T l).all λx=>jX T lits l x||(decide (0<=cr T x∧cr T x<cr T l)&&mu A T lits k x)
theorem wr(A:Ar)(T:Tr)(lits:List Int):∀(k k':Nat)(l:Int),(cr T l).toNat<k->(cr T l).toNat<k'->mu A T lits k l=mu A T lits k' l
 |0,_,_,h,_=>by omega
 |_+1,0,_,_,h=>by omega
 |k+1,k'+1,l,h,h'=>by
  have e:(λx=>jX T lits l x||(decide (0<=cr T x∧cr T x<cr T l)&&mu A T lits k x))=(λx=>jX T lits l x||(decide (0<=cr T x∧cr T x<cr T l)&&mu A T lits k' x)):=by
   funext x
   by_cases c:0<=cr T x∧cr T x<cr T l
   .rw[wr A T lits k k' x (by omega) (by omega)]
   .rw[PE c,P7,P7]
  rw[mu,mu,e]
def jY(A:Ar)(T:Tr)(lits:List Int)(l:Int):Bool:=mu A T lits ((cr T l).toNat+1) l
def mw(A:Ar)(T:Tr)(lits:List Int)(l x:Int):Bool:=jX T lits l x||(decide (0<=cr T x∧cr T x<cr T l)&&jY A T lits x)
theorem qU(A:Ar)(T:Tr)(lits:List Int)(l:Int):jY A T lits l=(nK A T l&&(qT A T l).all (mw A T lits l)):=by
 have e:(λx=>jX T lits l x||(decide (0<=cr T x∧cr T x<cr T l)&&mu A T lits (cr T l).toNat x))=mw A T lits l:=by
  funext x;unfold mw jY
  by_cases c:0<=cr T x∧cr T x<cr T l
  .rw[wr A T lits (cr T l).toNat ((cr T x).toNat+1) x (by omega) (by omega)]
  .rw[PE c,P7,P7]
 unfold jY;rw[mu,e]
def gU(A:Ar)(T:Tr)(lits:List Int)(l a:Int):Bool:=decide (0<=cr T l∧cr T l<a)&&jY A T lits l
def mX(A:Ar)(T:Tr)(lits:List Int)(m:List (Int×Int)):Prop:=∀q:Int,(lk m q).getD 0=0∨((lk m q).getD 0=1∧jY A T lits q=true)∨((lk m q).getD 0=2∧jY A T lits q=false)
def lW:Sch:=
 let E:Sch:=.fork [(14,.take 16 (.take 17 (.take 18 (.take 20 (.take 21 (.fork [(19,.fork [(22,.take 23 (.take 24 (.fork [(25,.done)])))])]))))))]
 .take 0 (.take 1 (.take 2 (.take 3 (.take 4 (.take 5 (.take 7 (.fork [(6,.fork [(8,.take 9 (.take 10 (.take 12 (.take 15 (.fork [(11,.fork [(13,E)]),(13,.fork [(11,E)])])))))])])))))))
structure AskAt (A:Ar) (T:Tr) (lits:List Int) (m:List (Int×Int)) (n:Nat) (h:List (List SV)):Prop where
  b0:h[n]?=some [.pv (ke A)]
  b1:h[n+1]?=some [.pv (bB T)]
  b2:h[n+2]?=some [.pv (.seq false 1 (af lits))]
  b3:h[n+3]?=some [.omap true (aS fI m)]
  b4:h[n+4]?=some [.pv (nL n)]
theorem AskAt.set{A:Ar}{T:Tr}{lits:List Int}{m b:List (Int×Int)}{n:Nat}{h:List (List SV)}(a:AskAt A T lits m n h):AskAt A T lits b n (h.set (n+3) [.omap true (aS fI b)])where
 b0:=by rw[On (by omega)];exact a.b0
 b1:=by rw[On (by omega)];exact a.b1
 b2:=by rw[On (by omega)];exact a.b2
 b3:=by rw[O4 (N5.1 a.b3).1]
 b4:=by rw[On (by omega)];exact a.b4
structure ShOk (A:Ar) (T:Tr) (lits:List Int):Prop where
  tr:T.ok
  ar:jI A
  len:A.row.length<=1000000
  few:lits.length<=1000000
  hd:∀v,0<=(dm T v).1.rea->A.hd≠[]
theorem DZ(A:Ar)(T:Tr)(lits:List Int)(n:Nat)(hs:ShOk A T lits)(l a:Int)(m:List (Int×Int))(h:List (List SV))(k:¬(0<=cr T l∧cr T l<a))(b:AskAt A T lits m n h)(g:mX A T lits m):
 aB Tryz.prog 244 [ae l,ae a,.ptr (n+1) 0,.ptr (n+3) 0,.ptr n 0,.ptr (n+2) 0,.ptr (n+4) 0] h (λr h'=>∃i,mX A T lits i∧h'=h.set (n+3) [.omap true (aS fI i)]∧r=.pv (BL (gU A T lits l a))):=by
 refine cL [10] [.tmp 9] aG Tryz.func244 ?_;have c:=lS T (ab l) hs.tr;have e:(dm T (ab l)).1.pla=cr T l:=rfl;obtain⟨n0,g0⟩:=N5.1 b.b0;obtain⟨j,f⟩:=N5.1 b.b1;obtain⟨p,g2⟩:=N5.1 b.b2;obtain⟨q,g3⟩:=N5.1 b.b3;obtain⟨s,o⟩:=N5.1 b.b4;rw[e]at c;simp only[bB,cF]at c;simp[j,f,bB,cF];refine bA.intro (aF l) ?_;simp[j,f,bB,cF];refine bA.intro c ?_
 by_cases c1:cr T l<0
 .have d:gU A T lits l a=false:=by unfold gU;rw[PE (by omega),P7]
  simp[c1,d];exact⟨m,g,(cN b.b3).symm⟩
 by_cases c2:a<=cr T l
 .have d:gU A T lits l a=false:=by unfold gU;rw[PE (by omega),P7]
  simp[c1,c2,d];exact⟨m,g,(cN b.b3).symm⟩
 exact absurd ⟨by omega,by omega⟩ k
theorem GY(A:Ar)(T:Tr)(lits:List Int)(n:Nat)(hs:ShOk A T lits):∀(N:Nat)(l a:Int)(m:List (Int×Int))(h:List (List SV)),(0<=cr T l->cr T l<a->cr T l<N)->AskAt A T lits m n h->mX A T lits m->
 aB Tryz.prog 244 [ae l,ae a,.ptr (n+1) 0,.ptr (n+3) 0,.ptr n 0,.ptr (n+2) 0,.ptr (n+4) 0] h (λr h'=>∃m',mX A T lits m'∧h'=h.set (n+3) [.omap true (aS fI m')]∧r=.pv (BL (gU A T lits l a))):=by
 intro N
 induction N with
 |zero=>
  intro l a m h hN B M;exact DZ A T lits n hs l a m h (λc=>by have:=hN c.1 c.2;omega) B M
 |succ N ih=>
  intro l a m h hN B M;refine cL [10] [.tmp 9] aG Tryz.func244 ?_;have O:=lS T (ab l) hs.tr;have ag:(dm T (ab l)).1.pla=cr T l:=rfl;obtain⟨n0,g0⟩:=N5.1 B.b0;obtain⟨n1,Z⟩:=N5.1 B.b1;obtain⟨n2,g2⟩:=N5.1 B.b2;obtain⟨n3,g3⟩:=N5.1 B.b3;obtain⟨n4,g4⟩:=N5.1 B.b4;rw[ag]at O;simp only[bB,cF]at O;simp[n1,Z,bB,cF];refine bA.intro (aF l) ?_;simp[n1,Z,bB,cF];refine bA.intro O ?_
  by_cases c1:cr T l<0
  .have P:gU A T lits l a=false:=by unfold gU;rw[PE (by omega),P7]
   simp[c1,P];exact⟨m,M,(cN B.b3).symm⟩
  by_cases c2:a<=cr T l
  .have P:gU A T lits l a=false:=by unfold gU;rw[PE (by omega),P7]
   simp[c1,c2,P];exact⟨m,M,(cN B.b3).symm⟩
  have P:gU A T lits l a=jY A T lits l:=by unfold gU;rw[PG (by omega),Q2]
  rw[P];have ad:=M l
  by_cases c3:(lk m l).getD 0=0
  rotate_left
  .simp[c1,c2,n3,g3,c3];refine⟨m,M,(cN B.b3).symm,?_⟩;rcases ad with e|⟨e,W⟩|⟨e,W⟩
   .exact absurd e c3
   .rw[e,W];rfl
   .rw[e,W];rfl
  have R:=BR A T l hs.tr hs.ar hs.len (hs.hd _);have ao:=DW A T l hs.ar;have ah:=qU A T lits l;simp only[ke,nJ,bB,cF]at R;simp[c1,c2,n0,g0,n1,Z,n3,g3,c3,ke,nJ,bB,cF];refine aj.intro R ?_;simp;generalize qT A T l=rest at*;generalize nK A T l=ok at*;refine aJ.intro (S:=λ(y:Nat×List (Int×Int))=>⟨[(0,.pv (ae l)),(1,.pv (ae a)),(2,.pv (.ptr (n+1) 0)),(3,.pv (.ptr (n+3) 0)),(4,.pv (.ptr n 0)),(5,.pv (.ptr (n+2) 0)),(6,.pv (.ptr (n+4) 0)),(10,.pv (ae (cr T l))),(12,.pv (BL (ok&&(rest.take y.1).all (mw A T lits l)))),(41,.pv (.seq true 1 (af rest))),(42,.pv (ae rest.length)),(43,.pv (ae y.1))],h.set (n+3) [.omap true (aS fI y.2)]⟩) (λy=>y.1<=rest.length∧mX A T lits y.2) (λy=>rest.length -y.1) (0,m) ?_ ⟨Oz _,M⟩ ?_
  .exact ai.keep (by simp) (cN B.b3).symm
  rintro⟨i,u⟩ ⟨hi,z⟩;dsimp only at hi z;have w:AskAt A T lits u n (h.set (n+3) [.omap true (aS fI u)]):=B.set;have E:∀X Y:List SV,(h.set (n+3) X).set (n+3) Y=h.set (n+3) Y:=λX Y=>RJ ..;have an:(h.set (n+3) [.omap true (aS fI u)]).length=h.length:=OE ..;generalize L:h.set (n+3) [.omap true (aS fI u)]=H at*;obtain⟨k0,f0⟩:=N5.1 w.b0;obtain⟨p,j⟩:=N5.1 w.b1;obtain⟨s,k⟩:=N5.1 w.b2;obtain⟨k3,f3⟩:=N5.1 w.b3;obtain⟨t,o⟩:=N5.1 w.b4
  by_cases g:i<rest.length
  .have F:a8 ((i:Int)+1)=((i+1:Nat):Int):=by
    have:=hs.len;rw[ap (by omega) (by omega)];omega
   have b:(ok&&(rest.take (i+1)).all (mw A T lits l))=((ok&&(rest.take i).all (mw A T lits l))&&mw A T lits l rest[i]):=by
    rw[Pj,N6 g,P3,List.all_append];simp[Bool.and_assoc]
   simp[g];refine aX.one lW (by kernel_rfl) ?_;generalize ak:(ok&&(rest.take i).all (mw A T lits l))=acc at*;cases acc
   .simp[lW,g,p,j,s,k,t,o];refine bK.intro (r:=.pv (BL false)) (λh:False=>h.elim) ?_;simp[g,p,j,s,k,t,o,bB,cF];and_intros
    all_goals
     refine bK.intro (r:=.pv (ae 0)) (λh:False=>h.elim) ?_;simp[g,p,j,s,k,t,o,bB,cF];refine bK.intro (r:=.pv (ae 0)) (λh:False=>h.elim) ?_;simp[g,p,j,s,k,t,o,bB,cF,nL];exact⟨(i+1,u),by(try dsimp only);omega,⟨by(try dsimp only);omega,z⟩,ai.keep (by simp[F,b]) (by simp[L])⟩
   .generalize d:rest[i]=x at*;have C:=iz lits x (by have:=hs.few;omega);have J:=lS T (ab x) hs.tr;have U:(dm T (ab x)).1.pla=cr T x:=rfl;rw[U]at J;simp only[bB,cF]at J;have v:=ih x (cr T l) u H (λh1 h2=>by have:=hN (by omega) (by omega);omega) w z;have G:mw A T lits l x=(jX T lits l x||gU A T lits x (cr T l)):=rfl;have I:jX T lits l x=(!decide (x=l)&&(decide (x∈lits)&&decide (cr T x<cr T l))):=rfl
    by_cases c5:x=l
    .have f:jX T lits l x=false:=by rw[I];simp[c5]
     rw[f,Q0]at G;rw[c5]at v G d b;rw[G]at b;simp[lW,g,p,j,s,k,t,o,d,bB,cF,c5];refine bK.intro (r:=.pv (BL false)) (λh:False=>h.elim) ?_;simp[g,p,j,s,k,t,o,d,bB,cF];and_intros
     all_goals
      refine bK.intro (r:=.pv (ae 0)) (λh:False=>h.elim) ?_;simp[g,p,j,s,k,t,o,d,bB,cF];refine bK.intro (r:=.pv (ae 0)) (λh:False=>h.elim) ?_;simp[g,p,j,s,k,t,o,d,bB,cF,nL];refine am.intro v ?_ (by trivial);rintro _ _ ⟨V,D,rfl,rfl⟩;simp;exact⟨(i+1,V),by(try dsimp only);omega,⟨by(try dsimp only);omega,D⟩,ai.keep (by simp[F,b]) (by simp[←L,E])⟩
    .by_cases c6:x∈lits
     .by_cases c7:cr T x<cr T l
      .have f:jX T lits l x=true:=by rw[I];simp[c5,c6,c7]
       rw[f,Sc]at G;rw[G]at b;simp[lW,g,p,j,s,k,t,o,d,bB,cF,c5];refine bK.intro (λ_=>C) ?_;simp[g,p,j,s,k,t,o,d,bB,cF,c6];and_intros
       all_goals
        refine bK.intro (λ_=>aF x) ?_;simp[g,p,j,s,k,t,o,d,bB,cF,c6];refine bK.intro (λ_=>J) ?_;simp[g,p,j,s,k,t,o,d,bB,cF,nL,c6,c7];exact⟨(i+1,u),by(try dsimp only);omega,⟨by(try dsimp only);omega,z⟩,ai.keep (by simp[F,b]) (by simp[L])⟩
      .have f:jX T lits l x=false:=by rw[I];simp[c7]
       rw[f,Q0]at G;rw[G]at b;simp[lW,g,p,j,s,k,t,o,d,bB,cF,c5];refine bK.intro (λ_=>C) ?_;simp[g,p,j,s,k,t,o,d,bB,cF,c6];and_intros
       all_goals
        refine bK.intro (λ_=>aF x) ?_;simp[g,p,j,s,k,t,o,d,bB,cF,c6];refine bK.intro (λ_=>J) ?_;simp[g,p,j,s,k,t,o,d,bB,cF,nL,c6,c7];refine am.intro v ?_ (by trivial);rintro _ _ ⟨V,D,rfl,rfl⟩;simp;exact⟨(i+1,V),by(try dsimp only);omega,⟨by(try dsimp only);omega,D⟩,ai.keep (by simp[F,b]) (by simp[←L,E])⟩
     .have f:jX T lits l x=false:=by rw[I];simp[c6]
      rw[f,Q0]at G;rw[G]at b;simp[lW,g,p,j,s,k,t,o,d,bB,cF,c5];refine bK.intro (λ_=>C) ?_;simp[g,p,j,s,k,t,o,d,bB,cF,c6];and_intros
      all_goals
       refine bK.intro (r:=.pv (ae 0)) (λh:False=>h.elim) ?_;simp[g,p,j,s,k,t,o,d,bB,cF];refine bK.intro (r:=.pv (ae 0)) (λh:False=>h.elim) ?_;simp[g,p,j,s,k,t,o,d,bB,cF,nL];refine am.intro v ?_ (by trivial);rintro _ _ ⟨V,D,rfl,rfl⟩;simp;exact⟨(i+1,V),by(try dsimp only);omega,⟨by(try dsimp only);omega,D⟩,ai.keep (by simp[F,b]) (by simp[←L,E])⟩
  .have aa:i=rest.length:=by omega
   subst aa;rw[OT,←ah];have K:∀q:Int,lk (pt u l 2) q=if l=q then some 2 else lk u q:=λq=>bD u l 2 q;have Q:∀q:Int,lk (pt (pt u l 2) l 1) q=if l=q then some 1 else lk (pt u l 2) q:=λq=>bD (pt u l 2) l 1 q;cases hv:jY A T lits l
   .simp[k3,f3];refine⟨pt u l 2,λq=>?_,?_⟩
    .rw[K];split
     .rename_i e;subst e;exact .inr (.inr ⟨rfl,hv⟩)
     .exact z q
    .simp[←L,E]
   .simp[k3,f3];refine⟨pt (pt u l 2) l 1,λq=>?_,?_⟩
    .rw[Q];split
     .rename_i e;subst e;exact .inr (.inl ⟨rfl,hv⟩)
     .rename_i e;rw[K,N8 e];exact z q
    .simp[←L,E]
end Go.AX
namespace Go.AX
open Go.Proofs
set_option linter.unusedSimpArgs false
def ga(A:Ar)(T:Tr)(lits:List Int)(l:Int):Bool:=gU A T lits l T.lits.length
theorem D4(A:Ar)(T:Tr)(lits:List Int):mX A T lits []:=λq=>.inl rfl
end Go.AX
namespace Go.AX
set_option maxRecDepth 16000
open Go.Proofs
set_option linter.unusedSimpArgs false
theorem BT(zs:List Int)(z:zs.length<=1000000)(g:Nat)(cap:List PV)(p:Int->Bool)(n:Nat)(Inv:List (List SV)->Prop)(hp:iH cap=true)(pre a:List Value)(cp:Nat)
 (hz:∀x∈zs,∀h,Inv h->aB Tryz.prog g (ae x::cap) h (λr h'=>Inv h'∧h'[n]?=h[n]?∧r=.pv (BL (p x)))) (h:List (List SV)) (u:Inv h) (hn:h[n]?=some (blk pre zs a)):
 aB Tryz.prog 230 [.bsl n 1 pre.length zs.length cp,.fn (.func g) [] cap] h (λr h'=>Inv h'∧h'[n]?=some (blk pre zs a)∧r=.pv (ae (iV p zs))):=by
 refine mo aG Tryz.func230 ?_;simp;refine aJ.intro (S:=λ(y:Nat×List (List SV))=>⟨[(0,.pv (.bsl n 1 pre.length zs.length cp)),(1,.pv (.fn (.func g) [] cap)),(7,.pv (ae zs.length)),(8,.pv (ae y.1))],y.2⟩) (λy=>y.1<=zs.length∧(∀j (hj:j<zs.length),j<y.1->p zs[j]=false)∧Inv y.2∧y.2[n]?=some (blk pre zs a)) (λy=>zs.length -y.1) (0,h) ?_ ⟨Oz _,λj _ h=>absurd h (QQ _),u,hn⟩ ?_
 .exact ai.keep (by simp) rfl
 .rintro⟨i,h1⟩ ⟨hi,ho,d,b⟩;dsimp only at hi ho d b;obtain⟨w,s⟩:=N5.1 b
  by_cases c:i<zs.length
  .have v:=fQ i;have hx:=hz zs[i] (Od c) h1 d;have l:=jD pre zs a (i:=i) c;have m:=dZ pre zs a;simp[c,hp,w,s,l,m];refine⟨by omega,?_⟩;refine am.intro hx ?_ (by trivial);rintro _ t ⟨k,f,rfl⟩;rw[b]at f;cases o:p zs[i]
   .simp;refine⟨(i+1,t),by(try dsimp only);omega,⟨by(try dsimp only);omega,λj hj q=>?_,k,f⟩,ai.keep (by simp[v]) rfl⟩;dsimp only at q
    by_cases e:j=i
    .subst e;exact o
    .exact ho j hj (by omega)
   .simp;rw[fR c ho o];exact⟨k,f,rfl⟩
  .simp[c];rw[d9 (λj hj=>ho j hj (by omega))];exact⟨d,b,rfl⟩
theorem yA(zs:List Int)(hl:zs.length<=1000000)(g:Nat)(cap:List PV)(p:Int->Bool)(n:Nat)(Inv:List (List SV)->Prop)(hp:iH cap=true)(s:∀h L,Inv h->Inv (h.set n L))(pre d:List Value)(cp:Nat)(aa:zs.length<=cp)
 (hz:∀x∈zs,∀h,Inv h->aB Tryz.prog g (ae x::cap) h (λr h'=>Inv h'∧h'[n]?=h[n]?∧r=.pv (BL (p x)))) (h:List (List SV)) (hI:Inv h) (hn:h[n]?=some (blk pre zs d)):
 aB Tryz.prog 150 [.bsl n 1 pre.length zs.length cp,.fn (.func g) [] cap] h (λr h'=>Inv h'∧∃G,G=aV p zs++List.replicate (zs.length -(aV p zs).length) 0∧h'[n]?=some (blk pre G d)∧r=.pv (.bsl n 1 pre.length (aV p zs).length cp)):=by
 have P:=BT zs hl g cap p n Inv hp pre d cp hz h hI hn;refine mo aG Tryz.func150 ?_;simp;refine am.intro P ?_ (by trivial);rintro _ h0 ⟨A,E,rfl⟩
 by_cases c:∃i,∃h:i<zs.length,p zs[i]=true∧∀j (hj:j<zs.length),j<i->p zs[j]=false
 rotate_left
 .have m:∀j (hj:j<zs.length),p zs[j]=false:=by
   intro j
   induction j using Nat.strongRecOn with
   |ind j ih=>
    intro hj;cases e:p zs[j]
    .rfl
    .exact absurd ⟨j,hj,e,λk hk R=>ih k R hk⟩ c
  have hd:=lQ p zs λx hx=>by
   obtain⟨j,hj,rfl⟩:=Oo hx;exact m j hj
  rw[d9 m,hd];simp;exact⟨A,E⟩
 obtain⟨t,u,w,m⟩:=c;rw[fR u m w];have U:=fQ t;have C:aV p (zs.take t)=zs.take t:=lQ p _ λx hx=>by
  obtain⟨j,hj,rfl⟩:=Oo hx;rw[Oe]at hj;rw[Pq];exact m j (by omega) (by omega)
 simp;refine aJ.intro (S:=λ(y:Nat×List Int×List (List SV))=>⟨[(0,.pv (.bsl n 1 pre.length zs.length cp)),(1,.pv (.fn (.func g) [] cap)),(5,.pv (ae ((aV p (zs.take y.1)).length:Nat))),(6,.pv (ae y.1))],y.2.2⟩)
  (λy=>y.1<=zs.length∧(aV p (zs.take y.1)).length<y.1∧y.2.1.length=zs.length∧y.2.1.take (aV p (zs.take y.1)).length=aV p (zs.take y.1)∧y.2.1.drop y.1=zs.drop y.1∧Inv y.2.2∧y.2.2[n]?=some (blk pre y.2.1 d)) (λy=>zs.length -y.1) (t+1,zs,h0) ?_ ?_ ?_
 .refine ai.keep ?_ rfl;have:(aV p (zs.take (t+1))).length=t:=by rw[gF p zs u,N9 w,C,Oe];omega
  simp[U,this]
 .have:aV p (zs.take (t+1))=zs.take t:=by rw[gF p zs u,N9 w,C]
  refine⟨by dsimp only;omega,?_,rfl,?_,rfl,A,E⟩
  .dsimp only;rw[this,Oe];omega
  .dsimp only;rw[this,Oe];congr 1;omega
 .rintro⟨j,a,H⟩ ⟨h1,X,J,z,K,N,O⟩;dsimp only at h1 X J z K N O;have q:=dZ pre a d;obtain⟨n1,W⟩:=N5.1 O
  by_cases I:j<zs.length
  .have Y:=fQ j;have Q:a[j]'(by omega)=zs[j]:=by
    have:=QH (λl=>l[0]?) K;simp only[Pp,QF]at this;rw[N6 (by omega),N6 I]at this;exact QT this
   have o:=jD pre a d (i:=j) (by omega);rw[Q]at o;have hx:=hz zs[j] (Od I) H N;have b:=gF p zs I;simp[I,hp,n1,W,o,q];refine⟨by omega,am.intro hx ?_ (by trivial)⟩;rintro _ M ⟨B,v,rfl⟩;rw[O]at v;obtain⟨Z,f1⟩:=N5.1 v;cases F:p zs[j]
   .rw[F]at b;simp only[OQ,Pk]at b;have V:=fQ ((aV p (zs.take j)).length);have T:=un pre a d (i:=(aV p (zs.take j)).length) zs[j] (by omega);simp[Z,f1,q];refine⟨by omega,by omega,(j+1,a.set (aV p (zs.take j)).length zs[j],M.set n (blk pre (a.set (aV p (zs.take j)).length zs[j]) d)),by(try dsimp only);omega,⟨by(try dsimp only);omega,?_,by(try dsimp only);rw[OE];exact J,?_,?_,s M _ B,?_⟩,ai.keep ?_ (by simp[T])⟩
    .dsimp only;rw[b,Oi,Po];omega
    .dsimp only;rw[b,Oi,Po,Pj,R5 (Oc _),z,O4 (by omega)];rfl
    .dsimp only;rw[Rr (by omega)];have:=QH (List.drop 1) K
     rwa [Pv,Pv]at this
    .dsimp only;rw[O4 Z]
    .simp[Y,V,b]
   .rw[F]at b;simp only[PT]at b;simp;refine⟨(j+1,a,M),by(try dsimp only);omega,⟨by(try dsimp only);omega,by dsimp only;rw[b];omega,J,by dsimp only;rw[b];exact z,?_,B,v⟩,ai.keep (by simp[Y,b]) rfl⟩;dsimp only;have:=QH (List.drop 1) K
    rwa [Pv,Pv]at this
  .have:j=zs.length:=by omega
   subst this;rw[OT]at X z;have f:=qF pre a d (i:=(aV p zs).length) (n:=zs.length -(aV p zs).length) 0 (by omega);have D:a.take (aV p zs).length++List.replicate (zs.length -(aV p zs).length) 0++a.drop ((aV p zs).length+(zs.length -(aV p zs).length))=aV p zs++List.replicate (zs.length -(aV p zs).length) 0:=by
    rw[z,OK (by omega),Pt]
   rw[D]at f;simp[n1,W,J,f];refine⟨⟨by omega,by omega⟩,by omega,by omega,⟨by omega,by omega⟩,s H _ N⟩
end Go.AX
namespace Go.AX
set_option maxRecDepth 16000
open Go.Proofs
set_option linter.unusedSimpArgs false
@[simp] theorem BU:∀l:List (Int×Int),C0 (aS fI l)
 |[]=>trivial
 |(_,_)::l=>⟨trivial,BU l⟩
def Av(A:Ar)(T:Tr)(lits:List Int)(m:List (Int×Int)):List (List SV):=DX A T lits m 0++[[.pv (nL 0)],[.pv (ae T.lits.length)]]
def LD(A:Ar)(T:Tr)(lits:List Int)(h:List (List SV)):Prop:=∃m L,mX A T lits m∧h=Av A T lits m++[L]
theorem GZ(A:Ar)(T:Tr)(lits:List Int)(h:List (List SV))(L:List SV)(hi:LD A T lits h):LD A T lits (h.set 7 L):=by
 obtain⟨m,L0,h1,rfl⟩:=hi;exact⟨m,L,h1,rfl⟩
theorem D5(A:Ar)(T:Tr)(lits:List Int)(m:List (Int×Int))(L:List SV):AskAt A T lits m 0 (Av A T lits m++[L]):=⟨rfl,rfl,rfl,rfl,rfl⟩
theorem BV(A:Ar)(T:Tr)(lits:List Int)(hs:ShOk A T lits)(x:Int)(h:List (List SV))(i:LD A T lits h):
 aB Tryz.prog 165 [ae x,.ptr 5 0,.ptr 6 0] h (λr h'=>LD A T lits h'∧h'[7]?=h[7]?∧r=.pv (BL (ga A T lits x))):=by
 obtain⟨m,L,j,rfl⟩:=i;refine mo aG Tryz.func165 ?_;have hd:=GY A T lits 0 hs T.lits.length x T.lits.length m (Av A T lits m++[L]) (λ_ h=>h) (D5 A T lits m L) j;have e:(Av A T lits m++[L])[5]?=some [.pv (nL 0)]:=rfl;have f:(Av A T lits m++[L])[6]?=some [.pv (ae T.lits.length)]:=rfl;have d:(Av A T lits m++[L]).length=8:=rfl;have b:∀a,(Av A T lits m++[L]).set 3 [.omap true (aS fI a)]=Av A T lits a++[L]:=λ_=>rfl;have g:∀a,(Av A T lits a++[L])[7]?=some L:=λ_=>rfl;have n:=g m;generalize o:Av A T lits m++[L]=H at*;obtain⟨k,f5⟩:=N5.1 e;obtain⟨l,f6⟩:=N5.1 f;simp[k,f5,l,f6,nL];refine am.intro hd ?_ (by trivial);rintro _ _ ⟨a,c,rfl,rfl⟩;simp[ga];rw[b a];exact⟨a,L,c,rfl⟩
def oG(A:Ar)(T:Tr)(lits:List Int):List Int:=lits.take 1++aV (ga A T lits) (lits.drop 1)
def D6:Sch:=.take 0 (.take 1 (.take 2 (.take 3 (.fork [(4,.fork [(5,.fork [(6,.take 7 .done)])])]))))
theorem yB(A:Ar)(T:Tr)(lits:List Int)(hs:ShOk A T lits)(J:T.lits.length<=1000000):an Tryz.prog 93 [ke A,bB T,.seq false 1 (af lits)] (λr=>r=.own true 1 (af (oG A T lits))):=by
 refine Ab [6] aG Tryz.func93 ?_;have b:=λh=>DY h A T lits;have i:=ff T J;have p:=gP lits hs.few;simp only[ke,nJ,bB,cF]at b i;simp[ke,nJ,bB,cF];refine aj.intro p ?_
 by_cases c:lits=[]
 .subst c;simp[oG,aV]
 have w:0<lits.length:=PF.2 c;simp[c];refine aj.introM (b _) ?_;rintro _ _ ⟨rfl,rfl⟩;simp[nL,DX];refine⟨rfl,aj.intro i ?_⟩;simp;refine aX.one D6 (by kernel_rfl) ?_;simp[D6];refine⟨by omega,?_⟩;have I:∀l:List Int,List.drop lits.length (af lits)=[]:=λ_=>OK (by simp)
 by_cases c1:lits.length=1
 .obtain⟨u,rfl⟩:=Qo.1 c1;have n:oG A T [u]=[u]:=rfl;rw[n];generalize j:dY (br [[SV.pv (ke A)],[SV.pv (bB T)],[SV.pv (PV.seq false 1 (af [u]))],[SV.omap true []],[SV.pv (PV.fn (Fn.func 244) [] [PV.ptr 1 0,PV.ptr 3 0,PV.ptr 0 0,PV.ptr 2 0,PV.ptr 4 0])],[SV.pv (PV.fn (Fn.func 244) [] [PV.ptr 1 0,PV.ptr 3 0,PV.ptr 0 0,PV.ptr 2 0,PV.ptr 4 0])],[SV.pv (PV.lit (Value.int .i64 T.lits.length))]] 3) [PV.ptr 5 0,PV.ptr 6 0]=cap;have E:=gQ [] (by simp) 165 cap (λ_=>false) (λr=>by rw[←j];simp[br,ke,nJ,bB,cF]) (by rw[←j];rfl) (λk=>by rw[←j];simp[br,ke,nJ,bB,cF]) (by rw[←j];simp[br,ke,nJ,bB,cF,PV.old,pq,tU]) (λx hx=>by cases hx);refine aj.introX (dg.introS (o:=.slot 7) (lo:=1) (hi:=1) E (by simp) rfl rfl (by simp) (by simp) rfl (by simp[az]) trivial (by simp) (by rw[←j];simp) ?_);rintro k t ⟨rfl,rfl⟩ _ _;have q:aV (λ_=>false) []=[]:=rfl;simp[q,az,af]
 .have B:1<lits.length:=by omega
  have F := λ (pre a : List Value) (cp : Nat) (d : (lits.drop 1).length <= cp) => yA (lits.drop 1) (by have := hs.few; rw [OO]; omega) 165 [.ptr 5 0, .ptr 6 0] (ga A T lits) 7 (LD A T lits) rfl (GZ A T lits) pre a cp d (λ x _ h G => BV A T lits hs x h G) (Av A T lits [] ++ [blk pre (lits.drop 1) a]) ⟨[], _, D4 A T lits, rfl⟩ rfl; refine aj.introX (dg.introB (s := 7) (lo := 1) (hi := lits.length) (nw := true) (all := lits) (zs := lits.drop 1) (R := λ k f v => k = some (aV (ga A T lits) (lits.drop 1)).length ∧ f = aV (ga A T lits) (lits.drop 1) ++ List.replicate ((lits.drop 1).length - (aV (ga A T lits) (lits.drop 1)).length) 0 ∧ ∃ m, v = Av A T lits m)
   rfl (by simp) rfl rfl rfl (by simp) B (by rw[OT]) (by simp) (by simp) rfl (λpre a cp d K=>(F pre a cp d).mono ?_) ?_)
  .rintro r h' ⟨⟨m,L,N,rfl⟩,f,rfl,C,rfl⟩;have H:L=blk pre (aV (ga A T lits) (lits.drop 1)++List.replicate ((lits.drop 1).length -(aV (ga A T lits) (lits.drop 1)).length) 0) a:=QT C;subst H;have e:=iW (ga A T lits) (lits.drop 1);refine⟨_,_,Av A T lits m,⟨rfl,rfl,m,rfl⟩,by rw[Oi,Qs];omega,λk hk=>by cases hk;exact e,rfl,by simp[Av,DX,nL,nJ,cF],rfl,rfl⟩
  .rintro k f v ⟨rfl,rfl,m,rfl⟩ _ _;have n:oG A T lits=lits.take 1++aV (ga A T lits) (lits.drop 1):=rfl;have e:=iW (ga A T lits) (lits.drop 1);have M:=hs.few;generalize aV (ga A T lits) (lits.drop 1)=D at*;simp only[OO]at e;have g:(az (lits.take 1++(D++List.replicate (lits.length -1 -D.length) 0))).length=lits.length:=by
    simp only[az,Oj,Oi,Oe,Qs];omega
   simp[g];refine⟨by omega,?_⟩;rw[n];have h1:(lits.take 1).length=1:=by rw[Oe];omega
   generalize lits.take 1=Z at*;obtain⟨z,rfl⟩:=Qo.1 h1;have y:List.take (1+D.length) (az ([z]++(D++List.replicate (lits.length -1 -D.length) 0)))=af ([z]++D):=by
    unfold az af;rw[←QI,←OG,P4 (by simp;omega)]
   rw[y];rfl
end Go.AX
namespace Go.AX
open Go.Proofs
set_option linter.unusedSimpArgs false
def i7(l c:List Int)(v:Int):Nat:=(c.filter λy=>decide (b8 l y=v)).length
def fq(l c:List Int):List Int:=c.filter λy=>decide (0<=bf y∧b8 l y≠1∧b8 l y≠-1)
theorem mY(l:List Int):∀(c:List Int)(a b z:Nat),a+c.length<=1000000->b+c.length<=1000000->z+c.length<=1000000->
 c.foldl (Ge l) ((a:Int),(b:Int),(z:Int))=(((a+i7 l c 1:Nat):Int),((b+i7 l c (-1):Nat):Int),((z+(fq l c).length:Nat):Int))
 |[],a,b,z,_,_,_=>by simp[i7,fq]
 |y::c,a,b,z,d,f,hz=>by
  simp only[OC]at d f hz;rw[R1]
  by_cases c1:b8 l y=1
  .have e:Ge l ((a:Int),(b:Int),(z:Int)) y=(((a+1:Nat):Int),(b:Int),(z:Int)):=by
    unfold Ge;rw[N9 c1,ap (by dsimp only;omega) (by dsimp only;omega)];simp
   rw[e,mY l c (a+1) b z (by omega) (by omega) (by omega)];simp[i7,fq,c1];omega
  .by_cases c2:b8 l y=-1
   .have e:Ge l ((a:Int),(b:Int),(z:Int)) y=((a:Int),((b+1:Nat):Int),(z:Int)):=by
     unfold Ge;rw[N8 c1,N9 c2,ap (by dsimp only;omega) (by dsimp only;omega)];simp
    rw[e,mY l c a (b+1) z (by omega) (by omega) (by omega)];simp[i7,fq,c1,c2];omega
   .by_cases c3:0<=bf y
    .have e:Ge l ((a:Int),(b:Int),(z:Int)) y=((a:Int),(b:Int),((z+1:Nat):Int)):=by
      unfold Ge;rw[N8 c1,N8 c2,N9 c3,ap (by dsimp only;omega) (by dsimp only;omega)];simp
     rw[e,mY l c a b (z+1) (by omega) (by omega) (by omega)];simp[i7,fq,c1,c2,c3];omega
    .have e:Ge l ((a:Int),(b:Int),(z:Int)) y=((a:Int),(b:Int),(z:Int)):=by
      unfold Ge;rw[N8 c1,N8 c2,N8 c3]
     rw[e,mY l c a b z (by omega) (by omega) (by omega)];simp[i7,fq,c1,c2,c3]
theorem jJ(l:List Int)(y:Int):b8 l y=0∨b8 l y=1∨b8 l y=-1:=by
 unfold b8;split
 .exact .inl rfl
 .split
  .exact .inr (.inl rfl)
  .split
   .exact .inr (.inr rfl)
   .exact .inl rfl
theorem uD(l:List Int):∀(c:List Int)(n:Int),c.foldl (Id l) n=((fq l c).getLast?).getD n
 |[],n=>rfl
 |y::c,n=>by
  rw[R1,uD l c];have f:=jJ l y
  by_cases c1:0<=bf y∧b8 l y=0
  .have e:Id l n y=y:=by unfold Id;rw[N9 c1]
   have a:fq l (y::c)=y::fq l c:=by
    unfold fq;rw[O5,N9 (by rw[Ov];exact⟨c1.1,by omega,by omega⟩)]
   rw[e,a,List.getLast?_cons];rfl
  .have e:Id l n y=n:=by unfold Id;rw[N8 c1]
   have a:fq l (y::c)=fq l c:=by
    unfold fq;rw[O5,N8 (by rw[Ov];rintro⟨b,d,a3⟩;exact c1 ⟨b,by omega⟩)]
   rw[e,a]
theorem G6{l c:List Int}(p:c.length<=1000)(hx:∀y∈c,0<=bf y)(h:(ft l c).2=true):(ft l c).1∈c∧b8 l (ft l c).1=0∧∀y∈c,y≠(ft l c).1->b8 l y=-1:=by
 have o:=mY l c 0 0 0 (by omega) (by omega) (by omega);have f:LB l c=(((0+i7 l c 1:Nat):Int),((0+i7 l c (-1):Nat):Int),((0+(fq l c).length:Nat):Int)):=o;have h0:i7 l c 1=0∧(fq l c).length=1∧(ft l c).1=c.foldl (Id l) 0:=by
  unfold ft at h⊢;rw[f]at h⊢;dsimp only at h⊢
  by_cases e:((0+i7 l c 1:Nat):Int)≠0∨((0+(fq l c).length:Nat):Int)≠1
  .rw[N9 e]at h;cases h
  .rw[N8 e];refine⟨by omega,by omega,rfl⟩
 obtain⟨h1,k,m⟩:=h0;obtain⟨x,b⟩:=Qo.1 k;have n:(ft l c).1=x:=by rw[m,uD,b];rfl
 have j:x∈fq l c:=by rw[b];simp
 have a:=j;unfold fq at a;rw[OW,Ov]at a;rw[n];have v3:=jJ l x;refine⟨a.1,by omega,λy hy i=>?_⟩;have d:=jJ l y;have g:b8 l y≠1:=λe=>by
  have:y∈c.filter λy=>decide (b8 l y=1):=by rw[OW];exact⟨hy,by simpa using e⟩
  unfold i7 at h1;rw[PW h1]at this;cases this
 rcases d with d|d|d
 .have:y∈fq l c:=by
   unfold fq;rw[OW,Ov];exact⟨hy,hx y hy,by omega,by omega⟩
  rw[b]at this;simp at this;exact absurd this i
 .exact absurd d g
 .exact d
structure Cls6 (cs:List (List Int)) (ats:List Int):Prop where
  len:∀c∈cs,c.length<=1000
  chk:∀c∈cs,∀y∈c,au y 6=0
  pos:∀k,k<cs.length->0<=ats.getD k 0
theorem Nr{y:Int}(h:au y 6=0):y≠0∧-6<=y∧y<=6∧0<=bf y∧a8 (-y)=-y:=by
 obtain⟨a,b,c⟩:=(cR (by omega)).1 h;refine⟨a,b,c,?_,ap (by omega) (by omega)⟩;rw[ur];exact(bk y).2 ⟨a,by omega,by omega⟩
theorem uE{l:List Int}{y:Int}(h:b8 l y=-1):a8 (-y)∈l:=by
 unfold b8 at h;split at h
 .omega
 .split at h
  .omega
  .split at h
   .assumption
   .omega
def DkR(D:DK):Prop:=∀i (hi:i<D.t.rows.length),D.t.rows[i].rea<0∨(isA D.A D.t.rows[i].rea=true∧D.t.rows[i].l∈aq D.A D.t.rows[i].rea∧∀y∈aq D.A D.t.rows[i].rea,au y 6=0∧(y≠D.t.rows[i].l->a8 (-y)∈(D.t.rows.take i).map (·.l)))
structure DeskOk (D:DK):Prop where
  rel:RelD D.T D.t
  relA:RelA D.A D.a
  rea:DkR D
  len:D.A.row.length<=1000000
theorem D7{A:Ar}{q:Int}(h:isA A q=true):A.hd≠[]:=λe=>by
 unfold isA at h;rw[e]at h;simp[lk]at h
theorem uF{α:Type}{p:α->Bool}:∀{l:List α}{j:Nat}(hj:j<l.length),p l[j]=true->0<=iV p l∧iV p l<=j:=by
 intro l j hj h;unfold iV;cases a:l.findIdx? p with
 |none=>
  rw[QM]at a;have:=a _ (Od hj);rw[h]at this;cases this
 |some i=>
  rw[P2]at a;obtain⟨h1,d,c⟩:=a;dsimp only;refine⟨by omega,?_⟩;apply Int.ofNat_le.2;apply PA;intro b;exact c j b h
theorem D8(A:Ar)(T:Tr)(c:List Int):List.Sublist (oG A T c) c:=by
 have h:List.Sublist (c.take 1++aV (ga A T c) (c.drop 1)) (c.take 1++c.drop 1):=List.Sublist.append (Sk _) R6;rw[O8]at h;exact h
@[simp ↓ high] theorem LE{P:Program}{st:St}{a:Prop}{o:Op}{d:Option Tmp}{K:St->Prop}(h:a):zY P st a o d K=AE P st o d K:=
 propext ⟨λx=>x.1 h,λx=>⟨λ_=>x,λhn=>absurd h hn⟩⟩
instance:Inhabited Ro:=⟨⟨0,0,[]⟩⟩
theorem dr(l:Int):ab (-l)=ab l:=by
 unfold ab;rw[GL];unfold eG;split
 .split<;>split<;>omega
 .rfl
theorem yC(l:List Int):∀(c:List Int)(n:Int),-1<=n->n<=c.foldl (I0 l) n∧(c.foldl (I0 l) n=-1↔n=-1∧∀y∈c,0<=bf y->b8 l y=-1)
 |[],n,h=>by simp
 |y::c,n,h=>by
  have f:=jJ l y;rw[R1]
  by_cases q:0<=bf y∧n<b8 l y
  .have e:I0 l n y=b8 l y:=by unfold I0;rw[N9 q]
   rw[e];obtain⟨d,g2⟩:=yC l c (b8 l y) (by omega);refine⟨by omega,?_⟩;constructor
   .intro g;omega
   .rintro⟨b,a⟩;have:=a y (OA ..) q.1;omega
  .have e:I0 l n y=n:=by unfold I0;rw[N8 q]
   rw[e];obtain⟨d,g2⟩:=yC l c n h;refine⟨d,?_⟩;rw[g2];constructor
   .rintro⟨b,a⟩;refine⟨b,λz hz hx=>?_⟩;rcases OB.1 hz with rfl|hz
    .omega
    .exact a z hz hx
   .rintro⟨b,a⟩;exact⟨b,λz hz=>a z (Ou _ hz)⟩
theorem lp{l c:List Int}:DR l c=-1↔∀y∈c,0<=bf y->b8 l y=-1:=by
 have:=(yC l c (-1) (by omega)).2;unfold DR;rw[this];exact⟨λh=>h.2,λh=>⟨rfl,h⟩⟩
theorem wu{l:List Int}{x:Int}(d:b8 l x=0)(a:0<=bf x):∀{c:List Int},c.Nodup->x∈c->(∀y∈c,y≠x->b8 l y=-1)->fq l c=[x]
 |[],_,h,_=>by cases h
 |y::c,hn,b,ho=>by
  rw[PC]at hn;unfold fq
  by_cases e:y=x
  .subst e;rw[O5,N9 (by rw[Ov];exact⟨a,by omega,by omega⟩)];congr 1;rw[P0];intro z hz;have:=ho z (Ou _ hz) (λe=>hn.1 (e▸hz));simp[this]
  .have hy:=ho y (OA ..) e;rw[O5,N8 (by simp[hy])];rcases OB.1 b with rfl|b
   .exact absurd rfl e
   .exact wu d a hn.2 b (λz hz=>ho z (Ou _ hz))
theorem unit_of{l c:List Int}{x:Int}(i:c.length<=1000)(hn:c.Nodup)(h:x∈c)(b:0<=bf x)(d:b8 l x=0)(ho:∀y∈c,y≠x->b8 l y=-1):ft l c=(x,true):=by
 have g:=mY l c 0 0 0 (by omega) (by omega) (by omega);have a:LB l c=(((0+i7 l c 1:Nat):Int),((0+i7 l c (-1):Nat):Int),((0+(fq l c).length:Nat):Int)):=g;have h1:=wu d b hn h ho;have f:i7 l c 1=0:=by
  unfold i7;rw[Qk,P0];intro y hy
  by_cases e:y=x
  .subst e;simp[d]
  .simp[ho y hy e]
 unfold ft;rw[a,h1,f,uD,h1];simp
structure ClsN (cs:List (List Int)) (ats:List Int):Prop extends Cls6 cs ats where
  nd:∀c∈cs,c.Nodup
def Calm(cs:List (List Int))(ls:List Int):Prop:=∀c∈cs,(ft ls c).2=false∧DR ls c≠-1
def dv(t:RT):List Int:=t.rows.map (·.l)
def bel(t:RT)(k:Int):List Int:=(t.rows.filter λx=>decide (x.lev<k)).map (·.l)
inductive Tra (cs:List (List Int)) (ats:List Int):RT->Prop
  |nil:Tra cs ats ⟨6,[],0⟩
  |dec {t:RT} {l:Int}:Tra cs ats t->mayR t l=0->Calm cs (dv t)->Tra cs ats ⟨t.vars,t.rows++[⟨l,t.dep+1,-1⟩],t.dep+1⟩
  |imp {t:RT} {k:Nat} {x:Int} (hk:k<cs.length):Tra cs ats t->mayR t x=0->ft (dv t) cs[k]=(x,true)->Tra cs ats ⟨t.vars,t.rows++[⟨x,t.dep,ats.getD k 0⟩],t.dep⟩
theorem G8{t:RT}(h:∀x∈t.rows,x.lev<=t.dep):bel t (t.dep+1)=dv t:=by
 unfold bel dv;rw[Qf.2];intro x hx;have:=h x hx;simp;omega
theorem fh{t:RT}{k:Int}:∀y∈bel t k,y∈dv t:=by
 intro y hy;unfold bel at hy;obtain⟨x,hx,rfl⟩:=Of.1 hy;exact Of.2 ⟨x,(OW.1 hx).1,rfl⟩
theorem D9{t:RT}{l:Int}(h:mayR t l=0):au l t.vars=0∧oE t (ab l)<0:=by
 unfold mayR at h;split at h
 .cases h
 .rename_i c1;split at h
  .cases h
  .exact⟨by simpa using c1,by omega⟩
theorem uG{t:RT}{v:Int}(h:oE t v<0):∀x∈t.rows,ab x.l≠v:=by
 intro x hx e;obtain⟨j,hj,rfl⟩:=Oo hx;have:=uF (p:=λx:En=>decide (ab x.l=v)) hj (by simp[e]);unfold oE at h;omega
structure TraF (cs:List (List Int)) (ats:List Int) (t:RT):Prop where
  vars:t.vars=6
  dep:0<=t.dep
  chk:∀x∈t.rows,au x.l 6=0
  nd:(t.rows.map λx=>ab x.l).Nodup
  lev:∀x∈t.rows,0<=x.lev∧x.lev<=t.dep
  mono:∀i j (hi:i<t.rows.length)(hj:j<t.rows.length),i<j->t.rows[i].lev<=t.rows[j].lev
  dec:∀i (hi:i<t.rows.length),t.rows[i].rea<0->0<t.rows[i].lev∧∀j (hj:j<t.rows.length),j<i->t.rows[j].lev<t.rows[i].lev
  top:0<t.dep->Calm cs (bel t t.dep)
  fst:∀k:Int,0<k->k<=t.dep->∃x∈t.rows,x.lev=k∧x.rea<0
  imp:∀i (hi:i<t.rows.length),0<=t.rows[i].rea->∃k,∃hk:k<cs.length,t.rows[i].rea=ats.getD k 0∧t.rows[i].l∈cs[k]∧(∀y∈cs[k],y≠t.rows[i].l->∃j,∃hj:j<t.rows.length,j<i∧t.rows[j].l=-y)∧
    (0<t.rows[i].lev->∃y∈cs[k],y≠t.rows[i].l∧∃j,∃hj:j<t.rows.length,j<i∧t.rows[j].l=-y∧t.rows[j].lev=t.rows[i].lev)
theorem gV{α:Type}{l:List α}{x:α}{i:Nat}(h:i<(l++[x]).length):(∃hi:i<l.length,(l++[x])[i]=l[i])∨(i=l.length∧(l++[x])[i]=x):=by
 by_cases c:i<l.length
 .exact .inl ⟨c,OZ c⟩
 .have:i=l.length:=by simp at h;omega
  subst this;exact .inr ⟨rfl,by simp⟩
theorem TraF.inj{cs:List (List Int)}{ats:List Int}{t:RT}(h:TraF cs ats t){i j:Nat}(hi:i<t.rows.length)(hj:j<t.rows.length)(e:ab t.rows[i].l=ab t.rows[j].l):i=j:=by
 have hn:=OR.1 (Qa.1 h.nd);rcases PM i j with c|c|c
 .exact absurd e (hn i j hi hj c)
 .exact c
 .exact absurd e.symm (hn j i hj hi c)
theorem TraF.one{cs:List (List Int)}{ats:List Int}{t:RT}(h:TraF cs ats t){y:Int}(hy:au y 6=0):¬(y∈dv t∧-y∈dv t):=by
 rintro⟨h1,d⟩;unfold dv at h1 d;obtain⟨a,g,e⟩:=Of.1 h1;obtain⟨b,k,f⟩:=Of.1 d;obtain⟨i,hi,rfl⟩:=Oo g;obtain⟨j,hj,rfl⟩:=Oo k;have m:ab t.rows[i].l=ab t.rows[j].l:=by rw[e,f,dr]
 have c:i=j:=h.inj hi hj m;subst c;obtain⟨n0,_⟩:=Nr hy;omega
structure Way (cs:List (List Int)) (ats:List Int) (D:DK):Prop where
  rel:RelD D.T D.t
  tra:Tra cs ats D.t
  con:(D.con<0∧Calm cs (dv D.t))∨∃k,∃hk:k<cs.length,D.con=ats.getD k 0∧DR (dv D.t) cs[k]=-1
theorem BW{l:List Int}(h:jW l l.length=0):l.Nodup:=by
 refine OR.2 λi j hi hj b e=>?_;have a:=qN l (i:=j+1) l.length (by omega);rw[jW]at a;have:l.getD j 0∈l.take j:=by
  rw[N7,N6 hj,OH,←e];rw[Pm];exact⟨i,by omega,rfl⟩
 rw[N9 this]at a;omega
structure DeskT (cs:List (List Int)) (ats:List Int) (D:DK):Prop where
  ok:DeskOk D
  cls:ClsN cs ats
  way:Way cs ats D
  ars:∀k (hk:k<cs.length),isA D.A (ats.getD k 0)=true∧aq D.A (ats.getD k 0)=cs[k]
structure PS where
  seen:List (Int×Int)
  lits:List Int
  many:Nat
def ay(s:List (Int×Int))(v:Int):Bool:=decide (0<(lk s v).getD 0)
def dw(T:Tr)(l:Int):Int:=(dm T (ab l)).1.lev
def takeF(T:Tr)(but:Int)(p:PS)(l:Int):PS:=
 if ab l=but∨ay p.seen (ab l)=true∨dw T l<=0 then p
 else if dw T l=T.beg.length then⟨pt p.seen (ab l) 1,p.lits,p.many+1⟩else⟨pt p.seen (ab l) 1,p.lits++[l],p.many⟩
def c9(T:Tr)(but:Int)(c:List Int)(p:PS):PS:=c.foldl (takeF T but) p
def my(T:Tr)(p:PS)(l:Int):Bool:=ay p.seen (ab l)&&(decide (dw T l=T.beg.length)&&decide (0<=(dm T (ab l)).1.rea))
def mZ(A:Ar)(T:Tr)(p:PS)(l:Int):PS:=c9 T (ab l) (aq A (dm T (ab l)).1.rea) ⟨pt p.seen (ab l) 0,p.lits,p.many -1⟩
def cA(A:Ar)(T:Tr)(all:List Int):Nat->PS->PS
 |0,p=>p
 |n+1,p=>if p.many<=1 then p else if my T p (all.getD n 0)=true then cA A T all n (mZ A T p (all.getD n 0))else cA A T all n p
def pB(T:Tr)(all:List Int)(p:PS):List Int:=p.lits++(all.filter λl=>ay p.seen (ab l)&&decide (dw T l=T.beg.length)).map λl=>a8 (-l)
/-! ### Places of what is assigned -/
theorem TraF.pla{cs:List (List Int)}{ats:List Int}{t:RT}(h:TraF cs ats t){j:Nat}(hj:j<t.rows.length):oE t (ab t.rows[j].l)=j:=by
 have h1:=uF (p:=λx:En=>decide (ab x.l=ab t.rows[j].l)) hj (by simp);obtain⟨i,hi,a,b⟩:=jF (t:=t) (v:=ab t.rows[j].l) h1.1;have:=h.inj hi hj b;subst this;exact a
theorem oH{t:RT}{j:Nat}(hj:j<t.rows.length){y:Int}(hy:t.rows[j].l=-y):ab y=ab t.rows[j].l:=by rw[hy,dr]
theorem gW{t:RT}{j:Nat}(hj:j<t.rows.length){y:Int}(hy:t.rows[j].l=-y):y=-t.rows[j].l:=by omega
/-! ### Counting -/
theorem m6{α:Type}{P Q:α->Bool}:∀{l:List α}{j:Nat}(hj:j<l.length),P l[j]=false->Q l[j]=true->(∀i (hi:i<l.length),i≠j->Q l[i]=P l[i])->l.countP Q=l.countP P+1
 |[],j,hj,_,_,_=>by simp at hj
 |x::l,0,hj,a,b,ho=>by
  simp only[Q6]at a b;have:l.countP Q=l.countP P:=by
   apply List.countP_congr;intro y hy;obtain⟨i,hi,rfl⟩:=Oo hy;have:=ho (i+1) (by simpa using hi) (by omega);simp only[Qy]at this;rw[this]
  rw[QD,QD,this,a,b];simp
 |x::l,j+1,hj,a,b,ho=>by
  simp only [Qy] at a b; have h0 := ho 0 (by simp) (by omega); simp only [Q6] at h0; have := m6 (l := l) (j := j) (by simpa using hj) a b (λ i hi c => by
   have:=ho (i+1) (by simpa using hi) (by omega);simpa using this)
  rw[QD,QD,this,h0];omega
theorem qV{α:Type}{P:α->Bool}:∀{l:List α},2<=l.countP P->∃i j,∃hi:i<l.length,∃hj:j<l.length,i<j∧P l[i]=true∧P l[j]=true
 |[],h=>by simp at h
 |x::l,h=>by
  rw[QD]at h
  by_cases c:P x=true
  .rw[N9 c]at h;have:0<l.countP P:=by omega
   rw[R7]at this;obtain⟨y,hy,hp⟩:=this;obtain⟨j,hj,rfl⟩:=Oo hy;exact⟨0,j+1,by simp,by simpa using hj,by omega,by simpa using c,by simpa using hp⟩
  .rw[N8 c]at h;obtain⟨i,j,hi,hj,a,b,d⟩:=qV (l:=l) (by omega);exact⟨i+1,j+1,by simpa using hi,by simpa using hj,by omega,by simpa using b,by simpa using d⟩
/-! ### What is known while a conflict is taken apart -/
structure LI (t:RT) (p:PS) (n:Nat):Prop where
  sn:∀v,ay p.seen v=true->∃j,∃hj:j<t.rows.length,ab t.rows[j].l=v∧0<t.rows[j].lev∧(t.rows[j].lev=t.dep->j<n∨t.rows[j].rea<0)
  li:∀l∈p.lits,∃j,∃hj:j<t.rows.length,t.rows[j].l=-l∧0<t.rows[j].lev∧t.rows[j].lev<t.dep
  ls:∀j (hj:j<t.rows.length),ay p.seen (ab t.rows[j].l)=true->t.rows[j].lev<t.dep->-t.rows[j].l∈p.lits
  mn:p.many=t.rows.countP (λx=>ay p.seen (ab x.l)&&decide (x.lev=t.dep))
theorem lX(s:List (Int×Int))(v w:Int)(n:Int):ay (pt s v n) w=if v=w then decide (0<n)else ay s w:=by
 unfold ay;rw[bD];split<;>rfl
theorem I6(t:RT)(n:Nat):LI t ⟨[],[],0⟩ n where
 sn:=λv h=>by simp[ay,lk]at h
 li:=by simp
 ls:=λj hj h=>by simp[ay,lk]at h
 mn:=by
  symm;rw[SR];intro x _;simp[ay,lk]
/-! ### The one literal of the greatest level first -/
def ct(T:Tr)(out:List Int):Nat->Int×Nat×Nat
 |0=>(-1,0,0)
 |i+1=>if(ct T out i).1<dw T (out.getD i 0)then(dw T (out.getD i 0),1,i)
  else if dw T (out.getD i 0)=(ct T out i).1 then((ct T out i).1,(ct T out i).2.1+1,(ct T out i).2.2)else ct T out i
def Ea(T:Tr)(out:List Int):List Int:=if(ct T out out.length).2.1=1 then out.getD (ct T out out.length).2.2 0::out.eraseIdx (ct T out out.length).2.2 else out
def Eb(T:Tr)(lits:List Int):List Int:=Ea T (d4 lits)
def gn(A:Ar)(T:Tr)(con:Int):PS:=c9 T 0 (aq A con) ⟨[],[],0⟩
def cY(A:Ar)(T:Tr)(con:Int):List Int:=Eb T (pB T T.lits (cA A T T.lits T.lits.length (gn A T con)))
theorem wv{T:Tr}{out:List Int}{k:Nat}(hk:k<out.length)(h0:0<=dw T out[k])(ho:∀i (hi:i<out.length),i≠k->dw T out[i]<dw T out[k]):∀i,i<=out.length->
 if k<i then ct T out i=(dw T out[k],1,k)else(ct T out i).1<dw T out[k]
 |0,_=>by rw[N8 (by omega)];simp only[ct];omega
 |i+1,hi=>by
  have a:=wv hk h0 ho i (by omega);have b:out.getD i 0=out[i]:=by rw[N7,N6 (by omega)];rfl
  rw[ct,b]
  by_cases c:k<i
  .rw[N9 c]at a;have:=ho i (by omega) (by omega);rw[N9 (by omega),a];dsimp only;rw[N8 (by omega),N8 (by omega)]
  .rw[N8 c]at a
   by_cases e:k=i
   .subst e;rw[N9 (by omega),N9 a]
   .have:=ho i (by omega) (by omega);rw[N8 (by omega)];split
    .exact this
    .split
     .exact a
     .exact a
theorem G9{T:Tr}{out:List Int}{k:Nat}(hk:k<out.length)(h0:0<=dw T out[k])(ho:∀i (hi:i<out.length),i≠k->dw T out[i]<dw T out[k]):Ea T out=out[k]::out.eraseIdx k:=by
 have:=wv hk h0 ho out.length (Oc _);rw[N9 hk]at this;unfold Ea;rw[this,N9 rfl,N7,N6 hk];rfl
theorem lq{l:List Int}{k:Nat}(hk:k<l.length)(x:Int):x∈l[k]::l.eraseIdx k↔x∈l:=by
 rw[OB,Q3];constructor
 .rintro(rfl|⟨i,hi,_,rfl⟩)
  .exact Od hk
  .exact Od _
 .intro h;obtain⟨i,hi,rfl⟩:=Oo h
  by_cases e:i=k
  .subst e;exact .inl rfl
  .exact .inr ⟨i,hi,e,rfl⟩
theorem sV{l:List Int}(h:l.Nodup){i j:Nat}(hi:i<l.length)(hj:j<l.length)(e:l[i]=l[j]):i=j:=by
 have hn:=OR.1 h;rcases PM i j with c|c|c
 .exact absurd e (hn i j hi hj c)
 .exact c
 .exact absurd e.symm (hn j i hj hi c)
theorem ww(c:List Int):(d4 c).Nodup:=(nE c).1.imp λh e=>by rw[e]at h;omega
/-! ### What reasons show -/
inductive HOk (A:Ar) (T:Tr) (R:List Int):Int->Prop
  |stop {l:Int}:l∈R->HOk A T R l
  |why {l:Int}:bZ T l<0->0<=(dm T (ab l)).1.rea->isA A (dm T (ab l)).1.rea=true->(∀y∈aq A (dm T (ab l)).1.rea,y≠-l->HOk A T R y)->HOk A T R l
def Fr(D:DK)(p:PS)(R:List Int):Prop:=∀j (hj:j<D.t.rows.length),ay p.seen (ab D.t.rows[j].l)=true->HOk D.A D.T R (-D.t.rows[j].l)
structure Conf (D:DK) (con:Int):Prop where
  is:isA D.A con=true
  neg:∀y∈aq D.A con,au y 6=0∧∃j,∃hj:j<D.t.rows.length,D.t.rows[j].l=-y
  top:0<D.t.dep->∃y∈aq D.A con,∃j,∃hj:j<D.t.rows.length,D.t.rows[j].l=-y∧D.t.rows[j].lev=D.t.dep
structure Learnt (D:DK) (L:List Int):Prop where
  nd:L.Nodup
  neg:∀y∈L,au y 6=0∧∃j,∃hj:j<D.t.rows.length,D.t.rows[j].l=-y∧0<D.t.rows[j].lev
  nil:D.t.dep=0->L=[]
  top:0<D.t.dep->∃u r,L=u::r∧dw D.T u=D.t.dep∧∀y∈r,dw D.T y<D.t.dep
theorem m7{α:Type}{P:α->Bool}:∀{l:List α}{i j:Nat}(b:i<j)(hj:j<l.length),P (l[i]'(by omega))=true->P l[j]=true->2<=l.countP P
 |[],i,j,_,hj,_,_=>by simp at hj
 |x::l,0,j+1,_,hj,h1,a=>by
  simp only[Q6,Qy]at h1 a;have:0<l.countP P:=R7.2 ⟨_,Od (by simpa using hj),a⟩;rw[QD,N9 h1];omega
 |x::l,i+1,j+1,b,hj,h1,a=>by
  simp only[Qy]at h1 a;have:=m7 (l:=l) (i:=i) (j:=j) (by omega) (by simpa using hj) h1 a;rw[QD];omega
theorem BX:d4 []=[]:=by
 have:=(nE []).2;cases e:d4 []with
 |nil=>rfl
 |cons x l=>have h:=(this x).1 (by rw[e];simp);simp at h
end Go.AX
namespace Go.AX
set_option maxRecDepth 16000
open Go.Proofs
set_option linter.unusedSimpArgs false
def ic(A:Ar)(T:Tr)(p:PS):List SV:=[.pv (ke A),.pv (bB T),.omap true (aS fI p.seen),.own true 1 (af p.lits),.pv (ae p.many)]
@[simp] theorem LJ(r:Nat->Nat->PV)(A:Ar):dY r (nJ A)=nJ A:=by simp[nJ]
@[simp] theorem LK(r:Nat->Nat->PV)(T:Tr):dY r (cF T)=cF T:=by simp[cF]
@[simp] theorem I7(k:Nat)(A:Ar):bR k (nJ A):=by simp[nJ]
@[simp] theorem I8(k:Nat)(T:Tr):bR k (cF T):=by simp[cF]
theorem aN(k:Nat)(A:Ar)(T:Tr)(p:PS):cM k (ic A T p):=⟨⟨⟨bd k _,gE k _,trivial⟩,trivial⟩,⟨⟨mS k _,bd k _,bd k _,trivial,trivial⟩,trivial⟩,gE k _,bd k _,trivial,trivial⟩
theorem Ec(T:Tr)(but:Int)(p:PS)(l:Int):(takeF T but p l).many<=p.many+1∧(takeF T but p l).lits.length<=p.lits.length+1:=by
 unfold takeF;split
 .exact⟨by omega,by omega⟩
 .split
  .exact⟨by simp,by simp⟩
  .exact⟨by simp,by simp⟩
theorem i8(T:Tr)(but:Int):∀(c:List Int)(p:PS),(c9 T but c p).many<=p.many+c.length∧(c9 T but c p).lits.length<=p.lits.length+c.length
 |[],p=>⟨Oc _,Oc _⟩
 |y::c,p=>by
  have h1:=Ec T but p y;have a:=i8 T but c (takeF T but p y);have e:c9 T but (y::c) p=c9 T but c (takeF T but p y):=rfl;rw[e,OC];omega
theorem qW(T:Tr)(but:Int)(c:List Int)(p:PS){i:Nat}(h:i<c.length):c9 T but (c.take (i+1)) p=takeF T but (c9 T but (c.take i) p) c[i]:=pA _ _ _ _ h
theorem Ed(A:Ar)(T:Tr)(p:PS)(q but:Int)(ht:T.ok)(h0:A.hd≠[])(hk:jI A)(k:A.row.length<=1000000)(m:p.many<=1000000000)(hp:p.lits.length<=1000000000):
 aB Tryz.prog 161 [.ptr 0 0,ae q,ae but] [ic A T p] (λr h'=>h'=[ic A T (c9 T but (aq A q) p)]∧r=.pv (.tup [])):=by
 refine gR [] [] [ic A T (c9 T but (aq A q) p)] (by simp) (λ_=>⟨aN _ _ _ _,trivial⟩) aG Tryz.func161 ?_;have j:=iZ A h0 hk k q;have l:=eQ A hk q;generalize aq A q=c at*;simp[ic];refine aj.intro j ?_;simp;refine aJ.intro (S:=λ(i:Nat)=>⟨[(0,.pv (.ptr 0 0)),(2,.pv (ae but)),(6,.pv (.fn (.func 170) [bB T] [])),(20,.own true 1 (af c)),(21,.pv (ae c.length)),(22,.pv (ae i))],[ic A T (c9 T but (c.take i) p)]⟩) (λi=>i<=c.length) (λi=>c.length -i) 0 ?_ (Oz _) ?_
 .exact ai.to (by simp) (by simp[ic,c9]) (by simp) (by simp) (by simp[aN])
 intro i hi
 by_cases h:i<c.length
 rotate_left
 .have f:i=c.length:=by omega
  subst f;simp[ic,fc]
 have d:=fQ i;have hs:=qW T but c p h;have hle:=i8 T but (c.take i) p;rw[Oe]at hle;generalize c9 T but (c.take i) p=s at*;have b:=eO T (ab c[i]) ht;simp[h,ic];refine aj.intro (aF c[i]) ?_;simp;refine bK.intro (λ_=>b) ?_
 by_cases c1:ab c[i]=but
 .have hd:takeF T but s c[i]=s:=by unfold takeF;rw[N9 (.inl c1)]
  simp[c1];refine⟨i+1,by(try dsimp only);omega,by(try dsimp only);omega,ai.to (by simp[d]) (by simp[ic,hs,hd]) (by simp) (by simp) (by simp[aN])⟩
 by_cases c2:0<(lk s.seen (ab c[i])).getD 0
 .have hd:takeF T but s c[i]=s:=by unfold takeF;rw[N9 (.inr (.inl (by simpa[ay]using c2)))]
  simp[c1,c2];refine⟨i+1,by(try dsimp only);omega,by(try dsimp only);omega,ai.to (by simp[d]) (by simp[ic,hs,hd]) (by simp) (by simp) (by simp[aN])⟩
 have a:(lk s.seen (ab c[i])).getD 0<=0:=by omega
 by_cases c3:(dm T (ab c[i])).1.lev<=0
 .have hd:takeF T but s c[i]=s:=by unfold takeF;rw[N9 (.inr (.inr c3))]
  simp[c1,c2,a,c3];refine⟨i+1,by(try dsimp only);omega,by(try dsimp only);omega,ai.to (by simp[d]) (by simp[ic,hs,hd]) (by simp) (by simp) (by simp[aN])⟩
 have hd:takeF T but s c[i]=if(dm T (ab c[i])).1.lev=T.beg.length then⟨pt s.seen (ab c[i]) 1,s.lits,s.many+1⟩else⟨pt s.seen (ab c[i]) 1,s.lits++[c[i]],s.many⟩:=by
  unfold takeF;rw[N8]
  .rfl
  rintro(e|e|e)
  .exact c1 e
  .exact c2 (by simpa[ay]using e)
  .exact c3 e
 simp[c1,c2,a,c3];refine bA.intro b ?_;simp;refine bA.intro (lV T) ?_
 by_cases c4:(dm T (ab c[i])).1.lev=T.beg.length
 .rw[N9 c4]at hd;have g:=fQ s.many;simp[c4];refine⟨i+1,by(try dsimp only);omega,by(try dsimp only);omega,ai.to (by simp[d]) (by simp[ic,hs,hd,g]) (by simp) (by simp) (by simp[aN])⟩
 .rw[N8 c4]at hd;simp[c4];refine⟨by omega,i+1,by(try dsimp only);omega,by(try dsimp only);omega,ai.to (by simp[d]) (by simp[ic,hs,hd,af]) (by simp) (by simp) (by simp[aN])⟩
def i9(T:Tr)(p:PS)(all:List Int):Nat->Int
 |0=>-1
 |n+1=>if my T p (all.getD n 0)=true then(n:Int)else i9 T p all n
theorem BY(A:Ar)(T:Tr)(all:List Int)(p:PS)(h:p.many<=1):∀k,cA A T all k p=p
 |0=>rfl
 |k+1=>by rw[cA,N9 h]
theorem wx(A:Ar)(T:Tr)(all:List Int)(p:PS):∀k,(i9 T p all k=-1∧cA A T all k p=p)∨∃j,j<k∧i9 T p all k=(j:Int)∧(1<p.many->cA A T all k p=cA A T all j (mZ A T p (all.getD j 0)))
 |0=>.inl ⟨rfl,rfl⟩
 |k+1=>by
  rw[i9,cA]
  by_cases c:my T p (all.getD k 0)=true
  .rw[N9 c,N9 c];exact .inr ⟨k,by omega,rfl,λh=>by rw[N8 (by omega)]⟩
  .rw[N8 c,N8 c];rcases wx A T all p k with⟨h1,a⟩|⟨j,h1,a,b⟩
   .refine .inl ⟨h1,?_⟩;split
    .rfl
    .exact a
   .refine .inr ⟨j,by omega,a,λh=>?_⟩;rw[N8 (by omega)];exact b h
theorem Ee(A:Ar)(T:Tr)(p:PS)(all:List Int)(n:Nat)(ht:T.ok)(hn:n<=all.length)(q:all.length<=1000000):
 aB Tryz.prog 240 [.ptr 0 0,.seq false 1 (af all),ae ((n:Int) -1)] [ic A T p] (λr h'=>h'=[ic A T p]∧r=.pv (ae (i9 T p all n))):=by
 refine gR [] [.tmp 6] [ic A T p] (by simp) (λ_=>⟨aN _ _ _ _,trivial⟩) aG Tryz.func240 ?_;generalize l:i9 T p all n=F;simp;refine aJ.intro (S:=λ(k:Nat)=>⟨[(0,.pv (.ptr 0 0)),(1,.pv (.seq false 1 (af all))),(7,.pv (ae ((k:Int) -1)))],[ic A T p]⟩) (λk=>k<=n∧F=i9 T p all k) (λk=>k) n ?_ ⟨Oc _,l.symm⟩ ?_
 .exact ai.to (by simp) (by simp) (by simp) (by simp) (by simp[aN])
 rintro k ⟨hk,a⟩;cases k with
 |zero=>simp[i9]at a;subst a;simp[fc]
 |succ j=>
  have hj:j<all.length:=by omega
  have m:all.getD j 0=all[j]:=by rw[N7,N6 hj];rfl
  have o:a8 ((j:Int) -1)=(j:Int) -1:=ap (by omega) (by omega);have c:=eO T (ab all[j]) ht;have e:=fE T (ab all[j]) ht;have d:i9 T p all (j+1)=if my T p all[j]=true then(j:Int)else i9 T p all j:=by rw[i9,m]
  have i:my T p all[j]=(decide (0<(lk p.seen (ab all[j])).getD 0)&&(decide ((dm T (ab all[j])).1.lev=T.beg.length)&&decide (0<=(dm T (ab all[j])).1.rea))):=rfl;rw[d,i]at a;simp[hj,ic];refine aj.intro (aF all[j]) ?_;simp;refine dO.intro (λ_=>c) ?_;simp;refine dO.intro (λ_=>lV T) ?_;simp;refine dO.intro (λ_=>e) ?_
  by_cases b:(0<(lk p.seen (ab all[j])).getD 0∧(dm T (ab all[j])).1.lev=T.beg.length)∧0<=(dm T (ab all[j])).1.rea
  .obtain⟨⟨f,g⟩,h⟩:=b;rw[N9 (by simp[f,g,h])]at a;subst a;simp[f,g,h,fc,ic]
  .rw[N8 (by simpa[and_assoc]using b)]at a;simp[b];refineλ_=>⟨j,by(try dsimp only);omega,⟨by(try dsimp only);omega,a⟩,ai.to (by simp[o]) (by simp[ic]) (by simp) (by simp) (by simp[aN])⟩
end Go.AX
namespace Go.AX
open Go.Proofs
set_option linter.unusedSimpArgs false
theorem Ha(A:Ar)(T:Tr)(hk:jI A)(b:A.row.length<=1000000)(p:PS)(l:Int):(mZ A T p l).many<=p.many+1000000∧(mZ A T p l).lits.length<=p.lits.length+1000000:=by
 have h:=i8 T (ab l) (aq A (dm T (ab l)).1.rea) ⟨pt p.seen (ab l) 0,p.lits,p.many -1⟩;have a:=eQ A hk (dm T (ab l)).1.rea;dsimp only at h;unfold mZ;omega
def Ef(T:Tr)(p:PS)(l:Int):Bool:=ay p.seen (ab l)&&decide (dw T l=T.beg.length)
def mz(T:Tr)(all:List Int)(p:PS)(i:Nat):List Int:=p.lits++((all.take i).filter (Ef T p)).map λl=>a8 (-l)
theorem yD(T:Tr)(all:List Int)(p:PS){i:Nat}(h:i<all.length):mz T all p (i+1)=if Ef T p all[i]=true then mz T all p i++[a8 (-all[i])]else mz T all p i:=by
 unfold mz;rw[←QU h,PD,OJ]
 by_cases c:Ef T p all[i]=true
 .rw[N9 c,O5,N9 c];simp
 .rw[N8 c,O5,N8 c];simp
theorem wy(T:Tr)(all:List Int)(p:PS)(i:Nat)(hi:i<=all.length):(mz T all p i).length<=p.lits.length+i:=by
 unfold mz;rw[Oi,Oj];have:=P6 (Ef T p) (all.take i);rw[Oe]at this;omega
theorem sW(T:Tr)(all:List Int)(p:PS):mz T all p all.length=pB T all p:=by
 unfold mz pB;rw[OT];rfl
def fin(A:Ar)(T:Tr)(all:List Int)(p:PS):PS:=⟨(cA A T all all.length p).seen,pB T all (cA A T all all.length p),(cA A T all all.length p).many⟩
set_option maxRecDepth 16000 in
theorem Eg(A:Ar)(T:Tr)(p:PS)(all:List Int)(ht:T.ok)(h0:A.hd≠[])(hk:jI A)(I:A.row.length<=1000000)(hn:all.length<=400)(N:p.many<=1000000)(hp:p.lits.length<=1000000):
 aB Tryz.prog 162 [.ptr 0 0,.seq false 1 (af all)] [ic A T p] (λr h'=>h'=[ic A T (fin A T all p)]∧r=.pv (.tup [])):=by
 refine gR [] [] [ic A T (fin A T all p)] (by simp) (λ_=>⟨aN _ _ _ _,trivial⟩) aG Tryz.func162 ?_;have a:=λp n hn=>Ee A T p all n ht hn (by omega);have C:a8 ((all.length:Int) -1)=(all.length:Int) -1:=ap (by omega) (by omega);unfold fin;generalize K:cA A T all all.length p=F;simp[C];refine am.intro (a p all.length (Oc _)) ?_;rintro _ _ ⟨rfl,rfl⟩;simp;refine aJ.intro (S:=λ(x:Nat×PS)=>⟨[(0,.pv (.ptr 0 0)),(1,.pv (.seq false 1 (af all))),(4,.pv (ae (i9 T x.2 all x.1)))],[ic A T x.2]⟩) (λx=>x.1<=all.length∧F=cA A T all x.1 x.2∧x.2.many<=1000000*(all.length -x.1+1)∧x.2.lits.length<=1000000*(all.length -x.1+1)) (λx=>x.1) (all.length,p) ?_ ⟨Oc _,K.symm,by dsimp only;omega,by dsimp only;omega⟩ ?_
 .exact ai.to (by simp) (by simp) (by simp) (by simp) (by simp[aN])
 rintro⟨k,s⟩ ⟨t,b,w,y⟩;dsimp only at t b w y;have d:=wx A T all s k
 by_cases H:(1:Int)<(s.many:Int)∧0<=i9 T s all k
 rotate_left
 .have m:F=s:=by
   rcases d with⟨h1,e⟩|⟨j,h1,e,D⟩
   .rw[b,e]
   .rw[b,BY A T all s (by omega)]
  subst m;clear b d a;simp[ic,H];intro _;refine aJ.intro (S:=λ(i:Nat)=>⟨[(0,.pv (.ptr 0 0)),(1,.pv (.seq false 1 (af all))),(55,.pv (.seq false 1 (af all))),(56,.pv (ae all.length)),(57,.pv (ae i))],[ic A T ⟨F.seen,mz T all F i,F.many⟩]⟩) (λi=>i<=all.length) (λi=>all.length -i) 0 ?_ (Oz _) ?_
  .exact ai.to (by simp) (by simp[ic,mz]) (by simp) (by simp) (by simp[aN])
  intro i hi
  by_cases h:i<all.length
  rotate_left
  .have q:i=all.length:=by omega
   subst q;simp[ic,fc,sW]
  have J:=fQ i;have c:=yD T all F h;have hle:=wy T all F i hi;have u:=eO T (ab all[i]) ht;have E:Ef T F all[i]=(decide (0<(lk F.seen (ab all[i])).getD 0)&&decide ((dm T (ab all[i])).1.lev=T.beg.length)):=rfl;simp[h,ic];refine aj.intro (aF all[i]) ?_;simp;refine dO.intro (λ_=>u) ?_;simp;refine dO.intro (λ_=>lV T) ?_
  by_cases hd:0<(lk F.seen (ab all[i])).getD 0∧(dm T (ab all[i])).1.lev=T.beg.length
  .rw[N9 (by rw[E];simp[hd])]at c;simp[hd];refine⟨by omega,i+1,by(try dsimp only);omega,by(try dsimp only);omega,ai.to (by simp[J]) (by simp[ic,c,af]) (by simp) (by simp) (by simp[aN])⟩
  .rw[N8 (by rw[E];simpa using hd)]at c;simp[hd];refineλ_=>⟨i+1,by(try dsimp only);omega,by(try dsimp only);omega,ai.to (by simp[J]) (by simp[ic,c]) (by simp) (by simp) (by simp[aN])⟩
 obtain⟨o,L⟩:=H;rcases d with⟨h1,e⟩|⟨j,h1,e,D⟩
 .omega
 have hj:j<all.length:=by omega
 have M:all.getD j 0=all[j]:=by rw[N7,N6 hj];rfl
 have f:=D (by omega);rw[M]at f;have v:=fE T (ab all[j]) ht;have B:a8 ((s.many:Int) -1)=((s.many -1:Nat):Int):=by rw[ap (by omega) (by omega)];omega
 have z:a8 ((j:Int) -1)=(j:Int) -1:=ap (by omega) (by omega);have G:1000000*(all.length -k+1)+1000000<=1000000*(all.length -j+1):=by omega
 have l:=Ed A T ⟨pt s.seen (ab all[j]) 0,s.lits,s.many -1⟩ (dm T (ab all[j])).1.rea (ab all[j]) ht h0 hk I (by dsimp only;omega) (by dsimp only;omega);have hle:=Ha A T hk I s all[j];have g:c9 T (ab all[j]) (aq A (dm T (ab all[j])).1.rea) ⟨pt s.seen (ab all[j]) 0,s.lits,s.many -1⟩=mZ A T s all[j]:=rfl;rw[g]at l;generalize mZ A T s all[j]=s' at*;simp[ic,o,e,hj];refine aj.intro (aF all[j]) ?_;simp[B];refine aj.intro v ?_;simp;refine am.intro l ?_;rintro _ _ ⟨rfl,rfl⟩;simp[z];refine am.intro (a s' j (by omega)) ?_;rintro _ _ ⟨rfl,rfl⟩;simp;refine⟨(j,s'),by(try dsimp only);omega,⟨by(try dsimp only);omega,by(try dsimp only);rw[b,f],by(try dsimp only);omega,by(try dsimp only);omega⟩,ai.to (by simp) (by simp[ic]) (by simp) (by simp) (by simp[aN])⟩
theorem yE(T:Tr)(ht:T.ok)(x:Int):an Tryz.prog 238 [ae x,.iptr 1 [[bB T]] 0 0] (λr=>r=.pv (BL (decide (0<=bZ T x)))):=by
 refine ax aG Tryz.func238 ?_;have a:=eP T x ht;simp;refine aj.intro a ?_;simp
def m8(T:Tr)(lits:List Int):Bool:=!(lits.any λx=>decide (0<=bZ T x))
theorem BZ(T:Tr)(lits:List Int)(ht:T.ok)(b:lits.length<=1000000):an Tryz.prog 159 [bB T,.seq false 1 (af lits)] (λr=>r=.pv (BL (m8 T lits))):=by
 refine ax aG Tryz.func159 ?_;have a:=fe lits b 238 [.iptr 1 [[bB T]] 0 0] (λx=>decide (0<=bZ T x)) (λr=>by simp) rfl (λk=>by simp) (λx _=>yE T ht x);simp[br];refine aj.intro a ?_;simp[m8]
def eU(T:Tr)(lits:List Int)(i:Nat):List Int:=((lits.take i).filter λl=>!decide (bZ T l=0)).map (dw T)
theorem yF(T:Tr)(lits:List Int){i:Nat}(h:i<lits.length):eU T lits (i+1)=if bZ T lits[i]=0 then eU T lits i else eU T lits i++[dw T lits[i]]:=by
 unfold eU;rw[←QU h,PD,OJ]
 by_cases c:bZ T lits[i]=0
 .rw[N9 c,O5,N8 (by simp[c])];simp
 .rw[N8 c,O5,N9 (by simp[c])];simp
theorem wz(T:Tr)(lits:List Int)(i:Nat):(eU T lits i).length<=i:=by
 unfold eU;rw[Oj];have:=P6 (λl=>!decide (bZ T l=0)) (lits.take i);rw[Oe]at this;omega
def Eh(T:Tr)(lits:List Int):List Int:=cT (dP (eU T lits lits.length))
def ea(T:Tr)(lits:List Int):Int:=if(Eh T lits).length<2 then 0 else(Eh T lits).getD ((Eh T lits).length -2) 0
set_option maxRecDepth 16000 in
theorem Ei(T:Tr)(lits:List Int)(ht:T.ok)(L:lits.length<=1000000):an Tryz.prog 98 [bB T,.seq false 1 (af lits)] (λr=>r=.pv (ae (ea T lits))):=by
 refine ax aG Tryz.func98 ?_;simp;refine aJ.intro (S:=λ(i:Nat)=>⟨[(0,.pv (bB T)),(5,.own true 1 (af (eU T lits i))),(8,.pv (.seq false 1 (af lits))),(9,.pv (ae lits.length)),(10,.pv (ae i))],[]⟩) (λi=>i<=lits.length) (λi=>lits.length -i) 0 ?_ (Oz _) ?_
 .exact(ai.nilOwn (s:=5) 1 true (by simp)).trans (ai.to (by simp[eU,af]) (by simp) (by simp) (by simp) (by simp))
 intro i hi
 by_cases h:i<lits.length
 .have v:=fQ i;have C:=eO T (ab lits[i]) ht;have K:=eP T lits[i] ht;have d:=yF T lits h;have hle:=wz T lits i;simp[h];refine bK.intro (λ_=>K) ?_
  by_cases c:bZ T lits[i]=0
  .rw[N9 c]at d;simp[c];refine⟨i+1,by(try dsimp only);omega,by(try dsimp only);omega,ai.to (by simp[v,d]) (by simp) (by simp) (by simp) (by simp)⟩
  .rw[N8 c]at d;simp[c];refine aj.intro (aF lits[i]) ?_;simp;refine aj.intro C ?_;simp;refine⟨by omega,i+1,by(try dsimp only);omega,by(try dsimp only);omega,ai.to (by simp[v,d,af,dw]) (by simp) (by simp) (by simp) (by simp)⟩
 have z:i=lits.length:=by omega
 subst z;have hle:=wz T lits lits.length;have H:=BK (eU T lits lits.length) (by omega);have n:ea T lits=if(cT (dP (eU T lits lits.length))).length<2 then 0 else(cT (dP (eU T lits lits.length))).getD ((cT (dP (eU T lits lits.length))).length -2) 0:=rfl;generalize ea T lits=B at*;have J:(dP (eU T lits lits.length)).length=(eU T lits lits.length).length:=by unfold dP;exact Pw _
 generalize eU T lits lits.length=xs at*;have F:=qJ (dP xs) (by omega);have w:=mT (dP xs) (dP xs).length;unfold IR at F;have x:aQ (dP xs) (dP xs).length=cT (dP xs):=rfl;rw[x]at w;generalize dP xs=e at*;generalize cT e=a at*;simp;refine aj.introX (dg.introS (o:=.slot 5) (lo:=0) (hi:=xs.length) H (by simp) rfl rfl (by simp) (by simp) rfl (by simp;exact Pf (by simp)) (bd 0 xs) (by simp) (by simp) ?_);rintro k l ⟨rfl,rfl⟩ _ _;have y:List.drop xs.length (af xs)=[]:=OK (by simp);simp[y];refine aj.introX (dg.introS (o:=.slot 5) (lo:=0) (hi:=e.length) F (by simp) rfl rfl (by simp) (by simp) rfl (by simp;exact Pf (by simp)) (fg 0 e) (by simp) (by simp) ?_);rintro k l ⟨rfl,rfl⟩ _ _;have q:List.drop e.length (af e)=[]:=OK (by simp);have G:(az (a++List.replicate (e.length -a.length) 0)).length=e.length:=by rw[fJ];simp;omega
 have f:min a.length (az (a++List.replicate (e.length -a.length) 0)).length=a.length:=by rw[G];omega
 have E:=mU a (List.replicate (e.length -a.length) 0)
 by_cases c2:a.length<2
 .rw[N9 c2]at n;have g:(a.length:Int)<2:=by omega
  have j:¬2<=(a.length:Int):=by omega
  simp[q,c2,g,j,n,f]
 rw[N8 c2]at n;obtain⟨m,I⟩:∃m,a.length=m+2:=⟨a.length -2,by omega⟩;have v:a8 ((a.length:Int) -2)=(m:Int):=by rw[ap (by omega) (by omega)];omega
 have g:¬(a.length:Int)<2:=by omega
 have b:m<a.length:=by omega
 have p:B=a[m]:=by rw[n,I,N7,Q7,N6 b];rfl
 have t:(az a)[m]?=some [ae a[m]]:=by unfold az;rw[Oq,N6 b];rfl
 have D:(m:Int)<(a.length:Int):=by omega
 rw[p];clear n p;have A:=fJ a;have j:2<=(a.length:Int):=by omega
 have u:∀h,(az a)[m]'h=[ae a[m]]:=λh=>by rw[N6 h]at t;exact QT t
 simp[q,c2,g,j,v,f,E,D,A,u,b]
def lY(A:Ar)(q:Int):Int:=if isA A q=true then A.row.getD q.toNat 0 else 0
theorem uH(A:Ar)(h0:A.hd≠[])(hk:jI A)(b:A.row.length<=1000000)(q:Int):an Tryz.prog 158 [ke A,ae q] (λr=>r=.pv (ae (lY A q))):=by
 refine ax aG Tryz.func158 ?_;have hi:=Au A h0 q;unfold lY;simp only[ke,nJ]at hi;simp[ke,nJ];refine aj.intro hi ?_
 by_cases c:isA A q=true
 rotate_left
 .have c':isA A q=false:=by simpa using c
  simp[c']
 obtain⟨p,n,rfl,a⟩:=hk q c;have hp:p<A.row.length:=by have:=a.len;omega
 simp[c,hp]
structure NS where
  at':List (Int×Int)
  ok:Bool
def pla(T:Tr)(l:Int):Int:=(dm T (ab l)).1.pla
def rea(T:Tr)(l:Int):Int:=(dm T (ab l)).1.rea
def sX(T:Tr)(stop:List (Int×Int))(but:Int)(s:NS)(l:Int):Bool:=decide (l=but)||ay stop l||(ay s.at' (pla T l)&&decide (0<=pla T l))
def B0(A:Ar)(T:Tr)(l:Int):Bool:=decide (0<=bZ T l)||decide (rea T l<0)||decide (lY A (rea T l)=0)
def qX(T:Tr)(s:NS)(l:Int):NS:=⟨pt s.at' (pla T l) (a8 ((lk s.at' (pla T l)).getD 0+1)),s.ok⟩
def qY(f:NS->Int->Int->NS)(A:Ar)(T:Tr)(stop:List (Int×Int))(but:Int):List Int->NS->NS
 |[],s=>s
 |l::c,s=>if sX T stop but s l=true then qY f A T stop but c s else if B0 A T l=true then⟨s.at',false⟩else qY f A T stop but c (f (qX T s l) (rea T l) (a8 (-l)))
def pC(A:Ar)(T:Tr)(stop:List (Int×Int)):Nat->NS->Int->Int->NS
 |0,s,_,_=>s
 |k+1,s,q,but=>qY (pC A T stop k) A T stop but (aq A q) s
def qZ(A:Ar)(T:Tr)(stop:List (Int×Int))(s:NS):List SV:=[.pv (ke A),.pv (bB T),.omap true (aS fI stop),.omap true (aS fI s.at'),.pv (BL s.ok)]
theorem dA(k:Nat)(A:Ar)(T:Tr)(stop:List (Int×Int))(s:NS):cM k (qZ A T stop s):=⟨⟨⟨bd k _,gE k _,trivial⟩,trivial⟩,⟨⟨mS k _,bd k _,bd k _,trivial,trivial⟩,trivial⟩,gE k _,gE k _,trivial,trivial⟩
structure AheadOk (A:Ar) (T:Tr):Prop where
  tr:T.ok
  hd:A.hd≠[]
  ar:jI A
  len:A.row.length<=1000000
  ahead:∀l:Int,bZ T l<0->0<=rea T l->0<=pla T l∧∀y∈aq A (rea T l),y≠a8 (-l)->pla T y<pla T l
set_option maxRecDepth 16000 in
theorem Hb(A:Ar)(T:Tr)(stop:List (Int×Int))(K:AheadOk A T):∀(k:Nat)(q but:Int)(s:NS),(∀y∈aq A q,y≠but->pla T y<k)->
 aB Tryz.prog 166 [.ptr 0 0,ae q,ae but] [qZ A T stop s] (λr h'=>h'=[qZ A T stop (pC A T stop (k+1) s q but)]∧r=.pv (.tup [])):=by
 intro k
 induction k using Nat.strongRecOn with
 |ind k O=>
 intro q but s N;refine gR [] [] [qZ A T stop (pC A T stop (k+1) s q but)] (by simp) (λ_=>⟨dA _ _ _ _ _,trivial⟩) aG Tryz.func166 ?_;obtain⟨ht,h0,hk,G,p⟩:=K;have L:=iZ A h0 hk G q;have X:=eQ A hk q;rw[pC];generalize E:qY (pC A T stop k) A T stop but (aq A q) s=F;generalize aq A q=c at*;simp[qZ];refine aj.intro L ?_;simp;refine aJ.intro (S:=λ(x:Nat×NS)=>⟨[(0,.pv (.ptr 0 0)),(2,.pv (ae but)),(15,.own true 1 (af c)),(16,.pv (ae c.length)),(17,.pv (ae x.1))],[qZ A T stop x.2]⟩) (λx=>x.1<=c.length∧F=qY (pC A T stop k) A T stop but (c.drop x.1) x.2) (λx=>c.length -x.1) (0,s) ?_ ⟨Oz _,E.symm⟩ ?_
 .exact ai.to (by simp) (by simp[qZ]) (by simp) (by simp) (by simp[dA])
 clear E;rintro⟨i,s⟩ ⟨hi,d⟩;dsimp only at hi d
 by_cases h:i<c.length
 rotate_left
 .have w:i=c.length:=by omega
  subst w;rw[OK (Oc _),qY]at d;subst d;simp[qZ,fc]
 have H:=fQ i;have v:c.drop i=c[i]::c.drop (i+1):=O0 h;rw[v,qY]at d;have f:=lS T (ab c[i]) ht;have m:=fE T (ab c[i]) ht;have D:=eP T c[i] ht;have n:sX T stop but s c[i]=(decide (c[i]=but)||decide (0<(lk stop c[i]).getD 0)||(decide (0<(lk s.at' (pla T c[i])).getD 0)&&decide (0<=pla T c[i]))):=rfl;have l:B0 A T c[i]=(decide (0<=bZ T c[i])||decide (rea T c[i]<0)||decide (lY A (rea T c[i])=0)):=rfl;have B:(dm T (ab c[i])).1.pla=pla T c[i]:=rfl;have C:(dm T (ab c[i])).1.rea=rea T c[i]:=rfl;rw[B]at f;rw[C]at m;simp[h,qZ];refine aj.intro (aF c[i]) ?_;simp;refine dO.intro (λ_=>f) ?_;simp;refine dO.intro (λ_=>f) ?_;simp;refine⟨λa b=>⟨⟨a,b⟩,λe=>⟨⟨a,b⟩,e⟩⟩,λhs=>?_,λI Y U=>?_⟩
 .rw[N9 (by rw[n];simpa using hs)]at d;exact⟨(i+1,s),by(try dsimp only);omega,⟨by(try dsimp only);omega,d⟩,ai.to (by simp[H]) (by simp[qZ]) (by simp) (by simp) (by simp[dA])⟩
 have o:¬sX T stop but s c[i]=true:=by
  rw[n];simp only[Pu,Og,Ov];rintro((e|e)|⟨J,W⟩)
  .exact I e
  .omega
  .have:=U J;omega
 rw[N8 o]at d;refine aj.intro m ?_;simp;refine aj.intro D ?_;simp;refine bK.intro (λ_=>uH A h0 hk G _) ?_
 by_cases j:B0 A T c[i]=true
 .rw[N9 j]at d;rw[l]at j;have t:(0<=bZ T c[i]∨rea T c[i]<0)∨lY A (rea T c[i])=0:=by simpa using j
  subst d;simp[t,fc]
 rw[N8 j]at d;have u:¬(0<=bZ T c[i])∧¬(rea T c[i]<0)∧¬(lY A (rea T c[i])=0):=by
  rw[l]at j;simpa[and_assoc]using j
 obtain⟨P,Q,R⟩:=u;obtain⟨Z,V⟩:=p c[i] (by omega) (by omega);have M:=N c[i] (Od h) I;simp[P,Q,R];refine⟨by omega,?_⟩;refine bA.intro f ?_;simp;obtain⟨k',rfl⟩:∃k',k=k'+1:=⟨k -1,by omega⟩;have g:=O k' (by omega) (rea T c[i]) (a8 (-c[i])) (qX T s c[i]) (λy hy z=>by have:=V y hy z;omega);simp only[qZ,qX]at g;refine am.intro g ?_;rintro _ _ ⟨rfl,rfl⟩;simp;refine⟨(i+1,pC A T stop (k'+1) (qX T s c[i]) (rea T c[i]) (a8 (-c[i]))),by(try dsimp only);omega,⟨by(try dsimp only);omega,d⟩,ai.to (by simp[H]) (by simp[qZ,qX]) (by simp) (by simp) (by simp[dA])⟩
def cv(lits:List Int):Nat->List (Int×Int)
 |0=>[]
 |i+1=>pt (cv lits i) (lits.getD i 0) ((lk (cv lits i) (lits.getD i 0)).getD 0+1)
theorem nM(lits:List Int):∀(i:Nat)(v:Int),0<=(lk (cv lits i) v).getD 0∧(lk (cv lits i) v).getD 0<=i
 |0,v=>by simp[cv,lk]
 |i+1,v=>by
  have h:=nM lits i;rw[cv,bD];split
  .have:=h (lits.getD i 0);rw[OH];omega
  .have:=h v;omega
theorem q6(lits:List Int)(v:Int):∀i,i<=lits.length->(ay (cv lits i) v=true↔v∈lits.take i)
 |0,_=>by simp[cv,lk,ay]
 |i+1,h=>by
  have b:=q6 lits v i (by omega);have a:lits.getD i 0=lits[i]:=by rw[N7,N6 (by omega)];rfl
  have hle:=nM lits i lits[i];rw[cv,a,lX,Pj,N6 (by omega),P3,Om,O7];split
  .rename_i e;subst e;have:0<(lk (cv lits i) lits[i]).getD 0+1:=by omega
   simp[this]
  .rename_i e;rw[b];exact⟨.inl,λh=>h.elim id (λh=>absurd h.symm e)⟩
def Ej(T:Tr)(at':List (Int×Int))(out:List Int)(i:Nat):Bool:=ay at' i&&!decide (rea T (T.lits.getD i 0)∈out)
def dQ(T:Tr)(at':List (Int×Int)):Nat->List Int
 |0=>[]
 |i+1=>if Ej T at' (dQ T at' i) i=true then dQ T at' i++[rea T (T.lits.getD i 0)]else dQ T at' i
theorem q7(T:Tr)(at':List (Int×Int)):∀i,(dQ T at' i).length<=i
 |0=>by simp[dQ]
 |i+1=>by
  have:=q7 T at' i;rw[dQ];split
  .simp;omega
  .omega
def kg(A:Ar)(T:Tr)(lits:List Int)(con:Int):NS:=pC A T (cv lits lits.length) (T.lits.length+1) ⟨[],true⟩ con 0
def pD(T:Tr)(at':List (Int×Int))(con:Int):List Int:=if con∈dQ T at' T.lits.length then dQ T at' T.lits.length else dQ T at' T.lits.length++[con]
def pE(A:Ar)(T:Tr)(lits:List Int)(con:Int):List Int×Bool:=
 if lY A con=0 then([],false)else if(kg A T lits con).ok=false then([],false)else(pD T (kg A T lits con).at' con,true)
set_option maxRecDepth 16000 in
theorem Ek(A:Ar)(T:Tr)(lits:List Int)(con:Int)(j:AheadOk A T)(hp:∀l,pla T l<T.lits.length)(B:lits.length<=1000000)(z:T.lits.length<=1000000):
 an Tryz.prog 94 [ke A,bB T,.seq false 1 (af lits),ae con] (λr=>r=.pv (.tup [.seq true 1 (af (pE A T lits con).1),BL (pE A T lits con).2])):=by
 refine an.wk (R:=λr=>∃x,r=.pv x∧cw x (.tup [.seq true 1 (af (pE A T lits con).1),BL (pE A T lits con).2])) ?_ (λr ⟨x,e,h⟩=>⟨x,_,e,h,rfl⟩);refine iL [] [.tmp 8,.tmp 9] aG Tryz.func94 ?_;have p:=uH A j.hd j.ar j.len con;have b:=Hb A T (cv lits lits.length) j T.lits.length con 0 ⟨[],true⟩ (λy _ _=>hp y);have v:=ff T z;obtain⟨H,c⟩:∃H,pE A T lits con=H:=⟨_,rfl⟩;rw[c];unfold pE at c;have w:pC A T (cv lits lits.length) (T.lits.length+1) ⟨[],true⟩ con 0=kg A T lits con:=rfl;rw[w]at b;generalize kg A T lits con=N at*;simp;refine bK.intro (λ_=>p) ?_
 by_cases m:lY A con=0
 .rw[N9 m]at c;subst c;simp[m,cw,cE,af]
 rw[N8 m]at c;simp[m];refine aJ.intro (S:=λ(i:Nat)=>⟨[(0,.pv (ke A)),(1,.pv (bB T)),(2,.pv (.seq false 1 (af lits))),(3,.pv (ae con)),(10,.pv (.ptr 0 0)),(35,.pv (.seq false 1 (af lits))),(36,.pv (ae lits.length)),(37,.pv (ae i))],[qZ A T (cv lits i) ⟨[],true⟩]⟩) (λi=>i<=lits.length) (λi=>lits.length -i) 0 ?_ (Oz _) ?_
 .exact ai.to (by simp) (by simp[qZ,cv]) (by simp) (by simp) (by simp[dA])
 intro i hi
 by_cases h:i<lits.length
 .have o:=fQ i;have n:lits.getD i 0=lits[i]:=by rw[N7,N6 h];rfl
  have hle:=nM lits i lits[i];have t:a8 ((lk (cv lits i) lits[i]).getD 0+1)=(lk (cv lits i) lits[i]).getD 0+1:=ap (by omega) (by omega);have a:cv lits (i+1)=pt (cv lits i) lits[i] ((lk (cv lits i) lits[i]).getD 0+1):=by rw[cv,n]
  simp[h,qZ];refine⟨i+1,by(try dsimp only);omega,by(try dsimp only);omega,ai.to (by simp[o]) (by simp[qZ,a,t]) (by simp) (by simp) (by simp[dA])⟩
 have g:i=lits.length:=by omega
 subst g;simp only[qZ]at b;simp[qZ];refine am.intro b ?_;rintro _ _ ⟨rfl,rfl⟩;cases c1:N.ok
 .rw[N9 c1]at c;subst c;simp[c1,cw,cE,af]
 rw[N8 (by simp[c1])]at c;subst c;simp[c1];refine aj.intro v ?_;simp;refine aJ.intro (S:=λ(i:Nat)=>⟨[(1,.pv (bB T)),(3,.pv (ae con)),(10,.pv (.ptr 0 0)),(13,.own true 1 (af (dQ T N.at' i))),(58,.own true 1 (af T.lits)),(59,.pv (ae T.lits.length)),(60,.pv (ae i))],[qZ A T (cv lits lits.length) N]⟩) (λi=>i<=T.lits.length) (λi=>T.lits.length -i) 0 ?_ (Oz _) ?_
 .exact(ai.nilOwn (s:=13) 1 true (by simp)).trans (ai.to (by simp[dQ,af]) (by simp[qZ,c1]) (by simp) (by simp) (by simp[dA]))
 intro i hi;have hle:=q7 T N.at' i
 by_cases h:i<T.lits.length
 .have o:=fQ i;have n:T.lits.getD i 0=T.lits[i]:=by rw[N7,N6 h];rfl
  have k:=fE T (ab T.lits[i]) j.tr;have q:(dm T (ab T.lits[i])).1.rea=rea T T.lits[i]:=rfl;rw[q]at k;have a:dQ T N.at' (i+1)=if Ej T N.at' (dQ T N.at' i) i=true then dQ T N.at' i++[rea T T.lits[i]]else dQ T N.at' i:=by rw[dQ,n]
  have u:Ej T N.at' (dQ T N.at' i) i=(decide (0<(lk N.at' (i:Int)).getD 0)&&!decide (rea T T.lits[i]∈dQ T N.at' i)):=by unfold Ej;rw[n];rfl
  have f:=iz (dQ T N.at' i) (rea T T.lits[i]) (by omega);simp[h,qZ];refine aj.intro (aF T.lits[i]) ?_;simp;refine aj.intro k ?_;simp;refine bK.intro (λ_=>f) ?_
  by_cases d:0<(lk N.at' (i:Int)).getD 0∧¬rea T T.lits[i]∈dQ T N.at' i
  .rw[N9 (by rw[u];simp[d])]at a;simp[d];refine⟨by omega,i+1,by(try dsimp only);omega,by(try dsimp only);omega,ai.to (by simp[o,a,af]) (by simp[qZ]) (by simp) (by simp) (by simp[dA])⟩
  .rw[N8 (by rw[u];simpa using d)]at a;simp[d];refineλ_=>⟨i+1,by(try dsimp only);omega,by(try dsimp only);omega,ai.to (by simp[o,a]) (by simp[qZ]) (by simp) (by simp) (by simp[dA])⟩
 have g:i=T.lits.length:=by omega
 subst g;have f:=iz (dQ T N.at' T.lits.length) con (by omega);unfold pD;generalize dQ T N.at' T.lits.length=O at*;simp;refine aj.intro f ?_
 by_cases d:con∈O
 .simp[d,cw,cE]
 .simp[d,cw,cE,af];omega
end Go.AX
namespace Go.AX
set_option maxRecDepth 16000
open Go.Proofs
set_option linter.unusedSimpArgs false
theorem wB(T:Tr)(out:List Int):∀i,(ct T out i).2.1<=i∧((ct T out i).2.1=0∨(ct T out i).2.2<i)∧(ct T out i).2.2<=i
 |0=>⟨Oc _,.inl rfl,Oc _⟩
 |i+1=>by
  have a:=wB T out i;rw[ct];split
  .exact⟨by dsimp only;omega,.inr (by dsimp only;omega),by dsimp only;omega⟩
  .split
   .refine⟨by dsimp only;omega,?_,by dsimp only;omega⟩;dsimp only;rename_i c1 c2;rcases a.2.1 with e|e
    .exact .inr (by omega)
    .exact .inr (by omega)
   .exact⟨by omega,a.2.1.imp id (λe=>by omega),by omega⟩
theorem B1(T:Tr)(lits:List Int)(ht:T.ok)(y:lits.length<=1000000):an Tryz.prog 163 [bB T,.seq false 1 (af lits)] (λr=>r=.own true 1 (af (Eb T lits))):=by
 refine ax aG Tryz.func163 ?_;have w:=GO lits y;have z:=BH lits;unfold Eb Ea;generalize d4 lits=out at*;simp;refine aj.intro w ?_;simp;refine aJ.intro (S:=λ(i:Nat)=>⟨[(0,.pv (bB T)),(5,.own true 1 (af out)),(6,.pv (ae (ct T out i).1)),(7,.pv (ae (ct T out i).2.1)),(8,.pv (ae (ct T out i).2.2)),(15,.al (.slot 5)),(16,.pv (ae out.length)),(17,.pv (ae i))],[]⟩) (λi=>i<=out.length) (λi=>out.length -i) 0 ?_ (Oz _) ?_
 .exact ai.to (by simp[ct]) (by simp) (by simp) (by simp) (by simp)
 intro i hi;obtain⟨t,v,a3⟩:=wB T out i
 by_cases h:i<out.length
 .have f:=fQ i;have k:out.getD i 0=out[i]:=by rw[N7,N6 h];rfl
  have m:=eO T (ab out[i]) ht;have a:ct T out (i+1)=if(ct T out i).1<(dm T (ab out[i])).1.lev then((dm T (ab out[i])).1.lev,1,i)else if(dm T (ab out[i])).1.lev=(ct T out i).1 then((ct T out i).1,(ct T out i).2.1+1,(ct T out i).2.2)else ct T out i:=by rw[ct,k];rfl
  have p:=fQ ((ct T out i).2.1);simp[h];refine aj.intro (aF out[i]) ?_;simp;refine aj.intro m ?_
  by_cases c1:(ct T out i).1<(dm T (ab out[i])).1.lev
  .rw[N9 c1]at a;simp[c1];refine⟨i+1,by(try dsimp only);omega,by(try dsimp only);omega,ai.to (by simp[f,a]) (by simp) (by simp) (by simp) (by simp)⟩
  rw[N8 c1]at a
  by_cases c2:(dm T (ab out[i])).1.lev=(ct T out i).1
  .rw[N9 c2]at a;simp[c1,c2];refine⟨i+1,by(try dsimp only);omega,by(try dsimp only);omega,ai.to (by simp[f,a,p]) (by simp) (by simp) (by simp) (by simp)⟩
  .rw[N8 c2]at a;simp[c1,c2];refine⟨i+1,by(try dsimp only);omega,by(try dsimp only);omega,ai.to (by simp[f,a]) (by simp) (by simp) (by simp) (by simp)⟩
 have l:i=out.length:=by omega
 subst l;clear hi h;generalize ct T out out.length=s at*;obtain⟨top,many,at'⟩:=s;dsimp only at t v a3⊢
 by_cases c:many=1
 rotate_left
 .have c':¬(many:Int)=1:=by omega
  simp[c,c']
 subst c;have b:at'<out.length:=by omega
 have k:out.getD at' 0=out[at']:=by rw[N7,N6 b];rfl
 have f:=fQ (at');simp only[N9,k];simp[b,f];have d:(out.take at'++out.drop (at'+1)++List.replicate (at'+1 -at') 0).length=out.length:=by simp;omega
 have g:out.length -(at'+1 -at')=out.length -1:=by omega
 have q:=wA Tryz.dlaA out at' (at'+1) (by omega) (by omega) (by kernel_rfl);rw[g]at q;refine aj.introX (dg.introW (ps:=.slot 5) (hi:=out.length) q d (by omega) (λe=>by rw[e]at b;simp at b) (by simp) rfl rfl (by simp) (by simp) rfl (by simp) (by simp) ?_);have n:(out.take at'++out.drop (at'+1)).length=out.length -1:=by simp;omega
 have o:(out.take at'++out.drop (at'+1)++List.replicate (at'+1 -at') 0).take (out.length -1)=out.eraseIdx at':=by
  rw[P4 n,List.eraseIdx_eq_take_drop_succ]
 have j:(out.take at'++out.drop (at'+1)++List.replicate (at'+1 -at') 0).drop (out.length -1+1)=[]:=OK (by rw[d];omega);generalize out.take at'++out.drop (at'+1)++List.replicate (at'+1 -at') 0=dl at*;generalize out[at']=u at*;simp;refine aj.introX (dg.introI (ps:=.slot 5) (py:=.slot 51) (hi:=out.length -1) (zs:=dl) (x:=u) Tryz.insA (by kernel_rfl) (by simp) rfl rfl (by simp) (by simp) (by simp) (by simp) (by simp) (by simp) rfl (by decide) rfl (by omega) ?_);rw[o,j];simp;exact Pf (by rw[fJ,OC,List.length_eraseIdx_of_lt b];omega)
def I9(A:Ar)(T:Tr):List SV:=[.pv (ke A),.pv (bB T),.omap true (aS fI []),.pv (.lit (.slice none 0 0)),.pv (ae 0)]
theorem B2(A:Ar)(T:Tr)(q but:Int)(ht:T.ok)(h0:A.hd≠[])(hk:jI A)(m:A.row.length<=1000000):
 aB Tryz.prog 161 [.ptr 0 0,ae q,ae but] [I9 A T] (λr h'=>h'=[ic A T (c9 T but (aq A q) ⟨[],[],0⟩)]∧r=.pv (.tup [])):=by
 obtain⟨p,hp⟩:∃p:PS,p=⟨[],[],0⟩:=⟨_,rfl⟩;rw[←hp];have o:p.many=0:=by rw[hp]
 have n:p.lits.length=0:=by rw[hp];rfl
 refine gR [] [] [ic A T (c9 T but (aq A q) p)] (by simp) (λ_=>⟨aN _ _ _ _,trivial⟩) aG Tryz.func161 ?_;have l:=iZ A h0 hk m q;have t:=eQ A hk q;generalize aq A q=c at*;simp[I9];refine aj.intro l ?_;simp;refine aJ.intro (S:=λ(i:Nat)=>⟨[(0,.pv (.ptr 0 0)),(2,.pv (ae but)),(6,.pv (.fn (.func 170) [bB T] [])),(20,.own true 1 (af c)),(21,.pv (ae c.length)),(22,.pv (ae i))],[ic A T (c9 T but (c.take i) p)]⟩) (λi=>i<=c.length) (λi=>c.length -i) 0 ?_ (Oz _) ?_
 .exact(ai.nilCell (b:=0) (k:=3) (xs:=I9 A T) 1 true (by simp[I9]) (by simp[I9])).trans (ai.to (by simp) (by simp[ic,I9,c9,hp,af]) (by simp) (by simp) (by simp[aN]))
 intro i hi
 by_cases h:i<c.length
 rotate_left
 .have g:i=c.length:=by omega
  subst g;simp[ic,fc]
 have f:=fQ i;have hs:=qW T but c p h;have hle:=i8 T but (c.take i) p;rw[Oe]at hle;generalize c9 T but (c.take i) p=s at*;have d:=eO T (ab c[i]) ht;simp[h,ic];refine aj.intro (aF c[i]) ?_;simp;refine bK.intro (λ_=>d) ?_
 by_cases c1:ab c[i]=but
 .have hd:takeF T but s c[i]=s:=by unfold takeF;rw[N9 (.inl c1)]
  simp[c1];refine⟨i+1,by(try dsimp only);omega,by(try dsimp only);omega,ai.to (by simp[f]) (by simp[ic,hs,hd]) (by simp) (by simp) (by simp[aN])⟩
 by_cases c2:0<(lk s.seen (ab c[i])).getD 0
 .have hd:takeF T but s c[i]=s:=by unfold takeF;rw[N9 (.inr (.inl (by simpa[ay]using c2)))]
  simp[c1,c2];refine⟨i+1,by(try dsimp only);omega,by(try dsimp only);omega,ai.to (by simp[f]) (by simp[ic,hs,hd]) (by simp) (by simp) (by simp[aN])⟩
 have a:(lk s.seen (ab c[i])).getD 0<=0:=by omega
 by_cases c3:(dm T (ab c[i])).1.lev<=0
 .have hd:takeF T but s c[i]=s:=by unfold takeF;rw[N9 (.inr (.inr c3))]
  simp[c1,c2,a,c3];refine⟨i+1,by(try dsimp only);omega,by(try dsimp only);omega,ai.to (by simp[f]) (by simp[ic,hs,hd]) (by simp) (by simp) (by simp[aN])⟩
 have hd:takeF T but s c[i]=if(dm T (ab c[i])).1.lev=T.beg.length then⟨pt s.seen (ab c[i]) 1,s.lits,s.many+1⟩else⟨pt s.seen (ab c[i]) 1,s.lits++[c[i]],s.many⟩:=by
  unfold takeF;rw[N8]
  .rfl
  rintro(e|e|e)
  .exact c1 e
  .exact c2 (by simpa[ay]using e)
  .exact c3 e
 simp[c1,c2,a,c3];refine bA.intro d ?_;simp;refine bA.intro (lV T) ?_
 by_cases c4:(dm T (ab c[i])).1.lev=T.beg.length
 .rw[N9 c4]at hd;have j:=fQ s.many;simp[c4];refine⟨i+1,by(try dsimp only);omega,by(try dsimp only);omega,ai.to (by simp[f]) (by simp[ic,hs,hd,j]) (by simp) (by simp) (by simp[aN])⟩
 .rw[N8 c4]at hd;simp[c4];refine⟨by omega,i+1,by(try dsimp only);omega,by(try dsimp only);omega,ai.to (by simp[f]) (by simp[ic,hs,hd,af]) (by simp) (by simp) (by simp[aN])⟩
def jK(A:Ar)(T:Tr)(con:Int):Int:=if lY A con=0 then 20 else if m8 T (aq A con)=false then 30 else 0
def oI(A:Ar)(T:Tr)(con:Int):List Int:=if jK A T con=0 then cY A T con else[]
end Go.AX
namespace Go.AX
open Go.Proofs
set_option linter.unusedSimpArgs false
structure DeskI (cs:List (List Int)) (ats:List Int) (D:DK):Prop extends DeskT cs ats D where
  id:∀x∈D.a.rows,1<=x.id
/-! ### What was gathered -/
structure NI (D:DK) (L:List Int) (s:NS):Prop where
  val:∀p,0<=(lk s.at' p).getD 0
  mem:∀p,ay s.at' p=true->∃j,∃hj:j<D.t.rows.length,p=(j:Int)∧0<=D.t.rows[j].rea∧-D.t.rows[j].l∉L
def Met(D:DK)(L:List Int)(s:NS)(y:Int):Prop:=y∈L∨∃j,∃hj:j<D.t.rows.length,D.t.rows[j].l=-y∧ay s.at' j=true
structure Post (D:DK) (L:List Int) (s s':NS) (c:List Int) (but:Int):Prop where
  ni:NI D L s'
  mono:∀p,ay s.at' p=true->ay s'.at' p=true
  all:s'.ok=true->s.ok=true∧(∀y∈c,y≠but->Met D L s' y)∧∀j (hj:j<D.t.rows.length),ay s'.at' j=true->ay s.at' j=false->∀y∈aq D.A D.t.rows[j].rea,y≠D.t.rows[j].l->Met D L s' y
  ok:(∀y∈c,y≠but->HOk D.A D.T L y)->s'.ok=s.ok
theorem Met.mono{D:DK}{L:List Int}{s s':NS}{y:Int}(h:Met D L s y)(c:∀p,ay s.at' p=true->ay s'.at' p=true):Met D L s' y:=
 h.imp id λ⟨j,hj,a,b⟩=>⟨j,hj,a,c _ b⟩
def kh(l:List Int):List (List Int)->Nat->List Int×Nat×Int
 |[],n=>(l,n,23)
 |h::hs,n=>if DR l h=-1 then(l,n+1,0)else if(ft l h).2=true then kh (l++[(ft l h).1]) hs (n+1)else([],n,22)
def sY(c:List Int):Nat->List Int
 |0=>[]
 |i+1=>if c.getD i 0∈c.take i then sY c i else sY c i++[a8 (-(c.getD i 0))]
theorem sZ(c:List Int)(x:Int):∀i,i<=c.length->(x∈sY c i↔∃y∈c.take i,x=a8 (-y))
 |0,_=>by simp[sY]
 |i+1,h=>by
  have b:=sZ c x i (by omega);have d:c.getD i 0=c[i]:=by rw[N7,N6 (by omega)];rfl
  have ht:c.take (i+1)=c.take i++[c[i]]:=(QU (by omega)).symm;rw[sY,d,ht]
  by_cases e:c[i]∈c.take i
  .rw[N9 e,b];constructor
   .rintro⟨y,hy,a⟩;exact⟨y,Pc _ hy,a⟩
   .rintro⟨y,hy,a⟩;rcases Om.1 hy with hy|hy
    .exact⟨y,hy,a⟩
    .simp at hy;subst hy;exact⟨_,e,a⟩
  .rw[N8 e,Om,b,O7];constructor
   .rintro(⟨y,hy,a⟩|a)
    .exact⟨y,Pc _ hy,a⟩
    .exact⟨_,PQ _ (O7.2 rfl),a⟩
   .rintro⟨y,hy,a⟩;rcases Om.1 hy with hy|hy
    .exact .inl ⟨y,hy,a⟩
    .simp at hy;subst hy;exact .inr a
def oJ(c:List Int):List Int:=sY c c.length
theorem nN(c:List Int)(x:Int):x∈oJ c↔∃y∈c,x=a8 (-y):=by
 have:=sZ c x c.length (Oc _)
 rwa [OT]at this
def AllNeg(D:DK)(L:List Int):Prop:=∀y∈L,au y 6=0∧∃j,∃hj:j<D.t.rows.length,D.t.rows[j].l=-y
def rj(D:DK)(j:Nat):Int:=rea D.T (D.T.lits.getD j 0)
theorem fL{t:RT}{j:Nat}(hj:j<t.rows.length):t.rows[j].l∈dv t:=Of.2 ⟨_,Od hj,rfl⟩
def B3(s:NS)(i:Nat):List Nat:=(List.range i).filter λj=>ay s.at' j
theorem El(s:NS)(i:Nat):B3 s (i+1)=if ay s.at' i=true then B3 s i++[i]else B3 s i:=by
 unfold B3;rw[QV,PD]
 by_cases c:ay s.at' i=true
 .rw[N9 c,O5,N9 c];rfl
 .rw[N8 c,O5,N8 c];simp
theorem uI(s:NS)(i j:Nat):j∈B3 s i↔j<i∧ay s.at' j=true:=by
 unfold B3;rw[OW,Pg]
structure CInv (D:DK) (L:List Int) (s:NS) (l:List Int) (js:List Nat):Prop where
  sub:∀x∈l,x∈dv D.t
  neg:∀y∈L,-y∈l
  don:∀j (hj:j<D.t.rows.length),ay s.at' j=true->j∉js->D.t.rows[j].l∈l
  todo:∀j∈js,∃hj:j<D.t.rows.length,ay s.at' j=true∧D.t.rows[j].l∉l
  inc:js.Pairwise (·<·)
def Ns(c:List Int):Bool:=c.any λx=>decide (bf x<0)
def Hc(c:List Int):Int:=if Ns c=true then 10 else if o7 c=true then 11 else 0
def LL(c:List Int)(hs:List (List Int)):Nat×Int:=if Hc c=0 then((kh (oJ c) hs 0).2.1,(kh (oJ c) hs 0).2.2)else(0,Hc c)
def He(l:List Int)(x:Int):Int:=if x∈l then 1 else if a8 (-x)∈l then-1 else 0
theorem uJ(l:List Int)(x:Int):(0<(lk (cv l l.length) x).getD 0)=(x∈l):=by
 have:=q6 l x l.length (Oc _);rw[OT]at this;unfold ay at this;rw[Ov]at this;exact propext this
def yG(n:Nat):PV:=.fn (.func 200) [] [.ptr n 0]
theorem yH(l:List Int)(x:Int):an Tryz.prog 200 [ae x,.iptr 1 [[.amap false (aS fI (cv l l.length))]] 0 0] (λr=>r=.pv (ae (He l x))):=by
 refine ax aG Tryz.func200 ?_;unfold He
 by_cases c1:x∈l
 .simp[uJ,c1]
 .by_cases c2:a8 (-x)∈l
  .simp[uJ,c1,c2]
  .simp[uJ,c1,c2]
set_option maxRecDepth 16000 in
theorem B4(h:List (List SV))(l:List Int)(g:l.length<=1000000):aB Tryz.prog 120 [.seq false 1 (af l)] h (λr h'=>h'=h++[[.omap true (aS fI (cv l l.length))]]∧r=.pv (yG h.length)):=by
 refine aB.below (by kernel_rfl) λf=>?_;refine cL [] [.tmp 2] aG Tryz.func120 ?_;simp;refine aJ.intro (S:=λ(i:Nat)=>⟨[(3,.pv (.ptr h.length 0)),(9,.pv (.seq false 1 (af l))),(10,.pv (ae l.length)),(11,.pv (ae i))],h++[[.omap true (aS fI (cv l i))]]⟩) (λi=>i<=l.length) (λi=>l.length -i) 0 ?_ (Oz _) ?_
 .exact ai.keep (by simp) (by simp[cv])
 intro i hi
 by_cases c:i<l.length
 .have d:=fQ i;have b:l.getD i 0=l[i]:=by simp[c]
  have hs:cv l (i+1)=pt (cv l i) l[i] ((lk (cv l i) l[i]).getD 0+1):=by rw[cv,b]
  have e:=nM l i l[i];have a:a8 ((lk (cv l i) l[i]).getD 0+1)=(lk (cv l i) l[i]).getD 0+1:=ap (by omega) (by omega);simp[c];exact⟨i+1,by(try dsimp only);omega,by(try dsimp only);omega,ai.keep (by simp[d]) (by simp[a,hs])⟩
 .have:i=l.length:=by omega
  subst this;simp[yG]
def jN(T:Tr):Tr:=⟨T.marks.set (ab (T.lits.getD (T.lits.length -1) 0)).toNat ⟨0,0,0,0⟩,T.lits.take (T.lits.length -1),T.beg⟩
def popN(T:Tr):Nat->Tr
 |0=>T
 |j+1=>jN (popN T j)
def cq(T:Tr)(k:Nat):Tr:=⟨(popN T (T.lits.length -(T.beg.getD k 0).toNat)).marks,(popN T (T.lits.length -(T.beg.getD k 0).toNat)).lits,T.beg.take k⟩
set_option maxRecDepth 16000 in
theorem yV(h:List (List SV))(n b:Nat)(T:Tr)(hn:h[n]?=some [.pv (.ptr b 0)])(s:h[b]?=some (fD T))(h0:T.lits≠[])(hs:T.lits.length<=1000000)(D:∀y∈T.lits,0<=ab y∧ab y<T.marks.length):
 aB Tryz.prog 265 [.ptr n 0] h (λr h'=>h'=h.set b (fD (jN T))∧r=.pv (ae (T.lits.getD (T.lits.length -1) 0))):=by
 refine gR [] [.tmp 1] (h.set b (fD (jN T))) (by simp) (λd=>by rw[OE];exact d0 (gT _ _) b d) aG Tryz.func265 ?_;obtain⟨p,k⟩:=N5.1 s;obtain⟨g,q⟩:=N5.1 hn;obtain⟨m,B⟩:∃m,T.lits.length=m+1:=⟨T.lits.length -1,by have:=PF.2 h0;omega⟩;have a:m<T.lits.length:=by omega
 have C:a8 ((T.lits.length:Int) -1)=(m:Int):=by rw[ap (by omega) (by omega)];omega
 have A:T.lits.getD (T.lits.length -1) 0=T.lits[m]:=by rw[B,Q7,N7,N6 a];rfl
 rw[A];have w:n≠b:=λe=>by subst e;rw[hn]at s;simp[fD]at s
 have t:∀x,(h.set b x)[n]?=some [.pv (.ptr b 0)]:=λx=>by rw[On (QZ w)];exact hn
 have c:∀x d,(h.set b x)[n]'d=[.pv (.ptr b 0)]:=λx d=>by have:=t x;rw[N6 d]at this;exact QT this
 have l:∀x d,(h.set b x)[b]'d=x:=λx d=>by simp
 obtain⟨E,F⟩:=D _ (Od a);have j:=aF T.lits[m];obtain⟨i,hi⟩:∃i:Nat,ab T.lits[m]=(i:Int):=⟨(ab T.lits[m]).toNat,by omega⟩;have u:i<T.marks.length:=by omega
 have v:(T.marks.map oe).set i [ae 0,ae 0,ae 0,ae 0]=(T.marks.set i ⟨0,0,0,0⟩).map oe:=by rw[SC];rfl
 have f:(af T.lits).take m=af (T.lits.take m):=by unfold af;rw[QI]
 have z:jN T=⟨T.marks.set i ⟨0,0,0,0⟩,T.lits.take m,T.beg⟩:=by unfold jN;rw[A,hi,Pe,B,Q7]
 have o:m<=T.lits.length:=by omega
 rw[z];rw[hi]at j;simp[k,q,p,g,fD,C,c,l,a,o,f];refine bA.intro j ?_;simp[k,q,p,g,fD,C,c,l,a,o,f,u,v];rw[Pf (by simp)];simp[oe]
theorem Cb(h:List (List SV))(b:Nat):
 aB Tryz.prog 211 [.ptr b 0] h (λr h'=>h'=h++[[.pv (.ptr b 0)]]∧r=.pv (.fn (.func 265) [] [.ptr h.length 0])):=by
 refine cL [] [.tmp 2] aG Tryz.func211 ?_;simp
theorem rn(T:Tr):∀j,(popN T j).beg=T.beg
 |0=>rfl
 |j+1=>rn T j
theorem AH(T:Tr):∀j,(popN T j).marks.length=T.marks.length
 |0=>rfl
 |j+1=>by rw[popN];unfold jN;rw[OE];exact AH T j
theorem dI(T:Tr):∀j,(popN T j).lits=T.lits.take (T.lits.length -j)
 |0=>by rw[popN,Se,OT]
 |j+1=>by
  rw[popN];unfold jN;simp only;rw[dI T j,SH,Oe,show min (min (T.lits.length -j) T.lits.length -1) (T.lits.length -j)=T.lits.length -(j+1) by omega]
def ro(T:Tr):Nat->List Int
 |0=>[]
 |j+1=>ro T j++[(popN T j).lits.getD ((popN T j).lits.length -1) 0]
theorem rp(T:Tr):∀j,(ro T j).length=j
 |0=>rfl
 |j+1=>by rw[ro,Oi,rp T j];rfl
/-! ### Levels, in order, each once -/
theorem wW{zs:List Int}(hs:zs.Pairwise (·<=·)):∀j,j<=zs.length->(aQ zs j).Pairwise (·<·)∧∀x,x∈aQ zs j↔x∈zs.take j
 |0,_=>⟨by simp[aQ],λx=>by simp[aQ]⟩
 |j+1,h=>by
  obtain⟨h1,b⟩:=wW hs j (by omega);have f:zs.getD j 0=zs[j]:=by simp[show j<zs.length by omega]
  rw[aQ,f,Pj,N6 (by omega),P3];have hp:=OR.1 hs
  by_cases d:j=0∨zs[j]≠zs.getD (j -1) 0
  .rw[N9 d];refine⟨QN.2 ⟨h1,by simp,λy hy z hz=>?_⟩,λx=>by rw[Om,Om,b]⟩;rw[O7]at hz;subst hz;obtain⟨k,hk,rfl⟩:=Oo ((b y).1 hy);rw[Oe]at hk;rw[Pq];rcases d with rfl|d
   .omega
   .have a:zs.getD (j -1) 0=zs[j -1]:=by simp[show j -1<zs.length by omega]
    rw[a]at d;have i:zs[k]<=zs[j -1]:=by
     by_cases e:k=j -1
     .subst e;exact Qx _
     .exact hp k (j -1) (by omega) (by omega) (by omega)
    have l:zs[j -1]<=zs[j]:=hp (j -1) j (by omega) (by omega) (by omega);omega
  .rw[N8 d];refine⟨h1,λx=>?_⟩;rw[b,Om,O7];refine⟨.inl,λhx=>hx.elim id λe=>?_⟩;have hj:j≠0:=λe=>d (.inl e);have a:zs.getD (j -1) 0=zs[j -1]:=by simp[show j -1<zs.length by omega]
   have c:zs[j]=zs[j -1]:=OF λg=>d (.inr (by rw[a];exact g));rw[e,c];exact Pm.2 ⟨j -1,by omega,rfl⟩
theorem wX(l:List Int):(cT (dP l)).Pairwise (·<·)∧∀x,x∈cT (dP l)↔x∈l:=by
 obtain⟨h1,a⟩:=wW (uC l) (dP l).length (Oc _);refine⟨h1,λx=>?_⟩;rw[OT]at a;refine(a x).trans ?_;unfold dP;exact(Rs _ _).mem_iff
theorem AT{T:Tr}{L:List Int}{u:Int}{r:List Int}(e:L=u::r)(w:∀y∈L,bZ T y≠0)(hp:∀y∈L,0<dw T y)(m:∀y∈r,dw T y<dw T u):
 0<=ea T L∧ea T L<dw T u∧∀y∈r,dw T y<=ea T L:=by
 have h:eU T L L.length=L.map (dw T):=by
  unfold eU;rw[OT,Qf.2 (λy hy=>by simpa using w y hy)]
 obtain⟨h1,b⟩:=wX (L.map (dw T));unfold ea Eh;rw[h];have t:dw T u∈cT (dP (L.map (dw T))):=(b _).2 (Of.2 ⟨u,by rw[e];exact OA,rfl⟩);have p:∀y∈r,dw T y∈cT (dP (L.map (dw T))):=λy hy=>(b _).2 (Of.2 ⟨y,by rw[e];exact Ou _ hy,rfl⟩);have o:∀x∈cT (dP (L.map (dw T))),0<x∧x<=dw T u:=λx hx=>by
  obtain⟨y,hy,rfl⟩:=Of.1 ((b x).1 hx);refine⟨hp y hy,?_⟩;rw[e]at hy;rcases OB.1 hy with rfl|hy
  .exact Qx _
  .have:=m y hy;omega
 generalize cT (dP (L.map (dw T)))=C at*;have a:=OR.1 h1;obtain⟨i,hi,v⟩:=Oo t;have f:i=C.length -1:=by
  refine OF λk=>?_;have:=a i (C.length -1) hi (by omega) (by omega);have:=(o _ (Od (show C.length -1<C.length by omega))).2;omega
 have l:=hp u (by rw[e];exact OA);split
 .rename_i g;refine⟨Qx _,l,λy hy=>?_⟩;obtain⟨j,hj,n⟩:=Oo (p y hy);have d:j=i:=by omega
  subst d;have:=m y hy;omega
 .rename_i g;have c:C.getD (C.length -2) 0=C[C.length -2]:=by rw[N7,N6 (by omega)];rfl
  rw[c];have s:=o _ (Od (show C.length -2<C.length by omega));refine⟨by omega,?_,λy hy=>?_⟩
  .have:=a (C.length -2) i (by omega) hi (by omega);omega
  .obtain⟨j,hj,n⟩:=Oo (p y hy);have k:j≠i:=λe=>by subst e;have:=m y hy;omega
   by_cases q:j=C.length -2
   .subst q;omega
   .have:=a j (C.length -2) hj (by omega) (by omega);omega
/-! ### Where levels begin -/
/-! ### Back -/
/-! ### What is left stands for what was there -/
theorem Cm{A:Ar}{T:Tr}{R S:List Int}(h:∀x∈R,HOk A T S x){y:Int}(hy:HOk A T R y):HOk A T S y:=by
 induction hy with
 |stop d=>exact h _ d
 |why a b c _ e=>exact .why a b c e
theorem Hz(A:Ar)(T:Tr)(L:List Int):(oG A T L).Sublist L:=D8 A T L
theorem Fq(A:Ar)(T:Tr)(u:Int)(r:List Int):∃a,oG A T (u::r)=u::a∧∀y∈a,y∈r:=by
 refine⟨aV (ga A T (u::r)) r,by unfold oG;rfl,λy hy=>?_⟩;unfold aV at hy;exact(OW.1 hy).1
theorem back_mem{T:Tr}{L:List Int}{u:Int}{r:List Int}(e:L=u::r)(d:∀y∈L,bZ T y≠0)(hp:∀y∈L,0<dw T y)(h:∀y∈r,dw T y<dw T u):
 ea T L=0∨∃y∈r,ea T L=dw T y:=by
 obtain⟨_,b1,_⟩:=AT e d hp h;have b:eU T L L.length=L.map (dw T):=by
  unfold eU;rw[OT,Qf.2 (λy hy=>by simpa using d y hy)]
 obtain⟨_,g⟩:=wX (L.map (dw T));unfold ea Eh at b1⊢;rw[b]at b1⊢;split at b1
 .rename_i c;rw[N9 c];exact .inl rfl
 .rename_i c;rw[N8 c];right;generalize i:cT (dP (L.map (dw T)))=C at*;have a:C.getD (C.length -2) 0=C[C.length -2]:=by rw[N7,N6 (by omega)];rfl
  rw[a]at b1⊢;obtain⟨y,hy,f⟩:=Of.1 ((g _).1 (Od (show C.length -2<C.length by omega)));refine⟨y,?_,f.symm⟩;rw[e]at hy;rcases OB.1 hy with rfl|hy
  .omega
  .exact hy
/-! ### What is shown holds -/
theorem jP{m:List Bool}{x:Int}(h:gp m x=true):da x=true∧0<=bf x:=by
 have hk:da x=true:=by
  rw[bk];unfold gp at h;simp only[Og,Ov]at h;have h1:=h.1;unfold bT at h1;split at h1
  .omega
  .split at h1
   .omega
   .exact absurd rfl h1
 refine⟨hk,?_⟩;have:=(bk x).1 hk;unfold bf eG;rw[N9 hk];split<;>omega
theorem Fs{m:List Bool}{x:Int}(h:gp m x=true):gp m (-x)=false:=by
 obtain⟨hk,_⟩:=jP h;have b:=(bk x).1 hk;unfold gp bT at*
 by_cases c:0<x
 .rw[N9 (by omega)]at h;rw[N8 (by omega),N9 (by omega)];simp only[P1]at h⊢
  revert h
  cases a:(decide (x<=(m.length:Int))&&m.getD (x -1).toNat false)<;>simp
 .rw[N8 (by omega),N9 (by omega)]at h;rw[N9 (by omega)];simp only at h⊢
  revert h
  cases a:(decide (-x<=(m.length:Int))&&m.getD (-x -1).toNat false)<;>simp
theorem Ft{m:List Bool}{x:Int}(hk:da x=true)(h:gp m x=false):gp m (-x)=true:=by
 have b:=(bk x).1 hk;unfold gp bT at*
 by_cases c:0<x
 .rw[N9 (by omega)]at h;rw[N8 (by omega),N9 (by omega)];simp only[P1]at h⊢
  revert h
  have:x≠0:=by omega
  cases a:(decide (x<=(m.length:Int))&&m.getD (x -1).toNat false)<;>simp[this]
 .rw[N8 (by omega),N9 (by omega)]at h;rw[N9 (by omega)];simp only at h⊢
  revert h
  have:-x≠0:=by omega
  cases a:(decide (-x<=(m.length:Int))&&m.getD (-x -1).toNat false)<;>simp[this]
theorem HA{l:List Int}{x:Int}(h:b8 l x=-1):a8 (-x)∈l:=by
 unfold b8 at h;split at h
 .omega
 .split at h
  .omega
  .split at h
   .assumption
   .omega
theorem AU{m:List Bool}{l:List Int}(a:∀y∈l,gp m y=true){x:Int}(hx:gp m x=true):b8 l x≠-1:=λe=>by
 have h1:=HA e;obtain⟨hk,_⟩:=jP hx;have b:=(bk x).1 hk;rw[ap (by omega) (by omega)]at h1;have:=a _ h1;rw[Fs hx]at this;cases this
theorem za{m:List Bool}{l c:List Int}(o:c.length<=1000000)(n:∀y∈l,gp m y=true)(k:b5 c m=true)(f:(ft l c).2=true):gp m (ft l c).1=true:=by
 obtain⟨y,hy,a⟩:=Qe.1 k;have j:=mY l c 0 0 0 (by omega) (by omega) (by omega);have h:LB l c=(((0+i7 l c 1:Nat):Int),((0+i7 l c (-1):Nat):Int),((0+(fq l c).length:Nat):Int)):=j;have h0:i7 l c 1=0∧(fq l c).length=1∧(ft l c).1=c.foldl (Id l) 0:=by
  unfold ft at f⊢;rw[h]at f⊢;split at f
  .cases f
  .rename_i hn;rw[N8 hn];simp only[ne_eq,SS,Decidable.not_not]at hn;exact⟨by omega,by omega,rfl⟩
 obtain⟨g,i,a3⟩:=h0;obtain⟨u,b⟩:∃u,fq l c=[u]:=Qo.1 i;rw[uD,b]at a3;have d:y∈fq l c:=by
  unfold fq;rw[OW];refine⟨hy,?_⟩;rw[Ov];refine⟨(jP a).2,λe=>?_,AU n a⟩;unfold i7 at g;rw[Qk,P0]at g;exact g y hy (by simpa using e)
 rw[b,O7]at d;rw[a3,←d];exact a
theorem tw{m:List Bool}:∀(hs:List (List Int))(l:List Int)(n:Nat),(∀c∈hs,c.length<=1000000)->(∀y∈l,gp m y=true)->(∀c∈hs,b5 c m=true)->(kh l hs n).2.2=0->False
 |[],l,n,_,_,_,h=>by simp[kh]at h
 |c::hs,l,n,f,e,d,h=>by
  rw[kh]at h;split at h
  .rename_i h1;obtain⟨y,hy,b⟩:=Qe.1 (d c OA);exact AU e b (lp.1 h1 y hy (jP b).2)
  .split at h
   .rename_i g;have i:=za (f c OA) e (d c OA) g;refine tw hs _ _ (λc a=>f c (Ou _ a)) (λy hy=>?_) (λc a=>d c (Ou _ a)) h;rcases Om.1 hy with hy|hy
    .exact e y hy
    .rw[O7]at hy;rw[hy];exact i
   .simp at h
end Go.AX
namespace Go.AX
set_option maxRecDepth 16000
open Go.Proofs
set_option linter.unusedSimpArgs false
theorem Jo(k m:Nat)(h:2^k*(2*m+1)<=1000000000):bits .and IntKind.i64 ((2^k*(2*m+1):Nat):Int) (-((2^k*(2*m+1):Nat):Int))=((2^k:Nat):Int):=by
 have e:=Lib.and_neg 64 k m (by omega);have hp:0<2^k*(2*m+1):=Nat.mul_pos (Nat.pow_pos (by omega)) (by omega);have hle:2^k<=2^k*(2*m+1):=Ry _ (by omega);generalize 2^k*(2*m+1)=a at*;have h1:(BitVec.ofInt 64 (a:Int)).toNat=a:=by
  rw[SG,BitVec.toNat_ofNat];exact RO (by omega)
 have b:(BitVec.ofInt 64 (-(a:Int))).toNat=2^64 -a:=by
  rw[BitVec.toNat_ofInt];omega
 show IntKind.i64.wrap ((BitVec.ofInt 64 (a:Int)&&&BitVec.ofInt 64 (-(a:Int))).toNat:Int)=_;rw[BitVec.toNat_and,h1,b,e,IntKind.wrap_i64];omega
def CE(u v:Int):Prop:=∃k m:Nat,v=((2^k:Nat):Int)∧u=((2^k*(m+1):Nat):Int)
theorem CE.pos{u v:Int}(h:CE u v):1<=v∧v<=u:=by
 obtain⟨k,m,rfl,rfl⟩:=h;have:0<2^k:=Nat.pow_pos (by omega);have:=Ry (2^k) (show 0<m+1 by omega);omega
theorem CE.more{u v:Int}(h:CE u v)(d:u<=1000000000)(b:bits .and IntKind.i64 u (-u)≠v):CE u (v*2):=by
 obtain⟨k,m,rfl,rfl⟩:=h;obtain⟨c,a⟩:∃c,m+1=2*c∨m+1=2*c+1:=⟨(m+1)/2,by omega⟩;rcases a with a|a
 .refine⟨k+1,c -1,by rw[SD];omega,?_⟩;rw[show c -1+1=c by omega,a,SD,Nat.mul_assoc]
 .rw[a]at b d;exact absurd (Jo k c (by omega)) b
theorem CE.one{u:Int}(a:1<=u):CE u 1:=⟨0,(u -1).toNat,rfl,by simp;omega⟩
theorem A5(h:List (List SV))(g i:Nat)(u v:Int)(p:h[g]?=some [.pv (ae u)])(s:h[i]?=some [.pv (ae v)])(a:g≠i)(K:CE u v)(q:u<=100000000):
 aB Tryz.prog 266 [.ptr i 0,.ptr g 0] h (λr h'=>r=.pv (ae v)∧∃m o,h'=(h.set g [.pv (ae m)]).set i [.pv (ae o)]∧CE m o∧m<=u+1):=by
 refine cL [] [.tmp 2] aG Tryz.func266 ?_;obtain⟨d,b⟩:=N5.1 p;obtain⟨e,f⟩:=N5.1 s;obtain⟨t,w⟩:=K.pos;have j:=ap (n:=-u) (by omega) (by omega);have k:=ap (n:=u+1) (by omega) (by omega);have l:=ap (n:=v*2) (by omega) (by omega);simp[d,e,b,f,j]
 by_cases c:bits .and IntKind.i64 u (-u)=v
 .simp[c,d,e,b,f,k,a,a.symm];exact⟨u+1,1,rfl,CE.one (by omega),Qx _⟩
 .simp[c,d,e,b,f,l,a,a.symm];refine⟨u,v*2,?_,K.more (by omega) c,by omega⟩;rw[←b,RK]
theorem zk(h:List (List SV)):
 aB Tryz.prog 214 [] h (λr h'=>h'=h++[[.pv (ae 1)],[.pv (ae 1)]]∧r=.pv (.fn (.func 266) [] [.ptr (h.length+1) 0,.ptr h.length 0])):=by
 refine cL [] [.tmp 0] aG Tryz.func214 ?_;simp
theorem A6(c unit:Int)(m:0<=c∧c<=1000000)(o:1<=unit∧unit<=1000000):
 an Tryz.prog 135 [ae c,ae unit] (λr=>∃a:Int,r=.pv (ae a)∧c<a):=by
 refine ax aG Tryz.func135 ?_;have c1:¬c<0:=by omega
 have c2:¬1000000<c:=by omega
 have c3:¬unit<1:=by omega
 have c4:¬1000000<unit:=by omega
 simp[c1,c2,c3,c4];refine aj.introM (zk []) ?_;rintro _ _ ⟨rfl,rfl⟩;simp;refine am.intro (A5 [[.pv (ae 1)],[.pv (ae 1)]] 0 1 1 1 rfl rfl (by decide) (CE.one (by omega)) (by omega)) ?_;rintro _ _ ⟨rfl,u,v,rfl,K,hk⟩;have e:=ap (n:=unit) (by omega) (by omega);simp[e];refine aJ.intro (S:=λ(x:Int×Int×Int)=>⟨[(0,.pv (ae c)),(1,.pv (ae unit)),(5,.pv (.fn (.func 266) [] [.ptr 1 0,.ptr 0 0])),(6,.pv (ae x.1))],[[.pv (ae x.2.1)],[.pv (ae x.2.2)]]⟩)
  (λx=>1<=x.1∧x.2.1<=x.1+1∧CE x.2.1 x.2.2) (λx=>(c+1 -x.1).toNat) (unit,u,v) ?_ ⟨by omega,by dsimp only;omega,K⟩ ?_
 .exact ai.keep (by simp) rfl
 clear K hk u v;rintro⟨a,u,v⟩ ⟨h,b,K⟩;dsimp only at h b K
 by_cases d:a<=c
 .obtain⟨p,q⟩:=K.pos;have i:0<unit*v:=Int.mul_pos (by omega) (by omega);have j:unit*v<=1000000*1000001:=Int.mul_le_mul (by omega) (by omega) (by omega) (by omega);have f:=ap (n:=unit*v) (by omega) (by omega);have g:=ap (n:=a+unit*v) (by omega) (by omega);simp[d];refine am.intro (A5 [[.pv (ae u)],[.pv (ae v)]] 0 1 u v rfl rfl (by decide) K (by omega)) ?_;rintro _ _ ⟨rfl,k,l,rfl,K',hk⟩;simp[f,g];exact⟨(a+unit*v,k,l),by(try dsimp only);omega,⟨by(try dsimp only);omega,by(try dsimp only);omega,K'⟩,ai.keep (by simp) (by simp)⟩
 .simp[d];omega
end Go.AX