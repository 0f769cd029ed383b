/-
  Contracts: how glued literals are; whether a clause is a reason.
  Contracts: arenas that are only read; what other literals a reason has.
  Contracts: the asker of what is deeply left over.
  Contracts: what is deeply left over; what is a part of what.
  Contracts: slices.DeleteFunc whose predicate turns blocks.
  Contracts: a clause that is made shorter.
  Each reason of a desk is a clause, all others of which fail by what stands ahead (plain law).
  What is left over, of a desk: it is deeply left over; made shorter again it is the same (plain law).
  Contracts: the probe of the layer shorten.
  Contracts: what other literals a reason has, and what is left over, by the document.
  What is left over, deeply, of a desk: the program's answer is the document's (plain law).
  How a desk's trail came about: each level is calm ahead of the next decision (plain law).
  A desk's trail came about as trails do; a conflict is a clause that fails (plain law).
  What a conflict teaches: of the last level one literal is left (plain law).
  What a conflict teaches: its first literal, its levels, and that it is shown by reasons (plain law).
  Contracts: a conflict is taken apart.
  Contracts: what a conflict teaches is gone through; levels; what fails.
  Contracts: what fails; whether literals say one thing ahead; the level to which one goes back.
  Contracts: the reasons that are needed are gathered.
  Contracts: by which clauses what a conflict teaches is shown.
  Contracts: the one literal of the greatest level first; what a conflict teaches.
  What is gathered of reasons is all that is needed (plain law).
  Hints that were found show what a conflict teaches (plain law).
  Contracts: the document's chains of hints.
  Contracts: assign: how many literals hold, fail, are open; what a unit says.
  Contracts: trails that go back.
  Plain facts: the level to which one goes back, and what fails there.
  Plain facts: what is learnt, made shorter, is shown as well, and holds where its hints do.
-/
import Derived.Test.YtepodadinenmnaaGreatS14AxDkQ
import Derived.Test.YtepodadinenmnaaGreatAxIs
import Derived.Test.YtepodadinenmnaaGreatS14AxGlC
import Derived.Test.YtepodadinenmnaaGreatS14AxEvC
import Derived.Test.YtepodadinenmnaaGreatS14AxShelf2
import Derived.Test.YtepodadinenmnaaGreatAxDl
import Derived.Test.YtepodadinenmnaaGreatS14AxMovR
namespace Go.AX
set_option maxRecDepth 8000
open Go.Proofs
set_option linter.unusedSimpArgs false
def rU(T:Tr)(l:List Int):Nat->List (Int×Int)
 |0=>[]
 |i+1=>if 0<(dA T (ae (l.getD i 0))).1.lev then pt (rU T l i) (dA T (ae (l.getD i 0))).1.lev (aX ((lk (rU T l i) (dA T (ae (l.getD i 0))).1.lev).getD 0+1))else rU T l i
def Jw(T:Tr)(l:List Int):Int:=((rU T l l.length).length:Int)
theorem DA(T:Tr)(ht:T.ok)(l:List Int)(g:l.length<=1000000):am Tryz.prog 97 [bE T,.seq false 1 (ab l)] (λr=>r=.pv (af (Jw T l))):=by
 refine ao aD Tryz.func97 ?_;have a:=λv=>fv T v ht;simp only[bE,cU]at a;simp[bE,cU];refine aH.intro (S:=λ(i:Nat)=>⟨[(0,.pv (bE T)),(5,.omap true (aC fI (rU T l i))),(12,.pv (.seq false 1 (ab l))),(13,.pv (af l.length)),(14,.pv (af i))],[]⟩) (λi=>i<=l.length) (λi=>l.length -i) 0 ?_ (Qq _) ?_
 .exact ai.to (by simp[rU,bE,cU,aC]) rfl (by simp) (by simp[bE,cU]) (by simp)
 intro i hi
 by_cases f:i<l.length
 .have b:=eq i;have e:l.getD i 0=l[i]:=by rw[P9,P8 f];rfl
  have d:rU T l (i+1)=if 0<(dA T (ae l[i])).1.lev then pt (rU T l i) (dA T (ae l[i])).1.lev (aX ((lk (rU T l i) (dA T (ae l[i])).1.lev).getD 0+1))else rU T l i:=by rw[rU,e]
  simp[f,cU];refine ah.intro (aG l[i]) ?_;simp[cU];refine ah.intro (a (ae l[i])) ?_;generalize(dA T (ae l[i])).1.lev=n at*
  by_cases c:0<n
  .rw[Qb c]at d;simp[c];exact⟨i+1,by dsimp only;omega,by dsimp only;omega,ai.to (by simp[b,d,bE,cU]) rfl (by simp) (by simp[bE,cU]) (by simp)⟩
  .rw[Qa c]at d;simp[c];exact⟨i+1,by dsimp only;omega,by dsimp only;omega,ai.to (by simp[b,d,bE,cU]) rfl (by simp) (by simp[bE,cU]) (by simp)⟩
 .have:i=l.length:=by omega
  subst this;simp[Jw,aC]
theorem jI(T:Tr):am Tryz.prog 105 [bE T] (λr=>r=.pv (af T.beg.length)):=by
 refine ao aD Tryz.func105 ?_;have hi:=l4 T;simp only[bE,cU]at hi;simp[bE,cU];refine ah.intro hi ?_;simp
def Cp(T:Tr)(at' l:Int):Bool:=decide (0<cv T l)&&decide ((dA T (ae l)).1.rea=at')
def Gg(T:Tr)(at':Int)(l:List Int):Bool:=l.any (Cp T at')
theorem Ay(T:Tr)(ht:T.ok)(at' l:Int):am Tryz.prog 255 [af l,.iptr 1 [[bE T]] 0 0,.iptr 1 [[af at']] 0 0] (λr=>r=.pv (BL (Cp T at' l))):=by
 refine ao aD Tryz.func255 ?_;have b:=fw T l ht;have a:=gj T (ae l) ht;simp only[bE,cU]at b a;simp[bE,cU];refine br.intro b ?_;unfold Cp
 by_cases c:0<cv T l
 .simp[c,cU];refine dG.intro (r:=.pv (af (ae l))) (λ_=>aG l) ?_;simp[c,cU];refine dG.intro (r:=.pv (af (dA T (ae l)).1.rea)) (λ_=>a) ?_;simp
 .simp[c,cU];refine dG.intro (r:=.pv (af (ae l))) (λ_=>aG l) ?_;simp[c,cU];refine dG.intro (r:=.pv (af (dA T (ae l)).1.rea)) (λ_=>a) ?_;simp
theorem DB(T:Tr)(ht:T.ok)(at':Int)(l:List Int)(b:l.length<=1000000):am Tryz.prog 194 [bE T,af at',.seq false 1 (ab l)] (λr=>r=.pv (BL (Gg T at' l))):=by
 refine ao aD Tryz.func194 ?_;have a:=dM l b 255 [.iptr 1 [[bE T]] 0 0,.iptr 1 [[af at']] 0 0] (Cp T at') (λr=>by simp[bE,cU]) rfl (λk=>by simp[bE,cU]) (λx _=>Ay T ht at' x);simp only[bE,cU]at a;simp[bE,cU,a8];refine aO.intro (r:=.pv (BL (Gg T at' l))) (λ_=>a) ?_;simp
end Go.AX
namespace Go.AX
set_option maxRecDepth 16000
open Go.Proofs
set_option linter.unusedSimpArgs false
def oO(A:Ar):List PV:=[.seq false 1 (ab A.row),.amap false (aC fI A.hd)]
abbrev lD(A:Ar):PV:=.iptr 2 [oO A] 0 0
@[simp] theorem DD:∀l:List Int,vy (ab l)
 |[]=>trivial
 |_::l=>⟨⟨trivial,trivial⟩,DD l⟩
@[simp] theorem Gi:∀l:List Mk,vy (l.map pn)
 |[]=>trivial
 |_::l=>⟨⟨trivial,trivial,trivial,trivial,trivial⟩,Gi l⟩
theorem Jx{h:List (List SV)}{b:Nat}{A:Ar}(d:h[b]?=some (l6 A))(n:Nat):a8 h (n+1) b 0=lD A:=by
 obtain⟨c,a⟩:=P7.1 d;simp[a8,c,a,l6,oO,frzC]
@[simp] theorem MK(k v:Int)(l:List (Int×Int)):aC fI ((k,v)::l)=(k,af v)::aC fI l:=rfl
theorem DF(A:Ar)(h0:A.hd≠[]):am Tryz.prog 207 [lD A] (λr=>r=.pv (BL true)):=by
 refine ao aD Tryz.func207 ?_;obtain⟨row,hd⟩:=A;cases hd with
 |nil=>exact absurd rfl h0
 |cons x hd=>
  obtain⟨k,v⟩:=x;simp[lD,oO]
theorem Cq(A:Ar)(h0:A.hd≠[])(q:Int):am Tryz.prog 237 [lD A,af q] (λr=>r=.pv (BL (isA A q))):=by
 refine ao aD Tryz.func237 ?_;have a:=DF A h0;simp only[lD,oO]at a;simp[lD,oO];refine ah.intro a ?_;simp[isA]
theorem DG(h:List (List SV))(A:Ar)(p n:Nat)(d:AtOk A p n)(k:A.row.length<=1000000000):ay Tryz.prog 239 [lD A,af p] h (λr h'=>h'=h∧r=.pv (.seq false 1 (ab (dB A p n)))):=by
 refine gh [] [.tmp 4] aD Tryz.func239 ?_;obtain⟨j,b⟩:=d;have h1:p+1<A.row.length:=by omega
 have c:A.row[p+1]=(n:Int):=by rw[←b,P9,P8 h1];rfl
 have f:=eq p;have g:aX ((p:Int)+3)=((p+3:Nat):Int):=by rw[aq (by omega) (by omega)];omega
 have i:aX ((p:Int)+3+n)=(p:Int)+3+n:=aq (by omega) (by omega);have a:List.drop (p+3) (List.take (p+3+n) (ab A.row))=ab (dB A p n):=by
  unfold ab dB;rw[←SI,←Ue,List.drop_take];congr 3;omega
 have t1:((p:Int)+3).toNat=p+3:=by omega
 have e:((p:Int)+3+n).toNat=p+3+n:=by omega
 simp[lD,oO,f,g,i,h1,c,t1,e,a,fP]
 try omega
def au(A:Ar)(q:Int):List Int:=if isA A q=true then dB A q.toNat (A.row.getD (q.toNat+1) 0).toNat else[]
def kJ(A:Ar):Prop:=∀q:Int,isA A q=true->∃p n:Nat,q=(p:Int)∧AtOk A p n
theorem jJ(A:Ar)(h0:A.hd≠[])(hk:kJ A)(s:A.row.length<=1000000)(q:Int):am Tryz.prog 160 [lD A,af q] (λr=>r=.own true 1 (ab (au A q))):=by
 refine am.own0 (R:=λr=>r=.own true 1 (ab (au A q))∨(au A q=[]∧r=.pv (.lit (.slice none 0 0)))) ?_ (λr h=>h.imp id λ⟨j,k⟩=>⟨k,true,1,by rw[j];rfl⟩);refine ao aD Tryz.func160 ?_;have hi:=Cq A h0 q;simp only[lD,oO]at hi;simp[lD,oO];refine ah.intro hi ?_
 by_cases c:isA A q=true
 rotate_left
 .have i:isA A q=false:=by simpa using c
  have b:au A q=[]:=Qa c;simp[i,b]
 obtain⟨p,n,rfl,d⟩:=hk q c;have f:=λh=>DG h A p n d (by omega);have b:au A p=dB A p n:=by
  unfold au;rw[Qb c,Rm,d.num,Rm]
 obtain⟨o,g⟩:=d;have h1:p+1<A.row.length:=by omega
 have l:A.row[p+1]=(n:Int):=by rw[←g,P9,P8 h1];rfl
 have m:=eq p;have a:(dB A p n).length=n:=by unfold dB;rw[Qg,QS];omega
 have e:(ab (dB A p n)).take n=ab (dB A p n):=QM (by simp[a]);rw[b];generalize dB A p n=y at*;simp only[lD,oO]at f;simp[c,m,h1,l,oO];refine⟨by omega,by omega,?_⟩;refine ah.introM (f _) ?_;rintro _ _ ⟨rfl,rfl⟩;simp[a,e]
theorem fA(A:Ar)(hk:kJ A)(q:Int):(au A q).length<=A.row.length:=by
 unfold au;split
 .unfold dB;rw[Qg,QS];omega
 .simp
def tD(T:Tr)(l x:Int):Bool:=decide (x=aX (-l))||decide ((dA T (ae x)).1.lev=0)
def oP(A:Ar)(T:Tr)(l:Int):Bool:=!(decide (0<=cv T l)||decide ((dA T (ae l)).1.rea<0)||!ku (au A (dA T (ae l)).1.rea) (aX (-l)))
def rV(A:Ar)(T:Tr)(l:Int):List Int:=if oP A T l=true then(au A (dA T (ae l)).1.rea).filter λx=>!tD T l x else[]
theorem Ls(T:Tr)(ht:T.ok)(l x:Int):am Tryz.prog 289 [af x,.iptr 1 [[af l]] 0 0,.iptr 1 [[bE T]] 0 0] (λr=>r=.pv (BL (tD T l x))):=by
 refine ao aD Tryz.func289 ?_;have a:=fv T (ae x) ht;simp only[bE,cU]at a;unfold tD
 by_cases c:x=aX (-l)
 .simp[bE,cU,c];refine dG.intro (r:=.pv (af 0)) (λh:False=>h.elim) ?_;simp[cU];refine dG.intro (r:=.pv (af 0)) (λh:False=>h.elim) ?_;simp
 .simp[bE,cU,c];refine dG.intro (λ_=>aG x) ?_;simp[cU];refine dG.intro (λ_=>a) ?_;simp
theorem DH(A:Ar)(T:Tr)(l:Int)(ht:T.ok)(hk:kJ A)(s:A.row.length<=1000000)(h0:0<=(dA T (ae l)).1.rea->A.hd≠[]):am Tryz.prog 246 [lD A,bE T,af l] (λr=>r=.pv (.tup [.seq true 1 (ab (rV A T l)),BL (oP A T l)])):=by
 refine am.wk (R:=λr=>∃x,r=.pv x∧bI x (.tup [.seq true 1 (ab (rV A T l)),BL (oP A T l)])) ?_ (λr ⟨x,e,h⟩=>⟨x,_,e,h,rfl⟩);refine nF [] [.tmp 6,.tmp 7] aD Tryz.func246 ?_;have n:=gj T (ae l) ht;have p:=fw T l ht;have d:=λh=>jJ A h hk s (dA T (ae l)).1.rea;have g:=λx=>Ls T ht l x;simp only[bE,cU]at n p;simp only[lD,oO]at d;simp[lD,oO,bE,cU];refine br.intro (aG l) ?_;simp[cU];refine br.intro n ?_;simp[cU];refine br.intro p ?_;have i:oP A T l=!(decide (0<=cv T l)||decide ((dA T (ae l)).1.rea<0)||!ku (au A (dA T (ae l)).1.rea) (aX (-l))):=rfl;have b:rV A T l=if oP A T l=true then(au A (dA T (ae l)).1.rea).filter λx=>!tD T l x else[]:=rfl;have t:=fA A hk (dA T (ae l)).1.rea;generalize(dA T (ae l)).1.rea=why at*
 by_cases c1:0<=cv T l
 .have a:oP A T l=false:=by rw[i];simp[c1]
  rw[a]at b;simp only[QX,Rs]at b;simp[c1,a,b];refine dG.intro (r:=.pv (.seq true 1 [])) (λh:False=>h.elim) ?_;simp;refine dG.intro (r:=.pv (BL false)) (λh:False=>h.elim) ?_;simp[bI,bG,ab]
 by_cases c2:why<0
 .have a:oP A T l=false:=by rw[i];simp[c2]
  rw[a]at b;simp only[QX,Rs]at b;simp[c1,c2,a,b];refine dG.intro (r:=.pv (.seq true 1 [])) (λh:False=>h.elim) ?_;simp;refine dG.intro (r:=.pv (BL false)) (λh:False=>h.elim) ?_;simp[bI,bG,ab]
 have d:=d (h0 (by omega));simp[c1,c2];refine dG.intro (λ_=>d) ?_;simp;refine dG.intro (λ_=>F2 _ (aX (-l)) (by omega)) ?_;cases c3:ku (au A why) (aX (-l))
 .have a:oP A T l=false:=by rw[i];simp[c3]
  rw[a]at b;simp only[QX,Rs]at b;simp[a,b,bI,bG,ab]
 .have a:oP A T l=true:=by rw[i];simp[c1,c2,c3]
  rw[a]at b;simp only[RV]at b;simp[a,cU,oO];refine ah.intro d ?_;generalize au A why=y at*;have q:=iI y (by omega) 289 [.iptr 1 [[af l]] 0 0,.iptr 1 [[bE T]] 0 0] (tD T l) (λr=>by simp[bE,cU]) rfl (λk=>by simp[bE,cU]) (by simp[bE,cU,PV.old,qv,vy]) (λx _=>g x);simp;refine ah.introX (cd.introS (o:=.slot 34) (lo:=0) (hi:=y.length) q (by simp) rfl rfl (by simp) (by simp) rfl (by simp;rw[QM (by simp)];rfl) (aS 0 y) (by simp) (by simp[bE,cU,a8]) ?_);rintro k m ⟨rfl,rfl⟩ _ _;have j:List.drop y.length (ab y)=[]:=QK (by simp);have c:∀X,List.take (bc (tD T l) y).length (aB (bc (tD T l) y++X))=ab (bc (tD T l) y):=λX=>by
   unfold aB;rw[QT,R4 (by simp)];rfl
  have f:bc (tD T l) y=rV A T l:=b.symm;simp[j,c,f,bI,bG];rw[f]at c;exact c _
theorem Gj(A:Ar)(T:Tr)(l:Int)(hk:kJ A):(rV A T l).length<=A.row.length:=by
 unfold rV;split
 .exact QP (R6 _ _) (fA A hk _)
 .simp
end Go.AX
namespace Go.AX
set_option maxRecDepth 16000
open Go.Proofs
set_option linter.unusedSimpArgs false
def oQ(n:Nat):PV:=.fn (.func 244) [] [.ptr (n+1) 0,.ptr (n+3) 0,.ptr n 0,.ptr (n+2) 0,.ptr (n+4) 0]
def Gk(A:Ar)(T:Tr)(lits:List Int)(m:List (Int×Int))(n:Nat):List (List SV):=[[.pv (lD A)],[.pv (bE T)],[.pv (.seq false 1 (ab lits))],[.omap true (aC fI m)],[.pv (oQ n)]]
theorem Gl(h:List (List SV))(A:Ar)(T:Tr)(lits:List Int):ay Tryz.prog 164 [lD A,bE T,.seq false 1 (ab lits)] h (λr h'=>h'=h++Gk A T lits [] h.length∧r=.pv (oQ h.length)):=by
 refine cY [] [.tmp 6] aD Tryz.func164 ?_;simp[lD,oO,bE,cU,Gk,oQ];rfl
def cF(T:Tr)(l:Int):Int:=(dA T (ae l)).1.pla
def lm(T:Tr)(lits:List Int)(l x:Int):Bool:=!decide (x=l)&&(decide (x∈lits)&&decide (cF T x<cF T l))
def nf(A:Ar)(T:Tr)(lits:List Int):Nat->Int->Bool
 |0,_=>false
 |k+1,l=>oP A T l&&(rV A T l).all λx=>lm T lits l x||(decide (0<=cF T x∧cF T x<cF T l)&&nf A T lits k x)
theorem x4(A:Ar)(T:Tr)(lits:List Int):∀(k k':Nat)(l:Int),(cF T l).toNat<k->(cF T l).toNat<k'->nf A T lits k l=nf A T lits k' l
 |0,_,_,h,_=>by omega
 |_+1,0,_,_,h=>by omega
 |k+1,k'+1,l,h,h'=>by
  have e:(λx=>lm T lits l x||(decide (0<=cF T x∧cF T x<cF T l)&&nf A T lits k x))=(λx=>lm T lits l x||(decide (0<=cF T x∧cF T x<cF T l)&&nf A T lits k' x)):=by
   funext x
   by_cases c:0<=cF T x∧cF T x<cF T l
   .rw[x4 A T lits k k' x (by omega) (by omega)]
   .rw[RX c,R8,R8]
  rw[nf,nf,e]
def lp(A:Ar)(T:Tr)(lits:List Int)(l:Int):Bool:=nf A T lits ((cF T l).toNat+1) l
def ng(A:Ar)(T:Tr)(lits:List Int)(l x:Int):Bool:=lm T lits l x||(decide (0<=cF T x∧cF T x<cF T l)&&lp A T lits x)
theorem rW(A:Ar)(T:Tr)(lits:List Int)(l:Int):lp A T lits l=(oP A T l&&(rV A T l).all (ng A T lits l)):=by
 have e:(λx=>lm T lits l x||(decide (0<=cF T x∧cF T x<cF T l)&&nf A T lits (cF T l).toNat x))=ng A T lits l:=by
  funext x;unfold ng lp
  by_cases c:0<=cF T x∧cF T x<cF T l
  .rw[x4 A T lits (cF T l).toNat ((cF T x).toNat+1) x (by omega) (by omega)]
  .rw[RX c,R8,R8]
 unfold lp;rw[nf,e]
def iL(A:Ar)(T:Tr)(lits:List Int)(l a:Int):Bool:=decide (0<=cF T l∧cF T l<a)&&lp A T lits l
def nP(A:Ar)(T:Tr)(lits:List Int)(m:List (Int×Int)):Prop:=∀q:Int,(lk m q).getD 0=0∨((lk m q).getD 0=1∧lp A T lits q=true)∨((lk m q).getD 0=2∧lp A T lits q=false)
def mI:Sch:=
 let E:Sch:=.fork [(14,.take 16 (.take 17 (.take 18 (.take 20 (.take 21 (.fork [(19,.fork [(22,.take 23 (.take 24 (.fork [(25,.done)])))])]))))))]
 .take 0 (.take 1 (.take 2 (.take 3 (.take 4 (.take 5 (.take 7 (.fork [(6,.fork [(8,.take 9 (.take 10 (.take 12 (.take 15 (.fork [(11,.fork [(13,E)]),(13,.fork [(11,E)])])))))])])))))))
structure AskAt (A:Ar) (T:Tr) (lits:List Int) (m:List (Int×Int)) (n:Nat) (h:List (List SV)):Prop where
  b0:h[n]?=some [.pv (lD A)]
  b1:h[n+1]?=some [.pv (bE T)]
  b2:h[n+2]?=some [.pv (.seq false 1 (ab lits))]
  b3:h[n+3]?=some [.omap true (aC fI m)]
  b4:h[n+4]?=some [.pv (oQ n)]
theorem AskAt.set{A:Ar}{T:Tr}{lits:List Int}{m b:List (Int×Int)}{n:Nat}{h:List (List SV)}(a:AskAt A T lits m n h):AskAt A T lits b n (h.set (n+3) [.omap true (aC fI b)])where
 b0:=by rw[Qt (by omega)];exact a.b0
 b1:=by rw[Qt (by omega)];exact a.b1
 b2:=by rw[Qt (by omega)];exact a.b2
 b3:=by rw[Q0 (P7.1 a.b3).1]
 b4:=by rw[Qt (by omega)];exact a.b4
structure ShOk (A:Ar) (T:Tr) (lits:List Int):Prop where
  tr:T.ok
  ar:kJ A
  len:A.row.length<=1000000
  few:lits.length<=1000000
  hd:∀v,0<=(dA T v).1.rea->A.hd≠[]
theorem Gm(A:Ar)(T:Tr)(lits:List Int)(n:Nat)(hs:ShOk A T lits)(l a:Int)(m:List (Int×Int))(h:List (List SV))(k:¬(0<=cF T l∧cF T l<a))(b:AskAt A T lits m n h)(g:nP A T lits m):
 ay Tryz.prog 244 [af l,af a,.ptr (n+1) 0,.ptr (n+3) 0,.ptr n 0,.ptr (n+2) 0,.ptr (n+4) 0] h (λr h'=>∃i,nP A T lits i∧h'=h.set (n+3) [.omap true (aC fI i)]∧r=.pv (BL (iL A T lits l a))):=by
 refine cY [10] [.tmp 9] aD Tryz.func244 ?_;have c:=mF T (ae l) hs.tr;have e:(dA T (ae l)).1.pla=cF T l:=rfl;obtain⟨n0,g0⟩:=P7.1 b.b0;obtain⟨j,f⟩:=P7.1 b.b1;obtain⟨p,g2⟩:=P7.1 b.b2;obtain⟨q,g3⟩:=P7.1 b.b3;obtain⟨s,o⟩:=P7.1 b.b4;rw[e]at c;simp only[bE,cU]at c;simp[j,f,bE,cU];refine br.intro (aG l) ?_;simp[j,f,bE,cU];refine br.intro c ?_
 by_cases c1:cF T l<0
 .have d:iL A T lits l a=false:=by unfold iL;rw[RX (by omega),R8]
  simp[c1,d];exact⟨m,g,(da b.b3).symm⟩
 by_cases c2:a<=cF T l
 .have d:iL A T lits l a=false:=by unfold iL;rw[RX (by omega),R8]
  simp[c1,c2,d];exact⟨m,g,(da b.b3).symm⟩
 exact absurd ⟨by omega,by omega⟩ k
theorem Jy(A:Ar)(T:Tr)(lits:List Int)(n:Nat)(hs:ShOk A T lits):∀(N:Nat)(l a:Int)(m:List (Int×Int))(h:List (List SV)),(0<=cF T l->cF T l<a->cF T l<N)->AskAt A T lits m n h->nP A T lits m->
 ay Tryz.prog 244 [af l,af a,.ptr (n+1) 0,.ptr (n+3) 0,.ptr n 0,.ptr (n+2) 0,.ptr (n+4) 0] h (λr h'=>∃m',nP A T lits m'∧h'=h.set (n+3) [.omap true (aC fI m')]∧r=.pv (BL (iL A T lits l a))):=by
 intro N
 induction N with
 |zero=>
  intro l a m h hN B M;exact Gm A T lits n hs l a m h (λc=>by have:=hN c.1 c.2;omega) B M
 |succ N ih=>
  intro l a m h hN B M;refine cY [10] [.tmp 9] aD Tryz.func244 ?_;have O:=mF T (ae l) hs.tr;have ag:(dA T (ae l)).1.pla=cF T l:=rfl;obtain⟨n0,g0⟩:=P7.1 B.b0;obtain⟨n1,Z⟩:=P7.1 B.b1;obtain⟨n2,g2⟩:=P7.1 B.b2;obtain⟨n3,g3⟩:=P7.1 B.b3;obtain⟨n4,g4⟩:=P7.1 B.b4;rw[ag]at O;simp only[bE,cU]at O;simp[n1,Z,bE,cU];refine br.intro (aG l) ?_;simp[n1,Z,bE,cU];refine br.intro O ?_
  by_cases c1:cF T l<0
  .have P:iL A T lits l a=false:=by unfold iL;rw[RX (by omega),R8]
   simp[c1,P];exact⟨m,M,(da B.b3).symm⟩
  by_cases c2:a<=cF T l
  .have P:iL A T lits l a=false:=by unfold iL;rw[RX (by omega),R8]
   simp[c1,c2,P];exact⟨m,M,(da B.b3).symm⟩
  have P:iL A T lits l a=lp A T lits l:=by unfold iL;rw[Sn (by omega),SY]
  rw[P];have ad:=M l
  by_cases c3:(lk m l).getD 0=0
  rotate_left
  .simp[c1,c2,n3,g3,c3];refine⟨m,M,(da B.b3).symm,?_⟩;rcases ad with e|⟨e,W⟩|⟨e,W⟩
   .exact absurd e c3
   .rw[e,W];rfl
   .rw[e,W];rfl
  have R:=DH A T l hs.tr hs.ar hs.len (hs.hd _);have au:=Gj A T l hs.ar;have aj:=rW A T lits l;simp only[lD,oO,bE,cU]at R;simp[c1,c2,n0,g0,n1,Z,n3,g3,c3,lD,oO,bE,cU];refine ah.intro R ?_;simp;generalize rV A T l=rest at*;generalize oP A T l=ok at*;refine aH.intro (S:=λ(y:Nat×List (Int×Int))=>⟨[(0,.pv (af l)),(1,.pv (af a)),(2,.pv (.ptr (n+1) 0)),(3,.pv (.ptr (n+3) 0)),(4,.pv (.ptr n 0)),(5,.pv (.ptr (n+2) 0)),(6,.pv (.ptr (n+4) 0)),(10,.pv (af (cF T l))),(12,.pv (BL (ok&&(rest.take y.1).all (ng A T lits l)))),(41,.pv (.seq true 1 (ab rest))),(42,.pv (af rest.length)),(43,.pv (af y.1))],h.set (n+3) [.omap true (aC fI y.2)]⟩) (λy=>y.1<=rest.length∧nP A T lits y.2) (λy=>rest.length -y.1) (0,m) ?_ ⟨Qq _,M⟩ ?_
  .exact ai.keep (by simp) (da B.b3).symm
  rintro⟨i,u⟩ ⟨hi,z⟩;dsimp only at hi z;have w:AskAt A T lits u n (h.set (n+3) [.omap true (aC fI u)]):=B.set;have E:∀X Y:List SV,(h.set (n+3) X).set (n+3) Y=h.set (n+3) Y:=λX Y=>TO ..;have ao:(h.set (n+3) [.omap true (aC fI u)]).length=h.length:=Qz ..;generalize L:h.set (n+3) [.omap true (aC fI u)]=H at*;obtain⟨k0,f0⟩:=P7.1 w.b0;obtain⟨p,j⟩:=P7.1 w.b1;obtain⟨s,k⟩:=P7.1 w.b2;obtain⟨k3,f3⟩:=P7.1 w.b3;obtain⟨t,o⟩:=P7.1 w.b4
  by_cases g:i<rest.length
  .have F:aX ((i:Int)+1)=((i+1:Nat):Int):=by
    have:=hs.len;rw[aq (by omega) (by omega)];omega
   have b:(ok&&(rest.take (i+1)).all (ng A T lits l))=((ok&&(rest.take i).all (ng A T lits l))&&ng A T lits l rest[i]):=by
    rw[Rl,P8 g,R3,List.all_append];simp[Bool.and_assoc]
   simp[g];refine bd.one mI (by kernel_rfl) ?_;generalize an:(ok&&(rest.take i).all (ng A T lits l))=acc at*;cases acc
   .simp[mI,g,p,j,s,k,t,o];refine aO.intro (r:=.pv (BL false)) (λh:False=>h.elim) ?_;simp[g,p,j,s,k,t,o,bE,cU];and_intros
    all_goals
     refine aO.intro (r:=.pv (af 0)) (λh:False=>h.elim) ?_;simp[g,p,j,s,k,t,o,bE,cU];refine aO.intro (r:=.pv (af 0)) (λh:False=>h.elim) ?_;simp[g,p,j,s,k,t,o,bE,cU,oQ];exact⟨(i+1,u),by(try dsimp only);omega,⟨by(try dsimp only);omega,z⟩,ai.keep (by simp[F,b]) (by simp[L])⟩
   .generalize d:rest[i]=x at*;have C:=er lits x (by have:=hs.few;omega);have J:=mF T (ae x) hs.tr;have U:(dA T (ae x)).1.pla=cF T x:=rfl;rw[U]at J;simp only[bE,cU]at J;have v:=ih x (cF T l) u H (λh1 h2=>by have:=hN (by omega) (by omega);omega) w z;have G:ng A T lits l x=(lm T lits l x||iL A T lits x (cF T l)):=rfl;have I:lm T lits l x=(!decide (x=l)&&(decide (x∈lits)&&decide (cF T x<cF T l))):=rfl
    by_cases c5:x=l
    .have f:lm T lits l x=false:=by rw[I];simp[c5]
     rw[f,Tj]at G;rw[c5]at v G d b;rw[G]at b;simp[mI,g,p,j,s,k,t,o,d,bE,cU,c5];refine aO.intro (r:=.pv (BL false)) (λh:False=>h.elim) ?_;simp[g,p,j,s,k,t,o,d,bE,cU];and_intros
     all_goals
      refine aO.intro (r:=.pv (af 0)) (λh:False=>h.elim) ?_;simp[g,p,j,s,k,t,o,d,bE,cU];refine aO.intro (r:=.pv (af 0)) (λh:False=>h.elim) ?_;simp[g,p,j,s,k,t,o,d,bE,cU,oQ];refine ak.intro v ?_ (by trivial);rintro _ _ ⟨V,D,rfl,rfl⟩;simp;exact⟨(i+1,V),by(try dsimp only);omega,⟨by(try dsimp only);omega,D⟩,ai.keep (by simp[F,b]) (by simp[←L,E])⟩
    .by_cases c6:x∈lits
     .by_cases c7:cF T x<cF T l
      .have f:lm T lits l x=true:=by rw[I];simp[c5,c6,c7]
       rw[f,Uw]at G;rw[G]at b;simp[mI,g,p,j,s,k,t,o,d,bE,cU,c5];refine aO.intro (λ_=>C) ?_;simp[g,p,j,s,k,t,o,d,bE,cU,c6];and_intros
       all_goals
        refine aO.intro (λ_=>aG x) ?_;simp[g,p,j,s,k,t,o,d,bE,cU,c6];refine aO.intro (λ_=>J) ?_;simp[g,p,j,s,k,t,o,d,bE,cU,oQ,c6,c7];exact⟨(i+1,u),by(try dsimp only);omega,⟨by(try dsimp only);omega,z⟩,ai.keep (by simp[F,b]) (by simp[L])⟩
      .have f:lm T lits l x=false:=by rw[I];simp[c7]
       rw[f,Tj]at G;rw[G]at b;simp[mI,g,p,j,s,k,t,o,d,bE,cU,c5];refine aO.intro (λ_=>C) ?_;simp[g,p,j,s,k,t,o,d,bE,cU,c6];and_intros
       all_goals
        refine aO.intro (λ_=>aG x) ?_;simp[g,p,j,s,k,t,o,d,bE,cU,c6];refine aO.intro (λ_=>J) ?_;simp[g,p,j,s,k,t,o,d,bE,cU,oQ,c6,c7];refine ak.intro v ?_ (by trivial);rintro _ _ ⟨V,D,rfl,rfl⟩;simp;exact⟨(i+1,V),by(try dsimp only);omega,⟨by(try dsimp only);omega,D⟩,ai.keep (by simp[F,b]) (by simp[←L,E])⟩
     .have f:lm T lits l x=false:=by rw[I];simp[c6]
      rw[f,Tj]at G;rw[G]at b;simp[mI,g,p,j,s,k,t,o,d,bE,cU,c5];refine aO.intro (λ_=>C) ?_;simp[g,p,j,s,k,t,o,d,bE,cU,c6];and_intros
      all_goals
       refine aO.intro (r:=.pv (af 0)) (λh:False=>h.elim) ?_;simp[g,p,j,s,k,t,o,d,bE,cU];refine aO.intro (r:=.pv (af 0)) (λh:False=>h.elim) ?_;simp[g,p,j,s,k,t,o,d,bE,cU,oQ];refine ak.intro v ?_ (by trivial);rintro _ _ ⟨V,D,rfl,rfl⟩;simp;exact⟨(i+1,V),by(try dsimp only);omega,⟨by(try dsimp only);omega,D⟩,ai.keep (by simp[F,b]) (by simp[←L,E])⟩
  .have aa:i=rest.length:=by omega
   subst aa;rw[QO,←aj];have K:∀q:Int,lk (pt u l 2) q=if l=q then some 2 else lk u q:=λq=>bD u l 2 q;have Q:∀q:Int,lk (pt (pt u l 2) l 1) q=if l=q then some 1 else lk (pt u l 2) q:=λq=>bD (pt u l 2) l 1 q;cases hv:lp A T lits l
   .simp[k3,f3];refine⟨pt u l 2,λq=>?_,?_⟩
    .rw[K];split
     .rename_i e;subst e;exact .inr (.inr ⟨rfl,hv⟩)
     .exact z q
    .simp[←L,E]
   .simp[k3,f3];refine⟨pt (pt u l 2) l 1,λq=>?_,?_⟩
    .rw[Q];split
     .rename_i e;subst e;exact .inr (.inl ⟨rfl,hv⟩)
     .rename_i e;rw[K,Qa e];exact z q
    .simp[←L,E]
end Go.AX
namespace Go.AX
open Go.Proofs
set_option linter.unusedSimpArgs false
def gI(A:Ar)(T:Tr)(lits:List Int)(l:Int):Bool:=iL A T lits l T.lits.length
theorem Gn(A:Ar)(T:Tr)(lits:List Int):nP A T lits []:=λq=>.inl rfl
end Go.AX
namespace Go.AX
set_option maxRecDepth 16000
open Go.Proofs
set_option linter.unusedSimpArgs false
theorem DI(zs:List Int)(z:zs.length<=1000000)(g:Nat)(cap:List PV)(p:Int->Bool)(n:Nat)(Inv:List (List SV)->Prop)(hp:jk cap=true)(pre a:List Value)(cp:Nat)
 (hz:∀x∈zs,∀h,Inv h->ay Tryz.prog g (af x::cap) h (λr h'=>Inv h'∧h'[n]?=h[n]?∧r=.pv (BL (p x)))) (h:List (List SV)) (u:Inv h) (hn:h[n]?=some (blk pre zs a)):
 ay Tryz.prog 230 [.bsl n 1 pre.length zs.length cp,.fn (.func g) [] cap] h (λr h'=>Inv h'∧h'[n]?=some (blk pre zs a)∧r=.pv (af (gG p zs))):=by
 refine m7 aD Tryz.func230 ?_;simp;refine aH.intro (S:=λ(y:Nat×List (List SV))=>⟨[(0,.pv (.bsl n 1 pre.length zs.length cp)),(1,.pv (.fn (.func g) [] cap)),(7,.pv (af zs.length)),(8,.pv (af y.1))],y.2⟩) (λy=>y.1<=zs.length∧(∀j (hj:j<zs.length),j<y.1->p zs[j]=false)∧Inv y.2∧y.2[n]?=some (blk pre zs a)) (λy=>zs.length -y.1) (0,h) ?_ ⟨Qq _,λj _ h=>absurd h (Sf _),u,hn⟩ ?_
 .exact ai.keep (by simp) rfl
 .rintro⟨i,h1⟩ ⟨hi,ho,d,b⟩;dsimp only at hi ho d b;obtain⟨w,s⟩:=P7.1 b
  by_cases c:i<zs.length
  .have v:=eq i;have hx:=hz zs[i] (Qe c) h1 d;have l:=kj pre zs a (i:=i) c;have m:=eu pre zs a;simp[c,hp,w,s,l,m];refine⟨by omega,?_⟩;refine ak.intro hx ?_ (by trivial);rintro _ t ⟨k,f,rfl⟩;rw[b]at f;cases o:p zs[i]
   .simp;refine⟨(i+1,t),by(try dsimp only);omega,⟨by(try dsimp only);omega,λj hj q=>?_,k,f⟩,ai.keep (by simp[v]) rfl⟩;dsimp only at q
    by_cases e:j=i
    .subst e;exact o
    .exact ho j hj (by omega)
   .simp;rw[gx c ho o];exact⟨k,f,rfl⟩
  .simp[c];rw[eJ (λj hj=>ho j hj (by omega))];exact⟨d,b,rfl⟩
theorem Az(zs:List Int)(hl:zs.length<=1000000)(g:Nat)(cap:List PV)(p:Int->Bool)(n:Nat)(Inv:List (List SV)->Prop)(hp:jk cap=true)(s:∀h L,Inv h->Inv (h.set n L))(pre d:List Value)(cp:Nat)(aa:zs.length<=cp)
 (hz:∀x∈zs,∀h,Inv h->ay Tryz.prog g (af x::cap) h (λr h'=>Inv h'∧h'[n]?=h[n]?∧r=.pv (BL (p x)))) (h:List (List SV)) (hI:Inv h) (hn:h[n]?=some (blk pre zs d)):
 ay Tryz.prog 150 [.bsl n 1 pre.length zs.length cp,.fn (.func g) [] cap] h (λr h'=>Inv h'∧∃G,G=bc p zs++List.replicate (zs.length -(bc p zs).length) 0∧h'[n]?=some (blk pre G d)∧r=.pv (.bsl n 1 pre.length (bc p zs).length cp)):=by
 have P:=DI zs hl g cap p n Inv hp pre d cp hz h hI hn;refine m7 aD Tryz.func150 ?_;simp;refine ak.intro P ?_ (by trivial);rintro _ h0 ⟨A,E,rfl⟩
 by_cases c:∃i,∃h:i<zs.length,p zs[i]=true∧∀j (hj:j<zs.length),j<i->p zs[j]=false
 rotate_left
 .have m:∀j (hj:j<zs.length),p zs[j]=false:=by
   intro j
   induction j using Nat.strongRecOn with
   |ind j ih=>
    intro hj;cases e:p zs[j]
    .rfl
    .exact absurd ⟨j,hj,e,λk hk R=>ih k R hk⟩ c
  have hd:=mE p zs λx hx=>by
   obtain⟨j,hj,rfl⟩:=Qm hx;exact m j hj
  rw[eJ m,hd];simp;exact⟨A,E⟩
 obtain⟨t,u,w,m⟩:=c;rw[gx u m w];have U:=eq t;have C:bc p (zs.take t)=zs.take t:=mE p _ λx hx=>by
  obtain⟨j,hj,rfl⟩:=Qm hx;rw[Qg]at hj;rw[Rr];exact m j (by omega) (by omega)
 simp;refine aH.intro (S:=λ(y:Nat×List Int×List (List SV))=>⟨[(0,.pv (.bsl n 1 pre.length zs.length cp)),(1,.pv (.fn (.func g) [] cap)),(5,.pv (af ((bc p (zs.take y.1)).length:Nat))),(6,.pv (af y.1))],y.2.2⟩)
  (λy=>y.1<=zs.length∧(bc p (zs.take y.1)).length<y.1∧y.2.1.length=zs.length∧y.2.1.take (bc p (zs.take y.1)).length=bc p (zs.take y.1)∧y.2.1.drop y.1=zs.drop y.1∧Inv y.2.2∧y.2.2[n]?=some (blk pre y.2.1 d)) (λy=>zs.length -y.1) (t+1,zs,h0) ?_ ?_ ?_
 .refine ai.keep ?_ rfl;have:(bc p (zs.take (t+1))).length=t:=by rw[il p zs u,Qb w,C,Qg];omega
  simp[U,this]
 .have:bc p (zs.take (t+1))=zs.take t:=by rw[il p zs u,Qb w,C]
  refine⟨by dsimp only;omega,?_,rfl,?_,rfl,A,E⟩
  .dsimp only;rw[this,Qg];omega
  .dsimp only;rw[this,Qg];congr 1;omega
 .rintro⟨j,a,H⟩ ⟨h1,X,J,z,K,N,O⟩;dsimp only at h1 X J z K N O;have q:=eu pre a d;obtain⟨n1,W⟩:=P7.1 O
  by_cases I:j<zs.length
  .have Y:=eq j;have Q:a[j]'(by omega)=zs[j]:=by
    have:=SK (λl=>l[0]?) K;simp only[Rp,SR]at this;rw[P8 (by omega),P8 I]at this;exact Te this
   have o:=kj pre a d (i:=j) (by omega);rw[Q]at o;have hx:=hz zs[j] (Qe I) H N;have b:=il p zs I;simp[I,hp,n1,W,o,q];refine⟨by omega,ak.intro hx ?_ (by trivial)⟩;rintro _ M ⟨B,v,rfl⟩;rw[O]at v;obtain⟨Z,f1⟩:=P7.1 v;cases F:p zs[j]
   .rw[F]at b;simp only[QX,Rs]at b;have V:=eq ((bc p (zs.take j)).length);have T:=vW pre a d (i:=(bc p (zs.take j)).length) zs[j] (by omega);simp[Z,f1,q];refine⟨by omega,by omega,(j+1,a.set (bc p (zs.take j)).length zs[j],M.set n (blk pre (a.set (bc p (zs.take j)).length zs[j]) d)),by(try dsimp only);omega,⟨by(try dsimp only);omega,?_,by(try dsimp only);rw[Qz];exact J,?_,?_,s M _ B,?_⟩,ai.keep ?_ (by simp[T])⟩
    .dsimp only;rw[b,Qh,Ri];omega
    .dsimp only;rw[b,Qh,Ri,Rl,Uo (Qc _),z,Q0 (by omega)];rfl
    .dsimp only;rw[TJ (by omega)];have:=SK (List.drop 1) K
     rwa [RB,RB]at this
    .dsimp only;rw[Q0 Z]
    .simp[Y,V,b]
   .rw[F]at b;simp only[RV]at b;simp;refine⟨(j+1,a,M),by(try dsimp only);omega,⟨by(try dsimp only);omega,by dsimp only;rw[b];omega,J,by dsimp only;rw[b];exact z,?_,B,v⟩,ai.keep (by simp[Y,b]) rfl⟩;dsimp only;have:=SK (List.drop 1) K
    rwa [RB,RB]at this
  .have:j=zs.length:=by omega
   subst this;rw[QO]at X z;have f:=rK pre a d (i:=(bc p zs).length) (n:=zs.length -(bc p zs).length) 0 (by omega);have D:a.take (bc p zs).length++List.replicate (zs.length -(bc p zs).length) 0++a.drop ((bc p zs).length+(zs.length -(bc p zs).length))=bc p zs++List.replicate (zs.length -(bc p zs).length) 0:=by
    rw[z,QK (by omega),Rx]
   rw[D]at f;simp[n1,W,J,f];refine⟨⟨by omega,by omega⟩,by omega,by omega,⟨by omega,by omega⟩,s H _ N⟩
end Go.AX
namespace Go.AX
set_option maxRecDepth 16000
open Go.Proofs
set_option linter.unusedSimpArgs false
@[simp] theorem DJ:∀l:List (Int×Int),Fj (aC fI l)
 |[]=>trivial
 |(_,_)::l=>⟨trivial,DJ l⟩
def Cr(A:Ar)(T:Tr)(lits:List Int)(m:List (Int×Int)):List (List SV):=Gk A T lits m 0++[[.pv (oQ 0)],[.pv (af T.lits.length)]]
def Ot(A:Ar)(T:Tr)(lits:List Int)(h:List (List SV)):Prop:=∃m L,nP A T lits m∧h=Cr A T lits m++[L]
theorem Jz(A:Ar)(T:Tr)(lits:List Int)(h:List (List SV))(L:List SV)(hi:Ot A T lits h):Ot A T lits (h.set 7 L):=by
 obtain⟨m,L0,h1,rfl⟩:=hi;exact⟨m,L,h1,rfl⟩
theorem Gp(A:Ar)(T:Tr)(lits:List Int)(m:List (Int×Int))(L:List SV):AskAt A T lits m 0 (Cr A T lits m++[L]):=⟨rfl,rfl,rfl,rfl,rfl⟩
theorem DL(A:Ar)(T:Tr)(lits:List Int)(hs:ShOk A T lits)(x:Int)(h:List (List SV))(i:Ot A T lits h):
 ay Tryz.prog 165 [af x,.ptr 5 0,.ptr 6 0] h (λr h'=>Ot A T lits h'∧h'[7]?=h[7]?∧r=.pv (BL (gI A T lits x))):=by
 obtain⟨m,L,j,rfl⟩:=i;refine m7 aD Tryz.func165 ?_;have hd:=Jy A T lits 0 hs T.lits.length x T.lits.length m (Cr A T lits m++[L]) (λ_ h=>h) (Gp A T lits m L) j;have e:(Cr A T lits m++[L])[5]?=some [.pv (oQ 0)]:=rfl;have f:(Cr A T lits m++[L])[6]?=some [.pv (af T.lits.length)]:=rfl;have d:(Cr A T lits m++[L]).length=8:=rfl;have b:∀a,(Cr A T lits m++[L]).set 3 [.omap true (aC fI a)]=Cr A T lits a++[L]:=λ_=>rfl;have g:∀a,(Cr A T lits a++[L])[7]?=some L:=λ_=>rfl;have n:=g m;generalize o:Cr A T lits m++[L]=H at*;obtain⟨k,f5⟩:=P7.1 e;obtain⟨l,f6⟩:=P7.1 f;simp[k,f5,l,f6,oQ];refine ak.intro hd ?_ (by trivial);rintro _ _ ⟨a,c,rfl,rfl⟩;simp[gI];rw[b a];exact⟨a,L,c,rfl⟩
def pL(A:Ar)(T:Tr)(lits:List Int):List Int:=lits.take 1++bc (gI A T lits) (lits.drop 1)
def Gq:Sch:=.take 0 (.take 1 (.take 2 (.take 3 (.fork [(4,.fork [(5,.fork [(6,.take 7 .done)])])]))))
theorem AA(A:Ar)(T:Tr)(lits:List Int)(hs:ShOk A T lits)(J:T.lits.length<=1000000):am Tryz.prog 93 [lD A,bE T,.seq false 1 (ab lits)] (λr=>r=.own true 1 (ab (pL A T lits))):=by
 refine vK [6] aD Tryz.func93 ?_;have b:=λh=>Gl h A T lits;have i:=eY T J;have p:=ez lits hs.few;simp only[lD,oO,bE,cU]at b i;simp[lD,oO,bE,cU];refine ah.intro p ?_
 by_cases c:lits=[]
 .subst c;simp[pL,bc]
 have w:0<lits.length:=Ru.2 c;simp[c];refine ah.introM (b _) ?_;rintro _ _ ⟨rfl,rfl⟩;simp[oQ,Gk];refine⟨rfl,ah.intro i ?_⟩;simp;refine bd.one Gq (by kernel_rfl) ?_;simp[Gq];refine⟨by omega,?_⟩;have I:∀l:List Int,List.drop lits.length (ab lits)=[]:=λ_=>QK (by simp)
 by_cases c1:lits.length=1
 .obtain⟨u,rfl⟩:=Se.1 c1;have n:pL A T [u]=[u]:=rfl;rw[n];generalize j:em (a8 [[SV.pv (lD A)],[SV.pv (bE T)],[SV.pv (PV.seq false 1 (ab [u]))],[SV.omap true []],[SV.pv (PV.fn (Fn.func 244) [] [PV.ptr 1 0,PV.ptr 3 0,PV.ptr 0 0,PV.ptr 2 0,PV.ptr 4 0])],[SV.pv (PV.fn (Fn.func 244) [] [PV.ptr 1 0,PV.ptr 3 0,PV.ptr 0 0,PV.ptr 2 0,PV.ptr 4 0])],[SV.pv (PV.lit (Value.int .i64 T.lits.length))]] 3) [PV.ptr 5 0,PV.ptr 6 0]=cap;have E:=iI [] (by simp) 165 cap (λ_=>false) (λr=>by rw[←j];simp[a8,lD,oO,bE,cU]) (by rw[←j];rfl) (λk=>by rw[←j];simp[a8,lD,oO,bE,cU]) (by rw[←j];simp[a8,lD,oO,bE,cU,PV.old,qv,vy]) (λx hx=>by cases hx);refine ah.introX (cd.introS (o:=.slot 7) (lo:=1) (hi:=1) E (by simp) rfl rfl (by simp) (by simp) rfl (by simp[aB]) trivial (by simp) (by rw[←j];simp) ?_);rintro k t ⟨rfl,rfl⟩ _ _;have q:bc (λ_=>false) []=[]:=rfl;simp[q,aB,ab]
 .have B:1<lits.length:=by omega
  have F := λ (pre a : List Value) (cp : Nat) (d : (lits.drop 1).length <= cp) => Az (lits.drop 1) (by have := hs.few; rw [QS]; omega) 165 [.ptr 5 0, .ptr 6 0] (gI A T lits) 7 (Ot A T lits) rfl (Jz A T lits) pre a cp d (λ x _ h G => DL A T lits hs x h G) (Cr A T lits [] ++ [blk pre (lits.drop 1) a]) ⟨[], _, Gn A T lits, rfl⟩ rfl; refine ah.introX (cd.introB (s := 7) (lo := 1) (hi := lits.length) (nw := true) (all := lits) (zs := lits.drop 1) (R := λ k f v => k = some (bc (gI A T lits) (lits.drop 1)).length ∧ f = bc (gI A T lits) (lits.drop 1) ++ List.replicate ((lits.drop 1).length - (bc (gI A T lits) (lits.drop 1)).length) 0 ∧ ∃ m, v = Cr A T lits m)
   rfl (by simp) rfl rfl rfl (by simp) B (by rw[QO]) (by simp) (by simp) rfl (λpre a cp d K=>(F pre a cp d).mono ?_) ?_)
  .rintro r h' ⟨⟨m,L,N,rfl⟩,f,rfl,C,rfl⟩;have H:L=blk pre (bc (gI A T lits) (lits.drop 1)++List.replicate ((lits.drop 1).length -(bc (gI A T lits) (lits.drop 1)).length) 0) a:=Te C;subst H;have e:=jD (gI A T lits) (lits.drop 1);refine⟨_,_,Cr A T lits m,⟨rfl,rfl,m,rfl⟩,by rw[Qh,SB];omega,λk hk=>by cases hk;exact e,rfl,by simp[Cr,Gk,oQ,oO,cU],rfl,rfl⟩
  .rintro k f v ⟨rfl,rfl,m,rfl⟩ _ _;have n:pL A T lits=lits.take 1++bc (gI A T lits) (lits.drop 1):=rfl;have e:=jD (gI A T lits) (lits.drop 1);have M:=hs.few;generalize bc (gI A T lits) (lits.drop 1)=D at*;simp only[QS]at e;have g:(aB (lits.take 1++(D++List.replicate (lits.length -1 -D.length) 0))).length=lits.length:=by
    simp only[aB,Ql,Qh,Qg,SB];omega
   simp[g];refine⟨by omega,?_⟩;rw[n];have h1:(lits.take 1).length=1:=by rw[Qg];omega
   generalize lits.take 1=Z at*;obtain⟨z,rfl⟩:=Se.1 h1;have y:List.take (1+D.length) (aB ([z]++(D++List.replicate (lits.length -1 -D.length) 0)))=ab ([z]++D):=by
    unfold aB ab;rw[←SI,←QD,R4 (by simp;omega)]
   rw[y];rfl
end Go.AX
namespace Go.AX
open Go.Proofs
set_option linter.unusedSimpArgs false
def gJ(l c:List Int)(v:Int):Nat:=(c.filter λy=>decide (bu l y=v)).length
def eb(l c:List Int):List Int:=c.filter λy=>decide (0<=aV y∧bu l y≠1∧bu l y≠-1)
theorem l7(l:List Int):∀(c:List Int)(a b z:Nat),a+c.length<=1000000->b+c.length<=1000000->z+c.length<=1000000->
 c.foldl (zu l) ((a:Int),(b:Int),(z:Int))=(((a+gJ l c 1:Nat):Int),((b+gJ l c (-1):Nat):Int),((z+(eb l c).length:Nat):Int))
 |[],a,b,z,_,_,_=>by simp[gJ,eb]
 |y::c,a,b,z,d,f,hz=>by
  simp only[QA]at d f hz;rw[TR]
  by_cases c1:bu l y=1
  .have e:zu l ((a:Int),(b:Int),(z:Int)) y=(((a+1:Nat):Int),(b:Int),(z:Int)):=by
    unfold zu;rw[Qb c1,aq (by dsimp only;omega) (by dsimp only;omega)];simp
   rw[e,l7 l c (a+1) b z (by omega) (by omega) (by omega)];simp[gJ,eb,c1];omega
  .by_cases c2:bu l y=-1
   .have e:zu l ((a:Int),(b:Int),(z:Int)) y=((a:Int),((b+1:Nat):Int),(z:Int)):=by
     unfold zu;rw[Qa c1,Qb c2,aq (by dsimp only;omega) (by dsimp only;omega)];simp
    rw[e,l7 l c a (b+1) z (by omega) (by omega) (by omega)];simp[gJ,eb,c1,c2];omega
   .by_cases c3:0<=aV y
    .have e:zu l ((a:Int),(b:Int),(z:Int)) y=((a:Int),(b:Int),((z+1:Nat):Int)):=by
      unfold zu;rw[Qa c1,Qa c2,Qb c3,aq (by dsimp only;omega) (by dsimp only;omega)];simp
     rw[e,l7 l c a b (z+1) (by omega) (by omega) (by omega)];simp[gJ,eb,c1,c2,c3];omega
    .have e:zu l ((a:Int),(b:Int),(z:Int)) y=((a:Int),(b:Int),(z:Int)):=by
      unfold zu;rw[Qa c1,Qa c2,Qa c3]
     rw[e,l7 l c a b z (by omega) (by omega) (by omega)];simp[gJ,eb,c1,c2,c3]
theorem gm(l:List Int)(y:Int):bu l y=0∨bu l y=1∨bu l y=-1:=by
 unfold bu;split
 .exact .inl rfl
 .split
  .exact .inr (.inl rfl)
  .split
   .exact .inr (.inr rfl)
   .exact .inl rfl
theorem rX(l:List Int):∀(c:List Int)(n:Int),c.foldl (Jv l) n=((eb l c).getLast?).getD n
 |[],n=>rfl
 |y::c,n=>by
  rw[TR,rX l c];have f:=gm l y
  by_cases c1:0<=aV y∧bu l y=0
  .have e:Jv l n y=y:=by unfold Jv;rw[Qb c1]
   have a:eb l (y::c)=y::eb l c:=by
    unfold eb;rw[Q9,Qb (by rw[Qs];exact⟨c1.1,by omega,by omega⟩)]
   rw[e,a,List.getLast?_cons];rfl
  .have e:Jv l n y=n:=by unfold Jv;rw[Qa c1]
   have a:eb l (y::c)=eb l c:=by
    unfold eb;rw[Q9,Qa (by rw[Qs];rintro⟨b,d,a3⟩;exact c1 ⟨b,by omega⟩)]
   rw[e,a]
theorem JA{l c:List Int}(p:c.length<=1000)(hx:∀y∈c,0<=aV y)(h:(cM l c).2=true):(cM l c).1∈c∧bu l (cM l c).1=0∧∀y∈c,y≠(cM l c).1->bu l y=-1:=by
 have o:=l7 l c 0 0 0 (by omega) (by omega) (by omega);have f:wT l c=(((0+gJ l c 1:Nat):Int),((0+gJ l c (-1):Nat):Int),((0+(eb l c).length:Nat):Int)):=o;have h0:gJ l c 1=0∧(eb l c).length=1∧(cM l c).1=c.foldl (Jv l) 0:=by
  unfold cM at h⊢;rw[f]at h⊢;dsimp only at h⊢
  by_cases e:((0+gJ l c 1:Nat):Int)≠0∨((0+(eb l c).length:Nat):Int)≠1
  .rw[Qb e]at h;cases h
  .rw[Qa e];refine⟨by omega,by omega,rfl⟩
 obtain⟨h1,k,m⟩:=h0;obtain⟨x,b⟩:=Se.1 k;have n:(cM l c).1=x:=by rw[m,rX,b];rfl
 have j:x∈eb l c:=by rw[b];simp
 have a:=j;unfold eb at a;rw[Q3,Qs]at a;rw[n];have v3:=gm l x;refine⟨a.1,by omega,λy hy i=>?_⟩;have d:=gm l y;have g:bu l y≠1:=λe=>by
  have:y∈c.filter λy=>decide (bu l y=1):=by rw[Q3];exact⟨hy,by simpa using e⟩
  unfold gJ at h1;rw[RW h1]at this;cases this
 rcases d with d|d|d
 .have:y∈eb l c:=by
   unfold eb;rw[Q3,Qs];exact⟨hy,hx y hy,by omega,by omega⟩
  rw[b]at this;simp at this;exact absurd this i
 .exact absurd d g
 .exact d
structure Cls6 (cs:List (List Int)) (ats:List Int):Prop where
  len:∀c∈cs,c.length<=1000
  chk:∀c∈cs,∀y∈c,ax y 6=0
  pos:∀k,k<cs.length->0<=ats.getD k 0
theorem PN{y:Int}(h:ax y 6=0):y≠0∧-6<=y∧y<=6∧0<=aV y∧aX (-y)=-y:=by
 obtain⟨a,b,c⟩:=(df (by omega)).1 h;refine⟨a,b,c,?_,aq (by omega) (by omega)⟩;rw[gy];exact(aW y).2 ⟨a,by omega,by omega⟩
theorem wm{l:List Int}{y:Int}(h:bu l y=-1):aX (-y)∈l:=by
 unfold bu at h;split at h
 .omega
 .split at h
  .omega
  .split at h
   .assumption
   .omega
def DkR(D:DK):Prop:=∀i (hi:i<D.t.rows.length),D.t.rows[i].rea<0∨(isA D.A D.t.rows[i].rea=true∧D.t.rows[i].l∈au D.A D.t.rows[i].rea∧∀y∈au D.A D.t.rows[i].rea,ax y 6=0∧(y≠D.t.rows[i].l->aX (-y)∈(D.t.rows.take i).map (·.l)))
structure DeskOk (D:DK):Prop where
  rel:RelD D.T D.t
  relA:RelA D.A D.a
  rea:DkR D
  len:D.A.row.length<=1000000
theorem Gs{A:Ar}{q:Int}(h:isA A q=true):A.hd≠[]:=λe=>by
 unfold isA at h;rw[e]at h;simp[lk]at h
theorem wn{α:Type}{p:α->Bool}:∀{l:List α}{j:Nat}(hj:j<l.length),p l[j]=true->0<=gG p l∧gG p l<=j:=by
 intro l j hj h;unfold gG;cases a:l.findIdx? p with
 |none=>
  rw[Sz]at a;have:=a _ (Qe hj);rw[h]at this;cases this
 |some i=>
  rw[RJ]at a;obtain⟨h1,d,c⟩:=a;dsimp only;refine⟨by omega,?_⟩;apply Int.ofNat_le.2;apply RG;intro b;exact c j b h
theorem Gt(A:Ar)(T:Tr)(c:List Int):List.Sublist (pL A T c) c:=by
 have h:List.Sublist (c.take 1++bc (gI A T c) (c.drop 1)) (c.take 1++c.drop 1):=List.Sublist.append (UC _) Up;rw[Q7]at h;exact h
@[simp ↓ high] theorem Ou{P:Program}{st:St}{a:Prop}{o:Op}{d:Option Tmp}{K:St->Prop}(h:a):BY P st a o d K=AE P st o d K:=
 propext ⟨λx=>x.1 h,λx=>⟨λ_=>x,λhn=>absurd h hn⟩⟩
instance:Inhabited Ro:=⟨⟨0,0,[]⟩⟩
theorem dC(l:Int):ae (-l)=ae l:=by
 unfold ae;rw[Jl];unfold du;split
 .split<;>split<;>omega
 .rfl
theorem rY(l:List Int):∀(c:List Int)(n:Int),-1<=n->n<=c.foldl (xY l) n∧(c.foldl (xY l) n=-1↔n=-1∧∀y∈c,0<=aV y->bu l y=-1)
 |[],n,h=>by simp
 |y::c,n,h=>by
  have f:=gm l y;rw[TR]
  by_cases q:0<=aV y∧n<bu l y
  .have e:xY l n y=bu l y:=by unfold xY;rw[Qb q]
   rw[e];obtain⟨d,g2⟩:=rY l c (bu l y) (by omega);refine⟨by omega,?_⟩;constructor
   .intro g;omega
   .rintro⟨b,a⟩;have:=a y (Qy ..) q.1;omega
  .have e:xY l n y=n:=by unfold xY;rw[Qa q]
   rw[e];obtain⟨d,g2⟩:=rY l c n h;refine⟨d,?_⟩;rw[g2];constructor
   .rintro⟨b,a⟩;refine⟨b,λz hz hx=>?_⟩;rcases QC.1 hz with rfl|hz
    .omega
    .exact a z hz hx
   .rintro⟨b,a⟩;exact⟨b,λz hz=>a z (Qr _ hz)⟩
theorem l8{l c:List Int}:rS l c=-1↔∀y∈c,0<=aV y->bu l y=-1:=by
 have:=(rY l c (-1) (by omega)).2;unfold rS;rw[this];exact⟨λh=>h.2,λh=>⟨rfl,h⟩⟩
theorem x5{l:List Int}{x:Int}(d:bu l x=0)(a:0<=aV x):∀{c:List Int},c.Nodup->x∈c->(∀y∈c,y≠x->bu l y=-1)->eb l c=[x]
 |[],_,h,_=>by cases h
 |y::c,hn,b,ho=>by
  rw[RQ]at hn;unfold eb
  by_cases e:y=x
  .subst e;rw[Q9,Qb (by rw[Qs];exact⟨a,by omega,by omega⟩)];congr 1;rw[RD];intro z hz;have:=ho z (Qr _ hz) (λe=>hn.1 (e▸hz));simp[this]
  .have hy:=ho y (Qy ..) e;rw[Q9,Qa (by simp[hy])];rcases QC.1 b with rfl|b
   .exact absurd rfl e
   .exact x5 d a hn.2 b (λz hz=>ho z (Qr _ hz))
theorem Cs{l c:List Int}{x:Int}(i:c.length<=1000)(hn:c.Nodup)(h:x∈c)(b:0<=aV x)(d:bu l x=0)(ho:∀y∈c,y≠x->bu l y=-1):cM l c=(x,true):=by
 have g:=l7 l c 0 0 0 (by omega) (by omega) (by omega);have a:wT l c=(((0+gJ l c 1:Nat):Int),((0+gJ l c (-1):Nat):Int),((0+(eb l c).length:Nat):Int)):=g;have h1:=x5 d b hn h ho;have f:gJ l c 1=0:=by
  unfold gJ;rw[Rj,RD];intro y hy
  by_cases e:y=x
  .subst e;simp[d]
  .simp[ho y hy e]
 unfold cM;rw[a,h1,f,rX,h1];simp
structure ClsN (cs:List (List Int)) (ats:List Int):Prop extends Cls6 cs ats where
  nd:∀c∈cs,c.Nodup
def Calm(cs:List (List Int))(ls:List Int):Prop:=∀c∈cs,(cM ls c).2=false∧rS ls c≠-1
def dH(t:RT):List Int:=t.rows.map (·.l)
def bel(t:RT)(k:Int):List Int:=(t.rows.filter λx=>decide (x.lev<k)).map (·.l)
inductive Tra (cs:List (List Int)) (ats:List Int):RT->Prop
  |nil:Tra cs ats ⟨6,[],0⟩
  |dec {t:RT} {l:Int}:Tra cs ats t->mayR t l=0->Calm cs (dH t)->Tra cs ats ⟨t.vars,t.rows++[⟨l,t.dep+1,-1⟩],t.dep+1⟩
  |imp {t:RT} {k:Nat} {x:Int} (hk:k<cs.length):Tra cs ats t->mayR t x=0->cM (dH t) cs[k]=(x,true)->Tra cs ats ⟨t.vars,t.rows++[⟨x,t.dep,ats.getD k 0⟩],t.dep⟩
theorem JB{t:RT}(h:∀x∈t.rows,x.lev<=t.dep):bel t (t.dep+1)=dH t:=by
 unfold bel dH;rw[Si.2];intro x hx;have:=h x hx;simp;omega
theorem jd{t:RT}{k:Int}:∀y∈bel t k,y∈dH t:=by
 intro y hy;unfold bel at hy;obtain⟨x,hx,rfl⟩:=Qk.1 hy;exact Qk.2 ⟨x,(Q3.1 hx).1,rfl⟩
theorem Gu{t:RT}{l:Int}(h:mayR t l=0):ax l t.vars=0∧pJ t (ae l)<0:=by
 unfold mayR at h;split at h
 .cases h
 .rename_i c1;split at h
  .cases h
  .exact⟨by simpa using c1,by omega⟩
theorem wo{t:RT}{v:Int}(h:pJ t v<0):∀x∈t.rows,ae x.l≠v:=by
 intro x hx e;obtain⟨j,hj,rfl⟩:=Qm hx;have:=wn (p:=λx:En=>decide (ae x.l=v)) hj (by simp[e]);unfold pJ at h;omega
structure TraF (cs:List (List Int)) (ats:List Int) (t:RT):Prop where
  vars:t.vars=6
  dep:0<=t.dep
  chk:∀x∈t.rows,ax x.l 6=0
  nd:(t.rows.map λx=>ae x.l).Nodup
  lev:∀x∈t.rows,0<=x.lev∧x.lev<=t.dep
  mono:∀i j (hi:i<t.rows.length)(hj:j<t.rows.length),i<j->t.rows[i].lev<=t.rows[j].lev
  dec:∀i (hi:i<t.rows.length),t.rows[i].rea<0->0<t.rows[i].lev∧∀j (hj:j<t.rows.length),j<i->t.rows[j].lev<t.rows[i].lev
  top:0<t.dep->Calm cs (bel t t.dep)
  fst:∀k:Int,0<k->k<=t.dep->∃x∈t.rows,x.lev=k∧x.rea<0
  imp:∀i (hi:i<t.rows.length),0<=t.rows[i].rea->∃k,∃hk:k<cs.length,t.rows[i].rea=ats.getD k 0∧t.rows[i].l∈cs[k]∧(∀y∈cs[k],y≠t.rows[i].l->∃j,∃hj:j<t.rows.length,j<i∧t.rows[j].l=-y)∧
    (0<t.rows[i].lev->∃y∈cs[k],y≠t.rows[i].l∧∃j,∃hj:j<t.rows.length,j<i∧t.rows[j].l=-y∧t.rows[j].lev=t.rows[i].lev)
theorem iM{α:Type}{l:List α}{x:α}{i:Nat}(h:i<(l++[x]).length):(∃hi:i<l.length,(l++[x])[i]=l[i])∨(i=l.length∧(l++[x])[i]=x):=by
 by_cases c:i<l.length
 .exact .inl ⟨c,QN c⟩
 .have:i=l.length:=by simp at h;omega
  subst this;exact .inr ⟨rfl,by simp⟩
theorem TraF.inj{cs:List (List Int)}{ats:List Int}{t:RT}(h:TraF cs ats t){i j:Nat}(hi:i<t.rows.length)(hj:j<t.rows.length)(e:ae t.rows[i].l=ae t.rows[j].l):i=j:=by
 have hn:=QV.1 (Sk.1 h.nd);rcases RH i j with c|c|c
 .exact absurd e (hn i j hi hj c)
 .exact c
 .exact absurd e.symm (hn j i hj hi c)
theorem TraF.one{cs:List (List Int)}{ats:List Int}{t:RT}(h:TraF cs ats t){y:Int}(hy:ax y 6=0):¬(y∈dH t∧-y∈dH t):=by
 rintro⟨h1,d⟩;unfold dH at h1 d;obtain⟨a,g,e⟩:=Qk.1 h1;obtain⟨b,k,f⟩:=Qk.1 d;obtain⟨i,hi,rfl⟩:=Qm g;obtain⟨j,hj,rfl⟩:=Qm k;have m:ae t.rows[i].l=ae t.rows[j].l:=by rw[e,f,dC]
 have c:i=j:=h.inj hi hj m;subst c;obtain⟨n0,_⟩:=PN hy;omega
structure Way (cs:List (List Int)) (ats:List Int) (D:DK):Prop where
  rel:RelD D.T D.t
  tra:Tra cs ats D.t
  con:(D.con<0∧Calm cs (dH D.t))∨∃k,∃hk:k<cs.length,D.con=ats.getD k 0∧rS (dH D.t) cs[k]=-1
theorem DM{l:List Int}(h:gZ l l.length=0):l.Nodup:=by
 refine QV.2 λi j hi hj b e=>?_;have a:=nL l (i:=j+1) l.length (by omega);rw[gZ]at a;have:l.getD j 0∈l.take j:=by
  rw[P9,P8 hj,QF,←e];rw[Rw];exact⟨i,by omega,rfl⟩
 rw[Qb this]at a;omega
structure DeskT (cs:List (List Int)) (ats:List Int) (D:DK):Prop where
  ok:DeskOk D
  cls:ClsN cs ats
  way:Way cs ats D
  ars:∀k (hk:k<cs.length),isA D.A (ats.getD k 0)=true∧au D.A (ats.getD k 0)=cs[k]
structure PS where
  seen:List (Int×Int)
  lits:List Int
  many:Nat
def aA(s:List (Int×Int))(v:Int):Bool:=decide (0<(lk s v).getD 0)
def dN(T:Tr)(l:Int):Int:=(dA T (ae l)).1.lev
def takeF(T:Tr)(but:Int)(p:PS)(l:Int):PS:=
 if ae l=but∨aA p.seen (ae l)=true∨dN T l<=0 then p
 else if dN T l=T.beg.length then⟨pt p.seen (ae l) 1,p.lits,p.many+1⟩else⟨pt p.seen (ae l) 1,p.lits++[l],p.many⟩
def dt(T:Tr)(but:Int)(c:List Int)(p:PS):PS:=c.foldl (takeF T but) p
def nh(T:Tr)(p:PS)(l:Int):Bool:=aA p.seen (ae l)&&(decide (dN T l=T.beg.length)&&decide (0<=(dA T (ae l)).1.rea))
def nQ(A:Ar)(T:Tr)(p:PS)(l:Int):PS:=dt T (ae l) (au A (dA T (ae l)).1.rea) ⟨pt p.seen (ae l) 0,p.lits,p.many -1⟩
def cN(A:Ar)(T:Tr)(all:List Int):Nat->PS->PS
 |0,p=>p
 |n+1,p=>if p.many<=1 then p else if nh T p (all.getD n 0)=true then cN A T all n (nQ A T p (all.getD n 0))else cN A T all n p
def qA(T:Tr)(all:List Int)(p:PS):List Int:=p.lits++(all.filter λl=>aA p.seen (ae l)&&decide (dN T l=T.beg.length)).map λl=>aX (-l)
/-! ### Places of what is assigned -/
theorem TraF.pla{cs:List (List Int)}{ats:List Int}{t:RT}(h:TraF cs ats t){j:Nat}(hj:j<t.rows.length):pJ t (ae t.rows[j].l)=j:=by
 have h1:=wn (p:=λx:En=>decide (ae x.l=ae t.rows[j].l)) hj (by simp);obtain⟨i,hi,a,b⟩:=ko (t:=t) (v:=ae t.rows[j].l) h1.1;have:=h.inj hi hj b;subst this;exact a
theorem pM{t:RT}{j:Nat}(hj:j<t.rows.length){y:Int}(hy:t.rows[j].l=-y):ae y=ae t.rows[j].l:=by rw[hy,dC]
theorem iN{t:RT}{j:Nat}(hj:j<t.rows.length){y:Int}(hy:t.rows[j].l=-y):y=-t.rows[j].l:=by omega
/-! ### Counting -/
theorem nR{α:Type}{P Q:α->Bool}:∀{l:List α}{j:Nat}(hj:j<l.length),P l[j]=false->Q l[j]=true->(∀i (hi:i<l.length),i≠j->Q l[i]=P l[i])->l.countP Q=l.countP P+1
 |[],j,hj,_,_,_=>by simp at hj
 |x::l,0,hj,a,b,ho=>by
  simp only[Sv]at a b;have:l.countP Q=l.countP P:=by
   apply List.countP_congr;intro y hy;obtain⟨i,hi,rfl⟩:=Qm hy;have:=ho (i+1) (by simpa using hi) (by omega);simp only[Tq]at this;rw[this]
  rw[SQ,SQ,this,a,b];simp
 |x::l,j+1,hj,a,b,ho=>by
  simp only [Tq] at a b; have h0 := ho 0 (by simp) (by omega); simp only [Sv] at h0; have := nR (l := l) (j := j) (by simpa using hj) a b (λ i hi c => by
   have:=ho (i+1) (by simpa using hi) (by omega);simpa using this)
  rw[SQ,SQ,this,h0];omega
theorem rZ{α:Type}{P:α->Bool}:∀{l:List α},2<=l.countP P->∃i j,∃hi:i<l.length,∃hj:j<l.length,i<j∧P l[i]=true∧P l[j]=true
 |[],h=>by simp at h
 |x::l,h=>by
  rw[SQ]at h
  by_cases c:P x=true
  .rw[Qb c]at h;have:0<l.countP P:=by omega
   rw[Uq]at this;obtain⟨y,hy,hp⟩:=this;obtain⟨j,hj,rfl⟩:=Qm hy;exact⟨0,j+1,by simp,by simpa using hj,by omega,by simpa using c,by simpa using hp⟩
  .rw[Qa c]at h;obtain⟨i,j,hi,hj,a,b,d⟩:=rZ (l:=l) (by omega);exact⟨i+1,j+1,by simpa using hi,by simpa using hj,by omega,by simpa using b,by simpa using d⟩
/-! ### What is known while a conflict is taken apart -/
structure LI (t:RT) (p:PS) (n:Nat):Prop where
  sn:∀v,aA p.seen v=true->∃j,∃hj:j<t.rows.length,ae t.rows[j].l=v∧0<t.rows[j].lev∧(t.rows[j].lev=t.dep->j<n∨t.rows[j].rea<0)
  li:∀l∈p.lits,∃j,∃hj:j<t.rows.length,t.rows[j].l=-l∧0<t.rows[j].lev∧t.rows[j].lev<t.dep
  ls:∀j (hj:j<t.rows.length),aA p.seen (ae t.rows[j].l)=true->t.rows[j].lev<t.dep->-t.rows[j].l∈p.lits
  mn:p.many=t.rows.countP (λx=>aA p.seen (ae x.l)&&decide (x.lev=t.dep))
theorem mJ(s:List (Int×Int))(v w:Int)(n:Int):aA (pt s v n) w=if v=w then decide (0<n)else aA s w:=by
 unfold aA;rw[bD];split<;>rfl
theorem Lu(t:RT)(n:Nat):LI t ⟨[],[],0⟩ n where
 sn:=λv h=>by simp[aA,lk]at h
 li:=by simp
 ls:=λj hj h=>by simp[aA,lk]at h
 mn:=by
  symm;rw[Ur];intro x _;simp[aA,lk]
/-! ### The one literal of the greatest level first -/
def cI(T:Tr)(out:List Int):Nat->Int×Nat×Nat
 |0=>(-1,0,0)
 |i+1=>if(cI T out i).1<dN T (out.getD i 0)then(dN T (out.getD i 0),1,i)
  else if dN T (out.getD i 0)=(cI T out i).1 then((cI T out i).1,(cI T out i).2.1+1,(cI T out i).2.2)else cI T out i
def Gv(T:Tr)(out:List Int):List Int:=if(cI T out out.length).2.1=1 then out.getD (cI T out out.length).2.2 0::out.eraseIdx (cI T out out.length).2.2 else out
def Gw(T:Tr)(lits:List Int):List Int:=Gv T (eA lits)
def gT(A:Ar)(T:Tr)(con:Int):PS:=dt T 0 (au A con) ⟨[],[],0⟩
def dq(A:Ar)(T:Tr)(con:Int):List Int:=Gw T (qA T T.lits (cN A T T.lits T.lits.length (gT A T con)))
theorem x7{T:Tr}{out:List Int}{k:Nat}(hk:k<out.length)(h0:0<=dN T out[k])(ho:∀i (hi:i<out.length),i≠k->dN T out[i]<dN T out[k]):∀i,i<=out.length->
 if k<i then cI T out i=(dN T out[k],1,k)else(cI T out i).1<dN T out[k]
 |0,_=>by rw[Qa (by omega)];simp only[cI];omega
 |i+1,hi=>by
  have a:=x7 hk h0 ho i (by omega);have b:out.getD i 0=out[i]:=by rw[P9,P8 (by omega)];rfl
  rw[cI,b]
  by_cases c:k<i
  .rw[Qb c]at a;have:=ho i (by omega) (by omega);rw[Qb (by omega),a];dsimp only;rw[Qa (by omega),Qa (by omega)]
  .rw[Qa c]at a
   by_cases e:k=i
   .subst e;rw[Qb (by omega),Qb a]
   .have:=ho i (by omega) (by omega);rw[Qa (by omega)];split
    .exact this
    .split
     .exact a
     .exact a
theorem JD{T:Tr}{out:List Int}{k:Nat}(hk:k<out.length)(h0:0<=dN T out[k])(ho:∀i (hi:i<out.length),i≠k->dN T out[i]<dN T out[k]):Gv T out=out[k]::out.eraseIdx k:=by
 have:=x7 hk h0 ho out.length (Qc _);rw[Qb hk]at this;unfold Gv;rw[this,Qb rfl,P9,P8 hk];rfl
theorem l9{l:List Int}{k:Nat}(hk:k<l.length)(x:Int):x∈l[k]::l.eraseIdx k↔x∈l:=by
 rw[QC,Tn];constructor
 .rintro(rfl|⟨i,hi,_,rfl⟩)
  .exact Qe hk
  .exact Qe _
 .intro h;obtain⟨i,hi,rfl⟩:=Qm h
  by_cases e:i=k
  .subst e;exact .inl rfl
  .exact .inr ⟨i,hi,e,rfl⟩
theorem ux{l:List Int}(h:l.Nodup){i j:Nat}(hi:i<l.length)(hj:j<l.length)(e:l[i]=l[j]):i=j:=by
 have hn:=QV.1 h;rcases RH i j with c|c|c
 .exact absurd e (hn i j hi hj c)
 .exact c
 .exact absurd e.symm (hn j i hj hi c)
theorem x8(c:List Int):(eA c).Nodup:=(oH c).1.imp λh e=>by rw[e]at h;omega
/-! ### What reasons show -/
inductive HOk (A:Ar) (T:Tr) (R:List Int):Int->Prop
  |stop {l:Int}:l∈R->HOk A T R l
  |why {l:Int}:cv T l<0->0<=(dA T (ae l)).1.rea->isA A (dA T (ae l)).1.rea=true->(∀y∈au A (dA T (ae l)).1.rea,y≠-l->HOk A T R y)->HOk A T R l
def Fr(D:DK)(p:PS)(R:List Int):Prop:=∀j (hj:j<D.t.rows.length),aA p.seen (ae D.t.rows[j].l)=true->HOk D.A D.T R (-D.t.rows[j].l)
structure Conf (D:DK) (con:Int):Prop where
  is:isA D.A con=true
  neg:∀y∈au D.A con,ax y 6=0∧∃j,∃hj:j<D.t.rows.length,D.t.rows[j].l=-y
  top:0<D.t.dep->∃y∈au D.A con,∃j,∃hj:j<D.t.rows.length,D.t.rows[j].l=-y∧D.t.rows[j].lev=D.t.dep
structure Learnt (D:DK) (L:List Int):Prop where
  nd:L.Nodup
  neg:∀y∈L,ax y 6=0∧∃j,∃hj:j<D.t.rows.length,D.t.rows[j].l=-y∧0<D.t.rows[j].lev
  nil:D.t.dep=0->L=[]
  top:0<D.t.dep->∃u r,L=u::r∧dN D.T u=D.t.dep∧∀y∈r,dN D.T y<D.t.dep
theorem nS{α:Type}{P:α->Bool}:∀{l:List α}{i j:Nat}(b:i<j)(hj:j<l.length),P (l[i]'(by omega))=true->P l[j]=true->2<=l.countP P
 |[],i,j,_,hj,_,_=>by simp at hj
 |x::l,0,j+1,_,hj,h1,a=>by
  simp only[Sv,Tq]at h1 a;have:0<l.countP P:=Uq.2 ⟨_,Qe (by simpa using hj),a⟩;rw[SQ,Qb h1];omega
 |x::l,i+1,j+1,b,hj,h1,a=>by
  simp only[Tq]at h1 a;have:=nS (l:=l) (i:=i) (j:=j) (by omega) (by simpa using hj) h1 a;rw[SQ];omega
theorem DN:eA []=[]:=by
 have:=(oH []).2;cases e:eA []with
 |nil=>rfl
 |cons x l=>have h:=(this x).1 (by rw[e];simp);simp at h
end Go.AX
namespace Go.AX
set_option maxRecDepth 16000
open Go.Proofs
set_option linter.unusedSimpArgs false
def iT(A:Ar)(T:Tr)(p:PS):List SV:=[.pv (lD A),.pv (bE T),.omap true (aC fI p.seen),.own true 1 (ab p.lits),.pv (af p.many)]
@[simp] theorem Ov(r:Nat->Nat->PV)(A:Ar):em r (oO A)=oO A:=by simp[oO]
@[simp] theorem Ow(r:Nat->Nat->PV)(T:Tr):em r (cU T)=cU T:=by simp[cU]
@[simp] theorem Lv(k:Nat)(A:Ar):bP k (oO A):=by simp[oO]
@[simp] theorem Lw(k:Nat)(T:Tr):bP k (cU T):=by simp[cU]
theorem aP(k:Nat)(A:Ar)(T:Tr)(p:PS):cT k (iT A T p):=⟨⟨⟨aS k _,ik k _,trivial⟩,trivial⟩,⟨⟨nI k _,aS k _,aS k _,trivial,trivial⟩,trivial⟩,ik k _,aS k _,trivial,trivial⟩
theorem Gx(T:Tr)(but:Int)(p:PS)(l:Int):(takeF T but p l).many<=p.many+1∧(takeF T but p l).lits.length<=p.lits.length+1:=by
 unfold takeF;split
 .exact⟨by omega,by omega⟩
 .split
  .exact⟨by simp,by simp⟩
  .exact⟨by simp,by simp⟩
theorem jK(T:Tr)(but:Int):∀(c:List Int)(p:PS),(dt T but c p).many<=p.many+c.length∧(dt T but c p).lits.length<=p.lits.length+c.length
 |[],p=>⟨Qc _,Qc _⟩
 |y::c,p=>by
  have h1:=Gx T but p y;have a:=jK T but c (takeF T but p y);have e:dt T but (y::c) p=dt T but c (takeF T but p y):=rfl;rw[e,QA];omega
theorem r8(T:Tr)(but:Int)(c:List Int)(p:PS){i:Nat}(h:i<c.length):dt T but (c.take (i+1)) p=takeF T but (dt T but (c.take i) p) c[i]:=bs _ _ _ _ h
theorem Gy(A:Ar)(T:Tr)(p:PS)(q but:Int)(ht:T.ok)(h0:A.hd≠[])(hk:kJ A)(k:A.row.length<=1000000)(m:p.many<=1000000000)(hp:p.lits.length<=1000000000):
 ay Tryz.prog 161 [.ptr 0 0,af q,af but] [iT A T p] (λr h'=>h'=[iT A T (dt T but (au A q) p)]∧r=.pv (.tup [])):=by
 refine dY [] [] [iT A T (dt T but (au A q) p)] (by simp) (λ_=>⟨aP _ _ _ _,trivial⟩) aD Tryz.func161 ?_;have j:=jJ A h0 hk k q;have l:=fA A hk q;generalize au A q=c at*;simp[iT];refine ah.intro j ?_;simp;refine aH.intro (S:=λ(i:Nat)=>⟨[(0,.pv (.ptr 0 0)),(2,.pv (af but)),(6,.pv (.fn (.func 170) [bE T] [])),(20,.own true 1 (ab c)),(21,.pv (af c.length)),(22,.pv (af i))],[iT A T (dt T but (c.take i) p)]⟩) (λi=>i<=c.length) (λi=>c.length -i) 0 ?_ (Qq _) ?_
 .exact ai.to (by simp) (by simp[iT,dt]) (by simp) (by simp) (by simp[aP])
 intro i hi
 by_cases h:i<c.length
 rotate_left
 .have f:i=c.length:=by omega
  subst f;simp[iT,fP]
 have d:=eq i;have hs:=r8 T but c p h;have hle:=jK T but (c.take i) p;rw[Qg]at hle;generalize dt T but (c.take i) p=s at*;have b:=fv T (ae c[i]) ht;simp[h,iT];refine ah.intro (aG c[i]) ?_;simp;refine aO.intro (λ_=>b) ?_
 by_cases c1:ae c[i]=but
 .have hd:takeF T but s c[i]=s:=by unfold takeF;rw[Qb (.inl c1)]
  simp[c1];refine⟨i+1,by(try dsimp only);omega,by(try dsimp only);omega,ai.to (by simp[d]) (by simp[iT,hs,hd]) (by simp) (by simp) (by simp[aP])⟩
 by_cases c2:0<(lk s.seen (ae c[i])).getD 0
 .have hd:takeF T but s c[i]=s:=by unfold takeF;rw[Qb (.inr (.inl (by simpa[aA]using c2)))]
  simp[c1,c2];refine⟨i+1,by(try dsimp only);omega,by(try dsimp only);omega,ai.to (by simp[d]) (by simp[iT,hs,hd]) (by simp) (by simp) (by simp[aP])⟩
 have a:(lk s.seen (ae c[i])).getD 0<=0:=by omega
 by_cases c3:(dA T (ae c[i])).1.lev<=0
 .have hd:takeF T but s c[i]=s:=by unfold takeF;rw[Qb (.inr (.inr c3))]
  simp[c1,c2,a,c3];refine⟨i+1,by(try dsimp only);omega,by(try dsimp only);omega,ai.to (by simp[d]) (by simp[iT,hs,hd]) (by simp) (by simp) (by simp[aP])⟩
 have hd:takeF T but s c[i]=if(dA T (ae c[i])).1.lev=T.beg.length then⟨pt s.seen (ae c[i]) 1,s.lits,s.many+1⟩else⟨pt s.seen (ae c[i]) 1,s.lits++[c[i]],s.many⟩:=by
  unfold takeF;rw[Qa]
  .rfl
  rintro(e|e|e)
  .exact c1 e
  .exact c2 (by simpa[aA]using e)
  .exact c3 e
 simp[c1,c2,a,c3];refine br.intro b ?_;simp;refine br.intro (jI T) ?_
 by_cases c4:(dA T (ae c[i])).1.lev=T.beg.length
 .rw[Qb c4]at hd;have g:=eq s.many;simp[c4];refine⟨i+1,by(try dsimp only);omega,by(try dsimp only);omega,ai.to (by simp[d]) (by simp[iT,hs,hd,g]) (by simp) (by simp) (by simp[aP])⟩
 .rw[Qa c4]at hd;simp[c4];refine⟨by omega,i+1,by(try dsimp only);omega,by(try dsimp only);omega,ai.to (by simp[d]) (by simp[iT,hs,hd,ab]) (by simp) (by simp) (by simp[aP])⟩
def jL(T:Tr)(p:PS)(all:List Int):Nat->Int
 |0=>-1
 |n+1=>if nh T p (all.getD n 0)=true then(n:Int)else jL T p all n
theorem DO(A:Ar)(T:Tr)(all:List Int)(p:PS)(h:p.many<=1):∀k,cN A T all k p=p
 |0=>rfl
 |k+1=>by rw[cN,Qb h]
theorem x9(A:Ar)(T:Tr)(all:List Int)(p:PS):∀k,(jL T p all k=-1∧cN A T all k p=p)∨∃j,j<k∧jL T p all k=(j:Int)∧(1<p.many->cN A T all k p=cN A T all j (nQ A T p (all.getD j 0)))
 |0=>.inl ⟨rfl,rfl⟩
 |k+1=>by
  rw[jL,cN]
  by_cases c:nh T p (all.getD k 0)=true
  .rw[Qb c,Qb c];exact .inr ⟨k,by omega,rfl,λh=>by rw[Qa (by omega)]⟩
  .rw[Qa c,Qa c];rcases x9 A T all p k with⟨h1,a⟩|⟨j,h1,a,b⟩
   .refine .inl ⟨h1,?_⟩;split
    .rfl
    .exact a
   .refine .inr ⟨j,by omega,a,λh=>?_⟩;rw[Qa (by omega)];exact b h
theorem Gz(A:Ar)(T:Tr)(p:PS)(all:List Int)(n:Nat)(ht:T.ok)(hn:n<=all.length)(q:all.length<=1000000):
 ay Tryz.prog 240 [.ptr 0 0,.seq false 1 (ab all),af ((n:Int) -1)] [iT A T p] (λr h'=>h'=[iT A T p]∧r=.pv (af (jL T p all n))):=by
 refine dY [] [.tmp 6] [iT A T p] (by simp) (λ_=>⟨aP _ _ _ _,trivial⟩) aD Tryz.func240 ?_;generalize l:jL T p all n=F;simp;refine aH.intro (S:=λ(k:Nat)=>⟨[(0,.pv (.ptr 0 0)),(1,.pv (.seq false 1 (ab all))),(7,.pv (af ((k:Int) -1)))],[iT A T p]⟩) (λk=>k<=n∧F=jL T p all k) (λk=>k) n ?_ ⟨Qc _,l.symm⟩ ?_
 .exact ai.to (by simp) (by simp) (by simp) (by simp) (by simp[aP])
 rintro k ⟨hk,a⟩;cases k with
 |zero=>simp[jL]at a;subst a;simp[fP]
 |succ j=>
  have hj:j<all.length:=by omega
  have m:all.getD j 0=all[j]:=by rw[P9,P8 hj];rfl
  have o:aX ((j:Int) -1)=(j:Int) -1:=aq (by omega) (by omega);have c:=fv T (ae all[j]) ht;have e:=gj T (ae all[j]) ht;have d:jL T p all (j+1)=if nh T p all[j]=true then(j:Int)else jL T p all j:=by rw[jL,m]
  have i:nh T p all[j]=(decide (0<(lk p.seen (ae all[j])).getD 0)&&(decide ((dA T (ae all[j])).1.lev=T.beg.length)&&decide (0<=(dA T (ae all[j])).1.rea))):=rfl;rw[d,i]at a;simp[hj,iT];refine ah.intro (aG all[j]) ?_;simp;refine dG.intro (λ_=>c) ?_;simp;refine dG.intro (λ_=>jI T) ?_;simp;refine dG.intro (λ_=>e) ?_
  by_cases b:(0<(lk p.seen (ae all[j])).getD 0∧(dA T (ae all[j])).1.lev=T.beg.length)∧0<=(dA T (ae all[j])).1.rea
  .obtain⟨⟨f,g⟩,h⟩:=b;rw[Qb (by simp[f,g,h])]at a;subst a;simp[f,g,h,fP,iT]
  .rw[Qa (by simpa[and_assoc]using b)]at a;simp[b];refineλ_=>⟨j,by(try dsimp only);omega,⟨by(try dsimp only);omega,a⟩,ai.to (by simp[o]) (by simp[iT]) (by simp) (by simp) (by simp[aP])⟩
end Go.AX
namespace Go.AX
open Go.Proofs
set_option linter.unusedSimpArgs false
theorem JG(A:Ar)(T:Tr)(hk:kJ A)(b:A.row.length<=1000000)(p:PS)(l:Int):(nQ A T p l).many<=p.many+1000000∧(nQ A T p l).lits.length<=p.lits.length+1000000:=by
 have h:=jK T (ae l) (au A (dA T (ae l)).1.rea) ⟨pt p.seen (ae l) 0,p.lits,p.many -1⟩;have a:=fA A hk (dA T (ae l)).1.rea;dsimp only at h;unfold nQ;omega
def GA(T:Tr)(p:PS)(l:Int):Bool:=aA p.seen (ae l)&&decide (dN T l=T.beg.length)
def nj(T:Tr)(all:List Int)(p:PS)(i:Nat):List Int:=p.lits++((all.take i).filter (GA T p)).map λl=>aX (-l)
theorem AB(T:Tr)(all:List Int)(p:PS){i:Nat}(h:i<all.length):nj T all p (i+1)=if GA T p all[i]=true then nj T all p i++[aX (-all[i])]else nj T all p i:=by
 unfold nj;rw[←Tf h,RK,QT]
 by_cases c:GA T p all[i]=true
 .rw[Qb c,Q9,Qb c];simp
 .rw[Qa c,Q9,Qa c];simp
theorem ya(T:Tr)(all:List Int)(p:PS)(i:Nat)(hi:i<=all.length):(nj T all p i).length<=p.lits.length+i:=by
 unfold nj;rw[Qh,Ql];have:=R6 (GA T p) (all.take i);rw[Qg]at this;omega
theorem uy(T:Tr)(all:List Int)(p:PS):nj T all p all.length=qA T all p:=by
 unfold nj qA;rw[QO];rfl
def fin(A:Ar)(T:Tr)(all:List Int)(p:PS):PS:=⟨(cN A T all all.length p).seen,qA T all (cN A T all all.length p),(cN A T all all.length p).many⟩
set_option maxRecDepth 16000 in
theorem GB(A:Ar)(T:Tr)(p:PS)(all:List Int)(ht:T.ok)(h0:A.hd≠[])(hk:kJ A)(I:A.row.length<=1000000)(hn:all.length<=400)(N:p.many<=1000000)(hp:p.lits.length<=1000000):
 ay Tryz.prog 162 [.ptr 0 0,.seq false 1 (ab all)] [iT A T p] (λr h'=>h'=[iT A T (fin A T all p)]∧r=.pv (.tup [])):=by
 refine dY [] [] [iT A T (fin A T all p)] (by simp) (λ_=>⟨aP _ _ _ _,trivial⟩) aD Tryz.func162 ?_;have a:=λp n hn=>Gz A T p all n ht hn (by omega);have C:aX ((all.length:Int) -1)=(all.length:Int) -1:=aq (by omega) (by omega);unfold fin;generalize K:cN A T all all.length p=F;simp[C];refine ak.intro (a p all.length (Qc _)) ?_;rintro _ _ ⟨rfl,rfl⟩;simp;refine aH.intro (S:=λ(x:Nat×PS)=>⟨[(0,.pv (.ptr 0 0)),(1,.pv (.seq false 1 (ab all))),(4,.pv (af (jL T x.2 all x.1)))],[iT A T x.2]⟩) (λx=>x.1<=all.length∧F=cN A T all x.1 x.2∧x.2.many<=1000000*(all.length -x.1+1)∧x.2.lits.length<=1000000*(all.length -x.1+1)) (λx=>x.1) (all.length,p) ?_ ⟨Qc _,K.symm,by dsimp only;omega,by dsimp only;omega⟩ ?_
 .exact ai.to (by simp) (by simp) (by simp) (by simp) (by simp[aP])
 rintro⟨k,s⟩ ⟨t,b,w,y⟩;dsimp only at t b w y;have d:=x9 A T all s k
 by_cases H:(1:Int)<(s.many:Int)∧0<=jL T s all k
 rotate_left
 .have m:F=s:=by
   rcases d with⟨h1,e⟩|⟨j,h1,e,D⟩
   .rw[b,e]
   .rw[b,DO A T all s (by omega)]
  subst m;clear b d a;simp[iT,H];intro _;refine aH.intro (S:=λ(i:Nat)=>⟨[(0,.pv (.ptr 0 0)),(1,.pv (.seq false 1 (ab all))),(55,.pv (.seq false 1 (ab all))),(56,.pv (af all.length)),(57,.pv (af i))],[iT A T ⟨F.seen,nj T all F i,F.many⟩]⟩) (λi=>i<=all.length) (λi=>all.length -i) 0 ?_ (Qq _) ?_
  .exact ai.to (by simp) (by simp[iT,nj]) (by simp) (by simp) (by simp[aP])
  intro i hi
  by_cases h:i<all.length
  rotate_left
  .have q:i=all.length:=by omega
   subst q;simp[iT,fP,uy]
  have J:=eq i;have c:=AB T all F h;have hle:=ya T all F i hi;have u:=fv T (ae all[i]) ht;have E:GA T F all[i]=(decide (0<(lk F.seen (ae all[i])).getD 0)&&decide ((dA T (ae all[i])).1.lev=T.beg.length)):=rfl;simp[h,iT];refine ah.intro (aG all[i]) ?_;simp;refine dG.intro (λ_=>u) ?_;simp;refine dG.intro (λ_=>jI T) ?_
  by_cases hd:0<(lk F.seen (ae all[i])).getD 0∧(dA T (ae all[i])).1.lev=T.beg.length
  .rw[Qb (by rw[E];simp[hd])]at c;simp[hd];refine⟨by omega,i+1,by(try dsimp only);omega,by(try dsimp only);omega,ai.to (by simp[J]) (by simp[iT,c,ab]) (by simp) (by simp) (by simp[aP])⟩
  .rw[Qa (by rw[E];simpa using hd)]at c;simp[hd];refineλ_=>⟨i+1,by(try dsimp only);omega,by(try dsimp only);omega,ai.to (by simp[J]) (by simp[iT,c]) (by simp) (by simp) (by simp[aP])⟩
 obtain⟨o,L⟩:=H;rcases d with⟨h1,e⟩|⟨j,h1,e,D⟩
 .omega
 have hj:j<all.length:=by omega
 have M:all.getD j 0=all[j]:=by rw[P9,P8 hj];rfl
 have f:=D (by omega);rw[M]at f;have v:=gj T (ae all[j]) ht;have B:aX ((s.many:Int) -1)=((s.many -1:Nat):Int):=by rw[aq (by omega) (by omega)];omega
 have z:aX ((j:Int) -1)=(j:Int) -1:=aq (by omega) (by omega);have G:1000000*(all.length -k+1)+1000000<=1000000*(all.length -j+1):=by omega
 have l:=Gy A T ⟨pt s.seen (ae all[j]) 0,s.lits,s.many -1⟩ (dA T (ae all[j])).1.rea (ae all[j]) ht h0 hk I (by dsimp only;omega) (by dsimp only;omega);have hle:=JG A T hk I s all[j];have g:dt T (ae all[j]) (au A (dA T (ae all[j])).1.rea) ⟨pt s.seen (ae all[j]) 0,s.lits,s.many -1⟩=nQ A T s all[j]:=rfl;rw[g]at l;generalize nQ A T s all[j]=s' at*;simp[iT,o,e,hj];refine ah.intro (aG all[j]) ?_;simp[B];refine ah.intro v ?_;simp;refine ak.intro l ?_;rintro _ _ ⟨rfl,rfl⟩;simp[z];refine ak.intro (a s' j (by omega)) ?_;rintro _ _ ⟨rfl,rfl⟩;simp;refine⟨(j,s'),by(try dsimp only);omega,⟨by(try dsimp only);omega,by(try dsimp only);rw[b,f],by(try dsimp only);omega,by(try dsimp only);omega⟩,ai.to (by simp) (by simp[iT]) (by simp) (by simp) (by simp[aP])⟩
theorem AD(T:Tr)(ht:T.ok)(x:Int):am Tryz.prog 238 [af x,.iptr 1 [[bE T]] 0 0] (λr=>r=.pv (BL (decide (0<=cv T x)))):=by
 refine ao aD Tryz.func238 ?_;have a:=fw T x ht;simp;refine ah.intro a ?_;simp
def nT(T:Tr)(lits:List Int):Bool:=!(lits.any λx=>decide (0<=cv T x))
theorem DP(T:Tr)(lits:List Int)(ht:T.ok)(b:lits.length<=1000000):am Tryz.prog 159 [bE T,.seq false 1 (ab lits)] (λr=>r=.pv (BL (nT T lits))):=by
 refine ao aD Tryz.func159 ?_;have a:=dM lits b 238 [.iptr 1 [[bE T]] 0 0] (λx=>decide (0<=cv T x)) (λr=>by simp) rfl (λk=>by simp) (λx _=>AD T ht x);simp[a8];refine ah.intro a ?_;simp[nT]
def fB(T:Tr)(lits:List Int)(i:Nat):List Int:=((lits.take i).filter λl=>!decide (cv T l=0)).map (dN T)
theorem AF(T:Tr)(lits:List Int){i:Nat}(h:i<lits.length):fB T lits (i+1)=if cv T lits[i]=0 then fB T lits i else fB T lits i++[dN T lits[i]]:=by
 unfold fB;rw[←Tf h,RK,QT]
 by_cases c:cv T lits[i]=0
 .rw[Qb c,Q9,Qa (by simp[c])];simp
 .rw[Qa c,Q9,Qb (by simp[c])];simp
theorem yc(T:Tr)(lits:List Int)(i:Nat):(fB T lits i).length<=i:=by
 unfold fB;rw[Ql];have:=R6 (λl=>!decide (cv T l=0)) (lits.take i);rw[Qg]at this;omega
def GC(T:Tr)(lits:List Int):List Int:=cH (d5 (fB T lits lits.length))
def eO(T:Tr)(lits:List Int):Int:=if(GC T lits).length<2 then 0 else(GC T lits).getD ((GC T lits).length -2) 0
set_option maxRecDepth 16000 in
theorem GD(T:Tr)(lits:List Int)(ht:T.ok)(L:lits.length<=1000000):am Tryz.prog 98 [bE T,.seq false 1 (ab lits)] (λr=>r=.pv (af (eO T lits))):=by
 refine ao aD Tryz.func98 ?_;simp;refine aH.intro (S:=λ(i:Nat)=>⟨[(0,.pv (bE T)),(5,.own true 1 (ab (fB T lits i))),(8,.pv (.seq false 1 (ab lits))),(9,.pv (af lits.length)),(10,.pv (af i))],[]⟩) (λi=>i<=lits.length) (λi=>lits.length -i) 0 ?_ (Qq _) ?_
 .exact(ai.nilOwn (s:=5) 1 true (by simp)).trans (ai.to (by simp[fB,ab]) (by simp) (by simp) (by simp) (by simp))
 intro i hi
 by_cases h:i<lits.length
 .have v:=eq i;have C:=fv T (ae lits[i]) ht;have K:=fw T lits[i] ht;have d:=AF T lits h;have hle:=yc T lits i;simp[h];refine aO.intro (λ_=>K) ?_
  by_cases c:cv T lits[i]=0
  .rw[Qb c]at d;simp[c];refine⟨i+1,by(try dsimp only);omega,by(try dsimp only);omega,ai.to (by simp[v,d]) (by simp) (by simp) (by simp) (by simp)⟩
  .rw[Qa c]at d;simp[c];refine ah.intro (aG lits[i]) ?_;simp;refine ah.intro C ?_;simp;refine⟨by omega,i+1,by(try dsimp only);omega,by(try dsimp only);omega,ai.to (by simp[v,d,ab,dN]) (by simp) (by simp) (by simp) (by simp)⟩
 have z:i=lits.length:=by omega
 subst z;have hle:=yc T lits lits.length;have H:=Dz (fB T lits lits.length) (by omega);have n:eO T lits=if(cH (d5 (fB T lits lits.length))).length<2 then 0 else(cH (d5 (fB T lits lits.length))).getD ((cH (d5 (fB T lits lits.length))).length -2) 0:=rfl;generalize eO T lits=B at*;have J:(d5 (fB T lits lits.length)).length=(fB T lits lits.length).length:=by unfold d5;exact Rn _
 generalize fB T lits lits.length=xs at*;have F:=nJ (d5 xs) (by omega);have w:=kr (d5 xs) (d5 xs).length;unfold Lj at F;have x:aT (d5 xs) (d5 xs).length=cH (d5 xs):=rfl;rw[x]at w;generalize d5 xs=e at*;generalize cH e=a at*;simp;refine ah.introX (cd.introS (o:=.slot 5) (lo:=0) (hi:=xs.length) H (by simp) rfl rfl (by simp) (by simp) rfl (by simp;exact QM (by simp)) (aS 0 xs) (by simp) (by simp) ?_);rintro k l ⟨rfl,rfl⟩ _ _;have y:List.drop xs.length (ab xs)=[]:=QK (by simp);simp[y];refine ah.introX (cd.introS (o:=.slot 5) (lo:=0) (hi:=e.length) F (by simp) rfl rfl (by simp) (by simp) rfl (by simp;exact QM (by simp)) (eK 0 e) (by simp) (by simp) ?_);rintro k l ⟨rfl,rfl⟩ _ _;have q:List.drop e.length (ab e)=[]:=QK (by simp);have G:(aB (a++List.replicate (e.length -a.length) 0)).length=e.length:=by rw[gk];simp;omega
 have f:min a.length (aB (a++List.replicate (e.length -a.length) 0)).length=a.length:=by rw[G];omega
 have E:=nK a (List.replicate (e.length -a.length) 0)
 by_cases c2:a.length<2
 .rw[Qb c2]at n;have g:(a.length:Int)<2:=by omega
  have j:¬2<=(a.length:Int):=by omega
  simp[q,c2,g,j,n,f]
 rw[Qa c2]at n;obtain⟨m,I⟩:∃m,a.length=m+2:=⟨a.length -2,by omega⟩;have v:aX ((a.length:Int) -2)=(m:Int):=by rw[aq (by omega) (by omega)];omega
 have g:¬(a.length:Int)<2:=by omega
 have b:m<a.length:=by omega
 have p:B=a[m]:=by rw[n,I,P9,SZ,P8 b];rfl
 have t:(aB a)[m]?=some [af a[m]]:=by unfold aB;rw[Qu,P8 b];rfl
 have D:(m:Int)<(a.length:Int):=by omega
 rw[p];clear n p;have A:=gk a;have j:2<=(a.length:Int):=by omega
 have u:∀h,(aB a)[m]'h=[af a[m]]:=λh=>by rw[P8 h]at t;exact Te t
 simp[q,c2,g,j,v,f,E,D,A,u,b]
def je(A:Ar)(q:Int):Int:=if isA A q=true then A.row.getD q.toNat 0 else 0
theorem wq(A:Ar)(h0:A.hd≠[])(hk:kJ A)(d:A.row.length<=1000000)(q:Int):am Tryz.prog 158 [lD A,af q] (λr=>r=.pv (af (je A q))):=by
 refine ao aD Tryz.func158 ?_;have hi:=Cq A h0 q;unfold je;simp only[lD,oO]at hi;simp[lD,oO];refine ah.intro hi ?_
 by_cases c:isA A q=true
 rotate_left
 .have a:isA A q=false:=by simpa using c
  simp[a]
 obtain⟨p,n,rfl,b⟩:=hk q c;have hp:p<A.row.length:=by have:=b.len;omega
 simp[c,hp]
structure NS where
  at':List (Int×Int)
  ok:Bool
def pla(T:Tr)(l:Int):Int:=(dA T (ae l)).1.pla
def rea(T:Tr)(l:Int):Int:=(dA T (ae l)).1.rea
def uz(T:Tr)(stop:List (Int×Int))(but:Int)(s:NS)(l:Int):Bool:=decide (l=but)||aA stop l||(aA s.at' (pla T l)&&decide (0<=pla T l))
def DQ(A:Ar)(T:Tr)(l:Int):Bool:=decide (0<=cv T l)||decide (rea T l<0)||decide (je A (rea T l)=0)
def r9(T:Tr)(s:NS)(l:Int):NS:=⟨pt s.at' (pla T l) (aX ((lk s.at' (pla T l)).getD 0+1)),s.ok⟩
def sa(f:NS->Int->Int->NS)(A:Ar)(T:Tr)(stop:List (Int×Int))(but:Int):List Int->NS->NS
 |[],s=>s
 |l::c,s=>if uz T stop but s l=true then sa f A T stop but c s else if DQ A T l=true then⟨s.at',false⟩else sa f A T stop but c (f (r9 T s l) (rea T l) (aX (-l)))
def qB(A:Ar)(T:Tr)(stop:List (Int×Int)):Nat->NS->Int->Int->NS
 |0,s,_,_=>s
 |k+1,s,q,but=>sa (qB A T stop k) A T stop but (au A q) s
def sb(A:Ar)(T:Tr)(stop:List (Int×Int))(s:NS):List SV:=[.pv (lD A),.pv (bE T),.omap true (aC fI stop),.omap true (aC fI s.at'),.pv (BL s.ok)]
theorem dO(k:Nat)(A:Ar)(T:Tr)(stop:List (Int×Int))(s:NS):cT k (sb A T stop s):=⟨⟨⟨aS k _,ik k _,trivial⟩,trivial⟩,⟨⟨nI k _,aS k _,aS k _,trivial,trivial⟩,trivial⟩,ik k _,ik k _,trivial,trivial⟩
structure AheadOk (A:Ar) (T:Tr):Prop where
  tr:T.ok
  hd:A.hd≠[]
  ar:kJ A
  len:A.row.length<=1000000
  ahead:∀l:Int,cv T l<0->0<=rea T l->0<=pla T l∧∀y∈au A (rea T l),y≠aX (-l)->pla T y<pla T l
set_option maxRecDepth 16000 in
theorem JH(A:Ar)(T:Tr)(stop:List (Int×Int))(K:AheadOk A T):∀(k:Nat)(q but:Int)(s:NS),(∀y∈au A q,y≠but->pla T y<k)->
 ay Tryz.prog 166 [.ptr 0 0,af q,af but] [sb A T stop s] (λr h'=>h'=[sb A T stop (qB A T stop (k+1) s q but)]∧r=.pv (.tup [])):=by
 intro k
 induction k using Nat.strongRecOn with
 |ind k O=>
 intro q but s N;refine dY [] [] [sb A T stop (qB A T stop (k+1) s q but)] (by simp) (λ_=>⟨dO _ _ _ _ _,trivial⟩) aD Tryz.func166 ?_;obtain⟨ht,h0,hk,G,p⟩:=K;have L:=jJ A h0 hk G q;have X:=fA A hk q;rw[qB];generalize E:sa (qB A T stop k) A T stop but (au A q) s=F;generalize au A q=c at*;simp[sb];refine ah.intro L ?_;simp;refine aH.intro (S:=λ(x:Nat×NS)=>⟨[(0,.pv (.ptr 0 0)),(2,.pv (af but)),(15,.own true 1 (ab c)),(16,.pv (af c.length)),(17,.pv (af x.1))],[sb A T stop x.2]⟩) (λx=>x.1<=c.length∧F=sa (qB A T stop k) A T stop but (c.drop x.1) x.2) (λx=>c.length -x.1) (0,s) ?_ ⟨Qq _,E.symm⟩ ?_
 .exact ai.to (by simp) (by simp[sb]) (by simp) (by simp) (by simp[dO])
 clear E;rintro⟨i,s⟩ ⟨hi,d⟩;dsimp only at hi d
 by_cases h:i<c.length
 rotate_left
 .have w:i=c.length:=by omega
  subst w;rw[QK (Qc _),sa]at d;subst d;simp[sb,fP]
 have H:=eq i;have v:c.drop i=c[i]::c.drop (i+1):=QU h;rw[v,sa]at d;have f:=mF T (ae c[i]) ht;have m:=gj T (ae c[i]) ht;have D:=fw T c[i] ht;have n:uz T stop but s c[i]=(decide (c[i]=but)||decide (0<(lk stop c[i]).getD 0)||(decide (0<(lk s.at' (pla T c[i])).getD 0)&&decide (0<=pla T c[i]))):=rfl;have l:DQ A T c[i]=(decide (0<=cv T c[i])||decide (rea T c[i]<0)||decide (je A (rea T c[i])=0)):=rfl;have B:(dA T (ae c[i])).1.pla=pla T c[i]:=rfl;have C:(dA T (ae c[i])).1.rea=rea T c[i]:=rfl;rw[B]at f;rw[C]at m;simp[h,sb];refine ah.intro (aG c[i]) ?_;simp;refine dG.intro (λ_=>f) ?_;simp;refine dG.intro (λ_=>f) ?_;simp;refine⟨λa b=>⟨⟨a,b⟩,λe=>⟨⟨a,b⟩,e⟩⟩,λhs=>?_,λI Y U=>?_⟩
 .rw[Qb (by rw[n];simpa using hs)]at d;exact⟨(i+1,s),by(try dsimp only);omega,⟨by(try dsimp only);omega,d⟩,ai.to (by simp[H]) (by simp[sb]) (by simp) (by simp) (by simp[dO])⟩
 have o:¬uz T stop but s c[i]=true:=by
  rw[n];simp only[Rq,Qj,Qs];rintro((e|e)|⟨J,W⟩)
  .exact I e
  .omega
  .have:=U J;omega
 rw[Qa o]at d;refine ah.intro m ?_;simp;refine ah.intro D ?_;simp;refine aO.intro (λ_=>wq A h0 hk G _) ?_
 by_cases j:DQ A T c[i]=true
 .rw[Qb j]at d;rw[l]at j;have t:(0<=cv T c[i]∨rea T c[i]<0)∨je A (rea T c[i])=0:=by simpa using j
  subst d;simp[t,fP]
 rw[Qa j]at d;have u:¬(0<=cv T c[i])∧¬(rea T c[i]<0)∧¬(je A (rea T c[i])=0):=by
  rw[l]at j;simpa[and_assoc]using j
 obtain⟨P,Q,R⟩:=u;obtain⟨Z,V⟩:=p c[i] (by omega) (by omega);have M:=N c[i] (Qe h) I;simp[P,Q,R];refine⟨by omega,?_⟩;refine br.intro f ?_;simp;obtain⟨k',rfl⟩:∃k',k=k'+1:=⟨k -1,by omega⟩;have g:=O k' (by omega) (rea T c[i]) (aX (-c[i])) (r9 T s c[i]) (λy hy z=>by have:=V y hy z;omega);simp only[sb,r9]at g;refine ak.intro g ?_;rintro _ _ ⟨rfl,rfl⟩;simp;refine⟨(i+1,qB A T stop (k'+1) (r9 T s c[i]) (rea T c[i]) (aX (-c[i]))),by(try dsimp only);omega,⟨by(try dsimp only);omega,d⟩,ai.to (by simp[H]) (by simp[sb,r9]) (by simp) (by simp) (by simp[dO])⟩
def cg(lits:List Int):Nat->List (Int×Int)
 |0=>[]
 |i+1=>pt (cg lits i) (lits.getD i 0) ((lk (cg lits i) (lits.getD i 0)).getD 0+1)
theorem oR(lits:List Int):∀(i:Nat)(v:Int),0<=(lk (cg lits i) v).getD 0∧(lk (cg lits i) v).getD 0<=i
 |0,v=>by simp[cg,lk]
 |i+1,v=>by
  have h:=oR lits i;rw[cg,bD];split
  .have:=h (lits.getD i 0);rw[QF];omega
  .have:=h v;omega
theorem se(lits:List Int)(v:Int):∀i,i<=lits.length->(aA (cg lits i) v=true↔v∈lits.take i)
 |0,_=>by simp[cg,lk,aA]
 |i+1,h=>by
  have b:=se lits v i (by omega);have a:lits.getD i 0=lits[i]:=by rw[P9,P8 (by omega)];rfl
  have hle:=oR lits i lits[i];rw[cg,a,mJ,Rl,P8 (by omega),R3,Qn,QI];split
  .rename_i e;subst e;have:0<(lk (cg lits i) lits[i]).getD 0+1:=by omega
   simp[this]
  .rename_i e;rw[b];exact⟨.inl,λh=>h.elim id (λh=>absurd h.symm e)⟩
def GE(T:Tr)(at':List (Int×Int))(out:List Int)(i:Nat):Bool:=aA at' i&&!decide (rea T (T.lits.getD i 0)∈out)
def d6(T:Tr)(at':List (Int×Int)):Nat->List Int
 |0=>[]
 |i+1=>if GE T at' (d6 T at' i) i=true then d6 T at' i++[rea T (T.lits.getD i 0)]else d6 T at' i
theorem sg(T:Tr)(at':List (Int×Int)):∀i,(d6 T at' i).length<=i
 |0=>by simp[d6]
 |i+1=>by
  have:=sg T at' i;rw[d6];split
  .simp;omega
  .omega
def lE(A:Ar)(T:Tr)(lits:List Int)(con:Int):NS:=qB A T (cg lits lits.length) (T.lits.length+1) ⟨[],true⟩ con 0
def qC(T:Tr)(at':List (Int×Int))(con:Int):List Int:=if con∈d6 T at' T.lits.length then d6 T at' T.lits.length else d6 T at' T.lits.length++[con]
def qD(A:Ar)(T:Tr)(lits:List Int)(con:Int):List Int×Bool:=
 if je A con=0 then([],false)else if(lE A T lits con).ok=false then([],false)else(qC T (lE A T lits con).at' con,true)
set_option maxRecDepth 16000 in
theorem GF(A:Ar)(T:Tr)(lits:List Int)(con:Int)(j:AheadOk A T)(hp:∀l,pla T l<T.lits.length)(B:lits.length<=1000000)(z:T.lits.length<=1000000):
 am Tryz.prog 94 [lD A,bE T,.seq false 1 (ab lits),af con] (λr=>r=.pv (.tup [.seq true 1 (ab (qD A T lits con).1),BL (qD A T lits con).2])):=by
 refine am.wk (R:=λr=>∃x,r=.pv x∧bI x (.tup [.seq true 1 (ab (qD A T lits con).1),BL (qD A T lits con).2])) ?_ (λr ⟨x,e,h⟩=>⟨x,_,e,h,rfl⟩);refine nF [] [.tmp 8,.tmp 9] aD Tryz.func94 ?_;have p:=wq A j.hd j.ar j.len con;have b:=JH A T (cg lits lits.length) j T.lits.length con 0 ⟨[],true⟩ (λy _ _=>hp y);have v:=eY T z;obtain⟨H,c⟩:∃H,qD A T lits con=H:=⟨_,rfl⟩;rw[c];unfold qD at c;have w:qB A T (cg lits lits.length) (T.lits.length+1) ⟨[],true⟩ con 0=lE A T lits con:=rfl;rw[w]at b;generalize lE A T lits con=N at*;simp;refine aO.intro (λ_=>p) ?_
 by_cases m:je A con=0
 .rw[Qb m]at c;subst c;simp[m,bI,bG,ab]
 rw[Qa m]at c;simp[m];refine aH.intro (S:=λ(i:Nat)=>⟨[(0,.pv (lD A)),(1,.pv (bE T)),(2,.pv (.seq false 1 (ab lits))),(3,.pv (af con)),(10,.pv (.ptr 0 0)),(35,.pv (.seq false 1 (ab lits))),(36,.pv (af lits.length)),(37,.pv (af i))],[sb A T (cg lits i) ⟨[],true⟩]⟩) (λi=>i<=lits.length) (λi=>lits.length -i) 0 ?_ (Qq _) ?_
 .exact ai.to (by simp) (by simp[sb,cg]) (by simp) (by simp) (by simp[dO])
 intro i hi
 by_cases h:i<lits.length
 .have o:=eq i;have n:lits.getD i 0=lits[i]:=by rw[P9,P8 h];rfl
  have hle:=oR lits i lits[i];have t:aX ((lk (cg lits i) lits[i]).getD 0+1)=(lk (cg lits i) lits[i]).getD 0+1:=aq (by omega) (by omega);have a:cg lits (i+1)=pt (cg lits i) lits[i] ((lk (cg lits i) lits[i]).getD 0+1):=by rw[cg,n]
  simp[h,sb];refine⟨i+1,by(try dsimp only);omega,by(try dsimp only);omega,ai.to (by simp[o]) (by simp[sb,a,t]) (by simp) (by simp) (by simp[dO])⟩
 have g:i=lits.length:=by omega
 subst g;simp only[sb]at b;simp[sb];refine ak.intro b ?_;rintro _ _ ⟨rfl,rfl⟩;cases c1:N.ok
 .rw[Qb c1]at c;subst c;simp[c1,bI,bG,ab]
 rw[Qa (by simp[c1])]at c;subst c;simp[c1];refine ah.intro v ?_;simp;refine aH.intro (S:=λ(i:Nat)=>⟨[(1,.pv (bE T)),(3,.pv (af con)),(10,.pv (.ptr 0 0)),(13,.own true 1 (ab (d6 T N.at' i))),(58,.own true 1 (ab T.lits)),(59,.pv (af T.lits.length)),(60,.pv (af i))],[sb A T (cg lits lits.length) N]⟩) (λi=>i<=T.lits.length) (λi=>T.lits.length -i) 0 ?_ (Qq _) ?_
 .exact(ai.nilOwn (s:=13) 1 true (by simp)).trans (ai.to (by simp[d6,ab]) (by simp[sb,c1]) (by simp) (by simp) (by simp[dO]))
 intro i hi;have hle:=sg T N.at' i
 by_cases h:i<T.lits.length
 .have o:=eq i;have n:T.lits.getD i 0=T.lits[i]:=by rw[P9,P8 h];rfl
  have k:=gj T (ae T.lits[i]) j.tr;have q:(dA T (ae T.lits[i])).1.rea=rea T T.lits[i]:=rfl;rw[q]at k;have a:d6 T N.at' (i+1)=if GE T N.at' (d6 T N.at' i) i=true then d6 T N.at' i++[rea T T.lits[i]]else d6 T N.at' i:=by rw[d6,n]
  have u:GE T N.at' (d6 T N.at' i) i=(decide (0<(lk N.at' (i:Int)).getD 0)&&!decide (rea T T.lits[i]∈d6 T N.at' i)):=by unfold GE;rw[n];rfl
  have f:=er (d6 T N.at' i) (rea T T.lits[i]) (by omega);simp[h,sb];refine ah.intro (aG T.lits[i]) ?_;simp;refine ah.intro k ?_;simp;refine aO.intro (λ_=>f) ?_
  by_cases d:0<(lk N.at' (i:Int)).getD 0∧¬rea T T.lits[i]∈d6 T N.at' i
  .rw[Qb (by rw[u];simp[d])]at a;simp[d];refine⟨by omega,i+1,by(try dsimp only);omega,by(try dsimp only);omega,ai.to (by simp[o,a,ab]) (by simp[sb]) (by simp) (by simp) (by simp[dO])⟩
  .rw[Qa (by rw[u];simpa using d)]at a;simp[d];refineλ_=>⟨i+1,by(try dsimp only);omega,by(try dsimp only);omega,ai.to (by simp[o,a]) (by simp[sb]) (by simp) (by simp) (by simp[dO])⟩
 have g:i=T.lits.length:=by omega
 subst g;have f:=er (d6 T N.at' T.lits.length) con (by omega);unfold qC;generalize d6 T N.at' T.lits.length=O at*;simp;refine ah.intro f ?_
 by_cases d:con∈O
 .simp[d,bI,bG]
 .simp[d,bI,bG,ab];omega
end Go.AX
namespace Go.AX
set_option maxRecDepth 16000
open Go.Proofs
set_option linter.unusedSimpArgs false
theorem ye(T:Tr)(out:List Int):∀i,(cI T out i).2.1<=i∧((cI T out i).2.1=0∨(cI T out i).2.2<i)∧(cI T out i).2.2<=i
 |0=>⟨Qc _,.inl rfl,Qc _⟩
 |i+1=>by
  have a:=ye T out i;rw[cI];split
  .exact⟨by dsimp only;omega,.inr (by dsimp only;omega),by dsimp only;omega⟩
  .split
   .refine⟨by dsimp only;omega,?_,by dsimp only;omega⟩;dsimp only;rename_i c1 c2;rcases a.2.1 with e|e
    .exact .inr (by omega)
    .exact .inr (by omega)
   .exact⟨by omega,a.2.1.imp id (λe=>by omega),by omega⟩
theorem DR(T:Tr)(lits:List Int)(ht:T.ok)(z:lits.length<=1000000):am Tryz.prog 163 [bE T,.seq false 1 (ab lits)] (λr=>r=.own true 1 (ab (Gw T lits))):=by
 refine ao aD Tryz.func163 ?_;have y:=Jn lits z;have A:=Dw lits;unfold Gw Gv;generalize eA lits=out at*;simp;refine ah.intro y ?_;simp;refine aH.intro (S:=λ(i:Nat)=>⟨[(0,.pv (bE T)),(5,.own true 1 (ab out)),(6,.pv (af (cI T out i).1)),(7,.pv (af (cI T out i).2.1)),(8,.pv (af (cI T out i).2.2)),(15,.al (.slot 5)),(16,.pv (af out.length)),(17,.pv (af i))],[]⟩) (λi=>i<=out.length) (λi=>out.length -i) 0 ?_ (Qq _) ?_
 .exact ai.to (by simp[cI]) (by simp) (by simp) (by simp) (by simp)
 intro i hi;obtain⟨t,v,a3⟩:=ye T out i
 by_cases h:i<out.length
 .have f:=eq i;have k:out.getD i 0=out[i]:=by rw[P9,P8 h];rfl
  have m:=fv T (ae out[i]) ht;have a:cI T out (i+1)=if(cI T out i).1<(dA T (ae out[i])).1.lev then((dA T (ae out[i])).1.lev,1,i)else if(dA T (ae out[i])).1.lev=(cI T out i).1 then((cI T out i).1,(cI T out i).2.1+1,(cI T out i).2.2)else cI T out i:=by rw[cI,k];rfl
  have p:=eq ((cI T out i).2.1);simp[h];refine ah.intro (aG out[i]) ?_;simp;refine ah.intro m ?_
  by_cases c1:(cI T out i).1<(dA T (ae out[i])).1.lev
  .rw[Qb c1]at a;simp[c1];refine⟨i+1,by(try dsimp only);omega,by(try dsimp only);omega,ai.to (by simp[f,a]) (by simp) (by simp) (by simp) (by simp)⟩
  rw[Qa c1]at a
  by_cases c2:(dA T (ae out[i])).1.lev=(cI T out i).1
  .rw[Qb c2]at a;simp[c1,c2];refine⟨i+1,by(try dsimp only);omega,by(try dsimp only);omega,ai.to (by simp[f,a,p]) (by simp) (by simp) (by simp) (by simp)⟩
  .rw[Qa c2]at a;simp[c1,c2];refine⟨i+1,by(try dsimp only);omega,by(try dsimp only);omega,ai.to (by simp[f,a]) (by simp) (by simp) (by simp) (by simp)⟩
 have l:i=out.length:=by omega
 subst l;clear hi h;generalize cI T out out.length=s at*;obtain⟨top,many,at'⟩:=s;dsimp only at t v a3⊢
 by_cases c:many=1
 rotate_left
 .have w:¬(many:Int)=1:=by omega
  simp[c,w]
 subst c;have b:at'<out.length:=by omega
 have k:out.getD at' 0=out[at']:=by rw[P9,P8 b];rfl
 have f:=eq (at');simp only[Qb,k];simp[b,f];have d:(out.take at'++out.drop (at'+1)++List.replicate (at'+1 -at') 0).length=out.length:=by simp;omega
 have g:out.length -(at'+1 -at')=out.length -1:=by omega
 have q:=yd Tryz.dlaA out at' (at'+1) (by omega) (by omega) (by kernel_rfl);rw[g]at q;refine ah.introX (cd.introW (ps:=.slot 5) (hi:=out.length) q d (by omega) (λe=>by rw[e]at b;simp at b) (by simp) rfl rfl (by simp) (by simp) rfl (by simp) (by simp) ?_);have n:(out.take at'++out.drop (at'+1)).length=out.length -1:=by simp;omega
 have o:(out.take at'++out.drop (at'+1)++List.replicate (at'+1 -at') 0).take (out.length -1)=out.eraseIdx at':=by
  rw[R4 n,List.eraseIdx_eq_take_drop_succ]
 have j:(out.take at'++out.drop (at'+1)++List.replicate (at'+1 -at') 0).drop (out.length -1+1)=[]:=QK (by rw[d];omega);generalize out.take at'++out.drop (at'+1)++List.replicate (at'+1 -at') 0=dl at*;generalize out[at']=u at*;simp;refine ah.introX (cd.introI (ps:=.slot 5) (py:=.slot 51) (hi:=out.length -1) (zs:=dl) (x:=u) Tryz.insA (by kernel_rfl) (by simp) rfl rfl (by simp) (by simp) (by simp) (by simp) (by simp) (by simp) rfl (by decide) rfl (by omega) ?_);rw[o,j];simp;exact QM (by rw[gk,QA,List.length_eraseIdx_of_lt b];omega)
def Lx(A:Ar)(T:Tr):List SV:=[.pv (lD A),.pv (bE T),.omap true (aC fI []),.pv (.lit (.slice none 0 0)),.pv (af 0)]
theorem DS(A:Ar)(T:Tr)(q but:Int)(ht:T.ok)(h0:A.hd≠[])(hk:kJ A)(m:A.row.length<=1000000):
 ay Tryz.prog 161 [.ptr 0 0,af q,af but] [Lx A T] (λr h'=>h'=[iT A T (dt T but (au A q) ⟨[],[],0⟩)]∧r=.pv (.tup [])):=by
 obtain⟨p,hp⟩:∃p:PS,p=⟨[],[],0⟩:=⟨_,rfl⟩;rw[←hp];have o:p.many=0:=by rw[hp]
 have n:p.lits.length=0:=by rw[hp];rfl
 refine dY [] [] [iT A T (dt T but (au A q) p)] (by simp) (λ_=>⟨aP _ _ _ _,trivial⟩) aD Tryz.func161 ?_;have l:=jJ A h0 hk m q;have t:=fA A hk q;generalize au A q=c at*;simp[Lx];refine ah.intro l ?_;simp;refine aH.intro (S:=λ(i:Nat)=>⟨[(0,.pv (.ptr 0 0)),(2,.pv (af but)),(6,.pv (.fn (.func 170) [bE T] [])),(20,.own true 1 (ab c)),(21,.pv (af c.length)),(22,.pv (af i))],[iT A T (dt T but (c.take i) p)]⟩) (λi=>i<=c.length) (λi=>c.length -i) 0 ?_ (Qq _) ?_
 .exact(ai.nilCell (b:=0) (k:=3) (xs:=Lx A T) 1 true (by simp[Lx]) (by simp[Lx])).trans (ai.to (by simp) (by simp[iT,Lx,dt,hp,ab]) (by simp) (by simp) (by simp[aP]))
 intro i hi
 by_cases h:i<c.length
 rotate_left
 .have g:i=c.length:=by omega
  subst g;simp[iT,fP]
 have f:=eq i;have hs:=r8 T but c p h;have hle:=jK T but (c.take i) p;rw[Qg]at hle;generalize dt T but (c.take i) p=s at*;have d:=fv T (ae c[i]) ht;simp[h,iT];refine ah.intro (aG c[i]) ?_;simp;refine aO.intro (λ_=>d) ?_
 by_cases c1:ae c[i]=but
 .have hd:takeF T but s c[i]=s:=by unfold takeF;rw[Qb (.inl c1)]
  simp[c1];refine⟨i+1,by(try dsimp only);omega,by(try dsimp only);omega,ai.to (by simp[f]) (by simp[iT,hs,hd]) (by simp) (by simp) (by simp[aP])⟩
 by_cases c2:0<(lk s.seen (ae c[i])).getD 0
 .have hd:takeF T but s c[i]=s:=by unfold takeF;rw[Qb (.inr (.inl (by simpa[aA]using c2)))]
  simp[c1,c2];refine⟨i+1,by(try dsimp only);omega,by(try dsimp only);omega,ai.to (by simp[f]) (by simp[iT,hs,hd]) (by simp) (by simp) (by simp[aP])⟩
 have a:(lk s.seen (ae c[i])).getD 0<=0:=by omega
 by_cases c3:(dA T (ae c[i])).1.lev<=0
 .have hd:takeF T but s c[i]=s:=by unfold takeF;rw[Qb (.inr (.inr c3))]
  simp[c1,c2,a,c3];refine⟨i+1,by(try dsimp only);omega,by(try dsimp only);omega,ai.to (by simp[f]) (by simp[iT,hs,hd]) (by simp) (by simp) (by simp[aP])⟩
 have hd:takeF T but s c[i]=if(dA T (ae c[i])).1.lev=T.beg.length then⟨pt s.seen (ae c[i]) 1,s.lits,s.many+1⟩else⟨pt s.seen (ae c[i]) 1,s.lits++[c[i]],s.many⟩:=by
  unfold takeF;rw[Qa]
  .rfl
  rintro(e|e|e)
  .exact c1 e
  .exact c2 (by simpa[aA]using e)
  .exact c3 e
 simp[c1,c2,a,c3];refine br.intro d ?_;simp;refine br.intro (jI T) ?_
 by_cases c4:(dA T (ae c[i])).1.lev=T.beg.length
 .rw[Qb c4]at hd;have j:=eq s.many;simp[c4];refine⟨i+1,by(try dsimp only);omega,by(try dsimp only);omega,ai.to (by simp[f]) (by simp[iT,hs,hd,j]) (by simp) (by simp) (by simp[aP])⟩
 .rw[Qa c4]at hd;simp[c4];refine⟨by omega,i+1,by(try dsimp only);omega,by(try dsimp only);omega,ai.to (by simp[f]) (by simp[iT,hs,hd,ab]) (by simp) (by simp) (by simp[aP])⟩
def kQ(A:Ar)(T:Tr)(con:Int):Int:=if je A con=0 then 20 else if nT T (au A con)=false then 30 else 0
def pN(A:Ar)(T:Tr)(con:Int):List Int:=if kQ A T con=0 then dq A T con else[]
end Go.AX
namespace Go.AX
open Go.Proofs
set_option linter.unusedSimpArgs false
structure DeskI (cs:List (List Int)) (ats:List Int) (D:DK):Prop extends DeskT cs ats D where
  id:∀x∈D.a.rows,1<=x.id
/-! ### What was gathered -/
structure NI (D:DK) (L:List Int) (s:NS):Prop where
  val:∀p,0<=(lk s.at' p).getD 0
  mem:∀p,aA s.at' p=true->∃j,∃hj:j<D.t.rows.length,p=(j:Int)∧0<=D.t.rows[j].rea∧-D.t.rows[j].l∉L
def Met(D:DK)(L:List Int)(s:NS)(y:Int):Prop:=y∈L∨∃j,∃hj:j<D.t.rows.length,D.t.rows[j].l=-y∧aA s.at' j=true
structure Post (D:DK) (L:List Int) (s s':NS) (c:List Int) (but:Int):Prop where
  ni:NI D L s'
  mono:∀p,aA s.at' p=true->aA s'.at' p=true
  all:s'.ok=true->s.ok=true∧(∀y∈c,y≠but->Met D L s' y)∧∀j (hj:j<D.t.rows.length),aA s'.at' j=true->aA s.at' j=false->∀y∈au D.A D.t.rows[j].rea,y≠D.t.rows[j].l->Met D L s' y
  ok:(∀y∈c,y≠but->HOk D.A D.T L y)->s'.ok=s.ok
theorem Met.mono{D:DK}{L:List Int}{s s':NS}{y:Int}(h:Met D L s y)(c:∀p,aA s.at' p=true->aA s'.at' p=true):Met D L s' y:=
 h.imp id λ⟨j,hj,a,b⟩=>⟨j,hj,a,c _ b⟩
def eM(l:List Int):List (List Int)->Nat->List Int×Nat×Int
 |[],n=>(l,n,23)
 |h::hs,n=>if rS l h=-1 then(l,n+1,0)else if(cM l h).2=true then eM (l++[(cM l h).1]) hs (n+1)else([],n,22)
def gL(c:List Int):Nat->List Int
 |0=>[]
 |i+1=>if c.getD i 0∈c.take i then gL c i else gL c i++[aX (-(c.getD i 0))]
theorem pO(c:List Int)(x:Int):∀i,i<=c.length->(x∈gL c i↔∃y∈c.take i,x=aX (-y))
 |0,_=>by simp[gL]
 |i+1,h=>by
  have b:=pO c x i (by omega);have d:c.getD i 0=c[i]:=by rw[P9,P8 (by omega)];rfl
  have ht:c.take (i+1)=c.take i++[c[i]]:=(Tf (by omega)).symm;rw[gL,d,ht]
  by_cases e:c[i]∈c.take i
  .rw[Qb e,b];constructor
   .rintro⟨y,hy,a⟩;exact⟨y,Rv _ hy,a⟩
   .rintro⟨y,hy,a⟩;rcases Qn.1 hy with hy|hy
    .exact⟨y,hy,a⟩
    .simp at hy;subst hy;exact⟨_,e,a⟩
  .rw[Qa e,Qn,b,QI];constructor
   .rintro(⟨y,hy,a⟩|a)
    .exact⟨y,Rv _ hy,a⟩
    .exact⟨_,R5 _ (QI.2 rfl),a⟩
   .rintro⟨y,hy,a⟩;rcases Qn.1 hy with hy|hy
    .exact .inl ⟨y,hy,a⟩
    .simp at hy;subst hy;exact .inr a
def fX(c:List Int):List Int:=gL c c.length
theorem oT(c:List Int)(x:Int):x∈fX c↔∃y∈c,x=aX (-y):=by
 have:=pO c x c.length (Qc _)
 rwa [QO]at this
def AllNeg(D:DK)(L:List Int):Prop:=∀y∈L,ax y 6=0∧∃j,∃hj:j<D.t.rows.length,D.t.rows[j].l=-y
def rj(D:DK)(j:Nat):Int:=rea D.T (D.T.lits.getD j 0)
theorem gn{t:RT}{j:Nat}(hj:j<t.rows.length):t.rows[j].l∈dH t:=Qk.2 ⟨_,Qe hj,rfl⟩
def DU(s:NS)(i:Nat):List Nat:=(List.range i).filter λj=>aA s.at' j
theorem GG(s:NS)(i:Nat):DU s (i+1)=if aA s.at' i=true then DU s i++[i]else DU s i:=by
 unfold DU;rw[Tg,RK]
 by_cases c:aA s.at' i=true
 .rw[Qb c,Q9,Qb c];rfl
 .rw[Qa c,Q9,Qa c];simp
theorem wu(s:NS)(i j:Nat):j∈DU s i↔j<i∧aA s.at' j=true:=by
 unfold DU;rw[Q3,Ry]
structure CInv (D:DK) (L:List Int) (s:NS) (l:List Int) (js:List Nat):Prop where
  sub:∀x∈l,x∈dH D.t
  neg:∀y∈L,-y∈l
  don:∀j (hj:j<D.t.rows.length),aA s.at' j=true->j∉js->D.t.rows[j].l∈l
  todo:∀j∈js,∃hj:j<D.t.rows.length,aA s.at' j=true∧D.t.rows[j].l∉l
  inc:js.Pairwise (·<·)
def DV(l h:List Int):List Int×Bool×Int:=if rS l h=-1 then(l,true,0)else if(cM l h).2=true then(l++[(cM l h).1],false,0)else([],false,22)
theorem oU(hs:List (List Int)){i:Nat}(h:i<hs.length):∀h',(hs.map az)[i]'h'=[.seq false 1 (ab hs[i])]:=λh'=>by simp[az]
def GI(c:List Int):Bool:=c.any λx=>decide (aV x<0)
def ma(c:List Int):Int:=if GI c=true then 10 else if iK c=true then 11 else 0
def GJ(c:List Int):List Int:=if ma c=0 then fX c else[]
theorem oV(c:List Int):∀i,(gL c i).length<=i
 |0=>Qc _
 |i+1=>by
  have:=oV c i;rw[gL];split
  .omega
  .simp;omega
def qE(c:List Int)(hs:List (List Int)):Nat×Int:=if ma c=0 then((eM (fX c) hs 0).2.1,(eM (fX c) hs 0).2.2)else(0,ma c)
end Go.AX
namespace Go.AX
set_option maxRecDepth 16000
open Go.Proofs
set_option linter.unusedSimpArgs false
def kU(l:List Int)(x:Int):Int:=if x∈l then 1 else if aX (-x)∈l then-1 else 0
theorem wv(l:List Int)(x:Int):(0<(lk (cg l l.length) x).getD 0)=(x∈l):=by
 have:=se l x l.length (Qc _);rw[QO]at this;unfold aA at this;rw[Qs]at this;exact propext this
def mR(n:Nat):PV:=.fn (.func 200) [] [.ptr n 0]
theorem nU(l:List Int)(x:Int):am Tryz.prog 200 [af x,.iptr 1 [[.amap false (aC fI (cg l l.length))]] 0 0] (λr=>r=.pv (af (kU l x))):=by
 refine ao aD Tryz.func200 ?_;unfold kU
 by_cases c1:x∈l
 .simp[wv,c1]
 .by_cases c2:aX (-x)∈l
  .simp[wv,c1,c2]
  .simp[wv,c1,c2]
theorem pP(h:List (List SV))(l:List Int)(g:l.length<=1000000):ay Tryz.prog 120 [.seq false 1 (ab l)] h (λr h'=>h'=h++[[.omap true (aC fI (cg l l.length))]]∧r=.pv (mR h.length)):=by
 refine ay.below (by kernel_rfl) λf=>?_;refine cY [] [.tmp 2] aD Tryz.func120 ?_;simp;refine aH.intro (S:=λ(i:Nat)=>⟨[(3,.pv (.ptr h.length 0)),(9,.pv (.seq false 1 (ab l))),(10,.pv (af l.length)),(11,.pv (af i))],h++[[.omap true (aC fI (cg l i))]]⟩) (λi=>i<=l.length) (λi=>l.length -i) 0 ?_ (Qq _) ?_
 .exact ai.keep (by simp) (by simp[cg])
 intro i hi
 by_cases c:i<l.length
 .have d:=eq i;have b:l.getD i 0=l[i]:=by simp[c]
  have hs:cg l (i+1)=pt (cg l i) l[i] ((lk (cg l i) l[i]).getD 0+1):=by rw[cg,b]
  have e:=oR l i l[i];have a:aX ((lk (cg l i) l[i]).getD 0+1)=(lk (cg l i) l[i]).getD 0+1:=aq (by omega) (by omega);simp[c];exact⟨i+1,by(try dsimp only);omega,by(try dsimp only);omega,ai.keep (by simp[d]) (by simp[a,hs])⟩
 .have:i=l.length:=by omega
  subst this;simp[mR]
theorem pQ(l:List Int)(x:Int)(h:cK x=true):bu l x=kU l x:=by
 unfold bu kU;rw[Qa (by rw[rN];simp[h])]
theorem yf(l:List Int)(x:Int)(h:cK x=false):bu l x=0:=by
 unfold bu;rw[Qb (by rw[rN];exact h)]
theorem uA(l c:List Int)(m:l.length<=1000000)(o:c.length<=1000000):am Tryz.prog 328 [.seq false 1 (ab l),.seq false 1 (ab c)] (λr=>r=.pv (.agg [af (wT l c).1,af (wT l c).2.1,af (wT l c).2.2])):=by
 refine K8 aD Tryz.func328 ?_;have n:=λh=>pP h l m;simp;refine ah.introM (n _) ?_;rintro _ _ ⟨rfl,rfl⟩;simp[mR];refine aH.intro (S:=λ(i:Nat)=>⟨[(4,.pv (.ptr 0 0)),(5,.pv (mR 1)),(6,.pv (.ptr 2 0)),(11,.pv (.seq false 1 (ab c))),(12,.pv (af c.length)),(13,.pv (af i))],[[.pv (af 0),.pv (af 0),.pv (af 0)],[.omap true (aC fI (cg l l.length))],[.pv (af ((c.take i).foldl (zu l) (0,0,0)).1),.pv (af ((c.take i).foldl (zu l) (0,0,0)).2.1),.pv (af ((c.take i).foldl (zu l) (0,0,0)).2.2)]]⟩) (λi=>i<=c.length) (λi=>c.length -i) 0 ?_ (Qq _) ?_
 .exact ai.keep (by simp[mR]) (by simp)
 intro i hi
 by_cases h:i<c.length
 .have g:=eq i;have a:=bs (zu l) (0,0,0) c i h;generalize(c.take i).foldl (zu l) (0,0,0)=t at a⊢;obtain⟨x,y,z⟩:=t;have f:zu l (x,y,z) c[i]=if bu l c[i]=1 then(aX (x+1),y,z)else if bu l c[i]=-1 then(x,aX (y+1),z)else if 0<=aV c[i]then(x,y,aX (z+1))else(x,y,z):=rfl;have k:=nU l c[i];simp[h,mR];refine ah.intro (aG c[i]) ?_;cases ho:cK c[i]
  .have hz:ae c[i]=0:=by rw[jF];exact ho
   have hx:¬0<=aV c[i]:=by rw[gy];simp[ho]
   rw[yf l _ ho,Qa (by decide),Qa (by decide),Qa hx]at f;rw[f]at a;simp[hz];exact⟨i+1,by(try dsimp only);omega,by(try dsimp only);omega,ai.keep (by simp[g,mR]) (by simp[a])⟩
  .have hz:ae c[i]≠0:=λe=>by rw[jF]at e;rw[ho]at e;cases e
   have hx:0<=aV c[i]:=by rw[gy];exact ho
   rw[pQ l _ ho,Qb hx]at f;rw[f]at a;simp[hz,a8];refine ak.introP k ?_
   by_cases b:kU l c[i]=1
   .rw[Qb b]at a;simp[b];exact⟨i+1,by(try dsimp only);omega,by(try dsimp only);omega,ai.keep (by simp[g,mR]) (by simp[a])⟩
   .rw[Qa b]at a
    by_cases d:kU l c[i]=-1
    .rw[Qb d]at a;simp[d];exact⟨i+1,by(try dsimp only);omega,by(try dsimp only);omega,ai.keep (by simp[g,mR]) (by simp[a])⟩
    .rw[Qa d]at a;simp[b,d];exact⟨i+1,by(try dsimp only);omega,by(try dsimp only);omega,ai.keep (by simp[g,mR]) (by simp[a])⟩
 .have j:i=c.length:=by omega
  subst j;simp[wT]
theorem GK(l:List Int):∀(c:List Int)(n:Int),n<=1->c.foldl (xY l) n<=1∧(1<=c.foldl (xY l) n↔n=1∨∃y∈c,bu l y=1)
 |[],n,h=>by simp;omega
 |y::c,n,h=>by
  have b:=gm l y;have hx:bu l y=1->0<=aV y:=λe=>by
   unfold bu at e;split at e
   .omega
   .omega
  rw[TR];have hle:xY l n y<=1:=by unfold xY;split<;>omega
  obtain⟨a,g2⟩:=GK l c (xY l n y) hle;refine⟨a,?_⟩;rw[g2];constructor
  .rintro(e|⟨z,hz,e⟩)
   .unfold xY at e;split at e
    .exact .inr ⟨y,Qy,e⟩
    .exact .inl e
   .exact .inr ⟨z,Qr _ hz,e⟩
  .rintro(e|⟨z,hz,e⟩)
   .left;unfold xY;rw[Qa (by omega)];exact e
   .rcases QC.1 hz with rfl|hz
    .left;unfold xY;split
     .exact e
     .rename_i hn;have:=hx e;omega
    .exact .inr ⟨z,hz,e⟩
theorem KG{l c:List Int}(a:c.length<=1000000):wT l c=((gJ l c 1:Int),(gJ l c (-1):Int),((eb l c).length:Int)):=by
 have:=l7 l c 0 0 0 (by omega) (by omega) (by omega);simp only[Q2]at this;exact this
theorem Ly{l c:List Int}(j:c.length<=1000000):rS l c=if 0<(wT l c).1 then 1 else if 0<(wT l c).2.2 then 0 else-1:=by
 rw[KG j];obtain⟨h1,g⟩:=GK l c (-1) (by omega);have a:=l8 (l:=l) (c:=c);have m:=(rY l c (-1) (by omega)).1;have d:gJ l c 1=0↔∀y∈c,bu l y≠1:=by
  unfold gJ;rw[Rj,RD];simp
 have f:(eb l c).length=0↔∀y∈c,0<=aV y->bu l y=1∨bu l y=-1:=by
  unfold eb;rw[Rj,RD];constructor
  .intro h y hy hx;have:=h y hy;have i:=gm l y;simp only[Qs,not_and,UD]at this;rcases i with e|e|e
   .exact .inr (this hx (by omega))
   .exact .inl e
   .exact .inr e
  .intro h y hy;simp only[Qs,not_and,UD];intro hx hn;rcases h y hy hx with e|e
   .exact absurd e hn
   .exact e
 unfold rS at a⊢;split
 .rename_i c1;have:¬gJ l c 1=0:=by omega
  rw[d]at this;have:∃y∈c,bu l y=1:=QJ λhn=>this λy hy e=>hn ⟨y,hy,e⟩;have:=g.2 (.inr this);omega
 .rename_i c1;have hz:gJ l c 1=0:=by omega
  rw[d]at hz;have k:¬1<=List.foldl (xY l) (-1) c:=λb=>by
   rcases g.1 b with e|⟨y,hy,e⟩
   .omega
   .exact hz y hy e
  dsimp only;split
  .rename_i c2;have:¬List.foldl (xY l) (-1) c=-1:=λe=>by
    have b:=a.1 e;have:(eb l c).length=0:=f.2 λy hy hx=>.inr (b y hy hx);omega
   omega
  .rename_i c2;have ho:(eb l c).length=0:=by omega
   rw[f]at ho;exact a.2 λy hy hx=>(ho y hy hx).resolve_left (hz y hy)
theorem AH(l c:List Int)(d:l.length<=1000000)(b:c.length<=1000000):am Tryz.prog 315 [.seq false 1 (ab l),.seq false 1 (ab c)] (λr=>r=.pv (af (rS l c))):=by
 refine ao aD Tryz.func315 ?_;have hn:=uA l c d b;have a:=Ly (l:=l) b;generalize rS l c=C at*;generalize wT l c=t at*;obtain⟨x,y,z⟩:=t;simp only at a hn;simp;refine ah.intro hn ?_
 by_cases c1:0<x
 .rw[Qb c1]at a;simp[c1,a]
 .rw[Qa c1]at a
  by_cases c2:0<z
  .rw[Qb c2]at a;simp[c1,c2,a]
  .rw[Qa c2]at a;simp[c1,c2,a]
theorem JI{l:List Int}{y:Int}:(decide (0<=aV y∧bu l y≠1∧bu l y≠-1))=(decide (0<ae y)&&decide (kU l y=0)):=by
 cases ho:cK y
 .have h1:¬0<=aV y:=by rw[gy];simp[ho]
  have a:¬0<ae y:=by rw[l5];simp[ho]
  simp[h1,a]
 .have h1:0<=aV y:=by rw[gy];exact ho
  have a:0<ae y:=by rw[l5];exact ho
  rw[pQ l y ho];have:kU l y=1∨kU l y=-1∨kU l y=0:=by unfold kU;split<;>(try split)<;>simp
  simp only[h1,a,U0,decide_true,SY,decide_eq_decide];omega
theorem GL(l:List Int)(x:Int):am Tryz.prog 329 [af x,.iptr 1 [[.fn (.func 200) [] [.iptr 1 [[.amap false (aC fI (cg l l.length))]] 0 0]]] 0 0] (λr=>r=.pv (BL (decide (0<ae x)&&decide (kU l x=0)))):=by
 refine ao aD Tryz.func329 ?_;have a:=nU l x;simp;refine ah.intro (aG x) ?_
 by_cases c1:0<ae x
 .simp[c1];refine aO.intro (λ_=>a) ?_;simp
 .simp[c1];refine aO.intro (r:=.pv (af 0)) (λh:False=>h.elim) ?_;simp
theorem JJ{l c:List Int}(m:c.length<=1000000):((wT l c).1<=0∧(wT l c).2.2=1->∃i,∃hi:i<c.length,gG (λx=>decide (0<ae x)&&decide (kU l x=0)) c=(i:Int)∧cM l c=(c[i],true))∧(¬((wT l c).1<=0∧(wT l c).2.2=1)->cM l c=(0,false)):=by
 have a:=KG (l:=l) m;constructor
 .rintro⟨h1,d⟩;have j:cM l c=(c.foldl (Jv l) 0,true):=by
   unfold cM;rw[Qa];rw[a]at h1 d⊢;simp only at h1 d⊢;omega
  rw[a]at d;simp only at d;obtain⟨u,b⟩:=Se.1 (show(eb l c).length=1 by omega);rw[rX,b]at j;have f:∀y,y∈eb l c↔y∈c∧(decide (0<ae y)&&decide (kU l y=0))=true:=λy=>by
   unfold eb;rw[Q3,JI]
  rw[b]at f;have hx:=(f u).1 (QI.2 rfl);unfold gG;cases e:c.findIdx? (λx=>decide (0<ae x)&&decide (kU l x=0))with
  |none=>
   rw[Sz]at e;have:=e u hx.1;rw[this]at hx;cases hx.2
  |some i=>
   rw[RJ]at e;obtain⟨g,k,_⟩:=e;refine⟨i,g,rfl,?_⟩;have:=(f c[i]).2 ⟨Qe g,k⟩;rw[QI]at this;rw[this];exact j
 .intro h;unfold cM;rw[Qb];rw[a]at h⊢;simp only at h⊢;omega
theorem GM(l c:List Int)(g:l.length<=1000000)(e:c.length<=1000000):am Tryz.prog 316 [.seq false 1 (ab l),.seq false 1 (ab c)] (λr=>r=.pv (.tup [af (cM l c).1,BL (cM l c).2])):=by
 refine nE [4,5] aD Tryz.func316 (λ_ _=>results_tmp2 rfl _ _ _) ?_;have hn:=uA l c g e;have n:=λh=>pP h l g;have f:=pH c e 329 [.iptr 1 [[.fn (.func 200) [] [.iptr 1 [[.amap false (aC fI (cg l l.length))]] 0 0]]] 0 0] (λx=>decide (0<ae x)&&decide (kU l x=0)) (λr=>by simp) rfl (λk=>by simp) (λx _=>GL l x);obtain⟨d,b⟩:=JJ (l:=l) e;generalize cM l c=U at*;generalize wT l c=t at*;obtain⟨x,y,z⟩:=t;simp only at hn d b;simp;refine ah.intro hn ?_
 by_cases c1:x<=0
 rotate_left
 .have a:0<x:=by omega
  rw[b (λh=>c1 h.1)];simp[c1,a]
 have a:¬0<x:=by omega
 by_cases c2:z=1
 rotate_left
 .rw[b (λh=>c2 h.2)];simp[c1,a,c2]
 obtain⟨i,hi,j,m⟩:=d ⟨c1,c2⟩;rw[j]at f;rw[m];simp[c1,a,c2];refine ah.introM (n _) ?_;rintro _ _ ⟨rfl,rfl⟩;simp[mR,a8];refine⟨rfl,ah.intro f ?_⟩;simp[hi]
end Go.AX
namespace Go.AX
open Go.Proofs
set_option linter.unusedSimpArgs false
def lc(T:Tr):Tr:=⟨T.marks.set (ae (T.lits.getD (T.lits.length -1) 0)).toNat ⟨0,0,0,0⟩,T.lits.take (T.lits.length -1),T.beg⟩
def popN(T:Tr):Nat->Tr
 |0=>T
 |j+1=>lc (popN T j)
def cE(T:Tr)(k:Nat):Tr:=⟨(popN T (T.lits.length -(T.beg.getD k 0).toNat)).marks,(popN T (T.lits.length -(T.beg.getD k 0).toNat)).lits,T.beg.take k⟩
set_option maxRecDepth 16000 in
theorem A6(h:List (List SV))(n b:Nat)(T:Tr)(hn:h[n]?=some [.pv (.ptr b 0)])(s:h[b]?=some (gi T))(h0:T.lits≠[])(hs:T.lits.length<=1000000)(D:∀y∈T.lits,0<=ae y∧ae y<T.marks.length):
 ay Tryz.prog 265 [.ptr n 0] h (λr h'=>h'=h.set b (gi (lc T))∧r=.pv (af (T.lits.getD (T.lits.length -1) 0))):=by
 refine dY [] [.tmp 1] (h.set b (gi (lc T))) (by simp) (λd=>by rw[Qz];exact bX (iJ _ _) b d) aD Tryz.func265 ?_;obtain⟨p,k⟩:=P7.1 s;obtain⟨g,q⟩:=P7.1 hn;obtain⟨m,B⟩:∃m,T.lits.length=m+1:=⟨T.lits.length -1,by have:=Ru.2 h0;omega⟩;have a:m<T.lits.length:=by omega
 have C:aX ((T.lits.length:Int) -1)=(m:Int):=by rw[aq (by omega) (by omega)];omega
 have A:T.lits.getD (T.lits.length -1) 0=T.lits[m]:=by rw[B,SZ,P9,P8 a];rfl
 rw[A];have w:n≠b:=λe=>by subst e;rw[hn]at s;simp[gi]at s
 have t:∀x,(h.set b x)[n]?=some [.pv (.ptr b 0)]:=λx=>by rw[Qt (SJ w)];exact hn
 have c:∀x d,(h.set b x)[n]'d=[.pv (.ptr b 0)]:=λx d=>by have:=t x;rw[P8 d]at this;exact Te this
 have l:∀x d,(h.set b x)[b]'d=x:=λx d=>by simp
 obtain⟨E,F⟩:=D _ (Qe a);have j:=aG T.lits[m];obtain⟨i,hi⟩:∃i:Nat,ae T.lits[m]=(i:Int):=⟨(ae T.lits[m]).toNat,by omega⟩;have u:i<T.marks.length:=by omega
 have v:(T.marks.map pn).set i [af 0,af 0,af 0,af 0]=(T.marks.set i ⟨0,0,0,0⟩).map pn:=by rw[T6];rfl
 have f:(ab T.lits).take m=ab (T.lits.take m):=by unfold ab;rw[SI]
 have z:lc T=⟨T.marks.set i ⟨0,0,0,0⟩,T.lits.take m,T.beg⟩:=by unfold lc;rw[A,hi,Rm,B,SZ]
 have o:m<=T.lits.length:=by omega
 rw[z];rw[hi]at j;simp[k,q,p,g,gi,C,c,l,a,o,f];refine br.intro j ?_;simp[k,q,p,g,gi,C,c,l,a,o,f,u,v];rw[QM (by simp)];simp[pn]
theorem Ei(h:List (List SV))(b:Nat):
 ay Tryz.prog 211 [.ptr b 0] h (λr h'=>h'=h++[[.pv (.ptr b 0)]]∧r=.pv (.fn (.func 265) [] [.ptr h.length 0])):=by
 refine cY [] [.tmp 2] aD Tryz.func211 ?_;simp
theorem sJ(T:Tr):∀j,(popN T j).beg=T.beg
 |0=>rfl
 |j+1=>sJ T j
theorem Cz(T:Tr):∀j,(popN T j).marks.length=T.marks.length
 |0=>rfl
 |j+1=>by rw[popN];unfold lc;rw[Qz];exact Cz T j
theorem dX(T:Tr):∀j,(popN T j).lits=T.lits.take (T.lits.length -j)
 |0=>by rw[popN,T8,QO]
 |j+1=>by
  rw[popN];unfold lc;simp only;rw[dX T j,UW,Qg,show min (min (T.lits.length -j) T.lits.length -1) (T.lits.length -j)=T.lits.length -(j+1) by omega]
def sK(T:Tr):Nat->List Int
 |0=>[]
 |j+1=>sK T j++[(popN T j).lits.getD ((popN T j).lits.length -1) 0]
theorem sL(T:Tr):∀j,(sK T j).length=j
 |0=>rfl
 |j+1=>by rw[sK,Qh,sL T j];rfl
/-! ### Levels, in order, each once -/
theorem yQ{zs:List Int}(hs:zs.Pairwise (·<=·)):∀j,j<=zs.length->(aT zs j).Pairwise (·<·)∧∀x,x∈aT zs j↔x∈zs.take j
 |0,_=>⟨by simp[aT],λx=>by simp[aT]⟩
 |j+1,h=>by
  obtain⟨h1,b⟩:=yQ hs j (by omega);have f:zs.getD j 0=zs[j]:=by simp[show j<zs.length by omega]
  rw[aT,f,Rl,P8 (by omega),R3];have hp:=QV.1 hs
  by_cases d:j=0∨zs[j]≠zs.getD (j -1) 0
  .rw[Qb d];refine⟨S7.2 ⟨h1,by simp,λy hy z hz=>?_⟩,λx=>by rw[Qn,Qn,b]⟩;rw[QI]at hz;subst hz;obtain⟨k,hk,rfl⟩:=Qm ((b y).1 hy);rw[Qg]at hk;rw[Rr];rcases d with rfl|d
   .omega
   .have a:zs.getD (j -1) 0=zs[j -1]:=by simp[show j -1<zs.length by omega]
    rw[a]at d;have i:zs[k]<=zs[j -1]:=by
     by_cases e:k=j -1
     .subst e;exact Ss _
     .exact hp k (j -1) (by omega) (by omega) (by omega)
    have l:zs[j -1]<=zs[j]:=hp (j -1) j (by omega) (by omega) (by omega);omega
  .rw[Qa d];refine⟨h1,λx=>?_⟩;rw[b,Qn,QI];refine⟨.inl,λhx=>hx.elim id λe=>?_⟩;have hj:j≠0:=λe=>d (.inl e);have a:zs.getD (j -1) 0=zs[j -1]:=by simp[show j -1<zs.length by omega]
   have c:zs[j]=zs[j -1]:=QJ λg=>d (.inr (by rw[a];exact g));rw[e,c];exact Rw.2 ⟨j -1,by omega,rfl⟩
theorem yR(l:List Int):(cH (d5 l)).Pairwise (·<·)∧∀x,x∈cH (d5 l)↔x∈l:=by
 obtain⟨h1,a⟩:=yQ (wl l) (d5 l).length (Qc _);refine⟨h1,λx=>?_⟩;rw[QO]at a;refine(a x).trans ?_;unfold d5;exact(TL _ _).mem_iff
theorem CK{T:Tr}{L:List Int}{u:Int}{r:List Int}(e:L=u::r)(w:∀y∈L,cv T y≠0)(hp:∀y∈L,0<dN T y)(m:∀y∈r,dN T y<dN T u):
 0<=eO T L∧eO T L<dN T u∧∀y∈r,dN T y<=eO T L:=by
 have h:fB T L L.length=L.map (dN T):=by
  unfold fB;rw[QO,Si.2 (λy hy=>by simpa using w y hy)]
 obtain⟨h1,b⟩:=yR (L.map (dN T));unfold eO GC;rw[h];have t:dN T u∈cH (d5 (L.map (dN T))):=(b _).2 (Qk.2 ⟨u,by rw[e];exact Qy,rfl⟩);have p:∀y∈r,dN T y∈cH (d5 (L.map (dN T))):=λy hy=>(b _).2 (Qk.2 ⟨y,by rw[e];exact Qr _ hy,rfl⟩);have o:∀x∈cH (d5 (L.map (dN T))),0<x∧x<=dN T u:=λx hx=>by
  obtain⟨y,hy,rfl⟩:=Qk.1 ((b x).1 hx);refine⟨hp y hy,?_⟩;rw[e]at hy;rcases QC.1 hy with rfl|hy
  .exact Ss _
  .have:=m y hy;omega
 generalize cH (d5 (L.map (dN T)))=C at*;have a:=QV.1 h1;obtain⟨i,hi,v⟩:=Qm t;have f:i=C.length -1:=by
  refine QJ λk=>?_;have:=a i (C.length -1) hi (by omega) (by omega);have:=(o _ (Qe (show C.length -1<C.length by omega))).2;omega
 have l:=hp u (by rw[e];exact Qy);split
 .rename_i g;refine⟨Ss _,l,λy hy=>?_⟩;obtain⟨j,hj,n⟩:=Qm (p y hy);have d:j=i:=by omega
  subst d;have:=m y hy;omega
 .rename_i g;have c:C.getD (C.length -2) 0=C[C.length -2]:=by rw[P9,P8 (by omega)];rfl
  rw[c];have s:=o _ (Qe (show C.length -2<C.length by omega));refine⟨by omega,?_,λy hy=>?_⟩
  .have:=a (C.length -2) i (by omega) hi (by omega);omega
  .obtain⟨j,hj,n⟩:=Qm (p y hy);have k:j≠i:=λe=>by subst e;have:=m y hy;omega
   by_cases q:j=C.length -2
   .subst q;omega
   .have:=a j (C.length -2) hj (by omega) (by omega);omega
/-! ### Where levels begin -/
/-! ### Back -/
/-! ### What is left stands for what was there -/
theorem Eu{A:Ar}{T:Tr}{R S:List Int}(h:∀x∈R,HOk A T S x){y:Int}(hy:HOk A T R y):HOk A T S y:=by
 induction hy with
 |stop d=>exact h _ d
 |why a b c _ e=>exact .why a b c e
theorem Kh(A:Ar)(T:Tr)(L:List Int):(pL A T L).Sublist L:=Gt A T L
theorem H0(A:Ar)(T:Tr)(u:Int)(r:List Int):∃a,pL A T (u::r)=u::a∧∀y∈a,y∈r:=by
 refine⟨bc (gI A T (u::r)) r,by unfold pL;rfl,λy hy=>?_⟩;unfold bc at hy;exact(Q3.1 hy).1
theorem back_mem{T:Tr}{L:List Int}{u:Int}{r:List Int}(e:L=u::r)(d:∀y∈L,cv T y≠0)(hp:∀y∈L,0<dN T y)(h:∀y∈r,dN T y<dN T u):
 eO T L=0∨∃y∈r,eO T L=dN T y:=by
 obtain⟨_,b1,_⟩:=CK e d hp h;have b:fB T L L.length=L.map (dN T):=by
  unfold fB;rw[QO,Si.2 (λy hy=>by simpa using d y hy)]
 obtain⟨_,g⟩:=yR (L.map (dN T));unfold eO GC at b1⊢;rw[b]at b1⊢;split at b1
 .rename_i c;rw[Qb c];exact .inl rfl
 .rename_i c;rw[Qa c];right;generalize i:cH (d5 (L.map (dN T)))=C at*;have a:C.getD (C.length -2) 0=C[C.length -2]:=by rw[P9,P8 (by omega)];rfl
  rw[a]at b1⊢;obtain⟨y,hy,f⟩:=Qk.1 ((g _).1 (Qe (show C.length -2<C.length by omega)));refine⟨y,?_,f.symm⟩;rw[e]at hy;rcases QC.1 hy with rfl|hy
  .omega
  .exact hy
/-! ### What is shown holds -/
theorem lf{m:List Bool}{x:Int}(h:jQ m x=true):cK x=true∧0<=aV x:=by
 have hk:cK x=true:=by
  rw[aW];unfold jQ at h;simp only[Qj,Qs]at h;have h1:=h.1;unfold gt at h1;split at h1
  .omega
  .split at h1
   .omega
   .exact absurd rfl h1
 refine⟨hk,?_⟩;have:=(aW x).1 hk;unfold aV du;rw[Qb hk];split<;>omega
theorem yS{m:List Bool}{x:Int}(h:jQ m x=true):jQ m (-x)=false:=by
 obtain⟨hk,_⟩:=lf h;have b:=(aW x).1 hk;unfold jQ gt at*
 by_cases c:0<x
 .rw[Qb (by omega)]at h;rw[Qa (by omega),Qb (by omega)];simp only[R2]at h⊢
  revert h
  cases a:(decide (x<=(m.length:Int))&&m.getD (x -1).toNat false)<;>simp
 .rw[Qa (by omega),Qb (by omega)]at h;rw[Qb (by omega)];simp only at h⊢
  revert h
  cases a:(decide (-x<=(m.length:Int))&&m.getD (-x -1).toNat false)<;>simp
theorem H9{m:List Bool}{x:Int}(hk:cK x=true)(h:jQ m x=false):jQ m (-x)=true:=by
 have b:=(aW x).1 hk;unfold jQ gt at*
 by_cases c:0<x
 .rw[Qb (by omega)]at h;rw[Qa (by omega),Qb (by omega)];simp only[R2]at h⊢
  revert h
  have:x≠0:=by omega
  cases a:(decide (x<=(m.length:Int))&&m.getD (x -1).toNat false)<;>simp[this]
 .rw[Qa (by omega),Qb (by omega)]at h;rw[Qb (by omega)];simp only at h⊢
  revert h
  have:-x≠0:=by omega
  cases a:(decide (-x<=(m.length:Int))&&m.getD (-x -1).toNat false)<;>simp[this]
theorem Ki{l:List Int}{x:Int}(h:bu l x=-1):aX (-x)∈l:=by
 unfold bu at h;split at h
 .omega
 .split at h
  .omega
  .split at h
   .assumption
   .omega
theorem CL{m:List Bool}{l:List Int}(a:∀y∈l,jQ m y=true){x:Int}(hx:jQ m x=true):bu l x≠-1:=λe=>by
 have h1:=Ki e;obtain⟨hk,_⟩:=lf hx;have b:=(aW x).1 hk;rw[aq (by omega) (by omega)]at h1;have:=a _ h1;rw[yS hx]at this;cases this
theorem Be{m:List Bool}{l c:List Int}(o:c.length<=1000000)(n:∀y∈l,jQ m y=true)(k:d0 c m=true)(f:(cM l c).2=true):jQ m (cM l c).1=true:=by
 obtain⟨y,hy,a⟩:=R7.1 k;have j:=l7 l c 0 0 0 (by omega) (by omega) (by omega);have h:wT l c=(((0+gJ l c 1:Nat):Int),((0+gJ l c (-1):Nat):Int),((0+(eb l c).length:Nat):Int)):=j;have h0:gJ l c 1=0∧(eb l c).length=1∧(cM l c).1=c.foldl (Jv l) 0:=by
  unfold cM at f⊢;rw[h]at f⊢;split at f
  .cases f
  .rename_i hn;rw[Qa hn];simp only[ne_eq,U1,Decidable.not_not]at hn;exact⟨by omega,by omega,rfl⟩
 obtain⟨g,i,a3⟩:=h0;obtain⟨u,b⟩:∃u,eb l c=[u]:=Se.1 i;rw[rX,b]at a3;have d:y∈eb l c:=by
  unfold eb;rw[Q3];refine⟨hy,?_⟩;rw[Qs];refine⟨(lf a).2,λe=>?_,CL n a⟩;unfold gJ at g;rw[Rj,RD]at g;exact g y hy (by simpa using e)
 rw[b,QI]at d;rw[a3,←d];exact a
theorem uX{m:List Bool}:∀(hs:List (List Int))(l:List Int)(n:Nat),(∀c∈hs,c.length<=1000000)->(∀y∈l,jQ m y=true)->(∀c∈hs,d0 c m=true)->(eM l hs n).2.2=0->False
 |[],l,n,_,_,_,h=>by simp[eM]at h
 |c::hs,l,n,f,e,d,h=>by
  rw[eM]at h;split at h
  .rename_i h1;obtain⟨y,hy,b⟩:=R7.1 (d c Qy);exact CL e b (l8.1 h1 y hy (lf b).2)
  .split at h
   .rename_i g;have i:=Be (f c Qy) e (d c Qy) g;refine uX hs _ _ (λc a=>f c (Qr _ a)) (λy hy=>?_) (λc a=>d c (Qr _ a)) h;rcases Qn.1 hy with hy|hy
    .exact e y hy
    .rw[QI]at hy;rw[hy];exact i
   .simp at h
end Go.AX