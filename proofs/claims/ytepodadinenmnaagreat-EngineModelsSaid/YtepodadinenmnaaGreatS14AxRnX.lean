/-
  Contracts: how glued literals are; whether a clause is a reason.
  Contracts: arenas that are only read; what other literals a reason has.
  Contracts: the asker of what is deeply left over.
  Contracts: what is deeply left over; what is a part of what.
  Contracts: slices.DeleteFunc whose predicate turns blocks.
  Contracts: a clause that is made shorter.
  Each reason of a desk is a clause, all others of which fail by what stands ahead (plain law).
  What is left over, of a desk: it is deeply left over; made shorter again it is the same (plain law).
  Contracts: the probe of the layer shorten.
  Contracts: what other literals a reason has, and what is left over, by the document.
  What is left over, deeply, of a desk: the program's answer is the document's (plain law).
  How a desk's trail came about: each level is calm ahead of the next decision (plain law).
  A desk's trail came about as trails do; a conflict is a clause that fails (plain law).
  What a conflict teaches: of the last level one literal is left (plain law).
  What a conflict teaches: its first literal, its levels, and that it is shown by reasons (plain law).
  Contracts: a conflict is taken apart.
  Contracts: what a conflict teaches is gone through; levels; what fails.
  Contracts: what fails; whether literals say one thing ahead; the level to which one goes back.
  Contracts: the reasons that are needed are gathered.
  Contracts: by which clauses what a conflict teaches is shown.
  Contracts: the one literal of the greatest level first; what a conflict teaches.
  What is gathered of reasons is all that is needed (plain law).
  Hints that were found show what a conflict teaches (plain law).
  Contracts: the document's chains of hints.
  Contracts: assign: how many literals hold, fail, are open; what a unit says.
  Contracts: trails that go back.
  Plain facts: the level to which one goes back, and what fails there.
  Plain facts: what is learnt, made shorter, is shown as well, and holds where its hints do.
-/
import Derived.Test.YtepodadinenmnaaGreatS14AxDkQ
import Derived.Test.YtepodadinenmnaaGreatAxIs
import Derived.Test.YtepodadinenmnaaGreatS14AxGlC
import Derived.Test.YtepodadinenmnaaGreatS14AxEvC
import Derived.Test.YtepodadinenmnaaGreatS14AxShelf2
import Derived.Test.YtepodadinenmnaaGreatAxDl
import Derived.Test.YtepodadinenmnaaGreatS14AxMovR
namespace Go.AX
set_option maxRecDepth 8000
open Go.Proofs
set_option linter.unusedSimpArgs false
def ta(T:Tr)(l:List Int):Nat->List (Int×Int)
 |0=>[]
 |i+1=>if 0<(dH T (ah (l.getD i 0))).1.lev then pt (ta T l i) (dH T (ah (l.getD i 0))).1.lev (aR ((lk (ta T l i) (dH T (ah (l.getD i 0))).1.lev).getD 0+1))else ta T l i
def KY(T:Tr)(l:List Int):Int:=((ta T l l.length).length:Int)
theorem Fb(T:Tr)(ht:T.ok)(l:List Int)(g:l.length<=1000000):am Tryz.prog 97 [bM T,.seq false 1 (aa l)] (λr=>r=.pv (ae (KY T l))):=by
 refine aq aE Tryz.func97 ?_;have a:=λv=>fN T v ht;simp only[bM,cY]at a;simp[bM,cY];refine av.intro (S:=λ(i:Nat)=>⟨[(0,.pv (bM T)),(5,.omap true (a8 fI (ta T l i))),(12,.pv (.seq false 1 (aa l))),(13,.pv (ae l.length)),(14,.pv (ae i))],[]⟩) (λi=>i<=l.length) (λi=>l.length -i) 0 ?_ (RW _) ?_
 .exact af.to (by simp[ta,bM,cY,a8]) rfl (by simp) (by simp[bM,cY]) (by simp)
 intro i hi
 by_cases f:i<l.length
 .have b:=dq i;have e:l.getD i 0=l[i]:=by rw[RG,RF f];rfl
  have d:ta T l (i+1)=if 0<(dH T (ah l[i])).1.lev then pt (ta T l i) (dH T (ah l[i])).1.lev (aR ((lk (ta T l i) (dH T (ah l[i])).1.lev).getD 0+1))else ta T l i:=by rw[ta,e]
  simp[f,cY];refine ai.intro (aJ l[i]) ?_;simp[cY];refine ai.intro (a (ah l[i])) ?_;generalize(dH T (ah l[i])).1.lev=n at*
  by_cases c:0<n
  .rw[RI c]at d;simp[c];exact⟨i+1,by dsimp only;omega,by dsimp only;omega,af.to (by simp[b,d,bM,cY]) rfl (by simp) (by simp[bM,cY]) (by simp)⟩
  .rw[RH c]at d;simp[c];exact⟨i+1,by dsimp only;omega,by dsimp only;omega,af.to (by simp[b,d,bM,cY]) rfl (by simp) (by simp[bM,cY]) (by simp)⟩
 .have:i=l.length:=by omega
  subst this;simp[KY,a8]
theorem jX(T:Tr):am Tryz.prog 105 [bM T] (λr=>r=.pv (ae T.beg.length)):=by
 refine aq aE Tryz.func105 ?_;have hi:=mC T;simp only[bM,cY]at hi;simp[bM,cY];refine ai.intro hi ?_;simp
def Dx(T:Tr)(at' l:Int):Bool:=decide (0<cu T l)&&decide ((dH T (ah l)).1.rea=at')
def HK(T:Tr)(at':Int)(l:List Int):Bool:=l.any (Dx T at')
theorem BM(T:Tr)(ht:T.ok)(at' l:Int):am Tryz.prog 255 [ae l,.iptr 1 [[bM T]] 0 0,.iptr 1 [[ae at']] 0 0] (λr=>r=.pv (BL (Dx T at' l))):=by
 refine aq aE Tryz.func255 ?_;have b:=fO T l ht;have a:=gx T (ah l) ht;simp only[bM,cY]at b a;simp[bM,cY];refine br.intro b ?_;unfold Dx
 by_cases c:0<cu T l
 .simp[c,cY];refine ez.intro (r:=.pv (ae (ah l))) (λ_=>aJ l) ?_;simp[c,cY];refine ez.intro (r:=.pv (ae (dH T (ah l)).1.rea)) (λ_=>a) ?_;simp
 .simp[c,cY];refine ez.intro (r:=.pv (ae (ah l))) (λ_=>aJ l) ?_;simp[c,cY];refine ez.intro (r:=.pv (ae (dH T (ah l)).1.rea)) (λ_=>a) ?_;simp
theorem Fc(T:Tr)(ht:T.ok)(at':Int)(l:List Int)(b:l.length<=1000000):am Tryz.prog 194 [bM T,ae at',.seq false 1 (aa l)] (λr=>r=.pv (BL (HK T at' l))):=by
 refine aq aE Tryz.func194 ?_;have a:=ga l b 255 [.iptr 1 [[bM T]] 0 0,.iptr 1 [[ae at']] 0 0] (Dx T at') (λr=>by simp[bM,cY]) rfl (λk=>by simp[bM,cY]) (λx _=>BM T ht at' x);simp only[bM,cY]at a;simp[bM,cY,bG];refine aH.intro (r:=.pv (BL (HK T at' l))) (λ_=>a) ?_;simp
end Go.AX
namespace Go.AX
set_option maxRecDepth 16000
open Go.Proofs
set_option linter.unusedSimpArgs false
def pn(A:Ar):List PV:=[.seq false 1 (aa A.row),.amap false (a8 fI A.hd)]
abbrev lY(A:Ar):PV:=.iptr 2 [pn A] 0 0
@[simp] theorem Fd:∀l:List Int,ww (aa l)
 |[]=>trivial
 |_::l=>⟨⟨trivial,trivial⟩,Fd l⟩
@[simp] theorem HL:∀l:List Mk,ww (l.map pR)
 |[]=>trivial
 |_::l=>⟨⟨trivial,trivial,trivial,trivial,trivial⟩,HL l⟩
theorem KZ{h:List (List SV)}{b:Nat}{A:Ar}(d:h[b]?=some (mD A))(n:Nat):bG h (n+1) b 0=lY A:=by
 obtain⟨c,a⟩:=RE.1 d;simp[bG,c,a,mD,pn,frzC]
@[simp] theorem N3(k v:Int)(l:List (Int×Int)):a8 fI ((k,v)::l)=(k,ae v)::a8 fI l:=rfl
theorem Fe(A:Ar)(h0:A.hd≠[]):am Tryz.prog 207 [lY A] (λr=>r=.pv (BL true)):=by
 refine aq aE Tryz.func207 ?_;obtain⟨row,hd⟩:=A;cases hd with
 |nil=>exact absurd rfl h0
 |cons x hd=>
  obtain⟨k,v⟩:=x;simp[lY,pn]
theorem Dy(A:Ar)(h0:A.hd≠[])(q:Int):am Tryz.prog 237 [lY A,ae q] (λr=>r=.pv (BL (isA A q))):=by
 refine aq aE Tryz.func237 ?_;have a:=Fe A h0;simp only[lY,pn]at a;simp[lY,pn];refine ai.intro a ?_;simp[isA]
theorem Ff(h:List (List SV))(A:Ar)(p n:Nat)(d:AtOk A p n)(k:A.row.length<=1000000000):aB Tryz.prog 239 [lY A,ae p] h (λr h'=>h'=h∧r=.pv (.seq false 1 (aa (dI A p n)))):=by
 refine fD [] [.tmp 4] aE Tryz.func239 ?_;obtain⟨j,b⟩:=d;have h1:p+1<A.row.length:=by omega
 have c:A.row[p+1]=(n:Int):=by rw[←b,RG,RF h1];rfl
 have f:=dq p;have g:aR ((p:Int)+3)=((p+3:Nat):Int):=by rw[ap (by omega) (by omega)];omega
 have i:aR ((p:Int)+3+n)=(p:Int)+3+n:=ap (by omega) (by omega);have a:List.drop (p+3) (List.take (p+3+n) (aa A.row))=aa (dI A p n):=by
  unfold aa dI;rw[←TR,←U1,List.drop_take];congr 3;omega
 have t1:((p:Int)+3).toNat=p+3:=by omega
 have e:((p:Int)+3+n).toNat=p+3+n:=by omega
 simp[lY,pn,f,g,i,h1,c,t1,e,a,fZ]
 try omega
def aw(A:Ar)(q:Int):List Int:=if isA A q=true then dI A q.toNat (A.row.getD (q.toNat+1) 0).toNat else[]
def lw(A:Ar):Prop:=∀q:Int,isA A q=true->∃p n:Nat,q=(p:Int)∧AtOk A p n
theorem jY(A:Ar)(h0:A.hd≠[])(hk:lw A)(o:A.row.length<=1000000)(q:Int):am Tryz.prog 160 [lY A,ae q] (λr=>r=.own true 1 (aa (aw A q))):=by
 refine am.own0 (R:=λr=>r=.own true 1 (aa (aw A q))∨(aw A q=[]∧r=.pv (.lit (.slice none 0 0)))) ?_ (λr h=>h.imp id λ⟨i,j⟩=>⟨j,true,1,by rw[i];rfl⟩);refine aq aE Tryz.func160 ?_;have hi:=Dy A h0 q;simp only[lY,pn]at hi;simp[lY,pn];refine ai.intro hi ?_
 by_cases c:isA A q=true
 rotate_left
 .have c':isA A q=false:=by simpa using c
  have b:aw A q=[]:=RH c;simp[c',b]
 obtain⟨p,n,rfl,d⟩:=hk q c;have f:=λh=>Ff h A p n d (by omega);have b:aw A p=dI A p n:=by
  unfold aw;rw[RI c,SQ,d.num,SQ]
 obtain⟨m,g⟩:=d;have h1:p+1<A.row.length:=by omega
 have k:A.row[p+1]=(n:Int):=by rw[←g,RG,RF h1];rfl
 have l:=dq p;have a:(dI A p n).length=n:=by unfold dI;rw[RN,Sv];omega
 have e:(aa (dI A p n)).take n=aa (dI A p n):=SK (by simp[a]);rw[b];generalize dI A p n=y at*;simp only[lY,pn]at f;simp[c,l,h1,k,pn];refine⟨by omega,by omega,?_⟩;refine ai.introM (f _) ?_;rintro _ _ ⟨rfl,rfl⟩;simp[a,e]
theorem fQ(A:Ar)(hk:lw A)(q:Int):(aw A q).length<=A.row.length:=by
 unfold aw;split
 .unfold dI;rw[RN,Sv];omega
 .simp
def uo(T:Tr)(l x:Int):Bool:=decide (x=aR (-l))||decide ((dH T (ah x)).1.lev=0)
def po(A:Ar)(T:Tr)(l:Int):Bool:=!(decide (0<=cu T l)||decide ((dH T (ah l)).1.rea<0)||!d7 (aw A (dH T (ah l)).1.rea) (aR (-l)))
def tb(A:Ar)(T:Tr)(l:Int):List Int:=if po A T l=true then(aw A (dH T (ah l)).1.rea).filter λx=>!uo T l x else[]
theorem MZ(T:Tr)(ht:T.ok)(l x:Int):am Tryz.prog 289 [ae x,.iptr 1 [[ae l]] 0 0,.iptr 1 [[bM T]] 0 0] (λr=>r=.pv (BL (uo T l x))):=by
 refine aq aE Tryz.func289 ?_;have a:=fN T (ah x) ht;simp only[bM,cY]at a;unfold uo
 by_cases c:x=aR (-l)
 .simp[bM,cY,c];refine ez.intro (r:=.pv (ae 0)) (λh:False=>h.elim) ?_;simp[cY];refine ez.intro (r:=.pv (ae 0)) (λh:False=>h.elim) ?_;simp
 .simp[bM,cY,c];refine ez.intro (λ_=>aJ x) ?_;simp[cY];refine ez.intro (λ_=>a) ?_;simp
theorem Fg(A:Ar)(T:Tr)(l:Int)(ht:T.ok)(hk:lw A)(s:A.row.length<=1000000)(h0:0<=(dH T (ah l)).1.rea->A.hd≠[]):am Tryz.prog 246 [lY A,bM T,ae l] (λr=>r=.pv (.tup [.seq true 1 (aa (tb A T l)),BL (po A T l)])):=by
 refine am.wk (R:=λr=>∃x,r=.pv x∧bu x (.tup [.seq true 1 (aa (tb A T l)),BL (po A T l)])) ?_ (λr ⟨x,e,h⟩=>⟨x,_,e,h,rfl⟩);refine mu [] [.tmp 6,.tmp 7] aE Tryz.func246 ?_;have n:=gx T (ah l) ht;have p:=fO T l ht;have d:=λh=>jY A h hk s (dH T (ah l)).1.rea;have g:=λx=>MZ T ht l x;simp only[bM,cY]at n p;simp only[lY,pn]at d;simp[lY,pn,bM,cY];refine br.intro (aJ l) ?_;simp[cY];refine br.intro n ?_;simp[cY];refine br.intro p ?_;have i:po A T l=!(decide (0<=cu T l)||decide ((dH T (ah l)).1.rea<0)||!d7 (aw A (dH T (ah l)).1.rea) (aR (-l))):=rfl;have b:tb A T l=if po A T l=true then(aw A (dH T (ah l)).1.rea).filter λx=>!uo T l x else[]:=rfl;have t:=fQ A hk (dH T (ah l)).1.rea;generalize(dH T (ah l)).1.rea=why at*
 by_cases c1:0<=cu T l
 .have a:po A T l=false:=by rw[i];simp[c1]
  rw[a]at b;simp only[Ss,S8]at b;simp[c1,a,b];refine ez.intro (r:=.pv (.seq true 1 [])) (λh:False=>h.elim) ?_;simp;refine ez.intro (r:=.pv (BL false)) (λh:False=>h.elim) ?_;simp[bu,bd,aa]
 by_cases c2:why<0
 .have a:po A T l=false:=by rw[i];simp[c2]
  rw[a]at b;simp only[Ss,S8]at b;simp[c1,c2,a,b];refine ez.intro (r:=.pv (.seq true 1 [])) (λh:False=>h.elim) ?_;simp;refine ez.intro (r:=.pv (BL false)) (λh:False=>h.elim) ?_;simp[bu,bd,aa]
 have d:=d (h0 (by omega));simp[c1,c2];refine ez.intro (λ_=>d) ?_;simp;refine ez.intro (λ_=>MR _ (aR (-l)) (by omega)) ?_;cases c3:d7 (aw A why) (aR (-l))
 .have a:po A T l=false:=by rw[i];simp[c3]
  rw[a]at b;simp only[Ss,S8]at b;simp[a,b,bu,bd,aa]
 .have a:po A T l=true:=by rw[i];simp[c1,c2,c3]
  rw[a]at b;simp only[TL]at b;simp[a,cY,pn];refine ai.intro d ?_;generalize aw A why=y at*;have q:=iJ y (by omega) 289 [.iptr 1 [[ae l]] 0 0,.iptr 1 [[bM T]] 0 0] (uo T l) (λr=>by simp[bM,cY]) rfl (λk=>by simp[bM,cY]) (by simp[bM,cY,PV.old,q7,ww]) (λx _=>g x);simp;refine ai.introX (bC.introS (o:=.slot 34) (lo:=0) (hi:=y.length) q (by simp) rfl rfl (by simp) (by simp) rfl (by simp;rw[SK (by simp)];rfl) (bc 0 y) (by simp) (by simp[bM,cY,bG]) ?_);rintro k m ⟨rfl,rfl⟩ _ _;have j:List.drop y.length (aa y)=[]:=Sc (by simp);have c:∀X,List.take (bk (uo T l) y).length (aD (bk (uo T l) y++X))=aa (bk (uo T l) y):=λX=>by
   unfold aD;rw[Sb,TU (by simp)];rfl
  have f:bk (uo T l) y=tb A T l:=b.symm;simp[j,c,f,bu,bd];rw[f]at c;exact c _
theorem HM(A:Ar)(T:Tr)(l:Int)(hk:lw A):(tb A T l).length<=A.row.length:=by
 unfold tb;split
 .exact Sn (Ta _ _) (fQ A hk _)
 .simp
end Go.AX
namespace Go.AX
set_option maxRecDepth 16000
open Go.Proofs
set_option linter.unusedSimpArgs false
def pq(n:Nat):PV:=.fn (.func 244) [] [.ptr (n+1) 0,.ptr (n+3) 0,.ptr n 0,.ptr (n+2) 0,.ptr (n+4) 0]
def HN(A:Ar)(T:Tr)(lits:List Int)(m:List (Int×Int))(n:Nat):List (List SV):=[[.pv (lY A)],[.pv (bM T)],[.pv (.seq false 1 (aa lits))],[.omap true (a8 fI m)],[.pv (pq n)]]
theorem HP(h:List (List SV))(A:Ar)(T:Tr)(lits:List Int):aB Tryz.prog 164 [lY A,bM T,.seq false 1 (aa lits)] h (λr h'=>h'=h++HN A T lits [] h.length∧r=.pv (pq h.length)):=by
 refine cR [] [.tmp 6] aE Tryz.func164 ?_;simp[lY,pn,bM,cY,HN,pq];rfl
def cH(T:Tr)(l:Int):Int:=(dH T (ah l)).1.pla
def lO(T:Tr)(lits:List Int)(l x:Int):Bool:=!decide (x=l)&&(decide (x∈lits)&&decide (cH T x<cH T l))
def nH(A:Ar)(T:Tr)(lits:List Int):Nat->Int->Bool
 |0,_=>false
 |k+1,l=>po A T l&&(tb A T l).all λx=>lO T lits l x||(decide (0<=cH T x∧cH T x<cH T l)&&nH A T lits k x)
theorem zc(A:Ar)(T:Tr)(lits:List Int):∀(k k':Nat)(l:Int),(cH T l).toNat<k->(cH T l).toNat<k'->nH A T lits k l=nH A T lits k' l
 |0,_,_,h,_=>by omega
 |_+1,0,_,_,h=>by omega
 |k+1,k'+1,l,h,h'=>by
  have e:(λx=>lO T lits l x||(decide (0<=cH T x∧cH T x<cH T l)&&nH A T lits k x))=(λx=>lO T lits l x||(decide (0<=cH T x∧cH T x<cH T l)&&nH A T lits k' x)):=by
   funext x
   by_cases c:0<=cH T x∧cH T x<cH T l
   .rw[zc A T lits k k' x (by omega) (by omega)]
   .rw[TB c,TC,TC]
  rw[nH,nH,e]
def lP(A:Ar)(T:Tr)(lits:List Int)(l:Int):Bool:=nH A T lits ((cH T l).toNat+1) l
def nI(A:Ar)(T:Tr)(lits:List Int)(l x:Int):Bool:=lO T lits l x||(decide (0<=cH T x∧cH T x<cH T l)&&lP A T lits x)
theorem tc(A:Ar)(T:Tr)(lits:List Int)(l:Int):lP A T lits l=(po A T l&&(tb A T l).all (nI A T lits l)):=by
 have e:(λx=>lO T lits l x||(decide (0<=cH T x∧cH T x<cH T l)&&nH A T lits (cH T l).toNat x))=nI A T lits l:=by
  funext x;unfold nI lP
  by_cases c:0<=cH T x∧cH T x<cH T l
  .rw[zc A T lits (cH T l).toNat ((cH T x).toNat+1) x (by omega) (by omega)]
  .rw[TB c,TC,TC]
 unfold lP;rw[nH,e]
def iO(A:Ar)(T:Tr)(lits:List Int)(l a:Int):Bool:=decide (0<=cH T l∧cH T l<a)&&lP A T lits l
def ou(A:Ar)(T:Tr)(lits:List Int)(m:List (Int×Int)):Prop:=∀q:Int,(lk m q).getD 0=0∨((lk m q).getD 0=1∧lP A T lits q=true)∨((lk m q).getD 0=2∧lP A T lits q=false)
def m8:Sch:=
 let E:Sch:=.fork [(14,.take 16 (.take 17 (.take 18 (.take 20 (.take 21 (.fork [(19,.fork [(22,.take 23 (.take 24 (.fork [(25,.done)])))])]))))))]
 .take 0 (.take 1 (.take 2 (.take 3 (.take 4 (.take 5 (.take 7 (.fork [(6,.fork [(8,.take 9 (.take 10 (.take 12 (.take 15 (.fork [(11,.fork [(13,E)]),(13,.fork [(11,E)])])))))])])))))))
structure AskAt (A:Ar) (T:Tr) (lits:List Int) (m:List (Int×Int)) (n:Nat) (h:List (List SV)):Prop where
  b0:h[n]?=some [.pv (lY A)]
  b1:h[n+1]?=some [.pv (bM T)]
  b2:h[n+2]?=some [.pv (.seq false 1 (aa lits))]
  b3:h[n+3]?=some [.omap true (a8 fI m)]
  b4:h[n+4]?=some [.pv (pq n)]
theorem AskAt.set{A:Ar}{T:Tr}{lits:List Int}{m b:List (Int×Int)}{n:Nat}{h:List (List SV)}(a:AskAt A T lits m n h):AskAt A T lits b n (h.set (n+3) [.omap true (a8 fI b)])where
 b0:=by rw[RY (by omega)];exact a.b0
 b1:=by rw[RY (by omega)];exact a.b1
 b2:=by rw[RY (by omega)];exact a.b2
 b3:=by rw[Su (RE.1 a.b3).1]
 b4:=by rw[RY (by omega)];exact a.b4
structure ShOk (A:Ar) (T:Tr) (lits:List Int):Prop where
  tr:T.ok
  ar:lw A
  len:A.row.length<=1000000
  few:lits.length<=1000000
  hd:∀v,0<=(dH T v).1.rea->A.hd≠[]
theorem HQ(A:Ar)(T:Tr)(lits:List Int)(n:Nat)(hs:ShOk A T lits)(l a:Int)(m:List (Int×Int))(h:List (List SV))(k:¬(0<=cH T l∧cH T l<a))(b:AskAt A T lits m n h)(g:ou A T lits m):
 aB Tryz.prog 244 [ae l,ae a,.ptr (n+1) 0,.ptr (n+3) 0,.ptr n 0,.ptr (n+2) 0,.ptr (n+4) 0] h (λr h'=>∃i,ou A T lits i∧h'=h.set (n+3) [.omap true (a8 fI i)]∧r=.pv (BL (iO A T lits l a))):=by
 refine cR [10] [.tmp 9] aE Tryz.func244 ?_;have c:=mZ T (ah l) hs.tr;have e:(dH T (ah l)).1.pla=cH T l:=rfl;obtain⟨n0,g0⟩:=RE.1 b.b0;obtain⟨j,f⟩:=RE.1 b.b1;obtain⟨p,g2⟩:=RE.1 b.b2;obtain⟨q,g3⟩:=RE.1 b.b3;obtain⟨s,o⟩:=RE.1 b.b4;rw[e]at c;simp only[bM,cY]at c;simp[j,f,bM,cY];refine br.intro (aJ l) ?_;simp[j,f,bM,cY];refine br.intro c ?_
 by_cases c1:cH T l<0
 .have d:iO A T lits l a=false:=by unfold iO;rw[TB (by omega),TC]
  simp[c1,d];exact⟨m,g,(dt b.b3).symm⟩
 by_cases c2:a<=cH T l
 .have d:iO A T lits l a=false:=by unfold iO;rw[TB (by omega),TC]
  simp[c1,c2,d];exact⟨m,g,(dt b.b3).symm⟩
 exact absurd ⟨by omega,by omega⟩ k
theorem K2(A:Ar)(T:Tr)(lits:List Int)(n:Nat)(hs:ShOk A T lits):∀(N:Nat)(l a:Int)(m:List (Int×Int))(h:List (List SV)),(0<=cH T l->cH T l<a->cH T l<N)->AskAt A T lits m n h->ou A T lits m->
 aB Tryz.prog 244 [ae l,ae a,.ptr (n+1) 0,.ptr (n+3) 0,.ptr n 0,.ptr (n+2) 0,.ptr (n+4) 0] h (λr h'=>∃m',ou A T lits m'∧h'=h.set (n+3) [.omap true (a8 fI m')]∧r=.pv (BL (iO A T lits l a))):=by
 intro N
 induction N with
 |zero=>
  intro l a m h hN B M;exact HQ A T lits n hs l a m h (λc=>by have:=hN c.1 c.2;omega) B M
 |succ N ih=>
  intro l a m h hN B M;refine cR [10] [.tmp 9] aE Tryz.func244 ?_;have O:=mZ T (ah l) hs.tr;have ag:(dH T (ah l)).1.pla=cH T l:=rfl;obtain⟨n0,g0⟩:=RE.1 B.b0;obtain⟨n1,Z⟩:=RE.1 B.b1;obtain⟨n2,g2⟩:=RE.1 B.b2;obtain⟨n3,g3⟩:=RE.1 B.b3;obtain⟨n4,g4⟩:=RE.1 B.b4;rw[ag]at O;simp only[bM,cY]at O;simp[n1,Z,bM,cY];refine br.intro (aJ l) ?_;simp[n1,Z,bM,cY];refine br.intro O ?_
  by_cases c1:cH T l<0
  .have P:iO A T lits l a=false:=by unfold iO;rw[TB (by omega),TC]
   simp[c1,P];exact⟨m,M,(dt B.b3).symm⟩
  by_cases c2:a<=cH T l
  .have P:iO A T lits l a=false:=by unfold iO;rw[TB (by omega),TC]
   simp[c1,c2,P];exact⟨m,M,(dt B.b3).symm⟩
  have P:iO A T lits l a=lP A T lits l:=by unfold iO;rw[Tk (by omega),Ux]
  rw[P];have ad:=M l
  by_cases c3:(lk m l).getD 0=0
  rotate_left
  .simp[c1,c2,n3,g3,c3];refine⟨m,M,(dt B.b3).symm,?_⟩;rcases ad with e|⟨e,W⟩|⟨e,W⟩
   .exact absurd e c3
   .rw[e,W];rfl
   .rw[e,W];rfl
  have R:=Fg A T l hs.tr hs.ar hs.len (hs.hd _);have aq:=HM A T l hs.ar;have ak:=tc A T lits l;simp only[lY,pn,bM,cY]at R;simp[c1,c2,n0,g0,n1,Z,n3,g3,c3,lY,pn,bM,cY];refine ai.intro R ?_;simp;generalize tb A T l=rest at*;generalize po A T l=ok at*;refine av.intro (S:=λ(y:Nat×List (Int×Int))=>⟨[(0,.pv (ae l)),(1,.pv (ae a)),(2,.pv (.ptr (n+1) 0)),(3,.pv (.ptr (n+3) 0)),(4,.pv (.ptr n 0)),(5,.pv (.ptr (n+2) 0)),(6,.pv (.ptr (n+4) 0)),(10,.pv (ae (cH T l))),(12,.pv (BL (ok&&(rest.take y.1).all (nI A T lits l)))),(41,.pv (.seq true 1 (aa rest))),(42,.pv (ae rest.length)),(43,.pv (ae y.1))],h.set (n+3) [.omap true (a8 fI y.2)]⟩) (λy=>y.1<=rest.length∧ou A T lits y.2) (λy=>rest.length -y.1) (0,m) ?_ ⟨RW _,M⟩ ?_
  .exact af.keep (by simp) (dt B.b3).symm
  rintro⟨i,u⟩ ⟨hi,z⟩;dsimp only at hi z;have w:AskAt A T lits u n (h.set (n+3) [.omap true (a8 fI u)]):=B.set;have E:∀X Y:List SV,(h.set (n+3) X).set (n+3) Y=h.set (n+3) Y:=λX Y=>UY ..;have ao:(h.set (n+3) [.omap true (a8 fI u)]).length=h.length:=Sg ..;generalize L:h.set (n+3) [.omap true (a8 fI u)]=H at*;obtain⟨k0,f0⟩:=RE.1 w.b0;obtain⟨p,j⟩:=RE.1 w.b1;obtain⟨s,k⟩:=RE.1 w.b2;obtain⟨k3,f3⟩:=RE.1 w.b3;obtain⟨t,o⟩:=RE.1 w.b4
  by_cases g:i<rest.length
  .have F:aR ((i:Int)+1)=((i+1:Nat):Int):=by
    have:=hs.len;rw[ap (by omega) (by omega)];omega
   have b:(ok&&(rest.take (i+1)).all (nI A T lits l))=((ok&&(rest.take i).all (nI A T lits l))&&nI A T lits l rest[i]):=by
    rw[SA,RF g,Ty,List.all_append];simp[Wm]
   simp[g];refine aQ.one m8 (by kernel_rfl) ?_;generalize an:(ok&&(rest.take i).all (nI A T lits l))=acc at*;cases acc
   .simp[m8,g,p,j,s,k,t,o];refine aH.intro (r:=.pv (BL false)) (λh:False=>h.elim) ?_;simp[g,p,j,s,k,t,o,bM,cY];and_intros
    all_goals
     refine aH.intro (r:=.pv (ae 0)) (λh:False=>h.elim) ?_;simp[g,p,j,s,k,t,o,bM,cY];refine aH.intro (r:=.pv (ae 0)) (λh:False=>h.elim) ?_;simp[g,p,j,s,k,t,o,bM,cY,pq];exact⟨(i+1,u),by(try dsimp only);omega,⟨by(try dsimp only);omega,z⟩,af.keep (by simp[F,b]) (by simp[L])⟩
   .generalize d:rest[i]=x at*;have C:=jr lits x (by have:=hs.few;omega);have J:=mZ T (ah x) hs.tr;have U:(dH T (ah x)).1.pla=cH T x:=rfl;rw[U]at J;simp only[bM,cY]at J;have v:=ih x (cH T l) u H (λh1 h2=>by have:=hN (by omega) (by omega);omega) w z;have G:nI A T lits l x=(lO T lits l x||iO A T lits x (cH T l)):=rfl;have I:lO T lits l x=(!decide (x=l)&&(decide (x∈lits)&&decide (cH T x<cH T l))):=rfl
    by_cases c5:x=l
    .have f:lO T lits l x=false:=by rw[I];simp[c5]
     rw[f,Uw]at G;rw[c5]at v G d b;rw[G]at b;simp[m8,g,p,j,s,k,t,o,d,bM,cY,c5];refine aH.intro (r:=.pv (BL false)) (λh:False=>h.elim) ?_;simp[g,p,j,s,k,t,o,d,bM,cY];and_intros
     all_goals
      refine aH.intro (r:=.pv (ae 0)) (λh:False=>h.elim) ?_;simp[g,p,j,s,k,t,o,d,bM,cY];refine aH.intro (r:=.pv (ae 0)) (λh:False=>h.elim) ?_;simp[g,p,j,s,k,t,o,d,bM,cY,pq];refine aj.intro v ?_ (by trivial);rintro _ _ ⟨V,D,rfl,rfl⟩;simp;exact⟨(i+1,V),by(try dsimp only);omega,⟨by(try dsimp only);omega,D⟩,af.keep (by simp[F,b]) (by simp[←L,E])⟩
    .by_cases c6:x∈lits
     .by_cases c7:cH T x<cH T l
      .have f:lO T lits l x=true:=by rw[I];simp[c5,c6,c7]
       rw[f,Vk]at G;rw[G]at b;simp[m8,g,p,j,s,k,t,o,d,bM,cY,c5];refine aH.intro (λ_=>C) ?_;simp[g,p,j,s,k,t,o,d,bM,cY,c6];and_intros
       all_goals
        refine aH.intro (λ_=>aJ x) ?_;simp[g,p,j,s,k,t,o,d,bM,cY,c6];refine aH.intro (λ_=>J) ?_;simp[g,p,j,s,k,t,o,d,bM,cY,pq,c6,c7];exact⟨(i+1,u),by(try dsimp only);omega,⟨by(try dsimp only);omega,z⟩,af.keep (by simp[F,b]) (by simp[L])⟩
      .have f:lO T lits l x=false:=by rw[I];simp[c7]
       rw[f,Uw]at G;rw[G]at b;simp[m8,g,p,j,s,k,t,o,d,bM,cY,c5];refine aH.intro (λ_=>C) ?_;simp[g,p,j,s,k,t,o,d,bM,cY,c6];and_intros
       all_goals
        refine aH.intro (λ_=>aJ x) ?_;simp[g,p,j,s,k,t,o,d,bM,cY,c6];refine aH.intro (λ_=>J) ?_;simp[g,p,j,s,k,t,o,d,bM,cY,pq,c6,c7];refine aj.intro v ?_ (by trivial);rintro _ _ ⟨V,D,rfl,rfl⟩;simp;exact⟨(i+1,V),by(try dsimp only);omega,⟨by(try dsimp only);omega,D⟩,af.keep (by simp[F,b]) (by simp[←L,E])⟩
     .have f:lO T lits l x=false:=by rw[I];simp[c6]
      rw[f,Uw]at G;rw[G]at b;simp[m8,g,p,j,s,k,t,o,d,bM,cY,c5];refine aH.intro (λ_=>C) ?_;simp[g,p,j,s,k,t,o,d,bM,cY,c6];and_intros
      all_goals
       refine aH.intro (r:=.pv (ae 0)) (λh:False=>h.elim) ?_;simp[g,p,j,s,k,t,o,d,bM,cY];refine aH.intro (r:=.pv (ae 0)) (λh:False=>h.elim) ?_;simp[g,p,j,s,k,t,o,d,bM,cY,pq];refine aj.intro v ?_ (by trivial);rintro _ _ ⟨V,D,rfl,rfl⟩;simp;exact⟨(i+1,V),by(try dsimp only);omega,⟨by(try dsimp only);omega,D⟩,af.keep (by simp[F,b]) (by simp[←L,E])⟩
  .have ab:i=rest.length:=by omega
   subst ab;rw[R8,←ak];have K:∀q:Int,lk (pt u l 2) q=if l=q then some 2 else lk u q:=λq=>bK u l 2 q;have Q:∀q:Int,lk (pt (pt u l 2) l 1) q=if l=q then some 1 else lk (pt u l 2) q:=λq=>bK (pt u l 2) l 1 q;cases hv:lP A T lits l
   .simp[k3,f3];refine⟨pt u l 2,λq=>?_,?_⟩
    .rw[K];split
     .rename_i e;subst e;exact .inr (.inr ⟨rfl,hv⟩)
     .exact z q
    .simp[←L,E]
   .simp[k3,f3];refine⟨pt (pt u l 2) l 1,λq=>?_,?_⟩
    .rw[Q];split
     .rename_i e;subst e;exact .inr (.inl ⟨rfl,hv⟩)
     .rename_i e;rw[K,RH e];exact z q
    .simp[←L,E]
end Go.AX
namespace Go.AX
open Go.Proofs
set_option linter.unusedSimpArgs false
def gR(A:Ar)(T:Tr)(lits:List Int)(l:Int):Bool:=iO A T lits l T.lits.length
theorem HR(A:Ar)(T:Tr)(lits:List Int):ou A T lits []:=λq=>.inl rfl
end Go.AX
namespace Go.AX
set_option maxRecDepth 16000
open Go.Proofs
set_option linter.unusedSimpArgs false
theorem Fh(zs:List Int)(z:zs.length<=1000000)(g:Nat)(cap:List PV)(p:Int->Bool)(n:Nat)(Inv:List (List SV)->Prop)(hp:jG cap=true)(pre a:List Value)(cp:Nat)
 (hz:∀x∈zs,∀h,Inv h->aB Tryz.prog g (ae x::cap) h (λr h'=>Inv h'∧h'[n]?=h[n]?∧r=.pv (BL (p x)))) (h:List (List SV)) (u:Inv h) (hn:h[n]?=some (blk pre zs a)):
 aB Tryz.prog 230 [.bsl n 1 pre.length zs.length cp,.fn (.func g) [] cap] h (λr h'=>Inv h'∧h'[n]?=some (blk pre zs a)∧r=.pv (ae (iH p zs))):=by
 refine nC aE Tryz.func230 ?_;simp;refine av.intro (S:=λ(y:Nat×List (List SV))=>⟨[(0,.pv (.bsl n 1 pre.length zs.length cp)),(1,.pv (.fn (.func g) [] cap)),(7,.pv (ae zs.length)),(8,.pv (ae y.1))],y.2⟩) (λy=>y.1<=zs.length∧(∀j (hj:j<zs.length),j<y.1->p zs[j]=false)∧Inv y.2∧y.2[n]?=some (blk pre zs a)) (λy=>zs.length -y.1) (0,h) ?_ ⟨RW _,λj _ h=>absurd h (T5 _),u,hn⟩ ?_
 .exact af.keep (by simp) rfl
 .rintro⟨i,h1⟩ ⟨hi,ho,d,b⟩;dsimp only at hi ho d b;obtain⟨w,s⟩:=RE.1 b
  by_cases c:i<zs.length
  .have v:=dq i;have hx:=hz zs[i] (RK c) h1 d;have l:=ll pre zs a (i:=i) c;have m:=eP pre zs a;simp[c,hp,w,s,l,m];refine⟨by omega,?_⟩;refine aj.intro hx ?_ (by trivial);rintro _ t ⟨k,f,rfl⟩;rw[b]at f;cases o:p zs[i]
   .simp;refine⟨(i+1,t),by(try dsimp only);omega,⟨by(try dsimp only);omega,λj hj q=>?_,k,f⟩,af.keep (by simp[v]) rfl⟩;dsimp only at q
    by_cases e:j=i
    .subst e;exact o
    .exact ho j hj (by omega)
   .simp;rw[f9 c ho o];exact⟨k,f,rfl⟩
  .simp[c];rw[ed (λj hj=>ho j hj (by omega))];exact⟨d,b,rfl⟩
theorem BN(zs:List Int)(hl:zs.length<=1000000)(g:Nat)(cap:List PV)(p:Int->Bool)(n:Nat)(Inv:List (List SV)->Prop)(hp:jG cap=true)(s:∀h L,Inv h->Inv (h.set n L))(pre d:List Value)(cp:Nat)(aa:zs.length<=cp)
 (hz:∀x∈zs,∀h,Inv h->aB Tryz.prog g (ae x::cap) h (λr h'=>Inv h'∧h'[n]?=h[n]?∧r=.pv (BL (p x)))) (h:List (List SV)) (hI:Inv h) (hn:h[n]?=some (blk pre zs d)):
 aB Tryz.prog 150 [.bsl n 1 pre.length zs.length cp,.fn (.func g) [] cap] h (λr h'=>Inv h'∧∃G,G=bk p zs++List.replicate (zs.length -(bk p zs).length) 0∧h'[n]?=some (blk pre G d)∧r=.pv (.bsl n 1 pre.length (bk p zs).length cp)):=by
 have P:=Fh zs hl g cap p n Inv hp pre d cp hz h hI hn;refine nC aE Tryz.func150 ?_;simp;refine aj.intro P ?_ (by trivial);rintro _ h0 ⟨A,E,rfl⟩
 by_cases c:∃i,∃h:i<zs.length,p zs[i]=true∧∀j (hj:j<zs.length),j<i->p zs[j]=false
 rotate_left
 .have m:∀j (hj:j<zs.length),p zs[j]=false:=by
   intro j
   induction j using Nat.strongRecOn with
   |ind j ih=>
    intro hj;cases e:p zs[j]
    .rfl
    .exact absurd ⟨j,hj,e,λk hk R=>ih k R hk⟩ c
  have hd:=mY p zs λx hx=>by
   obtain⟨j,hj,rfl⟩:=RU hx;exact m j hj
  rw[ed m,hd];simp;exact⟨A,E⟩
 obtain⟨t,u,w,m⟩:=c;rw[f9 u m w];have U:=dq t;have C:bk p (zs.take t)=zs.take t:=mY p _ λx hx=>by
  obtain⟨j,hj,rfl⟩:=RU hx;rw[RN]at hj;rw[S7];exact m j (by omega) (by omega)
 simp;refine av.intro (S:=λ(y:Nat×List Int×List (List SV))=>⟨[(0,.pv (.bsl n 1 pre.length zs.length cp)),(1,.pv (.fn (.func g) [] cap)),(5,.pv (ae ((bk p (zs.take y.1)).length:Nat))),(6,.pv (ae y.1))],y.2.2⟩)
  (λy=>y.1<=zs.length∧(bk p (zs.take y.1)).length<y.1∧y.2.1.length=zs.length∧y.2.1.take (bk p (zs.take y.1)).length=bk p (zs.take y.1)∧y.2.1.drop y.1=zs.drop y.1∧Inv y.2.2∧y.2.2[n]?=some (blk pre y.2.1 d)) (λy=>zs.length -y.1) (t+1,zs,h0) ?_ ?_ ?_
 .refine af.keep ?_ rfl;have:(bk p (zs.take (t+1))).length=t:=by rw[iz p zs u,RI w,C,RN];omega
  simp[U,this]
 .have:bk p (zs.take (t+1))=zs.take t:=by rw[iz p zs u,RI w,C]
  refine⟨by dsimp only;omega,?_,rfl,?_,rfl,A,E⟩
  .dsimp only;rw[this,RN];omega
  .dsimp only;rw[this,RN];congr 1;omega
 .rintro⟨j,a,H⟩ ⟨h1,X,J,z,K,N,O⟩;dsimp only at h1 X J z K N O;have q:=eP pre a d;obtain⟨n1,W⟩:=RE.1 O
  by_cases I:j<zs.length
  .have Y:=dq j;have Q:a[j]'(by omega)=zs[j]:=by
    have:=Ul (λl=>l[0]?) K;simp only[Tf,UG]at this;rw[RF (by omega),RF I]at this;exact TX this
   have o:=ll pre a d (i:=j) (by omega);rw[Q]at o;have hx:=hz zs[j] (RK I) H N;have b:=iz p zs I;simp[I,hp,n1,W,o,q];refine⟨by omega,aj.intro hx ?_ (by trivial)⟩;rintro _ M ⟨B,v,rfl⟩;rw[O]at v;obtain⟨Z,f1⟩:=RE.1 v;cases F:p zs[j]
   .rw[F]at b;simp only[Ss,S8]at b;have V:=dq ((bk p (zs.take j)).length);have T:=wT pre a d (i:=(bk p (zs.take j)).length) zs[j] (by omega);simp[Z,f1,q];refine⟨by omega,by omega,(j+1,a.set (bk p (zs.take j)).length zs[j],M.set n (blk pre (a.set (bk p (zs.take j)).length zs[j]) d)),by(try dsimp only);omega,⟨by(try dsimp only);omega,?_,by(try dsimp only);rw[Sg];exact J,?_,?_,s M _ B,?_⟩,af.keep ?_ (by simp[T])⟩
    .dsimp only;rw[b,RP,S9];omega
    .dsimp only;rw[b,RP,S9,SA,VQ (RJ _),z,Su (by omega)];rfl
    .dsimp only;rw[Vg (by omega)];have:=Ul (List.drop 1) K
     rwa [Ti,Ti]at this
    .dsimp only;rw[Su Z]
    .simp[Y,V,b]
   .rw[F]at b;simp only[TL]at b;simp;refine⟨(j+1,a,M),by(try dsimp only);omega,⟨by(try dsimp only);omega,by dsimp only;rw[b];omega,J,by dsimp only;rw[b];exact z,?_,B,v⟩,af.keep (by simp[Y,b]) rfl⟩;dsimp only;have:=Ul (List.drop 1) K
    rwa [Ti,Ti]at this
  .have:j=zs.length:=by omega
   subst this;rw[R8]at X z;have f:=sK pre a d (i:=(bk p zs).length) (n:=zs.length -(bk p zs).length) 0 (by omega);have D:a.take (bk p zs).length++List.replicate (zs.length -(bk p zs).length) 0++a.drop ((bk p zs).length+(zs.length -(bk p zs).length))=bk p zs++List.replicate (zs.length -(bk p zs).length) 0:=by
    rw[z,Sc (by omega),Tc]
   rw[D]at f;simp[n1,W,J,f];refine⟨⟨by omega,by omega⟩,by omega,by omega,⟨by omega,by omega⟩,s H _ N⟩
end Go.AX
namespace Go.AX
set_option maxRecDepth 16000
open Go.Proofs
set_option linter.unusedSimpArgs false
@[simp] theorem Fi:∀l:List (Int×Int),GG (a8 fI l)
 |[]=>trivial
 |(_,_)::l=>⟨trivial,Fi l⟩
def Dz(A:Ar)(T:Tr)(lits:List Int)(m:List (Int×Int)):List (List SV):=HN A T lits m 0++[[.pv (pq 0)],[.pv (ae T.lits.length)]]
def PK(A:Ar)(T:Tr)(lits:List Int)(h:List (List SV)):Prop:=∃m L,ou A T lits m∧h=Dz A T lits m++[L]
theorem K4(A:Ar)(T:Tr)(lits:List Int)(h:List (List SV))(L:List SV)(hi:PK A T lits h):PK A T lits (h.set 7 L):=by
 obtain⟨m,L0,h1,rfl⟩:=hi;exact⟨m,L,h1,rfl⟩
theorem HT(A:Ar)(T:Tr)(lits:List Int)(m:List (Int×Int))(L:List SV):AskAt A T lits m 0 (Dz A T lits m++[L]):=⟨rfl,rfl,rfl,rfl,rfl⟩
theorem Fj(A:Ar)(T:Tr)(lits:List Int)(hs:ShOk A T lits)(x:Int)(h:List (List SV))(i:PK A T lits h):
 aB Tryz.prog 165 [ae x,.ptr 5 0,.ptr 6 0] h (λr h'=>PK A T lits h'∧h'[7]?=h[7]?∧r=.pv (BL (gR A T lits x))):=by
 obtain⟨m,L,j,rfl⟩:=i;refine nC aE Tryz.func165 ?_;have hd:=K2 A T lits 0 hs T.lits.length x T.lits.length m (Dz A T lits m++[L]) (λ_ h=>h) (HT A T lits m L) j;have e:(Dz A T lits m++[L])[5]?=some [.pv (pq 0)]:=rfl;have f:(Dz A T lits m++[L])[6]?=some [.pv (ae T.lits.length)]:=rfl;have d:(Dz A T lits m++[L]).length=8:=rfl;have b:∀a,(Dz A T lits m++[L]).set 3 [.omap true (a8 fI a)]=Dz A T lits a++[L]:=λ_=>rfl;have g:∀a,(Dz A T lits a++[L])[7]?=some L:=λ_=>rfl;have n:=g m;generalize o:Dz A T lits m++[L]=H at*;obtain⟨k,f5⟩:=RE.1 e;obtain⟨l,f6⟩:=RE.1 f;simp[k,f5,l,f6,pq];refine aj.intro hd ?_ (by trivial);rintro _ _ ⟨a,c,rfl,rfl⟩;simp[gR];rw[b a];exact⟨a,L,c,rfl⟩
def qh(A:Ar)(T:Tr)(lits:List Int):List Int:=lits.take 1++bk (gR A T lits) (lits.drop 1)
def HU:Sch:=.take 0 (.take 1 (.take 2 (.take 3 (.fork [(4,.fork [(5,.fork [(6,.take 7 .done)])])]))))
theorem BO(A:Ar)(T:Tr)(lits:List Int)(hs:ShOk A T lits)(J:T.lits.length<=1000000):am Tryz.prog 93 [lY A,bM T,.seq false 1 (aa lits)] (λr=>r=.own true 1 (aa (qh A T lits))):=by
 refine oX [6] aE Tryz.func93 ?_;have b:=λh=>HP h A T lits;have i:=ft T J;have p:=iI lits hs.few;simp only[lY,pn,bM,cY]at b i;simp[lY,pn,bM,cY];refine ai.intro p ?_
 by_cases c:lits=[]
 .subst c;simp[qh,bk]
 have w:0<lits.length:=To.2 c;simp[c];refine ai.introM (b _) ?_;rintro _ _ ⟨rfl,rfl⟩;simp[pq,HN];refine⟨rfl,ai.intro i ?_⟩;simp;refine aQ.one HU (by kernel_rfl) ?_;simp[HU];refine⟨by omega,?_⟩;have I:∀l:List Int,List.drop lits.length (aa lits)=[]:=λ_=>Sc (by simp)
 by_cases c1:lits.length=1
 .obtain⟨u,rfl⟩:=Uj.1 c1;have n:qh A T [u]=[u]:=rfl;rw[n];generalize j:eI (bG [[SV.pv (lY A)],[SV.pv (bM T)],[SV.pv (PV.seq false 1 (aa [u]))],[SV.omap true []],[SV.pv (PV.fn (Fn.func 244) [] [PV.ptr 1 0,PV.ptr 3 0,PV.ptr 0 0,PV.ptr 2 0,PV.ptr 4 0])],[SV.pv (PV.fn (Fn.func 244) [] [PV.ptr 1 0,PV.ptr 3 0,PV.ptr 0 0,PV.ptr 2 0,PV.ptr 4 0])],[SV.pv (PV.lit (Value.int .i64 T.lits.length))]] 3) [PV.ptr 5 0,PV.ptr 6 0]=cap;have E:=iJ [] (by simp) 165 cap (λ_=>false) (λr=>by rw[←j];simp[bG,lY,pn,bM,cY]) (by rw[←j];rfl) (λk=>by rw[←j];simp[bG,lY,pn,bM,cY]) (by rw[←j];simp[bG,lY,pn,bM,cY,PV.old,q7,ww]) (λx hx=>by cases hx);refine ai.introX (bC.introS (o:=.slot 7) (lo:=1) (hi:=1) E (by simp) rfl rfl (by simp) (by simp) rfl (by simp[aD]) trivial (by simp) (by rw[←j];simp) ?_);rintro k t ⟨rfl,rfl⟩ _ _;have q:bk (λ_=>false) []=[]:=rfl;simp[q,aD,aa]
 .have B:1<lits.length:=by omega
  have F := λ (pre a : List Value) (cp : Nat) (d : (lits.drop 1).length <= cp) => BN (lits.drop 1) (by have := hs.few; rw [Sv]; omega) 165 [.ptr 5 0, .ptr 6 0] (gR A T lits) 7 (PK A T lits) rfl (K4 A T lits) pre a cp d (λ x _ h G => Fj A T lits hs x h G) (Dz A T lits [] ++ [blk pre (lits.drop 1) a]) ⟨[], _, HR A T lits, rfl⟩ rfl; refine ai.introX (bC.introB (s := 7) (lo := 1) (hi := lits.length) (nw := true) (all := lits) (zs := lits.drop 1) (R := λ k f v => k = some (bk (gR A T lits) (lits.drop 1)).length ∧ f = bk (gR A T lits) (lits.drop 1) ++ List.replicate ((lits.drop 1).length - (bk (gR A T lits) (lits.drop 1)).length) 0 ∧ ∃ m, v = Dz A T lits m)
   rfl (by simp) rfl rfl rfl (by simp) B (by rw[R8]) (by simp) (by simp) rfl (λpre a cp d K=>(F pre a cp d).mono ?_) ?_)
  .rintro r h' ⟨⟨m,L,N,rfl⟩,f,rfl,C,rfl⟩;have H:L=blk pre (bk (gR A T lits) (lits.drop 1)++List.replicate ((lits.drop 1).length -(bk (gR A T lits) (lits.drop 1)).length) 0) a:=TX C;subst H;have e:=jS (gR A T lits) (lits.drop 1);refine⟨_,_,Dz A T lits m,⟨rfl,rfl,m,rfl⟩,by rw[RP,Up];omega,λk hk=>by cases hk;exact e,rfl,by simp[Dz,HN,pq,pn,cY],rfl,rfl⟩
  .rintro k f v ⟨rfl,rfl,m,rfl⟩ _ _;have n:qh A T lits=lits.take 1++bk (gR A T lits) (lits.drop 1):=rfl;have e:=jS (gR A T lits) (lits.drop 1);have M:=hs.few;generalize bk (gR A T lits) (lits.drop 1)=D at*;simp only[Sv]at e;have g:(aD (lits.take 1++(D++List.replicate (lits.length -1 -D.length) 0))).length=lits.length:=by
    simp only[aD,RR,RP,RN,Up];omega
   simp[g];refine⟨by omega,?_⟩;rw[n];have h1:(lits.take 1).length=1:=by rw[RN];omega
   generalize lits.take 1=Z at*;obtain⟨z,rfl⟩:=Uj.1 h1;have y:List.take (1+D.length) (aD ([z]++(D++List.replicate (lits.length -1 -D.length) 0)))=aa ([z]++D):=by
    unfold aD aa;rw[←TR,←Si,TU (by simp;omega)]
   rw[y];rfl
end Go.AX
namespace Go.AX
open Go.Proofs
set_option linter.unusedSimpArgs false
def jZ(l c:List Int)(v:Int):Nat:=(c.filter λy=>decide (bH l y=v)).length
def gk(l c:List Int):List Int:=c.filter λy=>decide (0<=aW y∧bH l y≠1∧bH l y≠-1)
theorem ow(l:List Int):∀(c:List Int)(a b z:Nat),a+c.length<=1000000->b+c.length<=1000000->z+c.length<=1000000->
 c.foldl (vk l) ((a:Int),(b:Int),(z:Int))=(((a+jZ l c 1:Nat):Int),((b+jZ l c (-1):Nat):Int),((z+(gk l c).length:Nat):Int))
 |[],a,b,z,_,_,_=>by simp[jZ,gk]
 |y::c,a,b,z,d,f,hz=>by
  simp only[Sa]at d f hz;rw[Uo]
  by_cases c1:bH l y=1
  .have e:vk l ((a:Int),(b:Int),(z:Int)) y=(((a+1:Nat):Int),(b:Int),(z:Int)):=by
    unfold vk;rw[RI c1,ap (by dsimp only;omega) (by dsimp only;omega)];simp
   rw[e,ow l c (a+1) b z (by omega) (by omega) (by omega)];simp[jZ,gk,c1];omega
  .by_cases c2:bH l y=-1
   .have e:vk l ((a:Int),(b:Int),(z:Int)) y=((a:Int),((b+1:Nat):Int),(z:Int)):=by
     unfold vk;rw[RH c1,RI c2,ap (by dsimp only;omega) (by dsimp only;omega)];simp
    rw[e,ow l c a (b+1) z (by omega) (by omega) (by omega)];simp[jZ,gk,c1,c2];omega
   .by_cases c3:0<=aW y
    .have e:vk l ((a:Int),(b:Int),(z:Int)) y=((a:Int),(b:Int),((z+1:Nat):Int)):=by
      unfold vk;rw[RH c1,RH c2,RI c3,ap (by dsimp only;omega) (by dsimp only;omega)];simp
     rw[e,ow l c a b (z+1) (by omega) (by omega) (by omega)];simp[jZ,gk,c1,c2,c3];omega
    .have e:vk l ((a:Int),(b:Int),(z:Int)) y=((a:Int),(b:Int),(z:Int)):=by
      unfold vk;rw[RH c1,RH c2,RH c3]
     rw[e,ow l c a b z (by omega) (by omega) (by omega)];simp[jZ,gk,c1,c2,c3]
theorem lz(l:List Int)(y:Int):bH l y=0∨bH l y=1∨bH l y=-1:=by
 unfold bH;split
 .exact .inl rfl
 .split
  .exact .inr (.inl rfl)
  .split
   .exact .inr (.inr rfl)
   .exact .inl rfl
theorem xe(l:List Int):∀(c:List Int)(n:Int),c.foldl (BJ l) n=((gk l c).getLast?).getD n
 |[],n=>rfl
 |y::c,n=>by
  rw[Uo,xe l c];have f:=lz l y
  by_cases c1:0<=aW y∧bH l y=0
  .have e:BJ l n y=y:=by unfold BJ;rw[RI c1]
   have a:gk l (y::c)=y::gk l c:=by
    unfold gk;rw[Sz,RI (by rw[R0];exact⟨c1.1,by omega,by omega⟩)]
   rw[e,a,List.getLast?_cons];rfl
  .have e:BJ l n y=n:=by unfold BJ;rw[RH c1]
   have a:gk l (y::c)=gk l c:=by
    unfold gk;rw[Sz,RH (by rw[R0];rintro⟨b,d,a3⟩;exact c1 ⟨b,by omega⟩)]
   rw[e,a]
theorem DA{l c:List Int}(p:c.length<=1000)(hx:∀y∈c,0<=aW y)(h:(bD l c).2=true):(bD l c).1∈c∧bH l (bD l c).1=0∧∀y∈c,y≠(bD l c).1->bH l y=-1:=by
 have o:=ow l c 0 0 0 (by omega) (by omega) (by omega);have f:Gk l c=(((0+jZ l c 1:Nat):Int),((0+jZ l c (-1):Nat):Int),((0+(gk l c).length:Nat):Int)):=o;have h0:jZ l c 1=0∧(gk l c).length=1∧(bD l c).1=c.foldl (BJ l) 0:=by
  unfold bD at h⊢;rw[f]at h⊢;dsimp only at h⊢
  by_cases e:((0+jZ l c 1:Nat):Int)≠0∨((0+(gk l c).length:Nat):Int)≠1
  .rw[RI e]at h;cases h
  .rw[RH e];refine⟨by omega,by omega,rfl⟩
 obtain⟨h1,k,m⟩:=h0;obtain⟨x,b⟩:=Uj.1 k;have n:(bD l c).1=x:=by rw[m,xe,b];rfl
 have j:x∈gk l c:=by rw[b];simp
 have a:=j;unfold gk at a;rw[SD,R0]at a;rw[n];have v3:=lz l x;refine⟨a.1,by omega,λy hy i=>?_⟩;have d:=lz l y;have g:bH l y≠1:=λe=>by
  have:y∈c.filter λy=>decide (bH l y=1):=by rw[SD];exact⟨hy,by simpa using e⟩
  unfold jZ at h1;rw[TN h1]at this;cases this
 rcases d with d|d|d
 .have:y∈gk l c:=by
   unfold gk;rw[SD,R0];exact⟨hy,hx y hy,by omega,by omega⟩
  rw[b]at this;simp at this;exact absurd this i
 .exact absurd d g
 .exact d
structure Cls6 (cs:List (List Int)) (ats:List Int):Prop where
  len:∀c∈cs,c.length<=1000
  chk:∀c∈cs,∀y∈c,ax y 6=0
  pos:∀k,k<cs.length->0<=ats.getD k 0
theorem Rj{y:Int}(h:ax y 6=0):y≠0∧-6<=y∧y<=6∧0<=aW y∧aR (-y)=-y:=by
 obtain⟨a,b,c⟩:=(dw (by omega)).1 h;refine⟨a,b,c,?_,ap (by omega) (by omega)⟩;rw[lp];exact(aY y).2 ⟨a,by omega,by omega⟩
theorem xf{l:List Int}{y:Int}(h:bH l y=-1):aR (-y)∈l:=by
 unfold bH at h;split at h
 .omega
 .split at h
  .omega
  .split at h
   .assumption
   .omega
def DkR(D:DK):Prop:=∀i (hi:i<D.t.rows.length),D.t.rows[i].rea<0∨(isA D.A D.t.rows[i].rea=true∧D.t.rows[i].l∈aw D.A D.t.rows[i].rea∧∀y∈aw D.A D.t.rows[i].rea,ax y 6=0∧(y≠D.t.rows[i].l->aR (-y)∈(D.t.rows.take i).map (·.l)))
structure DeskOk (D:DK):Prop where
  rel:RelD D.T D.t
  relA:RelA D.A D.a
  rea:DkR D
  len:D.A.row.length<=1000000
theorem HV{A:Ar}{q:Int}(h:isA A q=true):A.hd≠[]:=λe=>by
 unfold isA at h;rw[e]at h;simp[lk]at h
theorem rL{α:Type}{p:α->Bool}:∀{l:List α}{j:Nat}(hj:j<l.length),p l[j]=true->0<=iH p l∧iH p l<=j:=by
 intro l j hj h;unfold iH;cases a:l.findIdx? p with
 |none=>
  rw[T6]at a;have:=a _ (RK hj);rw[h]at this;cases this
 |some i=>
  rw[SR]at a;obtain⟨h1,d,c⟩:=a;dsimp only;refine⟨by omega,?_⟩;apply Int.ofNat_le.2;apply Tt;intro b;exact c j b h
theorem HW(A:Ar)(T:Tr)(c:List Int):List.Sublist (qh A T c) c:=by
 have h:List.Sublist (c.take 1++bk (gR A T c) (c.drop 1)) (c.take 1++c.drop 1):=List.Sublist.append (V5 _) VR;rw[SI]at h;exact h
@[simp ↓ high] theorem PM{P:Program}{st:St}{a:Prop}{o:Op}{d:Option Tmp}{K:St->Prop}(h:a):C9 P st a o d K=AE P st o d K:=
 propext ⟨λx=>x.1 h,λx=>⟨λ_=>x,λhn=>absurd h hn⟩⟩
instance:Inhabited Ro:=⟨⟨0,0,[]⟩⟩
theorem dJ(l:Int):ah (-l)=ah l:=by
 unfold ah;rw[KM];unfold dr;split
 .split<;>split<;>omega
 .rfl
theorem BP(l:List Int):∀(c:List Int)(n:Int),-1<=n->n<=c.foldl (Dv l) n∧(c.foldl (Dv l) n=-1↔n=-1∧∀y∈c,0<=aW y->bH l y=-1)
 |[],n,h=>by simp
 |y::c,n,h=>by
  have f:=lz l y;rw[Uo]
  by_cases q:0<=aW y∧n<bH l y
  .have e:Dv l n y=bH l y:=by unfold Dv;rw[RI q]
   rw[e];obtain⟨d,g2⟩:=BP l c (bH l y) (by omega);refine⟨by omega,?_⟩;constructor
   .intro g;omega
   .rintro⟨b,a⟩;have:=a y (R2 ..) q.1;omega
  .have e:Dv l n y=n:=by unfold Dv;rw[RH q]
   rw[e];obtain⟨d,g2⟩:=BP l c n h;refine⟨d,?_⟩;rw[g2];constructor
   .rintro⟨b,a⟩;refine⟨b,λz hz hx=>?_⟩;rcases R9.1 hz with rfl|hz
    .omega
    .exact a z hz hx
   .rintro⟨b,a⟩;exact⟨b,λz hz=>a z (RZ _ hz)⟩
theorem mE{l c:List Int}:pS l c=-1↔∀y∈c,0<=aW y->bH l y=-1:=by
 have:=(BP l c (-1) (by omega)).2;unfold pS;rw[this];exact⟨λh=>h.2,λh=>⟨rfl,h⟩⟩
theorem zd{l:List Int}{x:Int}(d:bH l x=0)(a:0<=aW x):∀{c:List Int},c.Nodup->x∈c->(∀y∈c,y≠x->bH l y=-1)->gk l c=[x]
 |[],_,h,_=>by cases h
 |y::c,hn,b,ho=>by
  rw[Tg]at hn;unfold gk
  by_cases e:y=x
  .subst e;rw[Sz,RI (by rw[R0];exact⟨a,by omega,by omega⟩)];congr 1;rw[Tz];intro z hz;have:=ho z (RZ _ hz) (λe=>hn.1 (e▸hz));simp[this]
  .have hy:=ho y (R2 ..) e;rw[Sz,RH (by simp[hy])];rcases R9.1 b with rfl|b
   .exact absurd rfl e
   .exact zd d a hn.2 b (λz hz=>ho z (RZ _ hz))
theorem unit_of{l c:List Int}{x:Int}(i:c.length<=1000)(hn:c.Nodup)(h:x∈c)(b:0<=aW x)(d:bH l x=0)(ho:∀y∈c,y≠x->bH l y=-1):bD l c=(x,true):=by
 have g:=ow l c 0 0 0 (by omega) (by omega) (by omega);have a:Gk l c=(((0+jZ l c 1:Nat):Int),((0+jZ l c (-1):Nat):Int),((0+(gk l c).length:Nat):Int)):=g;have h1:=zd d b hn h ho;have f:jZ l c 1=0:=by
  unfold jZ;rw[Td,Tz];intro y hy
  by_cases e:y=x
  .subst e;simp[d]
  .simp[ho y hy e]
 unfold bD;rw[a,h1,f,xe,h1];simp
structure ClsN (cs:List (List Int)) (ats:List Int):Prop extends Cls6 cs ats where
  nd:∀c∈cs,c.Nodup
def Calm(cs:List (List Int))(ls:List Int):Prop:=∀c∈cs,(bD ls c).2=false∧pS ls c≠-1
def dR(t:RT):List Int:=t.rows.map (·.l)
def bel(t:RT)(k:Int):List Int:=(t.rows.filter λx=>decide (x.lev<k)).map (·.l)
inductive Tra (cs:List (List Int)) (ats:List Int):RT->Prop
  |nil:Tra cs ats ⟨6,[],0⟩
  |dec {t:RT} {l:Int}:Tra cs ats t->mayR t l=0->Calm cs (dR t)->Tra cs ats ⟨t.vars,t.rows++[⟨l,t.dep+1,-1⟩],t.dep+1⟩
  |imp {t:RT} {k:Nat} {x:Int} (hk:k<cs.length):Tra cs ats t->mayR t x=0->bD (dR t) cs[k]=(x,true)->Tra cs ats ⟨t.vars,t.rows++[⟨x,t.dep,ats.getD k 0⟩],t.dep⟩
theorem K5{t:RT}(h:∀x∈t.rows,x.lev<=t.dep):bel t (t.dep+1)=dR t:=by
 unfold bel dR;rw[TG.2];intro x hx;have:=h x hx;simp;omega
theorem jx{t:RT}{k:Int}:∀y∈bel t k,y∈dR t:=by
 intro y hy;unfold bel at hy;obtain⟨x,hx,rfl⟩:=RO.1 hy;exact RO.2 ⟨x,(SD.1 hx).1,rfl⟩
theorem HX{t:RT}{l:Int}(h:mayR t l=0):ax l t.vars=0∧qf t (ah l)<0:=by
 unfold mayR at h;split at h
 .cases h
 .rename_i c1;split at h
  .cases h
  .exact⟨by simpa using c1,by omega⟩
theorem xg{t:RT}{v:Int}(h:qf t v<0):∀x∈t.rows,ah x.l≠v:=by
 intro x hx e;obtain⟨j,hj,rfl⟩:=RU hx;have:=rL (p:=λx:En=>decide (ah x.l=v)) hj (by simp[e]);unfold qf at h;omega
structure TraF (cs:List (List Int)) (ats:List Int) (t:RT):Prop where
  vars:t.vars=6
  dep:0<=t.dep
  chk:∀x∈t.rows,ax x.l 6=0
  nd:(t.rows.map λx=>ah x.l).Nodup
  lev:∀x∈t.rows,0<=x.lev∧x.lev<=t.dep
  mono:∀i j (hi:i<t.rows.length)(hj:j<t.rows.length),i<j->t.rows[i].lev<=t.rows[j].lev
  dec:∀i (hi:i<t.rows.length),t.rows[i].rea<0->0<t.rows[i].lev∧∀j (hj:j<t.rows.length),j<i->t.rows[j].lev<t.rows[i].lev
  top:0<t.dep->Calm cs (bel t t.dep)
  fst:∀k:Int,0<k->k<=t.dep->∃x∈t.rows,x.lev=k∧x.rea<0
  imp:∀i (hi:i<t.rows.length),0<=t.rows[i].rea->∃k,∃hk:k<cs.length,t.rows[i].rea=ats.getD k 0∧t.rows[i].l∈cs[k]∧(∀y∈cs[k],y≠t.rows[i].l->∃j,∃hj:j<t.rows.length,j<i∧t.rows[j].l=-y)∧
    (0<t.rows[i].lev->∃y∈cs[k],y≠t.rows[i].l∧∃j,∃hj:j<t.rows.length,j<i∧t.rows[j].l=-y∧t.rows[j].lev=t.rows[i].lev)
theorem iP{α:Type}{l:List α}{x:α}{i:Nat}(h:i<(l++[x]).length):(∃hi:i<l.length,(l++[x])[i]=l[i])∨(i=l.length∧(l++[x])[i]=x):=by
 by_cases c:i<l.length
 .exact .inl ⟨c,SE c⟩
 .have:i=l.length:=by simp at h;omega
  subst this;exact .inr ⟨rfl,by simp⟩
theorem TraF.inj{cs:List (List Int)}{ats:List Int}{t:RT}(h:TraF cs ats t){i j:Nat}(hi:i<t.rows.length)(hj:j<t.rows.length)(e:ah t.rows[i].l=ah t.rows[j].l):i=j:=by
 have hn:=Sl.1 (Tu.1 h.nd);rcases TY i j with c|c|c
 .exact absurd e (hn i j hi hj c)
 .exact c
 .exact absurd e.symm (hn j i hj hi c)
theorem TraF.one{cs:List (List Int)}{ats:List Int}{t:RT}(h:TraF cs ats t){y:Int}(hy:ax y 6=0):¬(y∈dR t∧-y∈dR t):=by
 rintro⟨h1,d⟩;unfold dR at h1 d;obtain⟨a,g,e⟩:=RO.1 h1;obtain⟨b,k,f⟩:=RO.1 d;obtain⟨i,hi,rfl⟩:=RU g;obtain⟨j,hj,rfl⟩:=RU k;have m:ah t.rows[i].l=ah t.rows[j].l:=by rw[e,f,dJ]
 have c:i=j:=h.inj hi hj m;subst c;obtain⟨n0,_⟩:=Rj hy;omega
theorem BQ(cs:List (List Int)):qR cs=cs.flatten.length:=by
 have:∀(cs:List (List Int))(n:Nat),cs.foldl (λn c=>n+c.length) n=n+cs.flatten.length:=by
  intro cs
  induction cs with
  |nil=>intro n;simp
  |cons c cs a=>intro n;rw[Uo,a];simp;omega
 unfold qR;rw[this];omega
theorem K6{cs:List (List Int)}{ls:List Int}(h1:ij cs ls<0)(a:(eU cs ls).2.2=false):Calm cs ls:=by
 intro c b;constructor
 .unfold eU at a;split at a
  .cases a
  .rename_i d;rw[T6]at d;simpa using d c b
 .intro e;obtain⟨j,hj,rfl⟩:=RU b;have:=rL (p:=λc=>decide (pS ls c=-1)) hj (by simp[e]);unfold ij at h1;omega
theorem DB{cs:List (List Int)}{ls:List Int}(h:0<=ij cs ls):∃i,∃hi:i<cs.length,ij cs ls=(i:Int)∧pS ls cs[i]=-1:=by
 unfold ij iH at*;split at h
 .rename_i i a;rw[SR]at a;obtain⟨h1,b,_⟩:=a;exact⟨i,h1,rfl,by simpa using b⟩
 .omega
structure Way (cs:List (List Int)) (ats:List Int) (D:DK):Prop where
  rel:RelD D.T D.t
  tra:Tra cs ats D.t
  con:(D.con<0∧Calm cs (dR D.t))∨∃k,∃hk:k<cs.length,D.con=ats.getD k 0∧pS (dR D.t) cs[k]=-1
theorem Fk{l:List Int}(h:ii l l.length=0):l.Nodup:=by
 refine Sl.2 λi j hi hj b e=>?_;have a:=ol l (i:=j+1) l.length (by omega);rw[ii]at a;have:l.getD j 0∈l.take j:=by
  rw[RG,RF hj,Sm,←e];rw[SS];exact⟨i,by omega,rfl⟩
 rw[RI this]at a;omega
structure DeskT (cs:List (List Int)) (ats:List Int) (D:DK):Prop where
  ok:DeskOk D
  cls:ClsN cs ats
  way:Way cs ats D
  ars:∀k (hk:k<cs.length),isA D.A (ats.getD k 0)=true∧aw D.A (ats.getD k 0)=cs[k]
structure PS where
  seen:List (Int×Int)
  lits:List Int
  many:Nat
def aC(s:List (Int×Int))(v:Int):Bool:=decide (0<(lk s v).getD 0)
def dO(T:Tr)(l:Int):Int:=(dH T (ah l)).1.lev
def takeF(T:Tr)(but:Int)(p:PS)(l:Int):PS:=
 if ah l=but∨aC p.seen (ah l)=true∨dO T l<=0 then p
 else if dO T l=T.beg.length then⟨pt p.seen (ah l) 1,p.lits,p.many+1⟩else⟨pt p.seen (ah l) 1,p.lits++[l],p.many⟩
def dA(T:Tr)(but:Int)(c:List Int)(p:PS):PS:=c.foldl (takeF T but) p
def nJ(T:Tr)(p:PS)(l:Int):Bool:=aC p.seen (ah l)&&(decide (dO T l=T.beg.length)&&decide (0<=(dH T (ah l)).1.rea))
def ox(A:Ar)(T:Tr)(p:PS)(l:Int):PS:=dA T (ah l) (aw A (dH T (ah l)).1.rea) ⟨pt p.seen (ah l) 0,p.lits,p.many -1⟩
def cP(A:Ar)(T:Tr)(all:List Int):Nat->PS->PS
 |0,p=>p
 |n+1,p=>if p.many<=1 then p else if nJ T p (all.getD n 0)=true then cP A T all n (ox A T p (all.getD n 0))else cP A T all n p
def rb(T:Tr)(all:List Int)(p:PS):List Int:=p.lits++(all.filter λl=>aC p.seen (ah l)&&decide (dO T l=T.beg.length)).map λl=>aR (-l)
/-! ### Places of what is assigned -/
theorem TraF.pla{cs:List (List Int)}{ats:List Int}{t:RT}(h:TraF cs ats t){j:Nat}(hj:j<t.rows.length):qf t (ah t.rows[j].l)=j:=by
 have h1:=rL (p:=λx:En=>decide (ah x.l=ah t.rows[j].l)) hj (by simp);obtain⟨i,hi,a,b⟩:=lm (t:=t) (v:=ah t.rows[j].l) h1.1;have:=h.inj hi hj b;subst this;exact a
theorem qi{t:RT}{j:Nat}(hj:j<t.rows.length){y:Int}(hy:t.rows[j].l=-y):ah y=ah t.rows[j].l:=by rw[hy,dJ]
theorem iQ{t:RT}{j:Nat}(hj:j<t.rows.length){y:Int}(hy:t.rows[j].l=-y):y=-t.rows[j].l:=by omega
/-! ### Counting -/
theorem oy{α:Type}{P Q:α->Bool}:∀{l:List α}{j:Nat}(hj:j<l.length),P l[j]=false->Q l[j]=true->(∀i (hi:i<l.length),i≠j->Q l[i]=P l[i])->l.countP Q=l.countP P+1
 |[],j,hj,_,_,_=>by simp at hj
 |x::l,0,hj,a,b,ho=>by
  simp only[UV]at a b;have:l.countP Q=l.countP P:=by
   apply List.countP_congr;intro y hy;obtain⟨i,hi,rfl⟩:=RU hy;have:=ho (i+1) (by simpa using hi) (by omega);simp only[UW]at this;rw[this]
  rw[UF,UF,this,a,b];simp
 |x::l,j+1,hj,a,b,ho=>by
  simp only [UW] at a b; have h0 := ho 0 (by simp) (by omega); simp only [UV] at h0; have := oy (l := l) (j := j) (by simpa using hj) a b (λ i hi c => by
   have:=ho (i+1) (by simpa using hi) (by omega);simpa using this)
  rw[UF,UF,this,h0];omega
theorem td{α:Type}{P:α->Bool}:∀{l:List α},2<=l.countP P->∃i j,∃hi:i<l.length,∃hj:j<l.length,i<j∧P l[i]=true∧P l[j]=true
 |[],h=>by simp at h
 |x::l,h=>by
  rw[UF]at h
  by_cases c:P x=true
  .rw[RI c]at h;have:0<l.countP P:=by omega
   rw[VS]at this;obtain⟨y,hy,hp⟩:=this;obtain⟨j,hj,rfl⟩:=RU hy;exact⟨0,j+1,by simp,by simpa using hj,by omega,by simpa using c,by simpa using hp⟩
  .rw[RH c]at h;obtain⟨i,j,hi,hj,a,b,d⟩:=td (l:=l) (by omega);exact⟨i+1,j+1,by simpa using hi,by simpa using hj,by omega,by simpa using b,by simpa using d⟩
/-! ### What is known while a conflict is taken apart -/
structure LI (t:RT) (p:PS) (n:Nat):Prop where
  sn:∀v,aC p.seen v=true->∃j,∃hj:j<t.rows.length,ah t.rows[j].l=v∧0<t.rows[j].lev∧(t.rows[j].lev=t.dep->j<n∨t.rows[j].rea<0)
  li:∀l∈p.lits,∃j,∃hj:j<t.rows.length,t.rows[j].l=-l∧0<t.rows[j].lev∧t.rows[j].lev<t.dep
  ls:∀j (hj:j<t.rows.length),aC p.seen (ah t.rows[j].l)=true->t.rows[j].lev<t.dep->-t.rows[j].l∈p.lits
  mn:p.many=t.rows.countP (λx=>aC p.seen (ah x.l)&&decide (x.lev=t.dep))
theorem m9(s:List (Int×Int))(v w:Int)(n:Int):aC (pt s v n) w=if v=w then decide (0<n)else aC s w:=by
 unfold aC;rw[bK];split<;>rfl
theorem M4(t:RT)(n:Nat):LI t ⟨[],[],0⟩ n where
 sn:=λv h=>by simp[aC,lk]at h
 li:=by simp
 ls:=λj hj h=>by simp[aC,lk]at h
 mn:=by
  symm;rw[VT];intro x _;simp[aC,lk]
/-! ### The one literal of the greatest level first -/
def cJ(T:Tr)(out:List Int):Nat->Int×Nat×Nat
 |0=>(-1,0,0)
 |i+1=>if(cJ T out i).1<dO T (out.getD i 0)then(dO T (out.getD i 0),1,i)
  else if dO T (out.getD i 0)=(cJ T out i).1 then((cJ T out i).1,(cJ T out i).2.1+1,(cJ T out i).2.2)else cJ T out i
def HY(T:Tr)(out:List Int):List Int:=if(cJ T out out.length).2.1=1 then out.getD (cJ T out out.length).2.2 0::out.eraseIdx (cJ T out out.length).2.2 else out
def HZ(T:Tr)(lits:List Int):List Int:=HY T (eQ lits)
def g8(A:Ar)(T:Tr)(con:Int):PS:=dA T 0 (aw A con) ⟨[],[],0⟩
def dz(A:Ar)(T:Tr)(con:Int):List Int:=HZ T (rb T T.lits (cP A T T.lits T.lits.length (g8 A T con)))
theorem ze{T:Tr}{out:List Int}{k:Nat}(hk:k<out.length)(h0:0<=dO T out[k])(ho:∀i (hi:i<out.length),i≠k->dO T out[i]<dO T out[k]):∀i,i<=out.length->
 if k<i then cJ T out i=(dO T out[k],1,k)else(cJ T out i).1<dO T out[k]
 |0,_=>by rw[RH (by omega)];simp only[cJ];omega
 |i+1,hi=>by
  have a:=ze hk h0 ho i (by omega);have b:out.getD i 0=out[i]:=by rw[RG,RF (by omega)];rfl
  rw[cJ,b]
  by_cases c:k<i
  .rw[RI c]at a;have:=ho i (by omega) (by omega);rw[RI (by omega),a];dsimp only;rw[RH (by omega),RH (by omega)]
  .rw[RH c]at a
   by_cases e:k=i
   .subst e;rw[RI (by omega),RI a]
   .have:=ho i (by omega) (by omega);rw[RH (by omega)];split
    .exact this
    .split
     .exact a
     .exact a
theorem K7{T:Tr}{out:List Int}{k:Nat}(hk:k<out.length)(h0:0<=dO T out[k])(ho:∀i (hi:i<out.length),i≠k->dO T out[i]<dO T out[k]):HY T out=out[k]::out.eraseIdx k:=by
 have:=ze hk h0 ho out.length (RJ _);rw[RI hk]at this;unfold HY;rw[this,RI rfl,RG,RF hk];rfl
theorem mF{l:List Int}{k:Nat}(hk:k<l.length)(x:Int):x∈l[k]::l.eraseIdx k↔x∈l:=by
 rw[R9,US];constructor
 .rintro(rfl|⟨i,hi,_,rfl⟩)
  .exact RK hk
  .exact RK _
 .intro h;obtain⟨i,hi,rfl⟩:=RU h
  by_cases e:i=k
  .subst e;exact .inl rfl
  .exact .inr ⟨i,hi,e,rfl⟩
theorem vl{l:List Int}(h:l.Nodup){i j:Nat}(hi:i<l.length)(hj:j<l.length)(e:l[i]=l[j]):i=j:=by
 have hn:=Sl.1 h;rcases TY i j with c|c|c
 .exact absurd e (hn i j hi hj c)
 .exact c
 .exact absurd e.symm (hn j i hj hi c)
theorem zf(c:List Int):(eQ c).Nodup:=(pc c).1.imp λh e=>by rw[e]at h;omega
/-! ### What reasons show -/
inductive HOk (A:Ar) (T:Tr) (R:List Int):Int->Prop
  |stop {l:Int}:l∈R->HOk A T R l
  |why {l:Int}:cu T l<0->0<=(dH T (ah l)).1.rea->isA A (dH T (ah l)).1.rea=true->(∀y∈aw A (dH T (ah l)).1.rea,y≠-l->HOk A T R y)->HOk A T R l
def Fr(D:DK)(p:PS)(R:List Int):Prop:=∀j (hj:j<D.t.rows.length),aC p.seen (ah D.t.rows[j].l)=true->HOk D.A D.T R (-D.t.rows[j].l)
structure Conf (D:DK) (con:Int):Prop where
  is:isA D.A con=true
  neg:∀y∈aw D.A con,ax y 6=0∧∃j,∃hj:j<D.t.rows.length,D.t.rows[j].l=-y
  top:0<D.t.dep->∃y∈aw D.A con,∃j,∃hj:j<D.t.rows.length,D.t.rows[j].l=-y∧D.t.rows[j].lev=D.t.dep
structure Learnt (D:DK) (L:List Int):Prop where
  nd:L.Nodup
  neg:∀y∈L,ax y 6=0∧∃j,∃hj:j<D.t.rows.length,D.t.rows[j].l=-y∧0<D.t.rows[j].lev
  nil:D.t.dep=0->L=[]
  top:0<D.t.dep->∃u r,L=u::r∧dO D.T u=D.t.dep∧∀y∈r,dO D.T y<D.t.dep
theorem oz{α:Type}{P:α->Bool}:∀{l:List α}{i j:Nat}(b:i<j)(hj:j<l.length),P (l[i]'(by omega))=true->P l[j]=true->2<=l.countP P
 |[],i,j,_,hj,_,_=>by simp at hj
 |x::l,0,j+1,_,hj,h1,a=>by
  simp only[UV,UW]at h1 a;have:0<l.countP P:=VS.2 ⟨_,RK (by simpa using hj),a⟩;rw[UF,RI h1];omega
 |x::l,i+1,j+1,b,hj,h1,a=>by
  simp only[UW]at h1 a;have:=oz (l:=l) (i:=i) (j:=j) (by omega) (by simpa using hj) h1 a;rw[UF];omega
theorem Fl:eQ []=[]:=by
 have:=(pc []).2;cases e:eQ []with
 |nil=>rfl
 |cons x l=>have h:=(this x).1 (by rw[e];simp);simp at h
end Go.AX
namespace Go.AX
set_option maxRecDepth 16000
open Go.Proofs
set_option linter.unusedSimpArgs false
def iZ(A:Ar)(T:Tr)(p:PS):List SV:=[.pv (lY A),.pv (bM T),.omap true (a8 fI p.seen),.own true 1 (aa p.lits),.pv (ae p.many)]
@[simp] theorem PN(r:Nat->Nat->PV)(A:Ar):eI r (pn A)=pn A:=by simp[pn]
@[simp] theorem PO(r:Nat->Nat->PV)(T:Tr):eI r (cY T)=cY T:=by simp[cY]
@[simp] theorem M5(k:Nat)(A:Ar):bO k (pn A):=by simp[pn]
@[simp] theorem M6(k:Nat)(T:Tr):bO k (cY T):=by simp[cY]
theorem aS(k:Nat)(A:Ar)(T:Tr)(p:PS):cX k (iZ A T p):=⟨⟨⟨bc k _,iw k _,trivial⟩,trivial⟩,⟨⟨og k _,bc k _,bc k _,trivial,trivial⟩,trivial⟩,iw k _,bc k _,trivial,trivial⟩
theorem H0(T:Tr)(but:Int)(p:PS)(l:Int):(takeF T but p l).many<=p.many+1∧(takeF T but p l).lits.length<=p.lits.length+1:=by
 unfold takeF;split
 .exact⟨by omega,by omega⟩
 .split
  .exact⟨by simp,by simp⟩
  .exact⟨by simp,by simp⟩
theorem j0(T:Tr)(but:Int):∀(c:List Int)(p:PS),(dA T but c p).many<=p.many+c.length∧(dA T but c p).lits.length<=p.lits.length+c.length
 |[],p=>⟨RJ _,RJ _⟩
 |y::c,p=>by
  have h1:=H0 T but p y;have a:=j0 T but c (takeF T but p y);have e:dA T but (y::c) p=dA T but c (takeF T but p y):=rfl;rw[e,Sa];omega
theorem te(T:Tr)(but:Int)(c:List Int)(p:PS){i:Nat}(h:i<c.length):dA T but (c.take (i+1)) p=takeF T but (dA T but (c.take i) p) c[i]:=bf _ _ _ _ h
theorem H9(A:Ar)(T:Tr)(p:PS)(q but:Int)(ht:T.ok)(h0:A.hd≠[])(hk:lw A)(k:A.row.length<=1000000)(m:p.many<=1000000000)(hp:p.lits.length<=1000000000):
 aB Tryz.prog 161 [.ptr 0 0,ae q,ae but] [iZ A T p] (λr h'=>h'=[iZ A T (dA T but (aw A q) p)]∧r=.pv (.tup [])):=by
 refine iK [] [] [iZ A T (dA T but (aw A q) p)] (by simp) (λ_=>⟨aS _ _ _ _,trivial⟩) aE Tryz.func161 ?_;have j:=jY A h0 hk k q;have l:=fQ A hk q;generalize aw A q=c at*;simp[iZ];refine ai.intro j ?_;simp;refine av.intro (S:=λ(i:Nat)=>⟨[(0,.pv (.ptr 0 0)),(2,.pv (ae but)),(6,.pv (.fn (.func 170) [bM T] [])),(20,.own true 1 (aa c)),(21,.pv (ae c.length)),(22,.pv (ae i))],[iZ A T (dA T but (c.take i) p)]⟩) (λi=>i<=c.length) (λi=>c.length -i) 0 ?_ (RW _) ?_
 .exact af.to (by simp) (by simp[iZ,dA]) (by simp) (by simp) (by simp[aS])
 intro i hi
 by_cases h:i<c.length
 rotate_left
 .have f:i=c.length:=by omega
  subst f;simp[iZ,fZ]
 have d:=dq i;have hs:=te T but c p h;have hle:=j0 T but (c.take i) p;rw[RN]at hle;generalize dA T but (c.take i) p=s at*;have b:=fN T (ah c[i]) ht;simp[h,iZ];refine ai.intro (aJ c[i]) ?_;simp;refine aH.intro (λ_=>b) ?_
 by_cases c1:ah c[i]=but
 .have hd:takeF T but s c[i]=s:=by unfold takeF;rw[RI (.inl c1)]
  simp[c1];refine⟨i+1,by(try dsimp only);omega,by(try dsimp only);omega,af.to (by simp[d]) (by simp[iZ,hs,hd]) (by simp) (by simp) (by simp[aS])⟩
 by_cases c2:0<(lk s.seen (ah c[i])).getD 0
 .have hd:takeF T but s c[i]=s:=by unfold takeF;rw[RI (.inr (.inl (by simpa[aC]using c2)))]
  simp[c1,c2];refine⟨i+1,by(try dsimp only);omega,by(try dsimp only);omega,af.to (by simp[d]) (by simp[iZ,hs,hd]) (by simp) (by simp) (by simp[aS])⟩
 have a:(lk s.seen (ah c[i])).getD 0<=0:=by omega
 by_cases c3:(dH T (ah c[i])).1.lev<=0
 .have hd:takeF T but s c[i]=s:=by unfold takeF;rw[RI (.inr (.inr c3))]
  simp[c1,c2,a,c3];refine⟨i+1,by(try dsimp only);omega,by(try dsimp only);omega,af.to (by simp[d]) (by simp[iZ,hs,hd]) (by simp) (by simp) (by simp[aS])⟩
 have hd:takeF T but s c[i]=if(dH T (ah c[i])).1.lev=T.beg.length then⟨pt s.seen (ah c[i]) 1,s.lits,s.many+1⟩else⟨pt s.seen (ah c[i]) 1,s.lits++[c[i]],s.many⟩:=by
  unfold takeF;rw[RH]
  .rfl
  rintro(e|e|e)
  .exact c1 e
  .exact c2 (by simpa[aC]using e)
  .exact c3 e
 simp[c1,c2,a,c3];refine br.intro b ?_;simp;refine br.intro (jX T) ?_
 by_cases c4:(dH T (ah c[i])).1.lev=T.beg.length
 .rw[RI c4]at hd;have g:=dq s.many;simp[c4];refine⟨i+1,by(try dsimp only);omega,by(try dsimp only);omega,af.to (by simp[d]) (by simp[iZ,hs,hd,g]) (by simp) (by simp) (by simp[aS])⟩
 .rw[RH c4]at hd;simp[c4];refine⟨by omega,i+1,by(try dsimp only);omega,by(try dsimp only);omega,af.to (by simp[d]) (by simp[iZ,hs,hd,aa]) (by simp) (by simp) (by simp[aS])⟩
def j7(T:Tr)(p:PS)(all:List Int):Nat->Int
 |0=>-1
 |n+1=>if nJ T p (all.getD n 0)=true then(n:Int)else j7 T p all n
theorem Fm(A:Ar)(T:Tr)(all:List Int)(p:PS)(h:p.many<=1):∀k,cP A T all k p=p
 |0=>rfl
 |k+1=>by rw[cP,RI h]
theorem zg(A:Ar)(T:Tr)(all:List Int)(p:PS):∀k,(j7 T p all k=-1∧cP A T all k p=p)∨∃j,j<k∧j7 T p all k=(j:Int)∧(1<p.many->cP A T all k p=cP A T all j (ox A T p (all.getD j 0)))
 |0=>.inl ⟨rfl,rfl⟩
 |k+1=>by
  rw[j7,cP]
  by_cases c:nJ T p (all.getD k 0)=true
  .rw[RI c,RI c];exact .inr ⟨k,by omega,rfl,λh=>by rw[RH (by omega)]⟩
  .rw[RH c,RH c];rcases zg A T all p k with⟨h1,a⟩|⟨j,h1,a,b⟩
   .refine .inl ⟨h1,?_⟩;split
    .rfl
    .exact a
   .refine .inr ⟨j,by omega,a,λh=>?_⟩;rw[RH (by omega)];exact b h
theorem Ia(A:Ar)(T:Tr)(p:PS)(all:List Int)(n:Nat)(ht:T.ok)(hn:n<=all.length)(q:all.length<=1000000):
 aB Tryz.prog 240 [.ptr 0 0,.seq false 1 (aa all),ae ((n:Int) -1)] [iZ A T p] (λr h'=>h'=[iZ A T p]∧r=.pv (ae (j7 T p all n))):=by
 refine iK [] [.tmp 6] [iZ A T p] (by simp) (λ_=>⟨aS _ _ _ _,trivial⟩) aE Tryz.func240 ?_;generalize l:j7 T p all n=F;simp;refine av.intro (S:=λ(k:Nat)=>⟨[(0,.pv (.ptr 0 0)),(1,.pv (.seq false 1 (aa all))),(7,.pv (ae ((k:Int) -1)))],[iZ A T p]⟩) (λk=>k<=n∧F=j7 T p all k) (λk=>k) n ?_ ⟨RJ _,l.symm⟩ ?_
 .exact af.to (by simp) (by simp) (by simp) (by simp) (by simp[aS])
 rintro k ⟨hk,a⟩;cases k with
 |zero=>simp[j7]at a;subst a;simp[fZ]
 |succ j=>
  have hj:j<all.length:=by omega
  have m:all.getD j 0=all[j]:=by rw[RG,RF hj];rfl
  have o:aR ((j:Int) -1)=(j:Int) -1:=ap (by omega) (by omega);have c:=fN T (ah all[j]) ht;have e:=gx T (ah all[j]) ht;have d:j7 T p all (j+1)=if nJ T p all[j]=true then(j:Int)else j7 T p all j:=by rw[j7,m]
  have i:nJ T p all[j]=(decide (0<(lk p.seen (ah all[j])).getD 0)&&(decide ((dH T (ah all[j])).1.lev=T.beg.length)&&decide (0<=(dH T (ah all[j])).1.rea))):=rfl;rw[d,i]at a;simp[hj,iZ];refine ai.intro (aJ all[j]) ?_;simp;refine ez.intro (λ_=>c) ?_;simp;refine ez.intro (λ_=>jX T) ?_;simp;refine ez.intro (λ_=>e) ?_
  by_cases b:(0<(lk p.seen (ah all[j])).getD 0∧(dH T (ah all[j])).1.lev=T.beg.length)∧0<=(dH T (ah all[j])).1.rea
  .obtain⟨⟨f,g⟩,h⟩:=b;rw[RI (by simp[f,g,h])]at a;subst a;simp[f,g,h,fZ,iZ]
  .rw[RH (by simpa[and_assoc]using b)]at a;simp[b];refineλ_=>⟨j,by(try dsimp only);omega,⟨by(try dsimp only);omega,a⟩,af.to (by simp[o]) (by simp[iZ]) (by simp) (by simp) (by simp[aS])⟩
end Go.AX
namespace Go.AX
open Go.Proofs
set_option linter.unusedSimpArgs false
theorem K8(A:Ar)(T:Tr)(hk:lw A)(b:A.row.length<=1000000)(p:PS)(l:Int):(ox A T p l).many<=p.many+1000000∧(ox A T p l).lits.length<=p.lits.length+1000000:=by
 have h:=j0 T (ah l) (aw A (dH T (ah l)).1.rea) ⟨pt p.seen (ah l) 0,p.lits,p.many -1⟩;have a:=fQ A hk (dH T (ah l)).1.rea;dsimp only at h;unfold ox;omega
def Ib(T:Tr)(p:PS)(l:Int):Bool:=aC p.seen (ah l)&&decide (dO T l=T.beg.length)
def nK(T:Tr)(all:List Int)(p:PS)(i:Nat):List Int:=p.lits++((all.take i).filter (Ib T p)).map λl=>aR (-l)
theorem BR(T:Tr)(all:List Int)(p:PS){i:Nat}(h:i<all.length):nK T all p (i+1)=if Ib T p all[i]=true then nK T all p i++[aR (-all[i])]else nK T all p i:=by
 unfold nK;rw[←TT h,S5,Sb]
 by_cases c:Ib T p all[i]=true
 .rw[RI c,Sz,RI c];simp
 .rw[RH c,Sz,RH c];simp
theorem zh(T:Tr)(all:List Int)(p:PS)(i:Nat)(hi:i<=all.length):(nK T all p i).length<=p.lits.length+i:=by
 unfold nK;rw[RP,RR];have:=Ta (Ib T p) (all.take i);rw[RN]at this;omega
theorem vm(T:Tr)(all:List Int)(p:PS):nK T all p all.length=rb T all p:=by
 unfold nK rb;rw[R8];rfl
def fin(A:Ar)(T:Tr)(all:List Int)(p:PS):PS:=⟨(cP A T all all.length p).seen,rb T all (cP A T all all.length p),(cP A T all all.length p).many⟩
set_option maxRecDepth 16000 in
theorem Ic(A:Ar)(T:Tr)(p:PS)(all:List Int)(ht:T.ok)(h0:A.hd≠[])(hk:lw A)(I:A.row.length<=1000000)(hn:all.length<=400)(N:p.many<=1000000)(hp:p.lits.length<=1000000):
 aB Tryz.prog 162 [.ptr 0 0,.seq false 1 (aa all)] [iZ A T p] (λr h'=>h'=[iZ A T (fin A T all p)]∧r=.pv (.tup [])):=by
 refine iK [] [] [iZ A T (fin A T all p)] (by simp) (λ_=>⟨aS _ _ _ _,trivial⟩) aE Tryz.func162 ?_;have a:=λp n hn=>Ia A T p all n ht hn (by omega);have C:aR ((all.length:Int) -1)=(all.length:Int) -1:=ap (by omega) (by omega);unfold fin;generalize K:cP A T all all.length p=F;simp[C];refine aj.intro (a p all.length (RJ _)) ?_;rintro _ _ ⟨rfl,rfl⟩;simp;refine av.intro (S:=λ(x:Nat×PS)=>⟨[(0,.pv (.ptr 0 0)),(1,.pv (.seq false 1 (aa all))),(4,.pv (ae (j7 T x.2 all x.1)))],[iZ A T x.2]⟩) (λx=>x.1<=all.length∧F=cP A T all x.1 x.2∧x.2.many<=1000000*(all.length -x.1+1)∧x.2.lits.length<=1000000*(all.length -x.1+1)) (λx=>x.1) (all.length,p) ?_ ⟨RJ _,K.symm,by dsimp only;omega,by dsimp only;omega⟩ ?_
 .exact af.to (by simp) (by simp) (by simp) (by simp) (by simp[aS])
 rintro⟨k,s⟩ ⟨t,b,w,y⟩;dsimp only at t b w y;have d:=zg A T all s k
 by_cases H:(1:Int)<(s.many:Int)∧0<=j7 T s all k
 rotate_left
 .have m:F=s:=by
   rcases d with⟨h1,e⟩|⟨j,h1,e,D⟩
   .rw[b,e]
   .rw[b,Fm A T all s (by omega)]
  subst m;clear b d a;simp[iZ,H];intro _;refine av.intro (S:=λ(i:Nat)=>⟨[(0,.pv (.ptr 0 0)),(1,.pv (.seq false 1 (aa all))),(55,.pv (.seq false 1 (aa all))),(56,.pv (ae all.length)),(57,.pv (ae i))],[iZ A T ⟨F.seen,nK T all F i,F.many⟩]⟩) (λi=>i<=all.length) (λi=>all.length -i) 0 ?_ (RW _) ?_
  .exact af.to (by simp) (by simp[iZ,nK]) (by simp) (by simp) (by simp[aS])
  intro i hi
  by_cases h:i<all.length
  rotate_left
  .have q:i=all.length:=by omega
   subst q;simp[iZ,fZ,vm]
  have J:=dq i;have c:=BR T all F h;have hle:=zh T all F i hi;have u:=fN T (ah all[i]) ht;have E:Ib T F all[i]=(decide (0<(lk F.seen (ah all[i])).getD 0)&&decide ((dH T (ah all[i])).1.lev=T.beg.length)):=rfl;simp[h,iZ];refine ai.intro (aJ all[i]) ?_;simp;refine ez.intro (λ_=>u) ?_;simp;refine ez.intro (λ_=>jX T) ?_
  by_cases hd:0<(lk F.seen (ah all[i])).getD 0∧(dH T (ah all[i])).1.lev=T.beg.length
  .rw[RI (by rw[E];simp[hd])]at c;simp[hd];refine⟨by omega,i+1,by(try dsimp only);omega,by(try dsimp only);omega,af.to (by simp[J]) (by simp[iZ,c,aa]) (by simp) (by simp) (by simp[aS])⟩
  .rw[RH (by rw[E];simpa using hd)]at c;simp[hd];refineλ_=>⟨i+1,by(try dsimp only);omega,by(try dsimp only);omega,af.to (by simp[J]) (by simp[iZ,c]) (by simp) (by simp) (by simp[aS])⟩
 obtain⟨o,L⟩:=H;rcases d with⟨h1,e⟩|⟨j,h1,e,D⟩
 .omega
 have hj:j<all.length:=by omega
 have M:all.getD j 0=all[j]:=by rw[RG,RF hj];rfl
 have f:=D (by omega);rw[M]at f;have v:=gx T (ah all[j]) ht;have B:aR ((s.many:Int) -1)=((s.many -1:Nat):Int):=by rw[ap (by omega) (by omega)];omega
 have z:aR ((j:Int) -1)=(j:Int) -1:=ap (by omega) (by omega);have G:1000000*(all.length -k+1)+1000000<=1000000*(all.length -j+1):=by omega
 have l:=H9 A T ⟨pt s.seen (ah all[j]) 0,s.lits,s.many -1⟩ (dH T (ah all[j])).1.rea (ah all[j]) ht h0 hk I (by dsimp only;omega) (by dsimp only;omega);have hle:=K8 A T hk I s all[j];have g:dA T (ah all[j]) (aw A (dH T (ah all[j])).1.rea) ⟨pt s.seen (ah all[j]) 0,s.lits,s.many -1⟩=ox A T s all[j]:=rfl;rw[g]at l;generalize ox A T s all[j]=s' at*;simp[iZ,o,e,hj];refine ai.intro (aJ all[j]) ?_;simp[B];refine ai.intro v ?_;simp;refine aj.intro l ?_;rintro _ _ ⟨rfl,rfl⟩;simp[z];refine aj.intro (a s' j (by omega)) ?_;rintro _ _ ⟨rfl,rfl⟩;simp;refine⟨(j,s'),by(try dsimp only);omega,⟨by(try dsimp only);omega,by(try dsimp only);rw[b,f],by(try dsimp only);omega,by(try dsimp only);omega⟩,af.to (by simp) (by simp[iZ]) (by simp) (by simp) (by simp[aS])⟩
theorem BT(T:Tr)(ht:T.ok)(x:Int):am Tryz.prog 238 [ae x,.iptr 1 [[bM T]] 0 0] (λr=>r=.pv (BL (decide (0<=cu T x)))):=by
 refine aq aE Tryz.func238 ?_;have a:=fO T x ht;simp;refine ai.intro a ?_;simp
def oA(T:Tr)(lits:List Int):Bool:=!(lits.any λx=>decide (0<=cu T x))
theorem Fo(T:Tr)(lits:List Int)(ht:T.ok)(b:lits.length<=1000000):am Tryz.prog 159 [bM T,.seq false 1 (aa lits)] (λr=>r=.pv (BL (oA T lits))):=by
 refine aq aE Tryz.func159 ?_;have a:=ga lits b 238 [.iptr 1 [[bM T]] 0 0] (λx=>decide (0<=cu T x)) (λr=>by simp) rfl (λk=>by simp) (λx _=>BT T ht x);simp[bG];refine ai.intro a ?_;simp[oA]
def fR(T:Tr)(lits:List Int)(i:Nat):List Int:=((lits.take i).filter λl=>!decide (cu T l=0)).map (dO T)
theorem BU(T:Tr)(lits:List Int){i:Nat}(h:i<lits.length):fR T lits (i+1)=if cu T lits[i]=0 then fR T lits i else fR T lits i++[dO T lits[i]]:=by
 unfold fR;rw[←TT h,S5,Sb]
 by_cases c:cu T lits[i]=0
 .rw[RI c,Sz,RH (by simp[c])];simp
 .rw[RH c,Sz,RI (by simp[c])];simp
theorem zi(T:Tr)(lits:List Int)(i:Nat):(fR T lits i).length<=i:=by
 unfold fR;rw[RR];have:=Ta (λl=>!decide (cu T l=0)) (lits.take i);rw[RN]at this;omega
def Ie(T:Tr)(lits:List Int):List Int:=cT (eA (fR T lits lits.length))
def dB(T:Tr)(lits:List Int):Int:=if(Ie T lits).length<2 then 0 else(Ie T lits).getD ((Ie T lits).length -2) 0
set_option maxRecDepth 16000 in
theorem If(T:Tr)(lits:List Int)(ht:T.ok)(L:lits.length<=1000000):am Tryz.prog 98 [bM T,.seq false 1 (aa lits)] (λr=>r=.pv (ae (dB T lits))):=by
 refine aq aE Tryz.func98 ?_;simp;refine av.intro (S:=λ(i:Nat)=>⟨[(0,.pv (bM T)),(5,.own true 1 (aa (fR T lits i))),(8,.pv (.seq false 1 (aa lits))),(9,.pv (ae lits.length)),(10,.pv (ae i))],[]⟩) (λi=>i<=lits.length) (λi=>lits.length -i) 0 ?_ (RW _) ?_
 .exact(af.nilOwn (s:=5) 1 true (by simp)).trans (af.to (by simp[fR,aa]) (by simp) (by simp) (by simp) (by simp))
 intro i hi
 by_cases h:i<lits.length
 .have v:=dq i;have C:=fN T (ah lits[i]) ht;have K:=fO T lits[i] ht;have d:=BU T lits h;have hle:=zi T lits i;simp[h];refine aH.intro (λ_=>K) ?_
  by_cases c:cu T lits[i]=0
  .rw[RI c]at d;simp[c];refine⟨i+1,by(try dsimp only);omega,by(try dsimp only);omega,af.to (by simp[v,d]) (by simp) (by simp) (by simp) (by simp)⟩
  .rw[RH c]at d;simp[c];refine ai.intro (aJ lits[i]) ?_;simp;refine ai.intro C ?_;simp;refine⟨by omega,i+1,by(try dsimp only);omega,by(try dsimp only);omega,af.to (by simp[v,d,aa,dO]) (by simp) (by simp) (by simp) (by simp)⟩
 have z:i=lits.length:=by omega
 subst z;have hle:=zi T lits lits.length;have H:=Fa (fR T lits lits.length) (by omega);have n:dB T lits=if(cT (eA (fR T lits lits.length))).length<2 then 0 else(cT (eA (fR T lits lits.length))).getD ((cT (eA (fR T lits lits.length))).length -2) 0:=rfl;generalize dB T lits=B at*;have J:(eA (fR T lits lits.length)).length=(fR T lits lits.length).length:=by unfold eA;exact Tj _
 generalize fR T lits lits.length=xs at*;have F:=sQ (eA xs) (by omega);have w:=iM (eA xs) (eA xs).length;unfold MP at F;have x:aK (eA xs) (eA xs).length=cT (eA xs):=rfl;rw[x]at w;generalize eA xs=e at*;generalize cT e=a at*;simp;refine ai.introX (bC.introS (o:=.slot 5) (lo:=0) (hi:=xs.length) H (by simp) rfl rfl (by simp) (by simp) rfl (by simp;exact SK (by simp)) (bc 0 xs) (by simp) (by simp) ?_);rintro k l ⟨rfl,rfl⟩ _ _;have y:List.drop xs.length (aa xs)=[]:=Sc (by simp);simp[y];refine ai.introX (bC.introS (o:=.slot 5) (lo:=0) (hi:=e.length) F (by simp) rfl rfl (by simp) (by simp) rfl (by simp;exact SK (by simp)) (gd 0 e) (by simp) (by simp) ?_);rintro k l ⟨rfl,rfl⟩ _ _;have q:List.drop e.length (aa e)=[]:=Sc (by simp);have G:(aD (a++List.replicate (e.length -a.length) 0)).length=e.length:=by rw[gA];simp;omega
 have f:min a.length (aD (a++List.replicate (e.length -a.length) 0)).length=a.length:=by rw[G];omega
 have E:=oi a (List.replicate (e.length -a.length) 0)
 by_cases c2:a.length<2
 .rw[RI c2]at n;have g:(a.length:Int)<2:=by omega
  have j:¬2<=(a.length:Int):=by omega
  simp[q,c2,g,j,n,f]
 rw[RH c2]at n;obtain⟨m,I⟩:∃m,a.length=m+2:=⟨a.length -2,by omega⟩;have v:aR ((a.length:Int) -2)=(m:Int):=by rw[ap (by omega) (by omega)];omega
 have g:¬(a.length:Int)<2:=by omega
 have b:m<a.length:=by omega
 have p:B=a[m]:=by rw[n,I,RG,UX,RF b];rfl
 have t:(aD a)[m]?=some [ae a[m]]:=by unfold aD;rw[R3,RF b];rfl
 have D:(m:Int)<(a.length:Int):=by omega
 rw[p];clear n p;have A:=gA a;have j:2<=(a.length:Int):=by omega
 have u:∀h,(aD a)[m]'h=[ae a[m]]:=λh=>by rw[RF h]at t;exact TX t
 simp[q,c2,g,j,v,f,E,D,A,u,b]
def i7(A:Ar)(q:Int):Int:=if isA A q=true then A.row.getD q.toNat 0 else 0
theorem xh(A:Ar)(h0:A.hd≠[])(hk:lw A)(b:A.row.length<=1000000)(q:Int):am Tryz.prog 158 [lY A,ae q] (λr=>r=.pv (ae (i7 A q))):=by
 refine aq aE Tryz.func158 ?_;have hi:=Dy A h0 q;unfold i7;simp only[lY,pn]at hi;simp[lY,pn];refine ai.intro hi ?_
 by_cases c:isA A q=true
 rotate_left
 .have c':isA A q=false:=by simpa using c
  simp[c']
 obtain⟨p,n,rfl,a⟩:=hk q c;have hp:p<A.row.length:=by have:=a.len;omega
 simp[c,hp]
structure NS where
  at':List (Int×Int)
  ok:Bool
def pla(T:Tr)(l:Int):Int:=(dH T (ah l)).1.pla
def rea(T:Tr)(l:Int):Int:=(dH T (ah l)).1.rea
def vn(T:Tr)(stop:List (Int×Int))(but:Int)(s:NS)(l:Int):Bool:=decide (l=but)||aC stop l||(aC s.at' (pla T l)&&decide (0<=pla T l))
def Fp(A:Ar)(T:Tr)(l:Int):Bool:=decide (0<=cu T l)||decide (rea T l<0)||decide (i7 A (rea T l)=0)
def tf(T:Tr)(s:NS)(l:Int):NS:=⟨pt s.at' (pla T l) (aR ((lk s.at' (pla T l)).getD 0+1)),s.ok⟩
def tg(f:NS->Int->Int->NS)(A:Ar)(T:Tr)(stop:List (Int×Int))(but:Int):List Int->NS->NS
 |[],s=>s
 |l::c,s=>if vn T stop but s l=true then tg f A T stop but c s else if Fp A T l=true then⟨s.at',false⟩else tg f A T stop but c (f (tf T s l) (rea T l) (aR (-l)))
def re(A:Ar)(T:Tr)(stop:List (Int×Int)):Nat->NS->Int->Int->NS
 |0,s,_,_=>s
 |k+1,s,q,but=>tg (re A T stop k) A T stop but (aw A q) s
def th(A:Ar)(T:Tr)(stop:List (Int×Int))(s:NS):List SV:=[.pv (lY A),.pv (bM T),.omap true (a8 fI stop),.omap true (a8 fI s.at'),.pv (BL s.ok)]
theorem dZ(k:Nat)(A:Ar)(T:Tr)(stop:List (Int×Int))(s:NS):cX k (th A T stop s):=⟨⟨⟨bc k _,iw k _,trivial⟩,trivial⟩,⟨⟨og k _,bc k _,bc k _,trivial,trivial⟩,trivial⟩,iw k _,iw k _,trivial,trivial⟩
structure AheadOk (A:Ar) (T:Tr):Prop where
  tr:T.ok
  hd:A.hd≠[]
  ar:lw A
  len:A.row.length<=1000000
  ahead:∀l:Int,cu T l<0->0<=rea T l->0<=pla T l∧∀y∈aw A (rea T l),y≠aR (-l)->pla T y<pla T l
set_option maxRecDepth 16000 in
theorem K9(A:Ar)(T:Tr)(stop:List (Int×Int))(K:AheadOk A T):∀(k:Nat)(q but:Int)(s:NS),(∀y∈aw A q,y≠but->pla T y<k)->
 aB Tryz.prog 166 [.ptr 0 0,ae q,ae but] [th A T stop s] (λr h'=>h'=[th A T stop (re A T stop (k+1) s q but)]∧r=.pv (.tup [])):=by
 intro k
 induction k using Nat.strongRecOn with
 |ind k O=>
 intro q but s N;refine iK [] [] [th A T stop (re A T stop (k+1) s q but)] (by simp) (λ_=>⟨dZ _ _ _ _ _,trivial⟩) aE Tryz.func166 ?_;obtain⟨ht,h0,hk,G,p⟩:=K;have L:=jY A h0 hk G q;have X:=fQ A hk q;rw[re];generalize E:tg (re A T stop k) A T stop but (aw A q) s=F;generalize aw A q=c at*;simp[th];refine ai.intro L ?_;simp;refine av.intro (S:=λ(x:Nat×NS)=>⟨[(0,.pv (.ptr 0 0)),(2,.pv (ae but)),(15,.own true 1 (aa c)),(16,.pv (ae c.length)),(17,.pv (ae x.1))],[th A T stop x.2]⟩) (λx=>x.1<=c.length∧F=tg (re A T stop k) A T stop but (c.drop x.1) x.2) (λx=>c.length -x.1) (0,s) ?_ ⟨RW _,E.symm⟩ ?_
 .exact af.to (by simp) (by simp[th]) (by simp) (by simp) (by simp[dZ])
 clear E;rintro⟨i,s⟩ ⟨hi,d⟩;dsimp only at hi d
 by_cases h:i<c.length
 rotate_left
 .have w:i=c.length:=by omega
  subst w;rw[Sc (RJ _),tg]at d;subst d;simp[th,fZ]
 have H:=dq i;have v:c.drop i=c[i]::c.drop (i+1):=Sk h;rw[v,tg]at d;have f:=mZ T (ah c[i]) ht;have m:=gx T (ah c[i]) ht;have D:=fO T c[i] ht;have n:vn T stop but s c[i]=(decide (c[i]=but)||decide (0<(lk stop c[i]).getD 0)||(decide (0<(lk s.at' (pla T c[i])).getD 0)&&decide (0<=pla T c[i]))):=rfl;have l:Fp A T c[i]=(decide (0<=cu T c[i])||decide (rea T c[i]<0)||decide (i7 A (rea T c[i])=0)):=rfl;have B:(dH T (ah c[i])).1.pla=pla T c[i]:=rfl;have C:(dH T (ah c[i])).1.rea=rea T c[i]:=rfl;rw[B]at f;rw[C]at m;simp[h,th];refine ai.intro (aJ c[i]) ?_;simp;refine ez.intro (λ_=>f) ?_;simp;refine ez.intro (λ_=>f) ?_;simp;refine⟨λa b=>⟨⟨a,b⟩,λe=>⟨⟨a,b⟩,e⟩⟩,λhs=>?_,λI Y U=>?_⟩
 .rw[RI (by rw[n];simpa using hs)]at d;exact⟨(i+1,s),by(try dsimp only);omega,⟨by(try dsimp only);omega,d⟩,af.to (by simp[H]) (by simp[th]) (by simp) (by simp) (by simp[dZ])⟩
 have o:¬vn T stop but s c[i]=true:=by
  rw[n];simp only[S4,RQ,R0];rintro((e|e)|⟨J,W⟩)
  .exact I e
  .omega
  .have:=U J;omega
 rw[RH o]at d;refine ai.intro m ?_;simp;refine ai.intro D ?_;simp;refine aH.intro (λ_=>xh A h0 hk G _) ?_
 by_cases j:Fp A T c[i]=true
 .rw[RI j]at d;rw[l]at j;have t:(0<=cu T c[i]∨rea T c[i]<0)∨i7 A (rea T c[i])=0:=by simpa using j
  subst d;simp[t,fZ]
 rw[RH j]at d;have u:¬(0<=cu T c[i])∧¬(rea T c[i]<0)∧¬(i7 A (rea T c[i])=0):=by
  rw[l]at j;simpa[and_assoc]using j
 obtain⟨P,Q,R⟩:=u;obtain⟨Z,V⟩:=p c[i] (by omega) (by omega);have M:=N c[i] (RK h) I;simp[P,Q,R];refine⟨by omega,?_⟩;refine br.intro f ?_;simp;obtain⟨k',rfl⟩:∃k',k=k'+1:=⟨k -1,by omega⟩;have g:=O k' (by omega) (rea T c[i]) (aR (-c[i])) (tf T s c[i]) (λy hy z=>by have:=V y hy z;omega);simp only[th,tf]at g;refine aj.intro g ?_;rintro _ _ ⟨rfl,rfl⟩;simp;refine⟨(i+1,re A T stop (k'+1) (tf T s c[i]) (rea T c[i]) (aR (-c[i]))),by(try dsimp only);omega,⟨by(try dsimp only);omega,d⟩,af.to (by simp[H]) (by simp[th,tf]) (by simp) (by simp) (by simp[dZ])⟩
def cK(lits:List Int):Nat->List (Int×Int)
 |0=>[]
 |i+1=>pt (cK lits i) (lits.getD i 0) ((lk (cK lits i) (lits.getD i 0)).getD 0+1)
theorem pu(lits:List Int):∀(i:Nat)(v:Int),0<=(lk (cK lits i) v).getD 0∧(lk (cK lits i) v).getD 0<=i
 |0,v=>by simp[cK,lk]
 |i+1,v=>by
  have h:=pu lits i;rw[cK,bK];split
  .have:=h (lits.getD i 0);rw[Sm];omega
  .have:=h v;omega
theorem ti(lits:List Int)(v:Int):∀i,i<=lits.length->(aC (cK lits i) v=true↔v∈lits.take i)
 |0,_=>by simp[cK,lk,aC]
 |i+1,h=>by
  have b:=ti lits v i (by omega);have a:lits.getD i 0=lits[i]:=by rw[RG,RF (by omega)];rfl
  have hle:=pu lits i lits[i];rw[cK,a,m9,SA,RF (by omega),Ty,RS,Sp];split
  .rename_i e;subst e;have:0<(lk (cK lits i) lits[i]).getD 0+1:=by omega
   simp[this]
  .rename_i e;rw[b];exact⟨.inl,λh=>h.elim id (λh=>absurd h.symm e)⟩
def Ig(T:Tr)(at':List (Int×Int))(out:List Int)(i:Nat):Bool:=aC at' i&&!decide (rea T (T.lits.getD i 0)∈out)
def eC(T:Tr)(at':List (Int×Int)):Nat->List Int
 |0=>[]
 |i+1=>if Ig T at' (eC T at' i) i=true then eC T at' i++[rea T (T.lits.getD i 0)]else eC T at' i
theorem tm(T:Tr)(at':List (Int×Int)):∀i,(eC T at' i).length<=i
 |0=>by simp[eC]
 |i+1=>by
  have:=tm T at' i;rw[eC];split
  .simp;omega
  .omega
def lZ(A:Ar)(T:Tr)(lits:List Int)(con:Int):NS:=re A T (cK lits lits.length) (T.lits.length+1) ⟨[],true⟩ con 0
def rf(T:Tr)(at':List (Int×Int))(con:Int):List Int:=if con∈eC T at' T.lits.length then eC T at' T.lits.length else eC T at' T.lits.length++[con]
def rh(A:Ar)(T:Tr)(lits:List Int)(con:Int):List Int×Bool:=
 if i7 A con=0 then([],false)else if(lZ A T lits con).ok=false then([],false)else(rf T (lZ A T lits con).at' con,true)
set_option maxRecDepth 16000 in
theorem Ih(A:Ar)(T:Tr)(lits:List Int)(con:Int)(j:AheadOk A T)(hp:∀l,pla T l<T.lits.length)(B:lits.length<=1000000)(z:T.lits.length<=1000000):
 am Tryz.prog 94 [lY A,bM T,.seq false 1 (aa lits),ae con] (λr=>r=.pv (.tup [.seq true 1 (aa (rh A T lits con).1),BL (rh A T lits con).2])):=by
 refine am.wk (R:=λr=>∃x,r=.pv x∧bu x (.tup [.seq true 1 (aa (rh A T lits con).1),BL (rh A T lits con).2])) ?_ (λr ⟨x,e,h⟩=>⟨x,_,e,h,rfl⟩);refine mu [] [.tmp 8,.tmp 9] aE Tryz.func94 ?_;have p:=xh A j.hd j.ar j.len con;have b:=K9 A T (cK lits lits.length) j T.lits.length con 0 ⟨[],true⟩ (λy _ _=>hp y);have v:=ft T z;obtain⟨H,c⟩:∃H,rh A T lits con=H:=⟨_,rfl⟩;rw[c];unfold rh at c;have w:re A T (cK lits lits.length) (T.lits.length+1) ⟨[],true⟩ con 0=lZ A T lits con:=rfl;rw[w]at b;generalize lZ A T lits con=N at*;simp;refine aH.intro (λ_=>p) ?_
 by_cases m:i7 A con=0
 .rw[RI m]at c;subst c;simp[m,bu,bd,aa]
 rw[RH m]at c;simp[m];refine av.intro (S:=λ(i:Nat)=>⟨[(0,.pv (lY A)),(1,.pv (bM T)),(2,.pv (.seq false 1 (aa lits))),(3,.pv (ae con)),(10,.pv (.ptr 0 0)),(35,.pv (.seq false 1 (aa lits))),(36,.pv (ae lits.length)),(37,.pv (ae i))],[th A T (cK lits i) ⟨[],true⟩]⟩) (λi=>i<=lits.length) (λi=>lits.length -i) 0 ?_ (RW _) ?_
 .exact af.to (by simp) (by simp[th,cK]) (by simp) (by simp) (by simp[dZ])
 intro i hi
 by_cases h:i<lits.length
 .have o:=dq i;have n:lits.getD i 0=lits[i]:=by rw[RG,RF h];rfl
  have hle:=pu lits i lits[i];have t:aR ((lk (cK lits i) lits[i]).getD 0+1)=(lk (cK lits i) lits[i]).getD 0+1:=ap (by omega) (by omega);have a:cK lits (i+1)=pt (cK lits i) lits[i] ((lk (cK lits i) lits[i]).getD 0+1):=by rw[cK,n]
  simp[h,th];refine⟨i+1,by(try dsimp only);omega,by(try dsimp only);omega,af.to (by simp[o]) (by simp[th,a,t]) (by simp) (by simp) (by simp[dZ])⟩
 have g:i=lits.length:=by omega
 subst g;simp only[th]at b;simp[th];refine aj.intro b ?_;rintro _ _ ⟨rfl,rfl⟩;cases c1:N.ok
 .rw[RI c1]at c;subst c;simp[c1,bu,bd,aa]
 rw[RH (by simp[c1])]at c;subst c;simp[c1];refine ai.intro v ?_;simp;refine av.intro (S:=λ(i:Nat)=>⟨[(1,.pv (bM T)),(3,.pv (ae con)),(10,.pv (.ptr 0 0)),(13,.own true 1 (aa (eC T N.at' i))),(58,.own true 1 (aa T.lits)),(59,.pv (ae T.lits.length)),(60,.pv (ae i))],[th A T (cK lits lits.length) N]⟩) (λi=>i<=T.lits.length) (λi=>T.lits.length -i) 0 ?_ (RW _) ?_
 .exact(af.nilOwn (s:=13) 1 true (by simp)).trans (af.to (by simp[eC,aa]) (by simp[th,c1]) (by simp) (by simp) (by simp[dZ]))
 intro i hi;have hle:=tm T N.at' i
 by_cases h:i<T.lits.length
 .have o:=dq i;have n:T.lits.getD i 0=T.lits[i]:=by rw[RG,RF h];rfl
  have k:=gx T (ah T.lits[i]) j.tr;have q:(dH T (ah T.lits[i])).1.rea=rea T T.lits[i]:=rfl;rw[q]at k;have a:eC T N.at' (i+1)=if Ig T N.at' (eC T N.at' i) i=true then eC T N.at' i++[rea T T.lits[i]]else eC T N.at' i:=by rw[eC,n]
  have u:Ig T N.at' (eC T N.at' i) i=(decide (0<(lk N.at' (i:Int)).getD 0)&&!decide (rea T T.lits[i]∈eC T N.at' i)):=by unfold Ig;rw[n];rfl
  have f:=jr (eC T N.at' i) (rea T T.lits[i]) (by omega);simp[h,th];refine ai.intro (aJ T.lits[i]) ?_;simp;refine ai.intro k ?_;simp;refine aH.intro (λ_=>f) ?_
  by_cases d:0<(lk N.at' (i:Int)).getD 0∧¬rea T T.lits[i]∈eC T N.at' i
  .rw[RI (by rw[u];simp[d])]at a;simp[d];refine⟨by omega,i+1,by(try dsimp only);omega,by(try dsimp only);omega,af.to (by simp[o,a,aa]) (by simp[th]) (by simp) (by simp) (by simp[dZ])⟩
  .rw[RH (by rw[u];simpa using d)]at a;simp[d];refineλ_=>⟨i+1,by(try dsimp only);omega,by(try dsimp only);omega,af.to (by simp[o,a]) (by simp[th]) (by simp) (by simp) (by simp[dZ])⟩
 have g:i=T.lits.length:=by omega
 subst g;have f:=jr (eC T N.at' T.lits.length) con (by omega);unfold rf;generalize eC T N.at' T.lits.length=O at*;simp;refine ai.intro f ?_
 by_cases d:con∈O
 .simp[d,bu,bd]
 .simp[d,bu,bd,aa];omega
end Go.AX
namespace Go.AX
set_option maxRecDepth 16000
open Go.Proofs
set_option linter.unusedSimpArgs false
theorem zk(T:Tr)(out:List Int):∀i,(cJ T out i).2.1<=i∧((cJ T out i).2.1=0∨(cJ T out i).2.2<i)∧(cJ T out i).2.2<=i
 |0=>⟨RJ _,.inl rfl,RJ _⟩
 |i+1=>by
  have a:=zk T out i;rw[cJ];split
  .exact⟨by dsimp only;omega,.inr (by dsimp only;omega),by dsimp only;omega⟩
  .split
   .refine⟨by dsimp only;omega,?_,by dsimp only;omega⟩;dsimp only;rename_i c1 c2;rcases a.2.1 with e|e
    .exact .inr (by omega)
    .exact .inr (by omega)
   .exact⟨by omega,a.2.1.imp id (λe=>by omega),by omega⟩
theorem Fq(T:Tr)(lits:List Int)(ht:T.ok)(y:lits.length<=1000000):am Tryz.prog 163 [bM T,.seq false 1 (aa lits)] (λr=>r=.own true 1 (aa (HZ T lits))):=by
 refine aq aE Tryz.func163 ?_;have w:=KQ lits y;have z:=EY lits;unfold HZ HY;generalize eQ lits=out at*;simp;refine ai.intro w ?_;simp;refine av.intro (S:=λ(i:Nat)=>⟨[(0,.pv (bM T)),(5,.own true 1 (aa out)),(6,.pv (ae (cJ T out i).1)),(7,.pv (ae (cJ T out i).2.1)),(8,.pv (ae (cJ T out i).2.2)),(15,.al (.slot 5)),(16,.pv (ae out.length)),(17,.pv (ae i))],[]⟩) (λi=>i<=out.length) (λi=>out.length -i) 0 ?_ (RW _) ?_
 .exact af.to (by simp[cJ]) (by simp) (by simp) (by simp) (by simp)
 intro i hi;obtain⟨t,v,a3⟩:=zk T out i
 by_cases h:i<out.length
 .have f:=dq i;have k:out.getD i 0=out[i]:=by rw[RG,RF h];rfl
  have m:=fN T (ah out[i]) ht;have a:cJ T out (i+1)=if(cJ T out i).1<(dH T (ah out[i])).1.lev then((dH T (ah out[i])).1.lev,1,i)else if(dH T (ah out[i])).1.lev=(cJ T out i).1 then((cJ T out i).1,(cJ T out i).2.1+1,(cJ T out i).2.2)else cJ T out i:=by rw[cJ,k];rfl
  have p:=dq ((cJ T out i).2.1);simp[h];refine ai.intro (aJ out[i]) ?_;simp;refine ai.intro m ?_
  by_cases c1:(cJ T out i).1<(dH T (ah out[i])).1.lev
  .rw[RI c1]at a;simp[c1];refine⟨i+1,by(try dsimp only);omega,by(try dsimp only);omega,af.to (by simp[f,a]) (by simp) (by simp) (by simp) (by simp)⟩
  rw[RH c1]at a
  by_cases c2:(dH T (ah out[i])).1.lev=(cJ T out i).1
  .rw[RI c2]at a;simp[c1,c2];refine⟨i+1,by(try dsimp only);omega,by(try dsimp only);omega,af.to (by simp[f,a,p]) (by simp) (by simp) (by simp) (by simp)⟩
  .rw[RH c2]at a;simp[c1,c2];refine⟨i+1,by(try dsimp only);omega,by(try dsimp only);omega,af.to (by simp[f,a]) (by simp) (by simp) (by simp) (by simp)⟩
 have l:i=out.length:=by omega
 subst l;clear hi h;generalize cJ T out out.length=s at*;obtain⟨top,many,at'⟩:=s;dsimp only at t v a3⊢
 by_cases c:many=1
 rotate_left
 .have c':¬(many:Int)=1:=by omega
  simp[c,c']
 subst c;have b:at'<out.length:=by omega
 have k:out.getD at' 0=out[at']:=by rw[RG,RF b];rfl
 have f:=dq (at');simp only[RI,k];simp[b,f];have d:(out.take at'++out.drop (at'+1)++List.replicate (at'+1 -at') 0).length=out.length:=by simp;omega
 have g:out.length -(at'+1 -at')=out.length -1:=by omega
 have q:=zj Tryz.dlaA out at' (at'+1) (by omega) (by omega) (by kernel_rfl);rw[g]at q;refine ai.introX (bC.introW (ps:=.slot 5) (hi:=out.length) q d (by omega) (λe=>by rw[e]at b;simp at b) (by simp) rfl rfl (by simp) (by simp) rfl (by simp) (by simp) ?_);have n:(out.take at'++out.drop (at'+1)).length=out.length -1:=by simp;omega
 have o:(out.take at'++out.drop (at'+1)++List.replicate (at'+1 -at') 0).take (out.length -1)=out.eraseIdx at':=by
  rw[TU n,List.eraseIdx_eq_take_drop_succ]
 have j:(out.take at'++out.drop (at'+1)++List.replicate (at'+1 -at') 0).drop (out.length -1+1)=[]:=Sc (by rw[d];omega);generalize out.take at'++out.drop (at'+1)++List.replicate (at'+1 -at') 0=dl at*;generalize out[at']=u at*;simp;refine ai.introX (bC.introI (ps:=.slot 5) (py:=.slot 51) (hi:=out.length -1) (zs:=dl) (x:=u) Tryz.insA (by kernel_rfl) (by simp) rfl rfl (by simp) (by simp) (by simp) (by simp) (by simp) (by simp) rfl (by decide) rfl (by omega) ?_);rw[o,j];simp;exact SK (by rw[gA,Sa,List.length_eraseIdx_of_lt b];omega)
def M7(A:Ar)(T:Tr):List SV:=[.pv (lY A),.pv (bM T),.omap true (a8 fI []),.pv (.lit (.slice none 0 0)),.pv (ae 0)]
theorem Fs(A:Ar)(T:Tr)(q but:Int)(ht:T.ok)(h0:A.hd≠[])(hk:lw A)(m:A.row.length<=1000000):
 aB Tryz.prog 161 [.ptr 0 0,ae q,ae but] [M7 A T] (λr h'=>h'=[iZ A T (dA T but (aw A q) ⟨[],[],0⟩)]∧r=.pv (.tup [])):=by
 obtain⟨p,hp⟩:∃p:PS,p=⟨[],[],0⟩:=⟨_,rfl⟩;rw[←hp];have o:p.many=0:=by rw[hp]
 have n:p.lits.length=0:=by rw[hp];rfl
 refine iK [] [] [iZ A T (dA T but (aw A q) p)] (by simp) (λ_=>⟨aS _ _ _ _,trivial⟩) aE Tryz.func161 ?_;have l:=jY A h0 hk m q;have t:=fQ A hk q;generalize aw A q=c at*;simp[M7];refine ai.intro l ?_;simp;refine av.intro (S:=λ(i:Nat)=>⟨[(0,.pv (.ptr 0 0)),(2,.pv (ae but)),(6,.pv (.fn (.func 170) [bM T] [])),(20,.own true 1 (aa c)),(21,.pv (ae c.length)),(22,.pv (ae i))],[iZ A T (dA T but (c.take i) p)]⟩) (λi=>i<=c.length) (λi=>c.length -i) 0 ?_ (RW _) ?_
 .exact(af.nilCell (b:=0) (k:=3) (xs:=M7 A T) 1 true (by simp[M7]) (by simp[M7])).trans (af.to (by simp) (by simp[iZ,M7,dA,hp,aa]) (by simp) (by simp) (by simp[aS]))
 intro i hi
 by_cases h:i<c.length
 rotate_left
 .have g:i=c.length:=by omega
  subst g;simp[iZ,fZ]
 have f:=dq i;have hs:=te T but c p h;have hle:=j0 T but (c.take i) p;rw[RN]at hle;generalize dA T but (c.take i) p=s at*;have d:=fN T (ah c[i]) ht;simp[h,iZ];refine ai.intro (aJ c[i]) ?_;simp;refine aH.intro (λ_=>d) ?_
 by_cases c1:ah c[i]=but
 .have hd:takeF T but s c[i]=s:=by unfold takeF;rw[RI (.inl c1)]
  simp[c1];refine⟨i+1,by(try dsimp only);omega,by(try dsimp only);omega,af.to (by simp[f]) (by simp[iZ,hs,hd]) (by simp) (by simp) (by simp[aS])⟩
 by_cases c2:0<(lk s.seen (ah c[i])).getD 0
 .have hd:takeF T but s c[i]=s:=by unfold takeF;rw[RI (.inr (.inl (by simpa[aC]using c2)))]
  simp[c1,c2];refine⟨i+1,by(try dsimp only);omega,by(try dsimp only);omega,af.to (by simp[f]) (by simp[iZ,hs,hd]) (by simp) (by simp) (by simp[aS])⟩
 have a:(lk s.seen (ah c[i])).getD 0<=0:=by omega
 by_cases c3:(dH T (ah c[i])).1.lev<=0
 .have hd:takeF T but s c[i]=s:=by unfold takeF;rw[RI (.inr (.inr c3))]
  simp[c1,c2,a,c3];refine⟨i+1,by(try dsimp only);omega,by(try dsimp only);omega,af.to (by simp[f]) (by simp[iZ,hs,hd]) (by simp) (by simp) (by simp[aS])⟩
 have hd:takeF T but s c[i]=if(dH T (ah c[i])).1.lev=T.beg.length then⟨pt s.seen (ah c[i]) 1,s.lits,s.many+1⟩else⟨pt s.seen (ah c[i]) 1,s.lits++[c[i]],s.many⟩:=by
  unfold takeF;rw[RH]
  .rfl
  rintro(e|e|e)
  .exact c1 e
  .exact c2 (by simpa[aC]using e)
  .exact c3 e
 simp[c1,c2,a,c3];refine br.intro d ?_;simp;refine br.intro (jX T) ?_
 by_cases c4:(dH T (ah c[i])).1.lev=T.beg.length
 .rw[RI c4]at hd;have j:=dq s.many;simp[c4];refine⟨i+1,by(try dsimp only);omega,by(try dsimp only);omega,af.to (by simp[f]) (by simp[iZ,hs,hd,j]) (by simp) (by simp) (by simp[aS])⟩
 .rw[RH c4]at hd;simp[c4];refine⟨by omega,i+1,by(try dsimp only);omega,by(try dsimp only);omega,af.to (by simp[f]) (by simp[iZ,hs,hd,aa]) (by simp) (by simp) (by simp[aS])⟩
def lA(A:Ar)(T:Tr)(con:Int):Int:=if i7 A con=0 then 20 else if oA T (aw A con)=false then 30 else 0
def qj(A:Ar)(T:Tr)(con:Int):List Int:=if lA A T con=0 then dz A T con else[]
end Go.AX
namespace Go.AX
open Go.Proofs
set_option linter.unusedSimpArgs false
structure DeskI (cs:List (List Int)) (ats:List Int) (D:DK):Prop extends DeskT cs ats D where
  id:∀x∈D.a.rows,1<=x.id
/-! ### What was gathered -/
structure NI (D:DK) (L:List Int) (s:NS):Prop where
  val:∀p,0<=(lk s.at' p).getD 0
  mem:∀p,aC s.at' p=true->∃j,∃hj:j<D.t.rows.length,p=(j:Int)∧0<=D.t.rows[j].rea∧-D.t.rows[j].l∉L
def Met(D:DK)(L:List Int)(s:NS)(y:Int):Prop:=y∈L∨∃j,∃hj:j<D.t.rows.length,D.t.rows[j].l=-y∧aC s.at' j=true
structure Post (D:DK) (L:List Int) (s s':NS) (c:List Int) (but:Int):Prop where
  ni:NI D L s'
  mono:∀p,aC s.at' p=true->aC s'.at' p=true
  all:s'.ok=true->s.ok=true∧(∀y∈c,y≠but->Met D L s' y)∧∀j (hj:j<D.t.rows.length),aC s'.at' j=true->aC s.at' j=false->∀y∈aw D.A D.t.rows[j].rea,y≠D.t.rows[j].l->Met D L s' y
  ok:(∀y∈c,y≠but->HOk D.A D.T L y)->s'.ok=s.ok
theorem Met.mono{D:DK}{L:List Int}{s s':NS}{y:Int}(h:Met D L s y)(c:∀p,aC s.at' p=true->aC s'.at' p=true):Met D L s' y:=
 h.imp id λ⟨j,hj,a,b⟩=>⟨j,hj,a,c _ b⟩
def fk(l:List Int):List (List Int)->Nat->List Int×Nat×Int
 |[],n=>(l,n,23)
 |h::hs,n=>if pS l h=-1 then(l,n+1,0)else if(bD l h).2=true then fk (l++[(bD l h).1]) hs (n+1)else([],n,22)
def jy(c:List Int):Nat->List Int
 |0=>[]
 |i+1=>if c.getD i 0∈c.take i then jy c i else jy c i++[aR (-(c.getD i 0))]
theorem vo(c:List Int)(x:Int):∀i,i<=c.length->(x∈jy c i↔∃y∈c.take i,x=aR (-y))
 |0,_=>by simp[jy]
 |i+1,h=>by
  have b:=vo c x i (by omega);have d:c.getD i 0=c[i]:=by rw[RG,RF (by omega)];rfl
  have ht:c.take (i+1)=c.take i++[c[i]]:=(TT (by omega)).symm;rw[jy,d,ht]
  by_cases e:c[i]∈c.take i
  .rw[RI e,b];constructor
   .rintro⟨y,hy,a⟩;exact⟨y,SX _ hy,a⟩
   .rintro⟨y,hy,a⟩;rcases RS.1 hy with hy|hy
    .exact⟨y,hy,a⟩
    .simp at hy;subst hy;exact⟨_,e,a⟩
  .rw[RH e,RS,b,Sp];constructor
   .rintro(⟨y,hy,a⟩|a)
    .exact⟨y,SX _ hy,a⟩
    .exact⟨_,TV _ (Sp.2 rfl),a⟩
   .rintro⟨y,hy,a⟩;rcases RS.1 hy with hy|hy
    .exact .inl ⟨y,hy,a⟩
    .simp at hy;subst hy;exact .inr a
def gm(c:List Int):List Int:=jy c c.length
theorem pw(c:List Int)(x:Int):x∈gm c↔∃y∈c,x=aR (-y):=by
 have:=vo c x c.length (RJ _)
 rwa [R8]at this
def AllNeg(D:DK)(L:List Int):Prop:=∀y∈L,ax y 6=0∧∃j,∃hj:j<D.t.rows.length,D.t.rows[j].l=-y
def rj(D:DK)(j:Nat):Int:=rea D.T (D.T.lits.getD j 0)
theorem gB{t:RT}{j:Nat}(hj:j<t.rows.length):t.rows[j].l∈dR t:=RO.2 ⟨_,RK hj,rfl⟩
def Ft(s:NS)(i:Nat):List Nat:=(List.range i).filter λj=>aC s.at' j
theorem Ii(s:NS)(i:Nat):Ft s (i+1)=if aC s.at' i=true then Ft s i++[i]else Ft s i:=by
 unfold Ft;rw[Uq,S5]
 by_cases c:aC s.at' i=true
 .rw[RI c,Sz,RI c];rfl
 .rw[RH c,Sz,RH c];simp
theorem xi(s:NS)(i j:Nat):j∈Ft s i↔j<i∧aC s.at' j=true:=by
 unfold Ft;rw[SD,SY]
structure CInv (D:DK) (L:List Int) (s:NS) (l:List Int) (js:List Nat):Prop where
  sub:∀x∈l,x∈dR D.t
  neg:∀y∈L,-y∈l
  don:∀j (hj:j<D.t.rows.length),aC s.at' j=true->j∉js->D.t.rows[j].l∈l
  todo:∀j∈js,∃hj:j<D.t.rows.length,aC s.at' j=true∧D.t.rows[j].l∉l
  inc:js.Pairwise (·<·)
end Go.AX
namespace Go.AX
set_option maxRecDepth 16000
open Go.Proofs
set_option linter.unusedSimpArgs false
def Fu(l h:List Int):List Int×Bool×Int:=if pS l h=-1 then(l,true,0)else if(bD l h).2=true then(l++[(bD l h).1],false,0)else([],false,22)
theorem zm(g:List (List SV))(l h:List Int)(b:l.length<=1000000)(a:h.length<=1000000):aB Tryz.prog 327 [.seq false 1 (aa l),.seq false 1 (aa h)] g (λr g'=>g'=g∧r=.pv (.tup [.seq false 1 (aa (Fu l h).1),BL (Fu l h).2.1,ae (Fu l h).2.2])):=by
 refine dV [] [.tmp 4,.tmp 5,.tmp 6] aE Tryz.func327 ?_;have c:=lu l h b a;have d:=ot l h b a;unfold Fu;simp;refine ai.intro c ?_
 by_cases c1:pS l h=-1
 .simp[c1,bu,bd]
 simp[c1];refine ai.intro d ?_;cases c2:(bD l h).2
 .simp[c2,bu,bd,aa]
 .simp[c2,bu,bd,aa];omega
theorem zn(hs:List (List Int)){i:Nat}(h:i<hs.length):∀h',(hs.map an)[i]'h'=[.seq false 1 (aa hs[i])]:=λh'=>by simp[an]
theorem lB(g:List (List SV))(l:List Int)(hs:List (List Int))(p:l.length+hs.length<=1000000)(o:∀h∈hs,h.length<=1000000):aB Tryz.prog 309 [.seq false 1 (aa l),.seq false 1 (hs.map an)] g (λr g'=>g'=g∧r=.pv (.tup [.seq false 1 (aa (fk l hs 0).1),ae (fk l hs 0).2.1,ae (fk l hs 0).2.2])):=by
 refine dV [] [.tmp 4,.tmp 5,.tmp 6] aE Tryz.func309 ?_;generalize a:fk l hs 0=F;simp;refine av.intro (S:=λ(x:Nat×List Int)=>⟨[(0,.pv (.seq false 1 (aa x.2))),(1,.pv (.seq false 1 (hs.map an))),(7,.pv (ae x.1))],g⟩) (λx=>x.1<=hs.length∧x.2.length<=l.length+x.1∧F=fk x.2 (hs.drop x.1) x.1) (λx=>hs.length -x.1) (0,l) ?_ ⟨RW _,RJ _,a.symm⟩ ?_
 .exact af.keep (by simp) (by simp)
 clear a;rintro⟨i,b⟩ ⟨hi,k,a⟩;dsimp only at hi k a
 by_cases h:i<hs.length
 rotate_left
 .have j:i=hs.length:=by omega
  subst j;rw[Sc (RJ _),fk]at a;subst a;simp[bu,bd]
 have n:=dq i;have f:hs.drop i=hs[i]::hs.drop (i+1):=Sk h;rw[f,fk]at a;have m:=λg=>zm g b hs[i] (by omega) (o _ (RK h));have e:=zn hs h;generalize hs[i]=c at*;have d:Fu b c=if pS b c=-1 then(b,true,0)else if(bD b c).2=true then(b++[(bD b c).1],false,0)else([],false,22):=rfl;generalize Fu b c=s at*;simp[h,e];refine ai.introM (m _) ?_;rintro _ _ ⟨rfl,rfl⟩
 by_cases c1:pS b c=-1
 .rw[RI c1]at a d;subst a d;simp[bu,bd,n]
 rw[RH c1]at a d
 by_cases c2:(bD b c).2=true
 .rw[RI c2]at a d;subst d;simp;refine⟨(i+1,b++[(bD b c).1]),by(try dsimp only);omega,⟨by(try dsimp only);omega,by simp;omega,a⟩,af.keep (by simp[n]) (by simp)⟩
 .rw[RH c2]at a d;subst a d;simp[bu,bd,aa]
def Ij(c:List Int):Bool:=c.any λx=>decide (aW x<0)
def l3(c:List Int):Int:=if Ij c=true then 10 else if fl c=true then 11 else 0
def Fv(c:List Int):List Int:=if l3 c=0 then gm c else[]
theorem px(c:List Int):∀i,(jy c i).length<=i
 |0=>RJ _
 |i+1=>by
  have:=px c i;rw[jy];split
  .omega
  .simp;omega
theorem pz(c:List Int)(q:c.length<=1000000):am Tryz.prog 308 [.seq false 1 (aa c)] (λr=>r=.pv (.tup [.seq true 1 (aa (Fv c)),ae (l3 c)])):=by
 refine am.wk (R:=λr=>∃x,r=.pv x∧bu x (.tup [.seq true 1 (aa (Fv c)),ae (l3 c)])) ?_ (λr ⟨x,e,h⟩=>⟨x,_,e,h,rfl⟩);refine mu [] [.tmp 2,.tmp 3] aE Tryz.func308 ?_;have b:l3 c=if Ij c=true then 10 else if fl c=true then 11 else 0:=rfl;have f:Fv c=if l3 c=0 then gm c else[]:=rfl;have n:=oh c q;generalize Fv c=R at*;generalize l3 c=E at*;simp;refine av.intro (S:=λ(i:Nat)=>⟨[(0,.pv (.seq false 1 (aa c))),(4,.pv (ae i))],[]⟩) (λi=>i<=c.length∧∀j (h:j<c.length),j<i->0<=aW c[j]) (λi=>c.length -i) 0 ?_ ⟨RW _,λj _ h=>by omega⟩ ?_
 .exact af.to (by simp) (by simp) (by simp) (by simp) (by simp)
 rintro i ⟨hi,ho⟩
 by_cases h:i<c.length
 .have k:=dq i;simp[h];refine ai.intro (dP c[i]) ?_
  by_cases c1:aW c[i]<0
  .have g:Ij c=true:=Tm.2 ⟨_,RK h,by simpa using c1⟩;rw[RI g]at b;subst b;rw[RH (by omega)]at f;subst f;simp[c1,bu,bd,aa]
  .simp[c1];refine⟨i+1,by(try dsimp only);omega,⟨by(try dsimp only);omega,λj hj p=>?_⟩,af.to (by simp[k]) (by simp) (by simp) (by simp) (by simp)⟩
   by_cases e:j=i
   .subst e;omega
   .exact ho j hj (by omega)
 have d:i=c.length:=by omega
 subst d;have g:Ij c=false:=Tv.2 λx hx=>by
  obtain⟨j,hj,rfl⟩:=RU hx;have:=ho j hj hj;simp;omega
 rw[RH (by simp[g])]at b;clear ho g hi h;simp;refine ai.intro n ?_;cases c2:fl c
 rotate_left
 .rw[RI c2]at b;subst b;rw[RH (by omega)]at f;subst f;simp[bu,bd,aa]
 rw[RH (by simp[c2])]at b;subst b;rw[RI rfl]at f;subst f;simp;refine av.intro (S:=λ(i:Nat)=>⟨[(0,.pv (.seq false 1 (aa c))),(5,.own true 1 (aa (jy c i))),(6,.pv (ae i))],[]⟩) (λi=>i<=c.length) (λi=>c.length -i) 0 ?_ (RW _) ?_
 .exact(af.nilOwn (s:=5) 1 true (by simp)).trans (af.to (by simp[jy,aa]) (by simp) (by simp) (by simp) (by simp))
 intro i hi;have hle:=px c i
 by_cases h:i<c.length
 rotate_left
 .have d:i=c.length:=by omega
  subst d;simp[bu,bd,gm]
 have k:=dq i;have o:c.getD i 0=c[i]:=by rw[RG,RF h];rfl
 have a:jy c (i+1)=if c[i]∈c.take i then jy c i else jy c i++[aR (-c[i])]:=by rw[jy,o]
 have m:=jR (c.take i) c[i] (by simp;omega);have l:(aa c).take i=aa (c.take i):=by unfold aa;rw[TR]
 simp[h,l];refine⟨by omega,?_⟩;refine br.intro m ?_
 by_cases c3:c[i]∈c.take i
 .rw[RI c3]at a;simp[c3];refine⟨i+1,by(try dsimp only);omega,by(try dsimp only);omega,af.to (by simp[k,a]) (by simp) (by simp) (by simp) (by simp)⟩
 .rw[RH c3]at a;simp[c3,h];refine⟨by omega,i+1,by(try dsimp only);omega,by(try dsimp only);omega,af.to (by simp[k,a,aa]) (by simp) (by simp) (by simp) (by simp)⟩
def rk(c:List Int)(hs:List (List Int)):Nat×Int:=if l3 c=0 then((fk (gm c) hs 0).2.1,(fk (gm c) hs 0).2.2)else(0,l3 c)
theorem zo(c:List Int)(hs:List (List Int))(f:c.length+hs.length<=1000000)(e:∀h∈hs,h.length<=1000000):am Tryz.prog 260 [.seq false 1 (aa c),.seq false 1 (hs.map an)] (λr=>r=.pv (.tup [ae (rk c hs).1,ae (rk c hs).2])):=by
 refine iG [4,5] aE Tryz.func260 (λ_ _=>results_tmp2 rfl _ _ _) ?_;have d:=pz c (by omega);have hle:=px c c.length;have b:=λg=>lB g (gm c) hs (by unfold gm;omega) e;unfold rk;have a:Fv c=if l3 c=0 then gm c else[]:=rfl;simp;refine ai.intro d ?_
 by_cases c1:l3 c=0
 .rw[RI c1]at a;rw[a];simp[c1];refine ai.introM (b _) ?_;rintro _ _ ⟨rfl,rfl⟩;simp
 .simp[c1]
end Go.AX
namespace Go.AX
open Go.Proofs
set_option linter.unusedSimpArgs false
def La(l:List Int)(x:Int):Int:=if x∈l then 1 else if aR (-x)∈l then-1 else 0
theorem xj(l:List Int)(x:Int):(0<(lk (cK l l.length) x).getD 0)=(x∈l):=by
 have:=ti l x l.length (RJ _);rw[R8]at this;unfold aC at this;rw[R0]at this;exact propext this
def BV(n:Nat):PV:=.fn (.func 200) [] [.ptr n 0]
theorem BW(l:List Int)(x:Int):am Tryz.prog 200 [ae x,.iptr 1 [[.amap false (a8 fI (cK l l.length))]] 0 0] (λr=>r=.pv (ae (La l x))):=by
 refine aq aE Tryz.func200 ?_;unfold La
 by_cases c1:x∈l
 .simp[xj,c1]
 .by_cases c2:aR (-x)∈l
  .simp[xj,c1,c2]
  .simp[xj,c1,c2]
set_option maxRecDepth 16000 in
theorem Fw(h:List (List SV))(l:List Int)(g:l.length<=1000000):aB Tryz.prog 120 [.seq false 1 (aa l)] h (λr h'=>h'=h++[[.omap true (a8 fI (cK l l.length))]]∧r=.pv (BV h.length)):=by
 refine aB.below (by kernel_rfl) λf=>?_;refine cR [] [.tmp 2] aE Tryz.func120 ?_;simp;refine av.intro (S:=λ(i:Nat)=>⟨[(3,.pv (.ptr h.length 0)),(9,.pv (.seq false 1 (aa l))),(10,.pv (ae l.length)),(11,.pv (ae i))],h++[[.omap true (a8 fI (cK l i))]]⟩) (λi=>i<=l.length) (λi=>l.length -i) 0 ?_ (RW _) ?_
 .exact af.keep (by simp) (by simp[cK])
 intro i hi
 by_cases c:i<l.length
 .have d:=dq i;have b:l.getD i 0=l[i]:=by simp[c]
  have hs:cK l (i+1)=pt (cK l i) l[i] ((lk (cK l i) l[i]).getD 0+1):=by rw[cK,b]
  have e:=pu l i l[i];have a:aR ((lk (cK l i) l[i]).getD 0+1)=(lk (cK l i) l[i]).getD 0+1:=ap (by omega) (by omega);simp[c];exact⟨i+1,by(try dsimp only);omega,by(try dsimp only);omega,af.keep (by simp[d]) (by simp[a,hs])⟩
 .have:i=l.length:=by omega
  subst this;simp[BV]
def lE(T:Tr):Tr:=⟨T.marks.set (ah (T.lits.getD (T.lits.length -1) 0)).toNat ⟨0,0,0,0⟩,T.lits.take (T.lits.length -1),T.beg⟩
def popN(T:Tr):Nat->Tr
 |0=>T
 |j+1=>lE (popN T j)
def bz(T:Tr)(k:Nat):Tr:=⟨(popN T (T.lits.length -(T.beg.getD k 0).toNat)).marks,(popN T (T.lits.length -(T.beg.getD k 0).toNat)).lits,T.beg.take k⟩
set_option maxRecDepth 16000 in
theorem Cj(h:List (List SV))(n b:Nat)(T:Tr)(hn:h[n]?=some [.pv (.ptr b 0)])(s:h[b]?=some (gv T))(h0:T.lits≠[])(hs:T.lits.length<=1000000)(D:∀y∈T.lits,0<=ah y∧ah y<T.marks.length):
 aB Tryz.prog 265 [.ptr n 0] h (λr h'=>h'=h.set b (gv (lE T))∧r=.pv (ae (T.lits.getD (T.lits.length -1) 0))):=by
 refine iK [] [.tmp 1] (h.set b (gv (lE T))) (by simp) (λd=>by rw[Sg];exact dQ (iL _ _) b d) aE Tryz.func265 ?_;obtain⟨p,k⟩:=RE.1 s;obtain⟨g,q⟩:=RE.1 hn;obtain⟨m,B⟩:∃m,T.lits.length=m+1:=⟨T.lits.length -1,by have:=To.2 h0;omega⟩;have a:m<T.lits.length:=by omega
 have C:aR ((T.lits.length:Int) -1)=(m:Int):=by rw[ap (by omega) (by omega)];omega
 have A:T.lits.getD (T.lits.length -1) 0=T.lits[m]:=by rw[B,UX,RG,RF a];rfl
 rw[A];have w:n≠b:=λe=>by subst e;rw[hn]at s;simp[gv]at s
 have t:∀x,(h.set b x)[n]?=some [.pv (.ptr b 0)]:=λx=>by rw[RY (UU w)];exact hn
 have c:∀x d,(h.set b x)[n]'d=[.pv (.ptr b 0)]:=λx d=>by have:=t x;rw[RF d]at this;exact TX this
 have l:∀x d,(h.set b x)[b]'d=x:=λx d=>by simp
 obtain⟨E,F⟩:=D _ (RK a);have j:=aJ T.lits[m];obtain⟨i,hi⟩:∃i:Nat,ah T.lits[m]=(i:Int):=⟨(ah T.lits[m]).toNat,by omega⟩;have u:i<T.marks.length:=by omega
 have v:(T.marks.map pR).set i [ae 0,ae 0,ae 0,ae 0]=(T.marks.set i ⟨0,0,0,0⟩).map pR:=by rw[Wg];rfl
 have f:(aa T.lits).take m=aa (T.lits.take m):=by unfold aa;rw[TR]
 have z:lE T=⟨T.marks.set i ⟨0,0,0,0⟩,T.lits.take m,T.beg⟩:=by unfold lE;rw[A,hi,SQ,B,UX]
 have o:m<=T.lits.length:=by omega
 rw[z];rw[hi]at j;simp[k,q,p,g,gv,C,c,l,a,o,f];refine br.intro j ?_;simp[k,q,p,g,gv,C,c,l,a,o,f,u,v];rw[SK (by simp)];simp[pR]
theorem FN(h:List (List SV))(b:Nat):
 aB Tryz.prog 211 [.ptr b 0] h (λr h'=>h'=h++[[.pv (.ptr b 0)]]∧r=.pv (.fn (.func 265) [] [.ptr h.length 0])):=by
 refine cR [] [.tmp 2] aE Tryz.func211 ?_;simp
theorem tJ(T:Tr):∀j,(popN T j).beg=T.beg
 |0=>rfl
 |j+1=>tJ T j
theorem DO(T:Tr):∀j,(popN T j).marks.length=T.marks.length
 |0=>rfl
 |j+1=>by rw[popN];unfold lE;rw[Sg];exact DO T j
theorem eh(T:Tr):∀j,(popN T j).lits=T.lits.take (T.lits.length -j)
 |0=>by rw[popN,VY,R8]
 |j+1=>by
  rw[popN];unfold lE;simp only;rw[eh T j,Wl,RN,show min (min (T.lits.length -j) T.lits.length -1) (T.lits.length -j)=T.lits.length -(j+1) by omega]
def tL(T:Tr):Nat->List Int
 |0=>[]
 |j+1=>tL T j++[(popN T j).lits.getD ((popN T j).lits.length -1) 0]
theorem tM(T:Tr):∀j,(tL T j).length=j
 |0=>rfl
 |j+1=>by rw[tL,RP,tM T j];rfl
/-! ### Levels, in order, each once -/
theorem z6{zs:List Int}(hs:zs.Pairwise (·<=·)):∀j,j<=zs.length->(aK zs j).Pairwise (·<·)∧∀x,x∈aK zs j↔x∈zs.take j
 |0,_=>⟨by simp[aK],λx=>by simp[aK]⟩
 |j+1,h=>by
  obtain⟨h1,b⟩:=z6 hs j (by omega);have f:zs.getD j 0=zs[j]:=by simp[show j<zs.length by omega]
  rw[aK,f,SA,RF (by omega),Ty];have hp:=Sl.1 hs
  by_cases d:j=0∨zs[j]≠zs.getD (j -1) 0
  .rw[RI d];refine⟨Uv.2 ⟨h1,by simp,λy hy z hz=>?_⟩,λx=>by rw[RS,RS,b]⟩;rw[Sp]at hz;subst hz;obtain⟨k,hk,rfl⟩:=RU ((b y).1 hy);rw[RN]at hk;rw[S7];rcases d with rfl|d
   .omega
   .have a:zs.getD (j -1) 0=zs[j -1]:=by simp[show j -1<zs.length by omega]
    rw[a]at d;have i:zs[k]<=zs[j -1]:=by
     by_cases e:k=j -1
     .subst e;exact T8 _
     .exact hp k (j -1) (by omega) (by omega) (by omega)
    have l:zs[j -1]<=zs[j]:=hp (j -1) j (by omega) (by omega) (by omega);omega
  .rw[RH d];refine⟨h1,λx=>?_⟩;rw[b,RS,Sp];refine⟨.inl,λhx=>hx.elim id λe=>?_⟩;have hj:j≠0:=λe=>d (.inl e);have a:zs.getD (j -1) 0=zs[j -1]:=by simp[show j -1<zs.length by omega]
   have c:zs[j]=zs[j -1]:=R6 λg=>d (.inr (by rw[a];exact g));rw[e,c];exact SS.2 ⟨j -1,by omega,rfl⟩
theorem z7(l:List Int):(cT (eA l)).Pairwise (·<·)∧∀x,x∈cT (eA l)↔x∈l:=by
 obtain⟨h1,a⟩:=z6 (xd l) (eA l).length (RJ _);refine⟨h1,λx=>?_⟩;rw[R8]at a;refine(a x).trans ?_;unfold eA;exact(UB _ _).mem_iff
theorem D5{T:Tr}{L:List Int}{u:Int}{r:List Int}(e:L=u::r)(w:∀y∈L,cu T y≠0)(hp:∀y∈L,0<dO T y)(m:∀y∈r,dO T y<dO T u):
 0<=dB T L∧dB T L<dO T u∧∀y∈r,dO T y<=dB T L:=by
 have h:fR T L L.length=L.map (dO T):=by
  unfold fR;rw[R8,TG.2 (λy hy=>by simpa using w y hy)]
 obtain⟨h1,b⟩:=z7 (L.map (dO T));unfold dB Ie;rw[h];have t:dO T u∈cT (eA (L.map (dO T))):=(b _).2 (RO.2 ⟨u,by rw[e];exact R2,rfl⟩);have p:∀y∈r,dO T y∈cT (eA (L.map (dO T))):=λy hy=>(b _).2 (RO.2 ⟨y,by rw[e];exact RZ _ hy,rfl⟩);have o:∀x∈cT (eA (L.map (dO T))),0<x∧x<=dO T u:=λx hx=>by
  obtain⟨y,hy,rfl⟩:=RO.1 ((b x).1 hx);refine⟨hp y hy,?_⟩;rw[e]at hy;rcases R9.1 hy with rfl|hy
  .exact T8 _
  .have:=m y hy;omega
 generalize cT (eA (L.map (dO T)))=C at*;have a:=Sl.1 h1;obtain⟨i,hi,v⟩:=RU t;have f:i=C.length -1:=by
  refine R6 λk=>?_;have:=a i (C.length -1) hi (by omega) (by omega);have:=(o _ (RK (show C.length -1<C.length by omega))).2;omega
 have l:=hp u (by rw[e];exact R2);split
 .rename_i g;refine⟨T8 _,l,λy hy=>?_⟩;obtain⟨j,hj,n⟩:=RU (p y hy);have d:j=i:=by omega
  subst d;have:=m y hy;omega
 .rename_i g;have c:C.getD (C.length -2) 0=C[C.length -2]:=by rw[RG,RF (by omega)];rfl
  rw[c];have s:=o _ (RK (show C.length -2<C.length by omega));refine⟨by omega,?_,λy hy=>?_⟩
  .have:=a (C.length -2) i (by omega) hi (by omega);omega
  .obtain⟨j,hj,n⟩:=RU (p y hy);have k:j≠i:=λe=>by subst e;have:=m y hy;omega
   by_cases q:j=C.length -2
   .subst q;omega
   .have:=a j (C.length -2) hj (by omega) (by omega);omega
/-! ### Where levels begin -/
/-! ### Back -/
/-! ### What is left stands for what was there -/
theorem FY{A:Ar}{T:Tr}{R S:List Int}(h:∀x∈R,HOk A T S x){y:Int}(hy:HOk A T R y):HOk A T S y:=by
 induction hy with
 |stop d=>exact h _ d
 |why a b c _ e=>exact .why a b c e
theorem Ly(A:Ar)(T:Tr)(L:List Int):(qh A T L).Sublist L:=HW A T L
theorem Jr(A:Ar)(T:Tr)(u:Int)(r:List Int):∃a,qh A T (u::r)=u::a∧∀y∈a,y∈r:=by
 refine⟨bk (gR A T (u::r)) r,by unfold qh;rfl,λy hy=>?_⟩;unfold bk at hy;exact(SD.1 hy).1
theorem back_mem{T:Tr}{L:List Int}{u:Int}{r:List Int}(e:L=u::r)(d:∀y∈L,cu T y≠0)(hp:∀y∈L,0<dO T y)(h:∀y∈r,dO T y<dO T u):
 dB T L=0∨∃y∈r,dB T L=dO T y:=by
 obtain⟨_,b1,_⟩:=D5 e d hp h;have b:fR T L L.length=L.map (dO T):=by
  unfold fR;rw[R8,TG.2 (λy hy=>by simpa using d y hy)]
 obtain⟨_,g⟩:=z7 (L.map (dO T));unfold dB Ie at b1⊢;rw[b]at b1⊢;split at b1
 .rename_i c;rw[RI c];exact .inl rfl
 .rename_i c;rw[RH c];right;generalize i:cT (eA (L.map (dO T)))=C at*;have a:C.getD (C.length -2) 0=C[C.length -2]:=by rw[RG,RF (by omega)];rfl
  rw[a]at b1⊢;obtain⟨y,hy,f⟩:=RO.1 ((g _).1 (RK (show C.length -2<C.length by omega)));refine⟨y,?_,f.symm⟩;rw[e]at hy;rcases R9.1 hy with rfl|hy
  .omega
  .exact hy
/-! ### What is shown holds -/
theorem lG{m:List Bool}{x:Int}(h:gY m x=true):cF x=true∧0<=aW x:=by
 have hk:cF x=true:=by
  rw[aY];unfold gY at h;simp only[RQ,R0]at h;have h1:=h.1;unfold cQ at h1;split at h1
  .omega
  .split at h1
   .omega
   .exact absurd rfl h1
 refine⟨hk,?_⟩;have:=(aY x).1 hk;unfold aW dr;rw[RI hk];split<;>omega
theorem Ab{m:List Bool}{x:Int}(h:gY m x=true):gY m (-x)=false:=by
 obtain⟨hk,_⟩:=lG h;have b:=(aY x).1 hk;unfold gY cQ at*
 by_cases c:0<x
 .rw[RI (by omega)]at h;rw[RH (by omega),RI (by omega)];simp only[TJ]at h⊢
  revert h
  cases a:(decide (x<=(m.length:Int))&&m.getD (x -1).toNat false)<;>simp
 .rw[RH (by omega),RI (by omega)]at h;rw[RI (by omega)];simp only at h⊢
  revert h
  cases a:(decide (-x<=(m.length:Int))&&m.getD (-x -1).toNat false)<;>simp
theorem Js{m:List Bool}{x:Int}(hk:cF x=true)(h:gY m x=false):gY m (-x)=true:=by
 have b:=(aY x).1 hk;unfold gY cQ at*
 by_cases c:0<x
 .rw[RI (by omega)]at h;rw[RH (by omega),RI (by omega)];simp only[TJ]at h⊢
  revert h
  have:x≠0:=by omega
  cases a:(decide (x<=(m.length:Int))&&m.getD (x -1).toNat false)<;>simp[this]
 .rw[RH (by omega),RI (by omega)]at h;rw[RI (by omega)];simp only at h⊢
  revert h
  have:-x≠0:=by omega
  cases a:(decide (-x<=(m.length:Int))&&m.getD (-x -1).toNat false)<;>simp[this]
theorem Lz{l:List Int}{x:Int}(h:bH l x=-1):aR (-x)∈l:=by
 unfold bH at h;split at h
 .omega
 .split at h
  .omega
  .split at h
   .assumption
   .omega
theorem D6{m:List Bool}{l:List Int}(a:∀y∈l,gY m y=true){x:Int}(hx:gY m x=true):bH l x≠-1:=λe=>by
 have h1:=Lz e;obtain⟨hk,_⟩:=lG hx;have b:=(aY x).1 hk;rw[ap (by omega) (by omega)]at h1;have:=a _ h1;rw[Ab hx]at this;cases this
theorem Cs{m:List Bool}{l c:List Int}(o:c.length<=1000000)(n:∀y∈l,gY m y=true)(k:cO c m=true)(f:(bD l c).2=true):gY m (bD l c).1=true:=by
 obtain⟨y,hy,a⟩:=Tm.1 k;have j:=ow l c 0 0 0 (by omega) (by omega) (by omega);have h:Gk l c=(((0+jZ l c 1:Nat):Int),((0+jZ l c (-1):Nat):Int),((0+(gk l c).length:Nat):Int)):=j;have h0:jZ l c 1=0∧(gk l c).length=1∧(bD l c).1=c.foldl (BJ l) 0:=by
  unfold bD at f⊢;rw[h]at f⊢;split at f
  .cases f
  .rename_i hn;rw[RH hn];simp only[ne_eq,Wy,Decidable.not_not]at hn;exact⟨by omega,by omega,rfl⟩
 obtain⟨g,i,a3⟩:=h0;obtain⟨u,b⟩:∃u,gk l c=[u]:=Uj.1 i;rw[xe,b]at a3;have d:y∈gk l c:=by
  unfold gk;rw[SD];refine⟨hy,?_⟩;rw[R0];refine⟨(lG a).2,λe=>?_,D6 n a⟩;unfold jZ at g;rw[Td,Tz]at g;exact g y hy (by simpa using e)
 rw[b,Sp]at d;rw[a3,←d];exact a
theorem vT{m:List Bool}:∀(hs:List (List Int))(l:List Int)(n:Nat),(∀c∈hs,c.length<=1000000)->(∀y∈l,gY m y=true)->(∀c∈hs,cO c m=true)->(fk l hs n).2.2=0->False
 |[],l,n,_,_,_,h=>by simp[fk]at h
 |c::hs,l,n,f,e,d,h=>by
  rw[fk]at h;split at h
  .rename_i h1;obtain⟨y,hy,b⟩:=Tm.1 (d c R2);exact D6 e b (mE.1 h1 y hy (lG b).2)
  .split at h
   .rename_i g;have i:=Cs (f c R2) e (d c R2) g;refine vT hs _ _ (λc a=>f c (RZ _ a)) (λy hy=>?_) (λc a=>d c (RZ _ a)) h;rcases RS.1 hy with hy|hy
    .exact e y hy
    .rw[Sp]at hy;rw[hy];exact i
   .simp at h
end Go.AX