/-
  Contracts: how glued literals are; whether a clause is a reason; and what follows.
-/
import Derived.Test.YtepodadinenmnaaGreatS14AxGlP
import Derived.Test.YtepodadinenmnaaGreatAxOw
import Derived.Test.YtepodadinenmnaaGreatS14AxGlC
import Derived.Test.YtepodadinenmnaaGreatS14AxEvC
import Derived.Test.YtepodadinenmnaaGreatS14AxShelf2
import Derived.Test.YtepodadinenmnaaGreatAxDl
import Derived.Test.YtepodadinenmnaaGreatS14AxMovR
import Derived.Lib.TrailingZeros
namespace Go.AX
set_option maxRecDepth 8000
open Go.Proofs
set_option linter.unusedSimpArgs false
def tC(T:Tr)(l:List Int):Nat->List (Int×Int)
 |0=>[]
 |i+1=>if 0<(dA T (af (l.getD i 0))).1.lev then pt (tC T l i) (dA T (af (l.getD i 0))).1.lev (aY ((lk (tC T l i) (dA T (af (l.getD i 0))).1.lev).getD 0+1))else tC T l i
def LD(T:Tr)(l:List Int):Int:=((tC T l l.length).length:Int)
theorem FB(T:Tr)(ht:T.ok)(l:List Int)(g:l.length<=1000000):ak Tryz.prog 97 [bM T,.seq false 1 (ae l)] (λr=>r=.pv (ab (LD T l))):=by
 refine ap aC Tryz.func97 ?_;have a:=λv=>fO T v ht;simp only[bM,cY]at a;simp[bM,cY];refine aF.intro (S:=λ(i:Nat)=>⟨[(0,.pv (bM T)),(5,.omap true (aG fI (tC T l i))),(12,.pv (.seq false 1 (ae l))),(13,.pv (ab l.length)),(14,.pv (ab i))],[]⟩) (λi=>i<=l.length) (λi=>l.length -i) 0 ?_ (Te _) ?_
 .exact ai.to (by simp[tC,bM,cY,aG]) rfl (by simp) (by simp[bM,cY]) (by simp)
 intro i hi
 by_cases f:i<l.length
 .have b:=dZ i;have e:l.getD i 0=l[i]:=by rw[SI,SH f];rfl
  have d:tC T l (i+1)=if 0<(dA T (af l[i])).1.lev then pt (tC T l i) (dA T (af l[i])).1.lev (aY ((lk (tC T l i) (dA T (af l[i])).1.lev).getD 0+1))else tC T l i:=by rw[tC,e]
  simp[f,cY];refine ah.intro (aI l[i]) ?_;simp[cY];refine ah.intro (a (af l[i])) ?_;generalize(dA T (af l[i])).1.lev=n at*
  by_cases c:0<n
  .rw[SN c]at d;simp[c];exact⟨i+1,by dsimp only;omega,by dsimp only;omega,ai.to (by simp[b,d,bM,cY]) rfl (by simp) (by simp[bM,cY]) (by simp)⟩
  .rw[SM c]at d;simp[c];exact⟨i+1,by dsimp only;omega,by dsimp only;omega,ai.to (by simp[b,d,bM,cY]) rfl (by simp) (by simp[bM,cY]) (by simp)⟩
 .have:i=l.length:=by omega
  subst this;simp[LD,aG]
theorem nu(T:Tr):ak Tryz.prog 105 [bM T] (λr=>r=.pv (ab T.beg.length)):=by
 refine ap aC Tryz.func105 ?_;have hi:=mH T;simp only[bM,cY]at hi;simp[bM,cY];refine ah.intro hi ?_;simp
def zy(T:Tr)(at' l:Int):Bool:=decide (0<cz T l)&&decide ((dA T (af l)).1.rea=at')
def tD(T:Tr)(at':Int)(l:List Int):Bool:=l.any (zy T at')
theorem B8(T:Tr)(ht:T.ok)(at' l:Int):ak Tryz.prog 255 [ab l,.iptr 1 [[bM T]] 0 0,.iptr 1 [[ab at']] 0 0] (λr=>r=.pv (BL (zy T at' l))):=by
 refine ap aC Tryz.func255 ?_;have b:=fP T l ht;have a:=gE T (af l) ht;simp only[bM,cY]at b a;simp[bM,cY];refine bE.intro b ?_;unfold zy
 by_cases c:0<cz T l
 .simp[c,cY];refine dI.intro (r:=.pv (ab (af l))) (λ_=>aI l) ?_;simp[c,cY];refine dI.intro (r:=.pv (ab (dA T (af l)).1.rea)) (λ_=>a) ?_;simp
 .simp[c,cY];refine dI.intro (r:=.pv (ab (af l))) (λ_=>aI l) ?_;simp[c,cY];refine dI.intro (r:=.pv (ab (dA T (af l)).1.rea)) (λ_=>a) ?_;simp
theorem FC(T:Tr)(ht:T.ok)(at':Int)(l:List Int)(b:l.length<=1000000):ak Tryz.prog 194 [bM T,ab at',.seq false 1 (ae l)] (λr=>r=.pv (BL (tD T at' l))):=by
 refine ap aC Tryz.func194 ?_;have a:=dQ l b 255 [.iptr 1 [[bM T]] 0 0,.iptr 1 [[ab at']] 0 0] (zy T at') (λr=>by simp[bM,cY]) rfl (λk=>by simp[bM,cY]) (λx _=>B8 T ht at' x);simp only[bM,cY]at a;simp[bM,cY,aZ];refine aV.intro (r:=.pv (BL (tD T at' l))) (λ_=>a) ?_;simp
end Go.AX
namespace Go.AX
set_option maxRecDepth 16000
open Go.Proofs
set_option linter.unusedSimpArgs false
def pP(A:Ar):List PV:=[.seq false 1 (ae A.row),.amap false (aG fI A.hd)]
abbrev kw(A:Ar):PV:=.iptr 2 [pP A] 0 0
@[simp] theorem FD:∀l:List Int,wW (ae l)
 |[]=>trivial
 |_::l=>⟨⟨trivial,trivial⟩,FD l⟩
@[simp] theorem Il:∀l:List Mk,wW (l.map qm)
 |[]=>trivial
 |_::l=>⟨⟨trivial,trivial,trivial,trivial,trivial⟩,Il l⟩
theorem DY{h:List (List SV)}{b:Nat}{A:Ar}(d:h[b]?=some (ji A))(n:Nat):aZ h (n+1) b 0=kw A:=by
 obtain⟨c,a⟩:=SG.1 d;simp[aZ,c,a,ji,pP,frzC]
@[simp] theorem OV(k v:Int)(l:List (Int×Int)):aG fI ((k,v)::l)=(k,ab v)::aG fI l:=rfl
theorem FE(A:Ar)(h0:A.hd≠[]):ak Tryz.prog 207 [kw A] (λr=>r=.pv (BL true)):=by
 refine ap aC Tryz.func207 ?_;obtain⟨row,hd⟩:=A;cases hd with
 |nil=>exact absurd rfl h0
 |cons x hd=>
  obtain⟨k,v⟩:=x;simp[kw,pP]
theorem DZ(A:Ar)(h0:A.hd≠[])(q:Int):ak Tryz.prog 237 [kw A,ab q] (λr=>r=.pv (BL (isA A q))):=by
 refine ap aC Tryz.func237 ?_;have a:=FE A h0;simp only[kw,pP]at a;simp[kw,pP];refine ah.intro a ?_;simp[isA]
theorem FF(h:List (List SV))(A:Ar)(p n:Nat)(d:AtOk A p n)(k:A.row.length<=1000000000):ax Tryz.prog 239 [kw A,ab p] h (λr h'=>h'=h∧r=.pv (.seq false 1 (ae (dE A p n)))):=by
 refine gC [] [.tmp 4] aC Tryz.func239 ?_;obtain⟨j,b⟩:=d;have h1:p+1<A.row.length:=by omega
 have c:A.row[p+1]=(n:Int):=by rw[←b,SI,SH h1];rfl
 have f:=dZ p;have g:aY ((p:Int)+3)=((p+3:Nat):Int):=by rw[ao (by omega) (by omega)];omega
 have i:aY ((p:Int)+3+n)=(p:Int)+3+n:=ao (by omega) (by omega);have a:List.drop (p+3) (List.take (p+3+n) (ae A.row))=ae (dE A p n):=by
  unfold ae dE;rw[←U3,←VY,List.drop_take];congr 3;omega
 have t1:((p:Int)+3).toNat=p+3:=by omega
 have e:((p:Int)+3+n).toNat=p+3+n:=by omega
 simp[kw,pP,f,g,i,h1,c,t1,e,a,gd]
 try omega
def au(A:Ar)(q:Int):List Int:=if isA A q=true then dE A q.toNat (A.row.getD (q.toNat+1) 0).toNat else[]
def j9(A:Ar):Prop:=∀q:Int,isA A q=true->∃p n:Nat,q=(p:Int)∧AtOk A p n
theorem ka(A:Ar)(h0:A.hd≠[])(hk:j9 A)(o:A.row.length<=1000000)(q:Int):ak Tryz.prog 160 [kw A,ab q] (λr=>r=.own true 1 (ae (au A q))):=by
 refine ak.own0 (R:=λr=>r=.own true 1 (ae (au A q))∨(au A q=[]∧r=.pv (.lit (.slice none 0 0)))) ?_ (λr h=>h.imp id λ⟨i,j⟩=>⟨j,true,1,by rw[i];rfl⟩);refine ap aC Tryz.func160 ?_;have hi:=DZ A h0 q;simp only[kw,pP]at hi;simp[kw,pP];refine ah.intro hi ?_
 by_cases c:isA A q=true
 rotate_left
 .have c':isA A q=false:=by simpa using c
  have b:au A q=[]:=SM c;simp[c',b]
 obtain⟨p,n,rfl,d⟩:=hk q c;have f:=λh=>FF h A p n d (by omega);have b:au A p=dE A p n:=by
  unfold au;rw[SN c,Ub,d.num,Ub]
 obtain⟨m,g⟩:=d;have h1:p+1<A.row.length:=by omega
 have k:A.row[p+1]=(n:Int):=by rw[←g,SI,SH h1];rfl
 have l:=dZ p;have a:(dE A p n).length=n:=by unfold dE;rw[SU,TF];omega
 have e:(ae (dE A p n)).take n=ae (dE A p n):=Tm (by simp[a]);rw[b];generalize dE A p n=y at*;simp only[kw,pP]at f;simp[c,l,h1,k,pP];refine⟨by omega,by omega,?_⟩;refine ah.introM (f _) ?_;rintro _ _ ⟨rfl,rfl⟩;simp[a,e]
theorem fT(A:Ar)(hk:j9 A)(q:Int):(au A q).length<=A.row.length:=by
 unfold au;split
 .unfold dE;rw[SU,TF];omega
 .simp
def uR(T:Tr)(l x:Int):Bool:=decide (x=aY (-l))||decide ((dA T (af x)).1.lev=0)
def pQ(A:Ar)(T:Tr)(l:Int):Bool:=!(decide (0<=cz T l)||decide ((dA T (af l)).1.rea<0)||!lA (au A (dA T (af l)).1.rea) (aY (-l)))
def tE(A:Ar)(T:Tr)(l:Int):List Int:=if pQ A T l=true then(au A (dA T (af l)).1.rea).filter λx=>!uR T l x else[]
theorem NT(T:Tr)(ht:T.ok)(l x:Int):ak Tryz.prog 289 [ab x,.iptr 1 [[ab l]] 0 0,.iptr 1 [[bM T]] 0 0] (λr=>r=.pv (BL (uR T l x))):=by
 refine ap aC Tryz.func289 ?_;have a:=fO T (af x) ht;simp only[bM,cY]at a;unfold uR
 by_cases c:x=aY (-l)
 .simp[bM,cY,c];refine dI.intro (r:=.pv (ab 0)) (λh:False=>h.elim) ?_;simp[cY];refine dI.intro (r:=.pv (ab 0)) (λh:False=>h.elim) ?_;simp
 .simp[bM,cY,c];refine dI.intro (λ_=>aI x) ?_;simp[cY];refine dI.intro (λ_=>a) ?_;simp
theorem FH(A:Ar)(T:Tr)(l:Int)(ht:T.ok)(hk:j9 A)(s:A.row.length<=1000000)(h0:0<=(dA T (af l)).1.rea->A.hd≠[]):ak Tryz.prog 246 [kw A,bM T,ab l] (λr=>r=.pv (.tup [.seq true 1 (ae (tE A T l)),BL (pQ A T l)])):=by
 refine ak.wk (R:=λr=>∃x,r=.pv x∧bO x (.tup [.seq true 1 (ae (tE A T l)),BL (pQ A T l)])) ?_ (λr ⟨x,e,h⟩=>⟨x,_,e,h,rfl⟩);refine iX [] [.tmp 6,.tmp 7] aC Tryz.func246 ?_;have n:=gE T (af l) ht;have p:=fP T l ht;have d:=λh=>ka A h hk s (dA T (af l)).1.rea;have g:=λx=>NT T ht l x;simp only[bM,cY]at n p;simp only[kw,pP]at d;simp[kw,pP,bM,cY];refine bE.intro (aI l) ?_;simp[cY];refine bE.intro n ?_;simp[cY];refine bE.intro p ?_;have i:pQ A T l=!(decide (0<=cz T l)||decide ((dA T (af l)).1.rea<0)||!lA (au A (dA T (af l)).1.rea) (aY (-l))):=rfl;have b:tE A T l=if pQ A T l=true then(au A (dA T (af l)).1.rea).filter λx=>!uR T l x else[]:=rfl;have t:=fT A hk (dA T (af l)).1.rea;generalize(dA T (af l)).1.rea=why at*
 by_cases c1:0<=cz T l
 .have a:pQ A T l=false:=by rw[i];simp[c1]
  rw[a]at b;simp only[TM,Uo]at b;simp[c1,a,b];refine dI.intro (r:=.pv (.seq true 1 [])) (λh:False=>h.elim) ?_;simp;refine dI.intro (r:=.pv (BL false)) (λh:False=>h.elim) ?_;simp[bO,bK,ae]
 by_cases c2:why<0
 .have a:pQ A T l=false:=by rw[i];simp[c2]
  rw[a]at b;simp only[TM,Uo]at b;simp[c1,c2,a,b];refine dI.intro (r:=.pv (.seq true 1 [])) (λh:False=>h.elim) ?_;simp;refine dI.intro (r:=.pv (BL false)) (λh:False=>h.elim) ?_;simp[bO,bK,ae]
 have d:=d (h0 (by omega));simp[c1,c2];refine dI.intro (λ_=>d) ?_;simp;refine dI.intro (λ_=>HU _ (aY (-l)) (by omega)) ?_;cases c3:lA (au A why) (aY (-l))
 .have a:pQ A T l=false:=by rw[i];simp[c3]
  rw[a]at b;simp only[TM,Uo]at b;simp[a,b,bO,bK,ae]
 .have a:pQ A T l=true:=by rw[i];simp[c1,c2,c3]
  rw[a]at b;simp only[UO]at b;simp[a,cY,pP];refine ah.intro d ?_;generalize au A why=y at*;have q:=iZ y (by omega) 289 [.iptr 1 [[ab l]] 0 0,.iptr 1 [[bM T]] 0 0] (uR T l) (λr=>by simp[bM,cY]) rfl (λk=>by simp[bM,cY]) (by simp[bM,cY,PV.old,qt,wW]) (λx _=>g x);simp;refine ah.introX (bU.introS (o:=.slot 34) (lo:=0) (hi:=y.length) q (by simp) rfl rfl (by simp) (by simp) rfl (by simp;rw[Tm (by simp)];rfl) (aT 0 y) (by simp) (by simp[bM,cY,aZ]) ?_);rintro k m ⟨rfl,rfl⟩ _ _;have j:List.drop y.length (ae y)=[]:=Tq (by simp);have c:∀X,List.take (bk (uR T l) y).length (aB (bk (uR T l) y++X))=ae (bk (uR T l) y):=λX=>by
   unfold aB;rw[TA,UR (by simp)];rfl
  have f:bk (uR T l) y=tE A T l:=b.symm;simp[j,c,f,bO,bK];rw[f]at c;exact c _
theorem Im(A:Ar)(T:Tr)(l:Int)(hk:j9 A):(tE A T l).length<=A.row.length:=by
 unfold tE;split
 .exact TD (UM _ _) (fT A hk _)
 .simp
end Go.AX
namespace Go.AX
set_option maxRecDepth 16000
open Go.Proofs
set_option linter.unusedSimpArgs false
def pR(n:Nat):PV:=.fn (.func 244) [] [.ptr (n+1) 0,.ptr (n+3) 0,.ptr n 0,.ptr (n+2) 0,.ptr (n+4) 0]
def In(A:Ar)(T:Tr)(lits:List Int)(m:List (Int×Int))(n:Nat):List (List SV):=[[.pv (kw A)],[.pv (bM T)],[.pv (.seq false 1 (ae lits))],[.omap true (aG fI m)],[.pv (pR n)]]
theorem Io(h:List (List SV))(A:Ar)(T:Tr)(lits:List Int):ax Tryz.prog 164 [kw A,bM T,.seq false 1 (ae lits)] h (λr h'=>h'=h++In A T lits [] h.length∧r=.pv (pR h.length)):=by
 refine cI [] [.tmp 6] aC Tryz.func164 ?_;simp[kw,pP,bM,cY,In,pR];rfl
def cH(T:Tr)(l:Int):Int:=(dA T (af l)).1.pla
def lU(T:Tr)(lits:List Int)(l x:Int):Bool:=!decide (x=l)&&(decide (x∈lits)&&decide (cH T x<cH T l))
def nU(A:Ar)(T:Tr)(lits:List Int):Nat->Int->Bool
 |0,_=>false
 |k+1,l=>pQ A T l&&(tE A T l).all λx=>lU T lits l x||(decide (0<=cH T x∧cH T x<cH T l)&&nU A T lits k x)
theorem zA(A:Ar)(T:Tr)(lits:List Int):∀(k k':Nat)(l:Int),(cH T l).toNat<k->(cH T l).toNat<k'->nU A T lits k l=nU A T lits k' l
 |0,_,_,h,_=>by omega
 |_+1,0,_,_,h=>by omega
 |k+1,k'+1,l,h,h'=>by
  have e:(λx=>lU T lits l x||(decide (0<=cH T x∧cH T x<cH T l)&&nU A T lits k x))=(λx=>lU T lits l x||(decide (0<=cH T x∧cH T x<cH T l)&&nU A T lits k' x)):=by
   funext x
   by_cases c:0<=cH T x∧cH T x<cH T l
   .rw[zA A T lits k k' x (by omega) (by omega)]
   .rw[UH c,U1,U1]
  rw[nU,nU,e]
def lV(A:Ar)(T:Tr)(lits:List Int)(l:Int):Bool:=nU A T lits ((cH T l).toNat+1) l
def nV(A:Ar)(T:Tr)(lits:List Int)(l x:Int):Bool:=lU T lits l x||(decide (0<=cH T x∧cH T x<cH T l)&&lV A T lits x)
theorem tF(A:Ar)(T:Tr)(lits:List Int)(l:Int):lV A T lits l=(pQ A T l&&(tE A T l).all (nV A T lits l)):=by
 have e:(λx=>lU T lits l x||(decide (0<=cH T x∧cH T x<cH T l)&&nU A T lits (cH T l).toNat x))=nV A T lits l:=by
  funext x;unfold nV lV
  by_cases c:0<=cH T x∧cH T x<cH T l
  .rw[zA A T lits (cH T l).toNat ((cH T x).toNat+1) x (by omega) (by omega)]
  .rw[UH c,U1,U1]
 unfold lV;rw[nU,e]
def i9(A:Ar)(T:Tr)(lits:List Int)(l a:Int):Bool:=decide (0<=cH T l∧cH T l<a)&&lV A T lits l
def oN(A:Ar)(T:Tr)(lits:List Int)(m:List (Int×Int)):Prop:=∀q:Int,(lk m q).getD 0=0∨((lk m q).getD 0=1∧lV A T lits q=true)∨((lk m q).getD 0=2∧lV A T lits q=false)
def nv:Sch:=
 let E:Sch:=.fork [(14,.take 16 (.take 17 (.take 18 (.take 20 (.take 21 (.fork [(19,.fork [(22,.take 23 (.take 24 (.fork [(25,.done)])))])]))))))]
 .take 0 (.take 1 (.take 2 (.take 3 (.take 4 (.take 5 (.take 7 (.fork [(6,.fork [(8,.take 9 (.take 10 (.take 12 (.take 15 (.fork [(11,.fork [(13,E)]),(13,.fork [(11,E)])])))))])])))))))
structure AskAt (A:Ar) (T:Tr) (lits:List Int) (m:List (Int×Int)) (n:Nat) (h:List (List SV)):Prop where
  b0:h[n]?=some [.pv (kw A)]
  b1:h[n+1]?=some [.pv (bM T)]
  b2:h[n+2]?=some [.pv (.seq false 1 (ae lits))]
  b3:h[n+3]?=some [.omap true (aG fI m)]
  b4:h[n+4]?=some [.pv (pR n)]
theorem AskAt.set{A:Ar}{T:Tr}{lits:List Int}{m b:List (Int×Int)}{n:Nat}{h:List (List SV)}(a:AskAt A T lits m n h):AskAt A T lits b n (h.set (n+3) [.omap true (aG fI b)])where
 b0:=by rw[Tc (by omega)];exact a.b0
 b1:=by rw[Tc (by omega)];exact a.b1
 b2:=by rw[Tc (by omega)];exact a.b2
 b3:=by rw[Tu (SG.1 a.b3).1]
 b4:=by rw[Tc (by omega)];exact a.b4
structure ShOk (A:Ar) (T:Tr) (lits:List Int):Prop where
  tr:T.ok
  ar:j9 A
  len:A.row.length<=1000000
  few:lits.length<=1000000
  hd:∀v,0<=(dA T v).1.rea->A.hd≠[]
theorem Ip(A:Ar)(T:Tr)(lits:List Int)(n:Nat)(hs:ShOk A T lits)(l a:Int)(m:List (Int×Int))(h:List (List SV))(k:¬(0<=cH T l∧cH T l<a))(b:AskAt A T lits m n h)(g:oN A T lits m):
 ax Tryz.prog 244 [ab l,ab a,.ptr (n+1) 0,.ptr (n+3) 0,.ptr n 0,.ptr (n+2) 0,.ptr (n+4) 0] h (λr h'=>∃i,oN A T lits i∧h'=h.set (n+3) [.omap true (aG fI i)]∧r=.pv (BL (i9 A T lits l a))):=by
 refine cI [10] [.tmp 9] aC Tryz.func244 ?_;have c:=nq T (af l) hs.tr;have e:(dA T (af l)).1.pla=cH T l:=rfl;obtain⟨n0,g0⟩:=SG.1 b.b0;obtain⟨j,f⟩:=SG.1 b.b1;obtain⟨p,g2⟩:=SG.1 b.b2;obtain⟨q,g3⟩:=SG.1 b.b3;obtain⟨s,o⟩:=SG.1 b.b4;rw[e]at c;simp only[bM,cY]at c;simp[j,f,bM,cY];refine bE.intro (aI l) ?_;simp[j,f,bM,cY];refine bE.intro c ?_
 by_cases c1:cH T l<0
 .have d:i9 A T lits l a=false:=by unfold i9;rw[UH (by omega),U1]
  simp[c1,d];exact⟨m,g,(cU b.b3).symm⟩
 by_cases c2:a<=cH T l
 .have d:i9 A T lits l a=false:=by unfold i9;rw[UH (by omega),U1]
  simp[c1,c2,d];exact⟨m,g,(cU b.b3).symm⟩
 exact absurd ⟨by omega,by omega⟩ k
theorem LE(A:Ar)(T:Tr)(lits:List Int)(n:Nat)(hs:ShOk A T lits):∀(N:Nat)(l a:Int)(m:List (Int×Int))(h:List (List SV)),(0<=cH T l->cH T l<a->cH T l<N)->AskAt A T lits m n h->oN A T lits m->
 ax Tryz.prog 244 [ab l,ab a,.ptr (n+1) 0,.ptr (n+3) 0,.ptr n 0,.ptr (n+2) 0,.ptr (n+4) 0] h (λr h'=>∃m',oN A T lits m'∧h'=h.set (n+3) [.omap true (aG fI m')]∧r=.pv (BL (i9 A T lits l a))):=by
 intro N
 induction N with
 |zero=>
  intro l a m h hN B M;exact Ip A T lits n hs l a m h (λc=>by have:=hN c.1 c.2;omega) B M
 |succ N ih=>
  intro l a m h hN B M;refine cI [10] [.tmp 9] aC Tryz.func244 ?_;have O:=nq T (af l) hs.tr;have ag:(dA T (af l)).1.pla=cH T l:=rfl;obtain⟨n0,g0⟩:=SG.1 B.b0;obtain⟨n1,Z⟩:=SG.1 B.b1;obtain⟨n2,g2⟩:=SG.1 B.b2;obtain⟨n3,g3⟩:=SG.1 B.b3;obtain⟨n4,g4⟩:=SG.1 B.b4;rw[ag]at O;simp only[bM,cY]at O;simp[n1,Z,bM,cY];refine bE.intro (aI l) ?_;simp[n1,Z,bM,cY];refine bE.intro O ?_
  by_cases c1:cH T l<0
  .have P:i9 A T lits l a=false:=by unfold i9;rw[UH (by omega),U1]
   simp[c1,P];exact⟨m,M,(cU B.b3).symm⟩
  by_cases c2:a<=cH T l
  .have P:i9 A T lits l a=false:=by unfold i9;rw[UH (by omega),U1]
   simp[c1,c2,P];exact⟨m,M,(cU B.b3).symm⟩
  have P:i9 A T lits l a=lV A T lits l:=by unfold i9;rw[Uq (by omega),Vs]
  rw[P];have ad:=M l
  by_cases c3:(lk m l).getD 0=0
  rotate_left
  .simp[c1,c2,n3,g3,c3];refine⟨m,M,(cU B.b3).symm,?_⟩;rcases ad with e|⟨e,W⟩|⟨e,W⟩
   .exact absurd e c3
   .rw[e,W];rfl
   .rw[e,W];rfl
  have R:=FH A T l hs.tr hs.ar hs.len (hs.hd _);have aq:=Im A T l hs.ar;have aj:=tF A T lits l;simp only[kw,pP,bM,cY]at R;simp[c1,c2,n0,g0,n1,Z,n3,g3,c3,kw,pP,bM,cY];refine ah.intro R ?_;simp;generalize tE A T l=rest at*;generalize pQ A T l=ok at*;refine aF.intro (S:=λ(y:Nat×List (Int×Int))=>⟨[(0,.pv (ab l)),(1,.pv (ab a)),(2,.pv (.ptr (n+1) 0)),(3,.pv (.ptr (n+3) 0)),(4,.pv (.ptr n 0)),(5,.pv (.ptr (n+2) 0)),(6,.pv (.ptr (n+4) 0)),(10,.pv (ab (cH T l))),(12,.pv (BL (ok&&(rest.take y.1).all (nV A T lits l)))),(41,.pv (.seq true 1 (ae rest))),(42,.pv (ab rest.length)),(43,.pv (ab y.1))],h.set (n+3) [.omap true (aG fI y.2)]⟩) (λy=>y.1<=rest.length∧oN A T lits y.2) (λy=>rest.length -y.1) (0,m) ?_ ⟨Te _,M⟩ ?_
  .exact ai.keep (by simp) (cU B.b3).symm
  rintro⟨i,u⟩ ⟨hi,z⟩;dsimp only at hi z;have w:AskAt A T lits u n (h.set (n+3) [.omap true (aG fI u)]):=B.set;have E:∀X Y:List SV,(h.set (n+3) X).set (n+3) Y=h.set (n+3) Y:=λX Y=>Wb ..;have an:(h.set (n+3) [.omap true (aG fI u)]).length=h.length:=Ti ..;generalize L:h.set (n+3) [.omap true (aG fI u)]=H at*;obtain⟨k0,f0⟩:=SG.1 w.b0;obtain⟨p,j⟩:=SG.1 w.b1;obtain⟨s,k⟩:=SG.1 w.b2;obtain⟨k3,f3⟩:=SG.1 w.b3;obtain⟨t,o⟩:=SG.1 w.b4
  by_cases g:i<rest.length
  .have F:aY ((i:Int)+1)=((i+1:Nat):Int):=by
    have:=hs.len;rw[ao (by omega) (by omega)];omega
   have b:(ok&&(rest.take (i+1)).all (nV A T lits l))=((ok&&(rest.take i).all (nV A T lits l))&&nV A T lits l rest[i]):=by
    rw[T4,SH g,UG,List.all_append];simp[Bool.and_assoc]
   simp[g];refine bc.one nv (by kernel_rfl) ?_;generalize ak:(ok&&(rest.take i).all (nV A T lits l))=acc at*;cases acc
   .simp[nv,g,p,j,s,k,t,o];refine aV.intro (r:=.pv (BL false)) (λh:False=>h.elim) ?_;simp[g,p,j,s,k,t,o,bM,cY];and_intros
    all_goals
     refine aV.intro (r:=.pv (ab 0)) (λh:False=>h.elim) ?_;simp[g,p,j,s,k,t,o,bM,cY];refine aV.intro (r:=.pv (ab 0)) (λh:False=>h.elim) ?_;simp[g,p,j,s,k,t,o,bM,cY,pR];exact⟨(i+1,u),by(try dsimp only);omega,⟨by(try dsimp only);omega,z⟩,ai.keep (by simp[F,b]) (by simp[L])⟩
   .generalize d:rest[i]=x at*;have C:=eF lits x (by have:=hs.few;omega);have J:=nq T (af x) hs.tr;have U:(dA T (af x)).1.pla=cH T x:=rfl;rw[U]at J;simp only[bM,cY]at J;have v:=ih x (cH T l) u H (λh1 h2=>by have:=hN (by omega) (by omega);omega) w z;have G:nV A T lits l x=(lU T lits l x||i9 A T lits x (cH T l)):=rfl;have I:lU T lits l x=(!decide (x=l)&&(decide (x∈lits)&&decide (cH T x<cH T l))):=rfl
    by_cases c5:x=l
    .have f:lU T lits l x=false:=by rw[I];simp[c5]
     rw[f,VX]at G;rw[c5]at v G d b;rw[G]at b;simp[nv,g,p,j,s,k,t,o,d,bM,cY,c5];refine aV.intro (r:=.pv (BL false)) (λh:False=>h.elim) ?_;simp[g,p,j,s,k,t,o,d,bM,cY];and_intros
     all_goals
      refine aV.intro (r:=.pv (ab 0)) (λh:False=>h.elim) ?_;simp[g,p,j,s,k,t,o,d,bM,cY];refine aV.intro (r:=.pv (ab 0)) (λh:False=>h.elim) ?_;simp[g,p,j,s,k,t,o,d,bM,cY,pR];refine am.intro v ?_ (by trivial);rintro _ _ ⟨V,D,rfl,rfl⟩;simp;exact⟨(i+1,V),by(try dsimp only);omega,⟨by(try dsimp only);omega,D⟩,ai.keep (by simp[F,b]) (by simp[←L,E])⟩
    .by_cases c6:x∈lits
     .by_cases c7:cH T x<cH T l
      .have f:lU T lits l x=true:=by rw[I];simp[c5,c6,c7]
       rw[f,Xd]at G;rw[G]at b;simp[nv,g,p,j,s,k,t,o,d,bM,cY,c5];refine aV.intro (λ_=>C) ?_;simp[g,p,j,s,k,t,o,d,bM,cY,c6];and_intros
       all_goals
        refine aV.intro (λ_=>aI x) ?_;simp[g,p,j,s,k,t,o,d,bM,cY,c6];refine aV.intro (λ_=>J) ?_;simp[g,p,j,s,k,t,o,d,bM,cY,pR,c6,c7];exact⟨(i+1,u),by(try dsimp only);omega,⟨by(try dsimp only);omega,z⟩,ai.keep (by simp[F,b]) (by simp[L])⟩
      .have f:lU T lits l x=false:=by rw[I];simp[c7]
       rw[f,VX]at G;rw[G]at b;simp[nv,g,p,j,s,k,t,o,d,bM,cY,c5];refine aV.intro (λ_=>C) ?_;simp[g,p,j,s,k,t,o,d,bM,cY,c6];and_intros
       all_goals
        refine aV.intro (λ_=>aI x) ?_;simp[g,p,j,s,k,t,o,d,bM,cY,c6];refine aV.intro (λ_=>J) ?_;simp[g,p,j,s,k,t,o,d,bM,cY,pR,c6,c7];refine am.intro v ?_ (by trivial);rintro _ _ ⟨V,D,rfl,rfl⟩;simp;exact⟨(i+1,V),by(try dsimp only);omega,⟨by(try dsimp only);omega,D⟩,ai.keep (by simp[F,b]) (by simp[←L,E])⟩
     .have f:lU T lits l x=false:=by rw[I];simp[c6]
      rw[f,VX]at G;rw[G]at b;simp[nv,g,p,j,s,k,t,o,d,bM,cY,c5];refine aV.intro (λ_=>C) ?_;simp[g,p,j,s,k,t,o,d,bM,cY,c6];and_intros
      all_goals
       refine aV.intro (r:=.pv (ab 0)) (λh:False=>h.elim) ?_;simp[g,p,j,s,k,t,o,d,bM,cY];refine aV.intro (r:=.pv (ab 0)) (λh:False=>h.elim) ?_;simp[g,p,j,s,k,t,o,d,bM,cY,pR];refine am.intro v ?_ (by trivial);rintro _ _ ⟨V,D,rfl,rfl⟩;simp;exact⟨(i+1,V),by(try dsimp only);omega,⟨by(try dsimp only);omega,D⟩,ai.keep (by simp[F,b]) (by simp[←L,E])⟩
  .have aa:i=rest.length:=by omega
   subst aa;rw[Tw,←aj];have K:∀q:Int,lk (pt u l 2) q=if l=q then some 2 else lk u q:=λq=>bJ u l 2 q;have Q:∀q:Int,lk (pt (pt u l 2) l 1) q=if l=q then some 1 else lk (pt u l 2) q:=λq=>bJ (pt u l 2) l 1 q;cases hv:lV A T lits l
   .simp[k3,f3];refine⟨pt u l 2,λq=>?_,?_⟩
    .rw[K];split
     .rename_i e;subst e;exact .inr (.inr ⟨rfl,hv⟩)
     .exact z q
    .simp[←L,E]
   .simp[k3,f3];refine⟨pt (pt u l 2) l 1,λq=>?_,?_⟩
    .rw[Q];split
     .rename_i e;subst e;exact .inr (.inl ⟨rfl,hv⟩)
     .rename_i e;rw[K,SM e];exact z q
    .simp[←L,E]
end Go.AX
namespace Go.AX
open Go.Proofs
set_option linter.unusedSimpArgs false
def gZ(A:Ar)(T:Tr)(lits:List Int)(l:Int):Bool:=i9 A T lits l T.lits.length
theorem Iq(A:Ar)(T:Tr)(lits:List Int):oN A T lits []:=λq=>.inl rfl
end Go.AX
namespace Go.AX
set_option maxRecDepth 16000
open Go.Proofs
set_option linter.unusedSimpArgs false
theorem FJ(zs:List Int)(z:zs.length<=1000000)(g:Nat)(cap:List PV)(p:Int->Bool)(n:Nat)(Inv:List (List SV)->Prop)(hp:jH cap=true)(pre a:List Value)(cp:Nat)
 (hz:∀x∈zs,∀h,Inv h->ax Tryz.prog g (ab x::cap) h (λr h'=>Inv h'∧h'[n]?=h[n]?∧r=.pv (BL (p x)))) (h:List (List SV)) (u:Inv h) (hn:h[n]?=some (blk pre zs a)):
 ax Tryz.prog 230 [.bsl n 1 pre.length zs.length cp,.fn (.func g) [] cap] h (λr h'=>Inv h'∧h'[n]?=some (blk pre zs a)∧r=.pv (ab (gp p zs))):=by
 refine mB aC Tryz.func230 ?_;simp;refine aF.intro (S:=λ(y:Nat×List (List SV))=>⟨[(0,.pv (.bsl n 1 pre.length zs.length cp)),(1,.pv (.fn (.func g) [] cap)),(7,.pv (ab zs.length)),(8,.pv (ab y.1))],y.2⟩) (λy=>y.1<=zs.length∧(∀j (hj:j<zs.length),j<y.1->p zs[j]=false)∧Inv y.2∧y.2[n]?=some (blk pre zs a)) (λy=>zs.length -y.1) (0,h) ?_ ⟨Te _,λj _ h=>absurd h (Va _),u,hn⟩ ?_
 .exact ai.keep (by simp) rfl
 .rintro⟨i,h1⟩ ⟨hi,ho,d,b⟩;dsimp only at hi ho d b;obtain⟨w,s⟩:=SG.1 b
  by_cases c:i<zs.length
  .have v:=dZ i;have hx:=hz zs[i] (SS c) h1 d;have l:=lr pre zs a (i:=i) c;have m:=eG pre zs a;simp[c,hp,w,s,l,m];refine⟨by omega,?_⟩;refine am.intro hx ?_ (by trivial);rintro _ t ⟨k,f,rfl⟩;rw[b]at f;cases o:p zs[i]
   .simp;refine⟨(i+1,t),by(try dsimp only);omega,⟨by(try dsimp only);omega,λj hj q=>?_,k,f⟩,ai.keep (by simp[v]) rfl⟩;dsimp only at q
    by_cases e:j=i
    .subst e;exact o
    .exact ho j hj (by omega)
   .simp;rw[d9 c ho o];exact⟨k,f,rfl⟩
  .simp[c];rw[cJ (λj hj=>ho j hj (by omega))];exact⟨d,b,rfl⟩
theorem B9(zs:List Int)(hl:zs.length<=1000000)(g:Nat)(cap:List PV)(p:Int->Bool)(n:Nat)(Inv:List (List SV)->Prop)(hp:jH cap=true)(s:∀h L,Inv h->Inv (h.set n L))(pre d:List Value)(cp:Nat)(aa:zs.length<=cp)
 (hz:∀x∈zs,∀h,Inv h->ax Tryz.prog g (ab x::cap) h (λr h'=>Inv h'∧h'[n]?=h[n]?∧r=.pv (BL (p x)))) (h:List (List SV)) (hI:Inv h) (hn:h[n]?=some (blk pre zs d)):
 ax Tryz.prog 150 [.bsl n 1 pre.length zs.length cp,.fn (.func g) [] cap] h (λr h'=>Inv h'∧∃G,G=bk p zs++List.replicate (zs.length -(bk p zs).length) 0∧h'[n]?=some (blk pre G d)∧r=.pv (.bsl n 1 pre.length (bk p zs).length cp)):=by
 have P:=FJ zs hl g cap p n Inv hp pre d cp hz h hI hn;refine mB aC Tryz.func150 ?_;simp;refine am.intro P ?_ (by trivial);rintro _ h0 ⟨A,E,rfl⟩
 by_cases c:∃i,∃h:i<zs.length,p zs[i]=true∧∀j (hj:j<zs.length),j<i->p zs[j]=false
 rotate_left
 .have m:∀j (hj:j<zs.length),p zs[j]=false:=by
   intro j
   induction j using Nat.strongRecOn with
   |ind j ih=>
    intro hj;cases e:p zs[j]
    .rfl
    .exact absurd ⟨j,hj,e,λk hk R=>ih k R hk⟩ c
  have hd:=np p zs λx hx=>by
   obtain⟨j,hj,rfl⟩:=S6 hx;exact m j hj
  rw[cJ m,hd];simp;exact⟨A,E⟩
 obtain⟨t,u,w,m⟩:=c;rw[d9 u m w];have U:=dZ t;have C:bk p (zs.take t)=zs.take t:=np p _ λx hx=>by
  obtain⟨j,hj,rfl⟩:=S6 hx;rw[SU]at hj;rw[Ua];exact m j (by omega) (by omega)
 simp;refine aF.intro (S:=λ(y:Nat×List Int×List (List SV))=>⟨[(0,.pv (.bsl n 1 pre.length zs.length cp)),(1,.pv (.fn (.func g) [] cap)),(5,.pv (ab ((bk p (zs.take y.1)).length:Nat))),(6,.pv (ab y.1))],y.2.2⟩)
  (λy=>y.1<=zs.length∧(bk p (zs.take y.1)).length<y.1∧y.2.1.length=zs.length∧y.2.1.take (bk p (zs.take y.1)).length=bk p (zs.take y.1)∧y.2.1.drop y.1=zs.drop y.1∧Inv y.2.2∧y.2.2[n]?=some (blk pre y.2.1 d)) (λy=>zs.length -y.1) (t+1,zs,h0) ?_ ?_ ?_
 .refine ai.keep ?_ rfl;have:(bk p (zs.take (t+1))).length=t:=by rw[iM p zs u,SN w,C,SU];omega
  simp[U,this]
 .have:bk p (zs.take (t+1))=zs.take t:=by rw[iM p zs u,SN w,C]
  refine⟨by dsimp only;omega,?_,rfl,?_,rfl,A,E⟩
  .dsimp only;rw[this,SU];omega
  .dsimp only;rw[this,SU];congr 1;omega
 .rintro⟨j,a,H⟩ ⟨h1,X,J,z,K,N,O⟩;dsimp only at h1 X J z K N O;have q:=eG pre a d;obtain⟨n1,W⟩:=SG.1 O
  by_cases I:j<zs.length
  .have Y:=dZ j;have Q:a[j]'(by omega)=zs[j]:=by
    have:=Vk (λl=>l[0]?) K;simp only[T5,VA]at this;rw[SH (by omega),SH I]at this;exact VC this
   have o:=lr pre a d (i:=j) (by omega);rw[Q]at o;have hx:=hz zs[j] (SS I) H N;have b:=iM p zs I;simp[I,hp,n1,W,o,q];refine⟨by omega,am.intro hx ?_ (by trivial)⟩;rintro _ M ⟨B,v,rfl⟩;rw[O]at v;obtain⟨Z,f1⟩:=SG.1 v;cases F:p zs[j]
   .rw[F]at b;simp only[TM,Uo]at b;have V:=dZ ((bk p (zs.take j)).length);have T:=xt pre a d (i:=(bk p (zs.take j)).length) zs[j] (by omega);simp[Z,f1,q];refine⟨by omega,by omega,(j+1,a.set (bk p (zs.take j)).length zs[j],M.set n (blk pre (a.set (bk p (zs.take j)).length zs[j]) d)),by(try dsimp only);omega,⟨by(try dsimp only);omega,?_,by(try dsimp only);rw[Ti];exact J,?_,?_,s M _ B,?_⟩,ai.keep ?_ (by simp[T])⟩
    .dsimp only;rw[b,SX,TZ];omega
    .dsimp only;rw[b,SX,TZ,T4,Wv (SQ _),z,Tu (by omega)];rfl
    .dsimp only;rw[V0 (by omega)];have:=Vk (List.drop 1) K
     rwa [Ue,Ue]at this
    .dsimp only;rw[Tu Z]
    .simp[Y,V,b]
   .rw[F]at b;simp only[UO]at b;simp;refine⟨(j+1,a,M),by(try dsimp only);omega,⟨by(try dsimp only);omega,by dsimp only;rw[b];omega,J,by dsimp only;rw[b];exact z,?_,B,v⟩,ai.keep (by simp[Y,b]) rfl⟩;dsimp only;have:=Vk (List.drop 1) K
    rwa [Ue,Ue]at this
  .have:j=zs.length:=by omega
   subst this;rw[Tw]at X z;have f:=ti pre a d (i:=(bk p zs).length) (n:=zs.length -(bk p zs).length) 0 (by omega);have D:a.take (bk p zs).length++List.replicate (zs.length -(bk p zs).length) 0++a.drop ((bk p zs).length+(zs.length -(bk p zs).length))=bk p zs++List.replicate (zs.length -(bk p zs).length) 0:=by
    rw[z,Tq (by omega),Ui]
   rw[D]at f;simp[n1,W,J,f];refine⟨⟨by omega,by omega⟩,by omega,by omega,⟨by omega,by omega⟩,s H _ N⟩
end Go.AX
namespace Go.AX
set_option maxRecDepth 16000
open Go.Proofs
set_option linter.unusedSimpArgs false
@[simp] theorem FK:∀l:List (Int×Int),G9 (aG fI l)
 |[]=>trivial
 |(_,_)::l=>⟨trivial,FK l⟩
def D4(A:Ar)(T:Tr)(lits:List Int)(m:List (Int×Int)):List (List SV):=In A T lits m 0++[[.pv (pR 0)],[.pv (ab T.lits.length)]]
def QJ(A:Ar)(T:Tr)(lits:List Int)(h:List (List SV)):Prop:=∃m L,oN A T lits m∧h=D4 A T lits m++[L]
theorem LJ(A:Ar)(T:Tr)(lits:List Int)(h:List (List SV))(L:List SV)(hi:QJ A T lits h):QJ A T lits (h.set 7 L):=by
 obtain⟨m,L0,h1,rfl⟩:=hi;exact⟨m,L,h1,rfl⟩
theorem Ir(A:Ar)(T:Tr)(lits:List Int)(m:List (Int×Int))(L:List SV):AskAt A T lits m 0 (D4 A T lits m++[L]):=⟨rfl,rfl,rfl,rfl,rfl⟩
theorem FL(A:Ar)(T:Tr)(lits:List Int)(hs:ShOk A T lits)(x:Int)(h:List (List SV))(i:QJ A T lits h):
 ax Tryz.prog 165 [ab x,.ptr 5 0,.ptr 6 0] h (λr h'=>QJ A T lits h'∧h'[7]?=h[7]?∧r=.pv (BL (gZ A T lits x))):=by
 obtain⟨m,L,j,rfl⟩:=i;refine mB aC Tryz.func165 ?_;have hd:=LE A T lits 0 hs T.lits.length x T.lits.length m (D4 A T lits m++[L]) (λ_ h=>h) (Ir A T lits m L) j;have e:(D4 A T lits m++[L])[5]?=some [.pv (pR 0)]:=rfl;have f:(D4 A T lits m++[L])[6]?=some [.pv (ab T.lits.length)]:=rfl;have d:(D4 A T lits m++[L]).length=8:=rfl;have b:∀a,(D4 A T lits m++[L]).set 3 [.omap true (aG fI a)]=D4 A T lits a++[L]:=λ_=>rfl;have g:∀a,(D4 A T lits a++[L])[7]?=some L:=λ_=>rfl;have n:=g m;generalize o:D4 A T lits m++[L]=H at*;obtain⟨k,f5⟩:=SG.1 e;obtain⟨l,f6⟩:=SG.1 f;simp[k,f5,l,f6,pR];refine am.intro hd ?_ (by trivial);rintro _ _ ⟨a,c,rfl,rfl⟩;simp[gZ];rw[b a];exact⟨a,L,c,rfl⟩
def qI(A:Ar)(T:Tr)(lits:List Int):List Int:=lits.take 1++bk (gZ A T lits) (lits.drop 1)
def Is:Sch:=.take 0 (.take 1 (.take 2 (.take 3 (.fork [(4,.fork [(5,.fork [(6,.take 7 .done)])])]))))
theorem Ca(A:Ar)(T:Tr)(lits:List Int)(hs:ShOk A T lits)(I:T.lits.length<=1000000):ak Tryz.prog 93 [kw A,bM T,.seq false 1 (ae lits)] (λr=>r=.own true 1 (ae (qI A T lits))):=by
 refine xg [6] aC Tryz.func93 ?_;have b:=λh=>Io h A T lits;have i:=ge T I;have hcl:=eI lits hs.few;simp only[kw,pP,bM,cY]at b i;simp[kw,pP,bM,cY];refine ah.intro hcl ?_
 by_cases c:lits=[]
 .subst c;simp[qI,bk]
 have v:0<lits.length:=Up.2 c;simp[c];refine ah.introM (b _) ?_;rintro _ _ ⟨rfl,rfl⟩;simp[pR,In];refine⟨rfl,ah.intro i ?_⟩;simp;refine bc.one Is (by kernel_rfl) ?_;simp[Is];refine⟨by omega,?_⟩;have H:∀l:List Int,List.drop lits.length (ae lits)=[]:=λ_=>Tq (by simp)
 by_cases c1:lits.length=1
 .obtain⟨t,rfl⟩:=U8.1 c1;have n:qI A T [t]=[t]:=rfl;rw[n];generalize j:eC (aZ [[SV.pv (kw A)],[SV.pv (bM T)],[SV.pv (PV.seq false 1 (ae [t]))],[SV.omap true []],[SV.pv (PV.fn (Fn.func 244) [] [PV.ptr 1 0,PV.ptr 3 0,PV.ptr 0 0,PV.ptr 2 0,PV.ptr 4 0])],[SV.pv (PV.fn (Fn.func 244) [] [PV.ptr 1 0,PV.ptr 3 0,PV.ptr 0 0,PV.ptr 2 0,PV.ptr 4 0])],[SV.pv (PV.lit (Value.int .i64 T.lits.length))]] 3) [PV.ptr 5 0,PV.ptr 6 0]=cap;have C:=iZ [] (by simp) 165 cap (λ_=>false) (λr=>by rw[←j];simp[aZ,kw,pP,bM,cY]) (by rw[←j];rfl) (λk=>by rw[←j];simp[aZ,kw,pP,bM,cY]) (by rw[←j];simp[aZ,kw,pP,bM,cY,PV.old,qt,wW]) (λx hx=>by cases hx);refine ah.introX (bU.introS (o:=.slot 7) (lo:=1) (hi:=1) C (by simp) rfl rfl (by simp) (by simp) rfl (by simp[aB]) trivial (by simp) (by rw[←j];simp) ?_);rintro k q ⟨rfl,rfl⟩ _ _;have p:bk (λ_=>false) []=[]:=rfl;simp[p,aB,ae]
 .have y:1<lits.length:=by omega
  have E := λ (pre a : List Value) (cp : Nat) (d : (lits.drop 1).length <= cp) => B9 (lits.drop 1) (by have := hs.few; rw [TF]; omega) 165 [.ptr 5 0, .ptr 6 0] (gZ A T lits) 7 (QJ A T lits) rfl (LJ A T lits) pre a cp d (λ x _ h F => FL A T lits hs x h F) (D4 A T lits [] ++ [blk pre (lits.drop 1) a]) ⟨[], _, Iq A T lits, rfl⟩ rfl; refine ah.introX (bU.introB (s := 7) (lo := 1) (hi := lits.length) (nw := true) (all := lits) (zs := lits.drop 1) (R := λ k f u => k = some (bk (gZ A T lits) (lits.drop 1)).length ∧ f = bk (gZ A T lits) (lits.drop 1) ++ List.replicate ((lits.drop 1).length - (bk (gZ A T lits) (lits.drop 1)).length) 0 ∧ ∃ m, u = D4 A T lits m)
   rfl (by simp) rfl rfl rfl (by simp) y (by rw[Tw]) (by simp) (by simp) rfl (λpre a cp d J=>(E pre a cp d).mono ?_) ?_)
  .rintro r h' ⟨⟨m,L,M,rfl⟩,f,rfl,B,rfl⟩;have G:L=blk pre (bk (gZ A T lits) (lits.drop 1)++List.replicate ((lits.drop 1).length -(bk (gZ A T lits) (lits.drop 1)).length) 0) a:=VC B;subst G;have e:=jW (gZ A T lits) (lits.drop 1);refine⟨_,_,D4 A T lits m,⟨rfl,rfl,m,rfl⟩,by rw[SX,Vu];omega,λk hk=>by cases hk;exact e,rfl,by simp[D4,In,pR,pP,cY],rfl,rfl⟩
  .rintro k f u ⟨rfl,rfl,m,rfl⟩ _ _;have n:qI A T lits=lits.take 1++bk (gZ A T lits) (lits.drop 1):=rfl;have e:=jW (gZ A T lits) (lits.drop 1);have K:=hs.few;generalize bk (gZ A T lits) (lits.drop 1)=D at*;simp only[TF]at e;have g:(aB (lits.take 1++(D++List.replicate (lits.length -1 -D.length) 0))).length=lits.length:=by
    simp only[aB,SZ,SX,SU,Vu];omega
   simp[g];refine⟨by omega,?_⟩;rw[n];have h1:(lits.take 1).length=1:=by rw[SU];omega
   generalize lits.take 1=Z at*;obtain⟨z,rfl⟩:=U8.1 h1;have w:List.take (1+D.length) (aB ([z]++(D++List.replicate (lits.length -1 -D.length) 0)))=ae ([z]++D):=by
    unfold aB ae;rw[←U3,←Tn,UR (by simp;omega)]
   rw[w];rfl
end Go.AX
namespace Go.AX
open Go.Proofs
set_option linter.unusedSimpArgs false
def g8(l c:List Int)(v:Int):Nat:=(c.filter λy=>decide (bn l y=v)).length
def ep(l c:List Int):List Int:=c.filter λy=>decide (0<=aX y∧bn l y≠1∧bn l y≠-1)
theorem mL(l:List Int):∀(c:List Int)(a b z:Nat),a+c.length<=1000000->b+c.length<=1000000->z+c.length<=1000000->
 c.foldl (A5 l) ((a:Int),(b:Int),(z:Int))=(((a+g8 l c 1:Nat):Int),((b+g8 l c (-1):Nat):Int),((z+(ep l c).length:Nat):Int))
 |[],a,b,z,_,_,_=>by simp[g8,ep]
 |y::c,a,b,z,d,f,hz=>by
  simp only[To]at d f hz;rw[V8]
  by_cases c1:bn l y=1
  .have e:A5 l ((a:Int),(b:Int),(z:Int)) y=(((a+1:Nat):Int),(b:Int),(z:Int)):=by
    unfold A5;rw[SN c1,ao (by dsimp only;omega) (by dsimp only;omega)];simp
   rw[e,mL l c (a+1) b z (by omega) (by omega) (by omega)];simp[g8,ep,c1];omega
  .by_cases c2:bn l y=-1
   .have e:A5 l ((a:Int),(b:Int),(z:Int)) y=((a:Int),((b+1:Nat):Int),(z:Int)):=by
     unfold A5;rw[SM c1,SN c2,ao (by dsimp only;omega) (by dsimp only;omega)];simp
    rw[e,mL l c a (b+1) z (by omega) (by omega) (by omega)];simp[g8,ep,c1,c2];omega
   .by_cases c3:0<=aX y
    .have e:A5 l ((a:Int),(b:Int),(z:Int)) y=((a:Int),(b:Int),((z+1:Nat):Int)):=by
      unfold A5;rw[SM c1,SM c2,SN c3,ao (by dsimp only;omega) (by dsimp only;omega)];simp
     rw[e,mL l c a b (z+1) (by omega) (by omega) (by omega)];simp[g8,ep,c1,c2,c3];omega
    .have e:A5 l ((a:Int),(b:Int),(z:Int)) y=((a:Int),(b:Int),(z:Int)):=by
      unfold A5;rw[SM c1,SM c2,SM c3]
     rw[e,mL l c a b z (by omega) (by omega) (by omega)];simp[g8,ep,c1,c2,c3]
theorem gH(l:List Int)(y:Int):bn l y=0∨bn l y=1∨bn l y=-1:=by
 unfold bn;split
 .exact .inl rfl
 .split
  .exact .inr (.inl rfl)
  .split
   .exact .inr (.inr rfl)
   .exact .inl rfl
theorem tG(l:List Int):∀(c:List Int)(n:Int),c.foldl (Lw l) n=((ep l c).getLast?).getD n
 |[],n=>rfl
 |y::c,n=>by
  rw[V8,tG l c];have f:=gH l y
  by_cases c1:0<=aX y∧bn l y=0
  .have e:Lw l n y=y:=by unfold Lw;rw[SN c1]
   have a:ep l (y::c)=y::ep l c:=by
    unfold ep;rw[TQ,SN (by rw[S9];exact⟨c1.1,by omega,by omega⟩)]
   rw[e,a,List.getLast?_cons];rfl
  .have e:Lw l n y=n:=by unfold Lw;rw[SM c1]
   have a:ep l (y::c)=ep l c:=by
    unfold ep;rw[TQ,SM (by rw[S9];rintro⟨b,d,a3⟩;exact c1 ⟨b,by omega⟩)]
   rw[e,a]
theorem LK{l c:List Int}(p:c.length<=1000)(hx:∀y∈c,0<=aX y)(h:(cK l c).2=true):(cK l c).1∈c∧bn l (cK l c).1=0∧∀y∈c,y≠(cK l c).1->bn l y=-1:=by
 have o:=mL l c 0 0 0 (by omega) (by omega) (by omega);have f:yf l c=(((0+g8 l c 1:Nat):Int),((0+g8 l c (-1):Nat):Int),((0+(ep l c).length:Nat):Int)):=o;have h0:g8 l c 1=0∧(ep l c).length=1∧(cK l c).1=c.foldl (Lw l) 0:=by
  unfold cK at h⊢;rw[f]at h⊢;dsimp only at h⊢
  by_cases e:((0+g8 l c 1:Nat):Int)≠0∨((0+(ep l c).length:Nat):Int)≠1
  .rw[SN e]at h;cases h
  .rw[SM e];refine⟨by omega,by omega,rfl⟩
 obtain⟨h1,k,m⟩:=h0;obtain⟨x,b⟩:=U8.1 k;have n:(cK l c).1=x:=by rw[m,tG,b];rfl
 have j:x∈ep l c:=by rw[b];simp
 have a:=j;unfold ep at a;rw[TE,S9]at a;rw[n];have v3:=gH l x;refine⟨a.1,by omega,λy hy i=>?_⟩;have d:=gH l y;have g:bn l y≠1:=λe=>by
  have:y∈c.filter λy=>decide (bn l y=1):=by rw[TE];exact⟨hy,by simpa using e⟩
  unfold g8 at h1;rw[US h1]at this;cases this
 rcases d with d|d|d
 .have:y∈ep l c:=by
   unfold ep;rw[TE,S9];exact⟨hy,hx y hy,by omega,by omega⟩
  rw[b]at this;simp at this;exact absurd this i
 .exact absurd d g
 .exact d
structure Cls6 (cs:List (List Int)) (ats:List Int):Prop where
  len:∀c∈cs,c.length<=1000
  chk:∀c∈cs,∀y∈c,ay y 6=0
  pos:∀k,k<cs.length->0<=ats.getD k 0
theorem Se{y:Int}(h:ay y 6=0):y≠0∧-6<=y∧y<=6∧0<=aX y∧aY (-y)=-y:=by
 obtain⟨a,b,c⟩:=(dm (by omega)).1 h;refine⟨a,b,c,?_,ao (by omega) (by omega)⟩;rw[gP];exact(a8 y).2 ⟨a,by omega,by omega⟩
theorem xJ{l:List Int}{y:Int}(h:bn l y=-1):aY (-y)∈l:=by
 unfold bn at h;split at h
 .omega
 .split at h
  .omega
  .split at h
   .assumption
   .omega
def DkR(D:DK):Prop:=∀i (hi:i<D.t.rows.length),D.t.rows[i].rea<0∨(isA D.A D.t.rows[i].rea=true∧D.t.rows[i].l∈au D.A D.t.rows[i].rea∧∀y∈au D.A D.t.rows[i].rea,ay y 6=0∧(y≠D.t.rows[i].l->aY (-y)∈(D.t.rows.take i).map (·.l)))
structure DeskOk (D:DK):Prop where
  rel:RelD D.T D.t
  relA:RelA D.A D.a
  rea:DkR D
  len:D.A.row.length<=1000000
theorem Cb{A:Ar}{q:Int}(h:isA A q=true):A.hd≠[]:=λe=>by
 unfold isA at h;rw[e]at h;simp[lk]at h
theorem xK{α:Type}{p:α->Bool}:∀{l:List α}{j:Nat}(hj:j<l.length),p l[j]=true->0<=gp p l∧gp p l<=j:=by
 intro l j hj h;unfold gp;cases a:l.findIdx? p with
 |none=>
  rw[Vr]at a;have:=a _ (SS hj);rw[h]at this;cases this
 |some i=>
  rw[UF]at a;obtain⟨h1,d,c⟩:=a;dsimp only;refine⟨by omega,?_⟩;apply Int.ofNat_le.2;apply Uu;intro b;exact c j b h
theorem It(A:Ar)(T:Tr)(c:List Int):List.Sublist (qI A T c) c:=by
 have h:List.Sublist (c.take 1++bk (gZ A T c) (c.drop 1)) (c.take 1++c.drop 1):=List.Sublist.append (Xh _) VD;rw[TY]at h;exact h
@[simp ↓ high] theorem QK{P:Program}{st:St}{a:Prop}{o:Op}{d:Option Tmp}{K:St->Prop}(h:a):Dt P st a o d K=AE P st o d K:=
 propext ⟨λx=>x.1 h,λx=>⟨λ_=>x,λhn=>absurd h hn⟩⟩
instance:Inhabited Ro:=⟨⟨0,0,[]⟩⟩
theorem dF(l:Int):af (-l)=af l:=by
 unfold af;rw[Lm];unfold fp;split
 .split<;>split<;>omega
 .rfl
theorem tH(l:List Int):∀(c:List Int)(n:Int),-1<=n->n<=c.foldl (zp l) n∧(c.foldl (zp l) n=-1↔n=-1∧∀y∈c,0<=aX y->bn l y=-1)
 |[],n,h=>by simp
 |y::c,n,h=>by
  have f:=gH l y;rw[V8]
  by_cases q:0<=aX y∧n<bn l y
  .have e:zp l n y=bn l y:=by unfold zp;rw[SN q]
   rw[e];obtain⟨d,g2⟩:=tH l c (bn l y) (by omega);refine⟨by omega,?_⟩;constructor
   .intro g;omega
   .rintro⟨b,a⟩;have:=a y (Tj ..) q.1;omega
  .have e:zp l n y=n:=by unfold zp;rw[SM q]
   rw[e];obtain⟨d,g2⟩:=tH l c n h;refine⟨d,?_⟩;rw[g2];constructor
   .rintro⟨b,a⟩;refine⟨b,λz hz hx=>?_⟩;rcases Tp.1 hz with rfl|hz
    .omega
    .exact a z hz hx
   .rintro⟨b,a⟩;exact⟨b,λz hz=>a z (Tf _ hz)⟩
theorem lG{l c:List Int}:sm l c=-1↔∀y∈c,0<=aX y->bn l y=-1:=by
 have:=(tH l c (-1) (by omega)).2;unfold sm;rw[this];exact⟨λh=>h.2,λh=>⟨rfl,h⟩⟩
theorem zB{l:List Int}{x:Int}(d:bn l x=0)(a:0<=aX x):∀{c:List Int},c.Nodup->x∈c->(∀y∈c,y≠x->bn l y=-1)->ep l c=[x]
 |[],_,h,_=>by cases h
 |y::c,hn,b,ho=>by
  rw[UE]at hn;unfold ep
  by_cases e:y=x
  .subst e;rw[TQ,SN (by rw[S9];exact⟨a,by omega,by omega⟩)];congr 1;rw[Uz];intro z hz;have:=ho z (Tf _ hz) (λe=>hn.1 (e▸hz));simp[this]
  .have hy:=ho y (Tj ..) e;rw[TQ,SM (by simp[hy])];rcases Tp.1 b with rfl|b
   .exact absurd rfl e
   .exact zB d a hn.2 b (λz hz=>ho z (Tf _ hz))
theorem unit_of{l c:List Int}{x:Int}(i:c.length<=1000)(hn:c.Nodup)(h:x∈c)(b:0<=aX x)(d:bn l x=0)(ho:∀y∈c,y≠x->bn l y=-1):cK l c=(x,true):=by
 have g:=mL l c 0 0 0 (by omega) (by omega) (by omega);have a:yf l c=(((0+g8 l c 1:Nat):Int),((0+g8 l c (-1):Nat):Int),((0+(ep l c).length:Nat):Int)):=g;have h1:=zB d b hn h ho;have f:g8 l c 1=0:=by
  unfold g8;rw[Uh,Uz];intro y hy
  by_cases e:y=x
  .subst e;simp[d]
  .simp[ho y hy e]
 unfold cK;rw[a,h1,f,tG,h1];simp
structure ClsN (cs:List (List Int)) (ats:List Int):Prop extends Cls6 cs ats where
  nd:∀c∈cs,c.Nodup
def Calm(cs:List (List Int))(ls:List Int):Prop:=∀c∈cs,(cK ls c).2=false∧sm ls c≠-1
def dL(t:RT):List Int:=t.rows.map (·.l)
def bel(t:RT)(k:Int):List Int:=(t.rows.filter λx=>decide (x.lev<k)).map (·.l)
inductive Tra (cs:List (List Int)) (ats:List Int):RT->Prop
  |nil:Tra cs ats ⟨6,[],0⟩
  |dec {t:RT} {l:Int}:Tra cs ats t->mayR t l=0->Calm cs (dL t)->Tra cs ats ⟨t.vars,t.rows++[⟨l,t.dep+1,-1⟩],t.dep+1⟩
  |imp {t:RT} {k:Nat} {x:Int} (hk:k<cs.length):Tra cs ats t->mayR t x=0->cK (dL t) cs[k]=(x,true)->Tra cs ats ⟨t.vars,t.rows++[⟨x,t.dep,ats.getD k 0⟩],t.dep⟩
theorem LL{t:RT}(h:∀x∈t.rows,x.lev<=t.dep):bel t (t.dep+1)=dL t:=by
 unfold bel dL;rw[Uw.2];intro x hx;have:=h x hx;simp;omega
theorem gQ{t:RT}{k:Int}:∀y∈bel t k,y∈dL t:=by
 intro y hy;unfold bel at hy;obtain⟨x,hx,rfl⟩:=SY.1 hy;exact SY.2 ⟨x,(TE.1 hx).1,rfl⟩
theorem Iu{t:RT}{l:Int}(h:mayR t l=0):ay l t.vars=0∧qG t (af l)<0:=by
 unfold mayR at h;split at h
 .cases h
 .rename_i c1;split at h
  .cases h
  .exact⟨by simpa using c1,by omega⟩
theorem xL{t:RT}{v:Int}(h:qG t v<0):∀x∈t.rows,af x.l≠v:=by
 intro x hx e;obtain⟨j,hj,rfl⟩:=S6 hx;have:=xK (p:=λx:En=>decide (af x.l=v)) hj (by simp[e]);unfold qG at h;omega
structure TraF (cs:List (List Int)) (ats:List Int) (t:RT):Prop where
  vars:t.vars=6
  dep:0<=t.dep
  chk:∀x∈t.rows,ay x.l 6=0
  nd:(t.rows.map λx=>af x.l).Nodup
  lev:∀x∈t.rows,0<=x.lev∧x.lev<=t.dep
  mono:∀i j (hi:i<t.rows.length)(hj:j<t.rows.length),i<j->t.rows[i].lev<=t.rows[j].lev
  dec:∀i (hi:i<t.rows.length),t.rows[i].rea<0->0<t.rows[i].lev∧∀j (hj:j<t.rows.length),j<i->t.rows[j].lev<t.rows[i].lev
  top:0<t.dep->Calm cs (bel t t.dep)
  fst:∀k:Int,0<k->k<=t.dep->∃x∈t.rows,x.lev=k∧x.rea<0
  imp:∀i (hi:i<t.rows.length),0<=t.rows[i].rea->∃k,∃hk:k<cs.length,t.rows[i].rea=ats.getD k 0∧t.rows[i].l∈cs[k]∧(∀y∈cs[k],y≠t.rows[i].l->∃j,∃hj:j<t.rows.length,j<i∧t.rows[j].l=-y)∧
    (0<t.rows[i].lev->∃y∈cs[k],y≠t.rows[i].l∧∃j,∃hj:j<t.rows.length,j<i∧t.rows[j].l=-y∧t.rows[j].lev=t.rows[i].lev)
theorem ja{α:Type}{l:List α}{x:α}{i:Nat}(h:i<(l++[x]).length):(∃hi:i<l.length,(l++[x])[i]=l[i])∨(i=l.length∧(l++[x])[i]=x):=by
 by_cases c:i<l.length
 .exact .inl ⟨c,TB c⟩
 .have:i=l.length:=by simp at h;omega
  subst this;exact .inr ⟨rfl,by simp⟩
theorem TraF.inj{cs:List (List Int)}{ats:List Int}{t:RT}(h:TraF cs ats t){i j:Nat}(hi:i<t.rows.length)(hj:j<t.rows.length)(e:af t.rows[i].l=af t.rows[j].l):i=j:=by
 have hn:=Tv.1 (UC.1 h.nd);rcases UB i j with c|c|c
 .exact absurd e (hn i j hi hj c)
 .exact c
 .exact absurd e.symm (hn j i hj hi c)
theorem TraF.one{cs:List (List Int)}{ats:List Int}{t:RT}(h:TraF cs ats t){y:Int}(hy:ay y 6=0):¬(y∈dL t∧-y∈dL t):=by
 rintro⟨h1,d⟩;unfold dL at h1 d;obtain⟨a,g,e⟩:=SY.1 h1;obtain⟨b,k,f⟩:=SY.1 d;obtain⟨i,hi,rfl⟩:=S6 g;obtain⟨j,hj,rfl⟩:=S6 k;have m:af t.rows[i].l=af t.rows[j].l:=by rw[e,f,dF]
 have c:i=j:=h.inj hi hj m;subst c;obtain⟨n0,_⟩:=Se hy;omega
structure Way (cs:List (List Int)) (ats:List Int) (D:DK):Prop where
  rel:RelD D.T D.t
  tra:Tra cs ats D.t
  con:(D.con<0∧Calm cs (dL D.t))∨∃k,∃hk:k<cs.length,D.con=ats.getD k 0∧sm (dL D.t) cs[k]=-1
theorem FM{l:List Int}(h:lT l l.length=0):l.Nodup:=by
 refine Tv.2 λi j hi hj b e=>?_;have a:=tt l (i:=j+1) l.length (by omega);rw[lT]at a;have:l.getD j 0∈l.take j:=by
  rw[SI,SH hj,Tx,←e];rw[Ug];exact⟨i,by omega,rfl⟩
 rw[SN this]at a;omega
structure DeskT (cs:List (List Int)) (ats:List Int) (D:DK):Prop where
  ok:DeskOk D
  cls:ClsN cs ats
  way:Way cs ats D
  ars:∀k (hk:k<cs.length),isA D.A (ats.getD k 0)=true∧au D.A (ats.getD k 0)=cs[k]
structure PS where
  seen:List (Int×Int)
  lits:List Int
  many:Nat
def aA(s:List (Int×Int))(v:Int):Bool:=decide (0<(lk s v).getD 0)
def dU(T:Tr)(l:Int):Int:=(dA T (af l)).1.lev
def takeF(T:Tr)(but:Int)(p:PS)(l:Int):PS:=
 if af l=but∨aA p.seen (af l)=true∨dU T l<=0 then p
 else if dU T l=T.beg.length then⟨pt p.seen (af l) 1,p.lits,p.many+1⟩else⟨pt p.seen (af l) 1,p.lits++[l],p.many⟩
def dz(T:Tr)(but:Int)(c:List Int)(p:PS):PS:=c.foldl (takeF T but) p
def nW(T:Tr)(p:PS)(l:Int):Bool:=aA p.seen (af l)&&(decide (dU T l=T.beg.length)&&decide (0<=(dA T (af l)).1.rea))
def oO(A:Ar)(T:Tr)(p:PS)(l:Int):PS:=dz T (af l) (au A (dA T (af l)).1.rea) ⟨pt p.seen (af l) 0,p.lits,p.many -1⟩
def cO(A:Ar)(T:Tr)(all:List Int):Nat->PS->PS
 |0,p=>p
 |n+1,p=>if p.many<=1 then p else if nW T p (all.getD n 0)=true then cO A T all n (oO A T p (all.getD n 0))else cO A T all n p
def rM(T:Tr)(all:List Int)(p:PS):List Int:=p.lits++(all.filter λl=>aA p.seen (af l)&&decide (dU T l=T.beg.length)).map λl=>aY (-l)
/-! ### Places of what is assigned -/
theorem TraF.pla{cs:List (List Int)}{ats:List Int}{t:RT}(h:TraF cs ats t){j:Nat}(hj:j<t.rows.length):qG t (af t.rows[j].l)=j:=by
 have h1:=xK (p:=λx:En=>decide (af x.l=af t.rows[j].l)) hj (by simp);obtain⟨i,hi,a,b⟩:=lw (t:=t) (v:=af t.rows[j].l) h1.1;have:=h.inj hi hj b;subst this;exact a
theorem qJ{t:RT}{j:Nat}(hj:j<t.rows.length){y:Int}(hy:t.rows[j].l=-y):af y=af t.rows[j].l:=by rw[hy,dF]
theorem jb{t:RT}{j:Nat}(hj:j<t.rows.length){y:Int}(hy:t.rows[j].l=-y):y=-t.rows[j].l:=by omega
/-! ### Counting -/
theorem oP{α:Type}{P Q:α->Bool}:∀{l:List α}{j:Nat}(hj:j<l.length),P l[j]=false->Q l[j]=true->(∀i (hi:i<l.length),i≠j->Q l[i]=P l[i])->l.countP Q=l.countP P+1
 |[],j,hj,_,_,_=>by simp at hj
 |x::l,0,hj,a,b,ho=>by
  simp only[Vp]at a b;have:l.countP Q=l.countP P:=by
   apply List.countP_congr;intro y hy;obtain⟨i,hi,rfl⟩:=S6 hy;have:=ho (i+1) (by simpa using hi) (by omega);simp only[VE]at this;rw[this]
  rw[VH,VH,this,a,b];simp
 |x::l,j+1,hj,a,b,ho=>by
  simp only [VE] at a b; have h0 := ho 0 (by simp) (by omega); simp only [Vp] at h0; have := oP (l := l) (j := j) (by simpa using hj) a b (λ i hi c => by
   have:=ho (i+1) (by simpa using hi) (by omega);simpa using this)
  rw[VH,VH,this,h0];omega
theorem tI{α:Type}{P:α->Bool}:∀{l:List α},2<=l.countP P->∃i j,∃hi:i<l.length,∃hj:j<l.length,i<j∧P l[i]=true∧P l[j]=true
 |[],h=>by simp at h
 |x::l,h=>by
  rw[VH]at h
  by_cases c:P x=true
  .rw[SN c]at h;have:0<l.countP P:=by omega
   rw[W8]at this;obtain⟨y,hy,hp⟩:=this;obtain⟨j,hj,rfl⟩:=S6 hy;exact⟨0,j+1,by simp,by simpa using hj,by omega,by simpa using c,by simpa using hp⟩
  .rw[SM c]at h;obtain⟨i,j,hi,hj,a,b,d⟩:=tI (l:=l) (by omega);exact⟨i+1,j+1,by simpa using hi,by simpa using hj,by omega,by simpa using b,by simpa using d⟩
/-! ### What is known while a conflict is taken apart -/
structure LI (t:RT) (p:PS) (n:Nat):Prop where
  sn:∀v,aA p.seen v=true->∃j,∃hj:j<t.rows.length,af t.rows[j].l=v∧0<t.rows[j].lev∧(t.rows[j].lev=t.dep->j<n∨t.rows[j].rea<0)
  li:∀l∈p.lits,∃j,∃hj:j<t.rows.length,t.rows[j].l=-l∧0<t.rows[j].lev∧t.rows[j].lev<t.dep
  ls:∀j (hj:j<t.rows.length),aA p.seen (af t.rows[j].l)=true->t.rows[j].lev<t.dep->-t.rows[j].l∈p.lits
  mn:p.many=t.rows.countP (λx=>aA p.seen (af x.l)&&decide (x.lev=t.dep))
theorem nx(s:List (Int×Int))(v w:Int)(n:Int):aA (pt s v n) w=if v=w then decide (0<n)else aA s w:=by
 unfold aA;rw[bJ];split<;>rfl
theorem NV(t:RT)(n:Nat):LI t ⟨[],[],0⟩ n where
 sn:=λv h=>by simp[aA,lk]at h
 li:=by simp
 ls:=λj hj h=>by simp[aA,lk]at h
 mn:=by
  symm;rw[W9];intro x _;simp[aA,lk]
/-! ### The one literal of the greatest level first -/
def cL(T:Tr)(out:List Int):Nat->Int×Nat×Nat
 |0=>(-1,0,0)
 |i+1=>if(cL T out i).1<dU T (out.getD i 0)then(dU T (out.getD i 0),1,i)
  else if dU T (out.getD i 0)=(cL T out i).1 then((cL T out i).1,(cL T out i).2.1+1,(cL T out i).2.2)else cL T out i
def Iv(T:Tr)(out:List Int):List Int:=if(cL T out out.length).2.1=1 then out.getD (cL T out out.length).2.2 0::out.eraseIdx (cL T out out.length).2.2 else out
def Iw(T:Tr)(lits:List Int):List Int:=Iv T (eJ lits)
def iq(A:Ar)(T:Tr)(con:Int):PS:=dz T 0 (au A con) ⟨[],[],0⟩
def dy(A:Ar)(T:Tr)(con:Int):List Int:=Iw T (rM T T.lits (cO A T T.lits T.lits.length (iq A T con)))
theorem zC{T:Tr}{out:List Int}{k:Nat}(hk:k<out.length)(h0:0<=dU T out[k])(ho:∀i (hi:i<out.length),i≠k->dU T out[i]<dU T out[k]):∀i,i<=out.length->
 if k<i then cL T out i=(dU T out[k],1,k)else(cL T out i).1<dU T out[k]
 |0,_=>by rw[SM (by omega)];simp only[cL];omega
 |i+1,hi=>by
  have a:=zC hk h0 ho i (by omega);have b:out.getD i 0=out[i]:=by rw[SI,SH (by omega)];rfl
  rw[cL,b]
  by_cases c:k<i
  .rw[SN c]at a;have:=ho i (by omega) (by omega);rw[SN (by omega),a];dsimp only;rw[SM (by omega),SM (by omega)]
  .rw[SM c]at a
   by_cases e:k=i
   .subst e;rw[SN (by omega),SN a]
   .have:=ho i (by omega) (by omega);rw[SM (by omega)];split
    .exact this
    .split
     .exact a
     .exact a
theorem LM{T:Tr}{out:List Int}{k:Nat}(hk:k<out.length)(h0:0<=dU T out[k])(ho:∀i (hi:i<out.length),i≠k->dU T out[i]<dU T out[k]):Iv T out=out[k]::out.eraseIdx k:=by
 have:=zC hk h0 ho out.length (SQ _);rw[SN hk]at this;unfold Iv;rw[this,SN rfl,SI,SH hk];rfl
theorem mM{l:List Int}{k:Nat}(hk:k<l.length)(x:Int):x∈l[k]::l.eraseIdx k↔x∈l:=by
 rw[Tp,V5];constructor
 .rintro(rfl|⟨i,hi,_,rfl⟩)
  .exact SS hk
  .exact SS _
 .intro h;obtain⟨i,hi,rfl⟩:=S6 h
  by_cases e:i=k
  .subst e;exact .inl rfl
  .exact .inr ⟨i,hi,e,rfl⟩
theorem vR{l:List Int}(h:l.Nodup){i j:Nat}(hi:i<l.length)(hj:j<l.length)(e:l[i]=l[j]):i=j:=by
 have hn:=Tv.1 h;rcases UB i j with c|c|c
 .exact absurd e (hn i j hi hj c)
 .exact c
 .exact absurd e.symm (hn j i hj hi c)
theorem zD(c:List Int):(eJ c).Nodup:=(pF c).1.imp λh e=>by rw[e]at h;omega
/-! ### What reasons show -/
inductive HOk (A:Ar) (T:Tr) (R:List Int):Int->Prop
  |stop {l:Int}:l∈R->HOk A T R l
  |why {l:Int}:cz T l<0->0<=(dA T (af l)).1.rea->isA A (dA T (af l)).1.rea=true->(∀y∈au A (dA T (af l)).1.rea,y≠-l->HOk A T R y)->HOk A T R l
def Fr(D:DK)(p:PS)(R:List Int):Prop:=∀j (hj:j<D.t.rows.length),aA p.seen (af D.t.rows[j].l)=true->HOk D.A D.T R (-D.t.rows[j].l)
structure Conf (D:DK) (con:Int):Prop where
  is:isA D.A con=true
  neg:∀y∈au D.A con,ay y 6=0∧∃j,∃hj:j<D.t.rows.length,D.t.rows[j].l=-y
  top:0<D.t.dep->∃y∈au D.A con,∃j,∃hj:j<D.t.rows.length,D.t.rows[j].l=-y∧D.t.rows[j].lev=D.t.dep
structure Learnt (D:DK) (L:List Int):Prop where
  nd:L.Nodup
  neg:∀y∈L,ay y 6=0∧∃j,∃hj:j<D.t.rows.length,D.t.rows[j].l=-y∧0<D.t.rows[j].lev
  nil:D.t.dep=0->L=[]
  top:0<D.t.dep->∃u r,L=u::r∧dU D.T u=D.t.dep∧∀y∈r,dU D.T y<D.t.dep
theorem oQ{α:Type}{P:α->Bool}:∀{l:List α}{i j:Nat}(b:i<j)(hj:j<l.length),P (l[i]'(by omega))=true->P l[j]=true->2<=l.countP P
 |[],i,j,_,hj,_,_=>by simp at hj
 |x::l,0,j+1,_,hj,h1,a=>by
  simp only[Vp,VE]at h1 a;have:0<l.countP P:=W8.2 ⟨_,SS (by simpa using hj),a⟩;rw[VH,SN h1];omega
 |x::l,i+1,j+1,b,hj,h1,a=>by
  simp only[VE]at h1 a;have:=oQ (l:=l) (i:=i) (j:=j) (by omega) (by simpa using hj) h1 a;rw[VH];omega
theorem FN:eJ []=[]:=by
 have:=(pF []).2;cases e:eJ []with
 |nil=>rfl
 |cons x l=>have h:=(this x).1 (by rw[e];simp);simp at h
end Go.AX
namespace Go.AX
set_option maxRecDepth 16000
open Go.Proofs
set_option linter.unusedSimpArgs false
def jg(A:Ar)(T:Tr)(p:PS):List SV:=[.pv (kw A),.pv (bM T),.omap true (aG fI p.seen),.own true 1 (ae p.lits),.pv (ab p.many)]
@[simp] theorem QL(r:Nat->Nat->PV)(A:Ar):eC r (pP A)=pP A:=by simp[pP]
@[simp] theorem QM(r:Nat->Nat->PV)(T:Tr):eC r (cY T)=cY T:=by simp[cY]
@[simp] theorem NW(k:Nat)(A:Ar):bR k (pP A):=by simp[pP]
@[simp] theorem NX(k:Nat)(T:Tr):bR k (cY T):=by simp[cY]
theorem aS(k:Nat)(A:Ar)(T:Tr)(p:PS):cD k (jg A T p):=⟨⟨⟨aT k _,iL k _,trivial⟩,trivial⟩,⟨⟨oE k _,aT k _,aT k _,trivial,trivial⟩,trivial⟩,iL k _,aT k _,trivial,trivial⟩
theorem Ix(T:Tr)(but:Int)(p:PS)(l:Int):(takeF T but p l).many<=p.many+1∧(takeF T but p l).lits.length<=p.lits.length+1:=by
 unfold takeF;split
 .exact⟨by omega,by omega⟩
 .split
  .exact⟨by simp,by simp⟩
  .exact⟨by simp,by simp⟩
theorem kb(T:Tr)(but:Int):∀(c:List Int)(p:PS),(dz T but c p).many<=p.many+c.length∧(dz T but c p).lits.length<=p.lits.length+c.length
 |[],p=>⟨SQ _,SQ _⟩
 |y::c,p=>by
  have h1:=Ix T but p y;have a:=kb T but c (takeF T but p y);have e:dz T but (y::c) p=dz T but c (takeF T but p y):=rfl;rw[e,To];omega
theorem tJ(T:Tr)(but:Int)(c:List Int)(p:PS){i:Nat}(h:i<c.length):dz T but (c.take (i+1)) p=takeF T but (dz T but (c.take i) p) c[i]:=bd _ _ _ _ h
theorem Iy(A:Ar)(T:Tr)(p:PS)(q but:Int)(ht:T.ok)(h0:A.hd≠[])(hk:j9 A)(k:A.row.length<=1000000)(m:p.many<=1000000000)(hp:p.lits.length<=1000000000):
 ax Tryz.prog 161 [.ptr 0 0,ab q,ab but] [jg A T p] (λr h'=>h'=[jg A T (dz T but (au A q) p)]∧r=.pv (.tup [])):=by
 refine dR [] [] [jg A T (dz T but (au A q) p)] (by simp) (λ_=>⟨aS _ _ _ _,trivial⟩) aC Tryz.func161 ?_;have j:=ka A h0 hk k q;have l:=fT A hk q;generalize au A q=c at*;simp[jg];refine ah.intro j ?_;simp;refine aF.intro (S:=λ(i:Nat)=>⟨[(0,.pv (.ptr 0 0)),(2,.pv (ab but)),(6,.pv (.fn (.func 170) [bM T] [])),(20,.own true 1 (ae c)),(21,.pv (ab c.length)),(22,.pv (ab i))],[jg A T (dz T but (c.take i) p)]⟩) (λi=>i<=c.length) (λi=>c.length -i) 0 ?_ (Te _) ?_
 .exact ai.to (by simp) (by simp[jg,dz]) (by simp) (by simp) (by simp[aS])
 intro i hi
 by_cases h:i<c.length
 rotate_left
 .have f:i=c.length:=by omega
  subst f;simp[jg,gd]
 have d:=dZ i;have hs:=tJ T but c p h;have hle:=kb T but (c.take i) p;rw[SU]at hle;generalize dz T but (c.take i) p=s at*;have b:=fO T (af c[i]) ht;simp[h,jg];refine ah.intro (aI c[i]) ?_;simp;refine aV.intro (λ_=>b) ?_
 by_cases c1:af c[i]=but
 .have hd:takeF T but s c[i]=s:=by unfold takeF;rw[SN (.inl c1)]
  simp[c1];refine⟨i+1,by(try dsimp only);omega,by(try dsimp only);omega,ai.to (by simp[d]) (by simp[jg,hs,hd]) (by simp) (by simp) (by simp[aS])⟩
 by_cases c2:0<(lk s.seen (af c[i])).getD 0
 .have hd:takeF T but s c[i]=s:=by unfold takeF;rw[SN (.inr (.inl (by simpa[aA]using c2)))]
  simp[c1,c2];refine⟨i+1,by(try dsimp only);omega,by(try dsimp only);omega,ai.to (by simp[d]) (by simp[jg,hs,hd]) (by simp) (by simp) (by simp[aS])⟩
 have a:(lk s.seen (af c[i])).getD 0<=0:=by omega
 by_cases c3:(dA T (af c[i])).1.lev<=0
 .have hd:takeF T but s c[i]=s:=by unfold takeF;rw[SN (.inr (.inr c3))]
  simp[c1,c2,a,c3];refine⟨i+1,by(try dsimp only);omega,by(try dsimp only);omega,ai.to (by simp[d]) (by simp[jg,hs,hd]) (by simp) (by simp) (by simp[aS])⟩
 have hd:takeF T but s c[i]=if(dA T (af c[i])).1.lev=T.beg.length then⟨pt s.seen (af c[i]) 1,s.lits,s.many+1⟩else⟨pt s.seen (af c[i]) 1,s.lits++[c[i]],s.many⟩:=by
  unfold takeF;rw[SM]
  .rfl
  rintro(e|e|e)
  .exact c1 e
  .exact c2 (by simpa[aA]using e)
  .exact c3 e
 simp[c1,c2,a,c3];refine bE.intro b ?_;simp;refine bE.intro (nu T) ?_
 by_cases c4:(dA T (af c[i])).1.lev=T.beg.length
 .rw[SN c4]at hd;have g:=dZ s.many;simp[c4];refine⟨i+1,by(try dsimp only);omega,by(try dsimp only);omega,ai.to (by simp[d]) (by simp[jg,hs,hd,g]) (by simp) (by simp) (by simp[aS])⟩
 .rw[SM c4]at hd;simp[c4];refine⟨by omega,i+1,by(try dsimp only);omega,by(try dsimp only);omega,ai.to (by simp[d]) (by simp[jg,hs,hd,ae]) (by simp) (by simp) (by simp[aS])⟩
def kg(T:Tr)(p:PS)(all:List Int):Nat->Int
 |0=>-1
 |n+1=>if nW T p (all.getD n 0)=true then(n:Int)else kg T p all n
theorem FO(A:Ar)(T:Tr)(all:List Int)(p:PS)(h:p.many<=1):∀k,cO A T all k p=p
 |0=>rfl
 |k+1=>by rw[cO,SN h]
theorem zF(A:Ar)(T:Tr)(all:List Int)(p:PS):∀k,(kg T p all k=-1∧cO A T all k p=p)∨∃j,j<k∧kg T p all k=(j:Int)∧(1<p.many->cO A T all k p=cO A T all j (oO A T p (all.getD j 0)))
 |0=>.inl ⟨rfl,rfl⟩
 |k+1=>by
  rw[kg,cO]
  by_cases c:nW T p (all.getD k 0)=true
  .rw[SN c,SN c];exact .inr ⟨k,by omega,rfl,λh=>by rw[SM (by omega)]⟩
  .rw[SM c,SM c];rcases zF A T all p k with⟨h1,a⟩|⟨j,h1,a,b⟩
   .refine .inl ⟨h1,?_⟩;split
    .rfl
    .exact a
   .refine .inr ⟨j,by omega,a,λh=>?_⟩;rw[SM (by omega)];exact b h
theorem Iz(A:Ar)(T:Tr)(p:PS)(all:List Int)(n:Nat)(ht:T.ok)(hn:n<=all.length)(q:all.length<=1000000):
 ax Tryz.prog 240 [.ptr 0 0,.seq false 1 (ae all),ab ((n:Int) -1)] [jg A T p] (λr h'=>h'=[jg A T p]∧r=.pv (ab (kg T p all n))):=by
 refine dR [] [.tmp 6] [jg A T p] (by simp) (λ_=>⟨aS _ _ _ _,trivial⟩) aC Tryz.func240 ?_;generalize l:kg T p all n=F;simp;refine aF.intro (S:=λ(k:Nat)=>⟨[(0,.pv (.ptr 0 0)),(1,.pv (.seq false 1 (ae all))),(7,.pv (ab ((k:Int) -1)))],[jg A T p]⟩) (λk=>k<=n∧F=kg T p all k) (λk=>k) n ?_ ⟨SQ _,l.symm⟩ ?_
 .exact ai.to (by simp) (by simp) (by simp) (by simp) (by simp[aS])
 rintro k ⟨hk,a⟩;cases k with
 |zero=>simp[kg]at a;subst a;simp[gd]
 |succ j=>
  have hj:j<all.length:=by omega
  have m:all.getD j 0=all[j]:=by rw[SI,SH hj];rfl
  have o:aY ((j:Int) -1)=(j:Int) -1:=ao (by omega) (by omega);have c:=fO T (af all[j]) ht;have e:=gE T (af all[j]) ht;have d:kg T p all (j+1)=if nW T p all[j]=true then(j:Int)else kg T p all j:=by rw[kg,m]
  have i:nW T p all[j]=(decide (0<(lk p.seen (af all[j])).getD 0)&&(decide ((dA T (af all[j])).1.lev=T.beg.length)&&decide (0<=(dA T (af all[j])).1.rea))):=rfl;rw[d,i]at a;simp[hj,jg];refine ah.intro (aI all[j]) ?_;simp;refine dI.intro (λ_=>c) ?_;simp;refine dI.intro (λ_=>nu T) ?_;simp;refine dI.intro (λ_=>e) ?_
  by_cases b:(0<(lk p.seen (af all[j])).getD 0∧(dA T (af all[j])).1.lev=T.beg.length)∧0<=(dA T (af all[j])).1.rea
  .obtain⟨⟨f,g⟩,h⟩:=b;rw[SN (by simp[f,g,h])]at a;subst a;simp[f,g,h,gd,jg]
  .rw[SM (by simpa[and_assoc]using b)]at a;simp[b];refineλ_=>⟨j,by(try dsimp only);omega,⟨by(try dsimp only);omega,a⟩,ai.to (by simp[o]) (by simp[jg]) (by simp) (by simp) (by simp[aS])⟩
end Go.AX
namespace Go.AX
open Go.Proofs
set_option linter.unusedSimpArgs false
theorem LO(A:Ar)(T:Tr)(hk:j9 A)(b:A.row.length<=1000000)(p:PS)(l:Int):(oO A T p l).many<=p.many+1000000∧(oO A T p l).lits.length<=p.lits.length+1000000:=by
 have h:=kb T (af l) (au A (dA T (af l)).1.rea) ⟨pt p.seen (af l) 0,p.lits,p.many -1⟩;have a:=fT A hk (dA T (af l)).1.rea;dsimp only at h;unfold oO;omega
def IA(T:Tr)(p:PS)(l:Int):Bool:=aA p.seen (af l)&&decide (dU T l=T.beg.length)
def nX(T:Tr)(all:List Int)(p:PS)(i:Nat):List Int:=p.lits++((all.take i).filter (IA T p)).map λl=>aY (-l)
theorem Cc(T:Tr)(all:List Int)(p:PS){i:Nat}(h:i<all.length):nX T all p (i+1)=if IA T p all[i]=true then nX T all p i++[aY (-all[i])]else nX T all p i:=by
 unfold nX;rw[←VS h,Uv,TA]
 by_cases c:IA T p all[i]=true
 .rw[SN c,TQ,SN c];simp
 .rw[SM c,TQ,SM c];simp
theorem zG(T:Tr)(all:List Int)(p:PS)(i:Nat)(hi:i<=all.length):(nX T all p i).length<=p.lits.length+i:=by
 unfold nX;rw[SX,SZ];have:=UM (IA T p) (all.take i);rw[SU]at this;omega
theorem vS(T:Tr)(all:List Int)(p:PS):nX T all p all.length=rM T all p:=by
 unfold nX rM;rw[Tw];rfl
def fin(A:Ar)(T:Tr)(all:List Int)(p:PS):PS:=⟨(cO A T all all.length p).seen,rM T all (cO A T all all.length p),(cO A T all all.length p).many⟩
set_option maxRecDepth 16000 in
theorem IB(A:Ar)(T:Tr)(p:PS)(all:List Int)(ht:T.ok)(h0:A.hd≠[])(hk:j9 A)(I:A.row.length<=1000000)(hn:all.length<=400)(N:p.many<=1000000)(hp:p.lits.length<=1000000):
 ax Tryz.prog 162 [.ptr 0 0,.seq false 1 (ae all)] [jg A T p] (λr h'=>h'=[jg A T (fin A T all p)]∧r=.pv (.tup [])):=by
 refine dR [] [] [jg A T (fin A T all p)] (by simp) (λ_=>⟨aS _ _ _ _,trivial⟩) aC Tryz.func162 ?_;have a:=λp n hn=>Iz A T p all n ht hn (by omega);have C:aY ((all.length:Int) -1)=(all.length:Int) -1:=ao (by omega) (by omega);unfold fin;generalize K:cO A T all all.length p=F;simp[C];refine am.intro (a p all.length (SQ _)) ?_;rintro _ _ ⟨rfl,rfl⟩;simp;refine aF.intro (S:=λ(x:Nat×PS)=>⟨[(0,.pv (.ptr 0 0)),(1,.pv (.seq false 1 (ae all))),(4,.pv (ab (kg T x.2 all x.1)))],[jg A T x.2]⟩) (λx=>x.1<=all.length∧F=cO A T all x.1 x.2∧x.2.many<=1000000*(all.length -x.1+1)∧x.2.lits.length<=1000000*(all.length -x.1+1)) (λx=>x.1) (all.length,p) ?_ ⟨SQ _,K.symm,by dsimp only;omega,by dsimp only;omega⟩ ?_
 .exact ai.to (by simp) (by simp) (by simp) (by simp) (by simp[aS])
 rintro⟨k,s⟩ ⟨t,b,w,y⟩;dsimp only at t b w y;have d:=zF A T all s k
 by_cases H:(1:Int)<(s.many:Int)∧0<=kg T s all k
 rotate_left
 .have m:F=s:=by
   rcases d with⟨h1,e⟩|⟨j,h1,e,D⟩
   .rw[b,e]
   .rw[b,FO A T all s (by omega)]
  subst m;clear b d a;simp[jg,H];intro _;refine aF.intro (S:=λ(i:Nat)=>⟨[(0,.pv (.ptr 0 0)),(1,.pv (.seq false 1 (ae all))),(55,.pv (.seq false 1 (ae all))),(56,.pv (ab all.length)),(57,.pv (ab i))],[jg A T ⟨F.seen,nX T all F i,F.many⟩]⟩) (λi=>i<=all.length) (λi=>all.length -i) 0 ?_ (Te _) ?_
  .exact ai.to (by simp) (by simp[jg,nX]) (by simp) (by simp) (by simp[aS])
  intro i hi
  by_cases h:i<all.length
  rotate_left
  .have q:i=all.length:=by omega
   subst q;simp[jg,gd,vS]
  have J:=dZ i;have c:=Cc T all F h;have hle:=zG T all F i hi;have u:=fO T (af all[i]) ht;have E:IA T F all[i]=(decide (0<(lk F.seen (af all[i])).getD 0)&&decide ((dA T (af all[i])).1.lev=T.beg.length)):=rfl;simp[h,jg];refine ah.intro (aI all[i]) ?_;simp;refine dI.intro (λ_=>u) ?_;simp;refine dI.intro (λ_=>nu T) ?_
  by_cases hd:0<(lk F.seen (af all[i])).getD 0∧(dA T (af all[i])).1.lev=T.beg.length
  .rw[SN (by rw[E];simp[hd])]at c;simp[hd];refine⟨by omega,i+1,by(try dsimp only);omega,by(try dsimp only);omega,ai.to (by simp[J]) (by simp[jg,c,ae]) (by simp) (by simp) (by simp[aS])⟩
  .rw[SM (by rw[E];simpa using hd)]at c;simp[hd];refineλ_=>⟨i+1,by(try dsimp only);omega,by(try dsimp only);omega,ai.to (by simp[J]) (by simp[jg,c]) (by simp) (by simp) (by simp[aS])⟩
 obtain⟨o,L⟩:=H;rcases d with⟨h1,e⟩|⟨j,h1,e,D⟩
 .omega
 have hj:j<all.length:=by omega
 have M:all.getD j 0=all[j]:=by rw[SI,SH hj];rfl
 have f:=D (by omega);rw[M]at f;have v:=gE T (af all[j]) ht;have B:aY ((s.many:Int) -1)=((s.many -1:Nat):Int):=by rw[ao (by omega) (by omega)];omega
 have z:aY ((j:Int) -1)=(j:Int) -1:=ao (by omega) (by omega);have G:1000000*(all.length -k+1)+1000000<=1000000*(all.length -j+1):=by omega
 have l:=Iy A T ⟨pt s.seen (af all[j]) 0,s.lits,s.many -1⟩ (dA T (af all[j])).1.rea (af all[j]) ht h0 hk I (by dsimp only;omega) (by dsimp only;omega);have hle:=LO A T hk I s all[j];have g:dz T (af all[j]) (au A (dA T (af all[j])).1.rea) ⟨pt s.seen (af all[j]) 0,s.lits,s.many -1⟩=oO A T s all[j]:=rfl;rw[g]at l;generalize oO A T s all[j]=s' at*;simp[jg,o,e,hj];refine ah.intro (aI all[j]) ?_;simp[B];refine ah.intro v ?_;simp;refine am.intro l ?_;rintro _ _ ⟨rfl,rfl⟩;simp[z];refine am.intro (a s' j (by omega)) ?_;rintro _ _ ⟨rfl,rfl⟩;simp;refine⟨(j,s'),by(try dsimp only);omega,⟨by(try dsimp only);omega,by(try dsimp only);rw[b,f],by(try dsimp only);omega,by(try dsimp only);omega⟩,ai.to (by simp) (by simp[jg]) (by simp) (by simp) (by simp[aS])⟩
theorem Cd(T:Tr)(ht:T.ok)(x:Int):ak Tryz.prog 238 [ab x,.iptr 1 [[bM T]] 0 0] (λr=>r=.pv (BL (decide (0<=cz T x)))):=by
 refine ap aC Tryz.func238 ?_;have a:=fP T x ht;simp;refine ah.intro a ?_;simp
def oR(T:Tr)(lits:List Int):Bool:=!(lits.any λx=>decide (0<=cz T x))
theorem FP(T:Tr)(lits:List Int)(ht:T.ok)(b:lits.length<=1000000):ak Tryz.prog 159 [bM T,.seq false 1 (ae lits)] (λr=>r=.pv (BL (oR T lits))):=by
 refine ap aC Tryz.func159 ?_;have a:=dQ lits b 238 [.iptr 1 [[bM T]] 0 0] (λx=>decide (0<=cz T x)) (λr=>by simp) rfl (λk=>by simp) (λx _=>Cd T ht x);simp[aZ];refine ah.intro a ?_;simp[oR]
def fU(T:Tr)(lits:List Int)(i:Nat):List Int:=((lits.take i).filter λl=>!decide (cz T l=0)).map (dU T)
theorem Ce(T:Tr)(lits:List Int){i:Nat}(h:i<lits.length):fU T lits (i+1)=if cz T lits[i]=0 then fU T lits i else fU T lits i++[dU T lits[i]]:=by
 unfold fU;rw[←VS h,Uv,TA]
 by_cases c:cz T lits[i]=0
 .rw[SN c,TQ,SM (by simp[c])];simp
 .rw[SM c,TQ,SN (by simp[c])];simp
theorem zH(T:Tr)(lits:List Int)(i:Nat):(fU T lits i).length<=i:=by
 unfold fU;rw[SZ];have:=UM (λl=>!decide (cz T l=0)) (lits.take i);rw[SU]at this;omega
def IC(T:Tr)(lits:List Int):List Int:=cq (dJ (fU T lits lits.length))
def eZ(T:Tr)(lits:List Int):Int:=if(IC T lits).length<2 then 0 else(IC T lits).getD ((IC T lits).length -2) 0
set_option maxRecDepth 16000 in
theorem IE(T:Tr)(lits:List Int)(ht:T.ok)(K:lits.length<=1000000):ak Tryz.prog 98 [bM T,.seq false 1 (ae lits)] (λr=>r=.pv (ab (eZ T lits))):=by
 refine ap aC Tryz.func98 ?_;simp;refine aF.intro (S:=λ(i:Nat)=>⟨[(0,.pv (bM T)),(5,.own true 1 (ae (fU T lits i))),(8,.pv (.seq false 1 (ae lits))),(9,.pv (ab lits.length)),(10,.pv (ab i))],[]⟩) (λi=>i<=lits.length) (λi=>lits.length -i) 0 ?_ (Te _) ?_
 .exact(ai.nilOwn (s:=5) 1 true (by simp)).trans (ai.to (by simp[fU,ae]) (by simp) (by simp) (by simp) (by simp))
 intro i hi
 by_cases h:i<lits.length
 .have v:=dZ i;have A:=fO T (af lits[i]) ht;have J:=fP T lits[i] ht;have d:=Ce T lits h;have hle:=zH T lits i;simp[h];refine aV.intro (λ_=>J) ?_
  by_cases c:cz T lits[i]=0
  .rw[SN c]at d;simp[c];refine⟨i+1,by(try dsimp only);omega,by(try dsimp only);omega,ai.to (by simp[v,d]) (by simp) (by simp) (by simp) (by simp)⟩
  .rw[SM c]at d;simp[c];refine ah.intro (aI lits[i]) ?_;simp;refine ah.intro A ?_;simp;refine⟨by omega,i+1,by(try dsimp only);omega,by(try dsimp only);omega,ai.to (by simp[v,d,ae,dU]) (by simp) (by simp) (by simp) (by simp)⟩
 have y:i=lits.length:=by omega
 subst y;have hle:=zH T lits lits.length;have G:=vQ (fU T lits lits.length) (by omega);have n:eZ T lits=if(cq (dJ (fU T lits lits.length))).length<2 then 0 else(cq (dJ (fU T lits lits.length))).getD ((cq (dJ (fU T lits lits.length))).length -2) 0:=rfl;generalize eZ T lits=B at*;have I:(dJ (fU T lits lits.length)).length=(fU T lits lits.length).length:=by unfold dJ;exact T9 _
 generalize fU T lits lits.length=xs at*;have E:=oF (dJ xs) (by omega);have hcl:=gF (dJ xs) (dJ xs).length;unfold NK at E;have w:aM (dJ xs) (dJ xs).length=cq (dJ xs):=rfl;rw[w]at hcl;generalize dJ xs=e at*;generalize cq e=a at*;simp;refine ah.introX (bU.introS (o:=.slot 5) (lo:=0) (hi:=xs.length) G (by simp) rfl rfl (by simp) (by simp) rfl (by simp;exact Tm (by simp)) (aT 0 xs) (by simp) (by simp) ?_);rintro k l ⟨rfl,rfl⟩ _ _;have x:List.drop xs.length (ae xs)=[]:=Tq (by simp);simp[x];refine ah.introX (bU.introS (o:=.slot 5) (lo:=0) (hi:=e.length) E (by simp) rfl rfl (by simp) (by simp) rfl (by simp;exact Tm (by simp)) (eW 0 e) (by simp) (by simp) ?_);rintro k l ⟨rfl,rfl⟩ _ _;have q:List.drop e.length (ae e)=[]:=Tq (by simp);have F:(aB (a++List.replicate (e.length -a.length) 0)).length=e.length:=by rw[gG];simp;omega
 have f:min a.length (aB (a++List.replicate (e.length -a.length) 0)).length=a.length:=by rw[F];omega
 have D:=oG a (List.replicate (e.length -a.length) 0)
 by_cases c2:a.length<2
 .rw[SN c2]at n;have g:(a.length:Int)<2:=by omega
  have j:¬2<=(a.length:Int):=by omega
  simp[q,c2,g,j,n,f]
 rw[SM c2]at n;obtain⟨m,H⟩:∃m,a.length=m+2:=⟨a.length -2,by omega⟩;have v:aY ((a.length:Int) -2)=(m:Int):=by rw[ao (by omega) (by omega)];omega
 have g:¬(a.length:Int)<2:=by omega
 have b:m<a.length:=by omega
 have p:B=a[m]:=by rw[n,H,SI,Vw,SH b];rfl
 have t:(aB a)[m]?=some [ab a[m]]:=by unfold aB;rw[Tg,SH b];rfl
 have C:(m:Int)<(a.length:Int):=by omega
 rw[p];clear n p;have z:=gG a;have j:2<=(a.length:Int):=by omega
 have u:∀h,(aB a)[m]'h=[ab a[m]]:=λh=>by rw[SH h]at t;exact VC t
 simp[q,c2,g,j,v,f,D,C,z,u,b]
def gt(A:Ar)(q:Int):Int:=if isA A q=true then A.row.getD q.toNat 0 else 0
theorem sq(A:Ar)(h0:A.hd≠[])(hk:j9 A)(b:A.row.length<=1000000)(q:Int):ak Tryz.prog 158 [kw A,ab q] (λr=>r=.pv (ab (gt A q))):=by
 refine ap aC Tryz.func158 ?_;have hi:=DZ A h0 q;unfold gt;simp only[kw,pP]at hi;simp[kw,pP];refine ah.intro hi ?_
 by_cases c:isA A q=true
 rotate_left
 .have c':isA A q=false:=by simpa using c
  simp[c']
 obtain⟨p,n,rfl,a⟩:=hk q c;have hp:p<A.row.length:=by have:=a.len;omega
 simp[c,hp]
structure NS where
  at':List (Int×Int)
  ok:Bool
def pla(T:Tr)(l:Int):Int:=(dA T (af l)).1.pla
def rea(T:Tr)(l:Int):Int:=(dA T (af l)).1.rea
def vT(T:Tr)(stop:List (Int×Int))(but:Int)(s:NS)(l:Int):Bool:=decide (l=but)||aA stop l||(aA s.at' (pla T l)&&decide (0<=pla T l))
def FQ(A:Ar)(T:Tr)(l:Int):Bool:=decide (0<=cz T l)||decide (rea T l<0)||decide (gt A (rea T l)=0)
def tL(T:Tr)(s:NS)(l:Int):NS:=⟨pt s.at' (pla T l) (aY ((lk s.at' (pla T l)).getD 0+1)),s.ok⟩
def tM(f:NS->Int->Int->NS)(A:Ar)(T:Tr)(stop:List (Int×Int))(but:Int):List Int->NS->NS
 |[],s=>s
 |l::c,s=>if vT T stop but s l=true then tM f A T stop but c s else if FQ A T l=true then⟨s.at',false⟩else tM f A T stop but c (f (tL T s l) (rea T l) (aY (-l)))
def rN(A:Ar)(T:Tr)(stop:List (Int×Int)):Nat->NS->Int->Int->NS
 |0,s,_,_=>s
 |k+1,s,q,but=>tM (rN A T stop k) A T stop but (au A q) s
def tN(A:Ar)(T:Tr)(stop:List (Int×Int))(s:NS):List SV:=[.pv (kw A),.pv (bM T),.omap true (aG fI stop),.omap true (aG fI s.at'),.pv (BL s.ok)]
theorem dV(k:Nat)(A:Ar)(T:Tr)(stop:List (Int×Int))(s:NS):cD k (tN A T stop s):=⟨⟨⟨aT k _,iL k _,trivial⟩,trivial⟩,⟨⟨oE k _,aT k _,aT k _,trivial,trivial⟩,trivial⟩,iL k _,iL k _,trivial,trivial⟩
structure AheadOk (A:Ar) (T:Tr):Prop where
  tr:T.ok
  hd:A.hd≠[]
  ar:j9 A
  len:A.row.length<=1000000
  ahead:∀l:Int,cz T l<0->0<=rea T l->0<=pla T l∧∀y∈au A (rea T l),y≠aY (-l)->pla T y<pla T l
set_option maxRecDepth 16000 in
theorem LP(A:Ar)(T:Tr)(stop:List (Int×Int))(K:AheadOk A T):∀(k:Nat)(q but:Int)(s:NS),(∀y∈au A q,y≠but->pla T y<k)->
 ax Tryz.prog 166 [.ptr 0 0,ab q,ab but] [tN A T stop s] (λr h'=>h'=[tN A T stop (rN A T stop (k+1) s q but)]∧r=.pv (.tup [])):=by
 intro k
 induction k using Nat.strongRecOn with
 |ind k O=>
 intro q but s N;refine dR [] [] [tN A T stop (rN A T stop (k+1) s q but)] (by simp) (λ_=>⟨dV _ _ _ _ _,trivial⟩) aC Tryz.func166 ?_;obtain⟨ht,h0,hk,G,p⟩:=K;have L:=ka A h0 hk G q;have X:=fT A hk q;rw[rN];generalize E:tM (rN A T stop k) A T stop but (au A q) s=F;generalize au A q=c at*;simp[tN];refine ah.intro L ?_;simp;refine aF.intro (S:=λ(x:Nat×NS)=>⟨[(0,.pv (.ptr 0 0)),(2,.pv (ab but)),(15,.own true 1 (ae c)),(16,.pv (ab c.length)),(17,.pv (ab x.1))],[tN A T stop x.2]⟩) (λx=>x.1<=c.length∧F=tM (rN A T stop k) A T stop but (c.drop x.1) x.2) (λx=>c.length -x.1) (0,s) ?_ ⟨Te _,E.symm⟩ ?_
 .exact ai.to (by simp) (by simp[tN]) (by simp) (by simp) (by simp[dV])
 clear E;rintro⟨i,s⟩ ⟨hi,d⟩;dsimp only at hi d
 by_cases h:i<c.length
 rotate_left
 .have w:i=c.length:=by omega
  subst w;rw[Tq (SQ _),tM]at d;subst d;simp[tN,gd]
 have H:=dZ i;have v:c.drop i=c[i]::c.drop (i+1):=TJ h;rw[v,tM]at d;have f:=nq T (af c[i]) ht;have m:=gE T (af c[i]) ht;have D:=fP T c[i] ht;have n:vT T stop but s c[i]=(decide (c[i]=but)||decide (0<(lk stop c[i]).getD 0)||(decide (0<(lk s.at' (pla T c[i])).getD 0)&&decide (0<=pla T c[i]))):=rfl;have l:FQ A T c[i]=(decide (0<=cz T c[i])||decide (rea T c[i]<0)||decide (gt A (rea T c[i])=0)):=rfl;have B:(dA T (af c[i])).1.pla=pla T c[i]:=rfl;have C:(dA T (af c[i])).1.rea=rea T c[i]:=rfl;rw[B]at f;rw[C]at m;simp[h,tN];refine ah.intro (aI c[i]) ?_;simp;refine dI.intro (λ_=>f) ?_;simp;refine dI.intro (λ_=>f) ?_;simp;refine⟨λa b=>⟨⟨a,b⟩,λe=>⟨⟨a,b⟩,e⟩⟩,λhs=>?_,λI Y U=>?_⟩
 .rw[SN (by rw[n];simpa using hs)]at d;exact⟨(i+1,s),by(try dsimp only);omega,⟨by(try dsimp only);omega,d⟩,ai.to (by simp[H]) (by simp[tN]) (by simp) (by simp) (by simp[dV])⟩
 have o:¬vT T stop but s c[i]=true:=by
  rw[n];simp only[Uj,S4,S9];rintro((e|e)|⟨J,W⟩)
  .exact I e
  .omega
  .have:=U J;omega
 rw[SM o]at d;refine ah.intro m ?_;simp;refine ah.intro D ?_;simp;refine aV.intro (λ_=>sq A h0 hk G _) ?_
 by_cases j:FQ A T c[i]=true
 .rw[SN j]at d;rw[l]at j;have t:(0<=cz T c[i]∨rea T c[i]<0)∨gt A (rea T c[i])=0:=by simpa using j
  subst d;simp[t,gd]
 rw[SM j]at d;have u:¬(0<=cz T c[i])∧¬(rea T c[i]<0)∧¬(gt A (rea T c[i])=0):=by
  rw[l]at j;simpa[and_assoc]using j
 obtain⟨P,Q,R⟩:=u;obtain⟨Z,V⟩:=p c[i] (by omega) (by omega);have M:=N c[i] (SS h) I;simp[P,Q,R];refine⟨by omega,?_⟩;refine bE.intro f ?_;simp;obtain⟨k',rfl⟩:∃k',k=k'+1:=⟨k -1,by omega⟩;have g:=O k' (by omega) (rea T c[i]) (aY (-c[i])) (tL T s c[i]) (λy hy z=>by have:=V y hy z;omega);simp only[tN,tL]at g;refine am.intro g ?_;rintro _ _ ⟨rfl,rfl⟩;simp;refine⟨(i+1,rN A T stop (k'+1) (tL T s c[i]) (rea T c[i]) (aY (-c[i]))),by(try dsimp only);omega,⟨by(try dsimp only);omega,d⟩,ai.to (by simp[H]) (by simp[tN,tL]) (by simp) (by simp) (by simp[dV])⟩
def cr(lits:List Int):Nat->List (Int×Int)
 |0=>[]
 |i+1=>pt (cr lits i) (lits.getD i 0) ((lk (cr lits i) (lits.getD i 0)).getD 0+1)
theorem pS(lits:List Int):∀(i:Nat)(v:Int),0<=(lk (cr lits i) v).getD 0∧(lk (cr lits i) v).getD 0<=i
 |0,v=>by simp[cr,lk]
 |i+1,v=>by
  have h:=pS lits i;rw[cr,bJ];split
  .have:=h (lits.getD i 0);rw[Tx];omega
  .have:=h v;omega
theorem tO(lits:List Int)(v:Int):∀i,i<=lits.length->(aA (cr lits i) v=true↔v∈lits.take i)
 |0,_=>by simp[cr,lk,aA]
 |i+1,h=>by
  have b:=tO lits v i (by omega);have a:lits.getD i 0=lits[i]:=by rw[SI,SH (by omega)];rfl
  have hle:=pS lits i lits[i];rw[cr,a,nx,T4,SH (by omega),UG,S7,Tt];split
  .rename_i e;subst e;have:0<(lk (cr lits i) lits[i]).getD 0+1:=by omega
   simp[this]
  .rename_i e;rw[b];exact⟨.inl,λh=>h.elim id (λh=>absurd h.symm e)⟩
def IF(T:Tr)(at':List (Int×Int))(out:List Int)(i:Nat):Bool:=aA at' i&&!decide (rea T (T.lits.getD i 0)∈out)
def eb(T:Tr)(at':List (Int×Int)):Nat->List Int
 |0=>[]
 |i+1=>if IF T at' (eb T at' i) i=true then eb T at' i++[rea T (T.lits.getD i 0)]else eb T at' i
theorem tP(T:Tr)(at':List (Int×Int)):∀i,(eb T at' i).length<=i
 |0=>by simp[eb]
 |i+1=>by
  have:=tP T at' i;rw[eb];split
  .simp;omega
  .omega
def ma(A:Ar)(T:Tr)(lits:List Int)(con:Int):NS:=rN A T (cr lits lits.length) (T.lits.length+1) ⟨[],true⟩ con 0
def rO(T:Tr)(at':List (Int×Int))(con:Int):List Int:=if con∈eb T at' T.lits.length then eb T at' T.lits.length else eb T at' T.lits.length++[con]
def rP(A:Ar)(T:Tr)(lits:List Int)(con:Int):List Int×Bool:=
 if gt A con=0 then([],false)else if(ma A T lits con).ok=false then([],false)else(rO T (ma A T lits con).at' con,true)
set_option maxRecDepth 16000 in
theorem IG(A:Ar)(T:Tr)(lits:List Int)(con:Int)(j:AheadOk A T)(hp:∀l,pla T l<T.lits.length)(B:lits.length<=1000000)(z:T.lits.length<=1000000):
 ak Tryz.prog 94 [kw A,bM T,.seq false 1 (ae lits),ab con] (λr=>r=.pv (.tup [.seq true 1 (ae (rP A T lits con).1),BL (rP A T lits con).2])):=by
 refine ak.wk (R:=λr=>∃x,r=.pv x∧bO x (.tup [.seq true 1 (ae (rP A T lits con).1),BL (rP A T lits con).2])) ?_ (λr ⟨x,e,h⟩=>⟨x,_,e,h,rfl⟩);refine iX [] [.tmp 8,.tmp 9] aC Tryz.func94 ?_;have p:=sq A j.hd j.ar j.len con;have b:=LP A T (cr lits lits.length) j T.lits.length con 0 ⟨[],true⟩ (λy _ _=>hp y);have v:=ge T z;obtain⟨H,c⟩:∃H,rP A T lits con=H:=⟨_,rfl⟩;rw[c];unfold rP at c;have w:rN A T (cr lits lits.length) (T.lits.length+1) ⟨[],true⟩ con 0=ma A T lits con:=rfl;rw[w]at b;generalize ma A T lits con=N at*;simp;refine aV.intro (λ_=>p) ?_
 by_cases m:gt A con=0
 .rw[SN m]at c;subst c;simp[m,bO,bK,ae]
 rw[SM m]at c;simp[m];refine aF.intro (S:=λ(i:Nat)=>⟨[(0,.pv (kw A)),(1,.pv (bM T)),(2,.pv (.seq false 1 (ae lits))),(3,.pv (ab con)),(10,.pv (.ptr 0 0)),(35,.pv (.seq false 1 (ae lits))),(36,.pv (ab lits.length)),(37,.pv (ab i))],[tN A T (cr lits i) ⟨[],true⟩]⟩) (λi=>i<=lits.length) (λi=>lits.length -i) 0 ?_ (Te _) ?_
 .exact ai.to (by simp) (by simp[tN,cr]) (by simp) (by simp) (by simp[dV])
 intro i hi
 by_cases h:i<lits.length
 .have o:=dZ i;have n:lits.getD i 0=lits[i]:=by rw[SI,SH h];rfl
  have hle:=pS lits i lits[i];have t:aY ((lk (cr lits i) lits[i]).getD 0+1)=(lk (cr lits i) lits[i]).getD 0+1:=ao (by omega) (by omega);have a:cr lits (i+1)=pt (cr lits i) lits[i] ((lk (cr lits i) lits[i]).getD 0+1):=by rw[cr,n]
  simp[h,tN];refine⟨i+1,by(try dsimp only);omega,by(try dsimp only);omega,ai.to (by simp[o]) (by simp[tN,a,t]) (by simp) (by simp) (by simp[dV])⟩
 have g:i=lits.length:=by omega
 subst g;simp only[tN]at b;simp[tN];refine am.intro b ?_;rintro _ _ ⟨rfl,rfl⟩;cases c1:N.ok
 .rw[SN c1]at c;subst c;simp[c1,bO,bK,ae]
 rw[SM (by simp[c1])]at c;subst c;simp[c1];refine ah.intro v ?_;simp;refine aF.intro (S:=λ(i:Nat)=>⟨[(1,.pv (bM T)),(3,.pv (ab con)),(10,.pv (.ptr 0 0)),(13,.own true 1 (ae (eb T N.at' i))),(58,.own true 1 (ae T.lits)),(59,.pv (ab T.lits.length)),(60,.pv (ab i))],[tN A T (cr lits lits.length) N]⟩) (λi=>i<=T.lits.length) (λi=>T.lits.length -i) 0 ?_ (Te _) ?_
 .exact(ai.nilOwn (s:=13) 1 true (by simp)).trans (ai.to (by simp[eb,ae]) (by simp[tN,c1]) (by simp) (by simp) (by simp[dV]))
 intro i hi;have hle:=tP T N.at' i
 by_cases h:i<T.lits.length
 .have o:=dZ i;have n:T.lits.getD i 0=T.lits[i]:=by rw[SI,SH h];rfl
  have k:=gE T (af T.lits[i]) j.tr;have q:(dA T (af T.lits[i])).1.rea=rea T T.lits[i]:=rfl;rw[q]at k;have a:eb T N.at' (i+1)=if IF T N.at' (eb T N.at' i) i=true then eb T N.at' i++[rea T T.lits[i]]else eb T N.at' i:=by rw[eb,n]
  have u:IF T N.at' (eb T N.at' i) i=(decide (0<(lk N.at' (i:Int)).getD 0)&&!decide (rea T T.lits[i]∈eb T N.at' i)):=by unfold IF;rw[n];rfl
  have f:=eF (eb T N.at' i) (rea T T.lits[i]) (by omega);simp[h,tN];refine ah.intro (aI T.lits[i]) ?_;simp;refine ah.intro k ?_;simp;refine aV.intro (λ_=>f) ?_
  by_cases d:0<(lk N.at' (i:Int)).getD 0∧¬rea T T.lits[i]∈eb T N.at' i
  .rw[SN (by rw[u];simp[d])]at a;simp[d];refine⟨by omega,i+1,by(try dsimp only);omega,by(try dsimp only);omega,ai.to (by simp[o,a,ae]) (by simp[tN]) (by simp) (by simp) (by simp[dV])⟩
  .rw[SM (by rw[u];simpa using d)]at a;simp[d];refineλ_=>⟨i+1,by(try dsimp only);omega,by(try dsimp only);omega,ai.to (by simp[o,a]) (by simp[tN]) (by simp) (by simp) (by simp[dV])⟩
 have g:i=T.lits.length:=by omega
 subst g;have f:=eF (eb T N.at' T.lits.length) con (by omega);unfold rO;generalize eb T N.at' T.lits.length=O at*;simp;refine ah.intro f ?_
 by_cases d:con∈O
 .simp[d,bO,bK]
 .simp[d,bO,bK,ae];omega
end Go.AX
namespace Go.AX
set_option maxRecDepth 16000
open Go.Proofs
set_option linter.unusedSimpArgs false
theorem zJ(T:Tr)(out:List Int):∀i,(cL T out i).2.1<=i∧((cL T out i).2.1=0∨(cL T out i).2.2<i)∧(cL T out i).2.2<=i
 |0=>⟨SQ _,.inl rfl,SQ _⟩
 |i+1=>by
  have a:=zJ T out i;rw[cL];split
  .exact⟨by dsimp only;omega,.inr (by dsimp only;omega),by dsimp only;omega⟩
  .split
   .refine⟨by dsimp only;omega,?_,by dsimp only;omega⟩;dsimp only;rename_i c1 c2;rcases a.2.1 with e|e
    .exact .inr (by omega)
    .exact .inr (by omega)
   .exact⟨by omega,a.2.1.imp id (λe=>by omega),by omega⟩
theorem FR(T:Tr)(lits:List Int)(ht:T.ok)(y:lits.length<=1000000):ak Tryz.prog 163 [bM T,.seq false 1 (ae lits)] (λr=>r=.own true 1 (ae (Iw T lits))):=by
 refine ap aC Tryz.func163 ?_;have w:=Lo lits y;have z:=Fw lits;unfold Iw Iv;generalize eJ lits=out at*;simp;refine ah.intro w ?_;simp;refine aF.intro (S:=λ(i:Nat)=>⟨[(0,.pv (bM T)),(5,.own true 1 (ae out)),(6,.pv (ab (cL T out i).1)),(7,.pv (ab (cL T out i).2.1)),(8,.pv (ab (cL T out i).2.2)),(15,.al (.slot 5)),(16,.pv (ab out.length)),(17,.pv (ab i))],[]⟩) (λi=>i<=out.length) (λi=>out.length -i) 0 ?_ (Te _) ?_
 .exact ai.to (by simp[cL]) (by simp) (by simp) (by simp) (by simp)
 intro i hi;obtain⟨t,v,a3⟩:=zJ T out i
 by_cases h:i<out.length
 .have f:=dZ i;have k:out.getD i 0=out[i]:=by rw[SI,SH h];rfl
  have m:=fO T (af out[i]) ht;have a:cL T out (i+1)=if(cL T out i).1<(dA T (af out[i])).1.lev then((dA T (af out[i])).1.lev,1,i)else if(dA T (af out[i])).1.lev=(cL T out i).1 then((cL T out i).1,(cL T out i).2.1+1,(cL T out i).2.2)else cL T out i:=by rw[cL,k];rfl
  have p:=dZ ((cL T out i).2.1);simp[h];refine ah.intro (aI out[i]) ?_;simp;refine ah.intro m ?_
  by_cases c1:(cL T out i).1<(dA T (af out[i])).1.lev
  .rw[SN c1]at a;simp[c1];refine⟨i+1,by(try dsimp only);omega,by(try dsimp only);omega,ai.to (by simp[f,a]) (by simp) (by simp) (by simp) (by simp)⟩
  rw[SM c1]at a
  by_cases c2:(dA T (af out[i])).1.lev=(cL T out i).1
  .rw[SN c2]at a;simp[c1,c2];refine⟨i+1,by(try dsimp only);omega,by(try dsimp only);omega,ai.to (by simp[f,a,p]) (by simp) (by simp) (by simp) (by simp)⟩
  .rw[SM c2]at a;simp[c1,c2];refine⟨i+1,by(try dsimp only);omega,by(try dsimp only);omega,ai.to (by simp[f,a]) (by simp) (by simp) (by simp) (by simp)⟩
 have l:i=out.length:=by omega
 subst l;clear hi h;generalize cL T out out.length=s at*;obtain⟨top,many,at'⟩:=s;dsimp only at t v a3⊢
 by_cases c:many=1
 rotate_left
 .have c':¬(many:Int)=1:=by omega
  simp[c,c']
 subst c;have b:at'<out.length:=by omega
 have k:out.getD at' 0=out[at']:=by rw[SI,SH b];rfl
 have f:=dZ (at');simp only[SN,k];simp[b,f];have d:(out.take at'++out.drop (at'+1)++List.replicate (at'+1 -at') 0).length=out.length:=by simp;omega
 have g:out.length -(at'+1 -at')=out.length -1:=by omega
 have q:=zI Tryz.dlaA out at' (at'+1) (by omega) (by omega) (by kernel_rfl);rw[g]at q;refine ah.introX (bU.introW (ps:=.slot 5) (hi:=out.length) q d (by omega) (λe=>by rw[e]at b;simp at b) (by simp) rfl rfl (by simp) (by simp) rfl (by simp) (by simp) ?_);have n:(out.take at'++out.drop (at'+1)).length=out.length -1:=by simp;omega
 have o:(out.take at'++out.drop (at'+1)++List.replicate (at'+1 -at') 0).take (out.length -1)=out.eraseIdx at':=by
  rw[UR n,List.eraseIdx_eq_take_drop_succ]
 have j:(out.take at'++out.drop (at'+1)++List.replicate (at'+1 -at') 0).drop (out.length -1+1)=[]:=Tq (by rw[d];omega);generalize out.take at'++out.drop (at'+1)++List.replicate (at'+1 -at') 0=dl at*;generalize out[at']=u at*;simp;refine ah.introX (bU.introI (ps:=.slot 5) (py:=.slot 51) (hi:=out.length -1) (zs:=dl) (x:=u) Tryz.insA (by kernel_rfl) (by simp) rfl rfl (by simp) (by simp) (by simp) (by simp) (by simp) (by simp) rfl (by decide) rfl (by omega) ?_);rw[o,j];simp;exact Tm (by rw[gG,To,List.length_eraseIdx_of_lt b];omega)
def NY(A:Ar)(T:Tr):List SV:=[.pv (kw A),.pv (bM T),.omap true (aG fI []),.pv (.lit (.slice none 0 0)),.pv (ab 0)]
theorem FT(A:Ar)(T:Tr)(q but:Int)(ht:T.ok)(h0:A.hd≠[])(hk:j9 A)(m:A.row.length<=1000000):
 ax Tryz.prog 161 [.ptr 0 0,ab q,ab but] [NY A T] (λr h'=>h'=[jg A T (dz T but (au A q) ⟨[],[],0⟩)]∧r=.pv (.tup [])):=by
 obtain⟨p,hp⟩:∃p:PS,p=⟨[],[],0⟩:=⟨_,rfl⟩;rw[←hp];have o:p.many=0:=by rw[hp]
 have n:p.lits.length=0:=by rw[hp];rfl
 refine dR [] [] [jg A T (dz T but (au A q) p)] (by simp) (λ_=>⟨aS _ _ _ _,trivial⟩) aC Tryz.func161 ?_;have l:=ka A h0 hk m q;have t:=fT A hk q;generalize au A q=c at*;simp[NY];refine ah.intro l ?_;simp;refine aF.intro (S:=λ(i:Nat)=>⟨[(0,.pv (.ptr 0 0)),(2,.pv (ab but)),(6,.pv (.fn (.func 170) [bM T] [])),(20,.own true 1 (ae c)),(21,.pv (ab c.length)),(22,.pv (ab i))],[jg A T (dz T but (c.take i) p)]⟩) (λi=>i<=c.length) (λi=>c.length -i) 0 ?_ (Te _) ?_
 .exact(ai.nilCell (b:=0) (k:=3) (xs:=NY A T) 1 true (by simp[NY]) (by simp[NY])).trans (ai.to (by simp) (by simp[jg,NY,dz,hp,ae]) (by simp) (by simp) (by simp[aS]))
 intro i hi
 by_cases h:i<c.length
 rotate_left
 .have g:i=c.length:=by omega
  subst g;simp[jg,gd]
 have f:=dZ i;have hs:=tJ T but c p h;have hle:=kb T but (c.take i) p;rw[SU]at hle;generalize dz T but (c.take i) p=s at*;have d:=fO T (af c[i]) ht;simp[h,jg];refine ah.intro (aI c[i]) ?_;simp;refine aV.intro (λ_=>d) ?_
 by_cases c1:af c[i]=but
 .have hd:takeF T but s c[i]=s:=by unfold takeF;rw[SN (.inl c1)]
  simp[c1];refine⟨i+1,by(try dsimp only);omega,by(try dsimp only);omega,ai.to (by simp[f]) (by simp[jg,hs,hd]) (by simp) (by simp) (by simp[aS])⟩
 by_cases c2:0<(lk s.seen (af c[i])).getD 0
 .have hd:takeF T but s c[i]=s:=by unfold takeF;rw[SN (.inr (.inl (by simpa[aA]using c2)))]
  simp[c1,c2];refine⟨i+1,by(try dsimp only);omega,by(try dsimp only);omega,ai.to (by simp[f]) (by simp[jg,hs,hd]) (by simp) (by simp) (by simp[aS])⟩
 have a:(lk s.seen (af c[i])).getD 0<=0:=by omega
 by_cases c3:(dA T (af c[i])).1.lev<=0
 .have hd:takeF T but s c[i]=s:=by unfold takeF;rw[SN (.inr (.inr c3))]
  simp[c1,c2,a,c3];refine⟨i+1,by(try dsimp only);omega,by(try dsimp only);omega,ai.to (by simp[f]) (by simp[jg,hs,hd]) (by simp) (by simp) (by simp[aS])⟩
 have hd:takeF T but s c[i]=if(dA T (af c[i])).1.lev=T.beg.length then⟨pt s.seen (af c[i]) 1,s.lits,s.many+1⟩else⟨pt s.seen (af c[i]) 1,s.lits++[c[i]],s.many⟩:=by
  unfold takeF;rw[SM]
  .rfl
  rintro(e|e|e)
  .exact c1 e
  .exact c2 (by simpa[aA]using e)
  .exact c3 e
 simp[c1,c2,a,c3];refine bE.intro d ?_;simp;refine bE.intro (nu T) ?_
 by_cases c4:(dA T (af c[i])).1.lev=T.beg.length
 .rw[SN c4]at hd;have j:=dZ s.many;simp[c4];refine⟨i+1,by(try dsimp only);omega,by(try dsimp only);omega,ai.to (by simp[f]) (by simp[jg,hs,hd,j]) (by simp) (by simp) (by simp[aS])⟩
 .rw[SM c4]at hd;simp[c4];refine⟨by omega,i+1,by(try dsimp only);omega,by(try dsimp only);omega,ai.to (by simp[f]) (by simp[jg,hs,hd,ae]) (by simp) (by simp) (by simp[aS])⟩
def lH(A:Ar)(T:Tr)(con:Int):Int:=if gt A con=0 then 20 else if oR T (au A con)=false then 30 else 0
def qK(A:Ar)(T:Tr)(con:Int):List Int:=if lH A T con=0 then dy A T con else[]
end Go.AX
namespace Go.AX
open Go.Proofs
set_option linter.unusedSimpArgs false
structure DeskI (cs:List (List Int)) (ats:List Int) (D:DK):Prop extends DeskT cs ats D where
  id:∀x∈D.a.rows,1<=x.id
/-! ### What was gathered -/
structure NI (D:DK) (L:List Int) (s:NS):Prop where
  val:∀p,0<=(lk s.at' p).getD 0
  mem:∀p,aA s.at' p=true->∃j,∃hj:j<D.t.rows.length,p=(j:Int)∧0<=D.t.rows[j].rea∧-D.t.rows[j].l∉L
def Met(D:DK)(L:List Int)(s:NS)(y:Int):Prop:=y∈L∨∃j,∃hj:j<D.t.rows.length,D.t.rows[j].l=-y∧aA s.at' j=true
structure Post (D:DK) (L:List Int) (s s':NS) (c:List Int) (but:Int):Prop where
  ni:NI D L s'
  mono:∀p,aA s.at' p=true->aA s'.at' p=true
  all:s'.ok=true->s.ok=true∧(∀y∈c,y≠but->Met D L s' y)∧∀j (hj:j<D.t.rows.length),aA s'.at' j=true->aA s.at' j=false->∀y∈au D.A D.t.rows[j].rea,y≠D.t.rows[j].l->Met D L s' y
  ok:(∀y∈c,y≠but->HOk D.A D.T L y)->s'.ok=s.ok
theorem Met.mono{D:DK}{L:List Int}{s s':NS}{y:Int}(h:Met D L s y)(c:∀p,aA s.at' p=true->aA s'.at' p=true):Met D L s' y:=
 h.imp id λ⟨j,hj,a,b⟩=>⟨j,hj,a,c _ b⟩
def eX(l:List Int):List (List Int)->Nat->List Int×Nat×Int
 |[],n=>(l,n,23)
 |h::hs,n=>if sm l h=-1 then(l,n+1,0)else if(cK l h).2=true then eX (l++[(cK l h).1]) hs (n+1)else([],n,22)
def ia(c:List Int):Nat->List Int
 |0=>[]
 |i+1=>if c.getD i 0∈c.take i then ia c i else ia c i++[aY (-(c.getD i 0))]
theorem qL(c:List Int)(x:Int):∀i,i<=c.length->(x∈ia c i↔∃y∈c.take i,x=aY (-y))
 |0,_=>by simp[ia]
 |i+1,h=>by
  have b:=qL c x i (by omega);have d:c.getD i 0=c[i]:=by rw[SI,SH (by omega)];rfl
  have ht:c.take (i+1)=c.take i++[c[i]]:=(VS (by omega)).symm;rw[ia,d,ht]
  by_cases e:c[i]∈c.take i
  .rw[SN e,b];constructor
   .rintro⟨y,hy,a⟩;exact⟨y,Um _ hy,a⟩
   .rintro⟨y,hy,a⟩;rcases S7.1 hy with hy|hy
    .exact⟨y,hy,a⟩
    .simp at hy;subst hy;exact⟨_,e,a⟩
  .rw[SM e,S7,b,Tt];constructor
   .rintro(⟨y,hy,a⟩|a)
    .exact⟨y,Um _ hy,a⟩
    .exact⟨_,UY _ (Tt.2 rfl),a⟩
   .rintro⟨y,hy,a⟩;rcases S7.1 hy with hy|hy
    .exact .inl ⟨y,hy,a⟩
    .simp at hy;subst hy;exact .inr a
def gq(c:List Int):List Int:=ia c c.length
theorem pT(c:List Int)(x:Int):x∈gq c↔∃y∈c,x=aY (-y):=by
 have:=qL c x c.length (SQ _)
 rwa [Tw]at this
def AllNeg(D:DK)(L:List Int):Prop:=∀y∈L,ay y 6=0∧∃j,∃hj:j<D.t.rows.length,D.t.rows[j].l=-y
def rj(D:DK)(j:Nat):Int:=rea D.T (D.T.lits.getD j 0)
theorem gI{t:RT}{j:Nat}(hj:j<t.rows.length):t.rows[j].l∈dL t:=SY.2 ⟨_,SS hj,rfl⟩
def FU(s:NS)(i:Nat):List Nat:=(List.range i).filter λj=>aA s.at' j
theorem II(s:NS)(i:Nat):FU s (i+1)=if aA s.at' i=true then FU s i++[i]else FU s i:=by
 unfold FU;rw[VT,Uv]
 by_cases c:aA s.at' i=true
 .rw[SN c,TQ,SN c];rfl
 .rw[SM c,TQ,SM c];simp
theorem xM(s:NS)(i j:Nat):j∈FU s i↔j<i∧aA s.at' j=true:=by
 unfold FU;rw[TE,Uf]
structure CInv (D:DK) (L:List Int) (s:NS) (l:List Int) (js:List Nat):Prop where
  sub:∀x∈l,x∈dL D.t
  neg:∀y∈L,-y∈l
  don:∀j (hj:j<D.t.rows.length),aA s.at' j=true->j∉js->D.t.rows[j].l∈l
  todo:∀j∈js,∃hj:j<D.t.rows.length,aA s.at' j=true∧D.t.rows[j].l∉l
  inc:js.Pairwise (·<·)
def FV(l h:List Int):List Int×Bool×Int:=if sm l h=-1 then(l,true,0)else if(cK l h).2=true then(l++[(cK l h).1],false,0)else([],false,22)
theorem pU(hs:List (List Int)){i:Nat}(h:i<hs.length):∀h',(hs.map aw)[i]'h'=[.seq false 1 (ae hs[i])]:=λh'=>by simp[aw]
def IJ(c:List Int):Bool:=c.any λx=>decide (aX x<0)
def mN(c:List Int):Int:=if IJ c=true then 10 else if i8 c=true then 11 else 0
def IK(c:List Int):List Int:=if mN c=0 then gq c else[]
theorem pV(c:List Int):∀i,(ia c i).length<=i
 |0=>SQ _
 |i+1=>by
  have:=pV c i;rw[ia];split
  .omega
  .simp;omega
def rQ(c:List Int)(hs:List (List Int)):Nat×Int:=if mN c=0 then((eX (gq c) hs 0).2.1,(eX (gq c) hs 0).2.2)else(0,mN c)
end Go.AX
namespace Go.AX
set_option maxRecDepth 16000
open Go.Proofs
set_option linter.unusedSimpArgs false
def lI(l:List Int)(x:Int):Int:=if x∈l then 1 else if aY (-x)∈l then-1 else 0
theorem xN(l:List Int)(x:Int):(0<(lk (cr l l.length) x).getD 0)=(x∈l):=by
 have:=tO l x l.length (SQ _);rw[Tw]at this;unfold aA at this;rw[S9]at this;exact propext this
def nH(n:Nat):PV:=.fn (.func 200) [] [.ptr n 0]
theorem oT(l:List Int)(x:Int):ak Tryz.prog 200 [ab x,.iptr 1 [[.amap false (aG fI (cr l l.length))]] 0 0] (λr=>r=.pv (ab (lI l x))):=by
 refine ap aC Tryz.func200 ?_;unfold lI
 by_cases c1:x∈l
 .simp[xN,c1]
 .by_cases c2:aY (-x)∈l
  .simp[xN,c1,c2]
  .simp[xN,c1,c2]
theorem qM(h:List (List SV))(l:List Int)(g:l.length<=1000000):ax Tryz.prog 120 [.seq false 1 (ae l)] h (λr h'=>h'=h++[[.omap true (aG fI (cr l l.length))]]∧r=.pv (nH h.length)):=by
 refine ax.below (by kernel_rfl) λf=>?_;refine cI [] [.tmp 2] aC Tryz.func120 ?_;simp;refine aF.intro (S:=λ(i:Nat)=>⟨[(3,.pv (.ptr h.length 0)),(9,.pv (.seq false 1 (ae l))),(10,.pv (ab l.length)),(11,.pv (ab i))],h++[[.omap true (aG fI (cr l i))]]⟩) (λi=>i<=l.length) (λi=>l.length -i) 0 ?_ (Te _) ?_
 .exact ai.keep (by simp) (by simp[cr])
 intro i hi
 by_cases c:i<l.length
 .have d:=dZ i;have b:l.getD i 0=l[i]:=by simp[c]
  have hs:cr l (i+1)=pt (cr l i) l[i] ((lk (cr l i) l[i]).getD 0+1):=by rw[cr,b]
  have e:=pS l i l[i];have a:aY ((lk (cr l i) l[i]).getD 0+1)=(lk (cr l i) l[i]).getD 0+1:=ao (by omega) (by omega);simp[c];exact⟨i+1,by(try dsimp only);omega,by(try dsimp only);omega,ai.keep (by simp[d]) (by simp[a,hs])⟩
 .have:i=l.length:=by omega
  subst this;simp[nH]
theorem qN(l:List Int)(x:Int)(h:cX x=true):bn l x=lI l x:=by
 unfold bn lI;rw[SM (by rw[tn];simp[h])]
theorem zK(l:List Int)(x:Int)(h:cX x=false):bn l x=0:=by
 unfold bn;rw[SN (by rw[tn];exact h)]
theorem vU(l c:List Int)(m:l.length<=1000000)(o:c.length<=1000000):ak Tryz.prog 328 [.seq false 1 (ae l),.seq false 1 (ae c)] (λr=>r=.pv (.agg [ab (yf l c).1,ab (yf l c).2.1,ab (yf l c).2.2])):=by
 refine Ny aC Tryz.func328 ?_;have n:=λh=>qM h l m;simp;refine ah.introM (n _) ?_;rintro _ _ ⟨rfl,rfl⟩;simp[nH];refine aF.intro (S:=λ(i:Nat)=>⟨[(4,.pv (.ptr 0 0)),(5,.pv (nH 1)),(6,.pv (.ptr 2 0)),(11,.pv (.seq false 1 (ae c))),(12,.pv (ab c.length)),(13,.pv (ab i))],[[.pv (ab 0),.pv (ab 0),.pv (ab 0)],[.omap true (aG fI (cr l l.length))],[.pv (ab ((c.take i).foldl (A5 l) (0,0,0)).1),.pv (ab ((c.take i).foldl (A5 l) (0,0,0)).2.1),.pv (ab ((c.take i).foldl (A5 l) (0,0,0)).2.2)]]⟩) (λi=>i<=c.length) (λi=>c.length -i) 0 ?_ (Te _) ?_
 .exact ai.keep (by simp[nH]) (by simp)
 intro i hi
 by_cases h:i<c.length
 .have g:=dZ i;have a:=bd (A5 l) (0,0,0) c i h;generalize(c.take i).foldl (A5 l) (0,0,0)=t at a⊢;obtain⟨x,y,z⟩:=t;have f:A5 l (x,y,z) c[i]=if bn l c[i]=1 then(aY (x+1),y,z)else if bn l c[i]=-1 then(x,aY (y+1),z)else if 0<=aX c[i]then(x,y,aY (z+1))else(x,y,z):=rfl;have k:=oT l c[i];simp[h,nH];refine ah.intro (aI c[i]) ?_;cases ho:cX c[i]
  .have hz:af c[i]=0:=by rw[jX];exact ho
   have hx:¬0<=aX c[i]:=by rw[gP];simp[ho]
   rw[zK l _ ho,SM (by decide),SM (by decide),SM hx]at f;rw[f]at a;simp[hz];exact⟨i+1,by(try dsimp only);omega,by(try dsimp only);omega,ai.keep (by simp[g,nH]) (by simp[a])⟩
  .have hz:af c[i]≠0:=λe=>by rw[jX]at e;rw[ho]at e;cases e
   have hx:0<=aX c[i]:=by rw[gP];exact ho
   rw[qN l _ ho,SN hx]at f;rw[f]at a;simp[hz,aZ];refine am.introP k ?_
   by_cases b:lI l c[i]=1
   .rw[SN b]at a;simp[b];exact⟨i+1,by(try dsimp only);omega,by(try dsimp only);omega,ai.keep (by simp[g,nH]) (by simp[a])⟩
   .rw[SM b]at a
    by_cases d:lI l c[i]=-1
    .rw[SN d]at a;simp[d];exact⟨i+1,by(try dsimp only);omega,by(try dsimp only);omega,ai.keep (by simp[g,nH]) (by simp[a])⟩
    .rw[SM d]at a;simp[b,d];exact⟨i+1,by(try dsimp only);omega,by(try dsimp only);omega,ai.keep (by simp[g,nH]) (by simp[a])⟩
 .have j:i=c.length:=by omega
  subst j;simp[yf]
theorem IL(l:List Int):∀(c:List Int)(n:Int),n<=1->c.foldl (zp l) n<=1∧(1<=c.foldl (zp l) n↔n=1∨∃y∈c,bn l y=1)
 |[],n,h=>by simp;omega
 |y::c,n,h=>by
  have b:=gH l y;have hx:bn l y=1->0<=aX y:=λe=>by
   unfold bn at e;split at e
   .omega
   .omega
  rw[V8];have hle:zp l n y<=1:=by unfold zp;split<;>omega
  obtain⟨a,g2⟩:=IL l c (zp l n y) hle;refine⟨a,?_⟩;rw[g2];constructor
  .rintro(e|⟨z,hz,e⟩)
   .unfold zp at e;split at e
    .exact .inr ⟨y,Tj,e⟩
    .exact .inl e
   .exact .inr ⟨z,Tf _ hz,e⟩
  .rintro(e|⟨z,hz,e⟩)
   .left;unfold zp;rw[SM (by omega)];exact e
   .rcases Tp.1 hz with rfl|hz
    .left;unfold zp;split
     .exact e
     .rename_i hn;have:=hx e;omega
    .exact .inr ⟨z,hz,e⟩
theorem Na{l c:List Int}(a:c.length<=1000000):yf l c=((g8 l c 1:Int),(g8 l c (-1):Int),((ep l c).length:Int)):=by
 have:=mL l c 0 0 0 (by omega) (by omega) (by omega);simp only[TP]at this;exact this
theorem NZ{l c:List Int}(j:c.length<=1000000):sm l c=if 0<(yf l c).1 then 1 else if 0<(yf l c).2.2 then 0 else-1:=by
 rw[Na j];obtain⟨h1,g⟩:=IL l c (-1) (by omega);have a:=lG (l:=l) (c:=c);have m:=(tH l c (-1) (by omega)).1;have d:g8 l c 1=0↔∀y∈c,bn l y≠1:=by
  unfold g8;rw[Uh,Uz];simp
 have f:(ep l c).length=0↔∀y∈c,0<=aX y->bn l y=1∨bn l y=-1:=by
  unfold ep;rw[Uh,Uz];constructor
  .intro h y hy hx;have:=h y hy;have i:=gH l y;simp only[S9,not_and,Xi]at this;rcases i with e|e|e
   .exact .inr (this hx (by omega))
   .exact .inl e
   .exact .inr e
  .intro h y hy;simp only[S9,not_and,Xi];intro hx hn;rcases h y hy hx with e|e
   .exact absurd e hn
   .exact e
 unfold sm at a⊢;split
 .rename_i c1;have:¬g8 l c 1=0:=by omega
  rw[d]at this;have:∃y∈c,bn l y=1:=Tl λhn=>this λy hy e=>hn ⟨y,hy,e⟩;have:=g.2 (.inr this);omega
 .rename_i c1;have hz:g8 l c 1=0:=by omega
  rw[d]at hz;have k:¬1<=List.foldl (zp l) (-1) c:=λb=>by
   rcases g.1 b with e|⟨y,hy,e⟩
   .omega
   .exact hz y hy e
  dsimp only;split
  .rename_i c2;have:¬List.foldl (zp l) (-1) c=-1:=λe=>by
    have b:=a.1 e;have:(ep l c).length=0:=f.2 λy hy hx=>.inr (b y hy hx);omega
   omega
  .rename_i c2;have ho:(ep l c).length=0:=by omega
   rw[f]at ho;exact a.2 λy hy hx=>(ho y hy hx).resolve_left (hz y hy)
theorem Cf(l c:List Int)(d:l.length<=1000000)(b:c.length<=1000000):ak Tryz.prog 315 [.seq false 1 (ae l),.seq false 1 (ae c)] (λr=>r=.pv (ab (sm l c))):=by
 refine ap aC Tryz.func315 ?_;have hn:=vU l c d b;have a:=NZ (l:=l) b;generalize sm l c=C at*;generalize yf l c=t at*;obtain⟨x,y,z⟩:=t;simp only at a hn;simp;refine ah.intro hn ?_
 by_cases c1:0<x
 .rw[SN c1]at a;simp[c1,a]
 .rw[SM c1]at a
  by_cases c2:0<z
  .rw[SN c2]at a;simp[c1,c2,a]
  .rw[SM c2]at a;simp[c1,c2,a]
theorem LQ{l:List Int}{y:Int}:(decide (0<=aX y∧bn l y≠1∧bn l y≠-1))=(decide (0<af y)&&decide (lI l y=0)):=by
 cases ho:cX y
 .have h1:¬0<=aX y:=by rw[gP];simp[ho]
  have a:¬0<af y:=by rw[mI];simp[ho]
  simp[h1,a]
 .have h1:0<=aX y:=by rw[gP];exact ho
  have a:0<af y:=by rw[mI];exact ho
  rw[qN l y ho];have:lI l y=1∨lI l y=-1∨lI l y=0:=by unfold lI;split<;>(try split)<;>simp
  simp only[h1,a,XN,decide_true,Vs,Xp];omega
theorem IM(l:List Int)(x:Int):ak Tryz.prog 329 [ab x,.iptr 1 [[.fn (.func 200) [] [.iptr 1 [[.amap false (aG fI (cr l l.length))]] 0 0]]] 0 0] (λr=>r=.pv (BL (decide (0<af x)&&decide (lI l x=0)))):=by
 refine ap aC Tryz.func329 ?_;have a:=oT l x;simp;refine ah.intro (aI x) ?_
 by_cases c1:0<af x
 .simp[c1];refine aV.intro (λ_=>a) ?_;simp
 .simp[c1];refine aV.intro (r:=.pv (ab 0)) (λh:False=>h.elim) ?_;simp
theorem LS{l c:List Int}(m:c.length<=1000000):((yf l c).1<=0∧(yf l c).2.2=1->∃i,∃hi:i<c.length,gp (λx=>decide (0<af x)&&decide (lI l x=0)) c=(i:Int)∧cK l c=(c[i],true))∧(¬((yf l c).1<=0∧(yf l c).2.2=1)->cK l c=(0,false)):=by
 have a:=Na (l:=l) m;constructor
 .rintro⟨h1,d⟩;have j:cK l c=(c.foldl (Lw l) 0,true):=by
   unfold cK;rw[SM];rw[a]at h1 d⊢;simp only at h1 d⊢;omega
  rw[a]at d;simp only at d;obtain⟨u,b⟩:=U8.1 (show(ep l c).length=1 by omega);rw[tG,b]at j;have f:∀y,y∈ep l c↔y∈c∧(decide (0<af y)&&decide (lI l y=0))=true:=λy=>by
   unfold ep;rw[TE,LQ]
  rw[b]at f;have hx:=(f u).1 (Tt.2 rfl);unfold gp;cases e:c.findIdx? (λx=>decide (0<af x)&&decide (lI l x=0))with
  |none=>
   rw[Vr]at e;have:=e u hx.1;rw[this]at hx;cases hx.2
  |some i=>
   rw[UF]at e;obtain⟨g,k,_⟩:=e;refine⟨i,g,rfl,?_⟩;have:=(f c[i]).2 ⟨SS g,k⟩;rw[Tt]at this;rw[this];exact j
 .intro h;unfold cK;rw[SN];rw[a]at h⊢;simp only at h⊢;omega
theorem IN(l c:List Int)(g:l.length<=1000000)(e:c.length<=1000000):ak Tryz.prog 316 [.seq false 1 (ae l),.seq false 1 (ae c)] (λr=>r=.pv (.tup [ab (cK l c).1,BL (cK l c).2])):=by
 refine oB [4,5] aC Tryz.func316 (λ_ _=>results_tmp2 rfl _ _ _) ?_;have hn:=vU l c g e;have n:=λh=>qM h l g;have f:=qE c e 329 [.iptr 1 [[.fn (.func 200) [] [.iptr 1 [[.amap false (aG fI (cr l l.length))]] 0 0]]] 0 0] (λx=>decide (0<af x)&&decide (lI l x=0)) (λr=>by simp) rfl (λk=>by simp) (λx _=>IM l x);obtain⟨d,b⟩:=LS (l:=l) e;generalize cK l c=U at*;generalize yf l c=t at*;obtain⟨x,y,z⟩:=t;simp only at hn d b;simp;refine ah.intro hn ?_
 by_cases c1:x<=0
 rotate_left
 .have a:0<x:=by omega
  rw[b (λh=>c1 h.1)];simp[c1,a]
 have a:¬0<x:=by omega
 by_cases c2:z=1
 rotate_left
 .rw[b (λh=>c2 h.2)];simp[c1,a,c2]
 obtain⟨i,hi,j,m⟩:=d ⟨c1,c2⟩;rw[j]at f;rw[m];simp[c1,a,c2];refine ah.introM (n _) ?_;rintro _ _ ⟨rfl,rfl⟩;simp[nH,aZ];refine⟨rfl,ah.intro f ?_⟩;simp[hi]
end Go.AX
namespace Go.AX
open Go.Proofs
set_option linter.unusedSimpArgs false
def lL(T:Tr):Tr:=⟨T.marks.set (af (T.lits.getD (T.lits.length -1) 0)).toNat ⟨0,0,0,0⟩,T.lits.take (T.lits.length -1),T.beg⟩
def popN(T:Tr):Nat->Tr
 |0=>T
 |j+1=>lL (popN T j)
def cF(T:Tr)(k:Nat):Tr:=⟨(popN T (T.lits.length -(T.beg.getD k 0).toNat)).marks,(popN T (T.lits.length -(T.beg.getD k 0).toNat)).lits,T.beg.take k⟩
set_option maxRecDepth 16000 in
theorem CD(h:List (List SV))(n b:Nat)(T:Tr)(hn:h[n]?=some [.pv (.ptr b 0)])(s:h[b]?=some (gD T))(h0:T.lits≠[])(hs:T.lits.length<=1000000)(D:∀y∈T.lits,0<=af y∧af y<T.marks.length):
 ax Tryz.prog 265 [.ptr n 0] h (λr h'=>h'=h.set b (gD (lL T))∧r=.pv (ab (T.lits.getD (T.lits.length -1) 0))):=by
 refine dR [] [.tmp 1] (h.set b (gD (lL T))) (by simp) (λd=>by rw[Ti];exact bP (i7 _ _) b d) aC Tryz.func265 ?_;obtain⟨p,k⟩:=SG.1 s;obtain⟨g,q⟩:=SG.1 hn;obtain⟨m,B⟩:∃m,T.lits.length=m+1:=⟨T.lits.length -1,by have:=Up.2 h0;omega⟩;have a:m<T.lits.length:=by omega
 have C:aY ((T.lits.length:Int) -1)=(m:Int):=by rw[ao (by omega) (by omega)];omega
 have A:T.lits.getD (T.lits.length -1) 0=T.lits[m]:=by rw[B,Vw,SI,SH a];rfl
 rw[A];have w:n≠b:=λe=>by subst e;rw[hn]at s;simp[gD]at s
 have t:∀x,(h.set b x)[n]?=some [.pv (.ptr b 0)]:=λx=>by rw[Tc (Vq w)];exact hn
 have c:∀x d,(h.set b x)[n]'d=[.pv (.ptr b 0)]:=λx d=>by have:=t x;rw[SH d]at this;exact VC this
 have l:∀x d,(h.set b x)[b]'d=x:=λx d=>by simp
 obtain⟨E,F⟩:=D _ (SS a);have j:=aI T.lits[m];obtain⟨i,hi⟩:∃i:Nat,af T.lits[m]=(i:Int):=⟨(af T.lits[m]).toNat,by omega⟩;have u:i<T.marks.length:=by omega
 have v:(T.marks.map qm).set i [ab 0,ab 0,ab 0,ab 0]=(T.marks.set i ⟨0,0,0,0⟩).map qm:=by rw[WO];rfl
 have f:(ae T.lits).take m=ae (T.lits.take m):=by unfold ae;rw[U3]
 have z:lL T=⟨T.marks.set i ⟨0,0,0,0⟩,T.lits.take m,T.beg⟩:=by unfold lL;rw[A,hi,Ub,B,Vw]
 have o:m<=T.lits.length:=by omega
 rw[z];rw[hi]at j;simp[k,q,p,g,gD,C,c,l,a,o,f];refine bE.intro j ?_;simp[k,q,p,g,gD,C,c,l,a,o,f,u,v];rw[Tm (by simp)];simp[qm]
theorem Gg(h:List (List SV))(b:Nat):
 ax Tryz.prog 211 [.ptr b 0] h (λr h'=>h'=h++[[.pv (.ptr b 0)]]∧r=.pv (.fn (.func 265) [] [.ptr h.length 0])):=by
 refine cI [] [.tmp 2] aC Tryz.func211 ?_;simp
theorem uj(T:Tr):∀j,(popN T j).beg=T.beg
 |0=>rfl
 |j+1=>uj T j
theorem Eb(T:Tr):∀j,(popN T j).marks.length=T.marks.length
 |0=>rfl
 |j+1=>by rw[popN];unfold lL;rw[Ti];exact Eb T j
theorem d6(T:Tr):∀j,(popN T j).lits=T.lits.take (T.lits.length -j)
 |0=>by rw[popN,WP,Tw]
 |j+1=>by
  rw[popN];unfold lL;simp only;rw[d6 T j,XE,SU,show min (min (T.lits.length -j) T.lits.length -1) (T.lits.length -j)=T.lits.length -(j+1) by omega]
def uk(T:Tr):Nat->List Int
 |0=>[]
 |j+1=>uk T j++[(popN T j).lits.getD ((popN T j).lits.length -1) 0]
theorem ul(T:Tr):∀j,(uk T j).length=j
 |0=>rfl
 |j+1=>by rw[uk,SX,ul T j];rfl
/-! ### Levels, in order, each once -/
theorem Aq{zs:List Int}(hs:zs.Pairwise (·<=·)):∀j,j<=zs.length->(aM zs j).Pairwise (·<·)∧∀x,x∈aM zs j↔x∈zs.take j
 |0,_=>⟨by simp[aM],λx=>by simp[aM]⟩
 |j+1,h=>by
  obtain⟨h1,b⟩:=Aq hs j (by omega);have f:zs.getD j 0=zs[j]:=by simp[show j<zs.length by omega]
  rw[aM,f,T4,SH (by omega),UG];have hp:=Tv.1 hs
  by_cases d:j=0∨zs[j]≠zs.getD (j -1) 0
  .rw[SN d];refine⟨Vz.2 ⟨h1,by simp,λy hy z hz=>?_⟩,λx=>by rw[S7,S7,b]⟩;rw[Tt]at hz;subst hz;obtain⟨k,hk,rfl⟩:=S6 ((b y).1 hy);rw[SU]at hk;rw[Ua];rcases d with rfl|d
   .omega
   .have a:zs.getD (j -1) 0=zs[j -1]:=by simp[show j -1<zs.length by omega]
    rw[a]at d;have i:zs[k]<=zs[j -1]:=by
     by_cases e:k=j -1
     .subst e;exact Vc _
     .exact hp k (j -1) (by omega) (by omega) (by omega)
    have l:zs[j -1]<=zs[j]:=hp (j -1) j (by omega) (by omega) (by omega);omega
  .rw[SM d];refine⟨h1,λx=>?_⟩;rw[b,S7,Tt];refine⟨.inl,λhx=>hx.elim id λe=>?_⟩;have hj:j≠0:=λe=>d (.inl e);have a:zs.getD (j -1) 0=zs[j -1]:=by simp[show j -1<zs.length by omega]
   have c:zs[j]=zs[j -1]:=Tl λg=>d (.inr (by rw[a];exact g));rw[e,c];exact Ug.2 ⟨j -1,by omega,rfl⟩
theorem As(l:List Int):(cq (dJ l)).Pairwise (·<·)∧∀x,x∈cq (dJ l)↔x∈l:=by
 obtain⟨h1,a⟩:=Aq (xH l) (dJ l).length (SQ _);refine⟨h1,λx=>?_⟩;rw[Tw]at a;refine(a x).trans ?_;unfold dJ;exact(Vd _ _).mem_iff
theorem Ep{T:Tr}{L:List Int}{u:Int}{r:List Int}(e:L=u::r)(w:∀y∈L,cz T y≠0)(hp:∀y∈L,0<dU T y)(m:∀y∈r,dU T y<dU T u):
 0<=eZ T L∧eZ T L<dU T u∧∀y∈r,dU T y<=eZ T L:=by
 have h:fU T L L.length=L.map (dU T):=by
  unfold fU;rw[Tw,Uw.2 (λy hy=>by simpa using w y hy)]
 obtain⟨h1,b⟩:=As (L.map (dU T));unfold eZ IC;rw[h];have t:dU T u∈cq (dJ (L.map (dU T))):=(b _).2 (SY.2 ⟨u,by rw[e];exact Tj,rfl⟩);have p:∀y∈r,dU T y∈cq (dJ (L.map (dU T))):=λy hy=>(b _).2 (SY.2 ⟨y,by rw[e];exact Tf _ hy,rfl⟩);have o:∀x∈cq (dJ (L.map (dU T))),0<x∧x<=dU T u:=λx hx=>by
  obtain⟨y,hy,rfl⟩:=SY.1 ((b x).1 hx);refine⟨hp y hy,?_⟩;rw[e]at hy;rcases Tp.1 hy with rfl|hy
  .exact Vc _
  .have:=m y hy;omega
 generalize cq (dJ (L.map (dU T)))=C at*;have a:=Tv.1 h1;obtain⟨i,hi,v⟩:=S6 t;have f:i=C.length -1:=by
  refine Tl λk=>?_;have:=a i (C.length -1) hi (by omega) (by omega);have:=(o _ (SS (show C.length -1<C.length by omega))).2;omega
 have l:=hp u (by rw[e];exact Tj);split
 .rename_i g;refine⟨Vc _,l,λy hy=>?_⟩;obtain⟨j,hj,n⟩:=S6 (p y hy);have d:j=i:=by omega
  subst d;have:=m y hy;omega
 .rename_i g;have c:C.getD (C.length -2) 0=C[C.length -2]:=by rw[SI,SH (by omega)];rfl
  rw[c];have s:=o _ (SS (show C.length -2<C.length by omega));refine⟨by omega,?_,λy hy=>?_⟩
  .have:=a (C.length -2) i (by omega) hi (by omega);omega
  .obtain⟨j,hj,n⟩:=S6 (p y hy);have k:j≠i:=λe=>by subst e;have:=m y hy;omega
   by_cases q:j=C.length -2
   .subst q;omega
   .have:=a j (C.length -2) hj (by omega) (by omega);omega
/-! ### Where levels begin -/
/-! ### Back -/
/-! ### What is left stands for what was there -/
theorem Gt{A:Ar}{T:Tr}{R S:List Int}(h:∀x∈R,HOk A T S x){y:Int}(hy:HOk A T R y):HOk A T S y:=by
 induction hy with
 |stop d=>exact h _ d
 |why a b c _ e=>exact .why a b c e
theorem Mz(A:Ar)(T:Tr)(L:List Int):(qI A T L).Sublist L:=It A T L
theorem J6(A:Ar)(T:Tr)(u:Int)(r:List Int):∃a,qI A T (u::r)=u::a∧∀y∈a,y∈r:=by
 refine⟨bk (gZ A T (u::r)) r,by unfold qI;rfl,λy hy=>?_⟩;unfold bk at hy;exact(TE.1 hy).1
theorem back_mem{T:Tr}{L:List Int}{u:Int}{r:List Int}(e:L=u::r)(d:∀y∈L,cz T y≠0)(hp:∀y∈L,0<dU T y)(h:∀y∈r,dU T y<dU T u):
 eZ T L=0∨∃y∈r,eZ T L=dU T y:=by
 obtain⟨_,b1,_⟩:=Ep e d hp h;have b:fU T L L.length=L.map (dU T):=by
  unfold fU;rw[Tw,Uw.2 (λy hy=>by simpa using d y hy)]
 obtain⟨_,g⟩:=As (L.map (dU T));unfold eZ IC at b1⊢;rw[b]at b1⊢;split at b1
 .rename_i c;rw[SN c];exact .inl rfl
 .rename_i c;rw[SM c];right;generalize i:cq (dJ (L.map (dU T)))=C at*;have a:C.getD (C.length -2) 0=C[C.length -2]:=by rw[SI,SH (by omega)];rfl
  rw[a]at b1⊢;obtain⟨y,hy,f⟩:=SY.1 ((g _).1 (SS (show C.length -2<C.length by omega)));refine⟨y,?_,f.symm⟩;rw[e]at hy;rcases Tp.1 hy with rfl|hy
  .omega
  .exact hy
/-! ### What is shown holds -/
theorem lN{m:List Bool}{x:Int}(h:iu m x=true):cX x=true∧0<=aX x:=by
 have hk:cX x=true:=by
  rw[a8];unfold iu at h;simp only[S4,S9]at h;have h1:=h.1;unfold ca at h1;split at h1
  .omega
  .split at h1
   .omega
   .exact absurd rfl h1
 refine⟨hk,?_⟩;have:=(a8 x).1 hk;unfold aX fp;rw[SN hk];split<;>omega
theorem J7{m:List Bool}{x:Int}(h:iu m x=true):iu m (-x)=false:=by
 obtain⟨hk,_⟩:=lN h;have b:=(a8 x).1 hk;unfold iu ca at*
 by_cases c:0<x
 .rw[SN (by omega)]at h;rw[SM (by omega),SN (by omega)];simp only[UZ]at h⊢
  revert h
  cases a:(decide (x<=(m.length:Int))&&m.getD (x -1).toNat false)<;>simp
 .rw[SM (by omega),SN (by omega)]at h;rw[SN (by omega)];simp only at h⊢
  revert h
  cases a:(decide (-x<=(m.length:Int))&&m.getD (-x -1).toNat false)<;>simp
theorem J8{m:List Bool}{x:Int}(hk:cX x=true)(h:iu m x=false):iu m (-x)=true:=by
 have b:=(a8 x).1 hk;unfold iu ca at*
 by_cases c:0<x
 .rw[SN (by omega)]at h;rw[SM (by omega),SN (by omega)];simp only[UZ]at h⊢
  revert h
  have:x≠0:=by omega
  cases a:(decide (x<=(m.length:Int))&&m.getD (x -1).toNat false)<;>simp[this]
 .rw[SM (by omega),SN (by omega)]at h;rw[SN (by omega)];simp only at h⊢
  revert h
  have:-x≠0:=by omega
  cases a:(decide (-x<=(m.length:Int))&&m.getD (-x -1).toNat false)<;>simp[this]
theorem MA{l:List Int}{x:Int}(h:bn l x=-1):aY (-x)∈l:=by
 unfold bn at h;split at h
 .omega
 .split at h
  .omega
  .split at h
   .assumption
   .omega
theorem Eq{m:List Bool}{l:List Int}(a:∀y∈l,iu m y=true){x:Int}(hx:iu m x=true):bn l x≠-1:=λe=>by
 have h1:=MA e;obtain⟨hk,_⟩:=lN hx;have b:=(a8 x).1 hk;rw[ao (by omega) (by omega)]at h1;have:=a _ h1;rw[J7 hx]at this;cases this
theorem CK{m:List Bool}{l c:List Int}(o:c.length<=1000000)(n:∀y∈l,iu m y=true)(k:cd c m=true)(f:(cK l c).2=true):iu m (cK l c).1=true:=by
 obtain⟨y,hy,a⟩:=U0.1 k;have j:=mL l c 0 0 0 (by omega) (by omega) (by omega);have h:yf l c=(((0+g8 l c 1:Nat):Int),((0+g8 l c (-1):Nat):Int),((0+(ep l c).length:Nat):Int)):=j;have h0:g8 l c 1=0∧(ep l c).length=1∧(cK l c).1=c.foldl (Lw l) 0:=by
  unfold cK at f⊢;rw[h]at f⊢;split at f
  .cases f
  .rename_i hn;rw[SM hn];simp only[ne_eq,XF,Decidable.not_not]at hn;exact⟨by omega,by omega,rfl⟩
 obtain⟨g,i,a3⟩:=h0;obtain⟨u,b⟩:∃u,ep l c=[u]:=U8.1 i;rw[tG,b]at a3;have d:y∈ep l c:=by
  unfold ep;rw[TE];refine⟨hy,?_⟩;rw[S9];refine⟨(lN a).2,λe=>?_,Eq n a⟩;unfold g8 at g;rw[Uh,Uz]at g;exact g y hy (by simpa using e)
 rw[b,Tt]at d;rw[a3,←d];exact a
theorem wz{m:List Bool}:∀(hs:List (List Int))(l:List Int)(n:Nat),(∀c∈hs,c.length<=1000000)->(∀y∈l,iu m y=true)->(∀c∈hs,cd c m=true)->(eX l hs n).2.2=0->False
 |[],l,n,_,_,_,h=>by simp[eX]at h
 |c::hs,l,n,f,e,d,h=>by
  rw[eX]at h;split at h
  .rename_i h1;obtain⟨y,hy,b⟩:=U0.1 (d c Tj);exact Eq e b (lG.1 h1 y hy (lN b).2)
  .split at h
   .rename_i g;have i:=CK (f c Tj) e (d c Tj) g;refine wz hs _ _ (λc a=>f c (Tf _ a)) (λy hy=>?_) (λc a=>d c (Tf _ a)) h;rcases S7.1 hy with hy|hy
    .exact e y hy
    .rw[Tt]at hy;rw[hy];exact i
   .simp at h
end Go.AX
namespace Go.AX
set_option maxRecDepth 16000
open Go.Proofs
set_option linter.unusedSimpArgs false
theorem Oi(k m:Nat)(h:2^k*(2*m+1)<=1000000000):bits .and IntKind.i64 ((2^k*(2*m+1):Nat):Int) (-((2^k*(2*m+1):Nat):Int))=((2^k:Nat):Int):=by
 have e:=Lib.and_neg 64 k m (by omega);have hp:0<2^k*(2*m+1):=Nat.mul_pos (Nat.pow_pos (by omega)) (by omega);have hle:2^k<=2^k*(2*m+1):=WC _ (by omega);generalize 2^k*(2*m+1)=a at*;have h1:(BitVec.ofInt 64 (a:Int)).toNat=a:=by
  rw[XC,BitVec.toNat_ofNat];exact Wo (by omega)
 have b:(BitVec.ofInt 64 (-(a:Int))).toNat=2^64 -a:=by
  rw[BitVec.toNat_ofInt];omega
 show IntKind.i64.wrap ((BitVec.ofInt 64 (a:Int)&&&BitVec.ofInt 64 (-(a:Int))).toNat:Int)=_;rw[BitVec.toNat_and,h1,b,e,IntKind.wrap_i64];omega
def GI(u v:Int):Prop:=∃k m:Nat,v=((2^k:Nat):Int)∧u=((2^k*(m+1):Nat):Int)
theorem GI.pos{u v:Int}(h:GI u v):1<=v∧v<=u:=by
 obtain⟨k,m,rfl,rfl⟩:=h;have:0<2^k:=Nat.pow_pos (by omega);have:=WC (2^k) (show 0<m+1 by omega);omega
theorem GI.more{u v:Int}(h:GI u v)(d:u<=1000000000)(b:bits .and IntKind.i64 u (-u)≠v):GI u (v*2):=by
 obtain⟨k,m,rfl,rfl⟩:=h;obtain⟨c,a⟩:∃c,m+1=2*c∨m+1=2*c+1:=⟨(m+1)/2,by omega⟩;rcases a with a|a
 .refine⟨k+1,c -1,by rw[Xy];omega,?_⟩;rw[show c -1+1=c by omega,a,Xy,Nat.mul_assoc]
 .rw[a]at b d;exact absurd (Oi k c (by omega)) b
theorem GI.one{u:Int}(a:1<=u):GI u 1:=⟨0,(u -1).toNat,rfl,by simp;omega⟩
theorem ED(h:List (List SV))(g i:Nat)(u v:Int)(p:h[g]?=some [.pv (ab u)])(s:h[i]?=some [.pv (ab v)])(a:g≠i)(K:GI u v)(q:u<=100000000):
 ax Tryz.prog 266 [.ptr i 0,.ptr g 0] h (λr h'=>r=.pv (ab v)∧∃m o,h'=(h.set g [.pv (ab m)]).set i [.pv (ab o)]∧GI m o∧m<=u+1):=by
 refine cI [] [.tmp 2] aC Tryz.func266 ?_;obtain⟨d,b⟩:=SG.1 p;obtain⟨e,f⟩:=SG.1 s;obtain⟨t,w⟩:=K.pos;have j:=ao (n:=-u) (by omega) (by omega);have k:=ao (n:=u+1) (by omega) (by omega);have l:=ao (n:=v*2) (by omega) (by omega);simp[d,e,b,f,j]
 by_cases c:bits .and IntKind.i64 u (-u)=v
 .simp[c,d,e,b,f,k,a,a.symm];exact⟨u+1,1,rfl,GI.one (by omega),Vc _⟩
 .simp[c,d,e,b,f,l,a,a.symm];refine⟨u,v*2,?_,K.more (by omega) c,by omega⟩;rw[←b,Vg]
theorem CT(h:List (List SV)):
 ax Tryz.prog 214 [] h (λr h'=>h'=h++[[.pv (ab 1)],[.pv (ab 1)]]∧r=.pv (.fn (.func 266) [] [.ptr (h.length+1) 0,.ptr h.length 0])):=by
 refine cI [] [.tmp 0] aC Tryz.func214 ?_;simp
theorem EE(c unit:Int)(m:0<=c∧c<=1000000)(o:1<=unit∧unit<=1000000):
 ak Tryz.prog 135 [ab c,ab unit] (λr=>∃a:Int,r=.pv (ab a)∧c<a):=by
 refine ap aC Tryz.func135 ?_;have c1:¬c<0:=by omega
 have c2:¬1000000<c:=by omega
 have c3:¬unit<1:=by omega
 have c4:¬1000000<unit:=by omega
 simp[c1,c2,c3,c4];refine ah.introM (CT []) ?_;rintro _ _ ⟨rfl,rfl⟩;simp;refine am.intro (ED [[.pv (ab 1)],[.pv (ab 1)]] 0 1 1 1 rfl rfl (by decide) (GI.one (by omega)) (by omega)) ?_;rintro _ _ ⟨rfl,u,v,rfl,K,hk⟩;have e:=ao (n:=unit) (by omega) (by omega);simp[e];refine aF.intro (S:=λ(x:Int×Int×Int)=>⟨[(0,.pv (ab c)),(1,.pv (ab unit)),(5,.pv (.fn (.func 266) [] [.ptr 1 0,.ptr 0 0])),(6,.pv (ab x.1))],[[.pv (ab x.2.1)],[.pv (ab x.2.2)]]⟩)
  (λx=>1<=x.1∧x.2.1<=x.1+1∧GI x.2.1 x.2.2) (λx=>(c+1 -x.1).toNat) (unit,u,v) ?_ ⟨by omega,by dsimp only;omega,K⟩ ?_
 .exact ai.keep (by simp) rfl
 clear K hk u v;rintro⟨a,u,v⟩ ⟨h,b,K⟩;dsimp only at h b K
 by_cases d:a<=c
 .obtain⟨p,q⟩:=K.pos;have i:0<unit*v:=Int.mul_pos (by omega) (by omega);have j:unit*v<=1000000*1000001:=Int.mul_le_mul (by omega) (by omega) (by omega) (by omega);have f:=ao (n:=unit*v) (by omega) (by omega);have g:=ao (n:=a+unit*v) (by omega) (by omega);simp[d];refine am.intro (ED [[.pv (ab u)],[.pv (ab v)]] 0 1 u v rfl rfl (by decide) K (by omega)) ?_;rintro _ _ ⟨rfl,k,l,rfl,K',hk⟩;simp[f,g];exact⟨(a+unit*v,k,l),by(try dsimp only);omega,⟨by(try dsimp only);omega,by(try dsimp only);omega,K'⟩,ai.keep (by simp) (by simp)⟩
 .simp[d];omega
end Go.AX