/-
  Contracts: how glued literals are; whether a clause is a reason; and what follows.
-/
import Derived.Test.YtepodadinenmnaaGreatS14AxGlP
import Derived.Test.YtepodadinenmnaaGreatAxOw
import Derived.Test.YtepodadinenmnaaGreatS14AxGlC
import Derived.Test.YtepodadinenmnaaGreatS14AxEvC
import Derived.Test.YtepodadinenmnaaGreatS14AxShelf2
import Derived.Test.YtepodadinenmnaaGreatAxDl
import Derived.Test.YtepodadinenmnaaGreatS14AxMovR
import Derived.Lib.TrailingZeros
set_option linter.unusedSimpArgs false
namespace Go.AX
set_option maxRecDepth 8000
open Go.Proofs
def tx(T:Tr)(l:List Int):Nat->List (Int×Int)
 |0=>[]
 |i+1=>if 0<(dw T (af (l.getD i 0))).1.lev then pt (tx T l i) (dw T (af (l.getD i 0))).1.lev (aX ((lk (tx T l i) (dw T (af (l.getD i 0))).1.lev).getD 0+1))else tx T l i
def LU(T:Tr)(l:List Int):Int:=((tx T l l.length).length:Int)
theorem FV(T:Tr)(ht:T.ok)(l:List Int)(g:l.length<=1000000):aj Tryz.prog 97 [bN T,.seq false 1 (ae l)] (λr=>r=.pv (ab (LU T l))):=by
 refine ap aD Tryz.func97 ?_;have a:=λv=>fH T v ht;simp only[bN,cR]at a;simp[bN,cR];refine ax.intro (S:=λ(i:Nat)=>⟨[(0,.pv (bN T)),(5,.omap true (aZ fI (tx T l i))),(12,.pv (.seq false 1 (ae l))),(13,.pv (ab l.length)),(14,.pv (ab i))],[]⟩) (λi=>i<=l.length) (λi=>l.length -i) 0 ?_ (Tf _) ?_
 .exact ah.to (by simp[tx,bN,cR,aZ]) rfl (by simp) (by simp[bN,cR]) (by simp)
 intro i hi
 by_cases f:i<l.length
 .have b:=dv i;have e:l.getD i 0=l[i]:=by rw[SS,SR f];rfl
  have d:tx T l (i+1)=if 0<(dw T (af l[i])).1.lev then pt (tx T l i) (dw T (af l[i])).1.lev (aX ((lk (tx T l i) (dw T (af l[i])).1.lev).getD 0+1))else tx T l i:=by rw[tx,e]
  simp[f,cR];refine ai.intro (aK l[i]) ?_;simp[cR];refine ai.intro (a (af l[i])) ?_;generalize(dw T (af l[i])).1.lev=n at*
  by_cases c:0<n
  .rw[SX c]at d;simp[c];exact⟨i+1,by dsimp only;omega,by dsimp only;omega,ah.to (by simp[b,d,bN,cR]) rfl (by simp) (by simp[bN,cR]) (by simp)⟩
  .rw[SU c]at d;simp[c];exact⟨i+1,by dsimp only;omega,by dsimp only;omega,ah.to (by simp[b,d,bN,cR]) rfl (by simp) (by simp[bN,cR]) (by simp)⟩
 .have:i=l.length:=by omega
  subst this;simp[LU,aZ]
theorem ny(T:Tr):aj Tryz.prog 105 [bN T] (λr=>r=.pv (ab T.beg.length)):=by
 refine ap aD Tryz.func105 ?_;have hi:=mM T;simp only[bN,cR]at hi;simp[bN,cR];refine ai.intro hi ?_;simp
def zH(T:Tr)(at' l:Int):Bool:=decide (0<cm T l)&&decide ((dw T (af l)).1.rea=at')
def tz(T:Tr)(at':Int)(l:List Int):Bool:=l.any (zH T at')
theorem Ci(T:Tr)(ht:T.ok)(at' l:Int):aj Tryz.prog 255 [ab l,.iptr 1 [[bN T]] 0 0,.iptr 1 [[ab at']] 0 0] (λr=>r=.pv (BL (zH T at' l))):=by
 refine ap aD Tryz.func255 ?_;have b:=fJ T l ht;have a:=gB T (af l) ht;simp only[bN,cR]at b a;simp[bN,cR];refine bz.intro b ?_;unfold zH
 by_cases c:0<cm T l
 .simp[c,cR];refine ea.intro (r:=.pv (ab (af l))) (λ_=>aK l) ?_;simp[c,cR];refine ea.intro (r:=.pv (ab (dw T (af l)).1.rea)) (λ_=>a) ?_;simp
 .simp[c,cR];refine ea.intro (r:=.pv (ab (af l))) (λ_=>aK l) ?_;simp[c,cR];refine ea.intro (r:=.pv (ab (dw T (af l)).1.rea)) (λ_=>a) ?_;simp
theorem FW(T:Tr)(ht:T.ok)(at':Int)(l:List Int)(b:l.length<=1000000):aj Tryz.prog 194 [bN T,ab at',.seq false 1 (ae l)] (λr=>r=.pv (BL (tz T at' l))):=by
 refine ap aD Tryz.func194 ?_;have a:=fY l b 255 [.iptr 1 [[bN T]] 0 0,.iptr 1 [[ab at']] 0 0] (zH T at') (λr=>by simp[bN,cR]) rfl (λk=>by simp[bN,cR]) (λx _=>Ci T ht at' x);simp only[bN,cR]at a;simp[bN,cR,bA];refine bf.intro (r:=.pv (BL (tz T at' l))) (λ_=>a) ?_;simp
end Go.AX
namespace Go.AX
set_option maxRecDepth 16000
open Go.Proofs
def pL(A:Ar):List PV:=[.seq false 1 (ae A.row),.amap false (aZ fI A.hd)]
abbrev kw(A:Ar):PV:=.iptr 2 [pL A] 0 0
@[simp] theorem FX:∀l:List Int,wX (ae l)
 |[]=>trivial
 |_::l=>⟨⟨trivial,trivial⟩,FX l⟩
@[simp] theorem II:∀l:List Mk,wX (l.map qg)
 |[]=>trivial
 |_::l=>⟨⟨trivial,trivial,trivial,trivial,trivial⟩,II l⟩
theorem Ee{h:List (List SV)}{b:Nat}{A:Ar}(d:h[b]?=some (ja A))(n:Nat):bA h (n+1) b 0=kw A:=by
 obtain⟨c,a⟩:=SQ.1 d;simp[bA,c,a,ja,pL,frzC]
@[simp] theorem OZ(k v:Int)(l:List (Int×Int)):aZ fI ((k,v)::l)=(k,ab v)::aZ fI l:=rfl
theorem FY(A:Ar)(h0:A.hd≠[]):aj Tryz.prog 207 [kw A] (λr=>r=.pv (BL true)):=by
 refine ap aD Tryz.func207 ?_;obtain⟨row,hd⟩:=A;cases hd with
 |nil=>exact absurd rfl h0
 |cons x hd=>
  obtain⟨k,v⟩:=x;simp[kw,pL]
theorem Ef(A:Ar)(h0:A.hd≠[])(q:Int):aj Tryz.prog 237 [kw A,ab q] (λr=>r=.pv (BL (isA A q))):=by
 refine ap aD Tryz.func237 ?_;have a:=FY A h0;simp only[kw,pL]at a;simp[kw,pL];refine ai.intro a ?_;simp[isA]
theorem FZ(h:List (List SV))(A:Ar)(p n:Nat)(d:AtOk A p n)(k:A.row.length<=1000000000):aA Tryz.prog 239 [kw A,ab p] h (λr h'=>h'=h∧r=.pv (.seq false 1 (ae (dC A p n)))):=by
 refine gy [] [.tmp 4] aD Tryz.func239 ?_;obtain⟨j,b⟩:=d;have h1:p+1<A.row.length:=by omega
 have c:A.row[p+1]=(n:Int):=by rw[←b,SS,SR h1];rfl
 have f:=dv p;have g:aX ((p:Int)+3)=((p+3:Nat):Int):=by rw[ao (by omega) (by omega)];omega
 have i:aX ((p:Int)+3+n)=(p:Int)+3+n:=ao (by omega) (by omega);have a:List.drop (p+3) (List.take (p+3+n) (ae A.row))=ae (dC A p n):=by
  unfold ae dC;rw[←UB,←VD,List.drop_take];congr 3;omega
 have t1:((p:Int)+3).toNat=p+3:=by omega
 have e:((p:Int)+3+n).toNat=p+3+n:=by omega
 simp[kw,pL,f,g,i,h1,c,t1,e,a,fX]
 try omega
def av(A:Ar)(q:Int):List Int:=if isA A q=true then dC A q.toNat (A.row.getD (q.toNat+1) 0).toNat else[]
def j0(A:Ar):Prop:=∀q:Int,isA A q=true->∃p n:Nat,q=(p:Int)∧AtOk A p n
theorem j7(A:Ar)(h0:A.hd≠[])(hk:j0 A)(o:A.row.length<=1000000)(q:Int):aj Tryz.prog 160 [kw A,ab q] (λr=>r=.own true 1 (ae (av A q))):=by
 refine aj.own0 (R:=λr=>r=.own true 1 (ae (av A q))∨(av A q=[]∧r=.pv (.lit (.slice none 0 0)))) ?_ (λr h=>h.imp id λ⟨i,j⟩=>⟨j,true,1,by rw[i];rfl⟩);refine ap aD Tryz.func160 ?_;have hi:=Ef A h0 q;simp only[kw,pL]at hi;simp[kw,pL];refine ai.intro hi ?_
 by_cases c:isA A q=true
 rotate_left
 .have c':isA A q=false:=by simpa using c
  have b:av A q=[]:=SU c;simp[c',b]
 obtain⟨p,n,rfl,d⟩:=hk q c;have f:=λh=>FZ h A p n d (by omega);have b:av A p=dC A p n:=by
  unfold av;rw[SX c,Uc,d.num,Uc]
 obtain⟨m,g⟩:=d;have h1:p+1<A.row.length:=by omega
 have k:A.row[p+1]=(n:Int):=by rw[←g,SS,SR h1];rfl
 have l:=dv p;have a:(dC A p n).length=n:=by unfold dC;rw[S6,TN];omega
 have e:(ae (dC A p n)).take n=ae (dC A p n):=TT (by simp[a]);rw[b];generalize dC A p n=y at*;simp only[kw,pL]at f;simp[c,l,h1,k,pL];refine⟨by omega,by omega,?_⟩;refine ai.introM (f _) ?_;rintro _ _ ⟨rfl,rfl⟩;simp[a,e]
theorem fM(A:Ar)(hk:j0 A)(q:Int):(av A q).length<=A.row.length:=by
 unfold av;split
 .unfold dC;rw[S6,TN];omega
 .simp
def uN(T:Tr)(l x:Int):Bool:=decide (x=aX (-l))||decide ((dw T (af x)).1.lev=0)
def pM(A:Ar)(T:Tr)(l:Int):Bool:=!(decide (0<=cm T l)||decide ((dw T (af l)).1.rea<0)||!fA (av A (dw T (af l)).1.rea) (aX (-l)))
def tA(A:Ar)(T:Tr)(l:Int):List Int:=if pM A T l=true then(av A (dw T (af l)).1.rea).filter λx=>!uN T l x else[]
theorem N0(T:Tr)(ht:T.ok)(l x:Int):aj Tryz.prog 289 [ab x,.iptr 1 [[ab l]] 0 0,.iptr 1 [[bN T]] 0 0] (λr=>r=.pv (BL (uN T l x))):=by
 refine ap aD Tryz.func289 ?_;have a:=fH T (af x) ht;simp only[bN,cR]at a;unfold uN
 by_cases c:x=aX (-l)
 .simp[bN,cR,c];refine ea.intro (r:=.pv (ab 0)) (λh:False=>h.elim) ?_;simp[cR];refine ea.intro (r:=.pv (ab 0)) (λh:False=>h.elim) ?_;simp
 .simp[bN,cR,c];refine ea.intro (λ_=>aK x) ?_;simp[cR];refine ea.intro (λ_=>a) ?_;simp
theorem F0(A:Ar)(T:Tr)(l:Int)(ht:T.ok)(hk:j0 A)(s:A.row.length<=1000000)(h0:0<=(dw T (af l)).1.rea->A.hd≠[]):aj Tryz.prog 246 [kw A,bN T,ab l] (λr=>r=.pv (.tup [.seq true 1 (ae (tA A T l)),BL (pM A T l)])):=by
 refine aj.wk (R:=λr=>∃x,r=.pv x∧bB x (.tup [.seq true 1 (ae (tA A T l)),BL (pM A T l)])) ?_ (λr ⟨x,e,h⟩=>⟨x,_,e,h,rfl⟩);refine iO [] [.tmp 6,.tmp 7] aD Tryz.func246 ?_;have n:=gB T (af l) ht;have p:=fJ T l ht;have d:=λh=>j7 A h hk s (dw T (af l)).1.rea;have g:=λx=>N0 T ht l x;simp only[bN,cR]at n p;simp only[kw,pL]at d;simp[kw,pL,bN,cR];refine bz.intro (aK l) ?_;simp[cR];refine bz.intro n ?_;simp[cR];refine bz.intro p ?_;have i:pM A T l=!(decide (0<=cm T l)||decide ((dw T (af l)).1.rea<0)||!fA (av A (dw T (af l)).1.rea) (aX (-l))):=rfl;have b:tA A T l=if pM A T l=true then(av A (dw T (af l)).1.rea).filter λx=>!uN T l x else[]:=rfl;have t:=fM A hk (dw T (af l)).1.rea;generalize(dw T (af l)).1.rea=why at*
 by_cases c1:0<=cm T l
 .have a:pM A T l=false:=by rw[i];simp[c1]
  rw[a]at b;simp only[TM,Ul]at b;simp[c1,a,b];refine ea.intro (r:=.pv (.seq true 1 [])) (λh:False=>h.elim) ?_;simp;refine ea.intro (r:=.pv (BL false)) (λh:False=>h.elim) ?_;simp[bB,bc,ae]
 by_cases c2:why<0
 .have a:pM A T l=false:=by rw[i];simp[c2]
  rw[a]at b;simp only[TM,Ul]at b;simp[c1,c2,a,b];refine ea.intro (r:=.pv (.seq true 1 [])) (λh:False=>h.elim) ?_;simp;refine ea.intro (r:=.pv (BL false)) (λh:False=>h.elim) ?_;simp[bB,bc,ae]
 have d:=d (h0 (by omega));simp[c1,c2];refine ea.intro (λ_=>d) ?_;simp;refine ea.intro (λ_=>NT _ (aX (-l)) (by omega)) ?_;cases c3:fA (av A why) (aX (-l))
 .have a:pM A T l=false:=by rw[i];simp[c3]
  rw[a]at b;simp only[TM,Ul]at b;simp[a,b,bB,bc,ae]
 .have a:pM A T l=true:=by rw[i];simp[c1,c2,c3]
  rw[a]at b;simp only[UU]at b;simp[a,cR,pL];refine ai.intro d ?_;generalize av A why=y at*;have q:=iR y (by omega) 289 [.iptr 1 [[ab l]] 0 0,.iptr 1 [[bN T]] 0 0] (uN T l) (λr=>by simp[bN,cR]) rfl (λk=>by simp[bN,cR]) (by simp[bN,cR,PV.old,qo,wX]) (λx _=>g x);simp;refine ai.introX (bE.introS (o:=.slot 34) (lo:=0) (hi:=y.length) q (by simp) rfl rfl (by simp) (by simp) rfl (by simp;rw[TT (by simp)];rfl) (aU 0 y) (by simp) (by simp[bN,cR,bA]) ?_);rintro k m ⟨rfl,rfl⟩ _ _;have j:List.drop y.length (ae y)=[]:=Tq (by simp);have c:∀X,List.take (bk (uN T l) y).length (aC (bk (uN T l) y++X))=ae (bk (uN T l) y):=λX=>by
   unfold aC;rw[Tu,UY (by simp)];rfl
  have f:bk (uN T l) y=tA A T l:=b.symm;simp[j,c,f,bB,bc];rw[f]at c;exact c _
theorem IJ(A:Ar)(T:Tr)(l:Int)(hk:j0 A):(tA A T l).length<=A.row.length:=by
 unfold tA;split
 .exact TD (Uq _ _) (fM A hk _)
 .simp
end Go.AX
namespace Go.AX
set_option maxRecDepth 16000
open Go.Proofs
def pN(n:Nat):PV:=.fn (.func 244) [] [.ptr (n+1) 0,.ptr (n+3) 0,.ptr n 0,.ptr (n+2) 0,.ptr (n+4) 0]
def IK(A:Ar)(T:Tr)(lits:List Int)(m:List (Int×Int))(n:Nat):List (List SV):=[[.pv (kw A)],[.pv (bN T)],[.pv (.seq false 1 (ae lits))],[.omap true (aZ fI m)],[.pv (pN n)]]
theorem IL(h:List (List SV))(A:Ar)(T:Tr)(lits:List Int):aA Tryz.prog 164 [kw A,bN T,.seq false 1 (ae lits)] h (λr h'=>h'=h++IK A T lits [] h.length∧r=.pv (pN h.length)):=by
 refine cQ [] [.tmp 6] aD Tryz.func164 ?_;simp[kw,pL,bN,cR,IK,pN];rfl
def cz(T:Tr)(l:Int):Int:=(dw T (af l)).1.pla
def lX(T:Tr)(lits:List Int)(l x:Int):Bool:=!decide (x=l)&&(decide (x∈lits)&&decide (cz T x<cz T l))
def nW(A:Ar)(T:Tr)(lits:List Int):Nat->Int->Bool
 |0,_=>false
 |k+1,l=>pM A T l&&(tA A T l).all λx=>lX T lits l x||(decide (0<=cz T x∧cz T x<cz T l)&&nW A T lits k x)
theorem zI(A:Ar)(T:Tr)(lits:List Int):∀(k k':Nat)(l:Int),(cz T l).toNat<k->(cz T l).toNat<k'->nW A T lits k l=nW A T lits k' l
 |0,_,_,h,_=>by omega
 |_+1,0,_,_,h=>by omega
 |k+1,k'+1,l,h,h'=>by
  have e:(λx=>lX T lits l x||(decide (0<=cz T x∧cz T x<cz T l)&&nW A T lits k x))=(λx=>lX T lits l x||(decide (0<=cz T x∧cz T x<cz T l)&&nW A T lits k' x)):=by
   funext x
   by_cases c:0<=cz T x∧cz T x<cz T l
   .rw[zI A T lits k k' x (by omega) (by omega)]
   .rw[UP c,U1,U1]
  rw[nW,nW,e]
def lY(A:Ar)(T:Tr)(lits:List Int)(l:Int):Bool:=nW A T lits ((cz T l).toNat+1) l
def nX(A:Ar)(T:Tr)(lits:List Int)(l x:Int):Bool:=lX T lits l x||(decide (0<=cz T x∧cz T x<cz T l)&&lY A T lits x)
theorem tB(A:Ar)(T:Tr)(lits:List Int)(l:Int):lY A T lits l=(pM A T l&&(tA A T l).all (nX A T lits l)):=by
 have e:(λx=>lX T lits l x||(decide (0<=cz T x∧cz T x<cz T l)&&nW A T lits (cz T l).toNat x))=nX A T lits l:=by
  funext x;unfold nX lY
  by_cases c:0<=cz T x∧cz T x<cz T l
  .rw[zI A T lits (cz T l).toNat ((cz T x).toNat+1) x (by omega) (by omega)]
  .rw[UP c,U1,U1]
 unfold lY;rw[nW,e]
def iV(A:Ar)(T:Tr)(lits:List Int)(l a:Int):Bool:=decide (0<=cz T l∧cz T l<a)&&lY A T lits l
def oN(A:Ar)(T:Tr)(lits:List Int)(m:List (Int×Int)):Prop:=∀q:Int,(lk m q).getD 0=0∨((lk m q).getD 0=1∧lY A T lits q=true)∨((lk m q).getD 0=2∧lY A T lits q=false)
def nz:Sch:=
 let E:Sch:=.fork [(14,.take 16 (.take 17 (.take 18 (.take 20 (.take 21 (.fork [(19,.fork [(22,.take 23 (.take 24 (.fork [(25,.done)])))])]))))))]
 .take 0 (.take 1 (.take 2 (.take 3 (.take 4 (.take 5 (.take 7 (.fork [(6,.fork [(8,.take 9 (.take 10 (.take 12 (.take 15 (.fork [(11,.fork [(13,E)]),(13,.fork [(11,E)])])))))])])))))))
structure AskAt (A:Ar) (T:Tr) (lits:List Int) (m:List (Int×Int)) (n:Nat) (h:List (List SV)):Prop where
  b0:h[n]?=some [.pv (kw A)]
  b1:h[n+1]?=some [.pv (bN T)]
  b2:h[n+2]?=some [.pv (.seq false 1 (ae lits))]
  b3:h[n+3]?=some [.omap true (aZ fI m)]
  b4:h[n+4]?=some [.pv (pN n)]
theorem AskAt.set{A:Ar}{T:Tr}{lits:List Int}{m b:List (Int×Int)}{n:Nat}{h:List (List SV)}(a:AskAt A T lits m n h):AskAt A T lits b n (h.set (n+3) [.omap true (aZ fI b)])where
 b0:=by rw[Tj (by omega)];exact a.b0
 b1:=by rw[Tj (by omega)];exact a.b1
 b2:=by rw[Tj (by omega)];exact a.b2
 b3:=by rw[TH (SQ.1 a.b3).1]
 b4:=by rw[Tj (by omega)];exact a.b4
structure ShOk (A:Ar) (T:Tr) (lits:List Int):Prop where
  tr:T.ok
  ar:j0 A
  len:A.row.length<=1000000
  few:lits.length<=1000000
  hd:∀v,0<=(dw T v).1.rea->A.hd≠[]
theorem IM(A:Ar)(T:Tr)(lits:List Int)(n:Nat)(hs:ShOk A T lits)(l a:Int)(m:List (Int×Int))(h:List (List SV))(k:¬(0<=cz T l∧cz T l<a))(b:AskAt A T lits m n h)(g:oN A T lits m):
 aA Tryz.prog 244 [ab l,ab a,.ptr (n+1) 0,.ptr (n+3) 0,.ptr n 0,.ptr (n+2) 0,.ptr (n+4) 0] h (λr h'=>∃i,oN A T lits i∧h'=h.set (n+3) [.omap true (aZ fI i)]∧r=.pv (BL (iV A T lits l a))):=by
 refine cQ [10] [.tmp 9] aD Tryz.func244 ?_;have c:=nt T (af l) hs.tr;have e:(dw T (af l)).1.pla=cz T l:=rfl;obtain⟨n0,g0⟩:=SQ.1 b.b0;obtain⟨j,f⟩:=SQ.1 b.b1;obtain⟨p,g2⟩:=SQ.1 b.b2;obtain⟨q,g3⟩:=SQ.1 b.b3;obtain⟨s,o⟩:=SQ.1 b.b4;rw[e]at c;simp only[bN,cR]at c;simp[j,f,bN,cR];refine bz.intro (aK l) ?_;simp[j,f,bN,cR];refine bz.intro c ?_
 by_cases c1:cz T l<0
 .have d:iV A T lits l a=false:=by unfold iV;rw[UP (by omega),U1]
  simp[c1,d];exact⟨m,g,(cN b.b3).symm⟩
 by_cases c2:a<=cz T l
 .have d:iV A T lits l a=false:=by unfold iV;rw[UP (by omega),U1]
  simp[c1,c2,d];exact⟨m,g,(cN b.b3).symm⟩
 exact absurd ⟨by omega,by omega⟩ k
theorem LV(A:Ar)(T:Tr)(lits:List Int)(n:Nat)(hs:ShOk A T lits):∀(N:Nat)(l a:Int)(m:List (Int×Int))(h:List (List SV)),(0<=cz T l->cz T l<a->cz T l<N)->AskAt A T lits m n h->oN A T lits m->
 aA Tryz.prog 244 [ab l,ab a,.ptr (n+1) 0,.ptr (n+3) 0,.ptr n 0,.ptr (n+2) 0,.ptr (n+4) 0] h (λr h'=>∃m',oN A T lits m'∧h'=h.set (n+3) [.omap true (aZ fI m')]∧r=.pv (BL (iV A T lits l a))):=by
 intro N
 induction N with
 |zero=>
  intro l a m h hN B M;exact IM A T lits n hs l a m h (λc=>by have:=hN c.1 c.2;omega) B M
 |succ N ih=>
  intro l a m h hN B M;refine cQ [10] [.tmp 9] aD Tryz.func244 ?_;have O:=nt T (af l) hs.tr;have ag:(dw T (af l)).1.pla=cz T l:=rfl;obtain⟨n0,g0⟩:=SQ.1 B.b0;obtain⟨n1,Z⟩:=SQ.1 B.b1;obtain⟨n2,g2⟩:=SQ.1 B.b2;obtain⟨n3,g3⟩:=SQ.1 B.b3;obtain⟨n4,g4⟩:=SQ.1 B.b4;rw[ag]at O;simp only[bN,cR]at O;simp[n1,Z,bN,cR];refine bz.intro (aK l) ?_;simp[n1,Z,bN,cR];refine bz.intro O ?_
  by_cases c1:cz T l<0
  .have P:iV A T lits l a=false:=by unfold iV;rw[UP (by omega),U1]
   simp[c1,P];exact⟨m,M,(cN B.b3).symm⟩
  by_cases c2:a<=cz T l
  .have P:iV A T lits l a=false:=by unfold iV;rw[UP (by omega),U1]
   simp[c1,c2,P];exact⟨m,M,(cN B.b3).symm⟩
  have P:iV A T lits l a=lY A T lits l:=by unfold iV;rw[Uv (by omega),Vu]
  rw[P];have ad:=M l
  by_cases c3:(lk m l).getD 0=0
  rotate_left
  .simp[c1,c2,n3,g3,c3];refine⟨m,M,(cN B.b3).symm,?_⟩;rcases ad with e|⟨e,W⟩|⟨e,W⟩
   .exact absurd e c3
   .rw[e,W];rfl
   .rw[e,W];rfl
  have R:=F0 A T l hs.tr hs.ar hs.len (hs.hd _);have aq:=IJ A T l hs.ar;have aj:=tB A T lits l;simp only[kw,pL,bN,cR]at R;simp[c1,c2,n0,g0,n1,Z,n3,g3,c3,kw,pL,bN,cR];refine ai.intro R ?_;simp;generalize tA A T l=rest at*;generalize pM A T l=ok at*;refine ax.intro (S:=λ(y:Nat×List (Int×Int))=>⟨[(0,.pv (ab l)),(1,.pv (ab a)),(2,.pv (.ptr (n+1) 0)),(3,.pv (.ptr (n+3) 0)),(4,.pv (.ptr n 0)),(5,.pv (.ptr (n+2) 0)),(6,.pv (.ptr (n+4) 0)),(10,.pv (ab (cz T l))),(12,.pv (BL (ok&&(rest.take y.1).all (nX A T lits l)))),(41,.pv (.seq true 1 (ae rest))),(42,.pv (ab rest.length)),(43,.pv (ab y.1))],h.set (n+3) [.omap true (aZ fI y.2)]⟩) (λy=>y.1<=rest.length∧oN A T lits y.2) (λy=>rest.length -y.1) (0,m) ?_ ⟨Tf _,M⟩ ?_
  .exact ah.keep (by simp) (cN B.b3).symm
  rintro⟨i,u⟩ ⟨hi,z⟩;dsimp only at hi z;have w:AskAt A T lits u n (h.set (n+3) [.omap true (aZ fI u)]):=B.set;have E:∀X Y:List SV,(h.set (n+3) X).set (n+3) Y=h.set (n+3) Y:=λX Y=>Wy ..;have an:(h.set (n+3) [.omap true (aZ fI u)]).length=h.length:=Tt ..;generalize L:h.set (n+3) [.omap true (aZ fI u)]=H at*;obtain⟨k0,f0⟩:=SQ.1 w.b0;obtain⟨p,j⟩:=SQ.1 w.b1;obtain⟨s,k⟩:=SQ.1 w.b2;obtain⟨k3,f3⟩:=SQ.1 w.b3;obtain⟨t,o⟩:=SQ.1 w.b4
  by_cases g:i<rest.length
  .have F:aX ((i:Int)+1)=((i+1:Nat):Int):=by
    have:=hs.len;rw[ao (by omega) (by omega)];omega
   have b:(ok&&(rest.take (i+1)).all (nX A T lits l))=((ok&&(rest.take i).all (nX A T lits l))&&nX A T lits l rest[i]):=by
    rw[TW,SR g,UO,List.all_append];simp[XI]
   simp[g];refine aT.one nz (by kernel_rfl) ?_;generalize ak:(ok&&(rest.take i).all (nX A T lits l))=acc at*;cases acc
   .simp[nz,g,p,j,s,k,t,o];refine bf.intro (r:=.pv (BL false)) (λh:False=>h.elim) ?_;simp[g,p,j,s,k,t,o,bN,cR];and_intros
    all_goals
     refine bf.intro (r:=.pv (ab 0)) (λh:False=>h.elim) ?_;simp[g,p,j,s,k,t,o,bN,cR];refine bf.intro (r:=.pv (ab 0)) (λh:False=>h.elim) ?_;simp[g,p,j,s,k,t,o,bN,cR,pN];exact⟨(i+1,u),by(try dsimp only);omega,⟨by(try dsimp only);omega,z⟩,ah.keep (by simp[F,b]) (by simp[L])⟩
   .generalize d:rest[i]=x at*;have C:=jo lits x (by have:=hs.few;omega);have J:=nt T (af x) hs.tr;have U:(dw T (af x)).1.pla=cz T x:=rfl;rw[U]at J;simp only[bN,cR]at J;have v:=ih x (cz T l) u H (λh1 h2=>by have:=hN (by omega) (by omega);omega) w z;have G:nX A T lits l x=(lX T lits l x||iV A T lits x (cz T l)):=rfl;have I:lX T lits l x=(!decide (x=l)&&(decide (x∈lits)&&decide (cz T x<cz T l))):=rfl
    by_cases c5:x=l
    .have f:lX T lits l x=false:=by rw[I];simp[c5]
     rw[f,VN]at G;rw[c5]at v G d b;rw[G]at b;simp[nz,g,p,j,s,k,t,o,d,bN,cR,c5];refine bf.intro (r:=.pv (BL false)) (λh:False=>h.elim) ?_;simp[g,p,j,s,k,t,o,d,bN,cR];and_intros
     all_goals
      refine bf.intro (r:=.pv (ab 0)) (λh:False=>h.elim) ?_;simp[g,p,j,s,k,t,o,d,bN,cR];refine bf.intro (r:=.pv (ab 0)) (λh:False=>h.elim) ?_;simp[g,p,j,s,k,t,o,d,bN,cR,pN];refine am.intro v ?_ (by trivial);rintro _ _ ⟨V,D,rfl,rfl⟩;simp;exact⟨(i+1,V),by(try dsimp only);omega,⟨by(try dsimp only);omega,D⟩,ah.keep (by simp[F,b]) (by simp[←L,E])⟩
    .by_cases c6:x∈lits
     .by_cases c7:cz T x<cz T l
      .have f:lX T lits l x=true:=by rw[I];simp[c5,c6,c7]
       rw[f,WT]at G;rw[G]at b;simp[nz,g,p,j,s,k,t,o,d,bN,cR,c5];refine bf.intro (λ_=>C) ?_;simp[g,p,j,s,k,t,o,d,bN,cR,c6];and_intros
       all_goals
        refine bf.intro (λ_=>aK x) ?_;simp[g,p,j,s,k,t,o,d,bN,cR,c6];refine bf.intro (λ_=>J) ?_;simp[g,p,j,s,k,t,o,d,bN,cR,pN,c6,c7];exact⟨(i+1,u),by(try dsimp only);omega,⟨by(try dsimp only);omega,z⟩,ah.keep (by simp[F,b]) (by simp[L])⟩
      .have f:lX T lits l x=false:=by rw[I];simp[c7]
       rw[f,VN]at G;rw[G]at b;simp[nz,g,p,j,s,k,t,o,d,bN,cR,c5];refine bf.intro (λ_=>C) ?_;simp[g,p,j,s,k,t,o,d,bN,cR,c6];and_intros
       all_goals
        refine bf.intro (λ_=>aK x) ?_;simp[g,p,j,s,k,t,o,d,bN,cR,c6];refine bf.intro (λ_=>J) ?_;simp[g,p,j,s,k,t,o,d,bN,cR,pN,c6,c7];refine am.intro v ?_ (by trivial);rintro _ _ ⟨V,D,rfl,rfl⟩;simp;exact⟨(i+1,V),by(try dsimp only);omega,⟨by(try dsimp only);omega,D⟩,ah.keep (by simp[F,b]) (by simp[←L,E])⟩
     .have f:lX T lits l x=false:=by rw[I];simp[c6]
      rw[f,VN]at G;rw[G]at b;simp[nz,g,p,j,s,k,t,o,d,bN,cR,c5];refine bf.intro (λ_=>C) ?_;simp[g,p,j,s,k,t,o,d,bN,cR,c6];and_intros
      all_goals
       refine bf.intro (r:=.pv (ab 0)) (λh:False=>h.elim) ?_;simp[g,p,j,s,k,t,o,d,bN,cR];refine bf.intro (r:=.pv (ab 0)) (λh:False=>h.elim) ?_;simp[g,p,j,s,k,t,o,d,bN,cR,pN];refine am.intro v ?_ (by trivial);rintro _ _ ⟨V,D,rfl,rfl⟩;simp;exact⟨(i+1,V),by(try dsimp only);omega,⟨by(try dsimp only);omega,D⟩,ah.keep (by simp[F,b]) (by simp[←L,E])⟩
  .have aa:i=rest.length:=by omega
   subst aa;rw[Tw,←aj];have K:∀q:Int,lk (pt u l 2) q=if l=q then some 2 else lk u q:=λq=>bJ u l 2 q;have Q:∀q:Int,lk (pt (pt u l 2) l 1) q=if l=q then some 1 else lk (pt u l 2) q:=λq=>bJ (pt u l 2) l 1 q;cases hv:lY A T lits l
   .simp[k3,f3];refine⟨pt u l 2,λq=>?_,?_⟩
    .rw[K];split
     .rename_i e;subst e;exact .inr (.inr ⟨rfl,hv⟩)
     .exact z q
    .simp[←L,E]
   .simp[k3,f3];refine⟨pt (pt u l 2) l 1,λq=>?_,?_⟩
    .rw[Q];split
     .rename_i e;subst e;exact .inr (.inl ⟨rfl,hv⟩)
     .rename_i e;rw[K,SU e];exact z q
    .simp[←L,E]
end Go.AX
namespace Go.AX
open Go.Proofs
def gV(A:Ar)(T:Tr)(lits:List Int)(l:Int):Bool:=iV A T lits l T.lits.length
theorem IN(A:Ar)(T:Tr)(lits:List Int):oN A T lits []:=λq=>.inl rfl
end Go.AX
namespace Go.AX
set_option maxRecDepth 16000
open Go.Proofs
theorem F1(zs:List Int)(z:zs.length<=1000000)(g:Nat)(cap:List PV)(p:Int->Bool)(n:Nat)(Inv:List (List SV)->Prop)(hp:jF cap=true)(pre a:List Value)(cp:Nat)
 (hz:∀x∈zs,∀h,Inv h->aA Tryz.prog g (ab x::cap) h (λr h'=>Inv h'∧h'[n]?=h[n]?∧r=.pv (BL (p x)))) (h:List (List SV)) (u:Inv h) (hn:h[n]?=some (blk pre zs a)):
 aA Tryz.prog 230 [.bsl n 1 pre.length zs.length cp,.fn (.func g) [] cap] h (λr h'=>Inv h'∧h'[n]?=some (blk pre zs a)∧r=.pv (ab (iP p zs))):=by
 refine mF aD Tryz.func230 ?_;simp;refine ax.intro (S:=λ(y:Nat×List (List SV))=>⟨[(0,.pv (.bsl n 1 pre.length zs.length cp)),(1,.pv (.fn (.func g) [] cap)),(7,.pv (ab zs.length)),(8,.pv (ab y.1))],y.2⟩) (λy=>y.1<=zs.length∧(∀j (hj:j<zs.length),j<y.1->p zs[j]=false)∧Inv y.2∧y.2[n]?=some (blk pre zs a)) (λy=>zs.length -y.1) (0,h) ?_ ⟨Tf _,λj _ h=>absurd h (Vj _),u,hn⟩ ?_
 .exact ah.keep (by simp) rfl
 .rintro⟨i,h1⟩ ⟨hi,ho,d,b⟩;dsimp only at hi ho d b;obtain⟨w,s⟩:=SQ.1 b
  by_cases c:i<zs.length
  .have v:=dv i;have hx:=hz zs[i] (S5 c) h1 d;have l:=lr pre zs a (i:=i) c;have m:=eF pre zs a;simp[c,hp,w,s,l,m];refine⟨by omega,?_⟩;refine am.intro hx ?_ (by trivial);rintro _ t ⟨k,f,rfl⟩;rw[b]at f;cases o:p zs[i]
   .simp;refine⟨(i+1,t),by(try dsimp only);omega,⟨by(try dsimp only);omega,λj hj q=>?_,k,f⟩,ah.keep (by simp[v]) rfl⟩;dsimp only at q
    by_cases e:j=i
    .subst e;exact o
    .exact ho j hj (by omega)
   .simp;rw[eU c ho o];exact⟨k,f,rfl⟩
  .simp[c];rw[cM (λj hj=>ho j hj (by omega))];exact⟨d,b,rfl⟩
theorem Cj(zs:List Int)(hl:zs.length<=1000000)(g:Nat)(cap:List PV)(p:Int->Bool)(n:Nat)(Inv:List (List SV)->Prop)(hp:jF cap=true)(s:∀h L,Inv h->Inv (h.set n L))(pre d:List Value)(cp:Nat)(aa:zs.length<=cp)
 (hz:∀x∈zs,∀h,Inv h->aA Tryz.prog g (ab x::cap) h (λr h'=>Inv h'∧h'[n]?=h[n]?∧r=.pv (BL (p x)))) (h:List (List SV)) (hI:Inv h) (hn:h[n]?=some (blk pre zs d)):
 aA Tryz.prog 150 [.bsl n 1 pre.length zs.length cp,.fn (.func g) [] cap] h (λr h'=>Inv h'∧∃G,G=bk p zs++List.replicate (zs.length -(bk p zs).length) 0∧h'[n]?=some (blk pre G d)∧r=.pv (.bsl n 1 pre.length (bk p zs).length cp)):=by
 have P:=F1 zs hl g cap p n Inv hp pre d cp hz h hI hn;refine mF aD Tryz.func150 ?_;simp;refine am.intro P ?_ (by trivial);rintro _ h0 ⟨A,E,rfl⟩
 by_cases c:∃i,∃h:i<zs.length,p zs[i]=true∧∀j (hj:j<zs.length),j<i->p zs[j]=false
 rotate_left
 .have m:∀j (hj:j<zs.length),p zs[j]=false:=by
   intro j
   induction j using Nat.strongRecOn with
   |ind j ih=>
    intro hj;cases e:p zs[j]
    .rfl
    .exact absurd ⟨j,hj,e,λk hk R=>ih k R hk⟩ c
  have hd:=ns p zs λx hx=>by
   obtain⟨j,hj,rfl⟩:=Tc hx;exact m j hj
  rw[cM m,hd];simp;exact⟨A,E⟩
 obtain⟨t,u,w,m⟩:=c;rw[eU u m w];have U:=dv t;have C:bk p (zs.take t)=zs.take t:=ns p _ λx hx=>by
  obtain⟨j,hj,rfl⟩:=Tc hx;rw[S6]at hj;rw[Uh];exact m j (by omega) (by omega)
 simp;refine ax.intro (S:=λ(y:Nat×List Int×List (List SV))=>⟨[(0,.pv (.bsl n 1 pre.length zs.length cp)),(1,.pv (.fn (.func g) [] cap)),(5,.pv (ab ((bk p (zs.take y.1)).length:Nat))),(6,.pv (ab y.1))],y.2.2⟩)
  (λy=>y.1<=zs.length∧(bk p (zs.take y.1)).length<y.1∧y.2.1.length=zs.length∧y.2.1.take (bk p (zs.take y.1)).length=bk p (zs.take y.1)∧y.2.1.drop y.1=zs.drop y.1∧Inv y.2.2∧y.2.2[n]?=some (blk pre y.2.1 d)) (λy=>zs.length -y.1) (t+1,zs,h0) ?_ ?_ ?_
 .refine ah.keep ?_ rfl;have:(bk p (zs.take (t+1))).length=t:=by rw[iF p zs u,SX w,C,S6];omega
  simp[U,this]
 .have:bk p (zs.take (t+1))=zs.take t:=by rw[iF p zs u,SX w,C]
  refine⟨by dsimp only;omega,?_,rfl,?_,rfl,A,E⟩
  .dsimp only;rw[this,S6];omega
  .dsimp only;rw[this,S6];congr 1;omega
 .rintro⟨j,a,H⟩ ⟨h1,X,J,z,K,N,O⟩;dsimp only at h1 X J z K N O;have q:=eF pre a d;obtain⟨n1,W⟩:=SQ.1 O
  by_cases I:j<zs.length
  .have Y:=dv j;have Q:a[j]'(by omega)=zs[j]:=by
    have:=Vm (λl=>l[0]?) K;simp only[Ub,VE]at this;rw[SR (by omega),SR I]at this;exact VH this
   have o:=lr pre a d (i:=j) (by omega);rw[Q]at o;have hx:=hz zs[j] (S5 I) H N;have b:=iF p zs I;simp[I,hp,n1,W,o,q];refine⟨by omega,am.intro hx ?_ (by trivial)⟩;rintro _ M ⟨B,v,rfl⟩;rw[O]at v;obtain⟨Z,f1⟩:=SQ.1 v;cases F:p zs[j]
   .rw[F]at b;simp only[TM,Ul]at b;have V:=dv ((bk p (zs.take j)).length);have T:=xt pre a d (i:=(bk p (zs.take j)).length) zs[j] (by omega);simp[Z,f1,q];refine⟨by omega,by omega,(j+1,a.set (bk p (zs.take j)).length zs[j],M.set n (blk pre (a.set (bk p (zs.take j)).length zs[j]) d)),by(try dsimp only);omega,⟨by(try dsimp only);omega,?_,by(try dsimp only);rw[Tt];exact J,?_,?_,s M _ B,?_⟩,ah.keep ?_ (by simp[T])⟩
    .dsimp only;rw[b,Ta,Ue];omega
    .dsimp only;rw[b,Ta,Ue,TW,Ws (SY _),z,TH (by omega)];rfl
    .dsimp only;rw[V2 (by omega)];have:=Vm (List.drop 1) K
     rwa [Ui,Ui]at this
    .dsimp only;rw[TH Z]
    .simp[Y,V,b]
   .rw[F]at b;simp only[UU]at b;simp;refine⟨(j+1,a,M),by(try dsimp only);omega,⟨by(try dsimp only);omega,by dsimp only;rw[b];omega,J,by dsimp only;rw[b];exact z,?_,B,v⟩,ah.keep (by simp[Y,b]) rfl⟩;dsimp only;have:=Vm (List.drop 1) K
    rwa [Ui,Ui]at this
  .have:j=zs.length:=by omega
   subst this;rw[Tw]at X z;have f:=tc pre a d (i:=(bk p zs).length) (n:=zs.length -(bk p zs).length) 0 (by omega);have D:a.take (bk p zs).length++List.replicate (zs.length -(bk p zs).length) 0++a.drop ((bk p zs).length+(zs.length -(bk p zs).length))=bk p zs++List.replicate (zs.length -(bk p zs).length) 0:=by
    rw[z,Tq (by omega),Ut]
   rw[D]at f;simp[n1,W,J,f];refine⟨⟨by omega,by omega⟩,by omega,by omega,⟨by omega,by omega⟩,s H _ N⟩
end Go.AX
namespace Go.AX
set_option maxRecDepth 16000
open Go.Proofs
@[simp] theorem F2:∀l:List (Int×Int),Hu (aZ fI l)
 |[]=>trivial
 |(_,_)::l=>⟨trivial,F2 l⟩
def Eg(A:Ar)(T:Tr)(lits:List Int)(m:List (Int×Int)):List (List SV):=IK A T lits m 0++[[.pv (pN 0)],[.pv (ab T.lits.length)]]
def QR(A:Ar)(T:Tr)(lits:List Int)(h:List (List SV)):Prop:=∃m L,oN A T lits m∧h=Eg A T lits m++[L]
theorem LW(A:Ar)(T:Tr)(lits:List Int)(h:List (List SV))(L:List SV)(hi:QR A T lits h):QR A T lits (h.set 7 L):=by
 obtain⟨m,L0,h1,rfl⟩:=hi;exact⟨m,L,h1,rfl⟩
theorem IP(A:Ar)(T:Tr)(lits:List Int)(m:List (Int×Int))(L:List SV):AskAt A T lits m 0 (Eg A T lits m++[L]):=⟨rfl,rfl,rfl,rfl,rfl⟩
theorem F3(A:Ar)(T:Tr)(lits:List Int)(hs:ShOk A T lits)(x:Int)(h:List (List SV))(i:QR A T lits h):
 aA Tryz.prog 165 [ab x,.ptr 5 0,.ptr 6 0] h (λr h'=>QR A T lits h'∧h'[7]?=h[7]?∧r=.pv (BL (gV A T lits x))):=by
 obtain⟨m,L,j,rfl⟩:=i;refine mF aD Tryz.func165 ?_;have hd:=LV A T lits 0 hs T.lits.length x T.lits.length m (Eg A T lits m++[L]) (λ_ h=>h) (IP A T lits m L) j;have e:(Eg A T lits m++[L])[5]?=some [.pv (pN 0)]:=rfl;have f:(Eg A T lits m++[L])[6]?=some [.pv (ab T.lits.length)]:=rfl;have d:(Eg A T lits m++[L]).length=8:=rfl;have b:∀a,(Eg A T lits m++[L]).set 3 [.omap true (aZ fI a)]=Eg A T lits a++[L]:=λ_=>rfl;have g:∀a,(Eg A T lits a++[L])[7]?=some L:=λ_=>rfl;have n:=g m;generalize o:Eg A T lits m++[L]=H at*;obtain⟨k,f5⟩:=SQ.1 e;obtain⟨l,f6⟩:=SQ.1 f;simp[k,f5,l,f6,pN];refine am.intro hd ?_ (by trivial);rintro _ _ ⟨a,c,rfl,rfl⟩;simp[gV];rw[b a];exact⟨a,L,c,rfl⟩
def qA(A:Ar)(T:Tr)(lits:List Int):List Int:=lits.take 1++bk (gV A T lits) (lits.drop 1)
def IQ:Sch:=.take 0 (.take 1 (.take 2 (.take 3 (.fork [(4,.fork [(5,.fork [(6,.take 7 .done)])])]))))
theorem Cl(A:Ar)(T:Tr)(lits:List Int)(hs:ShOk A T lits)(I:T.lits.length<=1000000):aj Tryz.prog 93 [kw A,bN T,.seq false 1 (ae lits)] (λr=>r=.own true 1 (ae (qA A T lits))):=by
 refine r8 [6] aD Tryz.func93 ?_;have b:=λh=>IL h A T lits;have i:=fZ T I;have hcl:=iQ lits hs.few;simp only[kw,pL,bN,cR]at b i;simp[kw,pL,bN,cR];refine ai.intro hcl ?_
 by_cases c:lits=[]
 .subst c;simp[qA,bk]
 have v:0<lits.length:=UG.2 c;simp[c];refine ai.introM (b _) ?_;rintro _ _ ⟨rfl,rfl⟩;simp[pN,IK];refine⟨rfl,ai.intro i ?_⟩;simp;refine aT.one IQ (by kernel_rfl) ?_;simp[IQ];refine⟨by omega,?_⟩;have H:∀l:List Int,List.drop lits.length (ae lits)=[]:=λ_=>Tq (by simp)
 by_cases c1:lits.length=1
 .obtain⟨t,rfl⟩:=Vs.1 c1;have n:qA A T [t]=[t]:=rfl;rw[n];generalize j:eC (bA [[SV.pv (kw A)],[SV.pv (bN T)],[SV.pv (PV.seq false 1 (ae [t]))],[SV.omap true []],[SV.pv (PV.fn (Fn.func 244) [] [PV.ptr 1 0,PV.ptr 3 0,PV.ptr 0 0,PV.ptr 2 0,PV.ptr 4 0])],[SV.pv (PV.fn (Fn.func 244) [] [PV.ptr 1 0,PV.ptr 3 0,PV.ptr 0 0,PV.ptr 2 0,PV.ptr 4 0])],[SV.pv (PV.lit (Value.int .i64 T.lits.length))]] 3) [PV.ptr 5 0,PV.ptr 6 0]=cap;have C:=iR [] (by simp) 165 cap (λ_=>false) (λr=>by rw[←j];simp[bA,kw,pL,bN,cR]) (by rw[←j];rfl) (λk=>by rw[←j];simp[bA,kw,pL,bN,cR]) (by rw[←j];simp[bA,kw,pL,bN,cR,PV.old,qo,wX]) (λx hx=>by cases hx);refine ai.introX (bE.introS (o:=.slot 7) (lo:=1) (hi:=1) C (by simp) rfl rfl (by simp) (by simp) rfl (by simp[aC]) trivial (by simp) (by rw[←j];simp) ?_);rintro k q ⟨rfl,rfl⟩ _ _;have p:bk (λ_=>false) []=[]:=rfl;simp[p,aC,ae]
 .have y:1<lits.length:=by omega
  have E := λ (pre a : List Value) (cp : Nat) (d : (lits.drop 1).length <= cp) => Cj (lits.drop 1) (by have := hs.few; rw [TN]; omega) 165 [.ptr 5 0, .ptr 6 0] (gV A T lits) 7 (QR A T lits) rfl (LW A T lits) pre a cp d (λ x _ h F => F3 A T lits hs x h F) (Eg A T lits [] ++ [blk pre (lits.drop 1) a]) ⟨[], _, IN A T lits, rfl⟩ rfl; refine ai.introX (bE.introB (s := 7) (lo := 1) (hi := lits.length) (nw := true) (all := lits) (zs := lits.drop 1) (R := λ k f u => k = some (bk (gV A T lits) (lits.drop 1)).length ∧ f = bk (gV A T lits) (lits.drop 1) ++ List.replicate ((lits.drop 1).length - (bk (gV A T lits) (lits.drop 1)).length) 0 ∧ ∃ m, u = Eg A T lits m)
   rfl (by simp) rfl rfl rfl (by simp) y (by rw[Tw]) (by simp) (by simp) rfl (λpre a cp d J=>(E pre a cp d).mono ?_) ?_)
  .rintro r h' ⟨⟨m,L,M,rfl⟩,f,rfl,B,rfl⟩;have G:L=blk pre (bk (gV A T lits) (lits.drop 1)++List.replicate ((lits.drop 1).length -(bk (gV A T lits) (lits.drop 1)).length) 0) a:=VH B;subst G;have e:=jU (gV A T lits) (lits.drop 1);refine⟨_,_,Eg A T lits m,⟨rfl,rfl,m,rfl⟩,by rw[Ta,Vx];omega,λk hk=>by cases hk;exact e,rfl,by simp[Eg,IK,pN,pL,cR],rfl,rfl⟩
  .rintro k f u ⟨rfl,rfl,m,rfl⟩ _ _;have n:qA A T lits=lits.take 1++bk (gV A T lits) (lits.drop 1):=rfl;have e:=jU (gV A T lits) (lits.drop 1);have K:=hs.few;generalize bk (gV A T lits) (lits.drop 1)=D at*;simp only[TN]at e;have g:(aC (lits.take 1++(D++List.replicate (lits.length -1 -D.length) 0))).length=lits.length:=by
    simp only[aC,S7,Ta,S6,Vx];omega
   simp[g];refine⟨by omega,?_⟩;rw[n];have h1:(lits.take 1).length=1:=by rw[S6];omega
   generalize lits.take 1=Z at*;obtain⟨z,rfl⟩:=Vs.1 h1;have w:List.take (1+D.length) (aC ([z]++(D++List.replicate (lits.length -1 -D.length) 0)))=ae ([z]++D):=by
    unfold aC ae;rw[←UB,←Tv,UY (by simp;omega)]
   rw[w];rfl
end Go.AX
namespace Go.AX
open Go.Proofs
def j8(l c:List Int)(v:Int):Nat:=(c.filter λy=>decide (bK l y=v)).length
def gk(l c:List Int):List Int:=c.filter λy=>decide (0<=aV y∧bK l y≠1∧bK l y≠-1)
theorem oO(l:List Int):∀(c:List Int)(a b z:Nat),a+c.length<=1000000->b+c.length<=1000000->z+c.length<=1000000->
 c.foldl (vO l) ((a:Int),(b:Int),(z:Int))=(((a+j8 l c 1:Nat):Int),((b+j8 l c (-1):Nat):Int),((z+(gk l c).length:Nat):Int))
 |[],a,b,z,_,_,_=>by simp[j8,gk]
 |y::c,a,b,z,d,f,hz=>by
  simp only[Ty]at d f hz;rw[Vw]
  by_cases c1:bK l y=1
  .have e:vO l ((a:Int),(b:Int),(z:Int)) y=(((a+1:Nat):Int),(b:Int),(z:Int)):=by
    unfold vO;rw[SX c1,ao (by dsimp only;omega) (by dsimp only;omega)];simp
   rw[e,oO l c (a+1) b z (by omega) (by omega) (by omega)];simp[j8,gk,c1];omega
  .by_cases c2:bK l y=-1
   .have e:vO l ((a:Int),(b:Int),(z:Int)) y=((a:Int),((b+1:Nat):Int),(z:Int)):=by
     unfold vO;rw[SU c1,SX c2,ao (by dsimp only;omega) (by dsimp only;omega)];simp
    rw[e,oO l c a (b+1) z (by omega) (by omega) (by omega)];simp[j8,gk,c1,c2];omega
   .by_cases c3:0<=aV y
    .have e:vO l ((a:Int),(b:Int),(z:Int)) y=((a:Int),(b:Int),((z+1:Nat):Int)):=by
      unfold vO;rw[SU c1,SU c2,SX c3,ao (by dsimp only;omega) (by dsimp only;omega)];simp
     rw[e,oO l c a b (z+1) (by omega) (by omega) (by omega)];simp[j8,gk,c1,c2,c3];omega
    .have e:vO l ((a:Int),(b:Int),(z:Int)) y=((a:Int),(b:Int),(z:Int)):=by
      unfold vO;rw[SU c1,SU c2,SU c3]
     rw[e,oO l c a b z (by omega) (by omega) (by omega)];simp[j8,gk,c1,c2,c3]
theorem lG(l:List Int)(y:Int):bK l y=0∨bK l y=1∨bK l y=-1:=by
 unfold bK;split
 .exact .inl rfl
 .split
  .exact .inr (.inl rfl)
  .split
   .exact .inr (.inr rfl)
   .exact .inl rfl
theorem xK(l:List Int):∀(c:List Int)(n:Int),c.foldl (Cc l) n=((gk l c).getLast?).getD n
 |[],n=>rfl
 |y::c,n=>by
  rw[Vw,xK l c];have f:=lG l y
  by_cases c1:0<=aV y∧bK l y=0
  .have e:Cc l n y=y:=by unfold Cc;rw[SX c1]
   have a:gk l (y::c)=y::gk l c:=by
    unfold gk;rw[TO,SX (by rw[Th];exact⟨c1.1,by omega,by omega⟩)]
   rw[e,a,List.getLast?_cons];rfl
  .have e:Cc l n y=n:=by unfold Cc;rw[SU c1]
   have a:gk l (y::c)=gk l c:=by
    unfold gk;rw[TO,SU (by rw[Th];rintro⟨b,d,a3⟩;exact c1 ⟨b,by omega⟩)]
   rw[e,a]
theorem LY{l c:List Int}(p:c.length<=1000)(hx:∀y∈c,0<=aV y)(h:(cY l c).2=true):(cY l c).1∈c∧bK l (cY l c).1=0∧∀y∈c,y≠(cY l c).1->bK l y=-1:=by
 have o:=oO l c 0 0 0 (by omega) (by omega) (by omega);have f:G6 l c=(((0+j8 l c 1:Nat):Int),((0+j8 l c (-1):Nat):Int),((0+(gk l c).length:Nat):Int)):=o;have h0:j8 l c 1=0∧(gk l c).length=1∧(cY l c).1=c.foldl (Cc l) 0:=by
  unfold cY at h⊢;rw[f]at h⊢;dsimp only at h⊢
  by_cases e:((0+j8 l c 1:Nat):Int)≠0∨((0+(gk l c).length:Nat):Int)≠1
  .rw[SX e]at h;cases h
  .rw[SU e];refine⟨by omega,by omega,rfl⟩
 obtain⟨h1,k,m⟩:=h0;obtain⟨x,b⟩:=Vs.1 k;have n:(cY l c).1=x:=by rw[m,xK,b];rfl
 have j:x∈gk l c:=by rw[b];simp
 have a:=j;unfold gk at a;rw[TJ,Th]at a;rw[n];have v3:=lG l x;refine⟨a.1,by omega,λy hy i=>?_⟩;have d:=lG l y;have g:bK l y≠1:=λe=>by
  have:y∈c.filter λy=>decide (bK l y=1):=by rw[TJ];exact⟨hy,by simpa using e⟩
  unfold j8 at h1;rw[UZ h1]at this;cases this
 rcases d with d|d|d
 .have:y∈gk l c:=by
   unfold gk;rw[TJ,Th];exact⟨hy,hx y hy,by omega,by omega⟩
  rw[b]at this;simp at this;exact absurd this i
 .exact absurd d g
 .exact d
structure Cls6 (cs:List (List Int)) (ats:List Int):Prop where
  len:∀c∈cs,c.length<=1000
  chk:∀c∈cs,∀y∈c,aw y 6=0
  pos:∀k,k<cs.length->0<=ats.getD k 0
theorem So{y:Int}(h:aw y 6=0):y≠0∧-6<=y∧y<=6∧0<=aV y∧aX (-y)=-y:=by
 obtain⟨a,b,c⟩:=(df (by omega)).1 h;refine⟨a,b,c,?_,ao (by omega) (by omega)⟩;rw[lA];exact(aY y).2 ⟨a,by omega,by omega⟩
theorem xL{l:List Int}{y:Int}(h:bK l y=-1):aX (-y)∈l:=by
 unfold bK at h;split at h
 .omega
 .split at h
  .omega
  .split at h
   .assumption
   .omega
def DkR(D:DK):Prop:=∀i (hi:i<D.t.rows.length),D.t.rows[i].rea<0∨(isA D.A D.t.rows[i].rea=true∧D.t.rows[i].l∈av D.A D.t.rows[i].rea∧∀y∈av D.A D.t.rows[i].rea,aw y 6=0∧(y≠D.t.rows[i].l->aX (-y)∈(D.t.rows.take i).map (·.l)))
structure DeskOk (D:DK):Prop where
  rel:RelD D.T D.t
  relA:RelA D.A D.a
  rea:DkR D
  len:D.A.row.length<=1000000
theorem Cm{A:Ar}{q:Int}(h:isA A q=true):A.hd≠[]:=λe=>by
 unfold isA at h;rw[e]at h;simp[lk]at h
theorem xM{α:Type}{p:α->Bool}:∀{l:List α}{j:Nat}(hj:j<l.length),p l[j]=true->0<=iP p l∧iP p l<=j:=by
 intro l j hj h;unfold iP;cases a:l.findIdx? p with
 |none=>
  rw[VT]at a;have:=a _ (S5 hj);rw[h]at this;cases this
 |some i=>
  rw[U5]at a;obtain⟨h1,d,c⟩:=a;dsimp only;refine⟨by omega,?_⟩;apply Int.ofNat_le.2;apply UF;intro b;exact c j b h
theorem IR(A:Ar)(T:Tr)(c:List Int):List.Sublist (qA A T c) c:=by
 have h:List.Sublist (c.take 1++bk (gV A T c) (c.drop 1)) (c.take 1++c.drop 1):=List.Sublist.append (Xn _) VI;rw[T7]at h;exact h
@[simp ↓ high] theorem QS{P:Program}{st:St}{a:Prop}{o:Op}{d:Option Tmp}{K:St->Prop}(h:a):DH P st a o d K=AE P st o d K:=
 propext ⟨λx=>x.1 h,λx=>⟨λ_=>x,λhn=>absurd h hn⟩⟩
instance:Inhabited Ro:=⟨⟨0,0,[]⟩⟩
theorem dD(l:Int):af (-l)=af l:=by
 unfold af;rw[Lx];unfold c9;split
 .split<;>split<;>omega
 .rfl
theorem Cn(l:List Int):∀(c:List Int)(n:Int),-1<=n->n<=c.foldl (D9 l) n∧(c.foldl (D9 l) n=-1↔n=-1∧∀y∈c,0<=aV y->bK l y=-1)
 |[],n,h=>by simp
 |y::c,n,h=>by
  have f:=lG l y;rw[Vw]
  by_cases q:0<=aV y∧n<bK l y
  .have e:D9 l n y=bK l y:=by unfold D9;rw[SX q]
   rw[e];obtain⟨d,g2⟩:=Cn l c (bK l y) (by omega);refine⟨by omega,?_⟩;constructor
   .intro g;omega
   .rintro⟨b,a⟩;have:=a y (To ..) q.1;omega
  .have e:D9 l n y=n:=by unfold D9;rw[SU q]
   rw[e];obtain⟨d,g2⟩:=Cn l c n h;refine⟨d,?_⟩;rw[g2];constructor
   .rintro⟨b,a⟩;refine⟨b,λz hz hx=>?_⟩;rcases Tx.1 hz with rfl|hz
    .omega
    .exact a z hz hx
   .rintro⟨b,a⟩;exact⟨b,λz hz=>a z (Tl _ hz)⟩
theorem mQ{l c:List Int}:zy l c=-1↔∀y∈c,0<=aV y->bK l y=-1:=by
 have:=(Cn l c (-1) (by omega)).2;unfold zy;rw[this];exact⟨λh=>h.2,λh=>⟨rfl,h⟩⟩
theorem zJ{l:List Int}{x:Int}(d:bK l x=0)(a:0<=aV x):∀{c:List Int},c.Nodup->x∈c->(∀y∈c,y≠x->bK l y=-1)->gk l c=[x]
 |[],_,h,_=>by cases h
 |y::c,hn,b,ho=>by
  rw[UA]at hn;unfold gk
  by_cases e:y=x
  .subst e;rw[TO,SX (by rw[Th];exact⟨a,by omega,by omega⟩)];congr 1;rw[US];intro z hz;have:=ho z (Tl _ hz) (λe=>hn.1 (e▸hz));simp[this]
  .have hy:=ho y (To ..) e;rw[TO,SU (by simp[hy])];rcases Tx.1 b with rfl|b
   .exact absurd rfl e
   .exact zJ d a hn.2 b (λz hz=>ho z (Tl _ hz))
theorem unit_of{l c:List Int}{x:Int}(i:c.length<=1000)(hn:c.Nodup)(h:x∈c)(b:0<=aV x)(d:bK l x=0)(ho:∀y∈c,y≠x->bK l y=-1):cY l c=(x,true):=by
 have g:=oO l c 0 0 0 (by omega) (by omega) (by omega);have a:G6 l c=(((0+j8 l c 1:Nat):Int),((0+j8 l c (-1):Nat):Int),((0+(gk l c).length:Nat):Int)):=g;have h1:=zJ d b hn h ho;have f:j8 l c 1=0:=by
  unfold j8;rw[UM,US];intro y hy
  by_cases e:y=x
  .subst e;simp[d]
  .simp[ho y hy e]
 unfold cY;rw[a,h1,f,xK,h1];simp
structure ClsN (cs:List (List Int)) (ats:List Int):Prop extends Cls6 cs ats where
  nd:∀c∈cs,c.Nodup
def Calm(cs:List (List Int))(ls:List Int):Prop:=∀c∈cs,(cY ls c).2=false∧zy ls c≠-1
def dL(t:RT):List Int:=t.rows.map (·.l)
def bel(t:RT)(k:Int):List Int:=(t.rows.filter λx=>decide (x.lev<k)).map (·.l)
inductive Tra (cs:List (List Int)) (ats:List Int):RT->Prop
  |nil:Tra cs ats ⟨6,[],0⟩
  |dec {t:RT} {l:Int}:Tra cs ats t->mayR t l=0->Calm cs (dL t)->Tra cs ats ⟨t.vars,t.rows++[⟨l,t.dep+1,-1⟩],t.dep+1⟩
  |imp {t:RT} {k:Nat} {x:Int} (hk:k<cs.length):Tra cs ats t->mayR t x=0->cY (dL t) cs[k]=(x,true)->Tra cs ats ⟨t.vars,t.rows++[⟨x,t.dep,ats.getD k 0⟩],t.dep⟩
theorem LZ{t:RT}(h:∀x∈t.rows,x.lev<=t.dep):bel t (t.dep+1)=dL t:=by
 unfold bel dL;rw[Uz.2];intro x hx;have:=h x hx;simp;omega
theorem gJ{t:RT}{k:Int}:∀y∈bel t k,y∈dL t:=by
 intro y hy;unfold bel at hy;obtain⟨x,hx,rfl⟩:=S8.1 hy;exact S8.2 ⟨x,(TJ.1 hx).1,rfl⟩
theorem IS{t:RT}{l:Int}(h:mayR t l=0):aw l t.vars=0∧qx t (af l)<0:=by
 unfold mayR at h;split at h
 .cases h
 .rename_i c1;split at h
  .cases h
  .exact⟨by simpa using c1,by omega⟩
theorem xN{t:RT}{v:Int}(h:qx t v<0):∀x∈t.rows,af x.l≠v:=by
 intro x hx e;obtain⟨j,hj,rfl⟩:=Tc hx;have:=xM (p:=λx:En=>decide (af x.l=v)) hj (by simp[e]);unfold qx at h;omega
structure TraF (cs:List (List Int)) (ats:List Int) (t:RT):Prop where
  vars:t.vars=6
  dep:0<=t.dep
  chk:∀x∈t.rows,aw x.l 6=0
  nd:(t.rows.map λx=>af x.l).Nodup
  lev:∀x∈t.rows,0<=x.lev∧x.lev<=t.dep
  mono:∀i j (hi:i<t.rows.length)(hj:j<t.rows.length),i<j->t.rows[i].lev<=t.rows[j].lev
  dec:∀i (hi:i<t.rows.length),t.rows[i].rea<0->0<t.rows[i].lev∧∀j (hj:j<t.rows.length),j<i->t.rows[j].lev<t.rows[i].lev
  top:0<t.dep->Calm cs (bel t t.dep)
  fst:∀k:Int,0<k->k<=t.dep->∃x∈t.rows,x.lev=k∧x.rea<0
  imp:∀i (hi:i<t.rows.length),0<=t.rows[i].rea->∃k,∃hk:k<cs.length,t.rows[i].rea=ats.getD k 0∧t.rows[i].l∈cs[k]∧(∀y∈cs[k],y≠t.rows[i].l->∃j,∃hj:j<t.rows.length,j<i∧t.rows[j].l=-y)∧
    (0<t.rows[i].lev->∃y∈cs[k],y≠t.rows[i].l∧∃j,∃hj:j<t.rows.length,j<i∧t.rows[j].l=-y∧t.rows[j].lev=t.rows[i].lev)
theorem iW{α:Type}{l:List α}{x:α}{i:Nat}(h:i<(l++[x]).length):(∃hi:i<l.length,(l++[x])[i]=l[i])∨(i=l.length∧(l++[x])[i]=x):=by
 by_cases c:i<l.length
 .exact .inl ⟨c,T5 c⟩
 .have:i=l.length:=by simp at h;omega
  subst this;exact .inr ⟨rfl,by simp⟩
theorem TraF.inj{cs:List (List Int)}{ats:List Int}{t:RT}(h:TraF cs ats t){i j:Nat}(hi:i<t.rows.length)(hj:j<t.rows.length)(e:af t.rows[i].l=af t.rows[j].l):i=j:=by
 have hn:=TB.1 (Ux.1 h.nd);rcases UD i j with c|c|c
 .exact absurd e (hn i j hi hj c)
 .exact c
 .exact absurd e.symm (hn j i hj hi c)
theorem TraF.one{cs:List (List Int)}{ats:List Int}{t:RT}(h:TraF cs ats t){y:Int}(hy:aw y 6=0):¬(y∈dL t∧-y∈dL t):=by
 rintro⟨h1,d⟩;unfold dL at h1 d;obtain⟨a,g,e⟩:=S8.1 h1;obtain⟨b,k,f⟩:=S8.1 d;obtain⟨i,hi,rfl⟩:=Tc g;obtain⟨j,hj,rfl⟩:=Tc k;have m:af t.rows[i].l=af t.rows[j].l:=by rw[e,f,dD]
 have c:i=j:=h.inj hi hj m;subst c;obtain⟨n0,_⟩:=So hy;omega
structure Way (cs:List (List Int)) (ats:List Int) (D:DK):Prop where
  rel:RelD D.T D.t
  tra:Tra cs ats D.t
  con:(D.con<0∧Calm cs (dL D.t))∨∃k,∃hk:k<cs.length,D.con=ats.getD k 0∧zy (dL D.t) cs[k]=-1
theorem F4{l:List Int}(h:iq l l.length=0):l.Nodup:=by
 refine TB.2 λi j hi hj b e=>?_;have a:=oH l (i:=j+1) l.length (by omega);rw[iq]at a;have:l.getD j 0∈l.take j:=by
  rw[SS,SR hj,TC,←e];rw[Uj];exact⟨i,by omega,rfl⟩
 rw[SX this]at a;omega
structure DeskT (cs:List (List Int)) (ats:List Int) (D:DK):Prop where
  ok:DeskOk D
  cls:ClsN cs ats
  way:Way cs ats D
  ars:∀k (hk:k<cs.length),isA D.A (ats.getD k 0)=true∧av D.A (ats.getD k 0)=cs[k]
structure PS where
  seen:List (Int×Int)
  lits:List Int
  many:Nat
def aB(s:List (Int×Int))(v:Int):Bool:=decide (0<(lk s v).getD 0)
def dQ(T:Tr)(l:Int):Int:=(dw T (af l)).1.lev
def takeF(T:Tr)(but:Int)(p:PS)(l:Int):PS:=
 if af l=but∨aB p.seen (af l)=true∨dQ T l<=0 then p
 else if dQ T l=T.beg.length then⟨pt p.seen (af l) 1,p.lits,p.many+1⟩else⟨pt p.seen (af l) 1,p.lits++[l],p.many⟩
def dt(T:Tr)(but:Int)(c:List Int)(p:PS):PS:=c.foldl (takeF T but) p
def nY(T:Tr)(p:PS)(l:Int):Bool:=aB p.seen (af l)&&(decide (dQ T l=T.beg.length)&&decide (0<=(dw T (af l)).1.rea))
def oP(A:Ar)(T:Tr)(p:PS)(l:Int):PS:=dt T (af l) (av A (dw T (af l)).1.rea) ⟨pt p.seen (af l) 0,p.lits,p.many -1⟩
def cE(A:Ar)(T:Tr)(all:List Int):Nat->PS->PS
 |0,p=>p
 |n+1,p=>if p.many<=1 then p else if nY T p (all.getD n 0)=true then cE A T all n (oP A T p (all.getD n 0))else cE A T all n p
def rF(T:Tr)(all:List Int)(p:PS):List Int:=p.lits++(all.filter λl=>aB p.seen (af l)&&decide (dQ T l=T.beg.length)).map λl=>aX (-l)
/-! ### Places of what is assigned -/
theorem TraF.pla{cs:List (List Int)}{ats:List Int}{t:RT}(h:TraF cs ats t){j:Nat}(hj:j<t.rows.length):qx t (af t.rows[j].l)=j:=by
 have h1:=xM (p:=λx:En=>decide (af x.l=af t.rows[j].l)) hj (by simp);obtain⟨i,hi,a,b⟩:=lw (t:=t) (v:=af t.rows[j].l) h1.1;have:=h.inj hi hj b;subst this;exact a
theorem qB{t:RT}{j:Nat}(hj:j<t.rows.length){y:Int}(hy:t.rows[j].l=-y):af y=af t.rows[j].l:=by rw[hy,dD]
theorem iX{t:RT}{j:Nat}(hj:j<t.rows.length){y:Int}(hy:t.rows[j].l=-y):y=-t.rows[j].l:=by omega
/-! ### Counting -/
theorem oQ{α:Type}{P Q:α->Bool}:∀{l:List α}{j:Nat}(hj:j<l.length),P l[j]=false->Q l[j]=true->(∀i (hi:i<l.length),i≠j->Q l[i]=P l[i])->l.countP Q=l.countP P+1
 |[],j,hj,_,_,_=>by simp at hj
 |x::l,0,hj,a,b,ho=>by
  simp only[V8]at a b;have:l.countP Q=l.countP P:=by
   apply List.countP_congr;intro y hy;obtain⟨i,hi,rfl⟩:=Tc hy;have:=ho (i+1) (by simpa using hi) (by omega);simp only[V9]at this;rw[this]
  rw[VM,VM,this,a,b];simp
 |x::l,j+1,hj,a,b,ho=>by
  simp only [V9] at a b; have h0 := ho 0 (by simp) (by omega); simp only [V8] at h0; have := oQ (l := l) (j := j) (by simpa using hj) a b (λ i hi c => by
   have:=ho (i+1) (by simpa using hi) (by omega);simpa using this)
  rw[VM,VM,this,h0];omega
theorem tC{α:Type}{P:α->Bool}:∀{l:List α},2<=l.countP P->∃i j,∃hi:i<l.length,∃hj:j<l.length,i<j∧P l[i]=true∧P l[j]=true
 |[],h=>by simp at h
 |x::l,h=>by
  rw[VM]at h
  by_cases c:P x=true
  .rw[SX c]at h;have:0<l.countP P:=by omega
   rw[Xb]at this;obtain⟨y,hy,hp⟩:=this;obtain⟨j,hj,rfl⟩:=Tc hy;exact⟨0,j+1,by simp,by simpa using hj,by omega,by simpa using c,by simpa using hp⟩
  .rw[SU c]at h;obtain⟨i,j,hi,hj,a,b,d⟩:=tC (l:=l) (by omega);exact⟨i+1,j+1,by simpa using hi,by simpa using hj,by omega,by simpa using b,by simpa using d⟩
/-! ### What is known while a conflict is taken apart -/
structure LI (t:RT) (p:PS) (n:Nat):Prop where
  sn:∀v,aB p.seen v=true->∃j,∃hj:j<t.rows.length,af t.rows[j].l=v∧0<t.rows[j].lev∧(t.rows[j].lev=t.dep->j<n∨t.rows[j].rea<0)
  li:∀l∈p.lits,∃j,∃hj:j<t.rows.length,t.rows[j].l=-l∧0<t.rows[j].lev∧t.rows[j].lev<t.dep
  ls:∀j (hj:j<t.rows.length),aB p.seen (af t.rows[j].l)=true->t.rows[j].lev<t.dep->-t.rows[j].l∈p.lits
  mn:p.many=t.rows.countP (λx=>aB p.seen (af x.l)&&decide (x.lev=t.dep))
theorem nA(s:List (Int×Int))(v w:Int)(n:Int):aB (pt s v n) w=if v=w then decide (0<n)else aB s w:=by
 unfold aB;rw[bJ];split<;>rfl
theorem N2(t:RT)(n:Nat):LI t ⟨[],[],0⟩ n where
 sn:=λv h=>by simp[aB,lk]at h
 li:=by simp
 ls:=λj hj h=>by simp[aB,lk]at h
 mn:=by
  symm;rw[Xc];intro x _;simp[aB,lk]
/-! ### The one literal of the greatest level first -/
def cB(T:Tr)(out:List Int):Nat->Int×Nat×Nat
 |0=>(-1,0,0)
 |i+1=>if(cB T out i).1<dQ T (out.getD i 0)then(dQ T (out.getD i 0),1,i)
  else if dQ T (out.getD i 0)=(cB T out i).1 then((cB T out i).1,(cB T out i).2.1+1,(cB T out i).2.2)else cB T out i
def IT(T:Tr)(out:List Int):List Int:=if(cB T out out.length).2.1=1 then out.getD (cB T out out.length).2.2 0::out.eraseIdx (cB T out out.length).2.2 else out
def IU(T:Tr)(lits:List Int):List Int:=IT T (eG lits)
def ii(A:Ar)(T:Tr)(con:Int):PS:=dt T 0 (av A con) ⟨[],[],0⟩
def dr(A:Ar)(T:Tr)(con:Int):List Int:=IU T (rF T T.lits (cE A T T.lits T.lits.length (ii A T con)))
theorem zK{T:Tr}{out:List Int}{k:Nat}(hk:k<out.length)(h0:0<=dQ T out[k])(ho:∀i (hi:i<out.length),i≠k->dQ T out[i]<dQ T out[k]):∀i,i<=out.length->
 if k<i then cB T out i=(dQ T out[k],1,k)else(cB T out i).1<dQ T out[k]
 |0,_=>by rw[SU (by omega)];simp only[cB];omega
 |i+1,hi=>by
  have a:=zK hk h0 ho i (by omega);have b:out.getD i 0=out[i]:=by rw[SS,SR (by omega)];rfl
  rw[cB,b]
  by_cases c:k<i
  .rw[SX c]at a;have:=ho i (by omega) (by omega);rw[SX (by omega),a];dsimp only;rw[SU (by omega),SU (by omega)]
  .rw[SU c]at a
   by_cases e:k=i
   .subst e;rw[SX (by omega),SX a]
   .have:=ho i (by omega) (by omega);rw[SU (by omega)];split
    .exact this
    .split
     .exact a
     .exact a
theorem Ma{T:Tr}{out:List Int}{k:Nat}(hk:k<out.length)(h0:0<=dQ T out[k])(ho:∀i (hi:i<out.length),i≠k->dQ T out[i]<dQ T out[k]):IT T out=out[k]::out.eraseIdx k:=by
 have:=zK hk h0 ho out.length (SY _);rw[SX hk]at this;unfold IT;rw[this,SX rfl,SS,SR hk];rfl
theorem mR{l:List Int}{k:Nat}(hk:k<l.length)(x:Int):x∈l[k]::l.eraseIdx k↔x∈l:=by
 rw[Tx,V5];constructor
 .rintro(rfl|⟨i,hi,_,rfl⟩)
  .exact S5 hk
  .exact S5 _
 .intro h;obtain⟨i,hi,rfl⟩:=Tc h
  by_cases e:i=k
  .subst e;exact .inl rfl
  .exact .inr ⟨i,hi,e,rfl⟩
theorem vS{l:List Int}(h:l.Nodup){i j:Nat}(hi:i<l.length)(hj:j<l.length)(e:l[i]=l[j]):i=j:=by
 have hn:=TB.1 h;rcases UD i j with c|c|c
 .exact absurd e (hn i j hi hj c)
 .exact c
 .exact absurd e.symm (hn j i hj hi c)
theorem zL(c:List Int):(eG c).Nodup:=(pC c).1.imp λh e=>by rw[e]at h;omega
/-! ### What reasons show -/
inductive HOk (A:Ar) (T:Tr) (R:List Int):Int->Prop
  |stop {l:Int}:l∈R->HOk A T R l
  |why {l:Int}:cm T l<0->0<=(dw T (af l)).1.rea->isA A (dw T (af l)).1.rea=true->(∀y∈av A (dw T (af l)).1.rea,y≠-l->HOk A T R y)->HOk A T R l
def Fr(D:DK)(p:PS)(R:List Int):Prop:=∀j (hj:j<D.t.rows.length),aB p.seen (af D.t.rows[j].l)=true->HOk D.A D.T R (-D.t.rows[j].l)
structure Conf (D:DK) (con:Int):Prop where
  is:isA D.A con=true
  neg:∀y∈av D.A con,aw y 6=0∧∃j,∃hj:j<D.t.rows.length,D.t.rows[j].l=-y
  top:0<D.t.dep->∃y∈av D.A con,∃j,∃hj:j<D.t.rows.length,D.t.rows[j].l=-y∧D.t.rows[j].lev=D.t.dep
structure Learnt (D:DK) (L:List Int):Prop where
  nd:L.Nodup
  neg:∀y∈L,aw y 6=0∧∃j,∃hj:j<D.t.rows.length,D.t.rows[j].l=-y∧0<D.t.rows[j].lev
  nil:D.t.dep=0->L=[]
  top:0<D.t.dep->∃u r,L=u::r∧dQ D.T u=D.t.dep∧∀y∈r,dQ D.T y<D.t.dep
theorem oR{α:Type}{P:α->Bool}:∀{l:List α}{i j:Nat}(b:i<j)(hj:j<l.length),P (l[i]'(by omega))=true->P l[j]=true->2<=l.countP P
 |[],i,j,_,hj,_,_=>by simp at hj
 |x::l,0,j+1,_,hj,h1,a=>by
  simp only[V8,V9]at h1 a;have:0<l.countP P:=Xb.2 ⟨_,S5 (by simpa using hj),a⟩;rw[VM,SX h1];omega
 |x::l,i+1,j+1,b,hj,h1,a=>by
  simp only[V9]at h1 a;have:=oR (l:=l) (i:=i) (j:=j) (by omega) (by simpa using hj) h1 a;rw[VM];omega
theorem F5:eG []=[]:=by
 have:=(pC []).2;cases e:eG []with
 |nil=>rfl
 |cons x l=>have h:=(this x).1 (by rw[e];simp);simp at h
end Go.AX
namespace Go.AX
set_option maxRecDepth 16000
open Go.Proofs
def i7(A:Ar)(T:Tr)(p:PS):List SV:=[.pv (kw A),.pv (bN T),.omap true (aZ fI p.seen),.own true 1 (ae p.lits),.pv (ab p.many)]
@[simp] theorem QT(r:Nat->Nat->PV)(A:Ar):eC r (pL A)=pL A:=by simp[pL]
@[simp] theorem QU(r:Nat->Nat->PV)(T:Tr):eC r (cR T)=cR T:=by simp[cR]
@[simp] theorem N3(k:Nat)(A:Ar):bR k (pL A):=by simp[pL]
@[simp] theorem N4(k:Nat)(T:Tr):bR k (cR T):=by simp[cR]
theorem aR(k:Nat)(A:Ar)(T:Tr)(p:PS):cG k (i7 A T p):=⟨⟨⟨aU k _,iE k _,trivial⟩,trivial⟩,⟨⟨oD k _,aU k _,aU k _,trivial,trivial⟩,trivial⟩,iE k _,aU k _,trivial,trivial⟩
theorem IV(T:Tr)(but:Int)(p:PS)(l:Int):(takeF T but p l).many<=p.many+1∧(takeF T but p l).lits.length<=p.lits.length+1:=by
 unfold takeF;split
 .exact⟨by omega,by omega⟩
 .split
  .exact⟨by simp,by simp⟩
  .exact⟨by simp,by simp⟩
theorem j9(T:Tr)(but:Int):∀(c:List Int)(p:PS),(dt T but c p).many<=p.many+c.length∧(dt T but c p).lits.length<=p.lits.length+c.length
 |[],p=>⟨SY _,SY _⟩
 |y::c,p=>by
  have h1:=IV T but p y;have a:=j9 T but c (takeF T but p y);have e:dt T but (y::c) p=dt T but c (takeF T but p y):=rfl;rw[e,Ty];omega
theorem tD(T:Tr)(but:Int)(c:List Int)(p:PS){i:Nat}(h:i<c.length):dt T but (c.take (i+1)) p=takeF T but (dt T but (c.take i) p) c[i]:=bL _ _ _ _ h
theorem IW(A:Ar)(T:Tr)(p:PS)(q but:Int)(ht:T.ok)(h0:A.hd≠[])(hk:j0 A)(k:A.row.length<=1000000)(m:p.many<=1000000000)(hp:p.lits.length<=1000000000):
 aA Tryz.prog 161 [.ptr 0 0,ab q,ab but] [i7 A T p] (λr h'=>h'=[i7 A T (dt T but (av A q) p)]∧r=.pv (.tup [])):=by
 refine ic [] [] [i7 A T (dt T but (av A q) p)] (by simp) (λ_=>⟨aR _ _ _ _,trivial⟩) aD Tryz.func161 ?_;have j:=j7 A h0 hk k q;have l:=fM A hk q;generalize av A q=c at*;simp[i7];refine ai.intro j ?_;simp;refine ax.intro (S:=λ(i:Nat)=>⟨[(0,.pv (.ptr 0 0)),(2,.pv (ab but)),(6,.pv (.fn (.func 170) [bN T] [])),(20,.own true 1 (ae c)),(21,.pv (ab c.length)),(22,.pv (ab i))],[i7 A T (dt T but (c.take i) p)]⟩) (λi=>i<=c.length) (λi=>c.length -i) 0 ?_ (Tf _) ?_
 .exact ah.to (by simp) (by simp[i7,dt]) (by simp) (by simp) (by simp[aR])
 intro i hi
 by_cases h:i<c.length
 rotate_left
 .have f:i=c.length:=by omega
  subst f;simp[i7,fX]
 have d:=dv i;have hs:=tD T but c p h;have hle:=j9 T but (c.take i) p;rw[S6]at hle;generalize dt T but (c.take i) p=s at*;have b:=fH T (af c[i]) ht;simp[h,i7];refine ai.intro (aK c[i]) ?_;simp;refine bf.intro (λ_=>b) ?_
 by_cases c1:af c[i]=but
 .have hd:takeF T but s c[i]=s:=by unfold takeF;rw[SX (.inl c1)]
  simp[c1];refine⟨i+1,by(try dsimp only);omega,by(try dsimp only);omega,ah.to (by simp[d]) (by simp[i7,hs,hd]) (by simp) (by simp) (by simp[aR])⟩
 by_cases c2:0<(lk s.seen (af c[i])).getD 0
 .have hd:takeF T but s c[i]=s:=by unfold takeF;rw[SX (.inr (.inl (by simpa[aB]using c2)))]
  simp[c1,c2];refine⟨i+1,by(try dsimp only);omega,by(try dsimp only);omega,ah.to (by simp[d]) (by simp[i7,hs,hd]) (by simp) (by simp) (by simp[aR])⟩
 have a:(lk s.seen (af c[i])).getD 0<=0:=by omega
 by_cases c3:(dw T (af c[i])).1.lev<=0
 .have hd:takeF T but s c[i]=s:=by unfold takeF;rw[SX (.inr (.inr c3))]
  simp[c1,c2,a,c3];refine⟨i+1,by(try dsimp only);omega,by(try dsimp only);omega,ah.to (by simp[d]) (by simp[i7,hs,hd]) (by simp) (by simp) (by simp[aR])⟩
 have hd:takeF T but s c[i]=if(dw T (af c[i])).1.lev=T.beg.length then⟨pt s.seen (af c[i]) 1,s.lits,s.many+1⟩else⟨pt s.seen (af c[i]) 1,s.lits++[c[i]],s.many⟩:=by
  unfold takeF;rw[SU]
  .rfl
  rintro(e|e|e)
  .exact c1 e
  .exact c2 (by simpa[aB]using e)
  .exact c3 e
 simp[c1,c2,a,c3];refine bz.intro b ?_;simp;refine bz.intro (ny T) ?_
 by_cases c4:(dw T (af c[i])).1.lev=T.beg.length
 .rw[SX c4]at hd;have g:=dv s.many;simp[c4];refine⟨i+1,by(try dsimp only);omega,by(try dsimp only);omega,ah.to (by simp[d]) (by simp[i7,hs,hd,g]) (by simp) (by simp) (by simp[aR])⟩
 .rw[SU c4]at hd;simp[c4];refine⟨by omega,i+1,by(try dsimp only);omega,by(try dsimp only);omega,ah.to (by simp[d]) (by simp[i7,hs,hd,ae]) (by simp) (by simp) (by simp[aR])⟩
def ka(T:Tr)(p:PS)(all:List Int):Nat->Int
 |0=>-1
 |n+1=>if nY T p (all.getD n 0)=true then(n:Int)else ka T p all n
theorem F6(A:Ar)(T:Tr)(all:List Int)(p:PS)(h:p.many<=1):∀k,cE A T all k p=p
 |0=>rfl
 |k+1=>by rw[cE,SX h]
theorem zM(A:Ar)(T:Tr)(all:List Int)(p:PS):∀k,(ka T p all k=-1∧cE A T all k p=p)∨∃j,j<k∧ka T p all k=(j:Int)∧(1<p.many->cE A T all k p=cE A T all j (oP A T p (all.getD j 0)))
 |0=>.inl ⟨rfl,rfl⟩
 |k+1=>by
  rw[ka,cE]
  by_cases c:nY T p (all.getD k 0)=true
  .rw[SX c,SX c];exact .inr ⟨k,by omega,rfl,λh=>by rw[SU (by omega)]⟩
  .rw[SU c,SU c];rcases zM A T all p k with⟨h1,a⟩|⟨j,h1,a,b⟩
   .refine .inl ⟨h1,?_⟩;split
    .rfl
    .exact a
   .refine .inr ⟨j,by omega,a,λh=>?_⟩;rw[SU (by omega)];exact b h
theorem IX(A:Ar)(T:Tr)(p:PS)(all:List Int)(n:Nat)(ht:T.ok)(hn:n<=all.length)(q:all.length<=1000000):
 aA Tryz.prog 240 [.ptr 0 0,.seq false 1 (ae all),ab ((n:Int) -1)] [i7 A T p] (λr h'=>h'=[i7 A T p]∧r=.pv (ab (ka T p all n))):=by
 refine ic [] [.tmp 6] [i7 A T p] (by simp) (λ_=>⟨aR _ _ _ _,trivial⟩) aD Tryz.func240 ?_;generalize l:ka T p all n=F;simp;refine ax.intro (S:=λ(k:Nat)=>⟨[(0,.pv (.ptr 0 0)),(1,.pv (.seq false 1 (ae all))),(7,.pv (ab ((k:Int) -1)))],[i7 A T p]⟩) (λk=>k<=n∧F=ka T p all k) (λk=>k) n ?_ ⟨SY _,l.symm⟩ ?_
 .exact ah.to (by simp) (by simp) (by simp) (by simp) (by simp[aR])
 rintro k ⟨hk,a⟩;cases k with
 |zero=>simp[ka]at a;subst a;simp[fX]
 |succ j=>
  have hj:j<all.length:=by omega
  have m:all.getD j 0=all[j]:=by rw[SS,SR hj];rfl
  have o:aX ((j:Int) -1)=(j:Int) -1:=ao (by omega) (by omega);have c:=fH T (af all[j]) ht;have e:=gB T (af all[j]) ht;have d:ka T p all (j+1)=if nY T p all[j]=true then(j:Int)else ka T p all j:=by rw[ka,m]
  have i:nY T p all[j]=(decide (0<(lk p.seen (af all[j])).getD 0)&&(decide ((dw T (af all[j])).1.lev=T.beg.length)&&decide (0<=(dw T (af all[j])).1.rea))):=rfl;rw[d,i]at a;simp[hj,i7];refine ai.intro (aK all[j]) ?_;simp;refine ea.intro (λ_=>c) ?_;simp;refine ea.intro (λ_=>ny T) ?_;simp;refine ea.intro (λ_=>e) ?_
  by_cases b:(0<(lk p.seen (af all[j])).getD 0∧(dw T (af all[j])).1.lev=T.beg.length)∧0<=(dw T (af all[j])).1.rea
  .obtain⟨⟨f,g⟩,h⟩:=b;rw[SX (by simp[f,g,h])]at a;subst a;simp[f,g,h,fX,i7]
  .rw[SU (by simpa[and_assoc]using b)]at a;simp[b];refineλ_=>⟨j,by(try dsimp only);omega,⟨by(try dsimp only);omega,a⟩,ah.to (by simp[o]) (by simp[i7]) (by simp) (by simp) (by simp[aR])⟩
end Go.AX
namespace Go.AX
open Go.Proofs
theorem Mb(A:Ar)(T:Tr)(hk:j0 A)(b:A.row.length<=1000000)(p:PS)(l:Int):(oP A T p l).many<=p.many+1000000∧(oP A T p l).lits.length<=p.lits.length+1000000:=by
 have h:=j9 T (af l) (av A (dw T (af l)).1.rea) ⟨pt p.seen (af l) 0,p.lits,p.many -1⟩;have a:=fM A hk (dw T (af l)).1.rea;dsimp only at h;unfold oP;omega
def IY(T:Tr)(p:PS)(l:Int):Bool:=aB p.seen (af l)&&decide (dQ T l=T.beg.length)
def nZ(T:Tr)(all:List Int)(p:PS)(i:Nat):List Int:=p.lits++((all.take i).filter (IY T p)).map λl=>aX (-l)
theorem Co(T:Tr)(all:List Int)(p:PS){i:Nat}(h:i<all.length):nZ T all p (i+1)=if IY T p all[i]=true then nZ T all p i++[aX (-all[i])]else nZ T all p i:=by
 unfold nZ;rw[←U7 h,Uu,Tu]
 by_cases c:IY T p all[i]=true
 .rw[SX c,TO,SX c];simp
 .rw[SU c,TO,SU c];simp
theorem zN(T:Tr)(all:List Int)(p:PS)(i:Nat)(hi:i<=all.length):(nZ T all p i).length<=p.lits.length+i:=by
 unfold nZ;rw[Ta,S7];have:=Uq (IY T p) (all.take i);rw[S6]at this;omega
theorem vT(T:Tr)(all:List Int)(p:PS):nZ T all p all.length=rF T all p:=by
 unfold nZ rF;rw[Tw];rfl
def fin(A:Ar)(T:Tr)(all:List Int)(p:PS):PS:=⟨(cE A T all all.length p).seen,rF T all (cE A T all all.length p),(cE A T all all.length p).many⟩
set_option maxRecDepth 16000 in
theorem IZ(A:Ar)(T:Tr)(p:PS)(all:List Int)(ht:T.ok)(h0:A.hd≠[])(hk:j0 A)(I:A.row.length<=1000000)(hn:all.length<=400)(N:p.many<=1000000)(hp:p.lits.length<=1000000):
 aA Tryz.prog 162 [.ptr 0 0,.seq false 1 (ae all)] [i7 A T p] (λr h'=>h'=[i7 A T (fin A T all p)]∧r=.pv (.tup [])):=by
 refine ic [] [] [i7 A T (fin A T all p)] (by simp) (λ_=>⟨aR _ _ _ _,trivial⟩) aD Tryz.func162 ?_;have a:=λp n hn=>IX A T p all n ht hn (by omega);have C:aX ((all.length:Int) -1)=(all.length:Int) -1:=ao (by omega) (by omega);unfold fin;generalize K:cE A T all all.length p=F;simp[C];refine am.intro (a p all.length (SY _)) ?_;rintro _ _ ⟨rfl,rfl⟩;simp;refine ax.intro (S:=λ(x:Nat×PS)=>⟨[(0,.pv (.ptr 0 0)),(1,.pv (.seq false 1 (ae all))),(4,.pv (ab (ka T x.2 all x.1)))],[i7 A T x.2]⟩) (λx=>x.1<=all.length∧F=cE A T all x.1 x.2∧x.2.many<=1000000*(all.length -x.1+1)∧x.2.lits.length<=1000000*(all.length -x.1+1)) (λx=>x.1) (all.length,p) ?_ ⟨SY _,K.symm,by dsimp only;omega,by dsimp only;omega⟩ ?_
 .exact ah.to (by simp) (by simp) (by simp) (by simp) (by simp[aR])
 rintro⟨k,s⟩ ⟨t,b,w,y⟩;dsimp only at t b w y;have d:=zM A T all s k
 by_cases H:(1:Int)<(s.many:Int)∧0<=ka T s all k
 rotate_left
 .have m:F=s:=by
   rcases d with⟨h1,e⟩|⟨j,h1,e,D⟩
   .rw[b,e]
   .rw[b,F6 A T all s (by omega)]
  subst m;clear b d a;simp[i7,H];intro _;refine ax.intro (S:=λ(i:Nat)=>⟨[(0,.pv (.ptr 0 0)),(1,.pv (.seq false 1 (ae all))),(55,.pv (.seq false 1 (ae all))),(56,.pv (ab all.length)),(57,.pv (ab i))],[i7 A T ⟨F.seen,nZ T all F i,F.many⟩]⟩) (λi=>i<=all.length) (λi=>all.length -i) 0 ?_ (Tf _) ?_
  .exact ah.to (by simp) (by simp[i7,nZ]) (by simp) (by simp) (by simp[aR])
  intro i hi
  by_cases h:i<all.length
  rotate_left
  .have q:i=all.length:=by omega
   subst q;simp[i7,fX,vT]
  have J:=dv i;have c:=Co T all F h;have hle:=zN T all F i hi;have u:=fH T (af all[i]) ht;have E:IY T F all[i]=(decide (0<(lk F.seen (af all[i])).getD 0)&&decide ((dw T (af all[i])).1.lev=T.beg.length)):=rfl;simp[h,i7];refine ai.intro (aK all[i]) ?_;simp;refine ea.intro (λ_=>u) ?_;simp;refine ea.intro (λ_=>ny T) ?_
  by_cases hd:0<(lk F.seen (af all[i])).getD 0∧(dw T (af all[i])).1.lev=T.beg.length
  .rw[SX (by rw[E];simp[hd])]at c;simp[hd];refine⟨by omega,i+1,by(try dsimp only);omega,by(try dsimp only);omega,ah.to (by simp[J]) (by simp[i7,c,ae]) (by simp) (by simp) (by simp[aR])⟩
  .rw[SU (by rw[E];simpa using hd)]at c;simp[hd];refineλ_=>⟨i+1,by(try dsimp only);omega,by(try dsimp only);omega,ah.to (by simp[J]) (by simp[i7,c]) (by simp) (by simp) (by simp[aR])⟩
 obtain⟨o,L⟩:=H;rcases d with⟨h1,e⟩|⟨j,h1,e,D⟩
 .omega
 have hj:j<all.length:=by omega
 have M:all.getD j 0=all[j]:=by rw[SS,SR hj];rfl
 have f:=D (by omega);rw[M]at f;have v:=gB T (af all[j]) ht;have B:aX ((s.many:Int) -1)=((s.many -1:Nat):Int):=by rw[ao (by omega) (by omega)];omega
 have z:aX ((j:Int) -1)=(j:Int) -1:=ao (by omega) (by omega);have G:1000000*(all.length -k+1)+1000000<=1000000*(all.length -j+1):=by omega
 have l:=IW A T ⟨pt s.seen (af all[j]) 0,s.lits,s.many -1⟩ (dw T (af all[j])).1.rea (af all[j]) ht h0 hk I (by dsimp only;omega) (by dsimp only;omega);have hle:=Mb A T hk I s all[j];have g:dt T (af all[j]) (av A (dw T (af all[j])).1.rea) ⟨pt s.seen (af all[j]) 0,s.lits,s.many -1⟩=oP A T s all[j]:=rfl;rw[g]at l;generalize oP A T s all[j]=s' at*;simp[i7,o,e,hj];refine ai.intro (aK all[j]) ?_;simp[B];refine ai.intro v ?_;simp;refine am.intro l ?_;rintro _ _ ⟨rfl,rfl⟩;simp[z];refine am.intro (a s' j (by omega)) ?_;rintro _ _ ⟨rfl,rfl⟩;simp;refine⟨(j,s'),by(try dsimp only);omega,⟨by(try dsimp only);omega,by(try dsimp only);rw[b,f],by(try dsimp only);omega,by(try dsimp only);omega⟩,ah.to (by simp) (by simp[i7]) (by simp) (by simp) (by simp[aR])⟩
theorem Cp(T:Tr)(ht:T.ok)(x:Int):aj Tryz.prog 238 [ab x,.iptr 1 [[bN T]] 0 0] (λr=>r=.pv (BL (decide (0<=cm T x)))):=by
 refine ap aD Tryz.func238 ?_;have a:=fJ T x ht;simp;refine ai.intro a ?_;simp
def oT(T:Tr)(lits:List Int):Bool:=!(lits.any λx=>decide (0<=cm T x))
theorem F7(T:Tr)(lits:List Int)(ht:T.ok)(b:lits.length<=1000000):aj Tryz.prog 159 [bN T,.seq false 1 (ae lits)] (λr=>r=.pv (BL (oT T lits))):=by
 refine ap aD Tryz.func159 ?_;have a:=fY lits b 238 [.iptr 1 [[bN T]] 0 0] (λx=>decide (0<=cm T x)) (λr=>by simp) rfl (λk=>by simp) (λx _=>Cp T ht x);simp[bA];refine ai.intro a ?_;simp[oT]
def fN(T:Tr)(lits:List Int)(i:Nat):List Int:=((lits.take i).filter λl=>!decide (cm T l=0)).map (dQ T)
theorem Cq(T:Tr)(lits:List Int){i:Nat}(h:i<lits.length):fN T lits (i+1)=if cm T lits[i]=0 then fN T lits i else fN T lits i++[dQ T lits[i]]:=by
 unfold fN;rw[←U7 h,Uu,Tu]
 by_cases c:cm T lits[i]=0
 .rw[SX c,TO,SU (by simp[c])];simp
 .rw[SU c,TO,SX (by simp[c])];simp
theorem zO(T:Tr)(lits:List Int)(i:Nat):(fN T lits i).length<=i:=by
 unfold fN;rw[S7];have:=Uq (λl=>!decide (cm T l=0)) (lits.take i);rw[S6]at this;omega
def I0(T:Tr)(lits:List Int):List Int:=cJ (dJ (fN T lits lits.length))
def eZ(T:Tr)(lits:List Int):Int:=if(I0 T lits).length<2 then 0 else(I0 T lits).getD ((I0 T lits).length -2) 0
set_option maxRecDepth 16000 in
theorem I4(T:Tr)(lits:List Int)(ht:T.ok)(K:lits.length<=1000000):aj Tryz.prog 98 [bN T,.seq false 1 (ae lits)] (λr=>r=.pv (ab (eZ T lits))):=by
 refine ap aD Tryz.func98 ?_;simp;refine ax.intro (S:=λ(i:Nat)=>⟨[(0,.pv (bN T)),(5,.own true 1 (ae (fN T lits i))),(8,.pv (.seq false 1 (ae lits))),(9,.pv (ab lits.length)),(10,.pv (ab i))],[]⟩) (λi=>i<=lits.length) (λi=>lits.length -i) 0 ?_ (Tf _) ?_
 .exact(ah.nilOwn (s:=5) 1 true (by simp)).trans (ah.to (by simp[fN,ae]) (by simp) (by simp) (by simp) (by simp))
 intro i hi
 by_cases h:i<lits.length
 .have v:=dv i;have A:=fH T (af lits[i]) ht;have J:=fJ T lits[i] ht;have d:=Cq T lits h;have hle:=zO T lits i;simp[h];refine bf.intro (λ_=>J) ?_
  by_cases c:cm T lits[i]=0
  .rw[SX c]at d;simp[c];refine⟨i+1,by(try dsimp only);omega,by(try dsimp only);omega,ah.to (by simp[v,d]) (by simp) (by simp) (by simp) (by simp)⟩
  .rw[SU c]at d;simp[c];refine ai.intro (aK lits[i]) ?_;simp;refine ai.intro A ?_;simp;refine⟨by omega,i+1,by(try dsimp only);omega,by(try dsimp only);omega,ah.to (by simp[v,d,ae,dQ]) (by simp) (by simp) (by simp) (by simp)⟩
 have y:i=lits.length:=by omega
 subst y;have hle:=zO T lits lits.length;have G:=vR (fN T lits lits.length) (by omega);have n:eZ T lits=if(cJ (dJ (fN T lits lits.length))).length<2 then 0 else(cJ (dJ (fN T lits lits.length))).getD ((cJ (dJ (fN T lits lits.length))).length -2) 0:=rfl;generalize eZ T lits=B at*;have I:(dJ (fN T lits lits.length)).length=(fN T lits lits.length).length:=by unfold dJ;exact Ur _
 generalize fN T lits lits.length=xs at*;have E:=tf (dJ xs) (by omega);have hcl:=iT (dJ xs) (dJ xs).length;unfold NQ at E;have w:aL (dJ xs) (dJ xs).length=cJ (dJ xs):=rfl;rw[w]at hcl;generalize dJ xs=e at*;generalize cJ e=a at*;simp;refine ai.introX (bE.introS (o:=.slot 5) (lo:=0) (hi:=xs.length) G (by simp) rfl rfl (by simp) (by simp) rfl (by simp;exact TT (by simp)) (aU 0 xs) (by simp) (by simp) ?_);rintro k l ⟨rfl,rfl⟩ _ _;have x:List.drop xs.length (ae xs)=[]:=Tq (by simp);simp[x];refine ai.introX (bE.introS (o:=.slot 5) (lo:=0) (hi:=e.length) E (by simp) rfl rfl (by simp) (by simp) rfl (by simp;exact TT (by simp)) (f9 0 e) (by simp) (by simp) ?_);rintro k l ⟨rfl,rfl⟩ _ _;have q:List.drop e.length (ae e)=[]:=Tq (by simp);have F:(aC (a++List.replicate (e.length -a.length) 0)).length=e.length:=by rw[gC];simp;omega
 have f:min a.length (aC (a++List.replicate (e.length -a.length) 0)).length=a.length:=by rw[F];omega
 have D:=oG a (List.replicate (e.length -a.length) 0)
 by_cases c2:a.length<2
 .rw[SX c2]at n;have g:(a.length:Int)<2:=by omega
  have j:¬2<=(a.length:Int):=by omega
  simp[q,c2,g,j,n,f]
 rw[SU c2]at n;obtain⟨m,H⟩:∃m,a.length=m+2:=⟨a.length -2,by omega⟩;have v:aX ((a.length:Int) -2)=(m:Int):=by rw[ao (by omega) (by omega)];omega
 have g:¬(a.length:Int)<2:=by omega
 have b:m<a.length:=by omega
 have p:B=a[m]:=by rw[n,H,SS,VQ,SR b];rfl
 have t:(aC a)[m]?=some [ab a[m]]:=by unfold aC;rw[Tm,SR b];rfl
 have C:(m:Int)<(a.length:Int):=by omega
 rw[p];clear n p;have z:=gC a;have j:2<=(a.length:Int):=by omega
 have u:∀h,(aC a)[m]'h=[ab a[m]]:=λh=>by rw[SR h]at t;exact VH t
 simp[q,c2,g,j,v,f,D,C,z,u,b]
def gn(A:Ar)(q:Int):Int:=if isA A q=true then A.row.getD q.toNat 0 else 0
theorem sb(A:Ar)(h0:A.hd≠[])(hk:j0 A)(b:A.row.length<=1000000)(q:Int):aj Tryz.prog 158 [kw A,ab q] (λr=>r=.pv (ab (gn A q))):=by
 refine ap aD Tryz.func158 ?_;have hi:=Ef A h0 q;unfold gn;simp only[kw,pL]at hi;simp[kw,pL];refine ai.intro hi ?_
 by_cases c:isA A q=true
 rotate_left
 .have c':isA A q=false:=by simpa using c
  simp[c']
 obtain⟨p,n,rfl,a⟩:=hk q c;have hp:p<A.row.length:=by have:=a.len;omega
 simp[c,hp]
structure NS where
  at':List (Int×Int)
  ok:Bool
def pla(T:Tr)(l:Int):Int:=(dw T (af l)).1.pla
def rea(T:Tr)(l:Int):Int:=(dw T (af l)).1.rea
def vU(T:Tr)(stop:List (Int×Int))(but:Int)(s:NS)(l:Int):Bool:=decide (l=but)||aB stop l||(aB s.at' (pla T l)&&decide (0<=pla T l))
def F8(A:Ar)(T:Tr)(l:Int):Bool:=decide (0<=cm T l)||decide (rea T l<0)||decide (gn A (rea T l)=0)
def tE(T:Tr)(s:NS)(l:Int):NS:=⟨pt s.at' (pla T l) (aX ((lk s.at' (pla T l)).getD 0+1)),s.ok⟩
def tF(f:NS->Int->Int->NS)(A:Ar)(T:Tr)(stop:List (Int×Int))(but:Int):List Int->NS->NS
 |[],s=>s
 |l::c,s=>if vU T stop but s l=true then tF f A T stop but c s else if F8 A T l=true then⟨s.at',false⟩else tF f A T stop but c (f (tE T s l) (rea T l) (aX (-l)))
def rG(A:Ar)(T:Tr)(stop:List (Int×Int)):Nat->NS->Int->Int->NS
 |0,s,_,_=>s
 |k+1,s,q,but=>tF (rG A T stop k) A T stop but (av A q) s
def tG(A:Ar)(T:Tr)(stop:List (Int×Int))(s:NS):List SV:=[.pv (kw A),.pv (bN T),.omap true (aZ fI stop),.omap true (aZ fI s.at'),.pv (BL s.ok)]
theorem dR(k:Nat)(A:Ar)(T:Tr)(stop:List (Int×Int))(s:NS):cG k (tG A T stop s):=⟨⟨⟨aU k _,iE k _,trivial⟩,trivial⟩,⟨⟨oD k _,aU k _,aU k _,trivial,trivial⟩,trivial⟩,iE k _,iE k _,trivial,trivial⟩
structure AheadOk (A:Ar) (T:Tr):Prop where
  tr:T.ok
  hd:A.hd≠[]
  ar:j0 A
  len:A.row.length<=1000000
  ahead:∀l:Int,cm T l<0->0<=rea T l->0<=pla T l∧∀y∈av A (rea T l),y≠aX (-l)->pla T y<pla T l
set_option maxRecDepth 16000 in
theorem Mc(A:Ar)(T:Tr)(stop:List (Int×Int))(K:AheadOk A T):∀(k:Nat)(q but:Int)(s:NS),(∀y∈av A q,y≠but->pla T y<k)->
 aA Tryz.prog 166 [.ptr 0 0,ab q,ab but] [tG A T stop s] (λr h'=>h'=[tG A T stop (rG A T stop (k+1) s q but)]∧r=.pv (.tup [])):=by
 intro k
 induction k using Nat.strongRecOn with
 |ind k O=>
 intro q but s N;refine ic [] [] [tG A T stop (rG A T stop (k+1) s q but)] (by simp) (λ_=>⟨dR _ _ _ _ _,trivial⟩) aD Tryz.func166 ?_;obtain⟨ht,h0,hk,G,p⟩:=K;have L:=j7 A h0 hk G q;have X:=fM A hk q;rw[rG];generalize E:tF (rG A T stop k) A T stop but (av A q) s=F;generalize av A q=c at*;simp[tG];refine ai.intro L ?_;simp;refine ax.intro (S:=λ(x:Nat×NS)=>⟨[(0,.pv (.ptr 0 0)),(2,.pv (ab but)),(15,.own true 1 (ae c)),(16,.pv (ab c.length)),(17,.pv (ab x.1))],[tG A T stop x.2]⟩) (λx=>x.1<=c.length∧F=tF (rG A T stop k) A T stop but (c.drop x.1) x.2) (λx=>c.length -x.1) (0,s) ?_ ⟨Tf _,E.symm⟩ ?_
 .exact ah.to (by simp) (by simp[tG]) (by simp) (by simp) (by simp[dR])
 clear E;rintro⟨i,s⟩ ⟨hi,d⟩;dsimp only at hi d
 by_cases h:i<c.length
 rotate_left
 .have w:i=c.length:=by omega
  subst w;rw[Tq (SY _),tF]at d;subst d;simp[tG,fX]
 have H:=dv i;have v:c.drop i=c[i]::c.drop (i+1):=TG h;rw[v,tF]at d;have f:=nt T (af c[i]) ht;have m:=gB T (af c[i]) ht;have D:=fJ T c[i] ht;have n:vU T stop but s c[i]=(decide (c[i]=but)||decide (0<(lk stop c[i]).getD 0)||(decide (0<(lk s.at' (pla T c[i])).getD 0)&&decide (0<=pla T c[i]))):=rfl;have l:F8 A T c[i]=(decide (0<=cm T c[i])||decide (rea T c[i]<0)||decide (gn A (rea T c[i])=0)):=rfl;have B:(dw T (af c[i])).1.pla=pla T c[i]:=rfl;have C:(dw T (af c[i])).1.rea=rea T c[i]:=rfl;rw[B]at f;rw[C]at m;simp[h,tG];refine ai.intro (aK c[i]) ?_;simp;refine ea.intro (λ_=>f) ?_;simp;refine ea.intro (λ_=>f) ?_;simp;refine⟨λa b=>⟨⟨a,b⟩,λe=>⟨⟨a,b⟩,e⟩⟩,λhs=>?_,λI Y U=>?_⟩
 .rw[SX (by rw[n];simpa using hs)]at d;exact⟨(i+1,s),by(try dsimp only);omega,⟨by(try dsimp only);omega,d⟩,ah.to (by simp[H]) (by simp[tG]) (by simp) (by simp) (by simp[dR])⟩
 have o:¬vU T stop but s c[i]=true:=by
  rw[n];simp only[Um,S9,Th];rintro((e|e)|⟨J,W⟩)
  .exact I e
  .omega
  .have:=U J;omega
 rw[SU o]at d;refine ai.intro m ?_;simp;refine ai.intro D ?_;simp;refine bf.intro (λ_=>sb A h0 hk G _) ?_
 by_cases j:F8 A T c[i]=true
 .rw[SX j]at d;rw[l]at j;have t:(0<=cm T c[i]∨rea T c[i]<0)∨gn A (rea T c[i])=0:=by simpa using j
  subst d;simp[t,fX]
 rw[SU j]at d;have u:¬(0<=cm T c[i])∧¬(rea T c[i]<0)∧¬(gn A (rea T c[i])=0):=by
  rw[l]at j;simpa[and_assoc]using j
 obtain⟨P,Q,R⟩:=u;obtain⟨Z,V⟩:=p c[i] (by omega) (by omega);have M:=N c[i] (S5 h) I;simp[P,Q,R];refine⟨by omega,?_⟩;refine bz.intro f ?_;simp;obtain⟨k',rfl⟩:∃k',k=k'+1:=⟨k -1,by omega⟩;have g:=O k' (by omega) (rea T c[i]) (aX (-c[i])) (tE T s c[i]) (λy hy z=>by have:=V y hy z;omega);simp only[tG,tE]at g;refine am.intro g ?_;rintro _ _ ⟨rfl,rfl⟩;simp;refine⟨(i+1,rG A T stop (k'+1) (tE T s c[i]) (rea T c[i]) (aX (-c[i]))),by(try dsimp only);omega,⟨by(try dsimp only);omega,d⟩,ah.to (by simp[H]) (by simp[tG,tE]) (by simp) (by simp) (by simp[dR])⟩
def cC(lits:List Int):Nat->List (Int×Int)
 |0=>[]
 |i+1=>pt (cC lits i) (lits.getD i 0) ((lk (cC lits i) (lits.getD i 0)).getD 0+1)
theorem pO(lits:List Int):∀(i:Nat)(v:Int),0<=(lk (cC lits i) v).getD 0∧(lk (cC lits i) v).getD 0<=i
 |0,v=>by simp[cC,lk]
 |i+1,v=>by
  have h:=pO lits i;rw[cC,bJ];split
  .have:=h (lits.getD i 0);rw[TC];omega
  .have:=h v;omega
theorem tH(lits:List Int)(v:Int):∀i,i<=lits.length->(aB (cC lits i) v=true↔v∈lits.take i)
 |0,_=>by simp[cC,lk,aB]
 |i+1,h=>by
  have b:=tH lits v i (by omega);have a:lits.getD i 0=lits[i]:=by rw[SS,SR (by omega)];rfl
  have hle:=pO lits i lits[i];rw[cC,a,nA,TW,SR (by omega),UO,Te,TA];split
  .rename_i e;subst e;have:0<(lk (cC lits i) lits[i]).getD 0+1:=by omega
   simp[this]
  .rename_i e;rw[b];exact⟨.inl,λh=>h.elim id (λh=>absurd h.symm e)⟩
def I5(T:Tr)(at':List (Int×Int))(out:List Int)(i:Nat):Bool:=aB at' i&&!decide (rea T (T.lits.getD i 0)∈out)
def ed(T:Tr)(at':List (Int×Int)):Nat->List Int
 |0=>[]
 |i+1=>if I5 T at' (ed T at' i) i=true then ed T at' i++[rea T (T.lits.getD i 0)]else ed T at' i
theorem tI(T:Tr)(at':List (Int×Int)):∀i,(ed T at' i).length<=i
 |0=>by simp[ed]
 |i+1=>by
  have:=tI T at' i;rw[ed];split
  .simp;omega
  .omega
def mc(A:Ar)(T:Tr)(lits:List Int)(con:Int):NS:=rG A T (cC lits lits.length) (T.lits.length+1) ⟨[],true⟩ con 0
def rH(T:Tr)(at':List (Int×Int))(con:Int):List Int:=if con∈ed T at' T.lits.length then ed T at' T.lits.length else ed T at' T.lits.length++[con]
def rI(A:Ar)(T:Tr)(lits:List Int)(con:Int):List Int×Bool:=
 if gn A con=0 then([],false)else if(mc A T lits con).ok=false then([],false)else(rH T (mc A T lits con).at' con,true)
set_option maxRecDepth 16000 in
theorem I6(A:Ar)(T:Tr)(lits:List Int)(con:Int)(j:AheadOk A T)(hp:∀l,pla T l<T.lits.length)(B:lits.length<=1000000)(z:T.lits.length<=1000000):
 aj Tryz.prog 94 [kw A,bN T,.seq false 1 (ae lits),ab con] (λr=>r=.pv (.tup [.seq true 1 (ae (rI A T lits con).1),BL (rI A T lits con).2])):=by
 refine aj.wk (R:=λr=>∃x,r=.pv x∧bB x (.tup [.seq true 1 (ae (rI A T lits con).1),BL (rI A T lits con).2])) ?_ (λr ⟨x,e,h⟩=>⟨x,_,e,h,rfl⟩);refine iO [] [.tmp 8,.tmp 9] aD Tryz.func94 ?_;have p:=sb A j.hd j.ar j.len con;have b:=Mc A T (cC lits lits.length) j T.lits.length con 0 ⟨[],true⟩ (λy _ _=>hp y);have v:=fZ T z;obtain⟨H,c⟩:∃H,rI A T lits con=H:=⟨_,rfl⟩;rw[c];unfold rI at c;have w:rG A T (cC lits lits.length) (T.lits.length+1) ⟨[],true⟩ con 0=mc A T lits con:=rfl;rw[w]at b;generalize mc A T lits con=N at*;simp;refine bf.intro (λ_=>p) ?_
 by_cases m:gn A con=0
 .rw[SX m]at c;subst c;simp[m,bB,bc,ae]
 rw[SU m]at c;simp[m];refine ax.intro (S:=λ(i:Nat)=>⟨[(0,.pv (kw A)),(1,.pv (bN T)),(2,.pv (.seq false 1 (ae lits))),(3,.pv (ab con)),(10,.pv (.ptr 0 0)),(35,.pv (.seq false 1 (ae lits))),(36,.pv (ab lits.length)),(37,.pv (ab i))],[tG A T (cC lits i) ⟨[],true⟩]⟩) (λi=>i<=lits.length) (λi=>lits.length -i) 0 ?_ (Tf _) ?_
 .exact ah.to (by simp) (by simp[tG,cC]) (by simp) (by simp) (by simp[dR])
 intro i hi
 by_cases h:i<lits.length
 .have o:=dv i;have n:lits.getD i 0=lits[i]:=by rw[SS,SR h];rfl
  have hle:=pO lits i lits[i];have t:aX ((lk (cC lits i) lits[i]).getD 0+1)=(lk (cC lits i) lits[i]).getD 0+1:=ao (by omega) (by omega);have a:cC lits (i+1)=pt (cC lits i) lits[i] ((lk (cC lits i) lits[i]).getD 0+1):=by rw[cC,n]
  simp[h,tG];refine⟨i+1,by(try dsimp only);omega,by(try dsimp only);omega,ah.to (by simp[o]) (by simp[tG,a,t]) (by simp) (by simp) (by simp[dR])⟩
 have g:i=lits.length:=by omega
 subst g;simp only[tG]at b;simp[tG];refine am.intro b ?_;rintro _ _ ⟨rfl,rfl⟩;cases c1:N.ok
 .rw[SX c1]at c;subst c;simp[c1,bB,bc,ae]
 rw[SU (by simp[c1])]at c;subst c;simp[c1];refine ai.intro v ?_;simp;refine ax.intro (S:=λ(i:Nat)=>⟨[(1,.pv (bN T)),(3,.pv (ab con)),(10,.pv (.ptr 0 0)),(13,.own true 1 (ae (ed T N.at' i))),(58,.own true 1 (ae T.lits)),(59,.pv (ab T.lits.length)),(60,.pv (ab i))],[tG A T (cC lits lits.length) N]⟩) (λi=>i<=T.lits.length) (λi=>T.lits.length -i) 0 ?_ (Tf _) ?_
 .exact(ah.nilOwn (s:=13) 1 true (by simp)).trans (ah.to (by simp[ed,ae]) (by simp[tG,c1]) (by simp) (by simp) (by simp[dR]))
 intro i hi;have hle:=tI T N.at' i
 by_cases h:i<T.lits.length
 .have o:=dv i;have n:T.lits.getD i 0=T.lits[i]:=by rw[SS,SR h];rfl
  have k:=gB T (af T.lits[i]) j.tr;have q:(dw T (af T.lits[i])).1.rea=rea T T.lits[i]:=rfl;rw[q]at k;have a:ed T N.at' (i+1)=if I5 T N.at' (ed T N.at' i) i=true then ed T N.at' i++[rea T T.lits[i]]else ed T N.at' i:=by rw[ed,n]
  have u:I5 T N.at' (ed T N.at' i) i=(decide (0<(lk N.at' (i:Int)).getD 0)&&!decide (rea T T.lits[i]∈ed T N.at' i)):=by unfold I5;rw[n];rfl
  have f:=jo (ed T N.at' i) (rea T T.lits[i]) (by omega);simp[h,tG];refine ai.intro (aK T.lits[i]) ?_;simp;refine ai.intro k ?_;simp;refine bf.intro (λ_=>f) ?_
  by_cases d:0<(lk N.at' (i:Int)).getD 0∧¬rea T T.lits[i]∈ed T N.at' i
  .rw[SX (by rw[u];simp[d])]at a;simp[d];refine⟨by omega,i+1,by(try dsimp only);omega,by(try dsimp only);omega,ah.to (by simp[o,a,ae]) (by simp[tG]) (by simp) (by simp) (by simp[dR])⟩
  .rw[SU (by rw[u];simpa using d)]at a;simp[d];refineλ_=>⟨i+1,by(try dsimp only);omega,by(try dsimp only);omega,ah.to (by simp[o,a]) (by simp[tG]) (by simp) (by simp) (by simp[dR])⟩
 have g:i=T.lits.length:=by omega
 subst g;have f:=jo (ed T N.at' T.lits.length) con (by omega);unfold rH;generalize ed T N.at' T.lits.length=O at*;simp;refine ai.intro f ?_
 by_cases d:con∈O
 .simp[d,bB,bc]
 .simp[d,bB,bc,ae];omega
end Go.AX
namespace Go.AX
set_option maxRecDepth 16000
open Go.Proofs
theorem zQ(T:Tr)(out:List Int):∀i,(cB T out i).2.1<=i∧((cB T out i).2.1=0∨(cB T out i).2.2<i)∧(cB T out i).2.2<=i
 |0=>⟨SY _,.inl rfl,SY _⟩
 |i+1=>by
  have a:=zQ T out i;rw[cB];split
  .exact⟨by dsimp only;omega,.inr (by dsimp only;omega),by dsimp only;omega⟩
  .split
   .refine⟨by dsimp only;omega,?_,by dsimp only;omega⟩;dsimp only;rename_i c1 c2;rcases a.2.1 with e|e
    .exact .inr (by omega)
    .exact .inr (by omega)
   .exact⟨by omega,a.2.1.imp id (λe=>by omega),by omega⟩
theorem F9(T:Tr)(lits:List Int)(ht:T.ok)(y:lits.length<=1000000):aj Tryz.prog 163 [bN T,.seq false 1 (ae lits)] (λr=>r=.own true 1 (ae (IU T lits))):=by
 refine ap aD Tryz.func163 ?_;have w:=LA lits y;have z:=FO lits;unfold IU IT;generalize eG lits=out at*;simp;refine ai.intro w ?_;simp;refine ax.intro (S:=λ(i:Nat)=>⟨[(0,.pv (bN T)),(5,.own true 1 (ae out)),(6,.pv (ab (cB T out i).1)),(7,.pv (ab (cB T out i).2.1)),(8,.pv (ab (cB T out i).2.2)),(15,.al (.slot 5)),(16,.pv (ab out.length)),(17,.pv (ab i))],[]⟩) (λi=>i<=out.length) (λi=>out.length -i) 0 ?_ (Tf _) ?_
 .exact ah.to (by simp[cB]) (by simp) (by simp) (by simp) (by simp)
 intro i hi;obtain⟨t,v,a3⟩:=zQ T out i
 by_cases h:i<out.length
 .have f:=dv i;have k:out.getD i 0=out[i]:=by rw[SS,SR h];rfl
  have m:=fH T (af out[i]) ht;have a:cB T out (i+1)=if(cB T out i).1<(dw T (af out[i])).1.lev then((dw T (af out[i])).1.lev,1,i)else if(dw T (af out[i])).1.lev=(cB T out i).1 then((cB T out i).1,(cB T out i).2.1+1,(cB T out i).2.2)else cB T out i:=by rw[cB,k];rfl
  have p:=dv ((cB T out i).2.1);simp[h];refine ai.intro (aK out[i]) ?_;simp;refine ai.intro m ?_
  by_cases c1:(cB T out i).1<(dw T (af out[i])).1.lev
  .rw[SX c1]at a;simp[c1];refine⟨i+1,by(try dsimp only);omega,by(try dsimp only);omega,ah.to (by simp[f,a]) (by simp) (by simp) (by simp) (by simp)⟩
  rw[SU c1]at a
  by_cases c2:(dw T (af out[i])).1.lev=(cB T out i).1
  .rw[SX c2]at a;simp[c1,c2];refine⟨i+1,by(try dsimp only);omega,by(try dsimp only);omega,ah.to (by simp[f,a,p]) (by simp) (by simp) (by simp) (by simp)⟩
  .rw[SU c2]at a;simp[c1,c2];refine⟨i+1,by(try dsimp only);omega,by(try dsimp only);omega,ah.to (by simp[f,a]) (by simp) (by simp) (by simp) (by simp)⟩
 have l:i=out.length:=by omega
 subst l;clear hi h;generalize cB T out out.length=s at*;obtain⟨top,many,at'⟩:=s;dsimp only at t v a3⊢
 by_cases c:many=1
 rotate_left
 .have c':¬(many:Int)=1:=by omega
  simp[c,c']
 subst c;have b:at'<out.length:=by omega
 have k:out.getD at' 0=out[at']:=by rw[SS,SR b];rfl
 have f:=dv (at');simp only[SX,k];simp[b,f];have d:(out.take at'++out.drop (at'+1)++List.replicate (at'+1 -at') 0).length=out.length:=by simp;omega
 have g:out.length -(at'+1 -at')=out.length -1:=by omega
 have q:=zP Tryz.dlaA out at' (at'+1) (by omega) (by omega) (by kernel_rfl);rw[g]at q;refine ai.introX (bE.introW (ps:=.slot 5) (hi:=out.length) q d (by omega) (λe=>by rw[e]at b;simp at b) (by simp) rfl rfl (by simp) (by simp) rfl (by simp) (by simp) ?_);have n:(out.take at'++out.drop (at'+1)).length=out.length -1:=by simp;omega
 have o:(out.take at'++out.drop (at'+1)++List.replicate (at'+1 -at') 0).take (out.length -1)=out.eraseIdx at':=by
  rw[UY n,List.eraseIdx_eq_take_drop_succ]
 have j:(out.take at'++out.drop (at'+1)++List.replicate (at'+1 -at') 0).drop (out.length -1+1)=[]:=Tq (by rw[d];omega);generalize out.take at'++out.drop (at'+1)++List.replicate (at'+1 -at') 0=dl at*;generalize out[at']=u at*;simp;refine ai.introX (bE.introI (ps:=.slot 5) (py:=.slot 51) (hi:=out.length -1) (zs:=dl) (x:=u) Tryz.insA (by kernel_rfl) (by simp) rfl rfl (by simp) (by simp) (by simp) (by simp) (by simp) (by simp) rfl (by decide) rfl (by omega) ?_);rw[o,j];simp;exact TT (by rw[gC,Ty,List.length_eraseIdx_of_lt b];omega)
def N5(A:Ar)(T:Tr):List SV:=[.pv (kw A),.pv (bN T),.omap true (aZ fI []),.pv (.lit (.slice none 0 0)),.pv (ab 0)]
theorem Ga(A:Ar)(T:Tr)(q but:Int)(ht:T.ok)(h0:A.hd≠[])(hk:j0 A)(m:A.row.length<=1000000):
 aA Tryz.prog 161 [.ptr 0 0,ab q,ab but] [N5 A T] (λr h'=>h'=[i7 A T (dt T but (av A q) ⟨[],[],0⟩)]∧r=.pv (.tup [])):=by
 obtain⟨p,hp⟩:∃p:PS,p=⟨[],[],0⟩:=⟨_,rfl⟩;rw[←hp];have o:p.many=0:=by rw[hp]
 have n:p.lits.length=0:=by rw[hp];rfl
 refine ic [] [] [i7 A T (dt T but (av A q) p)] (by simp) (λ_=>⟨aR _ _ _ _,trivial⟩) aD Tryz.func161 ?_;have l:=j7 A h0 hk m q;have t:=fM A hk q;generalize av A q=c at*;simp[N5];refine ai.intro l ?_;simp;refine ax.intro (S:=λ(i:Nat)=>⟨[(0,.pv (.ptr 0 0)),(2,.pv (ab but)),(6,.pv (.fn (.func 170) [bN T] [])),(20,.own true 1 (ae c)),(21,.pv (ab c.length)),(22,.pv (ab i))],[i7 A T (dt T but (c.take i) p)]⟩) (λi=>i<=c.length) (λi=>c.length -i) 0 ?_ (Tf _) ?_
 .exact(ah.nilCell (b:=0) (k:=3) (xs:=N5 A T) 1 true (by simp[N5]) (by simp[N5])).trans (ah.to (by simp) (by simp[i7,N5,dt,hp,ae]) (by simp) (by simp) (by simp[aR]))
 intro i hi
 by_cases h:i<c.length
 rotate_left
 .have g:i=c.length:=by omega
  subst g;simp[i7,fX]
 have f:=dv i;have hs:=tD T but c p h;have hle:=j9 T but (c.take i) p;rw[S6]at hle;generalize dt T but (c.take i) p=s at*;have d:=fH T (af c[i]) ht;simp[h,i7];refine ai.intro (aK c[i]) ?_;simp;refine bf.intro (λ_=>d) ?_
 by_cases c1:af c[i]=but
 .have hd:takeF T but s c[i]=s:=by unfold takeF;rw[SX (.inl c1)]
  simp[c1];refine⟨i+1,by(try dsimp only);omega,by(try dsimp only);omega,ah.to (by simp[f]) (by simp[i7,hs,hd]) (by simp) (by simp) (by simp[aR])⟩
 by_cases c2:0<(lk s.seen (af c[i])).getD 0
 .have hd:takeF T but s c[i]=s:=by unfold takeF;rw[SX (.inr (.inl (by simpa[aB]using c2)))]
  simp[c1,c2];refine⟨i+1,by(try dsimp only);omega,by(try dsimp only);omega,ah.to (by simp[f]) (by simp[i7,hs,hd]) (by simp) (by simp) (by simp[aR])⟩
 have a:(lk s.seen (af c[i])).getD 0<=0:=by omega
 by_cases c3:(dw T (af c[i])).1.lev<=0
 .have hd:takeF T but s c[i]=s:=by unfold takeF;rw[SX (.inr (.inr c3))]
  simp[c1,c2,a,c3];refine⟨i+1,by(try dsimp only);omega,by(try dsimp only);omega,ah.to (by simp[f]) (by simp[i7,hs,hd]) (by simp) (by simp) (by simp[aR])⟩
 have hd:takeF T but s c[i]=if(dw T (af c[i])).1.lev=T.beg.length then⟨pt s.seen (af c[i]) 1,s.lits,s.many+1⟩else⟨pt s.seen (af c[i]) 1,s.lits++[c[i]],s.many⟩:=by
  unfold takeF;rw[SU]
  .rfl
  rintro(e|e|e)
  .exact c1 e
  .exact c2 (by simpa[aB]using e)
  .exact c3 e
 simp[c1,c2,a,c3];refine bz.intro d ?_;simp;refine bz.intro (ny T) ?_
 by_cases c4:(dw T (af c[i])).1.lev=T.beg.length
 .rw[SX c4]at hd;have j:=dv s.many;simp[c4];refine⟨i+1,by(try dsimp only);omega,by(try dsimp only);omega,ah.to (by simp[f]) (by simp[i7,hs,hd,j]) (by simp) (by simp) (by simp[aR])⟩
 .rw[SU c4]at hd;simp[c4];refine⟨by omega,i+1,by(try dsimp only);omega,by(try dsimp only);omega,ah.to (by simp[f]) (by simp[i7,hs,hd,ae]) (by simp) (by simp) (by simp[aR])⟩
def lH(A:Ar)(T:Tr)(con:Int):Int:=if gn A con=0 then 20 else if oT T (av A con)=false then 30 else 0
def qC(A:Ar)(T:Tr)(con:Int):List Int:=if lH A T con=0 then dr A T con else[]
end Go.AX
namespace Go.AX
open Go.Proofs
structure DeskI (cs:List (List Int)) (ats:List Int) (D:DK):Prop extends DeskT cs ats D where
  id:∀x∈D.a.rows,1<=x.id
/-! ### What was gathered -/
structure NI (D:DK) (L:List Int) (s:NS):Prop where
  val:∀p,0<=(lk s.at' p).getD 0
  mem:∀p,aB s.at' p=true->∃j,∃hj:j<D.t.rows.length,p=(j:Int)∧0<=D.t.rows[j].rea∧-D.t.rows[j].l∉L
def Met(D:DK)(L:List Int)(s:NS)(y:Int):Prop:=y∈L∨∃j,∃hj:j<D.t.rows.length,D.t.rows[j].l=-y∧aB s.at' j=true
structure Post (D:DK) (L:List Int) (s s':NS) (c:List Int) (but:Int):Prop where
  ni:NI D L s'
  mono:∀p,aB s.at' p=true->aB s'.at' p=true
  all:s'.ok=true->s.ok=true∧(∀y∈c,y≠but->Met D L s' y)∧∀j (hj:j<D.t.rows.length),aB s'.at' j=true->aB s.at' j=false->∀y∈av D.A D.t.rows[j].rea,y≠D.t.rows[j].l->Met D L s' y
  ok:(∀y∈c,y≠but->HOk D.A D.T L y)->s'.ok=s.ok
theorem Met.mono{D:DK}{L:List Int}{s s':NS}{y:Int}(h:Met D L s y)(c:∀p,aB s.at' p=true->aB s'.at' p=true):Met D L s' y:=
 h.imp id λ⟨j,hj,a,b⟩=>⟨j,hj,a,c _ b⟩
def eV(l:List Int):List (List Int)->Nat->List Int×Nat×Int
 |[],n=>(l,n,23)
 |h::hs,n=>if zy l h=-1 then(l,n+1,0)else if(cY l h).2=true then eV (l++[(cY l h).1]) hs (n+1)else([],n,22)
def jx(c:List Int):Nat->List Int
 |0=>[]
 |i+1=>if c.getD i 0∈c.take i then jx c i else jx c i++[aX (-(c.getD i 0))]
theorem vV(c:List Int)(x:Int):∀i,i<=c.length->(x∈jx c i↔∃y∈c.take i,x=aX (-y))
 |0,_=>by simp[jx]
 |i+1,h=>by
  have b:=vV c x i (by omega);have d:c.getD i 0=c[i]:=by rw[SS,SR (by omega)];rfl
  have ht:c.take (i+1)=c.take i++[c[i]]:=(U7 (by omega)).symm;rw[jx,d,ht]
  by_cases e:c[i]∈c.take i
  .rw[SX e,b];constructor
   .rintro⟨y,hy,a⟩;exact⟨y,Up _ hy,a⟩
   .rintro⟨y,hy,a⟩;rcases Te.1 hy with hy|hy
    .exact⟨y,hy,a⟩
    .simp at hy;subst hy;exact⟨_,e,a⟩
  .rw[SU e,Te,b,TA];constructor
   .rintro(⟨y,hy,a⟩|a)
    .exact⟨y,Up _ hy,a⟩
    .exact⟨_,U9 _ (TA.2 rfl),a⟩
   .rintro⟨y,hy,a⟩;rcases Te.1 hy with hy|hy
    .exact .inl ⟨y,hy,a⟩
    .simp at hy;subst hy;exact .inr a
def gm(c:List Int):List Int:=jx c c.length
theorem pP(c:List Int)(x:Int):x∈gm c↔∃y∈c,x=aX (-y):=by
 have:=vV c x c.length (SY _)
 rwa [Tw]at this
def AllNeg(D:DK)(L:List Int):Prop:=∀y∈L,aw y 6=0∧∃j,∃hj:j<D.t.rows.length,D.t.rows[j].l=-y
def rj(D:DK)(j:Nat):Int:=rea D.T (D.T.lits.getD j 0)
theorem gD{t:RT}{j:Nat}(hj:j<t.rows.length):t.rows[j].l∈dL t:=S8.2 ⟨_,S5 hj,rfl⟩
def Gb(s:NS)(i:Nat):List Nat:=(List.range i).filter λj=>aB s.at' j
theorem I7(s:NS)(i:Nat):Gb s (i+1)=if aB s.at' i=true then Gb s i++[i]else Gb s i:=by
 unfold Gb;rw[VX,Uu]
 by_cases c:aB s.at' i=true
 .rw[SX c,TO,SX c];rfl
 .rw[SU c,TO,SU c];simp
theorem xO(s:NS)(i j:Nat):j∈Gb s i↔j<i∧aB s.at' j=true:=by
 unfold Gb;rw[TJ,Ug]
structure CInv (D:DK) (L:List Int) (s:NS) (l:List Int) (js:List Nat):Prop where
  sub:∀x∈l,x∈dL D.t
  neg:∀y∈L,-y∈l
  don:∀j (hj:j<D.t.rows.length),aB s.at' j=true->j∉js->D.t.rows[j].l∈l
  todo:∀j∈js,∃hj:j<D.t.rows.length,aB s.at' j=true∧D.t.rows[j].l∉l
  inc:js.Pairwise (·<·)
end Go.AX
namespace Go.AX
set_option maxRecDepth 16000
open Go.Proofs
def Gc(l h:List Int):List Int×Bool×Int:=if zy l h=-1 then(l,true,0)else if(cY l h).2=true then(l++[(cY l h).1],false,0)else([],false,22)
theorem zR(g:List (List SV))(l h:List Int)(b:l.length<=1000000)(a:h.length<=1000000):aA Tryz.prog 327 [.seq false 1 (ae l),.seq false 1 (ae h)] g (λr g'=>g'=g∧r=.pv (.tup [.seq false 1 (ae (Gc l h).1),BL (Gc l h).2.1,ab (Gc l h).2.2])):=by
 refine d7 [] [.tmp 4,.tmp 5,.tmp 6] aD Tryz.func327 ?_;have c:=xG l h b a;have d:=Cd l h b a;unfold Gc;simp;refine ai.intro c ?_
 by_cases c1:zy l h=-1
 .simp[c1,bB,bc]
 simp[c1];refine ai.intro d ?_;cases c2:(cY l h).2
 .simp[c2,bB,bc,ae]
 .simp[c2,bB,bc,ae];omega
theorem zS(hs:List (List Int)){i:Nat}(h:i<hs.length):∀h',(hs.map aq)[i]'h'=[.seq false 1 (ae hs[i])]:=λh'=>by simp[aq]
theorem lI(g:List (List SV))(l:List Int)(hs:List (List Int))(p:l.length+hs.length<=1000000)(o:∀h∈hs,h.length<=1000000):aA Tryz.prog 309 [.seq false 1 (ae l),.seq false 1 (hs.map aq)] g (λr g'=>g'=g∧r=.pv (.tup [.seq false 1 (ae (eV l hs 0).1),ab (eV l hs 0).2.1,ab (eV l hs 0).2.2])):=by
 refine d7 [] [.tmp 4,.tmp 5,.tmp 6] aD Tryz.func309 ?_;generalize a:eV l hs 0=F;simp;refine ax.intro (S:=λ(x:Nat×List Int)=>⟨[(0,.pv (.seq false 1 (ae x.2))),(1,.pv (.seq false 1 (hs.map aq))),(7,.pv (ab x.1))],g⟩) (λx=>x.1<=hs.length∧x.2.length<=l.length+x.1∧F=eV x.2 (hs.drop x.1) x.1) (λx=>hs.length -x.1) (0,l) ?_ ⟨Tf _,SY _,a.symm⟩ ?_
 .exact ah.keep (by simp) (by simp)
 clear a;rintro⟨i,b⟩ ⟨hi,k,a⟩;dsimp only at hi k a
 by_cases h:i<hs.length
 rotate_left
 .have j:i=hs.length:=by omega
  subst j;rw[Tq (SY _),eV]at a;subst a;simp[bB,bc]
 have n:=dv i;have f:hs.drop i=hs[i]::hs.drop (i+1):=TG h;rw[f,eV]at a;have m:=λg=>zR g b hs[i] (by omega) (o _ (S5 h));have e:=zS hs h;generalize hs[i]=c at*;have d:Gc b c=if zy b c=-1 then(b,true,0)else if(cY b c).2=true then(b++[(cY b c).1],false,0)else([],false,22):=rfl;generalize Gc b c=s at*;simp[h,e];refine ai.introM (m _) ?_;rintro _ _ ⟨rfl,rfl⟩
 by_cases c1:zy b c=-1
 .rw[SX c1]at a d;subst a d;simp[bB,bc,n]
 rw[SU c1]at a d
 by_cases c2:(cY b c).2=true
 .rw[SX c2]at a d;subst d;simp;refine⟨(i+1,b++[(cY b c).1]),by(try dsimp only);omega,⟨by(try dsimp only);omega,by simp;omega,a⟩,ah.keep (by simp[n]) (by simp)⟩
 .rw[SU c2]at a d;subst a d;simp[bB,bc,ae]
def I8(c:List Int):Bool:=c.any λx=>decide (aV x<0)
def mf(c:List Int):Int:=if I8 c=true then 10 else if eY c=true then 11 else 0
def Ge(c:List Int):List Int:=if mf c=0 then gm c else[]
theorem pQ(c:List Int):∀i,(jx c i).length<=i
 |0=>SY _
 |i+1=>by
  have:=pQ c i;rw[jx];split
  .omega
  .simp;omega
theorem pR(c:List Int)(q:c.length<=1000000):aj Tryz.prog 308 [.seq false 1 (ae c)] (λr=>r=.pv (.tup [.seq true 1 (ae (Ge c)),ab (mf c)])):=by
 refine aj.wk (R:=λr=>∃x,r=.pv x∧bB x (.tup [.seq true 1 (ae (Ge c)),ab (mf c)])) ?_ (λr ⟨x,e,h⟩=>⟨x,_,e,h,rfl⟩);refine iO [] [.tmp 2,.tmp 3] aD Tryz.func308 ?_;have b:mf c=if I8 c=true then 10 else if eY c=true then 11 else 0:=rfl;have f:Ge c=if mf c=0 then gm c else[]:=rfl;have n:=oF c q;generalize Ge c=R at*;generalize mf c=E at*;simp;refine ax.intro (S:=λ(i:Nat)=>⟨[(0,.pv (.seq false 1 (ae c))),(4,.pv (ab i))],[]⟩) (λi=>i<=c.length∧∀j (h:j<c.length),j<i->0<=aV c[j]) (λi=>c.length -i) 0 ?_ ⟨Tf _,λj _ h=>by omega⟩ ?_
 .exact ah.to (by simp) (by simp) (by simp) (by simp) (by simp)
 rintro i ⟨hi,ho⟩
 by_cases h:i<c.length
 .have k:=dv i;simp[h];refine ai.intro (dH c[i]) ?_
  by_cases c1:aV c[i]<0
  .have g:I8 c=true:=UL.2 ⟨_,S5 h,by simpa using c1⟩;rw[SX g]at b;subst b;rw[SU (by omega)]at f;subst f;simp[c1,bB,bc,ae]
  .simp[c1];refine⟨i+1,by(try dsimp only);omega,⟨by(try dsimp only);omega,λj hj p=>?_⟩,ah.to (by simp[k]) (by simp) (by simp) (by simp) (by simp)⟩
   by_cases e:j=i
   .subst e;omega
   .exact ho j hj (by omega)
 have d:i=c.length:=by omega
 subst d;have g:I8 c=false:=UE.2 λx hx=>by
  obtain⟨j,hj,rfl⟩:=Tc hx;have:=ho j hj hj;simp;omega
 rw[SU (by simp[g])]at b;clear ho g hi h;simp;refine ai.intro n ?_;cases c2:eY c
 rotate_left
 .rw[SX c2]at b;subst b;rw[SU (by omega)]at f;subst f;simp[bB,bc,ae]
 rw[SU (by simp[c2])]at b;subst b;rw[SX rfl]at f;subst f;simp;refine ax.intro (S:=λ(i:Nat)=>⟨[(0,.pv (.seq false 1 (ae c))),(5,.own true 1 (ae (jx c i))),(6,.pv (ab i))],[]⟩) (λi=>i<=c.length) (λi=>c.length -i) 0 ?_ (Tf _) ?_
 .exact(ah.nilOwn (s:=5) 1 true (by simp)).trans (ah.to (by simp[jx,ae]) (by simp) (by simp) (by simp) (by simp))
 intro i hi;have hle:=pQ c i
 by_cases h:i<c.length
 rotate_left
 .have d:i=c.length:=by omega
  subst d;simp[bB,bc,gm]
 have k:=dv i;have o:c.getD i 0=c[i]:=by rw[SS,SR h];rfl
 have a:jx c (i+1)=if c[i]∈c.take i then jx c i else jx c i++[aX (-c[i])]:=by rw[jx,o]
 have m:=jT (c.take i) c[i] (by simp;omega);have l:(ae c).take i=ae (c.take i):=by unfold ae;rw[UB]
 simp[h,l];refine⟨by omega,?_⟩;refine bz.intro m ?_
 by_cases c3:c[i]∈c.take i
 .rw[SX c3]at a;simp[c3];refine⟨i+1,by(try dsimp only);omega,by(try dsimp only);omega,ah.to (by simp[k,a]) (by simp) (by simp) (by simp) (by simp)⟩
 .rw[SU c3]at a;simp[c3,h];refine⟨by omega,i+1,by(try dsimp only);omega,by(try dsimp only);omega,ah.to (by simp[k,a,ae]) (by simp) (by simp) (by simp) (by simp)⟩
def rJ(c:List Int)(hs:List (List Int)):Nat×Int:=if mf c=0 then((eV (gm c) hs 0).2.1,(eV (gm c) hs 0).2.2)else(0,mf c)
theorem zT(c:List Int)(hs:List (List Int))(f:c.length+hs.length<=1000000)(e:∀h∈hs,h.length<=1000000):aj Tryz.prog 260 [.seq false 1 (ae c),.seq false 1 (hs.map aq)] (λr=>r=.pv (.tup [ab (rJ c hs).1,ab (rJ c hs).2])):=by
 refine mC [4,5] aD Tryz.func260 (λ_ _=>results_tmp2 rfl _ _ _) ?_;have d:=pR c (by omega);have hle:=pQ c c.length;have b:=λg=>lI g (gm c) hs (by unfold gm;omega) e;unfold rJ;have a:Ge c=if mf c=0 then gm c else[]:=rfl;simp;refine ai.intro d ?_
 by_cases c1:mf c=0
 .rw[SX c1]at a;rw[a];simp[c1];refine ai.introM (b _) ?_;rintro _ _ ⟨rfl,rfl⟩;simp
 .simp[c1]
end Go.AX
namespace Go.AX
open Go.Proofs
def Md(l:List Int)(x:Int):Int:=if x∈l then 1 else if aX (-x)∈l then-1 else 0
theorem xP(l:List Int)(x:Int):(0<(lk (cC l l.length) x).getD 0)=(x∈l):=by
 have:=tH l x l.length (SY _);rw[Tw]at this;unfold aB at this;rw[Th]at this;exact propext this
def Cr(n:Nat):PV:=.fn (.func 200) [] [.ptr n 0]
theorem Cs(l:List Int)(x:Int):aj Tryz.prog 200 [ab x,.iptr 1 [[.amap false (aZ fI (cC l l.length))]] 0 0] (λr=>r=.pv (ab (Md l x))):=by
 refine ap aD Tryz.func200 ?_;unfold Md
 by_cases c1:x∈l
 .simp[xP,c1]
 .by_cases c2:aX (-x)∈l
  .simp[xP,c1,c2]
  .simp[xP,c1,c2]
set_option maxRecDepth 16000 in
theorem Gf(h:List (List SV))(l:List Int)(g:l.length<=1000000):aA Tryz.prog 120 [.seq false 1 (ae l)] h (λr h'=>h'=h++[[.omap true (aZ fI (cC l l.length))]]∧r=.pv (Cr h.length)):=by
 refine aA.below (by kernel_rfl) λf=>?_;refine cQ [] [.tmp 2] aD Tryz.func120 ?_;simp;refine ax.intro (S:=λ(i:Nat)=>⟨[(3,.pv (.ptr h.length 0)),(9,.pv (.seq false 1 (ae l))),(10,.pv (ab l.length)),(11,.pv (ab i))],h++[[.omap true (aZ fI (cC l i))]]⟩) (λi=>i<=l.length) (λi=>l.length -i) 0 ?_ (Tf _) ?_
 .exact ah.keep (by simp) (by simp[cC])
 intro i hi
 by_cases c:i<l.length
 .have d:=dv i;have b:l.getD i 0=l[i]:=by simp[c]
  have hs:cC l (i+1)=pt (cC l i) l[i] ((lk (cC l i) l[i]).getD 0+1):=by rw[cC,b]
  have e:=pO l i l[i];have a:aX ((lk (cC l i) l[i]).getD 0+1)=(lk (cC l i) l[i]).getD 0+1:=ao (by omega) (by omega);simp[c];exact⟨i+1,by(try dsimp only);omega,by(try dsimp only);omega,ah.keep (by simp[d]) (by simp[a,hs])⟩
 .have:i=l.length:=by omega
  subst this;simp[Cr]
def lO(T:Tr):Tr:=⟨T.marks.set (af (T.lits.getD (T.lits.length -1) 0)).toNat ⟨0,0,0,0⟩,T.lits.take (T.lits.length -1),T.beg⟩
def popN(T:Tr):Nat->Tr
 |0=>T
 |j+1=>lO (popN T j)
def cw(T:Tr)(k:Nat):Tr:=⟨(popN T (T.lits.length -(T.beg.getD k 0).toNat)).marks,(popN T (T.lits.length -(T.beg.getD k 0).toNat)).lits,T.beg.take k⟩
set_option maxRecDepth 16000 in
theorem CO(h:List (List SV))(n b:Nat)(T:Tr)(hn:h[n]?=some [.pv (.ptr b 0)])(s:h[b]?=some (gA T))(h0:T.lits≠[])(hs:T.lits.length<=1000000)(D:∀y∈T.lits,0<=af y∧af y<T.marks.length):
 aA Tryz.prog 265 [.ptr n 0] h (λr h'=>h'=h.set b (gA (lO T))∧r=.pv (ab (T.lits.getD (T.lits.length -1) 0))):=by
 refine ic [] [.tmp 1] (h.set b (gA (lO T))) (by simp) (λd=>by rw[Tt];exact dI (iS _ _) b d) aD Tryz.func265 ?_;obtain⟨p,k⟩:=SQ.1 s;obtain⟨g,q⟩:=SQ.1 hn;obtain⟨m,B⟩:∃m,T.lits.length=m+1:=⟨T.lits.length -1,by have:=UG.2 h0;omega⟩;have a:m<T.lits.length:=by omega
 have C:aX ((T.lits.length:Int) -1)=(m:Int):=by rw[ao (by omega) (by omega)];omega
 have A:T.lits.getD (T.lits.length -1) 0=T.lits[m]:=by rw[B,VQ,SS,SR a];rfl
 rw[A];have w:n≠b:=λe=>by subst e;rw[hn]at s;simp[gA]at s
 have t:∀x,(h.set b x)[n]?=some [.pv (.ptr b 0)]:=λx=>by rw[Tj (VC w)];exact hn
 have c:∀x d,(h.set b x)[n]'d=[.pv (.ptr b 0)]:=λx d=>by have:=t x;rw[SR d]at this;exact VH this
 have l:∀x d,(h.set b x)[b]'d=x:=λx d=>by simp
 obtain⟨E,F⟩:=D _ (S5 a);have j:=aK T.lits[m];obtain⟨i,hi⟩:∃i:Nat,af T.lits[m]=(i:Int):=⟨(af T.lits[m]).toNat,by omega⟩;have u:i<T.marks.length:=by omega
 have v:(T.marks.map qg).set i [ab 0,ab 0,ab 0,ab 0]=(T.marks.set i ⟨0,0,0,0⟩).map qg:=by rw[XB];rfl
 have f:(ae T.lits).take m=ae (T.lits.take m):=by unfold ae;rw[UB]
 have z:lO T=⟨T.marks.set i ⟨0,0,0,0⟩,T.lits.take m,T.beg⟩:=by unfold lO;rw[A,hi,Uc,B,VQ]
 have o:m<=T.lits.length:=by omega
 rw[z];rw[hi]at j;simp[k,q,p,g,gA,C,c,l,a,o,f];refine bz.intro j ?_;simp[k,q,p,g,gA,C,c,l,a,o,f,u,v];rw[TT (by simp)];simp[qg]
theorem Gz(h:List (List SV))(b:Nat):
 aA Tryz.prog 211 [.ptr b 0] h (λr h'=>h'=h++[[.pv (.ptr b 0)]]∧r=.pv (.fn (.func 265) [] [.ptr h.length 0])):=by
 refine cQ [] [.tmp 2] aD Tryz.func211 ?_;simp
theorem ug(T:Tr):∀j,(popN T j).beg=T.beg
 |0=>rfl
 |j+1=>ug T j
theorem Eu(T:Tr):∀j,(popN T j).marks.length=T.marks.length
 |0=>rfl
 |j+1=>by rw[popN];unfold lO;rw[Tt];exact Eu T j
theorem d6(T:Tr):∀j,(popN T j).lits=T.lits.take (T.lits.length -j)
 |0=>by rw[popN,Xf,Tw]
 |j+1=>by
  rw[popN];unfold lO;simp only;rw[d6 T j,XG,S6,show min (min (T.lits.length -j) T.lits.length -1) (T.lits.length -j)=T.lits.length -(j+1) by omega]
def uh(T:Tr):Nat->List Int
 |0=>[]
 |j+1=>uh T j++[(popN T j).lits.getD ((popN T j).lits.length -1) 0]
theorem ui(T:Tr):∀j,(uh T j).length=j
 |0=>rfl
 |j+1=>by rw[uh,Ta,ui T j];rfl
/-! ### Levels, in order, each once -/
theorem AB{zs:List Int}(hs:zs.Pairwise (·<=·)):∀j,j<=zs.length->(aL zs j).Pairwise (·<·)∧∀x,x∈aL zs j↔x∈zs.take j
 |0,_=>⟨by simp[aL],λx=>by simp[aL]⟩
 |j+1,h=>by
  obtain⟨h1,b⟩:=AB hs j (by omega);have f:zs.getD j 0=zs[j]:=by simp[show j<zs.length by omega]
  rw[aL,f,TW,SR (by omega),UO];have hp:=TB.1 hs
  by_cases d:j=0∨zs[j]≠zs.getD (j -1) 0
  .rw[SX d];refine⟨VB.2 ⟨h1,by simp,λy hy z hz=>?_⟩,λx=>by rw[Te,Te,b]⟩;rw[TA]at hz;subst hz;obtain⟨k,hk,rfl⟩:=Tc ((b y).1 hy);rw[S6]at hk;rw[Uh];rcases d with rfl|d
   .omega
   .have a:zs.getD (j -1) 0=zs[j -1]:=by simp[show j -1<zs.length by omega]
    rw[a]at d;have i:zs[k]<=zs[j -1]:=by
     by_cases e:k=j -1
     .subst e;exact Vn _
     .exact hp k (j -1) (by omega) (by omega) (by omega)
    have l:zs[j -1]<=zs[j]:=hp (j -1) j (by omega) (by omega) (by omega);omega
  .rw[SU d];refine⟨h1,λx=>?_⟩;rw[b,Te,TA];refine⟨.inl,λhx=>hx.elim id λe=>?_⟩;have hj:j≠0:=λe=>d (.inl e);have a:zs.getD (j -1) 0=zs[j -1]:=by simp[show j -1<zs.length by omega]
   have c:zs[j]=zs[j -1]:=Ts λg=>d (.inr (by rw[a];exact g));rw[e,c];exact Uj.2 ⟨j -1,by omega,rfl⟩
theorem AD(l:List Int):(cJ (dJ l)).Pairwise (·<·)∧∀x,x∈cJ (dJ l)↔x∈l:=by
 obtain⟨h1,a⟩:=AB (xI l) (dJ l).length (SY _);refine⟨h1,λx=>?_⟩;rw[Tw]at a;refine(a x).trans ?_;unfold dJ;exact(Va _ _).mem_iff
theorem EL{T:Tr}{L:List Int}{u:Int}{r:List Int}(e:L=u::r)(w:∀y∈L,cm T y≠0)(hp:∀y∈L,0<dQ T y)(m:∀y∈r,dQ T y<dQ T u):
 0<=eZ T L∧eZ T L<dQ T u∧∀y∈r,dQ T y<=eZ T L:=by
 have h:fN T L L.length=L.map (dQ T):=by
  unfold fN;rw[Tw,Uz.2 (λy hy=>by simpa using w y hy)]
 obtain⟨h1,b⟩:=AD (L.map (dQ T));unfold eZ I0;rw[h];have t:dQ T u∈cJ (dJ (L.map (dQ T))):=(b _).2 (S8.2 ⟨u,by rw[e];exact To,rfl⟩);have p:∀y∈r,dQ T y∈cJ (dJ (L.map (dQ T))):=λy hy=>(b _).2 (S8.2 ⟨y,by rw[e];exact Tl _ hy,rfl⟩);have o:∀x∈cJ (dJ (L.map (dQ T))),0<x∧x<=dQ T u:=λx hx=>by
  obtain⟨y,hy,rfl⟩:=S8.1 ((b x).1 hx);refine⟨hp y hy,?_⟩;rw[e]at hy;rcases Tx.1 hy with rfl|hy
  .exact Vn _
  .have:=m y hy;omega
 generalize cJ (dJ (L.map (dQ T)))=C at*;have a:=TB.1 h1;obtain⟨i,hi,v⟩:=Tc t;have f:i=C.length -1:=by
  refine Ts λk=>?_;have:=a i (C.length -1) hi (by omega) (by omega);have:=(o _ (S5 (show C.length -1<C.length by omega))).2;omega
 have l:=hp u (by rw[e];exact To);split
 .rename_i g;refine⟨Vn _,l,λy hy=>?_⟩;obtain⟨j,hj,n⟩:=Tc (p y hy);have d:j=i:=by omega
  subst d;have:=m y hy;omega
 .rename_i g;have c:C.getD (C.length -2) 0=C[C.length -2]:=by rw[SS,SR (by omega)];rfl
  rw[c];have s:=o _ (S5 (show C.length -2<C.length by omega));refine⟨by omega,?_,λy hy=>?_⟩
  .have:=a (C.length -2) i (by omega) hi (by omega);omega
  .obtain⟨j,hj,n⟩:=Tc (p y hy);have k:j≠i:=λe=>by subst e;have:=m y hy;omega
   by_cases q:j=C.length -2
   .subst q;omega
   .have:=a j (C.length -2) hj (by omega) (by omega);omega
/-! ### Where levels begin -/
/-! ### Back -/
/-! ### What is left stands for what was there -/
theorem GK{A:Ar}{T:Tr}{R S:List Int}(h:∀x∈R,HOk A T S x){y:Int}(hy:HOk A T R y):HOk A T S y:=by
 induction hy with
 |stop d=>exact h _ d
 |why a b c _ e=>exact .why a b c e
theorem ME(A:Ar)(T:Tr)(L:List Int):(qA A T L).Sublist L:=IR A T L
theorem Ki(A:Ar)(T:Tr)(u:Int)(r:List Int):∃a,qA A T (u::r)=u::a∧∀y∈a,y∈r:=by
 refine⟨bk (gV A T (u::r)) r,by unfold qA;rfl,λy hy=>?_⟩;unfold bk at hy;exact(TJ.1 hy).1
theorem back_mem{T:Tr}{L:List Int}{u:Int}{r:List Int}(e:L=u::r)(d:∀y∈L,cm T y≠0)(hp:∀y∈L,0<dQ T y)(h:∀y∈r,dQ T y<dQ T u):
 eZ T L=0∨∃y∈r,eZ T L=dQ T y:=by
 obtain⟨_,b1,_⟩:=EL e d hp h;have b:fN T L L.length=L.map (dQ T):=by
  unfold fN;rw[Tw,Uz.2 (λy hy=>by simpa using d y hy)]
 obtain⟨_,g⟩:=AD (L.map (dQ T));unfold eZ I0 at b1⊢;rw[b]at b1⊢;split at b1
 .rename_i c;rw[SX c];exact .inl rfl
 .rename_i c;rw[SU c];right;generalize i:cJ (dJ (L.map (dQ T)))=C at*;have a:C.getD (C.length -2) 0=C[C.length -2]:=by rw[SS,SR (by omega)];rfl
  rw[a]at b1⊢;obtain⟨y,hy,f⟩:=S8.1 ((g _).1 (S5 (show C.length -2<C.length by omega)));refine⟨y,?_,f.symm⟩;rw[e]at hy;rcases Tx.1 hy with rfl|hy
  .omega
  .exact hy
/-! ### What is shown holds -/
theorem lQ{m:List Bool}{x:Int}(h:ij m x=true):cF x=true∧0<=aV x:=by
 have hk:cF x=true:=by
  rw[aY];unfold ij at h;simp only[S9,Th]at h;have h1:=h.1;unfold b8 at h1;split at h1
  .omega
  .split at h1
   .omega
   .exact absurd rfl h1
 refine⟨hk,?_⟩;have:=(aY x).1 hk;unfold aV c9;rw[SX hk];split<;>omega
theorem Kj{m:List Bool}{x:Int}(h:ij m x=true):ij m (-x)=false:=by
 obtain⟨hk,_⟩:=lQ h;have b:=(aY x).1 hk;unfold ij b8 at*
 by_cases c:0<x
 .rw[SX (by omega)]at h;rw[SU (by omega),SX (by omega)];simp only[Vc]at h⊢
  revert h
  cases a:(decide (x<=(m.length:Int))&&m.getD (x -1).toNat false)<;>simp
 .rw[SU (by omega),SX (by omega)]at h;rw[SX (by omega)];simp only at h⊢
  revert h
  cases a:(decide (-x<=(m.length:Int))&&m.getD (-x -1).toNat false)<;>simp
theorem Kk{m:List Bool}{x:Int}(hk:cF x=true)(h:ij m x=false):ij m (-x)=true:=by
 have b:=(aY x).1 hk;unfold ij b8 at*
 by_cases c:0<x
 .rw[SX (by omega)]at h;rw[SU (by omega),SX (by omega)];simp only[Vc]at h⊢
  revert h
  have:x≠0:=by omega
  cases a:(decide (x<=(m.length:Int))&&m.getD (x -1).toNat false)<;>simp[this]
 .rw[SU (by omega),SX (by omega)]at h;rw[SX (by omega)];simp only at h⊢
  revert h
  have:-x≠0:=by omega
  cases a:(decide (-x<=(m.length:Int))&&m.getD (-x -1).toNat false)<;>simp[this]
theorem MF{l:List Int}{x:Int}(h:bK l x=-1):aX (-x)∈l:=by
 unfold bK at h;split at h
 .omega
 .split at h
  .omega
  .split at h
   .assumption
   .omega
theorem EM{m:List Bool}{l:List Int}(a:∀y∈l,ij m y=true){x:Int}(hx:ij m x=true):bK l x≠-1:=λe=>by
 have h1:=MF e;obtain⟨hk,_⟩:=lQ hx;have b:=(aY x).1 hk;rw[ao (by omega) (by omega)]at h1;have:=a _ h1;rw[Kj hx]at this;cases this
theorem CV{m:List Bool}{l c:List Int}(o:c.length<=1000000)(n:∀y∈l,ij m y=true)(k:cI c m=true)(f:(cY l c).2=true):ij m (cY l c).1=true:=by
 obtain⟨y,hy,a⟩:=UL.1 k;have j:=oO l c 0 0 0 (by omega) (by omega) (by omega);have h:G6 l c=(((0+j8 l c 1:Nat):Int),((0+j8 l c (-1):Nat):Int),((0+(gk l c).length:Nat):Int)):=j;have h0:j8 l c 1=0∧(gk l c).length=1∧(cY l c).1=c.foldl (Cc l) 0:=by
  unfold cY at f⊢;rw[h]at f⊢;split at f
  .cases f
  .rename_i hn;rw[SU hn];simp only[ne_eq,Xy,Decidable.not_not]at hn;exact⟨by omega,by omega,rfl⟩
 obtain⟨g,i,a3⟩:=h0;obtain⟨u,b⟩:∃u,gk l c=[u]:=Vs.1 i;rw[xK,b]at a3;have d:y∈gk l c:=by
  unfold gk;rw[TJ];refine⟨hy,?_⟩;rw[Th];refine⟨(lQ a).2,λe=>?_,EM n a⟩;unfold j8 at g;rw[UM,US]at g;exact g y hy (by simpa using e)
 rw[b,TA]at d;rw[a3,←d];exact a
theorem wA{m:List Bool}:∀(hs:List (List Int))(l:List Int)(n:Nat),(∀c∈hs,c.length<=1000000)->(∀y∈l,ij m y=true)->(∀c∈hs,cI c m=true)->(eV l hs n).2.2=0->False
 |[],l,n,_,_,_,h=>by simp[eV]at h
 |c::hs,l,n,f,e,d,h=>by
  rw[eV]at h;split at h
  .rename_i h1;obtain⟨y,hy,b⟩:=UL.1 (d c To);exact EM e b (mQ.1 h1 y hy (lQ b).2)
  .split at h
   .rename_i g;have i:=CV (f c To) e (d c To) g;refine wA hs _ _ (λc a=>f c (Tl _ a)) (λy hy=>?_) (λc a=>d c (Tl _ a)) h;rcases Te.1 hy with hy|hy
    .exact e y hy
    .rw[TA]at hy;rw[hy];exact i
   .simp at h
end Go.AX
namespace Go.AX
set_option maxRecDepth 16000
open Go.Proofs
theorem Om(k m:Nat)(h:2^k*(2*m+1)<=1000000000):bits .and IntKind.i64 ((2^k*(2*m+1):Nat):Int) (-((2^k*(2*m+1):Nat):Int))=((2^k:Nat):Int):=by
 have e:=Lib.and_neg 64 k m (by omega);have hp:0<2^k*(2*m+1):=Nat.mul_pos (Nat.pow_pos (by omega)) (by omega);have hle:2^k<=2^k*(2*m+1):=WB _ (by omega);generalize 2^k*(2*m+1)=a at*;have h1:(BitVec.ofInt 64 (a:Int)).toNat=a:=by
  rw[BitVec.ofInt_natCast,BitVec.toNat_ofNat];exact WW (by omega)
 have b:(BitVec.ofInt 64 (-(a:Int))).toNat=2^64 -a:=by
  rw[BitVec.toNat_ofInt];omega
 show IntKind.i64.wrap ((BitVec.ofInt 64 (a:Int)&&&BitVec.ofInt 64 (-(a:Int))).toNat:Int)=_;rw[BitVec.toNat_and,h1,b,e,IntKind.wrap_i64];omega
def G9(u v:Int):Prop:=∃k m:Nat,v=((2^k:Nat):Int)∧u=((2^k*(m+1):Nat):Int)
theorem G9.pos{u v:Int}(h:G9 u v):1<=v∧v<=u:=by
 obtain⟨k,m,rfl,rfl⟩:=h;have:0<2^k:=Nat.pow_pos (by omega);have:=WB (2^k) (show 0<m+1 by omega);omega
theorem G9.more{u v:Int}(h:G9 u v)(d:u<=1000000000)(b:bits .and IntKind.i64 u (-u)≠v):G9 u (v*2):=by
 obtain⟨k,m,rfl,rfl⟩:=h;obtain⟨c,a⟩:∃c,m+1=2*c∨m+1=2*c+1:=⟨(m+1)/2,by omega⟩;rcases a with a|a
 .refine⟨k+1,c -1,by rw[XT];omega,?_⟩;rw[show c -1+1=c by omega,a,XT,Nat.mul_assoc]
 .rw[a]at b d;exact absurd (Om k c (by omega)) b
theorem G9.one{u:Int}(a:1<=u):G9 u 1:=⟨0,(u -1).toNat,rfl,by simp;omega⟩
theorem E9(h:List (List SV))(g i:Nat)(u v:Int)(p:h[g]?=some [.pv (ab u)])(s:h[i]?=some [.pv (ab v)])(a:g≠i)(K:G9 u v)(q:u<=100000000):
 aA Tryz.prog 266 [.ptr i 0,.ptr g 0] h (λr h'=>r=.pv (ab v)∧∃m o,h'=(h.set g [.pv (ab m)]).set i [.pv (ab o)]∧G9 m o∧m<=u+1):=by
 refine cQ [] [.tmp 2] aD Tryz.func266 ?_;obtain⟨d,b⟩:=SQ.1 p;obtain⟨e,f⟩:=SQ.1 s;obtain⟨t,w⟩:=K.pos;have j:=ao (n:=-u) (by omega) (by omega);have k:=ao (n:=u+1) (by omega) (by omega);have l:=ao (n:=v*2) (by omega) (by omega);simp[d,e,b,f,j]
 by_cases c:bits .and IntKind.i64 u (-u)=v
 .simp[c,d,e,b,f,k,a,a.symm];exact⟨u+1,1,rfl,G9.one (by omega),Vn _⟩
 .simp[c,d,e,b,f,l,a,a.symm];refine⟨u,v*2,?_,K.more (by omega) c,by omega⟩;rw[←b,WQ]
theorem C5(h:List (List SV)):
 aA Tryz.prog 214 [] h (λr h'=>h'=h++[[.pv (ab 1)],[.pv (ab 1)]]∧r=.pv (.fn (.func 266) [] [.ptr (h.length+1) 0,.ptr h.length 0])):=by
 refine cQ [] [.tmp 0] aD Tryz.func214 ?_;simp
theorem Fa(c unit:Int)(m:0<=c∧c<=1000000)(o:1<=unit∧unit<=1000000):
 aj Tryz.prog 135 [ab c,ab unit] (λr=>∃a:Int,r=.pv (ab a)∧c<a):=by
 refine ap aD Tryz.func135 ?_;have c1:¬c<0:=by omega
 have c2:¬1000000<c:=by omega
 have c3:¬unit<1:=by omega
 have c4:¬1000000<unit:=by omega
 simp[c1,c2,c3,c4];refine ai.introM (C5 []) ?_;rintro _ _ ⟨rfl,rfl⟩;simp;refine am.intro (E9 [[.pv (ab 1)],[.pv (ab 1)]] 0 1 1 1 rfl rfl (by decide) (G9.one (by omega)) (by omega)) ?_;rintro _ _ ⟨rfl,u,v,rfl,K,hk⟩;have e:=ao (n:=unit) (by omega) (by omega);simp[e];refine ax.intro (S:=λ(x:Int×Int×Int)=>⟨[(0,.pv (ab c)),(1,.pv (ab unit)),(5,.pv (.fn (.func 266) [] [.ptr 1 0,.ptr 0 0])),(6,.pv (ab x.1))],[[.pv (ab x.2.1)],[.pv (ab x.2.2)]]⟩)
  (λx=>1<=x.1∧x.2.1<=x.1+1∧G9 x.2.1 x.2.2) (λx=>(c+1 -x.1).toNat) (unit,u,v) ?_ ⟨by omega,by dsimp only;omega,K⟩ ?_
 .exact ah.keep (by simp) rfl
 clear K hk u v;rintro⟨a,u,v⟩ ⟨h,b,K⟩;dsimp only at h b K
 by_cases d:a<=c
 .obtain⟨p,q⟩:=K.pos;have i:0<unit*v:=Int.mul_pos (by omega) (by omega);have j:unit*v<=1000000*1000001:=Int.mul_le_mul (by omega) (by omega) (by omega) (by omega);have f:=ao (n:=unit*v) (by omega) (by omega);have g:=ao (n:=a+unit*v) (by omega) (by omega);simp[d];refine am.intro (E9 [[.pv (ab u)],[.pv (ab v)]] 0 1 u v rfl rfl (by decide) K (by omega)) ?_;rintro _ _ ⟨rfl,k,l,rfl,K',hk⟩;simp[f,g];exact⟨(a+unit*v,k,l),by(try dsimp only);omega,⟨by(try dsimp only);omega,by(try dsimp only);omega,K'⟩,ah.keep (by simp) (by simp)⟩
 .simp[d];omega
end Go.AX