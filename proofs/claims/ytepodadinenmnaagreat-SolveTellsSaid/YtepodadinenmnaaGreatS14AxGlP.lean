/-
  Contracts: arenas; and what follows.
-/
import Derived.Test.YtepodadinenmnaaGreatS14AxRfA
import Derived.Test.YtepodadinenmnaaGreatS14AxRfD
import Derived.Test.YtepodadinenmnaaGreatAxLo
import Derived.Test.YtepodadinenmnaaGreatAxXW
import Derived.Test.YtepodadinenmnaaGreatS14AxDkP
import Derived.Test.YtepodadinenmnaaGreatS14AxRfB
import Derived.Test.YtepodadinenmnaaGreatAxDl
set_option linter.unusedSimpArgs false
namespace Go.AX
set_option maxRecDepth 8000
open Go.Proofs
structure Ar where
  row:List Int
  hd:List (Int×Int)
def ja(A:Ar):List SV:=[.own true 1 (ae A.row),.omap true (aZ fI A.hd)]
theorem tp(k:Nat)(A:Ar):cG k (ja A):=⟨aU k _,iE k _,trivial⟩
@[simp] theorem NZ(l:List Int):DB (ae l):=by
 unfold ae
 induction l with
 |nil=>trivial
 |cons x xs a=>exact⟨⟨trivial,trivial⟩,a⟩
def OX:List SV:=[.pv (.lit (.slice none 0 0)),.omap true []]
theorem LL(h:List (List SV)):aA Tryz.prog 65 [] h (λr h'=>h'=h++[OX]∧r=.pv (.ptr h.length 0)):=by
 refine mF aD Tryz.func65 ?_;simp[OX]
theorem pH(h:List (List SV))(b:Nat)(A:Ar)(d:h[b]?=some (ja A)):aA Tryz.prog 207 [.ptr b 0] h (λr h'=>h'=h∧r=.pv (BL true)):=by
 refine gy [] [.tmp 2] aD Tryz.func207 ?_;obtain⟨c,a⟩:=SQ.1 d;simp[a,c,ja]
def isA(A:Ar)(at':Int):Bool:=decide (0<(lk A.hd at').getD 0)
theorem Cb(h:List (List SV))(b:Nat)(A:Ar)(d:h[b]?=some (ja A))(at':Int):aA Tryz.prog 237 [.ptr b 0,ab at'] h (λr h'=>h'=h∧r=.pv (BL (isA A at'))):=by
 refine gy [] [.tmp 4] aD Tryz.func237 ?_;obtain⟨c,a⟩:=SQ.1 d;simp;refine am.intro (pH h b A d) ?_;rintro _ _ ⟨rfl,rfl⟩;simp[a,c,ja,isA]
structure AtOk (A:Ar) (p n:Nat):Prop where
  len:p+3+n<=A.row.length
  num:A.row.getD (p+1) 0=n
def dC(A:Ar)(p n:Nat):List Int:=(A.row.drop (p+3)).take n
theorem Iw(h:List (List SV))(b:Nat)(A:Ar)(g:h[b]?=some (ja A))(p n:Nat)(f:AtOk A p n)(m:A.row.length<=1000000000):
 aA Tryz.prog 239 [.ptr b 0,ab p] h (λr h'=>h'=h∧r=.loc (.cell b 0) (p+3) (p+3+n)):=by
 refine LK aD Tryz.func239 ?_;obtain⟨c,a⟩:=SQ.1 g;obtain⟨l,d⟩:=f;have h1:p+1<A.row.length:=by omega
 have e:A.row[p+1]=(n:Int):=by rw[←d,SS,SR h1];rfl
 have i:=dv p;have j:aX ((p:Int)+3)=((p+3:Nat):Int):=by rw[ao (by omega) (by omega)];omega
 have k:aX ((p:Int)+3+n)=(p:Int)+3+n:=ao (by omega) (by omega);simp[a,c,ja,i,j,k,h1,e];omega
theorem Ix(h:List (List SV))(b:Nat)(A:Ar)(e:h[b]?=some (ja A))(p n:Nat)(hi:isA A p=true)(i:AtOk A p n)(q:A.row.length<=1000000):
 aA Tryz.prog 160 [.ptr b 0,ab p] h (λr h'=>h'=h∧r=.pv (.seq false 1 (ae (dC A p n)))):=by
 refine d7 [] [.tmp 4] aD Tryz.func160 ?_;have l:=Iw h b A e p n i (by omega);obtain⟨c,a⟩:=SQ.1 e;obtain⟨o,j⟩:=i;have h1:p+1<A.row.length:=by omega
 have k:A.row[p+1]=(n:Int):=by rw[←j,SS,SR h1];rfl
 have m:=dv p;simp;refine am.intro (Cb h b A e p) ?_;rintro _ _ ⟨rfl,rfl⟩;simp[a,c,ja,m,h1,k,hi];refine⟨by omega,by omega,?_⟩;refine am.intro l ?_;rintro _ _ ⟨rfl,rfl⟩;have g:List.drop (p+3) (List.take (p+3+n) (ae A.row))=ae (dC A p n):=by
  unfold ae dC;rw[←UB,←VD,List.drop_take];congr 3;omega
 have d:(dC A p n).length=n:=by unfold dC;rw[S6,TN];omega
 have f:(ae (dC A p n)).take n=ae (dC A p n):=TT (by simp[d]);simp[a,c,ja,g,d,f,bB]
end Go.AX
namespace Go.AX
open Go.Proofs
structure RelA (A:Ar) (a:RA):Prop where
  size:a.size=A.row.length
  rows:∀x∈a.rows,∃p:Nat,x.at'=p∧AtOk A p x.lits.length∧dC A p x.lits.length=x.lits∧isA A p=true∧A.row.getD p 0=x.id
  is:∀q:Int,isA A q=true->∃x∈a.rows,x.at'=q
structure DK where
  A:Ar
  T:Tr
  a:RA
  t:RT
  con:Int
structure Gr where
  at':Int
  gl:Int
  wi:Int
  lo:Bool
deriving DecidableEq,Inhabited
def rE(x:Gr):List Value:=[.int .i64 x.at',.int .i64 x.gl,.int .i64 x.wi,.bool x.lo]
def lE(x:Gr):List PV:=[ab x.at',ab x.gl,ab x.wi,BL x.lo]
@[simp] theorem lF(k:Nat)(l:List Gr):bI k (l.map lE):=by
 induction l with
 |nil=>trivial
 |cons x xs a=>exact⟨⟨trivial,trivial,trivial,trivial,trivial⟩,a⟩
@[simp] theorem R2(l:List Gr):Bp (l.map lE):=by
 induction l with
 |nil=>trivial
 |cons x xs a=>exact⟨⟨trivial,trivial,trivial,trivial,trivial⟩,a⟩
@[simp] theorem QQ(r:Nat->Nat->PV)(l:List Gr):jN r (l.map lE)=l.map lE:=by
 rw[bP,TX];rfl
def Cf(a b:Gr):Bool:=decide (b.gl<a.gl)||(decide (a.gl=b.gl)&&(decide (b.wi<a.wi)||(decide (a.wi=b.wi)&&decide (a.at'<b.at'))))
theorem zD(a b:Gr):aj Tryz.prog 191 [.agg (lE a),.agg (lE b)] (λr=>r=.pv (BL (Cf a b))):=by
 refine ap aD Tryz.func191 ?_;unfold Cf
 by_cases c1:a.gl=b.gl
 .by_cases c2:a.wi=b.wi
  .simp[lE,c1,c2]
  .simp[lE,c1,c2]
 .simp[lE,c1]
def mO(x:Gr):Bool:=x.lo||decide (x.gl<=2)
theorem LM(x:Gr):aj Tryz.prog 186 [.agg (lE x)] (λr=>r=.pv (BL (mO x))):=by
 refine ap aD Tryz.func186 ?_;unfold mO;cases c:x.lo<;>simp[lE,c]
def LO(a b:Gr):Int:=if Cf a b=true then-1 else if Cf b a=true then 1 else 0
theorem LP(a b:Gr):aj Tryz.prog 190 [.agg (lE a),.agg (lE b)] (λr=>r=.pv (ab (LO a b))):=by
 refine ap aD Tryz.func190 ?_;have h1:=zD a b;have d:=zD b a;unfold LO;simp[lE]at h1 d⊢;refine ai.intro h1 ?_;cases c:Cf a b
 .simp;refine ai.intro d ?_;cases c2:Cf b a<;>simp
 .simp
theorem FR(l:List Gr)(c:l.length<=1000000):aj Tryz.prog 188 [.seq false 4 (l.map lE)] (λr=>r=.own true 4 (l.map lE)):=by
 refine aj.own0 (R:=λr=>r=.own true 4 (l.map lE)∨(l=[]∧r=.pv (.lit (.slice none 0 0)))) ?_ (λr h=>h.imp id λ⟨a,b⟩=>⟨b,true,4,by rw[a];rfl⟩);refine ap aD Tryz.func188 ?_;simp;cases l with
 |nil=>simp
 |cons x l=>simp at c⊢;omega
theorem FT(l:List Gr)(f:l.length<=1000000)(g:Nat)(p:Gr->Bool)
 (h:∀x,aj Tryz.prog g [.agg (lE x)] (λr=>r=.pv (BL (p x)))):aj Tryz.prog 253 [.seq false 4 (l.map lE),.fn (.func g) [] []] (λr=>r=.pv (ab (iP p l))):=by
 refine ap aD Tryz.func253 ?_;simp;refine ax.intro (S:=λ(i:Nat)=>⟨[(0,.pv (.seq false 4 (l.map lE))),(1,.pv (.fn (.func g) [] [])),(7,.pv (ab l.length)),(8,.pv (ab i))],[]⟩) (λi=>i<=l.length∧∀j (hj:j<l.length),j<i->p l[j]=false) (λi=>l.length -i) 0 ?_ ⟨Tf _,λj _ h=>by omega⟩ ?_
 .exact ah.to (by simp) rfl (by simp) (by simp) (by simp)
 .intro i ⟨hi,ho⟩
  by_cases c:i<l.length
  .have d:=dv i;have hx:=h l[i];simp[c,lE]at hx⊢;refine ai.intro hx ?_;cases a:p l[i]
   .simp;refine⟨i+1,by dsimp only;omega,⟨by omega,λj hj b=>?_⟩,ah.to (by simp[d,lE]) rfl (by simp) (by simp) (by simp)⟩
    by_cases e:j=i
    .subst e;exact a
    .exact ho j hj (by omega)
   .simp;rw[eU c ho a]
  .simp[c];rw[cM (λj hj=>ho j hj (by omega))]
end Go.AX
namespace Go.AX
open Go.Proofs Go.Sort
structure G3 where
  at':Int
  gl:Int
  wi:Int
deriving DecidableEq,Inhabited
def g3(x:G3):Gr:=⟨x.at',x.gl,x.wi,false⟩
def SE(x:Gr):G3:=⟨x.at',x.gl,x.wi⟩
def IB(a b:G3):Prop:=b.gl<a.gl∨a.gl=b.gl∧(b.wi<a.wi∨a.wi=b.wi∧a.at'<b.at')
instance (a b:G3):Decidable (IB a b):=by unfold IB;infer_instance
theorem Sm{p q r s t:Prop}[Decidable p][Decidable q][Decidable r][Decidable s][Decidable t][Decidable (p∨q∧(r∨s∧t))]:(decide p||(decide q&&(decide r||(decide s&&decide t))))=decide (p∨q∧(r∨s∧t)):=by
 by_cases h1:p<;>by_cases a:q<;>by_cases b:r<;>by_cases c:s<;>by_cases d:t<;>simp[h1,a,b,c,d]
theorem Ed(a b:G3):Cf (g3 a) (g3 b)=decide (IB a b):=Sm
def xH(a b:G3):Int:=LO (g3 a) (g3 b)
theorem LQ(a b:G3):xH a b<0↔IB a b:=by
 unfold xH LO;rw[Ed,Ed]
 by_cases h:IB a b
 .simp[h]
 .by_cases c:IB b a<;>simp[h,c]
theorem vP(a b:G3):ltOf xH a b=decide (IB a b):=by
 unfold ltOf;exact decide_eq_decide.2 (LQ a b)
theorem IC:SWO (ltOf xH):=by
 refine⟨λa=>?_,λa b c=>?_,λa b c=>?_⟩<;>simp only[vP,Th,Un]<;>simp only[IB]
 .omega
 .intro h1 d;omega
 .intro h1 d;omega
theorem LS{x y:G3}(h1:¬IB x y)(d:¬IB y x):x=y:=by
 obtain⟨a,b,c⟩:=x;obtain⟨e,b',c'⟩:=y;simp only[IB]at h1 d;simp only[G3.mk.injEq];omega
theorem IE:∀x y,(ltOf xH) x y=false->(ltOf xH) y x=false->x=y:=by
 intro x y;simp only[vP,Un];exact LS
def vQ(l:List G3):List G3:=l.mergeSort λx y=>!(ltOf xH) y x
theorem oM(l:List G3):(vQ l).Perm l:=Va _ _
def pK(l:List Gr):List G3:=(l.filter λx=>!mO x).map SE
theorem FU(l:List Gr):(pK l).map g3=l.filter λx=>!mO x:=by
 unfold pK;rw[TX]
 conv=>rhs;rw[←XV (l.filter λx=>!mO x)]
 apply UW;intro x hx;have:=(TJ.1 hx).2;obtain⟨a,b,c,d⟩:=x;simp[mO]at this;simp[g3,SE,this.1]
theorem IF(l:List Gr):(pK l).length<=l.length:=by
 unfold pK;rw[S7];exact Uq _ _
def dJ(l:List Int):List Int:=l.mergeSort λx y=>decide (x<=y)
def jZ(l:List Gr)(keep:Int):List Int:=if(l.length:Int)<=keep then[]else dJ (((vQ (pK l)).take (l.length/2)).map (·.at'))
theorem xI(l:List Int):(dJ l).Pairwise (·<=·):=by
 have:=V3 (le:=λx y:Int=>decide (x<=y)) (λa b c h1 d=>by simp only[Th]at*;omega) (λa b=>by simp only[Um,Th];omega) l;exact this.imp λh=>by simpa using h
end Go.AX