/-
  Contracts: arenas.
  A desk: what the program keeps and what the document keeps go together (plain law).
-/
import Derived.Test.YtepodadinenmnaaGreatS14AxRfA
import Derived.Test.YtepodadinenmnaaGreatS14AxRfD
import Derived.Test.YtepodadinenmnaaGreatAxLo
import Derived.Test.YtepodadinenmnaaGreatAxXW
import Derived.Test.YtepodadinenmnaaGreatS14AxDkP
import Derived.Test.YtepodadinenmnaaGreatS14AxRfB
namespace Go.AX
set_option maxRecDepth 8000
open Go.Proofs
set_option linter.unusedSimpArgs false
structure Ar where
  row:List Int
  hd:List (Int×Int)
def mD(A:Ar):List SV:=[.own true 1 (aa A.row),.omap true (a8 fI A.hd)]
theorem BH(k:Nat)(A:Ar):cX k (mD A):=⟨bc k _,iw k _,trivial⟩
@[simp] theorem MX(l:List Int):C3 (aa l):=by
 unfold aa
 induction l with
 |nil=>trivial
 |cons x xs a=>exact⟨⟨trivial,trivial⟩,a⟩
def N2:List SV:=[.pv (.lit (.slice none 0 0)),.omap true []]
theorem KX(h:List (List SV)):aB Tryz.prog 65 [] h (λr h'=>h'=h++[N2]∧r=.pv (.ptr h.length 0)):=by
 refine nC aE Tryz.func65 ?_;simp[N2]
theorem sW(h:List (List SV))(b:Nat)(A:Ar)(d:h[b]?=some (mD A)):aB Tryz.prog 207 [.ptr b 0] h (λr h'=>h'=h∧r=.pv (BL true)):=by
 refine fD [] [.tmp 2] aE Tryz.func207 ?_;obtain⟨c,a⟩:=RE.1 d;simp[a,c,mD]
def isA(A:Ar)(at':Int):Bool:=decide (0<(lk A.hd at').getD 0)
theorem BI(h:List (List SV))(b:Nat)(A:Ar)(d:h[b]?=some (mD A))(at':Int):aB Tryz.prog 237 [.ptr b 0,ae at'] h (λr h'=>h'=h∧r=.pv (BL (isA A at'))):=by
 refine fD [] [.tmp 4] aE Tryz.func237 ?_;obtain⟨c,a⟩:=RE.1 d;simp;refine aj.intro (sW h b A d) ?_;rintro _ _ ⟨rfl,rfl⟩;simp[a,c,mD,isA]
structure AtOk (A:Ar) (p n:Nat):Prop where
  len:p+3+n<=A.row.length
  num:A.row.getD (p+1) 0=n
def dI(A:Ar)(p n:Nat):List Int:=(A.row.drop (p+3)).take n
theorem HE(h:List (List SV))(b:Nat)(A:Ar)(g:h[b]?=some (mD A))(p n:Nat)(f:AtOk A p n)(m:A.row.length<=1000000000):
 aB Tryz.prog 239 [.ptr b 0,ae p] h (λr h'=>h'=h∧r=.loc (.cell b 0) (p+3) (p+3+n)):=by
 refine KW aE Tryz.func239 ?_;obtain⟨c,a⟩:=RE.1 g;obtain⟨l,d⟩:=f;have h1:p+1<A.row.length:=by omega
 have e:A.row[p+1]=(n:Int):=by rw[←d,RG,RF h1];rfl
 have i:=dq p;have j:aR ((p:Int)+3)=((p+3:Nat):Int):=by rw[ap (by omega) (by omega)];omega
 have k:aR ((p:Int)+3+n)=(p:Int)+3+n:=ap (by omega) (by omega);simp[a,c,mD,i,j,k,h1,e];omega
theorem HF(h:List (List SV))(b:Nat)(A:Ar)(e:h[b]?=some (mD A))(p n:Nat)(hi:isA A p=true)(i:AtOk A p n)(q:A.row.length<=1000000):
 aB Tryz.prog 160 [.ptr b 0,ae p] h (λr h'=>h'=h∧r=.pv (.seq false 1 (aa (dI A p n)))):=by
 refine dV [] [.tmp 4] aE Tryz.func160 ?_;have l:=HE h b A e p n i (by omega);obtain⟨c,a⟩:=RE.1 e;obtain⟨o,j⟩:=i;have h1:p+1<A.row.length:=by omega
 have k:A.row[p+1]=(n:Int):=by rw[←j,RG,RF h1];rfl
 have m:=dq p;simp;refine aj.intro (BI h b A e p) ?_;rintro _ _ ⟨rfl,rfl⟩;simp[a,c,mD,m,h1,k,hi];refine⟨by omega,by omega,?_⟩;refine aj.intro l ?_;rintro _ _ ⟨rfl,rfl⟩;have g:List.drop (p+3) (List.take (p+3+n) (aa A.row))=aa (dI A p n):=by
  unfold aa dI;rw[←TR,←U1,List.drop_take];congr 3;omega
 have d:(dI A p n).length=n:=by unfold dI;rw[RN,Sv];omega
 have f:(aa (dI A p n)).take n=aa (dI A p n):=SK (by simp[d]);simp[a,c,mD,g,d,f,bu]
end Go.AX
namespace Go.AX
open Go.Proofs
set_option linter.unusedSimpArgs false
structure RelA (A:Ar) (a:RA):Prop where
  size:a.size=A.row.length
  rows:∀x∈a.rows,∃p:Nat,x.at'=p∧AtOk A p x.lits.length∧dI A p x.lits.length=x.lits∧isA A p=true∧A.row.getD p 0=x.id
  is:∀q:Int,isA A q=true->∃x∈a.rows,x.at'=q
structure DK where
  A:Ar
  T:Tr
  a:RA
  t:RT
  con:Int
end Go.AX