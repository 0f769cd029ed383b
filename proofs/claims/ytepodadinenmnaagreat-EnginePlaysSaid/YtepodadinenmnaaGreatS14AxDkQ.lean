/-
  Contracts: arenas.
  A desk: what the program keeps and what the document keeps go together (plain law).
-/
import Derived.Test.YtepodadinenmnaaGreatS14AxRfA
import Derived.Test.YtepodadinenmnaaGreatS14AxRfD
import Derived.Test.YtepodadinenmnaaGreatAxLo
import Derived.Test.YtepodadinenmnaaGreatAxXW
import Derived.Test.YtepodadinenmnaaGreatS14AxDkP
import Derived.Test.YtepodadinenmnaaGreatS14AxRfB
namespace Go.AX
set_option maxRecDepth 8000
open Go.Proofs
set_option linter.unusedSimpArgs false
structure Ar where
  row:List Int
  hd:List (Int×Int)
def mA(A:Ar):List SV:=[.own true 1 (aa A.row),.omap true (a8 fI A.hd)]
theorem Bw(k:Nat)(A:Ar):cU k (mA A):=⟨bc k _,iv k _,trivial⟩
@[simp] theorem MN(l:List Int):CT (aa l):=by
 unfold aa
 induction l with
 |nil=>trivial
 |cons x xs a=>exact⟨⟨trivial,trivial⟩,a⟩
def NQ:List SV:=[.pv (.lit (.slice none 0 0)),.omap true []]
theorem KM(h:List (List SV)):aB Tryz.prog 65 [] h (λr h'=>h'=h++[NQ]∧r=.pv (.ptr h.length 0)):=by
 refine nz aE Tryz.func65 ?_;simp[NQ]
theorem sJ(h:List (List SV))(b:Nat)(A:Ar)(d:h[b]?=some (mA A)):aB Tryz.prog 207 [.ptr b 0] h (λr h'=>h'=h∧r=.pv (BL true)):=by
 refine fC [] [.tmp 2] aE Tryz.func207 ?_;obtain⟨c,a⟩:=Rt.1 d;simp[a,c,mA]
def isA(A:Ar)(at':Int):Bool:=decide (0<(lk A.hd at').getD 0)
theorem Bx(h:List (List SV))(b:Nat)(A:Ar)(d:h[b]?=some (mA A))(at':Int):aB Tryz.prog 237 [.ptr b 0,ae at'] h (λr h'=>h'=h∧r=.pv (BL (isA A at'))):=by
 refine fC [] [.tmp 4] aE Tryz.func237 ?_;obtain⟨c,a⟩:=Rt.1 d;simp;refine aj.intro (sJ h b A d) ?_;rintro _ _ ⟨rfl,rfl⟩;simp[a,c,mA,isA]
structure AtOk (A:Ar) (p n:Nat):Prop where
  len:p+3+n<=A.row.length
  num:A.row.getD (p+1) 0=n
def dF(A:Ar)(p n:Nat):List Int:=(A.row.drop (p+3)).take n
theorem Hw(h:List (List SV))(b:Nat)(A:Ar)(g:h[b]?=some (mA A))(p n:Nat)(f:AtOk A p n)(m:A.row.length<=1000000000):
 aB Tryz.prog 239 [.ptr b 0,ae p] h (λr h'=>h'=h∧r=.loc (.cell b 0) (p+3) (p+3+n)):=by
 refine KL aE Tryz.func239 ?_;obtain⟨c,a⟩:=Rt.1 g;obtain⟨l,d⟩:=f;have h1:p+1<A.row.length:=by omega
 have e:A.row[p+1]=(n:Int):=by rw[←d,Rv,Ru h1];rfl
 have i:=dr p;have j:aS ((p:Int)+3)=((p+3:Nat):Int):=by rw[ap (by omega) (by omega)];omega
 have k:aS ((p:Int)+3+n)=(p:Int)+3+n:=ap (by omega) (by omega);simp[a,c,mA,i,j,k,h1,e];omega
theorem Hx(h:List (List SV))(b:Nat)(A:Ar)(e:h[b]?=some (mA A))(p n:Nat)(hi:isA A p=true)(i:AtOk A p n)(q:A.row.length<=1000000):
 aB Tryz.prog 160 [.ptr b 0,ae p] h (λr h'=>h'=h∧r=.pv (.seq false 1 (aa (dF A p n)))):=by
 refine dQ [] [.tmp 4] aE Tryz.func160 ?_;have l:=Hw h b A e p n i (by omega);obtain⟨c,a⟩:=Rt.1 e;obtain⟨o,j⟩:=i;have h1:p+1<A.row.length:=by omega
 have k:A.row[p+1]=(n:Int):=by rw[←j,Rv,Ru h1];rfl
 have m:=dr p;simp;refine aj.intro (Bx h b A e p) ?_;rintro _ _ ⟨rfl,rfl⟩;simp[a,c,mA,m,h1,k,hi];refine⟨by omega,by omega,?_⟩;refine aj.intro l ?_;rintro _ _ ⟨rfl,rfl⟩;have g:List.drop (p+3) (List.take (p+3+n) (aa A.row))=aa (dF A p n):=by
  unfold aa dF;rw[←TG,←UR,List.drop_take];congr 3;omega
 have d:(dF A p n).length=n:=by unfold dF;rw[RD,Sj];omega
 have f:(aa (dF A p n)).take n=aa (dF A p n):=SA (by simp[d]);simp[a,c,mA,g,d,f,bu]
end Go.AX
namespace Go.AX
open Go.Proofs
set_option linter.unusedSimpArgs false
structure RelA (A:Ar) (a:RA):Prop where
  size:a.size=A.row.length
  rows:∀x∈a.rows,∃p:Nat,x.at'=p∧AtOk A p x.lits.length∧dF A p x.lits.length=x.lits∧isA A p=true∧A.row.getD p 0=x.id
  is:∀q:Int,isA A q=true->∃x∈a.rows,x.at'=q
structure DK where
  A:Ar
  T:Tr
  a:RA
  t:RT
  con:Int
end Go.AX