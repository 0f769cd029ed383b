/-
  Contracts: arenas.
  A desk: what the program keeps and what the document keeps go together (plain law).
-/
import Derived.Test.YtepodadinenmnaaGreatS14AxRfA
import Derived.Test.YtepodadinenmnaaGreatS14AxRfD
import Derived.Test.YtepodadinenmnaaGreatAxLo
import Derived.Test.YtepodadinenmnaaGreatAxXW
import Derived.Test.YtepodadinenmnaaGreatS14AxDkP
import Derived.Test.YtepodadinenmnaaGreatS14AxRfB
namespace Go.AX
set_option maxRecDepth 8000
open Go.Proofs
set_option linter.unusedSimpArgs false
structure Ar where
  row:List Int
  hd:List (Int×Int)
def lm(A:Ar):List SV:=[.own true 1 (af A.row),.omap true (aS fI A.hd)]
theorem yx(k:Nat)(A:Ar):cM k (lm A):=⟨bd k _,gE k _,trivial⟩
@[simp] theorem IZ(l:List Int):zS (af l):=by
 unfold af
 induction l with
 |nil=>trivial
 |cons x xs a=>exact⟨⟨trivial,trivial⟩,a⟩
def J4:List SV:=[.pv (.lit (.slice none 0 0)),.omap true []]
theorem GV(h:List (List SV)):aB Tryz.prog 65 [] h (λr h'=>h'=h++[J4]∧r=.pv (.ptr h.length 0)):=by
 refine mo aG Tryz.func65 ?_;simp[J4]
theorem qQ(h:List (List SV))(b:Nat)(A:Ar)(d:h[b]?=some (lm A)):aB Tryz.prog 207 [.ptr b 0] h (λr h'=>h'=h∧r=.pv (BL true)):=by
 refine gm [] [.tmp 2] aG Tryz.func207 ?_;obtain⟨c,a⟩:=N5.1 d;simp[a,c,lm]
def isA(A:Ar)(at':Int):Bool:=decide (0<(lk A.hd at').getD 0)
theorem yy(h:List (List SV))(b:Nat)(A:Ar)(d:h[b]?=some (lm A))(at':Int):aB Tryz.prog 237 [.ptr b 0,ae at'] h (λr h'=>h'=h∧r=.pv (BL (isA A at'))):=by
 refine gm [] [.tmp 4] aG Tryz.func237 ?_;obtain⟨c,a⟩:=N5.1 d;simp;refine am.intro (qQ h b A d) ?_;rintro _ _ ⟨rfl,rfl⟩;simp[a,c,lm,isA]
structure AtOk (A:Ar) (p n:Nat):Prop where
  len:p+3+n<=A.row.length
  num:A.row.getD (p+1) 0=n
def dq(A:Ar)(p n:Nat):List Int:=(A.row.drop (p+3)).take n
theorem DP(h:List (List SV))(b:Nat)(A:Ar)(g:h[b]?=some (lm A))(p n:Nat)(f:AtOk A p n)(m:A.row.length<=1000000000):
 aB Tryz.prog 239 [.ptr b 0,ae p] h (λr h'=>h'=h∧r=.loc (.cell b 0) (p+3) (p+3+n)):=by
 refine GU aG Tryz.func239 ?_;obtain⟨c,a⟩:=N5.1 g;obtain⟨l,d⟩:=f;have h1:p+1<A.row.length:=by omega
 have e:A.row[p+1]=(n:Int):=by rw[←d,N7,N6 h1];rfl
 have i:=fQ p;have j:a8 ((p:Int)+3)=((p+3:Nat):Int):=by rw[ap (by omega) (by omega)];omega
 have k:a8 ((p:Int)+3+n)=(p:Int)+3+n:=ap (by omega) (by omega);simp[a,c,lm,i,j,k,h1,e];omega
theorem DQ(h:List (List SV))(b:Nat)(A:Ar)(e:h[b]?=some (lm A))(p n:Nat)(hi:isA A p=true)(i:AtOk A p n)(q:A.row.length<=1000000):
 aB Tryz.prog 160 [.ptr b 0,ae p] h (λr h'=>h'=h∧r=.pv (.seq false 1 (af (dq A p n)))):=by
 refine lj [] [.tmp 4] aG Tryz.func160 ?_;have l:=DP h b A e p n i (by omega);obtain⟨c,a⟩:=N5.1 e;obtain⟨o,j⟩:=i;have h1:p+1<A.row.length:=by omega
 have k:A.row[p+1]=(n:Int):=by rw[←j,N7,N6 h1];rfl
 have m:=fQ p;simp;refine am.intro (yy h b A e p) ?_;rintro _ _ ⟨rfl,rfl⟩;simp[a,c,lm,m,h1,k,hi];refine⟨by omega,by omega,?_⟩;refine am.intro l ?_;rintro _ _ ⟨rfl,rfl⟩;have g:List.drop (p+3) (List.take (p+3+n) (af A.row))=af (dq A p n):=by
  unfold af dq;rw[←QI,←RW,List.drop_take];congr 3;omega
 have d:(dq A p n).length=n:=by unfold dq;rw[Oe,OO];omega
 have f:(af (dq A p n)).take n=af (dq A p n):=Pf (by simp[d]);simp[a,c,lm,g,d,f,cw]
end Go.AX
namespace Go.AX
open Go.Proofs
set_option linter.unusedSimpArgs false
structure RelA (A:Ar) (a:RA):Prop where
  size:a.size=A.row.length
  rows:∀x∈a.rows,∃p:Nat,x.at'=p∧AtOk A p x.lits.length∧dq A p x.lits.length=x.lits∧isA A p=true∧A.row.getD p 0=x.id
  is:∀q:Int,isA A q=true->∃x∈a.rows,x.at'=q
structure DK where
  A:Ar
  T:Tr
  a:RA
  t:RT
  con:Int
end Go.AX