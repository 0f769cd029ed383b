/-
  Contracts: arenas.
  A desk: what the program keeps and what the document keeps go together (plain law).
-/
import Derived.Test.YtepodadinenmnaaGreatS14AxRfA
import Derived.Test.YtepodadinenmnaaGreatS14AxRfD
import Derived.Test.YtepodadinenmnaaGreatAxLo
import Derived.Test.YtepodadinenmnaaGreatAxXW
import Derived.Test.YtepodadinenmnaaGreatS14AxDkP
import Derived.Test.YtepodadinenmnaaGreatS14AxRfB
namespace Go.AX
set_option maxRecDepth 8000
open Go.Proofs
set_option linter.unusedSimpArgs false
structure Ar where
  row:List Int
  hd:List (Int×Int)
def l6(A:Ar):List SV:=[.own true 1 (ab A.row),.omap true (aC fI A.hd)]
theorem Aw(k:Nat)(A:Ar):cT k (l6 A):=⟨aS k _,ik k _,trivial⟩
@[simp] theorem Lq(l:List Int):BR (ab l):=by
 unfold ab
 induction l with
 |nil=>trivial
 |cons x xs a=>exact⟨⟨trivial,trivial⟩,a⟩
def MJ:List SV:=[.pv (.lit (.slice none 0 0)),.omap true []]
theorem Ju(h:List (List SV)):ay Tryz.prog 65 [] h (λr h'=>h'=h++[MJ]∧r=.pv (.ptr h.length 0)):=by
 refine m7 aD Tryz.func65 ?_;simp[MJ]
theorem rR(h:List (List SV))(b:Nat)(A:Ar)(d:h[b]?=some (l6 A)):ay Tryz.prog 207 [.ptr b 0] h (λr h'=>h'=h∧r=.pv (BL true)):=by
 refine gh [] [.tmp 2] aD Tryz.func207 ?_;obtain⟨c,a⟩:=P7.1 d;simp[a,c,l6]
def isA(A:Ar)(at':Int):Bool:=decide (0<(lk A.hd at').getD 0)
theorem Ax(h:List (List SV))(b:Nat)(A:Ar)(d:h[b]?=some (l6 A))(at':Int):ay Tryz.prog 237 [.ptr b 0,af at'] h (λr h'=>h'=h∧r=.pv (BL (isA A at'))):=by
 refine gh [] [.tmp 4] aD Tryz.func237 ?_;obtain⟨c,a⟩:=P7.1 d;simp;refine ak.intro (rR h b A d) ?_;rintro _ _ ⟨rfl,rfl⟩;simp[a,c,l6,isA]
structure AtOk (A:Ar) (p n:Nat):Prop where
  len:p+3+n<=A.row.length
  num:A.row.getD (p+1) 0=n
def dB(A:Ar)(p n:Nat):List Int:=(A.row.drop (p+3)).take n
theorem Gb(h:List (List SV))(b:Nat)(A:Ar)(g:h[b]?=some (l6 A))(p n:Nat)(f:AtOk A p n)(m:A.row.length<=1000000000):
 ay Tryz.prog 239 [.ptr b 0,af p] h (λr h'=>h'=h∧r=.loc (.cell b 0) (p+3) (p+3+n)):=by
 refine Jt aD Tryz.func239 ?_;obtain⟨c,a⟩:=P7.1 g;obtain⟨l,d⟩:=f;have h1:p+1<A.row.length:=by omega
 have e:A.row[p+1]=(n:Int):=by rw[←d,P9,P8 h1];rfl
 have i:=eq p;have j:aX ((p:Int)+3)=((p+3:Nat):Int):=by rw[aq (by omega) (by omega)];omega
 have k:aX ((p:Int)+3+n)=(p:Int)+3+n:=aq (by omega) (by omega);simp[a,c,l6,i,j,k,h1,e];omega
theorem Gc(h:List (List SV))(b:Nat)(A:Ar)(e:h[b]?=some (l6 A))(p n:Nat)(hi:isA A p=true)(i:AtOk A p n)(q:A.row.length<=1000000):
 ay Tryz.prog 160 [.ptr b 0,af p] h (λr h'=>h'=h∧r=.pv (.seq false 1 (ab (dB A p n)))):=by
 refine fh [] [.tmp 4] aD Tryz.func160 ?_;have l:=Gb h b A e p n i (by omega);obtain⟨c,a⟩:=P7.1 e;obtain⟨o,j⟩:=i;have h1:p+1<A.row.length:=by omega
 have k:A.row[p+1]=(n:Int):=by rw[←j,P9,P8 h1];rfl
 have m:=eq p;simp;refine ak.intro (Ax h b A e p) ?_;rintro _ _ ⟨rfl,rfl⟩;simp[a,c,l6,m,h1,k,hi];refine⟨by omega,by omega,?_⟩;refine ak.intro l ?_;rintro _ _ ⟨rfl,rfl⟩;have g:List.drop (p+3) (List.take (p+3+n) (ab A.row))=ab (dB A p n):=by
  unfold ab dB;rw[←SI,←Ue,List.drop_take];congr 3;omega
 have d:(dB A p n).length=n:=by unfold dB;rw[Qg,QS];omega
 have f:(ab (dB A p n)).take n=ab (dB A p n):=QM (by simp[d]);simp[a,c,l6,g,d,f,bI]
end Go.AX
namespace Go.AX
open Go.Proofs
set_option linter.unusedSimpArgs false
structure RelA (A:Ar) (a:RA):Prop where
  size:a.size=A.row.length
  rows:∀x∈a.rows,∃p:Nat,x.at'=p∧AtOk A p x.lits.length∧dB A p x.lits.length=x.lits∧isA A p=true∧A.row.getD p 0=x.id
  is:∀q:Int,isA A q=true->∃x∈a.rows,x.at'=q
structure DK where
  A:Ar
  T:Tr
  a:RA
  t:RT
  con:Int
end Go.AX