/-
  Contracts: arenas.
  A desk: what the program keeps and what the document keeps go together (plain law).
-/
import Derived.Test.YtepodadinenmnaaGreatS14AxRfA
import Derived.Test.YtepodadinenmnaaGreatS14AxRfD
import Derived.Test.YtepodadinenmnaaGreatAxLo
import Derived.Test.YtepodadinenmnaaGreatAxBM
import Derived.Test.YtepodadinenmnaaGreatS14AxDkP
import Derived.Test.YtepodadinenmnaaGreatS14AxRfB
namespace Go.AX
open Go.Proofs
set_option linter.unusedSimpArgs false
structure Ar where
  row:List Int
  hd:List (Int×Int)
def lf(A:Ar):List SV:=[.own true 1 (af A.row),.omap true (aT fI A.hd)]
theorem yn(k:Nat)(A:Ar):cP k (lf A):=⟨bc k _,gy k _,trivial⟩
@[simp] theorem Iw(l:List Int):zG (af l):=by
 unfold af
 induction l with
 |nil=>trivial
 |cons x xs ih=>exact⟨⟨trivial,trivial⟩,ih⟩
def Jv:List SV:=[.pv (.lit (.slice none 0 0)),.omap true []]
theorem GF(h:List (List SV)):aE Tryz.prog 65 [] h (fun r h'=>h'=h++[Jv]∧r=.pv (.ptr h.length 0)):=by
 refine l9 aG Tryz.func65 (by kernel_rfl) rfl rfl (by kernel_rfl) (Nat.le_of_ble_eq_true rfl) ?_;simp[Jv]
theorem qL(h:List (List SV))(b:Nat)(A:Ar)(hb:h[b]?=some (lf A)):aE Tryz.prog 207 [.ptr b 0] h (fun r h'=>h'=h∧r=.pv (BL true)):=by
 refine fA [] [.tmp 2] aG Tryz.func207 (by kernel_rfl) rfl rfl (by kernel_rfl) (Nat.le_of_ble_eq_true rfl) ?_;obtain⟨hlt,hb'⟩:=List.getElem?_eq_some_iff.1 hb;simp[hb',hlt,lf]
def isA(A:Ar)(at':Int):Bool:=decide (0<(lk A.hd at').getD 0)
theorem yo(h:List (List SV))(b:Nat)(A:Ar)(hb:h[b]?=some (lf A))(at':Int):aE Tryz.prog 237 [.ptr b 0,ae at'] h (fun r h'=>h'=h∧r=.pv (BL (isA A at'))):=by
 refine fA [] [.tmp 4] aG Tryz.func237 (by kernel_rfl) rfl rfl (by kernel_rfl) (Nat.le_of_ble_eq_true rfl) ?_;obtain⟨hlt,hb'⟩:=List.getElem?_eq_some_iff.1 hb;simp;refine ak.intro (qL h b A hb) (by simp) ?_;rintro _ _ ⟨rfl,rfl⟩;simp[hb',hlt,lf,isA]
structure AtOk (A:Ar) (p n:Nat):Prop where
  len:p+3+n≤A.row.length
  num:A.row.getD (p+1) 0=n
def dr(A:Ar)(p n:Nat):List Int:=(A.row.drop (p+3)).take n
set_option maxRecDepth 8000 in
theorem DG(h:List (List SV))(b:Nat)(A:Ar)(hb:h[b]?=some (lf A))(p n:Nat)(ha:AtOk A p n)(hl:A.row.length≤1000000000):
 aE Tryz.prog 239 [.ptr b 0,ae p] h (fun r h'=>h'=h∧r=.loc (.cell b 0) (p+3) (p+3+n)):=by
 refine GE aG Tryz.func239 (by kernel_rfl) rfl rfl (by kernel_rfl) (Nat.le_of_ble_eq_true rfl) ?_;obtain⟨hlt,hb'⟩:=List.getElem?_eq_some_iff.1 hb;obtain⟨a1,a2⟩:=ha;have h1:p+1<A.row.length:=by omega
 have h2:A.row[p+1]=(n:Int):=by rw[←a2,List.getD_eq_getElem?_getD,List.getElem?_eq_getElem h1];rfl
 have w1:aM ((p:Int)+1)=((p+1:Nat):Int):=by rw[ah (by omega) (by omega)];omega
 have w3:aM ((p:Int)+3)=((p+3:Nat):Int):=by rw[ah (by omega) (by omega)];omega
 have w4:aM ((p:Int)+3+n)=(p:Int)+3+n:=ah (by omega) (by omega);simp[hb',hlt,lf,w1,w3,w4,h1,h2];omega
set_option maxRecDepth 8000 in
theorem DH(h:List (List SV))(b:Nat)(A:Ar)(hb:h[b]?=some (lf A))(p n:Nat)(hi:isA A p=true)(ha:AtOk A p n)(hl:A.row.length≤1000000):
 aE Tryz.prog 160 [.ptr b 0,ae p] h (fun r h'=>h'=h∧r=.pv (.seq false 1 (af (dr A p n)))):=by
 refine lc [] [.tmp 4] aG Tryz.func160 (by kernel_rfl) rfl rfl (by kernel_rfl) (Nat.le_of_ble_eq_true rfl) ?_;have hv:=DG h b A hb p n ha (by omega);obtain⟨hlt,hb'⟩:=List.getElem?_eq_some_iff.1 hb;obtain⟨a1,a2⟩:=ha;have h1:p+1<A.row.length:=by omega
 have h2:A.row[p+1]=(n:Int):=by rw[←a2,List.getD_eq_getElem?_getD,List.getElem?_eq_getElem h1];rfl
 have w1:aM ((p:Int)+1)=((p+1:Nat):Int):=by rw[ah (by omega) (by omega)];omega
 simp;refine ak.intro (yo h b A hb p) (by simp) ?_;rintro _ _ ⟨rfl,rfl⟩;simp[hb',hlt,lf,w1,h1,h2,hi];refine⟨by omega,by omega,?_⟩;refine ak.intro hv (by simp) ?_;rintro _ _ ⟨rfl,rfl⟩;have hrw:List.drop (p+3) (List.take (p+3+n) (af A.row))=af (dr A p n):=by
  unfold af dr;rw[←List.map_take,←List.map_drop,List.drop_take];congr 3;omega
 have hpl:(dr A p n).length=n:=by unfold dr;rw[List.length_take,List.length_drop];omega
 have hpt:(af (dr A p n)).take n=af (dr A p n):=List.take_of_length_le (by simp[hpl]);simp[hb',hlt,lf,hrw,hpl,hpt,cz]
structure RelA (A:Ar) (a:RA):Prop where
  size:a.size=A.row.length
  rows:∀x∈a.rows,∃p:Nat,x.at'=p∧AtOk A p x.lits.length∧dr A p x.lits.length=x.lits∧isA A p=true∧A.row.getD p 0=x.id
  is:∀q:Int,isA A q=true→∃x∈a.rows,x.at'=q
structure DK where
  A:Ar
  T:Tr
  a:RA
  t:RT
  con:Int
end Go.AX