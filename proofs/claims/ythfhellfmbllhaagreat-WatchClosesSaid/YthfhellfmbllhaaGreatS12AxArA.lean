/-
  Contracts: arenas.
-/
import Derived.Test.YthfhellfmbllhaaGreatS12AxRfA
import Derived.Test.YthfhellfmbllhaaGreatS12AxRfD
import Derived.Test.YthfhellfmbllhaaGreatAxLo
import Derived.Test.YthfhellfmbllhaaGreatAxIs
namespace Go.AX
open Go.Proofs
set_option linter.unusedSimpArgs false
structure Ar where
  row:List Int
  hd:List (Int×Int)
def arB (A:Ar):List SV:=[.own true 1 (irow A.row),.omap true (mapE fI A.hd)]
theorem belowC_arB (k:Nat) (A:Ar):belowC k (arB A):=⟨belowR_irow k _,belowE_fI k _,trivial⟩
@[simp] theorem litsR_irow (l:List Int):litsR (irow l):=by
 unfold irow
 induction l with
 |nil=>trivial
 |cons x xs ih=>exact⟨⟨trivial,trivial⟩,ih⟩
def arZ:List SV:=[.pv (.lit (.slice none 0 0)),.omap true []]
theorem anew_ok (h:List (List SV)):AMut Tryz.prog 28 [] h (fun r h'=>h'=h++[arZ]∧r=.pv (.ptr h.length 0)):=by
 refine amut1 hmo Tryz.func28 (by kernel_rfl) rfl rfl (by kernel_rfl) (Nat.le_of_ble_eq_true rfl) ?_;simp[arZ]
theorem amade_ok (h:List (List SV)) (b:Nat) (A:Ar) (hb:h[b]?=some (arB A)):AMut Tryz.prog 80 [.ptr b 0] h (fun r h'=>h'=h∧r=.pv (BL true)):=by
 refine amutXP [] [.tmp 2] hmo Tryz.func80 (by kernel_rfl) rfl rfl (by kernel_rfl) (Nat.le_of_ble_eq_true rfl) ?_;obtain⟨hlt,hb'⟩:=List.getElem?_eq_some_iff.1 hb;simp[hb',hlt,arB]
def isA (A:Ar) (at':Int):Bool:=decide (0<(lk A.hd at').getD 0)
theorem ais_ok (h:List (List SV)) (b:Nat) (A:Ar) (hb:h[b]?=some (arB A)) (at':Int):AMut Tryz.prog 133 [.ptr b 0,I64 at'] h (fun r h'=>h'=h∧r=.pv (BL (isA A at'))):=by
 refine amutXP [] [.tmp 4] hmo Tryz.func133 (by kernel_rfl) rfl rfl (by kernel_rfl) (Nat.le_of_ble_eq_true rfl) ?_;obtain⟨hlt,hb'⟩:=List.getElem?_eq_some_iff.1 hb;simp;refine CallB.intro (amade_ok h b A hb) (by simp) ?_;rintro _ _ ⟨rfl,rfl⟩;simp[hb',hlt,arB,isA]
structure AtOk (A:Ar) (p n:Nat):Prop where
  len:p+3+n≤A.row.length
  num:A.row.getD (p+1) 0=n
def partA' (A:Ar) (p n:Nat):List Int:=(A.row.drop (p+3)).take n
set_option maxRecDepth 8000 in
theorem aview_ok (h:List (List SV)) (b:Nat) (A:Ar) (hb:h[b]?=some (arB A)) (p n:Nat) (ha:AtOk A p n) (hl:A.row.length≤1000000000):
 AMut Tryz.prog 134 [.ptr b 0,I64 p] h (fun r h'=>h'=h∧r=.loc (.cell b 0) (p+3) (p+3+n)):=by
 refine amutLoc hmo Tryz.func134 (by kernel_rfl) rfl rfl (by kernel_rfl) (Nat.le_of_ble_eq_true rfl) ?_;obtain⟨hlt,hb'⟩:=List.getElem?_eq_some_iff.1 hb;obtain⟨a1,a2⟩:=ha;have h1:p+1<A.row.length:=by omega
 have h2:A.row[p+1]=(n:Int):=by rw[←a2,List.getD_eq_getElem?_getD,List.getElem?_eq_getElem h1];rfl
 have w1:w64 ((p:Int)+1)=((p+1:Nat):Int):=by rw[w64_id (by omega) (by omega)];omega
 have w3:w64 ((p:Int)+3)=((p+3:Nat):Int):=by rw[w64_id (by omega) (by omega)];omega
 have w4:w64 ((p:Int)+3+n)=(p:Int)+3+n:=w64_id (by omega) (by omega);simp[hb',hlt,arB,w1,w3,w4,h1,h2];omega
set_option maxRecDepth 8000 in
theorem alits_ok (h:List (List SV)) (b:Nat) (A:Ar) (hb:h[b]?=some (arB A)) (p n:Nat) (hi:isA A p=true) (ha:AtOk A p n) (hl:A.row.length≤1000000):
 AMut Tryz.prog 83 [.ptr b 0,I64 p] h (fun r h'=>h'=h∧r=.pv (.seq false 1 (irow (partA' A p n)))):=by
 refine amutXW [] [.tmp 4] hmo Tryz.func83 (by kernel_rfl) rfl rfl (by kernel_rfl) (Nat.le_of_ble_eq_true rfl) ?_;have hv:=aview_ok h b A hb p n ha (by omega);obtain⟨hlt,hb'⟩:=List.getElem?_eq_some_iff.1 hb;obtain⟨a1,a2⟩:=ha;have h1:p+1<A.row.length:=by omega
 have h2:A.row[p+1]=(n:Int):=by rw[←a2,List.getD_eq_getElem?_getD,List.getElem?_eq_getElem h1];rfl
 have w1:w64 ((p:Int)+1)=((p+1:Nat):Int):=by rw[w64_id (by omega) (by omega)];omega
 simp;refine CallB.intro (ais_ok h b A hb p) (by simp) ?_;rintro _ _ ⟨rfl,rfl⟩;simp[hb',hlt,arB,w1,h1,h2,hi];refine⟨by omega,by omega,?_⟩;refine CallB.intro hv (by simp) ?_;rintro _ _ ⟨rfl,rfl⟩;have hrw:List.drop (p+3) (List.take (p+3+n) (irow A.row))=irow (partA' A p n):=by
  unfold irow partA';rw[←List.map_take,←List.map_drop,List.drop_take];congr 3;omega
 have hpl:(partA' A p n).length=n:=by unfold partA';rw[List.length_take,List.length_drop];omega
 have hpt:(irow (partA' A p n)).take n=irow (partA' A p n):=List.take_of_length_le (by simp[hpl]);simp[hb',hlt,arB,hrw,hpl,hpt,wkP]
def putAr (A:Ar) (id:Int) (lits:List Int):Ar:=if putEA id lits=0 then⟨A.row++([id,(lits.length:Int),0]++lits),pt A.hd A.row.length id⟩else A
set_option maxRecDepth 16000 in
theorem aput_ok (h:List (List SV)) (b:Nat) (A:Ar) (hb:h[b]?=some (arB A)) (id:Int) (lits:List Int) (hc:lits.length≤1000000) (hl:A.row.length≤1000000000):
 AMut Tryz.prog 30 [.ptr b 0,I64 id,.seq false 1 (irow lits),BL false] h (fun r h'=>h'=h.set b (arB (putAr A id lits))∧r=.pv (.tup [I64 (if putEA id lits=0 then A.row.length else 0),I64 (putEA id lits)])):=by
 refine amutXD [] [.tmp 8,.tmp 9] (h.set b (arB (putAr A id lits))) (by simp) (fun hh=>by rw[List.length_set];exact belowH_setT (belowC_arB _ _) b hh) hmo Tryz.func30 (by kernel_rfl) rfl rfl (by kernel_rfl) (Nat.le_of_ble_eq_true rfl) ?_;obtain⟨hlt,hb'⟩:=List.getElem?_eq_some_iff.1 hb;have hE:putEA id lits=if id<1∨10000000<id then 2 else chkC lits 100000:=rfl;have hA:putAr A id lits=if putEA id lits=0 then⟨A.row++([id,(lits.length:Int),0]++lits),pt A.hd A.row.length id⟩else A:=rfl;have hset:h.set b (arB A)=h:=set_sameT hb;generalize putAr A id lits=A' at hA⊢;generalize putEA id lits=E at hE hA⊢;simp;refine CallB.intro (amade_ok h b A hb) (by simp) ?_;rintro _ _ ⟨rfl,rfl⟩
 by_cases c1:id<1
 ·rw[if_pos (.inl c1)]at hE;subst hE;rw[if_neg (by omega)]at hA;subst hA;simp[c1,hset]
 by_cases c2:10000000<id
 ·rw[if_pos (.inr c2)]at hE;subst hE;rw[if_neg (by omega)]at hA;subst hA;simp[c1,c2,hset]
 rw[if_neg (by omega)]at hE;simp[c1,c2];refine CallK.intro (clCheck_ok lits 100000 (by omega)) (by simp) ?_;rw[←hE]
 by_cases c3:E=0
 rotate_left
 ·rw[if_neg c3]at hA;subst hA;simp[c3,hset]
 rw[if_pos c3]at hA;subst hA;simp[c3,hb',hlt,arB];refine⟨by omega,by omega,?_⟩;rw[List.take_of_length_le (by simp)];simp[irow]
end Go.AX