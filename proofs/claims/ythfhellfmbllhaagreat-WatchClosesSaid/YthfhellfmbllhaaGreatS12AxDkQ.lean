/-
  A desk: what the program keeps and what the document keeps go together (plain law).
-/
import Derived.Test.YthfhellfmbllhaaGreatS12AxRfC
import Derived.Test.YthfhellfmbllhaaGreatS12AxArA
import Derived.Test.YthfhellfmbllhaaGreatS12AxRfB
namespace Go.AX
open Go.Proofs
set_option linter.unusedSimpArgs false
structure RelA (A:Ar) (a:RA):Prop where
  size:a.size=A.row.length
  rows:∀x∈a.rows,∃p:Nat,x.at'=p∧AtOk A p x.lits.length∧partA' A p x.lits.length=x.lits∧isA A p=true∧A.row.getD p 0=x.id
  is:∀q:Int,isA A q=true→∃x∈a.rows,x.at'=q
theorem relA_new:RelA ⟨[],[]⟩ ⟨[],0⟩:=⟨rfl,by simp,fun q h=>by simp[isA,lk]at h⟩
theorem relA_put {A:Ar} {a:RA} (h:RelA A a) {id:Int} {c:List Int} (hl:A.row.length+3+c.length≤1000000):RelA (putAr A id c) (putRA a id c):=by
 unfold putAr putRA
 by_cases he:putEA id c=0
 rotate_left
 ·rw[if_neg he,if_neg he];exact h
 rw[if_pos he,if_pos he];have hid:1≤id:=by
  unfold putEA at he;split at he
  ·cases he
  ·omega
 have hs:=h.size;have hw:w64 (w64 (a.size+3)+c.length)=a.size+3+c.length:=by
  rw[w64_id (n:=a.size+3) (by omega) (by omega),w64_id (n:=a.size+3+c.length) (by omega) (by omega)]
 have hlk:∀q:Int,lk (pt A.hd A.row.length id) q=if(A.row.length:Int)=q then some id else lk A.hd q:=fun q=>lk_pt A.hd _ id q;refine⟨?_,?_,?_⟩
 ·show w64 (w64 (a.size+3)+c.length)=_;rw[hw,hs];simp;omega
 ·intro x hx;rcases List.mem_append.1 hx with hx|hx
  ·obtain⟨p,e1,e2,e3,e4,e5⟩:=h.rows x hx;have hp:=e2.len;refine⟨p,e1,⟨by simp only[List.length_append];omega,?_⟩,?_,?_,?_⟩
   ·rw[←e2.num];simp only[List.getD_eq_getElem?_getD];rw[List.getElem?_append_left (by omega)]
   ·rw[←e3];unfold partA';simp only;rw[List.drop_append_of_le_length (by omega),List.take_append_of_le_length (by rw[List.length_drop,List.length_take,List.length_drop];omega),List.length_take,List.length_drop];congr 1;omega
   ·unfold isA at e4⊢;simp only[hlk];rw[if_neg (by omega)];exact e4
   ·rw[←e5];simp only[List.getD_eq_getElem?_getD];rw[List.getElem?_append_left (by omega)]
  ·simp at hx;subst hx;refine⟨A.row.length,hs,⟨by simp;omega,?_⟩,?_,?_,?_⟩
   ·simp only[List.getD_eq_getElem?_getD];rw[List.getElem?_append_right (by omega)];simp
   ·unfold partA';simp only;rw[List.drop_append,List.drop_eq_nil_of_le (by omega)];have:A.row.length+3 -A.row.length=3:=by omega
    simp[this]
   ·unfold isA;simp only[hlk,if_true,Option.getD_some,decide_eq_true_eq];omega
   ·simp only[List.getD_eq_getElem?_getD];rw[List.getElem?_append_right (by omega)];simp
 ·intro q hq;unfold isA at hq;simp only[hlk]at hq;split at hq
  ·rename_i e;exact⟨⟨a.size,id,c⟩,by simp,by rw[←e];exact hs⟩
  ·obtain⟨x,hx,e⟩:=h.is q hq;exact⟨x,List.mem_append_left _ hx,e⟩
structure DK where
  A:Ar
  T:Tr
  a:RA
  t:RT
  con:Int
structure PK where
  A:Ar
  a:RA
  rows:List (List Int)
  ats:List Int
def putK (x:PK) (c:List Int) (id:Int):PK:=
 ⟨putAr x.A id c,putRA x.a id c,if putEA id c=0∧chkC c 6=0 then x.rows++[c]else x.rows,if putEA id c=0∧chkC c 6=0 then x.ats++[putQA x.a id c]else x.ats⟩
def putL (cs:List (List Int)):Nat→PK
 |0=>⟨⟨[],[]⟩,⟨[],0⟩,[],[]⟩
 |i+1=>putK (putL cs i) (cs.getD i []) ((i+1:Nat):Int)
structure PKok (cs:List (List Int)) (i:Nat) (x:PK):Prop where
  rel:RelA x.A x.a
  len:x.A.row.length≤i*1003
  rlen:x.a.rows.length≤i
  sl:x.rows.length≤i
  al:x.ats.length=x.rows.length
  sub:∀c∈x.rows,c∈cs
  pos:∀y∈x.ats,0≤y
set_option maxRecDepth 8000 in
theorem putL_ok {cs:List (List Int)} (hc:fewC cs):∀i,i≤cs.length→PKok cs i (putL cs i)
 |0,_=>⟨relA_new,by simp[putL],by simp[putL],by simp[putL],rfl,by simp[putL],by simp[putL]⟩
 |i+1,hi=>by
  have h:=putL_ok hc i (by omega);obtain⟨h1,h2,h3,h4,h5,h6,h7⟩:=h;have hce:cs.getD i []=cs[i]:=by rw[List.getD_eq_getElem?_getD,List.getElem?_eq_getElem (by omega)];rfl
  have hcm:cs.getD i []∈cs:=by rw[hce];exact List.getElem_mem _
  have hcl:=hc.2 _ hcm;have h500:=hc.1;rw[putL];generalize putL cs i=x at*;generalize cs.getD i []=c at*;refine⟨relA_put (c:=c) h1 (by omega),?_,?_,?_,?_,?_,?_⟩
  ·unfold putK putAr;dsimp only;split
   ·simp only[List.length_append,List.length_cons,List.length_nil];omega
   ·omega
  ·unfold putK putRA;dsimp only;split
   ·simp only[List.length_append,List.length_cons,List.length_nil];omega
   ·omega
  ·unfold putK;dsimp only;split
   ·simp only[List.length_append,List.length_cons,List.length_nil];omega
   ·omega
  ·unfold putK;dsimp only;split
   ·simp[h5]
   ·exact h5
  ·unfold putK;dsimp only;split
   ·intro d hd;rcases List.mem_append.1 hd with hd|hd
    ·exact h6 d hd
    ·simp at hd;rw[hd];exact hcm
   ·exact h6
  ·unfold putK;dsimp only;split
   ·intro d hd;rcases List.mem_append.1 hd with hd|hd
    ·exact h7 d hd
    ·simp at hd;rw[hd];unfold putQA;split
     ·rw[h1.size];omega
     ·omega
   ·exact h7
end Go.AX