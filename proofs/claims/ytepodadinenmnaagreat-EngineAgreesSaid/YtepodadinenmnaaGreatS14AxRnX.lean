/-
  Contracts: how glued literals are; whether a clause is a reason.
  Contracts: arenas that are only read; what other literals a reason has.
  Contracts: the asker of what is deeply left over.
  Contracts: what is deeply left over; what is a part of what.
  Contracts: slices.DeleteFunc whose predicate turns blocks.
  Contracts: a clause that is made shorter.
  Each reason of a desk is a clause, all others of which fail by what stands ahead (plain law).
  What is left over, of a desk: it is deeply left over; made shorter again it is the same (plain law).
  Contracts: the probe of the layer shorten.
  Contracts: what other literals a reason has, and what is left over, by the document.
  What is left over, deeply, of a desk: the program's answer is the document's (plain law).
  How a desk's trail came about: each level is calm ahead of the next decision (plain law).
  A desk's trail came about as trails do; a conflict is a clause that fails (plain law).
  What a conflict teaches: of the last level one literal is left (plain law).
  What a conflict teaches: its first literal, its levels, and that it is shown by reasons (plain law).
  Contracts: a conflict is taken apart.
  Contracts: what a conflict teaches is gone through; levels; what fails.
  Contracts: what fails; whether literals say one thing ahead; the level to which one goes back.
  Contracts: the reasons that are needed are gathered.
  Contracts: by which clauses what a conflict teaches is shown.
  Contracts: the one literal of the greatest level first; what a conflict teaches.
  What is gathered of reasons is all that is needed (plain law).
  Hints that were found show what a conflict teaches (plain law).
  Contracts: assign: how many literals hold, fail, are open; what a unit says.
  Contracts: trails that go back.
  Plain facts: the level to which one goes back, and what fails there.
  Plain facts: what is learnt, made shorter, is shown as well, and holds where its hints do.
-/
import Derived.Test.YtepodadinenmnaaGreatS14AxDkQ
import Derived.Test.YtepodadinenmnaaGreatAxBM
import Derived.Test.YtepodadinenmnaaGreatS14AxGlC
import Derived.Test.YtepodadinenmnaaGreatS14AxEvC
import Derived.Test.YtepodadinenmnaaGreatS14AxShelf2
import Derived.Test.YtepodadinenmnaaGreatAxDl
import Derived.Test.YtepodadinenmnaaGreatS14AxMovR
namespace Go.AX
open Go.Proofs
set_option linter.unusedSimpArgs false
def qN(T:Tr)(l:List Int):Nat→List (Int×Int)
 |0=>[]
 |i+1=>if 0<(dq T (ab (l.getD i 0))).1.lev then pt (qN T l i) (dq T (ab (l.getD i 0))).1.lev (aM ((lk (qN T l i) (dq T (ab (l.getD i 0))).1.lev).getD 0+1))else qN T l i
def GG(T:Tr)(l:List Int):Int:=((qN T l l.length).length:Int)
set_option maxRecDepth 8000 in
theorem BD(T:Tr)(ht:T.ok)(l:List Int)(hl:l.length≤1000000):ao Tryz.prog 97 [bu T,.seq false 1 (af l)] (fun r=>r=.pv (ae (GG T l))):=by
 refine aw aG Tryz.func97 (by kernel_rfl) rfl rfl (by kernel_rfl) (Nat.le_of_ble_eq_true rfl) ?_;have hlv:=fun v=>eP T v ht;simp only[bu,cJ]at hlv;simp[bu,cJ];refine aH.intro (S:=fun(i:Nat)=>⟨[(0,.pv (bu T)),(5,.omap true (aT fI (qN T l i))),(12,.pv (.seq false 1 (af l))),(13,.pv (ae l.length)),(14,.pv (ae i))],[]⟩) (fun i=>i≤l.length) (fun i=>l.length -i) 0 ?_ (Nat.zero_le _) ?_
 ·exact aj.to (by simp[qN,bu,cJ,aT]) rfl (by simp) (by simp[bu,cJ]) (by simp)
 intro i hi
 by_cases ci:i<l.length
 ·have hw2:aM ((i:Int)+1)=((i+1:Nat):Int):=by rw[ah (by omega) (by omega)];omega
  have hgi:l.getD i 0=l[i]:=by rw[List.getD_eq_getElem?_getD,List.getElem?_eq_getElem ci];rfl
  have hN:qN T l (i+1)=if 0<(dq T (ab l[i])).1.lev then pt (qN T l i) (dq T (ab l[i])).1.lev (aM ((lk (qN T l i) (dq T (ab l[i])).1.lev).getD 0+1))else qN T l i:=by rw[qN,hgi]
  simp[ci,cJ];refine am.intro (aD l[i]) (by simp) ?_;simp[cJ];refine am.intro (hlv (ab l[i])) (by simp) ?_;generalize(dq T (ab l[i])).1.lev=n at*
  by_cases cn:0<n
  ·rw[if_pos cn]at hN;simp[cn];exact⟨i+1,by dsimp only;omega,by dsimp only;omega,aj.to (by simp[hw2,hN,bu,cJ]) rfl (by simp) (by simp[bu,cJ]) (by simp)⟩
  ·rw[if_neg cn]at hN;simp[cn];exact⟨i+1,by dsimp only;omega,by dsimp only;omega,aj.to (by simp[hw2,hN,bu,cJ]) rfl (by simp) (by simp[bu,cJ]) (by simp)⟩
 ·have:i=l.length:=by omega
  subst this;simp[GG,aT]
theorem iT(T:Tr):ao Tryz.prog 105 [bu T] (fun r=>r=.pv (ae T.beg.length)):=by
 refine aw aG Tryz.func105 (by kernel_rfl) rfl rfl (by kernel_rfl) (Nat.le_of_ble_eq_true rfl) ?_;have hi:=ld T;simp only[bu,cJ]at hi;simp[bu,cJ];refine am.intro hi (by simp) ?_;simp
def Ag(T:Tr)(at' l:Int):Bool:=decide (0<bV T l)&&decide ((dq T (ab l)).1.rea=at')
def DJ(T:Tr)(at':Int)(l:List Int):Bool:=l.any (Ag T at')
set_option maxRecDepth 8000 in
theorem yp(T:Tr)(ht:T.ok)(at' l:Int):ao Tryz.prog 255 [ae l,.iptr 1 [[bu T]] 0 0,.iptr 1 [[ae at']] 0 0] (fun r=>r=.pv (BL (Ag T at' l))):=by
 refine aw aG Tryz.func255 (by kernel_rfl) rfl rfl (by kernel_rfl) (Nat.le_of_ble_eq_true rfl) ?_;have hv:=eQ T l ht;have hr:=fC T (ab l) ht;simp only[bu,cJ]at hv hr;simp[bu,cJ];refine bs.intro hv (by simp) ?_;unfold Ag
 by_cases c:0<bV T l
 ·simp[c,cJ];refine dN.intro (r:=.pv (ae (ab l))) (fun _=>aD l) (by simp) ?_;simp[c,cJ];refine dN.intro (r:=.pv (ae (dq T (ab l)).1.rea)) (fun _=>hr) (by simp) ?_;simp
 ·simp[c,cJ];refine dN.intro (r:=.pv (ae (ab l))) (fun _=>aD l) (by simp) ?_;simp[c,cJ];refine dN.intro (r:=.pv (ae (dq T (ab l)).1.rea)) (fun _=>hr) (by simp) ?_;simp
set_option maxRecDepth 8000 in
theorem BE(T:Tr)(ht:T.ok)(at':Int)(l:List Int)(hl:l.length≤1000000):ao Tryz.prog 194 [bu T,ae at',.seq false 1 (af l)] (fun r=>r=.pv (BL (DJ T at' l))):=by
 refine aw aG Tryz.func194 (by kernel_rfl) rfl rfl (by kernel_rfl) (Nat.le_of_ble_eq_true rfl) ?_;have hc:=ff l hl 255 [.iptr 1 [[bu T]] 0 0,.iptr 1 [[ae at']] 0 0] (Ag T at') (fun r=>by simp[bu,cJ]) rfl (fun k=>by simp[bu,cJ]) (fun x _=>yp T ht at' x);simp only[bu,cJ]at hc;simp[bu,cJ,bq];refine bY.intro (r:=.pv (BL (DJ T at' l))) (fun _=>hc) (by simp) ?_;simp
def nD(A:Ar):List PV:=[.seq false 1 (af A.row),.amap false (aT fI A.hd)]
abbrev jY(A:Ar):PV:=.iptr 2 [nD A] 0 0
@[simp] theorem BF:∀l:List Int,tR (af l)
 |[]=>trivial
 |_::l=>⟨⟨trivial,trivial⟩,BF l⟩
@[simp] theorem DL:∀l:List Mk,tR (l.map nV)
 |[]=>trivial
 |_::l=>⟨⟨trivial,trivial,trivial,trivial,trivial⟩,DL l⟩
theorem GI{h:List (List SV)}{b:Nat}{A:Ar}(hb:h[b]?=some (lf A))(n:Nat):bq h (n+1) b 0=jY A:=by
 obtain⟨hlt,hb'⟩:=List.getElem?_eq_some_iff.1 hb;simp[bq,hlt,hb',lf,nD,frzC]
@[simp] theorem Jw(k v:Int)(l:List (Int×Int)):aT fI ((k,v)::l)=(k,ae v)::aT fI l:=rfl
theorem BG(A:Ar)(h0:A.hd≠[]):ao Tryz.prog 207 [jY A] (fun r=>r=.pv (BL true)):=by
 refine aw aG Tryz.func207 (by kernel_rfl) rfl rfl (by kernel_rfl) (Nat.le_of_ble_eq_true rfl) ?_;obtain⟨row,hd⟩:=A;cases hd with
 |nil=>exact absurd rfl h0
 |cons x hd=>
  obtain⟨k,v⟩:=x;simp[jY,nD]
theorem Ah(A:Ar)(h0:A.hd≠[])(q:Int):ao Tryz.prog 237 [jY A,ae q] (fun r=>r=.pv (BL (isA A q))):=by
 refine aw aG Tryz.func237 (by kernel_rfl) rfl rfl (by kernel_rfl) (Nat.le_of_ble_eq_true rfl) ?_;have hm:=BG A h0;simp only[jY,nD]at hm;simp[jY,nD];refine am.intro hm (by simp) ?_;simp[isA]
set_option maxRecDepth 8000 in
theorem BH(h:List (List SV))(A:Ar)(p n:Nat)(ha:AtOk A p n)(hl:A.row.length≤1000000000):aE Tryz.prog 239 [jY A,ae p] h (fun r h'=>h'=h∧r=.pv (.seq false 1 (af (dr A p n)))):=by
 refine fA [] [.tmp 4] aG Tryz.func239 (by kernel_rfl) rfl rfl (by kernel_rfl) (Nat.le_of_ble_eq_true rfl) ?_;obtain⟨a1,a2⟩:=ha;have h1:p+1<A.row.length:=by omega
 have h2:A.row[p+1]=(n:Int):=by rw[←a2,List.getD_eq_getElem?_getD,List.getElem?_eq_getElem h1];rfl
 have w1:aM ((p:Int)+1)=((p+1:Nat):Int):=by rw[ah (by omega) (by omega)];omega
 have w3:aM ((p:Int)+3)=((p+3:Nat):Int):=by rw[ah (by omega) (by omega)];omega
 have w4:aM ((p:Int)+3+n)=(p:Int)+3+n:=ah (by omega) (by omega);have hrw:List.drop (p+3) (List.take (p+3+n) (af A.row))=af (dr A p n):=by
  unfold af dr;rw[←List.map_take,←List.map_drop,List.drop_take];congr 3;omega
 have t1:((p:Int)+3).toNat=p+3:=by omega
 have t2:((p:Int)+3+n).toNat=p+3+n:=by omega
 simp[jY,nD,w1,w3,w4,h1,h2,t1,t2,hrw,fe]
 try omega
def aq(A:Ar)(q:Int):List Int:=if isA A q=true then dr A q.toNat (A.row.getD (q.toNat+1) 0).toNat else[]
def jC(A:Ar):Prop:=∀q:Int,isA A q=true→∃p n:Nat,q=(p:Int)∧AtOk A p n
set_option maxRecDepth 8000 in
theorem iU(A:Ar)(h0:A.hd≠[])(hk:jC A)(hl:A.row.length≤1000000)(q:Int):ao Tryz.prog 160 [jY A,ae q] (fun r=>r=.own true 1 (af (aq A q))):=by
 refine ao.own0 (R:=fun r=>r=.own true 1 (af (aq A q))∨(aq A q=[]∧r=.pv (.lit (.slice none 0 0)))) ?_ (fun r h=>h.imp id fun⟨e1,e2⟩=>⟨e2,true,1,by rw[e1];rfl⟩);refine aw aG Tryz.func160 (by kernel_rfl) rfl rfl (by kernel_rfl) (Nat.le_of_ble_eq_true rfl) ?_;have hi:=Ah A h0 q;simp only[jY,nD]at hi;simp[jY,nD];refine am.intro hi (by simp) ?_
 by_cases c:isA A q=true
 rotate_left
 ·have c':isA A q=false:=by simpa using c
  have hL:aq A q=[]:=if_neg c;simp[c',hL]
 obtain⟨p,n,rfl,ha⟩:=hk q c;have hv:=fun h=>BH h A p n ha (by omega);have hL:aq A p=dr A p n:=by
  unfold aq;rw[if_pos c,Int.toNat_natCast,ha.num,Int.toNat_natCast]
 obtain⟨a1,a2⟩:=ha;have h1:p+1<A.row.length:=by omega
 have h2:A.row[p+1]=(n:Int):=by rw[←a2,List.getD_eq_getElem?_getD,List.getElem?_eq_getElem h1];rfl
 have w1:aM ((p:Int)+1)=((p+1:Nat):Int):=by rw[ah (by omega) (by omega)];omega
 have hpl:(dr A p n).length=n:=by unfold dr;rw[List.length_take,List.length_drop];omega
 have hpt:(af (dr A p n)).take n=af (dr A p n):=List.take_of_length_le (by simp[hpl]);rw[hL];generalize dr A p n=y at*;simp only[jY,nD]at hv;simp[c,w1,h1,h2,nD];refine⟨by omega,by omega,?_⟩;refine am.introM (hv _) (by simp) ?_;rintro _ _ ⟨rfl,rfl⟩;simp[hpl,hpt]
theorem eU(A:Ar)(hk:jC A)(q:Int):(aq A q).length≤A.row.length:=by
 unfold aq;split
 ·unfold dr;rw[List.length_take,List.length_drop];omega
 ·simp
def rS(T:Tr)(l x:Int):Bool:=decide (x=aM (-l))||decide ((dq T (ab x)).1.lev=0)
def nE(A:Ar)(T:Tr)(l:Int):Bool:=!(decide (0≤bV T l)||decide ((dq T (ab l)).1.rea<0)||!mL (aq A (dq T (ab l)).1.rea) (aM (-l)))
def qO(A:Ar)(T:Tr)(l:Int):List Int:=if nE A T l=true then(aq A (dq T (ab l)).1.rea).filter fun x=>!rS T l x else[]
set_option maxRecDepth 8000 in
theorem IA(T:Tr)(ht:T.ok)(l x:Int):ao Tryz.prog 289 [ae x,.iptr 1 [[ae l]] 0 0,.iptr 1 [[bu T]] 0 0] (fun r=>r=.pv (BL (rS T l x))):=by
 refine aw aG Tryz.func289 (by kernel_rfl) rfl rfl (by kernel_rfl) (Nat.le_of_ble_eq_true rfl) ?_;have hv:=eP T (ab x) ht;simp only[bu,cJ]at hv;unfold rS
 by_cases c:x=aM (-l)
 ·simp[bu,cJ,c];refine dN.intro (fun h:False=>h.elim) (r:=.pv (ae 0)) (by simp) ?_;simp[cJ];refine dN.intro (fun h:False=>h.elim) (r:=.pv (ae 0)) (by simp) ?_;simp
 ·simp[bu,cJ,c];refine dN.intro (fun _=>aD x) (by simp) ?_;simp[cJ];refine dN.intro (fun _=>hv) (by simp) ?_;simp
set_option maxRecDepth 16000 in
theorem BI(A:Ar)(T:Tr)(l:Int)(ht:T.ok)(hk:jC A)(hl:A.row.length≤1000000)(h0:0≤(dq T (ab l)).1.rea→A.hd≠[]):ao Tryz.prog 246 [jY A,bu T,ae l] (fun r=>r=.pv (.tup [.seq true 1 (af (qO A T l)),BL (nE A T l)])):=by
 refine ao.wk (R:=fun r=>∃x,r=.pv x∧cz x (.tup [.seq true 1 (af (qO A T l)),BL (nE A T l)])) ?_ (fun r ⟨x,e,h⟩=>⟨x,_,e,h,rfl⟩);refine kU [] [.tmp 6,.tmp 7] aG Tryz.func246 (by kernel_rfl) rfl rfl (by kernel_rfl) (Nat.le_of_ble_eq_true rfl) ?_;have hr:=fC T (ab l) ht;have hv:=eQ T l ht;have hL:=fun h=>iU A h hk hl (dq T (ab l)).1.rea;have hlow:=fun x=>IA T ht l x;simp only[bu,cJ]at hr hv;simp only[jY,nD]at hL;simp[jY,nD,bu,cJ];refine bs.intro (aD l) (by simp) ?_;simp[cJ];refine bs.intro hr (by simp) ?_;simp[cJ];refine bs.intro hv (by simp) ?_;have hB:nE A T l=!(decide (0≤bV T l)||decide ((dq T (ab l)).1.rea<0)||!mL (aq A (dq T (ab l)).1.rea) (aM (-l))):=rfl;have hO:qO A T l=if nE A T l=true then(aq A (dq T (ab l)).1.rea).filter fun x=>!rS T l x else[]:=rfl;have hla:=eU A hk (dq T (ab l)).1.rea;generalize(dq T (ab l)).1.rea=why at*
 by_cases c1:0≤bV T l
 ·have hB':nE A T l=false:=by rw[hB];simp[c1]
  rw[hB']at hO;simp only[Bool.false_eq_true,if_false]at hO;simp[c1,hB',hO];refine dN.intro (fun h:False=>h.elim) (r:=.pv (.seq true 1 [])) (by simp) ?_;simp;refine dN.intro (fun h:False=>h.elim) (r:=.pv (BL false)) (by simp) ?_;simp[cz,cI,af]
 by_cases c2:why<0
 ·have hB':nE A T l=false:=by rw[hB];simp[c2]
  rw[hB']at hO;simp only[Bool.false_eq_true,if_false]at hO;simp[c1,c2,hB',hO];refine dN.intro (fun h:False=>h.elim) (r:=.pv (.seq true 1 [])) (by simp) ?_;simp;refine dN.intro (fun h:False=>h.elim) (r:=.pv (BL false)) (by simp) ?_;simp[cz,cI,af]
 have hL:=hL (h0 (by omega));simp[c1,c2];refine dN.intro (fun _=>hL) (by simp) ?_;simp;refine dN.intro (fun _=>Iq _ (aM (-l)) (by omega)) (by simp) ?_;cases c3:mL (aq A why) (aM (-l))
 ·have hB':nE A T l=false:=by rw[hB];simp[c3]
  rw[hB']at hO;simp only[Bool.false_eq_true,if_false]at hO;simp[hB',hO,cz,cI,af]
 ·have hB':nE A T l=true:=by rw[hB];simp[c1,c2,c3]
  rw[hB']at hO;simp only[if_true]at hO;simp[hB',cJ,nD];refine am.intro hL (by simp) ?_;generalize aq A why=y at*;have hD:=gM y (by omega) 289 [.iptr 1 [[ae l]] 0 0,.iptr 1 [[bu T]] 0 0] (rS T l) (fun r=>by simp[bu,cJ]) rfl (fun k=>by simp[bu,cJ]) (by simp[bu,cJ,PV.old,o9,tR]) (fun x _=>hlow x);simp;refine am.introX (dg.introS (o:=.slot 34) (lo:=0) (hi:=y.length) hD (by simp) rfl rfl (by simp) (by simp) rfl (by simp;rw[List.take_of_length_le (by simp)];rfl) (bc 0 y) (by simp) (by simp[bu,cJ,bq]) ?_);rintro k rows' ⟨rfl,rfl⟩ _ _;have hd1:List.drop y.length (af y)=[]:=List.drop_eq_nil_of_le (by simp);have hd2:∀X,List.take (aU (rS T l) y).length (az (aU (rS T l) y++X))=af (aU (rS T l) y):=fun X=>by
   unfold az;rw[List.map_append,List.take_left' (by simp)];rfl
  have hO':aU (rS T l) y=qO A T l:=hO.symm;simp[hd1,hd2,hO',cz,cI];rw[hO']at hd2;exact hd2 _
theorem DM(A:Ar)(T:Tr)(l:Int)(hk:jC A):(qO A T l).length≤A.row.length:=by
 unfold qO;split
 ·exact Nat.le_trans (List.length_filter_le _ _) (eU A hk _)
 ·simp
def nF(n:Nat):PV:=.fn (.func 244) [] [.ptr (n+1) 0,.ptr (n+3) 0,.ptr n 0,.ptr (n+2) 0,.ptr (n+4) 0]
def DN(A:Ar)(T:Tr)(lits:List Int)(m:List (Int×Int))(n:Nat):List (List SV):=[[.pv (jY A)],[.pv (bu T)],[.pv (.seq false 1 (af lits))],[.omap true (aT fI m)],[.pv (nF n)]]
set_option maxRecDepth 8000 in
theorem DO(h:List (List SV))(A:Ar)(T:Tr)(lits:List Int):aE Tryz.prog 164 [jY A,bu T,.seq false 1 (af lits)] h (fun r h'=>h'=h++DN A T lits [] h.length∧r=.pv (nF h.length)):=by
 refine dh [] [.tmp 6] aG Tryz.func164 (by kernel_rfl) rfl rfl (by kernel_rfl) (Nat.le_of_ble_eq_true rfl) ?_;simp[jY,nD,bu,cJ,DN,nF];rfl
def cr(T:Tr)(l:Int):Int:=(dq T (ab l)).1.pla
def jP(T:Tr)(lits:List Int)(l x:Int):Bool:=!decide (x=l)&&(decide (x∈lits)&&decide (cr T x<cr T l))
def mf(A:Ar)(T:Tr)(lits:List Int):Nat→Int→Bool
 |0,_=>false
 |k+1,l=>nE A T l&&(qO A T l).all fun x=>jP T lits l x||(decide (0≤cr T x∧cr T x<cr T l)&&mf A T lits k x)
theorem wm(A:Ar)(T:Tr)(lits:List Int):∀(k k':Nat)(l:Int),(cr T l).toNat<k→(cr T l).toNat<k'→mf A T lits k l=mf A T lits k' l
 |0,_,_,h,_=>by omega
 |_+1,0,_,_,h=>by omega
 |k+1,k'+1,l,h,h'=>by
  have e:(fun x=>jP T lits l x||(decide (0≤cr T x∧cr T x<cr T l)&&mf A T lits k x))=(fun x=>jP T lits l x||(decide (0≤cr T x∧cr T x<cr T l)&&mf A T lits k' x)):=by
   funext x
   by_cases c:0≤cr T x∧cr T x<cr T l
   ·rw[wm A T lits k k' x (by omega) (by omega)]
   ·rw[decide_eq_false c,Bool.false_and,Bool.false_and]
  rw[mf,mf,e]
def jQ(A:Ar)(T:Tr)(lits:List Int)(l:Int):Bool:=mf A T lits ((cr T l).toNat+1) l
def mg(A:Ar)(T:Tr)(lits:List Int)(l x:Int):Bool:=jP T lits l x||(decide (0≤cr T x∧cr T x<cr T l)&&jQ A T lits x)
theorem qP(A:Ar)(T:Tr)(lits:List Int)(l:Int):jQ A T lits l=(nE A T l&&(qO A T l).all (mg A T lits l)):=by
 have e:(fun x=>jP T lits l x||(decide (0≤cr T x∧cr T x<cr T l)&&mf A T lits (cr T l).toNat x))=mg A T lits l:=by
  funext x;unfold mg jQ
  by_cases c:0≤cr T x∧cr T x<cr T l
  ·rw[wm A T lits (cr T l).toNat ((cr T x).toNat+1) x (by omega) (by omega)]
  ·rw[decide_eq_false c,Bool.false_and,Bool.false_and]
 unfold jQ;rw[mf,e]
def gP(A:Ar)(T:Tr)(lits:List Int)(l before:Int):Bool:=decide (0≤cr T l∧cr T l<before)&&jQ A T lits l
def mP(A:Ar)(T:Tr)(lits:List Int)(m:List (Int×Int)):Prop:=∀q:Int,(lk m q).getD 0=0∨((lk m q).getD 0=1∧jQ A T lits q=true)∨((lk m q).getD 0=2∧jQ A T lits q=false)
def lN:Sch:=
 let E:Sch:=.fork [(14,.take 16 (.take 17 (.take 18 (.take 20 (.take 21 (.fork [(19,.fork [(22,.take 23 (.take 24 (.fork [(25,.done)])))])]))))))]
 .take 0 (.take 1 (.take 2 (.take 3 (.take 4 (.take 5 (.take 7 (.fork [(6,.fork [(8,.take 9 (.take 10 (.take 12 (.take 15 (.fork [(11,.fork [(13,E)]),(13,.fork [(11,E)])])))))])])))))))
structure AskAt (A:Ar) (T:Tr) (lits:List Int) (m:List (Int×Int)) (n:Nat) (h:List (List SV)):Prop where
  b0:h[n]?=some [.pv (jY A)]
  b1:h[n+1]?=some [.pv (bu T)]
  b2:h[n+2]?=some [.pv (.seq false 1 (af lits))]
  b3:h[n+3]?=some [.omap true (aT fI m)]
  b4:h[n+4]?=some [.pv (nF n)]
theorem AskAt.set{A:Ar}{T:Tr}{lits:List Int}{m m':List (Int×Int)}{n:Nat}{h:List (List SV)}(a:AskAt A T lits m n h):AskAt A T lits m' n (h.set (n+3) [.omap true (aT fI m')])where
 b0:=by rw[List.getElem?_set_ne (by omega)];exact a.b0
 b1:=by rw[List.getElem?_set_ne (by omega)];exact a.b1
 b2:=by rw[List.getElem?_set_ne (by omega)];exact a.b2
 b3:=by rw[List.getElem?_set_self (List.getElem?_eq_some_iff.1 a.b3).1]
 b4:=by rw[List.getElem?_set_ne (by omega)];exact a.b4
structure ShOk (A:Ar) (T:Tr) (lits:List Int):Prop where
  tr:T.ok
  ar:jC A
  len:A.row.length≤1000000
  few:lits.length≤1000000
  hd:∀v,0≤(dq T v).1.rea→A.hd≠[]
set_option maxRecDepth 16000 in
theorem DP(A:Ar)(T:Tr)(lits:List Int)(n:Nat)(hs:ShOk A T lits)(l before:Int)(m:List (Int×Int))(h:List (List SV))(hN:¬(0≤cr T l∧cr T l<before))(ha:AskAt A T lits m n h)(hm:mP A T lits m):
 aE Tryz.prog 244 [ae l,ae before,.ptr (n+1) 0,.ptr (n+3) 0,.ptr n 0,.ptr (n+2) 0,.ptr (n+4) 0] h (fun r h'=>∃m',mP A T lits m'∧h'=h.set (n+3) [.omap true (aT fI m')]∧r=.pv (BL (gP A T lits l before))):=by
 refine dh [10] [.tmp 9] aG Tryz.func244 (by kernel_rfl) rfl rfl (by kernel_rfl) (Nat.le_of_ble_eq_true rfl) ?_;have hpl:=lK T (ab l) hs.tr;have hpd:(dq T (ab l)).1.pla=cr T l:=rfl;obtain⟨n0,g0⟩:=List.getElem?_eq_some_iff.1 ha.b0;obtain⟨n1,g1⟩:=List.getElem?_eq_some_iff.1 ha.b1;obtain⟨n2,g2⟩:=List.getElem?_eq_some_iff.1 ha.b2;obtain⟨n3,g3⟩:=List.getElem?_eq_some_iff.1 ha.b3;obtain⟨n4,g4⟩:=List.getElem?_eq_some_iff.1 ha.b4;rw[hpd]at hpl;simp only[bu,cJ]at hpl;simp[n1,g1,bu,cJ];refine bs.intro (aD l) (by simp) ?_;simp[n1,g1,bu,cJ];refine bs.intro hpl (by simp) ?_
 by_cases c1:cr T l<0
 ·have hB:gP A T lits l before=false:=by unfold gP;rw[decide_eq_false (by omega),Bool.false_and]
  simp[c1,hB];exact⟨m,hm,(cQ ha.b3).symm⟩
 by_cases c2:before≤cr T l
 ·have hB:gP A T lits l before=false:=by unfold gP;rw[decide_eq_false (by omega),Bool.false_and]
  simp[c1,c2,hB];exact⟨m,hm,(cQ ha.b3).symm⟩
 exact absurd ⟨by omega,by omega⟩ hN
set_option maxRecDepth 16000 in
theorem GJ(A:Ar)(T:Tr)(lits:List Int)(n:Nat)(hs:ShOk A T lits):∀(N:Nat)(l before:Int)(m:List (Int×Int))(h:List (List SV)),(0≤cr T l→cr T l<before→cr T l<N)→AskAt A T lits m n h→mP A T lits m→
 aE Tryz.prog 244 [ae l,ae before,.ptr (n+1) 0,.ptr (n+3) 0,.ptr n 0,.ptr (n+2) 0,.ptr (n+4) 0] h (fun r h'=>∃m',mP A T lits m'∧h'=h.set (n+3) [.omap true (aT fI m')]∧r=.pv (BL (gP A T lits l before))):=by
 intro N
 induction N with
 |zero=>
  intro l before m h hN ha hm;exact DP A T lits n hs l before m h (fun c=>by have:=hN c.1 c.2;omega) ha hm
 |succ N ih=>
  intro l before m h hN ha hm;refine dh [10] [.tmp 9] aG Tryz.func244 (by kernel_rfl) rfl rfl (by kernel_rfl) (Nat.le_of_ble_eq_true rfl) ?_;have hpl:=lK T (ab l) hs.tr;have hpd:(dq T (ab l)).1.pla=cr T l:=rfl;obtain⟨n0,g0⟩:=List.getElem?_eq_some_iff.1 ha.b0;obtain⟨n1,g1⟩:=List.getElem?_eq_some_iff.1 ha.b1;obtain⟨n2,g2⟩:=List.getElem?_eq_some_iff.1 ha.b2;obtain⟨n3,g3⟩:=List.getElem?_eq_some_iff.1 ha.b3;obtain⟨n4,g4⟩:=List.getElem?_eq_some_iff.1 ha.b4;rw[hpd]at hpl;simp only[bu,cJ]at hpl;simp[n1,g1,bu,cJ];refine bs.intro (aD l) (by simp) ?_;simp[n1,g1,bu,cJ];refine bs.intro hpl (by simp) ?_
  by_cases c1:cr T l<0
  ·have hB:gP A T lits l before=false:=by unfold gP;rw[decide_eq_false (by omega),Bool.false_and]
   simp[c1,hB];exact⟨m,hm,(cQ ha.b3).symm⟩
  by_cases c2:before≤cr T l
  ·have hB:gP A T lits l before=false:=by unfold gP;rw[decide_eq_false (by omega),Bool.false_and]
   simp[c1,c2,hB];exact⟨m,hm,(cQ ha.b3).symm⟩
  have hB:gP A T lits l before=jQ A T lits l:=by unfold gP;rw[decide_eq_true (by omega),Bool.true_and]
  rw[hB];have hml:=hm l
  by_cases c3:(lk m l).getD 0=0
  rotate_left
  ·simp[c1,c2,n3,g3,c3];refine⟨m,hm,(cQ ha.b3).symm,?_⟩;rcases hml with e|⟨e,e2⟩|⟨e,e2⟩
   ·exact absurd e c3
   ·rw[e,e2];rfl
   ·rw[e,e2];rfl
  have hot:=BI A T l hs.tr hs.ar hs.len (hs.hd _);have hol:=DM A T l hs.ar;have hst:=qP A T lits l;simp only[jY,nD,bu,cJ]at hot;simp[c1,c2,n0,g0,n1,g1,n3,g3,c3,jY,nD,bu,cJ];refine am.intro hot (by simp) ?_;simp;generalize qO A T l=rest at*;generalize nE A T l=ok at*;refine aH.intro (S:=fun(y:Nat×List (Int×Int))=>⟨[(0,.pv (ae l)),(1,.pv (ae before)),(2,.pv (.ptr (n+1) 0)),(3,.pv (.ptr (n+3) 0)),(4,.pv (.ptr n 0)),(5,.pv (.ptr (n+2) 0)),(6,.pv (.ptr (n+4) 0)),(10,.pv (ae (cr T l))),(12,.pv (BL (ok&&(rest.take y.1).all (mg A T lits l)))),(41,.pv (.seq true 1 (af rest))),(42,.pv (ae rest.length)),(43,.pv (ae y.1))],h.set (n+3) [.omap true (aT fI y.2)]⟩) (fun y=>y.1≤rest.length∧mP A T lits y.2) (fun y=>rest.length -y.1) (0,m) ?_ ⟨Nat.zero_le _,hm⟩ ?_
  ·exact aj.keep (by simp) (cQ ha.b3).symm
  rintro⟨i,m1⟩ ⟨hi,hm1⟩;dsimp only at hi hm1;have ha1:AskAt A T lits m1 n (h.set (n+3) [.omap true (aT fI m1)]):=ha.set;have hss:∀X Y:List SV,(h.set (n+3) X).set (n+3) Y=h.set (n+3) Y:=fun X Y=>List.set_set ..;have hHl:(h.set (n+3) [.omap true (aT fI m1)]).length=h.length:=List.length_set ..;generalize hH:h.set (n+3) [.omap true (aT fI m1)]=H at*;obtain⟨k0,f0⟩:=List.getElem?_eq_some_iff.1 ha1.b0;obtain⟨k1,f1⟩:=List.getElem?_eq_some_iff.1 ha1.b1;obtain⟨k2,f2⟩:=List.getElem?_eq_some_iff.1 ha1.b2;obtain⟨k3,f3⟩:=List.getElem?_eq_some_iff.1 ha1.b3;obtain⟨k4,f4⟩:=List.getElem?_eq_some_iff.1 ha1.b4
  by_cases ci:i<rest.length
  ·have hw2:aM ((i:Int)+1)=((i+1:Nat):Int):=by
    have:=hs.len;rw[ah (by omega) (by omega)];omega
   have hacc1:(ok&&(rest.take (i+1)).all (mg A T lits l))=((ok&&(rest.take i).all (mg A T lits l))&&mg A T lits l rest[i]):=by
    rw[List.take_add_one,List.getElem?_eq_getElem ci,Option.toList_some,List.all_append];simp[Bool.and_assoc]
   simp[ci];refine aY.one lN (by kernel_rfl) ?_;generalize hacc:(ok&&(rest.take i).all (mg A T lits l))=acc at*;cases acc
   ·simp[lN,ci,k1,f1,k2,f2,k4,f4];refine bY.intro (fun h:False=>h.elim) (r:=.pv (BL false)) (by simp) ?_;simp[ci,k1,f1,k2,f2,k4,f4,bu,cJ];and_intros
    all_goals
     refine bY.intro (fun h:False=>h.elim) (r:=.pv (ae 0)) (by simp) ?_;simp[ci,k1,f1,k2,f2,k4,f4,bu,cJ];refine bY.intro (fun h:False=>h.elim) (r:=.pv (ae 0)) (by simp) ?_;simp[ci,k1,f1,k2,f2,k4,f4,bu,cJ,nF];exact⟨(i+1,m1),by(try dsimp only);omega,⟨by(try dsimp only);omega,hm1⟩,aj.keep (by simp[hw2,hacc1]) (by simp[hH])⟩
   ·generalize hxx:rest[i]=x at*;have hcon:=ir lits x (by have:=hs.few;omega);have hpx:=lK T (ab x) hs.tr;have hpxd:(dq T (ab x)).1.pla=cr T x:=rfl;rw[hpxd]at hpx;simp only[bu,cJ]at hpx;have hrec:=ih x (cr T l) m1 H (fun h1 h2=>by have:=hN (by omega) (by omega);omega) ha1 hm1;have hP:mg A T lits l x=(jP T lits l x||gP A T lits x (cr T l)):=rfl;have hSt:jP T lits l x=(!decide (x=l)&&(decide (x∈lits)&&decide (cr T x<cr T l))):=rfl
    by_cases c5:x=l
    ·have hst0:jP T lits l x=false:=by rw[hSt];simp[c5]
     rw[hst0,Bool.false_or]at hP;rw[c5]at hrec hP hxx hacc1;rw[hP]at hacc1;simp[lN,ci,k1,f1,k2,f2,k4,f4,hxx,bu,cJ,c5];refine bY.intro (fun h:False=>h.elim) (r:=.pv (BL false)) (by simp) ?_;simp[ci,k1,f1,k2,f2,k4,f4,hxx,bu,cJ];and_intros
     all_goals
      refine bY.intro (fun h:False=>h.elim) (r:=.pv (ae 0)) (by simp) ?_;simp[ci,k1,f1,k2,f2,k4,f4,hxx,bu,cJ];refine bY.intro (fun h:False=>h.elim) (r:=.pv (ae 0)) (by simp) ?_;simp[ci,k1,f1,k2,f2,k4,f4,hxx,bu,cJ,nF];refine ak.intro hrec (by trivial) ?_;rintro _ _ ⟨m2,hm2,rfl,rfl⟩;simp;exact⟨(i+1,m2),by(try dsimp only);omega,⟨by(try dsimp only);omega,hm2⟩,aj.keep (by simp[hw2,hacc1]) (by simp[←hH,hss])⟩
    ·by_cases c6:x∈lits
     ·by_cases c7:cr T x<cr T l
      ·have hst0:jP T lits l x=true:=by rw[hSt];simp[c5,c6,c7]
       rw[hst0,Bool.true_or]at hP;rw[hP]at hacc1;simp[lN,ci,k1,f1,k2,f2,k4,f4,hxx,bu,cJ,c5];refine bY.intro (fun _=>hcon) (by simp) ?_;simp[ci,k1,f1,k2,f2,k4,f4,hxx,bu,cJ,c6];and_intros
       all_goals
        refine bY.intro (fun _=>aD x) (by simp) ?_;simp[ci,k1,f1,k2,f2,k4,f4,hxx,bu,cJ,c6];refine bY.intro (fun _=>hpx) (by simp) ?_;simp[ci,k1,f1,k2,f2,k4,f4,hxx,bu,cJ,nF,c6,c7];exact⟨(i+1,m1),by(try dsimp only);omega,⟨by(try dsimp only);omega,hm1⟩,aj.keep (by simp[hw2,hacc1]) (by simp[hH])⟩
      ·have hst0:jP T lits l x=false:=by rw[hSt];simp[c7]
       rw[hst0,Bool.false_or]at hP;rw[hP]at hacc1;simp[lN,ci,k1,f1,k2,f2,k4,f4,hxx,bu,cJ,c5];refine bY.intro (fun _=>hcon) (by simp) ?_;simp[ci,k1,f1,k2,f2,k4,f4,hxx,bu,cJ,c6];and_intros
       all_goals
        refine bY.intro (fun _=>aD x) (by simp) ?_;simp[ci,k1,f1,k2,f2,k4,f4,hxx,bu,cJ,c6];refine bY.intro (fun _=>hpx) (by simp) ?_;simp[ci,k1,f1,k2,f2,k4,f4,hxx,bu,cJ,nF,c6,c7];refine ak.intro hrec (by trivial) ?_;rintro _ _ ⟨m2,hm2,rfl,rfl⟩;simp;exact⟨(i+1,m2),by(try dsimp only);omega,⟨by(try dsimp only);omega,hm2⟩,aj.keep (by simp[hw2,hacc1]) (by simp[←hH,hss])⟩
     ·have hst0:jP T lits l x=false:=by rw[hSt];simp[c6]
      rw[hst0,Bool.false_or]at hP;rw[hP]at hacc1;simp[lN,ci,k1,f1,k2,f2,k4,f4,hxx,bu,cJ,c5];refine bY.intro (fun _=>hcon) (by simp) ?_;simp[ci,k1,f1,k2,f2,k4,f4,hxx,bu,cJ,c6];and_intros
      all_goals
       refine bY.intro (fun h:False=>h.elim) (r:=.pv (ae 0)) (by simp) ?_;simp[ci,k1,f1,k2,f2,k4,f4,hxx,bu,cJ];refine bY.intro (fun h:False=>h.elim) (r:=.pv (ae 0)) (by simp) ?_;simp[ci,k1,f1,k2,f2,k4,f4,hxx,bu,cJ,nF];refine ak.intro hrec (by trivial) ?_;rintro _ _ ⟨m2,hm2,rfl,rfl⟩;simp;exact⟨(i+1,m2),by(try dsimp only);omega,⟨by(try dsimp only);omega,hm2⟩,aj.keep (by simp[hw2,hacc1]) (by simp[←hH,hss])⟩
  ·have hie:i=rest.length:=by omega
   subst hie;rw[List.take_length,←hst];have hlk2:∀q:Int,lk (pt m1 l 2) q=if l=q then some 2 else lk m1 q:=fun q=>bz m1 l 2 q;have hlk1:∀q:Int,lk (pt (pt m1 l 2) l 1) q=if l=q then some 1 else lk (pt m1 l 2) q:=fun q=>bz (pt m1 l 2) l 1 q;cases hv:jQ A T lits l
   ·simp[k3,f3];refine⟨pt m1 l 2,fun q=>?_,?_⟩
    ·rw[hlk2];split
     ·rename_i e;subst e;exact .inr (.inr ⟨rfl,hv⟩)
     ·exact hm1 q
    ·simp[←hH,hss]
   ·simp[k3,f3];refine⟨pt (pt m1 l 2) l 1,fun q=>?_,?_⟩
    ·rw[hlk1];split
     ·rename_i e;subst e;exact .inr (.inl ⟨rfl,hv⟩)
     ·rename_i e;rw[hlk2,if_neg e];exact hm1 q
    ·simp[←hH,hss]
def fY(A:Ar)(T:Tr)(lits:List Int)(l:Int):Bool:=gP A T lits l T.lits.length
theorem DQ(A:Ar)(T:Tr)(lits:List Int):mP A T lits []:=fun q=>.inl rfl
set_option maxRecDepth 8000 in
theorem BJ(zs:List Int)(hl:zs.length≤1000000)(g:Nat)(cap:List PV)(p:Int→Bool)(n:Nat)(Inv:List (List SV)→Prop)(hp:iE cap=true)(pre suf:List Value)(cp:Nat)
 (hz:∀x∈zs,∀h,Inv h→aE Tryz.prog g (ae x::cap) h (fun r h'=>Inv h'∧h'[n]?=h[n]?∧r=.pv (BL (p x)))) (h:List (List SV)) (hI:Inv h) (hn:h[n]?=some (blk pre zs suf)):
 aE Tryz.prog 230 [.bsl n 1 pre.length zs.length cp,.fn (.func g) [] cap] h (fun r h'=>Inv h'∧h'[n]?=some (blk pre zs suf)∧r=.pv (ae (jX p zs))):=by
 refine l9 aG Tryz.func230 (by kernel_rfl) rfl rfl (by kernel_rfl) (Nat.le_of_ble_eq_true rfl) ?_;simp;refine aH.intro (S:=fun(y:Nat×List (List SV))=>⟨[(0,.pv (.bsl n 1 pre.length zs.length cp)),(1,.pv (.fn (.func g) [] cap)),(7,.pv (ae zs.length)),(8,.pv (ae y.1))],y.2⟩) (fun y=>y.1≤zs.length∧(∀j (hj:j<zs.length),j<y.1→p zs[j]=false)∧Inv y.2∧y.2[n]?=some (blk pre zs suf)) (fun y=>zs.length -y.1) (0,h) ?_ ⟨Nat.zero_le _,fun j _ h=>absurd h (Nat.not_lt_zero _),hI,hn⟩ ?_
 ·exact aj.keep (by simp) rfl
 ·rintro⟨i,h1⟩ ⟨hi,ho,hI1,hn1⟩;dsimp only at hi ho hI1 hn1;obtain⟨n1,g1⟩:=List.getElem?_eq_some_iff.1 hn1
  by_cases c:i<zs.length
  ·have hw:aM ((i:Int)+1)=((i+1:Nat):Int):=by rw[ah (by omega) (by omega)];omega
   have hx:=hz zs[i] (List.getElem_mem c) h1 hI1;have hget:=ju pre zs suf (i:=i) c;have hlen:=dZ pre zs suf;simp[c,hp,n1,g1,hget,hlen];refine⟨by omega,?_⟩;refine ak.intro hx (by trivial) ?_;rintro _ h2 ⟨hI2,hn2,rfl⟩;rw[hn1]at hn2;cases hpx:p zs[i]
   ·simp;refine⟨(i+1,h2),by(try dsimp only);omega,⟨by(try dsimp only);omega,fun j hj hji=>?_,hI2,hn2⟩,aj.keep (by simp[hw]) rfl⟩;dsimp only at hji
    by_cases e:j=i
    ·subst e;exact hpx
    ·exact ho j hj (by omega)
   ·simp;rw[fO c ho hpx];exact⟨hI2,hn2,rfl⟩
  ·simp[c];rw[eb (fun j hj=>ho j hj (by omega))];exact⟨hI1,hn1,rfl⟩
set_option maxRecDepth 16000 in
theorem yr(zs:List Int)(hl:zs.length≤1000000)(g:Nat)(cap:List PV)(p:Int→Bool)(n:Nat)(Inv:List (List SV)→Prop)(hp:iE cap=true)(hset:∀h L,Inv h→Inv (h.set n L))(pre suf:List Value)(cp:Nat)(hcp:zs.length≤cp)
 (hz:∀x∈zs,∀h,Inv h→aE Tryz.prog g (ae x::cap) h (fun r h'=>Inv h'∧h'[n]?=h[n]?∧r=.pv (BL (p x)))) (h:List (List SV)) (hI:Inv h) (hn:h[n]?=some (blk pre zs suf)):
 aE Tryz.prog 150 [.bsl n 1 pre.length zs.length cp,.fn (.func g) [] cap] h (fun r h'=>Inv h'∧∃zs',zs'=aU p zs++List.replicate (zs.length -(aU p zs).length) 0∧h'[n]?=some (blk pre zs' suf)∧r=.pv (.bsl n 1 pre.length (aU p zs).length cp)):=by
 have hI0:=BJ zs hl g cap p n Inv hp pre suf cp hz h hI hn;refine l9 aG Tryz.func150 (by kernel_rfl) rfl rfl (by kernel_rfl) (Nat.le_of_ble_eq_true rfl) ?_;simp;refine ak.intro hI0 (by trivial) ?_;rintro _ h0 ⟨hI1,hn1,rfl⟩
 by_cases c:∃i,∃h:i<zs.length,p zs[i]=true∧∀j (hj:j<zs.length),j<i→p zs[j]=false
 rotate_left
 ·have hno:∀j (hj:j<zs.length),p zs[j]=false:=by
   intro j
   induction j using Nat.strongRecOn with
   |ind j ih=>
    intro hj;cases e:p zs[j]
    ·rfl
    ·exact absurd ⟨j,hj,e,fun k hk hkj=>ih k hkj hk⟩ c
  have hd:=lJ p zs fun x hx=>by
   obtain⟨j,hj,rfl⟩:=List.getElem_of_mem hx;exact hno j hj
  rw[eb hno,hd];simp;exact⟨hI1,hn1⟩
 obtain⟨i0,hi0,hpi,hno⟩:=c;rw[fO hi0 hno hpi];have hw0:aM ((i0:Int)+1)=((i0+1:Nat):Int):=by rw[ah (by omega) (by omega)];omega
 have hd0:aU p (zs.take i0)=zs.take i0:=lJ p _ fun x hx=>by
  obtain⟨j,hj,rfl⟩:=List.getElem_of_mem hx;rw[List.length_take]at hj;rw[List.getElem_take];exact hno j (by omega) (by omega)
 simp;refine aH.intro (S:=fun(y:Nat×List Int×List (List SV))=>⟨[(0,.pv (.bsl n 1 pre.length zs.length cp)),(1,.pv (.fn (.func g) [] cap)),(5,.pv (ae ((aU p (zs.take y.1)).length:Nat))),(6,.pv (ae y.1))],y.2.2⟩)
  (fun y=>y.1≤zs.length∧(aU p (zs.take y.1)).length<y.1∧y.2.1.length=zs.length∧y.2.1.take (aU p (zs.take y.1)).length=aU p (zs.take y.1)∧y.2.1.drop y.1=zs.drop y.1∧Inv y.2.2∧y.2.2[n]?=some (blk pre y.2.1 suf)) (fun y=>zs.length -y.1) (i0+1,zs,h0) ?_ ?_ ?_
 ·refine aj.keep ?_ rfl;have:(aU p (zs.take (i0+1))).length=i0:=by rw[gA p zs hi0,if_pos hpi,hd0,List.length_take];omega
  simp[hw0,this]
 ·have:aU p (zs.take (i0+1))=zs.take i0:=by rw[gA p zs hi0,if_pos hpi,hd0]
  refine⟨by dsimp only;omega,?_,rfl,?_,rfl,hI1,hn1⟩
  ·dsimp only;rw[this,List.length_take];omega
  ·dsimp only;rw[this,List.length_take];congr 1;omega
 ·rintro⟨j,cur,H⟩ ⟨h1,h2,h3,h4,h5,h6,h7⟩;dsimp only at h1 h2 h3 h4 h5 h6 h7;have hlen:=dZ pre cur suf;obtain⟨n1,g1⟩:=List.getElem?_eq_some_iff.1 h7
  by_cases cj:j<zs.length
  ·have hw:aM ((j:Int)+1)=((j+1:Nat):Int):=by rw[ah (by omega) (by omega)];omega
   have hcj:cur[j]'(by omega)=zs[j]:=by
    have:=congrArg (fun l=>l[0]?) h5;simp only[List.getElem?_drop,Nat.add_zero]at this;rw[List.getElem?_eq_getElem (by omega),List.getElem?_eq_getElem cj]at this;exact Option.some.inj this
   have hget:=ju pre cur suf (i:=j) (by omega);rw[hcj]at hget;have hx:=hz zs[j] (List.getElem_mem cj) H h6;have hst:=gA p zs cj;simp[cj,hp,n1,g1,hget,hlen];refine⟨by omega,ak.intro hx (by trivial) ?_⟩;rintro _ H2 ⟨hI2,hn2,rfl⟩;rw[h7]at hn2;obtain⟨m1,f1⟩:=List.getElem?_eq_some_iff.1 hn2;cases hpx:p zs[j]
   ·rw[hpx]at hst;simp only[Bool.false_eq_true,if_false]at hst;have hw2:aM (((aU p (zs.take j)).length:Int)+1)=(((aU p (zs.take j)).length+1:Nat):Int):=by rw[ah (by omega) (by omega)];omega
    have hsb:=ul pre cur suf (i:=(aU p (zs.take j)).length) zs[j] (by omega);simp[m1,f1,hlen];refine⟨by omega,by omega,(j+1,cur.set (aU p (zs.take j)).length zs[j],H2.set n (blk pre (cur.set (aU p (zs.take j)).length zs[j]) suf)),by(try dsimp only);omega,⟨by(try dsimp only);omega,?_,by(try dsimp only);rw[List.length_set];exact h3,?_,?_,hset H2 _ hI2,?_⟩,aj.keep ?_ (by simp[hsb])⟩
    ·dsimp only;rw[hst,List.length_append,List.length_singleton];omega
    ·dsimp only;rw[hst,List.length_append,List.length_singleton,List.take_add_one,List.take_set_of_le (Nat.le_refl _),h4,List.getElem?_set_self (by omega)];rfl
    ·dsimp only;rw[List.drop_set_of_lt (by omega)];have:=congrArg (List.drop 1) h5
     rwa [List.drop_drop,List.drop_drop]at this
    ·dsimp only;rw[List.getElem?_set_self m1]
    ·simp[hw,hw2,hst]
   ·rw[hpx]at hst;simp only[if_true]at hst;simp;refine⟨(j+1,cur,H2),by(try dsimp only);omega,⟨by(try dsimp only);omega,by dsimp only;rw[hst];omega,h3,by dsimp only;rw[hst];exact h4,?_,hI2,hn2⟩,aj.keep (by simp[hw,hst]) rfl⟩;dsimp only;have:=congrArg (List.drop 1) h5
    rwa [List.drop_drop,List.drop_drop]at this
  ·have:j=zs.length:=by omega
   subst this;rw[List.take_length]at h2 h4;have hfill:=qA pre cur suf (i:=(aU p zs).length) (n:=zs.length -(aU p zs).length) 0 (by omega);have hfin:cur.take (aU p zs).length++List.replicate (zs.length -(aU p zs).length) 0++cur.drop ((aU p zs).length+(zs.length -(aU p zs).length))=aU p zs++List.replicate (zs.length -(aU p zs).length) 0:=by
    rw[h4,List.drop_eq_nil_of_le (by omega),List.append_nil]
   rw[hfin]at hfill;simp[n1,g1,h3,hfill];refine⟨⟨by omega,by omega⟩,by omega,by omega,⟨by omega,by omega⟩,hset H _ h6⟩
@[simp] theorem BK:∀l:List (Int×Int),CR (aT fI l)
 |[]=>trivial
 |(_,_)::l=>⟨trivial,BK l⟩
def Ai(A:Ar)(T:Tr)(lits:List Int)(m:List (Int×Int)):List (List SV):=DN A T lits m 0++[[.pv (nF 0)],[.pv (ae T.lits.length)]]
def K7(A:Ar)(T:Tr)(lits:List Int)(h:List (List SV)):Prop:=∃m L,mP A T lits m∧h=Ai A T lits m++[L]
theorem GK(A:Ar)(T:Tr)(lits:List Int)(h:List (List SV))(L:List SV)(hi:K7 A T lits h):K7 A T lits (h.set 7 L):=by
 obtain⟨m,L0,h1,rfl⟩:=hi;exact⟨m,L,h1,rfl⟩
theorem DR(A:Ar)(T:Tr)(lits:List Int)(m:List (Int×Int))(L:List SV):AskAt A T lits m 0 (Ai A T lits m++[L]):=⟨rfl,rfl,rfl,rfl,rfl⟩
set_option maxRecDepth 8000 in
theorem BM(A:Ar)(T:Tr)(lits:List Int)(hs:ShOk A T lits)(x:Int)(h:List (List SV))(hI:K7 A T lits h):
 aE Tryz.prog 165 [ae x,.ptr 5 0,.ptr 6 0] h (fun r h'=>K7 A T lits h'∧h'[7]?=h[7]?∧r=.pv (BL (fY A T lits x))):=by
 obtain⟨m,L,hm,rfl⟩:=hI;refine l9 aG Tryz.func165 (by kernel_rfl) rfl rfl (by kernel_rfl) (Nat.le_of_ble_eq_true rfl) ?_;have hd:=GJ A T lits 0 hs T.lits.length x T.lits.length m (Ai A T lits m++[L]) (fun _ h=>h) (DR A T lits m L) hm;have g5:(Ai A T lits m++[L])[5]?=some [.pv (nF 0)]:=rfl;have g6:(Ai A T lits m++[L])[6]?=some [.pv (ae T.lits.length)]:=rfl;have hlen:(Ai A T lits m++[L]).length=8:=rfl;have hfin:∀m',(Ai A T lits m++[L]).set 3 [.omap true (aT fI m')]=Ai A T lits m'++[L]:=fun _=>rfl;have g7:∀m',(Ai A T lits m'++[L])[7]?=some L:=fun _=>rfl;have h7:=g7 m;generalize hH:Ai A T lits m++[L]=H at*;obtain⟨n5,f5⟩:=List.getElem?_eq_some_iff.1 g5;obtain⟨n6,f6⟩:=List.getElem?_eq_some_iff.1 g6;simp[n5,f5,n6,f6,nF];refine ak.intro hd (by trivial) ?_;rintro _ _ ⟨m',hm',rfl,rfl⟩;simp[fY];rw[hfin m'];exact⟨m',L,hm',rfl⟩
def oy(A:Ar)(T:Tr)(lits:List Int):List Int:=lits.take 1++aU (fY A T lits) (lits.drop 1)
def DS:Sch:=.take 0 (.take 1 (.take 2 (.take 3 (.fork [(4,.fork [(5,.fork [(6,.take 7 .done)])])]))))
set_option maxRecDepth 16000 in
theorem yt(A:Ar)(T:Tr)(lits:List Int)(hs:ShOk A T lits)(hl:T.lits.length≤1000000):ao Tryz.prog 93 [jY A,bu T,.seq false 1 (af lits)] (fun r=>r=.own true 1 (af (oy A T lits))):=by
 refine zS [6] aG Tryz.func93 (by kernel_rfl) rfl rfl (by kernel_rfl) (Nat.le_of_ble_eq_true rfl) ?_;have hask:=fun h=>DO h A T lits;have hlt:=er T hl;have hcl:=gL lits hs.few;simp only[jY,nD,bu,cJ]at hask hlt;simp[jY,nD,bu,cJ];refine am.intro hcl (by simp) ?_
 by_cases c:lits=[]
 ·subst c;simp[oy,aU]
 have hpos:0<lits.length:=List.length_pos_iff.2 c;simp[c];refine am.introM (hask _) (by simp) ?_;rintro _ _ ⟨rfl,rfl⟩;simp[nF,DN];refine⟨rfl,am.intro hlt (by simp) ?_⟩;simp;refine aY.one DS (by kernel_rfl) ?_;simp[DS];refine⟨by omega,?_⟩;have hd1:∀l:List Int,List.drop lits.length (af lits)=[]:=fun _=>List.drop_eq_nil_of_le (by simp)
 by_cases c1:lits.length=1
 ·obtain⟨x0,rfl⟩:=List.length_eq_one_iff.1 c1;have hS:oy A T [x0]=[x0]:=rfl;rw[hS];generalize hq:dY (bq [[SV.pv (jY A)],[SV.pv (bu T)],[SV.pv (PV.seq false 1 (af [x0]))],[SV.omap true []],[SV.pv (PV.fn (Fn.func 244) [] [PV.ptr 1 0,PV.ptr 3 0,PV.ptr 0 0,PV.ptr 2 0,PV.ptr 4 0])],[SV.pv (PV.fn (Fn.func 244) [] [PV.ptr 1 0,PV.ptr 3 0,PV.ptr 0 0,PV.ptr 2 0,PV.ptr 4 0])],[SV.pv (PV.lit (Value.int .i64 T.lits.length))]] 3) [PV.ptr 5 0,PV.ptr 6 0]=cap;have hD:=gM [] (by simp) 165 cap (fun _=>false) (fun r=>by rw[←hq];simp[bq,jY,nD,bu,cJ]) (by rw[←hq];rfl) (fun k=>by rw[←hq];simp[bq,jY,nD,bu,cJ]) (by rw[←hq];simp[bq,jY,nD,bu,cJ,PV.old,o9,tR]) (fun x hx=>by cases hx);refine am.introX (dg.introS (o:=.slot 7) (lo:=1) (hi:=1) hD (by simp) rfl rfl (by simp) (by simp) rfl (by simp[az]) trivial (by simp) (by rw[←hq];simp) ?_);rintro k rows' ⟨rfl,rfl⟩ _ _;have hd0:aU (fun _=>false) []=[]:=rfl;simp[hd0,az,af]
 ·have h2:1<lits.length:=by omega
  have hE := fun (pre suf : List Value) (cp : Nat) (hcp : (lits.drop 1).length ≤ cp) => yr (lits.drop 1) (by have := hs.few; rw [List.length_drop]; omega) 165 [.ptr 5 0, .ptr 6 0] (fY A T lits) 7 (K7 A T lits) rfl (GK A T lits) pre suf cp hcp (fun x _ h hI => BM A T lits hs x h hI) (Ai A T lits [] ++ [blk pre (lits.drop 1) suf]) ⟨[], _, DQ A T lits, rfl⟩ rfl; refine am.introX (dg.introB (s := 7) (lo := 1) (hi := lits.length) (nw := true) (all := lits) (zs := lits.drop 1) (R := fun k zs' H' => k = some (aU (fY A T lits) (lits.drop 1)).length ∧ zs' = aU (fY A T lits) (lits.drop 1) ++ List.replicate ((lits.drop 1).length - (aU (fY A T lits) (lits.drop 1)).length) 0 ∧ ∃ m, H' = Ai A T lits m)
   rfl (by simp) rfl rfl rfl (by simp) h2 (by rw[List.take_length]) (by simp) (by simp) rfl (fun pre suf cp hcp hpr=>(hE pre suf cp hcp).mono ?_) ?_)
  ·rintro r h' ⟨⟨m,L,hm,rfl⟩,zs',rfl,h7,rfl⟩;have hL:L=blk pre (aU (fY A T lits) (lits.drop 1)++List.replicate ((lits.drop 1).length -(aU (fY A T lits) (lits.drop 1)).length) 0) suf:=Option.some.inj h7;subst hL;have hdl:=iO (fY A T lits) (lits.drop 1);refine⟨_,_,Ai A T lits m,⟨rfl,rfl,m,rfl⟩,by rw[List.length_append,List.length_replicate];omega,fun k hk=>by cases hk;exact hdl,rfl,by simp[Ai,DN,nF,nD,cJ],rfl,rfl⟩
  ·rintro k zs' H' ⟨rfl,rfl,m,rfl⟩ _ _;have hS:oy A T lits=lits.take 1++aU (fY A T lits) (lits.drop 1):=rfl;have hdl:=iO (fY A T lits) (lits.drop 1);have hf:=hs.few;generalize aU (fY A T lits) (lits.drop 1)=D at*;simp only[List.length_drop]at hdl;have hlen:(az (lits.take 1++(D++List.replicate (lits.length -1 -D.length) 0))).length=lits.length:=by
    simp only[az,List.length_map,List.length_append,List.length_take,List.length_replicate];omega
   simp[hlen];refine⟨by omega,?_⟩;rw[hS];have h1:(lits.take 1).length=1:=by rw[List.length_take];omega
   generalize lits.take 1=Z at*;obtain⟨z,rfl⟩:=List.length_eq_one_iff.1 h1;have e1:List.take (1+D.length) (az ([z]++(D++List.replicate (lits.length -1 -D.length) 0)))=af ([z]++D):=by
    unfold az af;rw[←List.map_take,←List.append_assoc,List.take_left' (by simp;omega)]
   rw[e1];rfl
def iV(l c:List Int)(v:Int):Nat:=(c.filter fun y=>decide (cG l y=v)).length
def fo(l c:List Int):List Int:=c.filter fun y=>decide (0≤bi y∧cG l y≠1∧cG l y≠-1)
theorem mQ(l:List Int):∀(c:List Int)(a b z:Nat),a+c.length≤1000000→b+c.length≤1000000→z+c.length≤1000000→
 c.foldl (FY l) ((a:Int),(b:Int),(z:Int))=(((a+iV l c 1:Nat):Int),((b+iV l c (-1):Nat):Int),((z+(fo l c).length:Nat):Int))
 |[],a,b,z,_,_,_=>by simp[iV,fo]
 |y::c,a,b,z,ha,hb,hz=>by
  simp only[List.length_cons]at ha hb hz;rw[List.foldl_cons]
  by_cases c1:cG l y=1
  ·have e:FY l ((a:Int),(b:Int),(z:Int)) y=(((a+1:Nat):Int),(b:Int),(z:Int)):=by
    unfold FY;rw[if_pos c1,ah (by dsimp only;omega) (by dsimp only;omega)];simp
   rw[e,mQ l c (a+1) b z (by omega) (by omega) (by omega)];simp[iV,fo,c1];omega
  ·by_cases c2:cG l y=-1
   ·have e:FY l ((a:Int),(b:Int),(z:Int)) y=((a:Int),((b+1:Nat):Int),(z:Int)):=by
     unfold FY;rw[if_neg c1,if_pos c2,ah (by dsimp only;omega) (by dsimp only;omega)];simp
    rw[e,mQ l c a (b+1) z (by omega) (by omega) (by omega)];simp[iV,fo,c1,c2];omega
   ·by_cases c3:0≤bi y
    ·have e:FY l ((a:Int),(b:Int),(z:Int)) y=((a:Int),(b:Int),((z+1:Nat):Int)):=by
      unfold FY;rw[if_neg c1,if_neg c2,if_pos c3,ah (by dsimp only;omega) (by dsimp only;omega)];simp
     rw[e,mQ l c a b (z+1) (by omega) (by omega) (by omega)];simp[iV,fo,c1,c2,c3];omega
    ·have e:FY l ((a:Int),(b:Int),(z:Int)) y=((a:Int),(b:Int),(z:Int)):=by
      unfold FY;rw[if_neg c1,if_neg c2,if_neg c3]
     rw[e,mQ l c a b z (by omega) (by omega) (by omega)];simp[iV,fo,c1,c2,c3]
theorem jD(l:List Int)(y:Int):cG l y=0∨cG l y=1∨cG l y=-1:=by
 unfold cG;split
 ·exact .inl rfl
 ·split
  ·exact .inr (.inl rfl)
  ·split
   ·exact .inr (.inr rfl)
   ·exact .inl rfl
theorem uB(l:List Int):∀(c:List Int)(n:Int),c.foldl (HE l) n=((fo l c).getLast?).getD n
 |[],n=>rfl
 |y::c,n=>by
  rw[List.foldl_cons,uB l c];have h3:=jD l y
  by_cases c1:0≤bi y∧cG l y=0
  ·have e:HE l n y=y:=by unfold HE;rw[if_pos c1]
   have e2:fo l (y::c)=y::fo l c:=by
    unfold fo;rw[List.filter_cons,if_pos (by rw[decide_eq_true_eq];exact⟨c1.1,by omega,by omega⟩)]
   rw[e,e2,List.getLast?_cons];rfl
  ·have e:HE l n y=n:=by unfold HE;rw[if_neg c1]
   have e2:fo l (y::c)=fo l c:=by
    unfold fo;rw[List.filter_cons,if_neg (by rw[decide_eq_true_eq];rintro⟨a1,a2,a3⟩;exact c1 ⟨a1,by omega⟩)]
   rw[e,e2]
theorem GL{l c:List Int}(hc:c.length≤1000)(hx:∀y∈c,0≤bi y)(h:(fX l c).2=true):(fX l c).1∈c∧cG l (fX l c).1=0∧∀y∈c,y≠(fX l c).1→cG l y=-1:=by
 have hg:=mQ l c 0 0 0 (by omega) (by omega) (by omega);have hct:K5 l c=(((0+iV l c 1:Nat):Int),((0+iV l c (-1):Nat):Int),((0+(fo l c).length:Nat):Int)):=hg;have h0:iV l c 1=0∧(fo l c).length=1∧(fX l c).1=c.foldl (HE l) 0:=by
  unfold fX at h⊢;rw[hct]at h⊢;dsimp only at h⊢
  by_cases e:((0+iV l c 1:Nat):Int)≠0∨((0+(fo l c).length:Nat):Int)≠1
  ·rw[if_pos e]at h;cases h
  ·rw[if_neg e];refine⟨by omega,by omega,rfl⟩
 obtain⟨h1,h2,h3⟩:=h0;obtain⟨x,hx1⟩:=List.length_eq_one_iff.1 h2;have h4:(fX l c).1=x:=by rw[h3,uB,hx1];rfl
 have hxm:x∈fo l c:=by rw[hx1];simp
 have hxm':=hxm;unfold fo at hxm';rw[List.mem_filter,decide_eq_true_eq]at hxm';rw[h4];have v3:=jD l x;refine⟨hxm'.1,by omega,fun y hy hne=>?_⟩;have hv:=jD l y;have hn1:cG l y≠1:=fun e=>by
  have:y∈c.filter fun y=>decide (cG l y=1):=by rw[List.mem_filter];exact⟨hy,by simpa using e⟩
  unfold iV at h1;rw[List.eq_nil_of_length_eq_zero h1]at this;cases this
 rcases hv with hv|hv|hv
 ·have:y∈fo l c:=by
   unfold fo;rw[List.mem_filter,decide_eq_true_eq];exact⟨hy,hx y hy,by omega,by omega⟩
  rw[hx1]at this;simp at this;exact absurd this hne
 ·exact absurd hv hn1
 ·exact hv
structure Cls6 (cs:List (List Int)) (ats:List Int):Prop where
  len:∀c∈cs,c.length≤1000
  chk:∀c∈cs,∀y∈c,ax y 6=0
  pos:∀k,k<cs.length→0≤ats.getD k 0
theorem MS{y:Int}(h:ax y 6=0):y≠0∧-6≤y∧y≤6∧0≤bi y∧aM (-y)=-y:=by
 obtain⟨a,b,c⟩:=(cV (by omega)).1 h;refine⟨a,b,c,?_,ah (by omega) (by omega)⟩;rw[uo];exact(bj y).2 ⟨a,by omega,by omega⟩
theorem uC{l:List Int}{y:Int}(h:cG l y=-1):aM (-y)∈l:=by
 unfold cG at h;split at h
 ·omega
 ·split at h
  ·omega
  ·split at h
   ·assumption
   ·omega
def DkR(D:DK):Prop:=∀i (hi:i<D.t.rows.length),D.t.rows[i].rea<0∨(isA D.A D.t.rows[i].rea=true∧D.t.rows[i].l∈aq D.A D.t.rows[i].rea∧∀y∈aq D.A D.t.rows[i].rea,ax y 6=0∧(y≠D.t.rows[i].l→aM (-y)∈(D.t.rows.take i).map (·.l)))
structure DeskOk (D:DK):Prop where
  rel:RelD D.T D.t
  relA:RelA D.A D.a
  rea:DkR D
  len:D.A.row.length≤1000000
theorem DU{A:Ar}{q:Int}(h:isA A q=true):A.hd≠[]:=fun e=>by
 unfold isA at h;rw[e]at h;simp[lk]at h
theorem uD{α:Type}{p:α→Bool}:∀{l:List α}{j:Nat}(hj:j<l.length),p l[j]=true→0≤jX p l∧jX p l≤j:=by
 intro l j hj h;unfold jX;cases hf:l.findIdx? p with
 |none=>
  rw[List.findIdx?_eq_none_iff]at hf;have:=hf _ (List.getElem_mem hj);rw[h]at this;cases this
 |some i=>
  rw[List.findIdx?_eq_some_iff_getElem]at hf;obtain⟨h1,h2,h3⟩:=hf;dsimp only;refine⟨by omega,?_⟩;apply Int.ofNat_le.2;apply Nat.le_of_not_lt;intro hlt;exact h3 j hlt h
theorem DV(A:Ar)(T:Tr)(c:List Int):List.Sublist (oy A T c) c:=by
 have h:List.Sublist (c.take 1++aU (fY A T c) (c.drop 1)) (c.take 1++c.drop 1):=List.Sublist.append (List.Sublist.refl _) List.filter_sublist;rw[List.take_append_drop]at h;exact h
@[simp ↓ high] theorem K8{P:Program}{st:St}{Gd:Prop}{o:Op}{d:Option Tmp}{K:St→Prop}(h:Gd):zM P st Gd o d K=AE P st o d K:=
 propext ⟨fun x=>x.1 h,fun x=>⟨fun _=>x,fun hn=>absurd h hn⟩⟩
instance:Inhabited Ro:=⟨⟨0,0,[]⟩⟩
theorem dt(l:Int):ab (-l)=ab l:=by
 unfold ab;rw[Gv];unfold eF;split
 ·split<;>split<;>omega
 ·rfl
theorem yu(l:List Int):∀(c:List Int)(n:Int),-1≤n→n≤c.foldl (Ix l) n∧(c.foldl (Ix l) n=-1↔n=-1∧∀y∈c,0≤bi y→cG l y=-1)
 |[],n,h=>by simp
 |y::c,n,h=>by
  have h3:=jD l y;rw[List.foldl_cons]
  by_cases q:0≤bi y∧n<cG l y
  ·have e:Ix l n y=cG l y:=by unfold Ix;rw[if_pos q]
   rw[e];obtain⟨g1,g2⟩:=yu l c (cG l y) (by omega);refine⟨by omega,?_⟩;constructor
   ·intro hh;omega
   ·rintro⟨a1,a2⟩;have:=a2 y (List.mem_cons_self ..) q.1;omega
  ·have e:Ix l n y=n:=by unfold Ix;rw[if_neg q]
   rw[e];obtain⟨g1,g2⟩:=yu l c n h;refine⟨g1,?_⟩;rw[g2];constructor
   ·rintro⟨a1,a2⟩;refine⟨a1,fun z hz hx=>?_⟩;rcases List.mem_cons.1 hz with rfl|hz
    ·omega
    ·exact a2 z hz hx
   ·rintro⟨a1,a2⟩;exact⟨a1,fun z hz=>a2 z (List.mem_cons_of_mem _ hz)⟩
theorem mR{l c:List Int}:FX l c=-1↔∀y∈c,0≤bi y→cG l y=-1:=by
 have:=(yu l c (-1) (by omega)).2;unfold FX;rw[this];exact⟨fun h=>h.2,fun h=>⟨rfl,h⟩⟩
theorem wn{l:List Int}{x:Int}(hv:cG l x=0)(hx0:0≤bi x):∀{c:List Int},c.Nodup→x∈c→(∀y∈c,y≠x→cG l y=-1)→fo l c=[x]
 |[],_,h,_=>by cases h
 |y::c,hn,hm,ho=>by
  rw[List.nodup_cons]at hn;unfold fo
  by_cases e:y=x
  ·subst e;rw[List.filter_cons,if_pos (by rw[decide_eq_true_eq];exact⟨hx0,by omega,by omega⟩)];congr 1;rw[List.filter_eq_nil_iff];intro z hz;have:=ho z (List.mem_cons_of_mem _ hz) (fun e=>hn.1 (e▸hz));simp[this]
  ·have hy:=ho y (List.mem_cons_self ..) e;rw[List.filter_cons,if_neg (by simp[hy])];rcases List.mem_cons.1 hm with rfl|hm
   ·exact absurd rfl e
   ·exact wn hv hx0 hn.2 hm (fun z hz=>ho z (List.mem_cons_of_mem _ hz))
theorem Aj{l c:List Int}{x:Int}(hc:c.length≤1000)(hn:c.Nodup)(hm:x∈c)(hx0:0≤bi x)(hv:cG l x=0)(ho:∀y∈c,y≠x→cG l y=-1):fX l c=(x,true):=by
 have hg:=mQ l c 0 0 0 (by omega) (by omega) (by omega);have hct:K5 l c=(((0+iV l c 1:Nat):Int),((0+iV l c (-1):Nat):Int),((0+(fo l c).length:Nat):Int)):=hg;have h1:=wn hv hx0 hn hm ho;have h2:iV l c 1=0:=by
  unfold iV;rw[List.length_eq_zero_iff,List.filter_eq_nil_iff];intro y hy
  by_cases e:y=x
  ·subst e;simp[hv]
  ·simp[ho y hy e]
 unfold fX;rw[hct,h1,h2,uB,h1];simp
structure ClsN (cs:List (List Int)) (ats:List Int):Prop extends Cls6 cs ats where
  nd:∀c∈cs,c.Nodup
def Calm(cs:List (List Int))(ls:List Int):Prop:=∀c∈cs,(fX ls c).2=false∧FX ls c≠-1
def dx(t:RT):List Int:=t.rows.map (·.l)
def bel(t:RT)(k:Int):List Int:=(t.rows.filter fun x=>decide (x.lev<k)).map (·.l)
inductive Tra (cs:List (List Int)) (ats:List Int):RT→Prop
  |nil:Tra cs ats ⟨6,[],0⟩
  |dec {t:RT} {l:Int}:Tra cs ats t→mayR t l=0→Calm cs (dx t)→Tra cs ats ⟨t.vars,t.rows++[⟨l,t.dep+1,-1⟩],t.dep+1⟩
  |imp {t:RT} {k:Nat} {x:Int} (hk:k<cs.length):Tra cs ats t→mayR t x=0→fX (dx t) cs[k]=(x,true)→Tra cs ats ⟨t.vars,t.rows++[⟨x,t.dep,ats.getD k 0⟩],t.dep⟩
theorem GM{t:RT}(h:∀x∈t.rows,x.lev≤t.dep):bel t (t.dep+1)=dx t:=by
 unfold bel dx;rw[List.filter_eq_self.2];intro x hx;have:=h x hx;simp;omega
theorem iz{t:RT}{k:Int}:∀y∈bel t k,y∈dx t:=by
 intro y hy;unfold bel at hy;obtain⟨x,hx,rfl⟩:=List.mem_map.1 hy;exact List.mem_map.2 ⟨x,(List.mem_filter.1 hx).1,rfl⟩
theorem DW{t:RT}{l:Int}(h:mayR t l=0):ax l t.vars=0∧ow t (ab l)<0:=by
 unfold mayR at h;split at h
 ·cases h
 ·rename_i c1;split at h
  ·cases h
  ·exact⟨by simpa using c1,by omega⟩
theorem uE{t:RT}{v:Int}(h:ow t v<0):∀x∈t.rows,ab x.l≠v:=by
 intro x hx e;obtain⟨j,hj,rfl⟩:=List.getElem_of_mem hx;have:=uD (p:=fun x:En=>decide (ab x.l=v)) hj (by simp[e]);unfold ow at h;omega
structure TraF (cs:List (List Int)) (ats:List Int) (t:RT):Prop where
  vars:t.vars=6
  dep:0≤t.dep
  chk:∀x∈t.rows,ax x.l 6=0
  nd:(t.rows.map fun x=>ab x.l).Nodup
  lev:∀x∈t.rows,0≤x.lev∧x.lev≤t.dep
  mono:∀i j (hi:i<t.rows.length)(hj:j<t.rows.length),i<j→t.rows[i].lev≤t.rows[j].lev
  dec:∀i (hi:i<t.rows.length),t.rows[i].rea<0→0<t.rows[i].lev∧∀j (hj:j<t.rows.length),j<i→t.rows[j].lev<t.rows[i].lev
  top:0<t.dep→Calm cs (bel t t.dep)
  fst:∀k:Int,0<k→k≤t.dep→∃x∈t.rows,x.lev=k∧x.rea<0
  imp:∀i (hi:i<t.rows.length),0≤t.rows[i].rea→∃k,∃hk:k<cs.length,t.rows[i].rea=ats.getD k 0∧t.rows[i].l∈cs[k]∧(∀y∈cs[k],y≠t.rows[i].l→∃j,∃hj:j<t.rows.length,j<i∧t.rows[j].l=-y)∧
    (0<t.rows[i].lev→∃y∈cs[k],y≠t.rows[i].l∧∃j,∃hj:j<t.rows.length,j<i∧t.rows[j].l=-y∧t.rows[j].lev=t.rows[i].lev)
theorem gQ{α:Type}{l:List α}{x:α}{i:Nat}(h:i<(l++[x]).length):(∃hi:i<l.length,(l++[x])[i]=l[i])∨(i=l.length∧(l++[x])[i]=x):=by
 by_cases c:i<l.length
 ·exact .inl ⟨c,List.getElem_append_left c⟩
 ·have:i=l.length:=by simp at h;omega
  subst this;exact .inr ⟨rfl,by simp⟩
theorem TraF.inj{cs:List (List Int)}{ats:List Int}{t:RT}(h:TraF cs ats t){i j:Nat}(hi:i<t.rows.length)(hj:j<t.rows.length)(e:ab t.rows[i].l=ab t.rows[j].l):i=j:=by
 have hn:=List.pairwise_iff_getElem.1 (List.pairwise_map.1 h.nd);rcases Nat.lt_trichotomy i j with c|c|c
 ·exact absurd e (hn i j hi hj c)
 ·exact c
 ·exact absurd e.symm (hn j i hj hi c)
theorem TraF.one{cs:List (List Int)}{ats:List Int}{t:RT}(h:TraF cs ats t){y:Int}(hy:ax y 6=0):¬(y∈dx t∧-y∈dx t):=by
 rintro⟨h1,h2⟩;unfold dx at h1 h2;obtain⟨a,ha,e1⟩:=List.mem_map.1 h1;obtain⟨b,hb,e2⟩:=List.mem_map.1 h2;obtain⟨i,hi,rfl⟩:=List.getElem_of_mem ha;obtain⟨j,hj,rfl⟩:=List.getElem_of_mem hb;have hv:ab t.rows[i].l=ab t.rows[j].l:=by rw[e1,e2,dt]
 have hij:i=j:=h.inj hi hj hv;subst hij;obtain⟨n0,_⟩:=MS hy;omega
structure Way (cs:List (List Int)) (ats:List Int) (D:DK):Prop where
  rel:RelD D.T D.t
  tra:Tra cs ats D.t
  con:(D.con<0∧Calm cs (dx D.t))∨∃k,∃hk:k<cs.length,D.con=ats.getD k 0∧FX (dx D.t) cs[k]=-1
theorem BN{l:List Int}(h:jO l l.length=0):l.Nodup:=by
 refine List.pairwise_iff_getElem.2 fun i j hi hj hij e=>?_;have hm:=qI l (i:=j+1) l.length (by omega);rw[jO]at hm;have:l.getD j 0∈l.take j:=by
  rw[List.getD_eq_getElem?_getD,List.getElem?_eq_getElem hj,Option.getD_some,←e];rw[List.mem_take_iff_getElem];exact⟨i,by omega,rfl⟩
 rw[if_pos this]at hm;omega
structure DeskT (cs:List (List Int)) (ats:List Int) (D:DK):Prop where
  ok:DeskOk D
  cls:ClsN cs ats
  way:Way cs ats D
  ars:∀k (hk:k<cs.length),isA D.A (ats.getD k 0)=true∧aq D.A (ats.getD k 0)=cs[k]
structure PS where
  seen:List (Int×Int)
  lits:List Int
  many:Nat
def ay(s:List (Int×Int))(v:Int):Bool:=decide (0<(lk s v).getD 0)
def dB(T:Tr)(l:Int):Int:=(dq T (ab l)).1.lev
def takeF(T:Tr)(but:Int)(p:PS)(l:Int):PS:=
 if ab l=but∨ay p.seen (ab l)=true∨dB T l≤0 then p
 else if dB T l=T.beg.length then⟨pt p.seen (ab l) 1,p.lits,p.many+1⟩else⟨pt p.seen (ab l) 1,p.lits++[l],p.many⟩
def c9(T:Tr)(but:Int)(c:List Int)(p:PS):PS:=c.foldl (takeF T but) p
def mh(T:Tr)(p:PS)(l:Int):Bool:=ay p.seen (ab l)&&(decide (dB T l=T.beg.length)&&decide (0≤(dq T (ab l)).1.rea))
def mS(A:Ar)(T:Tr)(p:PS)(l:Int):PS:=c9 T (ab l) (aq A (dq T (ab l)).1.rea) ⟨pt p.seen (ab l) 0,p.lits,p.many -1⟩
def cA(A:Ar)(T:Tr)(all:List Int):Nat→PS→PS
 |0,p=>p
 |n+1,p=>if p.many≤1 then p else if mh T p (all.getD n 0)=true then cA A T all n (mS A T p (all.getD n 0))else cA A T all n p
def pj(T:Tr)(all:List Int)(p:PS):List Int:=p.lits++(all.filter fun l=>ay p.seen (ab l)&&decide (dB T l=T.beg.length)).map fun l=>aM (-l)
/-! ### Places of what is assigned -/
theorem TraF.pla{cs:List (List Int)}{ats:List Int}{t:RT}(h:TraF cs ats t){j:Nat}(hj:j<t.rows.length):ow t (ab t.rows[j].l)=j:=by
 have h1:=uD (p:=fun x:En=>decide (ab x.l=ab t.rows[j].l)) hj (by simp);obtain⟨i,hi,e1,e2⟩:=jy (t:=t) (v:=ab t.rows[j].l) h1.1;have:=h.inj hi hj e2;subst this;exact e1
theorem oz{t:RT}{j:Nat}(hj:j<t.rows.length){y:Int}(hy:t.rows[j].l=-y):ab y=ab t.rows[j].l:=by rw[hy,dt]
theorem gR{t:RT}{j:Nat}(hj:j<t.rows.length){y:Int}(hy:t.rows[j].l=-y):y=-t.rows[j].l:=by omega
/-! ### Counting -/
theorem mT{α:Type}{P Q:α→Bool}:∀{l:List α}{j:Nat}(hj:j<l.length),P l[j]=false→Q l[j]=true→(∀i (hi:i<l.length),i≠j→Q l[i]=P l[i])→l.countP Q=l.countP P+1
 |[],j,hj,_,_,_=>by simp at hj
 |x::l,0,hj,hP,hQ,ho=>by
  simp only[List.getElem_cons_zero]at hP hQ;have:l.countP Q=l.countP P:=by
   apply List.countP_congr;intro y hy;obtain⟨i,hi,rfl⟩:=List.getElem_of_mem hy;have:=ho (i+1) (by simpa using hi) (by omega);simp only[List.getElem_cons_succ]at this;rw[this]
  rw[List.countP_cons,List.countP_cons,this,hP,hQ];simp
 |x::l,j+1,hj,hP,hQ,ho=>by
  simp only [List.getElem_cons_succ] at hP hQ; have h0 := ho 0 (by simp) (by omega); simp only [List.getElem_cons_zero] at h0; have := mT (l := l) (j := j) (by simpa using hj) hP hQ (fun i hi hne => by
   have:=ho (i+1) (by simpa using hi) (by omega);simpa using this)
  rw[List.countP_cons,List.countP_cons,this,h0];omega
theorem qQ{α:Type}{P:α→Bool}:∀{l:List α},2≤l.countP P→∃i j,∃hi:i<l.length,∃hj:j<l.length,i<j∧P l[i]=true∧P l[j]=true
 |[],h=>by simp at h
 |x::l,h=>by
  rw[List.countP_cons]at h
  by_cases c:P x=true
  ·rw[if_pos c]at h;have:0<l.countP P:=by omega
   rw[List.countP_pos_iff]at this;obtain⟨y,hy,hp⟩:=this;obtain⟨j,hj,rfl⟩:=List.getElem_of_mem hy;exact⟨0,j+1,by simp,by simpa using hj,by omega,by simpa using c,by simpa using hp⟩
  ·rw[if_neg c]at h;obtain⟨i,j,hi,hj,hij,p1,p2⟩:=qQ (l:=l) (by omega);exact⟨i+1,j+1,by simpa using hi,by simpa using hj,by omega,by simpa using p1,by simpa using p2⟩
/-! ### What is known while a conflict is taken apart -/
structure LI (t:RT) (p:PS) (n:Nat):Prop where
  sn:∀v,ay p.seen v=true→∃j,∃hj:j<t.rows.length,ab t.rows[j].l=v∧0<t.rows[j].lev∧(t.rows[j].lev=t.dep→j<n∨t.rows[j].rea<0)
  li:∀l∈p.lits,∃j,∃hj:j<t.rows.length,t.rows[j].l=-l∧0<t.rows[j].lev∧t.rows[j].lev<t.dep
  ls:∀j (hj:j<t.rows.length),ay p.seen (ab t.rows[j].l)=true→t.rows[j].lev<t.dep→-t.rows[j].l∈p.lits
  mn:p.many=t.rows.countP (fun x=>ay p.seen (ab x.l)&&decide (x.lev=t.dep))
theorem lO(s:List (Int×Int))(v w:Int)(n:Int):ay (pt s v n) w=if v=w then decide (0<n)else ay s w:=by
 unfold ay;rw[bz];split<;>rfl
theorem IC(t:RT)(n:Nat):LI t ⟨[],[],0⟩ n where
 sn:=fun v h=>by simp[ay,lk]at h
 li:=by simp
 ls:=fun j hj h=>by simp[ay,lk]at h
 mn:=by
  symm;rw[List.countP_eq_zero];intro x _;simp[ay,lk]
/-! ### The one literal of the greatest level first -/
def cq(T:Tr)(out:List Int):Nat→Int×Nat×Nat
 |0=>(-1,0,0)
 |i+1=>if(cq T out i).1<dB T (out.getD i 0)then(dB T (out.getD i 0),1,i)
  else if dB T (out.getD i 0)=(cq T out i).1 then((cq T out i).1,(cq T out i).2.1+1,(cq T out i).2.2)else cq T out i
def DX(T:Tr)(out:List Int):List Int:=if(cq T out out.length).2.1=1 then out.getD (cq T out out.length).2.2 0::out.eraseIdx (cq T out out.length).2.2 else out
def DY(T:Tr)(lits:List Int):List Int:=DX T (d4 lits)
def gh(A:Ar)(T:Tr)(con:Int):PS:=c9 T 0 (aq A con) ⟨[],[],0⟩
def cZ(A:Ar)(T:Tr)(con:Int):List Int:=DY T (pj T T.lits (cA A T T.lits T.lits.length (gh A T con)))
theorem wo{T:Tr}{out:List Int}{k:Nat}(hk:k<out.length)(h0:0≤dB T out[k])(ho:∀i (hi:i<out.length),i≠k→dB T out[i]<dB T out[k]):∀i,i≤out.length→
 if k<i then cq T out i=(dB T out[k],1,k)else(cq T out i).1<dB T out[k]
 |0,_=>by rw[if_neg (by omega)];simp only[cq];omega
 |i+1,hi=>by
  have ih:=wo hk h0 ho i (by omega);have hg:out.getD i 0=out[i]:=by rw[List.getD_eq_getElem?_getD,List.getElem?_eq_getElem (by omega)];rfl
  rw[cq,hg]
  by_cases c:k<i
  ·rw[if_pos c]at ih;have:=ho i (by omega) (by omega);rw[if_pos (by omega),ih];dsimp only;rw[if_neg (by omega),if_neg (by omega)]
  ·rw[if_neg c]at ih
   by_cases e:k=i
   ·subst e;rw[if_pos (by omega),if_pos ih]
   ·have:=ho i (by omega) (by omega);rw[if_neg (by omega)];split
    ·exact this
    ·split
     ·exact ih
     ·exact ih
theorem GN{T:Tr}{out:List Int}{k:Nat}(hk:k<out.length)(h0:0≤dB T out[k])(ho:∀i (hi:i<out.length),i≠k→dB T out[i]<dB T out[k]):DX T out=out[k]::out.eraseIdx k:=by
 have:=wo hk h0 ho out.length (Nat.le_refl _);rw[if_pos hk]at this;unfold DX;rw[this,if_pos rfl,List.getD_eq_getElem?_getD,List.getElem?_eq_getElem hk];rfl
theorem lg{l:List Int}{k:Nat}(hk:k<l.length)(x:Int):x∈l[k]::l.eraseIdx k↔x∈l:=by
 rw[List.mem_cons,List.mem_eraseIdx_iff_getElem];constructor
 ·rintro(rfl|⟨i,hi,_,rfl⟩)
  ·exact List.getElem_mem hk
  ·exact List.getElem_mem _
 ·intro h;obtain⟨i,hi,rfl⟩:=List.getElem_of_mem h
  by_cases e:i=k
  ·subst e;exact .inl rfl
  ·exact .inr ⟨i,hi,e,rfl⟩
theorem sS{l:List Int}(h:l.Nodup){i j:Nat}(hi:i<l.length)(hj:j<l.length)(e:l[i]=l[j]):i=j:=by
 have hn:=List.pairwise_iff_getElem.1 h;rcases Nat.lt_trichotomy i j with c|c|c
 ·exact absurd e (hn i j hi hj c)
 ·exact c
 ·exact absurd e.symm (hn j i hj hi c)
theorem wq(c:List Int):(d4 c).Nodup:=(ny c).1.imp fun h e=>by rw[e]at h;omega
/-! ### What reasons show -/
inductive HOk (A:Ar) (T:Tr) (R:List Int):Int→Prop
  |stop {l:Int}:l∈R→HOk A T R l
  |why {l:Int}:bV T l<0→0≤(dq T (ab l)).1.rea→isA A (dq T (ab l)).1.rea=true→(∀y∈aq A (dq T (ab l)).1.rea,y≠-l→HOk A T R y)→HOk A T R l
def Fr(D:DK)(p:PS)(R:List Int):Prop:=∀j (hj:j<D.t.rows.length),ay p.seen (ab D.t.rows[j].l)=true→HOk D.A D.T R (-D.t.rows[j].l)
structure Conf (D:DK) (con:Int):Prop where
  is:isA D.A con=true
  neg:∀y∈aq D.A con,ax y 6=0∧∃j,∃hj:j<D.t.rows.length,D.t.rows[j].l=-y
  top:0<D.t.dep→∃y∈aq D.A con,∃j,∃hj:j<D.t.rows.length,D.t.rows[j].l=-y∧D.t.rows[j].lev=D.t.dep
structure Learnt (D:DK) (L:List Int):Prop where
  nd:L.Nodup
  neg:∀y∈L,ax y 6=0∧∃j,∃hj:j<D.t.rows.length,D.t.rows[j].l=-y∧0<D.t.rows[j].lev
  nil:D.t.dep=0→L=[]
  top:0<D.t.dep→∃u r,L=u::r∧dB D.T u=D.t.dep∧∀y∈r,dB D.T y<D.t.dep
theorem mU{α:Type}{P:α→Bool}:∀{l:List α}{i j:Nat}(hij:i<j)(hj:j<l.length),P (l[i]'(by omega))=true→P l[j]=true→2≤l.countP P
 |[],i,j,_,hj,_,_=>by simp at hj
 |x::l,0,j+1,_,hj,h1,h2=>by
  simp only[List.getElem_cons_zero,List.getElem_cons_succ]at h1 h2;have:0<l.countP P:=List.countP_pos_iff.2 ⟨_,List.getElem_mem (by simpa using hj),h2⟩;rw[List.countP_cons,if_pos h1];omega
 |x::l,i+1,j+1,hij,hj,h1,h2=>by
  simp only[List.getElem_cons_succ]at h1 h2;have:=mU (l:=l) (i:=i) (j:=j) (by omega) (by simpa using hj) h1 h2;rw[List.countP_cons];omega
theorem BO:d4 []=[]:=by
 have:=(ny []).2;cases e:d4 []with
 |nil=>rfl
 |cons x l=>have h:=(this x).1 (by rw[e];simp);simp at h
def gZ(A:Ar)(T:Tr)(p:PS):List SV:=[.pv (jY A),.pv (bu T),.omap true (aT fI p.seen),.own true 1 (af p.lits),.pv (ae p.many)]
@[simp] theorem K9(r:Nat→Nat→PV)(A:Ar):dY r (nD A)=nD A:=by simp[nD]
@[simp] theorem La(r:Nat→Nat→PV)(T:Tr):dY r (cJ T)=cJ T:=by simp[cJ]
@[simp] theorem ID(k:Nat)(A:Ar):bO k (nD A):=by simp[nD]
@[simp] theorem IE(k:Nat)(T:Tr):bO k (cJ T):=by simp[cJ]
theorem aN(k:Nat)(A:Ar)(T:Tr)(p:PS):cP k (gZ A T p):=⟨⟨⟨bc k _,gy k _,trivial⟩,trivial⟩,⟨⟨mJ k _,bc k _,bc k _,trivial,trivial⟩,trivial⟩,gy k _,bc k _,trivial,trivial⟩
theorem DZ(T:Tr)(but:Int)(p:PS)(l:Int):(takeF T but p l).many≤p.many+1∧(takeF T but p l).lits.length≤p.lits.length+1:=by
 unfold takeF;split
 ·exact⟨by omega,by omega⟩
 ·split
  ·exact⟨by simp,by simp⟩
  ·exact⟨by simp,by simp⟩
theorem iW(T:Tr)(but:Int):∀(c:List Int)(p:PS),(c9 T but c p).many≤p.many+c.length∧(c9 T but c p).lits.length≤p.lits.length+c.length
 |[],p=>⟨Nat.le_refl _,Nat.le_refl _⟩
 |y::c,p=>by
  have h1:=DZ T but p y;have h2:=iW T but c (takeF T but p y);have e:c9 T but (y::c) p=c9 T but c (takeF T but p y):=rfl;rw[e,List.length_cons];omega
theorem qR(T:Tr)(but:Int)(c:List Int)(p:PS){i:Nat}(h:i<c.length):c9 T but (c.take (i+1)) p=takeF T but (c9 T but (c.take i) p) c[i]:=pi _ _ _ _ h
set_option maxRecDepth 16000 in
theorem D4(A:Ar)(T:Tr)(p:PS)(q but:Int)(ht:T.ok)(h0:A.hd≠[])(hk:jC A)(hl:A.row.length≤1000000)(hm:p.many≤1000000000)(hp:p.lits.length≤1000000000):
 aE Tryz.prog 161 [.ptr 0 0,ae q,ae but] [gZ A T p] (fun r h'=>h'=[gZ A T (c9 T but (aq A q) p)]∧r=.pv (.tup [])):=by
 refine gN [] [] [gZ A T (c9 T but (aq A q) p)] (by simp) (fun _=>⟨aN _ _ _ _,trivial⟩) aG Tryz.func161 (by kernel_rfl) rfl rfl (by kernel_rfl) (Nat.le_of_ble_eq_true rfl) ?_;have hL:=iU A h0 hk hl q;have hc:=eU A hk q;generalize aq A q=c at*;simp[gZ];refine am.intro hL (by simp) ?_;simp;refine aH.intro (S:=fun(i:Nat)=>⟨[(0,.pv (.ptr 0 0)),(2,.pv (ae but)),(6,.pv (.fn (.func 170) [bu T] [])),(20,.own true 1 (af c)),(21,.pv (ae c.length)),(22,.pv (ae i))],[gZ A T (c9 T but (c.take i) p)]⟩) (fun i=>i≤c.length) (fun i=>c.length -i) 0 ?_ (Nat.zero_le _) ?_
 ·exact aj.to (by simp) (by simp[gZ,c9]) (by simp) (by simp) (by simp[aN])
 intro i hi
 by_cases h:i<c.length
 rotate_left
 ·have hie:i=c.length:=by omega
  subst hie;simp[gZ,fe]
 have hw:aM ((i:Int)+1)=((i+1:Nat):Int):=by rw[ah (by omega) (by omega)];omega
 have hs:=qR T but c p h;have hle:=iW T but (c.take i) p;rw[List.length_take]at hle;generalize c9 T but (c.take i) p=s at*;have hlv:=eP T (ab c[i]) ht;simp[h,gZ];refine am.intro (aD c[i]) (by simp) ?_;simp;refine bY.intro (fun _=>hlv) (by simp) ?_
 by_cases c1:ab c[i]=but
 ·have hd:takeF T but s c[i]=s:=by unfold takeF;rw[if_pos (.inl c1)]
  simp[c1];refine⟨i+1,by(try dsimp only);omega,by(try dsimp only);omega,aj.to (by simp[hw]) (by simp[gZ,hs,hd]) (by simp) (by simp) (by simp[aN])⟩
 by_cases c2:0<(lk s.seen (ab c[i])).getD 0
 ·have hd:takeF T but s c[i]=s:=by unfold takeF;rw[if_pos (.inr (.inl (by simpa[ay]using c2)))]
  simp[c1,c2];refine⟨i+1,by(try dsimp only);omega,by(try dsimp only);omega,aj.to (by simp[hw]) (by simp[gZ,hs,hd]) (by simp) (by simp) (by simp[aN])⟩
 have c2':(lk s.seen (ab c[i])).getD 0≤0:=by omega
 by_cases c3:(dq T (ab c[i])).1.lev≤0
 ·have hd:takeF T but s c[i]=s:=by unfold takeF;rw[if_pos (.inr (.inr c3))]
  simp[c1,c2,c2',c3];refine⟨i+1,by(try dsimp only);omega,by(try dsimp only);omega,aj.to (by simp[hw]) (by simp[gZ,hs,hd]) (by simp) (by simp) (by simp[aN])⟩
 have hd:takeF T but s c[i]=if(dq T (ab c[i])).1.lev=T.beg.length then⟨pt s.seen (ab c[i]) 1,s.lits,s.many+1⟩else⟨pt s.seen (ab c[i]) 1,s.lits++[c[i]],s.many⟩:=by
  unfold takeF;rw[if_neg]
  ·rfl
  rintro(e|e|e)
  ·exact c1 e
  ·exact c2 (by simpa[ay]using e)
  ·exact c3 e
 simp[c1,c2,c2',c3];refine bs.intro hlv (by simp) ?_;simp;refine bs.intro (iT T) (by simp) ?_
 by_cases c4:(dq T (ab c[i])).1.lev=T.beg.length
 ·rw[if_pos c4]at hd;have hwm:aM ((s.many:Int)+1)=((s.many+1:Nat):Int):=by rw[ah (by omega) (by omega)];omega
  simp[c4];refine⟨i+1,by(try dsimp only);omega,by(try dsimp only);omega,aj.to (by simp[hw]) (by simp[gZ,hs,hd,hwm]) (by simp) (by simp) (by simp[aN])⟩
 ·rw[if_neg c4]at hd;simp[c4];refine⟨by omega,i+1,by(try dsimp only);omega,by(try dsimp only);omega,aj.to (by simp[hw]) (by simp[gZ,hs,hd,af]) (by simp) (by simp) (by simp[aN])⟩
def iX(T:Tr)(p:PS)(all:List Int):Nat→Int
 |0=>-1
 |n+1=>if mh T p (all.getD n 0)=true then(n:Int)else iX T p all n
theorem BP(A:Ar)(T:Tr)(all:List Int)(p:PS)(h:p.many≤1):∀k,cA A T all k p=p
 |0=>rfl
 |k+1=>by rw[cA,if_pos h]
theorem wr(A:Ar)(T:Tr)(all:List Int)(p:PS):∀k,(iX T p all k=-1∧cA A T all k p=p)∨∃j,j<k∧iX T p all k=(j:Int)∧(1<p.many→cA A T all k p=cA A T all j (mS A T p (all.getD j 0)))
 |0=>.inl ⟨rfl,rfl⟩
 |k+1=>by
  rw[iX,cA]
  by_cases c:mh T p (all.getD k 0)=true
  ·rw[if_pos c,if_pos c];exact .inr ⟨k,by omega,rfl,fun h=>by rw[if_neg (by omega)]⟩
  ·rw[if_neg c,if_neg c];rcases wr A T all p k with⟨h1,h2⟩|⟨j,h1,h2,h3⟩
   ·refine .inl ⟨h1,?_⟩;split
    ·rfl
    ·exact h2
   ·refine .inr ⟨j,by omega,h2,fun h=>?_⟩;rw[if_neg (by omega)];exact h3 h
set_option maxRecDepth 16000 in
theorem D5(A:Ar)(T:Tr)(p:PS)(all:List Int)(n:Nat)(ht:T.ok)(hn:n≤all.length)(hl:all.length≤1000000):
 aE Tryz.prog 240 [.ptr 0 0,.seq false 1 (af all),ae ((n:Int) -1)] [gZ A T p] (fun r h'=>h'=[gZ A T p]∧r=.pv (ae (iX T p all n))):=by
 refine gN [] [.tmp 6] [gZ A T p] (by simp) (fun _=>⟨aN _ _ _ _,trivial⟩) aG Tryz.func240 (by kernel_rfl) rfl rfl (by kernel_rfl) (Nat.le_of_ble_eq_true rfl) ?_;generalize hF:iX T p all n=F;simp;refine aH.intro (S:=fun(k:Nat)=>⟨[(0,.pv (.ptr 0 0)),(1,.pv (.seq false 1 (af all))),(7,.pv (ae ((k:Int) -1)))],[gZ A T p]⟩) (fun k=>k≤n∧F=iX T p all k) (fun k=>k) n ?_ ⟨Nat.le_refl _,hF.symm⟩ ?_
 ·exact aj.to (by simp) (by simp) (by simp) (by simp) (by simp[aN])
 rintro k ⟨hk,hP⟩;cases k with
 |zero=>simp[iX]at hP;subst hP;simp[fe]
 |succ j=>
  have hj:j<all.length:=by omega
  have hg:all.getD j 0=all[j]:=by rw[List.getD_eq_getElem?_getD,List.getElem?_eq_getElem hj];rfl
  have hw:aM ((j:Int) -1)=(j:Int) -1:=ah (by omega) (by omega);have hlv:=eP T (ab all[j]) ht;have hre:=fC T (ab all[j]) ht;have hpk:iX T p all (j+1)=if mh T p all[j]=true then(j:Int)else iX T p all j:=by rw[iX,hg]
  have hB:mh T p all[j]=(decide (0<(lk p.seen (ab all[j])).getD 0)&&(decide ((dq T (ab all[j])).1.lev=T.beg.length)&&decide (0≤(dq T (ab all[j])).1.rea))):=rfl;rw[hpk,hB]at hP;simp[hj,gZ];refine am.intro (aD all[j]) (by simp) ?_;simp;refine dN.intro (fun _=>hlv) (by simp) ?_;simp;refine dN.intro (fun _=>iT T) (by simp) ?_;simp;refine dN.intro (fun _=>hre) (by simp) ?_
  by_cases hc:(0<(lk p.seen (ab all[j])).getD 0∧(dq T (ab all[j])).1.lev=T.beg.length)∧0≤(dq T (ab all[j])).1.rea
  ·obtain⟨⟨e1,e2⟩,e3⟩:=hc;rw[if_pos (by simp[e1,e2,e3])]at hP;subst hP;simp[e1,e2,e3,fe,gZ]
  ·rw[if_neg (by simpa[and_assoc]using hc)]at hP;simp[hc];refine fun _=>⟨j,by(try dsimp only);omega,⟨by(try dsimp only);omega,hP⟩,aj.to (by simp[hw]) (by simp[gZ]) (by simp) (by simp) (by simp[aN])⟩
theorem GO(A:Ar)(T:Tr)(hk:jC A)(hl:A.row.length≤1000000)(p:PS)(l:Int):(mS A T p l).many≤p.many+1000000∧(mS A T p l).lits.length≤p.lits.length+1000000:=by
 have h:=iW T (ab l) (aq A (dq T (ab l)).1.rea) ⟨pt p.seen (ab l) 0,p.lits,p.many -1⟩;have h2:=eU A hk (dq T (ab l)).1.rea;dsimp only at h;unfold mS;omega
def D6(T:Tr)(p:PS)(l:Int):Bool:=ay p.seen (ab l)&&decide (dB T l=T.beg.length)
def mi(T:Tr)(all:List Int)(p:PS)(i:Nat):List Int:=p.lits++((all.take i).filter (D6 T p)).map fun l=>aM (-l)
theorem yv(T:Tr)(all:List Int)(p:PS){i:Nat}(h:i<all.length):mi T all p (i+1)=if D6 T p all[i]=true then mi T all p i++[aM (-all[i])]else mi T all p i:=by
 unfold mi;rw[←List.take_append_getElem h,List.filter_append,List.map_append]
 by_cases c:D6 T p all[i]=true
 ·rw[if_pos c,List.filter_cons,if_pos c];simp
 ·rw[if_neg c,List.filter_cons,if_neg c];simp
theorem wu(T:Tr)(all:List Int)(p:PS)(i:Nat)(hi:i≤all.length):(mi T all p i).length≤p.lits.length+i:=by
 unfold mi;rw[List.length_append,List.length_map];have:=List.length_filter_le (D6 T p) (all.take i);rw[List.length_take]at this;omega
theorem sT(T:Tr)(all:List Int)(p:PS):mi T all p all.length=pj T all p:=by
 unfold mi pj;rw[List.take_length];rfl
def fin(A:Ar)(T:Tr)(all:List Int)(p:PS):PS:=⟨(cA A T all all.length p).seen,pj T all (cA A T all all.length p),(cA A T all all.length p).many⟩
set_option maxRecDepth 16000 in
theorem D7(A:Ar)(T:Tr)(p:PS)(all:List Int)(ht:T.ok)(h0:A.hd≠[])(hk:jC A)(hl:A.row.length≤1000000)(hn:all.length≤400)(hm:p.many≤1000000)(hp:p.lits.length≤1000000):
 aE Tryz.prog 162 [.ptr 0 0,.seq false 1 (af all)] [gZ A T p] (fun r h'=>h'=[gZ A T (fin A T all p)]∧r=.pv (.tup [])):=by
 refine gN [] [] [gZ A T (fin A T all p)] (by simp) (fun _=>⟨aN _ _ _ _,trivial⟩) aG Tryz.func162 (by kernel_rfl) rfl rfl (by kernel_rfl) (Nat.le_of_ble_eq_true rfl) ?_;have hpick:=fun p n hn=>D5 A T p all n ht hn (by omega);have hwn:aM ((all.length:Int) -1)=(all.length:Int) -1:=ah (by omega) (by omega);unfold fin;generalize hF:cA A T all all.length p=F;simp[hwn];refine ak.intro (hpick p all.length (Nat.le_refl _)) (by simp) ?_;rintro _ _ ⟨rfl,rfl⟩;simp;refine aH.intro (S:=fun(x:Nat×PS)=>⟨[(0,.pv (.ptr 0 0)),(1,.pv (.seq false 1 (af all))),(4,.pv (ae (iX T x.2 all x.1)))],[gZ A T x.2]⟩) (fun x=>x.1≤all.length∧F=cA A T all x.1 x.2∧x.2.many≤1000000*(all.length -x.1+1)∧x.2.lits.length≤1000000*(all.length -x.1+1)) (fun x=>x.1) (all.length,p) ?_ ⟨Nat.le_refl _,hF.symm,by dsimp only;omega,by dsimp only;omega⟩ ?_
 ·exact aj.to (by simp) (by simp) (by simp) (by simp) (by simp[aN])
 rintro⟨k,s⟩ ⟨hkl,hFs,hs1,hs2⟩;dsimp only at hkl hFs hs1 hs2;have hpn:=wr A T all s k
 by_cases hc:(1:Int)<(s.many:Int)∧0≤iX T s all k
 rotate_left
 ·have hFe:F=s:=by
   rcases hpn with⟨h1,h2⟩|⟨j,h1,h2,h3⟩
   ·rw[hFs,h2]
   ·rw[hFs,BP A T all s (by omega)]
  subst hFe;clear hFs hpn hpick;simp[gZ,hc];intro _;refine aH.intro (S:=fun(i:Nat)=>⟨[(0,.pv (.ptr 0 0)),(1,.pv (.seq false 1 (af all))),(55,.pv (.seq false 1 (af all))),(56,.pv (ae all.length)),(57,.pv (ae i))],[gZ A T ⟨F.seen,mi T all F i,F.many⟩]⟩) (fun i=>i≤all.length) (fun i=>all.length -i) 0 ?_ (Nat.zero_le _) ?_
  ·exact aj.to (by simp) (by simp[gZ,mi]) (by simp) (by simp) (by simp[aN])
  intro i hi
  by_cases h:i<all.length
  rotate_left
  ·have hie:i=all.length:=by omega
   subst hie;simp[gZ,fe,sT]
  have hw:aM ((i:Int)+1)=((i+1:Nat):Int):=by rw[ah (by omega) (by omega)];omega
  have hsu:=yv T all F h;have hle:=wu T all F i hi;have hlv:=eP T (ab all[i]) ht;have hB:D6 T F all[i]=(decide (0<(lk F.seen (ab all[i])).getD 0)&&decide ((dq T (ab all[i])).1.lev=T.beg.length)):=rfl;simp[h,gZ];refine am.intro (aD all[i]) (by simp) ?_;simp;refine dN.intro (fun _=>hlv) (by simp) ?_;simp;refine dN.intro (fun _=>iT T) (by simp) ?_
  by_cases hd:0<(lk F.seen (ab all[i])).getD 0∧(dq T (ab all[i])).1.lev=T.beg.length
  ·rw[if_pos (by rw[hB];simp[hd])]at hsu;simp[hd];refine⟨by omega,i+1,by(try dsimp only);omega,by(try dsimp only);omega,aj.to (by simp[hw]) (by simp[gZ,hsu,af]) (by simp) (by simp) (by simp[aN])⟩
  ·rw[if_neg (by rw[hB];simpa using hd)]at hsu;simp[hd];refine fun _=>⟨i+1,by(try dsimp only);omega,by(try dsimp only);omega,aj.to (by simp[hw]) (by simp[gZ,hsu]) (by simp) (by simp) (by simp[aN])⟩
 obtain⟨hc1,hc2⟩:=hc;rcases hpn with⟨h1,h2⟩|⟨j,h1,h2,h3⟩
 ·omega
 have hj:j<all.length:=by omega
 have hg:all.getD j 0=all[j]:=by rw[List.getD_eq_getElem?_getD,List.getElem?_eq_getElem hj];rfl
 have h3':=h3 (by omega);rw[hg]at h3';have hre:=fC T (ab all[j]) ht;have hwm:aM ((s.many:Int) -1)=((s.many -1:Nat):Int):=by rw[ah (by omega) (by omega)];omega
 have hwj:aM ((j:Int) -1)=(j:Int) -1:=ah (by omega) (by omega);have hbnd:1000000*(all.length -k+1)+1000000≤1000000*(all.length -j+1):=by omega
 have htk:=D4 A T ⟨pt s.seen (ab all[j]) 0,s.lits,s.many -1⟩ (dq T (ab all[j])).1.rea (ab all[j]) ht h0 hk hl (by dsimp only;omega) (by dsimp only;omega);have hle:=GO A T hk hl s all[j];have hres:c9 T (ab all[j]) (aq A (dq T (ab all[j])).1.rea) ⟨pt s.seen (ab all[j]) 0,s.lits,s.many -1⟩=mS A T s all[j]:=rfl;rw[hres]at htk;generalize mS A T s all[j]=s' at*;simp[gZ,hc1,h2,hj];refine am.intro (aD all[j]) (by simp) ?_;simp[hwm];refine am.intro hre (by simp) ?_;simp;refine ak.intro htk (by simp) ?_;rintro _ _ ⟨rfl,rfl⟩;simp[hwj];refine ak.intro (hpick s' j (by omega)) (by simp) ?_;rintro _ _ ⟨rfl,rfl⟩;simp;refine⟨(j,s'),by(try dsimp only);omega,⟨by(try dsimp only);omega,by(try dsimp only);rw[hFs,h3'],by(try dsimp only);omega,by(try dsimp only);omega⟩,aj.to (by simp) (by simp[gZ]) (by simp) (by simp) (by simp[aN])⟩
theorem yx(T:Tr)(ht:T.ok)(x:Int):ao Tryz.prog 238 [ae x,.iptr 1 [[bu T]] 0 0] (fun r=>r=.pv (BL (decide (0≤bV T x)))):=by
 refine aw aG Tryz.func238 (by kernel_rfl) rfl rfl (by kernel_rfl) (Nat.le_of_ble_eq_true rfl) ?_;have hv:=eQ T x ht;simp;refine am.intro hv (by simp) ?_;simp
def mV(T:Tr)(lits:List Int):Bool:=!(lits.any fun x=>decide (0≤bV T x))
theorem BQ(T:Tr)(lits:List Int)(ht:T.ok)(hl:lits.length≤1000000):ao Tryz.prog 159 [bu T,.seq false 1 (af lits)] (fun r=>r=.pv (BL (mV T lits))):=by
 refine aw aG Tryz.func159 (by kernel_rfl) rfl rfl (by kernel_rfl) (Nat.le_of_ble_eq_true rfl) ?_;have hC:=ff lits hl 238 [.iptr 1 [[bu T]] 0 0] (fun x=>decide (0≤bV T x)) (fun r=>by simp) rfl (fun k=>by simp) (fun x _=>yx T ht x);simp[bq];refine am.intro hC (by simp) ?_;simp[mV]
def eV(T:Tr)(lits:List Int)(i:Nat):List Int:=((lits.take i).filter fun l=>!decide (bV T l=0)).map (dB T)
theorem yy(T:Tr)(lits:List Int){i:Nat}(h:i<lits.length):eV T lits (i+1)=if bV T lits[i]=0 then eV T lits i else eV T lits i++[dB T lits[i]]:=by
 unfold eV;rw[←List.take_append_getElem h,List.filter_append,List.map_append]
 by_cases c:bV T lits[i]=0
 ·rw[if_pos c,List.filter_cons,if_neg (by simp[c])];simp
 ·rw[if_neg c,List.filter_cons,if_pos (by simp[c])];simp
theorem wv(T:Tr)(lits:List Int)(i:Nat):(eV T lits i).length≤i:=by
 unfold eV;rw[List.length_map];have:=List.length_filter_le (fun l=>!decide (bV T l=0)) (lits.take i);rw[List.length_take]at this;omega
def D8(T:Tr)(lits:List Int):List Int:=cW (dO (eV T lits lits.length))
def ed(T:Tr)(lits:List Int):Int:=if(D8 T lits).length<2 then 0 else(D8 T lits).getD ((D8 T lits).length -2) 0
set_option maxRecDepth 16000 in
theorem D9(T:Tr)(lits:List Int)(ht:T.ok)(hl:lits.length≤1000000):ao Tryz.prog 98 [bu T,.seq false 1 (af lits)] (fun r=>r=.pv (ae (ed T lits))):=by
 refine aw aG Tryz.func98 (by kernel_rfl) rfl rfl (by kernel_rfl) (Nat.le_of_ble_eq_true rfl) ?_;simp;refine aH.intro (S:=fun(i:Nat)=>⟨[(0,.pv (bu T)),(5,.own true 1 (af (eV T lits i))),(8,.pv (.seq false 1 (af lits))),(9,.pv (ae lits.length)),(10,.pv (ae i))],[]⟩) (fun i=>i≤lits.length) (fun i=>lits.length -i) 0 ?_ (Nat.zero_le _) ?_
 ·exact(aj.nilOwn (s:=5) 1 true (by simp)).trans (aj.to (by simp[eV,af]) (by simp) (by simp) (by simp) (by simp))
 intro i hi
 by_cases h:i<lits.length
 ·have hw:aM ((i:Int)+1)=((i+1:Nat):Int):=by rw[ah (by omega) (by omega)];omega
  have hlv:=eP T (ab lits[i]) ht;have hv:=eQ T lits[i] ht;have hsu:=yy T lits h;have hle:=wv T lits i;simp[h];refine bY.intro (fun _=>hv) (by simp) ?_
  by_cases c:bV T lits[i]=0
  ·rw[if_pos c]at hsu;simp[c];refine⟨i+1,by(try dsimp only);omega,by(try dsimp only);omega,aj.to (by simp[hw,hsu]) (by simp) (by simp) (by simp) (by simp)⟩
  ·rw[if_neg c]at hsu;simp[c];refine am.intro (aD lits[i]) (by simp) ?_;simp;refine am.intro hlv (by simp) ?_;simp;refine⟨by omega,i+1,by(try dsimp only);omega,by(try dsimp only);omega,aj.to (by simp[hw,hsu,af,dB]) (by simp) (by simp) (by simp) (by simp)⟩
 have hie:i=lits.length:=by omega
 subst hie;have hle:=wv T lits lits.length;have hS:=BC (eV T lits lits.length) (by omega);have hB:ed T lits=if(cW (dO (eV T lits lits.length))).length<2 then 0 else(cW (dO (eV T lits lits.length))).getD ((cW (dO (eV T lits lits.length))).length -2) 0:=rfl;generalize ed T lits=B at*;have hsl:(dO (eV T lits lits.length)).length=(eV T lits lits.length).length:=by unfold dO;exact List.length_mergeSort _
 generalize eV T lits lits.length=xs at*;have hC:=qE (dO xs) (by omega);have hcl:=mK (dO xs) (dO xs).length;unfold Io at hC;have hcs:aR (dO xs) (dO xs).length=cW (dO xs):=rfl;rw[hcs]at hcl;generalize dO xs=so at*;generalize cW so=co at*;simp;refine am.introX (dg.introS (o:=.slot 5) (lo:=0) (hi:=xs.length) hS (by simp) rfl rfl (by simp) (by simp) rfl (by simp;exact List.take_of_length_le (by simp)) (bc 0 xs) (by simp) (by simp) ?_);rintro k rows' ⟨rfl,rfl⟩ _ _;have hd1:List.drop xs.length (af xs)=[]:=List.drop_eq_nil_of_le (by simp);simp[hd1];refine am.introX (dg.introS (o:=.slot 5) (lo:=0) (hi:=so.length) hC (by simp) rfl rfl (by simp) (by simp) rfl (by simp;exact List.take_of_length_le (by simp)) (fg 0 so) (by simp) (by simp) ?_);rintro k rows' ⟨rfl,rfl⟩ _ _;have hd2:List.drop so.length (af so)=[]:=List.drop_eq_nil_of_le (by simp);have hI:(az (co++List.replicate (so.length -co.length) 0)).length=so.length:=by rw[fD];simp;omega
 have hmin:min co.length (az (co++List.replicate (so.length -co.length) 0)).length=co.length:=by rw[hI];omega
 have htk:=mM co (List.replicate (so.length -co.length) 0)
 by_cases c2:co.length<2
 ·rw[if_pos c2]at hB;have c2':(co.length:Int)<2:=by omega
  have c3':¬2≤(co.length:Int):=by omega
  simp[hd2,c2,c2',c3',hB,hmin]
 rw[if_neg c2]at hB;obtain⟨m,hm⟩:∃m,co.length=m+2:=⟨co.length -2,by omega⟩;have hw:aM ((co.length:Int) -2)=(m:Int):=by rw[ah (by omega) (by omega)];omega
 have c2':¬(co.length:Int)<2:=by omega
 have hmco:m<co.length:=by omega
 have hBm:B=co[m]:=by rw[hB,hm,List.getD_eq_getElem?_getD,Nat.add_sub_cancel,List.getElem?_eq_getElem hmco];rfl
 have hgm:(az co)[m]?=some [ae co[m]]:=by unfold az;rw[List.getElem?_map,List.getElem?_eq_getElem hmco];rfl
 have hmi:(m:Int)<(co.length:Int):=by omega
 rw[hBm];clear hB hBm;have hil:=fD co;have c3':2≤(co.length:Int):=by omega
 have hgm':∀h,(az co)[m]'h=[ae co[m]]:=fun h=>by rw[List.getElem?_eq_getElem h]at hgm;exact Option.some.inj hgm
 simp[hd2,c2,c2',c3',hw,hmin,htk,hmi,hil,hgm',hmco]
def lh(A:Ar)(q:Int):Int:=if isA A q=true then A.row.getD q.toNat 0 else 0
theorem uF(A:Ar)(h0:A.hd≠[])(hk:jC A)(hl:A.row.length≤1000000)(q:Int):ao Tryz.prog 158 [jY A,ae q] (fun r=>r=.pv (ae (lh A q))):=by
 refine aw aG Tryz.func158 (by kernel_rfl) rfl rfl (by kernel_rfl) (Nat.le_of_ble_eq_true rfl) ?_;have hi:=Ah A h0 q;unfold lh;simp only[jY,nD]at hi;simp[jY,nD];refine am.intro hi (by simp) ?_
 by_cases c:isA A q=true
 rotate_left
 ·have c':isA A q=false:=by simpa using c
  simp[c']
 obtain⟨p,n,rfl,ha⟩:=hk q c;have hp:p<A.row.length:=by have:=ha.len;omega
 simp[c,hp]
structure NS where
  at':List (Int×Int)
  ok:Bool
def pla(T:Tr)(l:Int):Int:=(dq T (ab l)).1.pla
def rea(T:Tr)(l:Int):Int:=(dq T (ab l)).1.rea
def sU(T:Tr)(stop:List (Int×Int))(but:Int)(s:NS)(l:Int):Bool:=decide (l=but)||ay stop l||(ay s.at' (pla T l)&&decide (0≤pla T l))
def BR(A:Ar)(T:Tr)(l:Int):Bool:=decide (0≤bV T l)||decide (rea T l<0)||decide (lh A (rea T l)=0)
def qS(T:Tr)(s:NS)(l:Int):NS:=⟨pt s.at' (pla T l) (aM ((lk s.at' (pla T l)).getD 0+1)),s.ok⟩
def qT(f:NS→Int→Int→NS)(A:Ar)(T:Tr)(stop:List (Int×Int))(but:Int):List Int→NS→NS
 |[],s=>s
 |l::c,s=>if sU T stop but s l=true then qT f A T stop but c s else if BR A T l=true then⟨s.at',false⟩else qT f A T stop but c (f (qS T s l) (rea T l) (aM (-l)))
def pm(A:Ar)(T:Tr)(stop:List (Int×Int)):Nat→NS→Int→Int→NS
 |0,s,_,_=>s
 |k+1,s,q,but=>qT (pm A T stop k) A T stop but (aq A q) s
def qU(A:Ar)(T:Tr)(stop:List (Int×Int))(s:NS):List SV:=[.pv (jY A),.pv (bu T),.omap true (aT fI stop),.omap true (aT fI s.at'),.pv (BL s.ok)]
theorem dC(k:Nat)(A:Ar)(T:Tr)(stop:List (Int×Int))(s:NS):cP k (qU A T stop s):=⟨⟨⟨bc k _,gy k _,trivial⟩,trivial⟩,⟨⟨mJ k _,bc k _,bc k _,trivial,trivial⟩,trivial⟩,gy k _,gy k _,trivial,trivial⟩
structure AheadOk (A:Ar) (T:Tr):Prop where
  tr:T.ok
  hd:A.hd≠[]
  ar:jC A
  len:A.row.length≤1000000
  ahead:∀l:Int,bV T l<0→0≤rea T l→0≤pla T l∧∀y∈aq A (rea T l),y≠aM (-l)→pla T y<pla T l
set_option maxRecDepth 16000 in
theorem GP(A:Ar)(T:Tr)(stop:List (Int×Int))(hA:AheadOk A T):∀(k:Nat)(q but:Int)(s:NS),(∀y∈aq A q,y≠but→pla T y<k)→
 aE Tryz.prog 166 [.ptr 0 0,ae q,ae but] [qU A T stop s] (fun r h'=>h'=[qU A T stop (pm A T stop (k+1) s q but)]∧r=.pv (.tup [])):=by
 intro k
 induction k using Nat.strongRecOn with
 |ind k ih=>
 intro q but s hq;refine gN [] [] [qU A T stop (pm A T stop (k+1) s q but)] (by simp) (fun _=>⟨dC _ _ _ _ _,trivial⟩) aG Tryz.func166 (by kernel_rfl) rfl rfl (by kernel_rfl) (Nat.le_of_ble_eq_true rfl) ?_;obtain⟨ht,h0,hk,hl,hah⟩:=hA;have hL:=iU A h0 hk hl q;have hc:=eU A hk q;rw[pm];generalize hF:qT (pm A T stop k) A T stop but (aq A q) s=F;generalize aq A q=c at*;simp[qU];refine am.intro hL (by simp) ?_;simp;refine aH.intro (S:=fun(x:Nat×NS)=>⟨[(0,.pv (.ptr 0 0)),(2,.pv (ae but)),(15,.own true 1 (af c)),(16,.pv (ae c.length)),(17,.pv (ae x.1))],[qU A T stop x.2]⟩) (fun x=>x.1≤c.length∧F=qT (pm A T stop k) A T stop but (c.drop x.1) x.2) (fun x=>c.length -x.1) (0,s) ?_ ⟨Nat.zero_le _,hF.symm⟩ ?_
 ·exact aj.to (by simp) (by simp[qU]) (by simp) (by simp) (by simp[dC])
 clear hF;rintro⟨i,s⟩ ⟨hi,hFi⟩;dsimp only at hi hFi
 by_cases h:i<c.length
 rotate_left
 ·have hie:i=c.length:=by omega
  subst hie;rw[List.drop_eq_nil_of_le (Nat.le_refl _),qT]at hFi;subst hFi;simp[qU,fe]
 have hw:aM ((i:Int)+1)=((i+1:Nat):Int):=by rw[ah (by omega) (by omega)];omega
 have hdr:c.drop i=c[i]::c.drop (i+1):=List.drop_eq_getElem_cons h;rw[hdr,qT]at hFi;have hpl:=lK T (ab c[i]) ht;have hre:=fC T (ab c[i]) ht;have hva:=eQ T c[i] ht;have hsk:sU T stop but s c[i]=(decide (c[i]=but)||decide (0<(lk stop c[i]).getD 0)||(decide (0<(lk s.at' (pla T c[i])).getD 0)&&decide (0≤pla T c[i]))):=rfl;have hbd:BR A T c[i]=(decide (0≤bV T c[i])||decide (rea T c[i]<0)||decide (lh A (rea T c[i])=0)):=rfl;have hp0:(dq T (ab c[i])).1.pla=pla T c[i]:=rfl;have hr0:(dq T (ab c[i])).1.rea=rea T c[i]:=rfl;rw[hp0]at hpl;rw[hr0]at hre;simp[h,qU];refine am.intro (aD c[i]) (by simp) ?_;simp;refine dN.intro (fun _=>hpl) (by simp) ?_;simp;refine dN.intro (fun _=>hpl) (by simp) ?_;simp;refine⟨fun a b=>⟨⟨a,b⟩,fun e=>⟨⟨a,b⟩,e⟩⟩,fun hs=>?_,fun n1 n2 n3=>?_⟩
 ·rw[if_pos (by rw[hsk];simpa using hs)]at hFi;exact⟨(i+1,s),by(try dsimp only);omega,⟨by(try dsimp only);omega,hFi⟩,aj.to (by simp[hw]) (by simp[qU]) (by simp) (by simp) (by simp[dC])⟩
 have hsk2:¬sU T stop but s c[i]=true:=by
  rw[hsk];simp only[Bool.or_eq_true,Bool.and_eq_true,decide_eq_true_eq];rintro((e|e)|⟨e1,e2⟩)
  ·exact n1 e
  ·omega
  ·have:=n3 e1;omega
 rw[if_neg hsk2]at hFi;refine am.intro hre (by simp) ?_;simp;refine am.intro hva (by simp) ?_;simp;refine bY.intro (fun _=>uF A h0 hk hl _) (by simp) ?_
 by_cases hb:BR A T c[i]=true
 ·rw[if_pos hb]at hFi;rw[hbd]at hb;have hb':(0≤bV T c[i]∨rea T c[i]<0)∨lh A (rea T c[i])=0:=by simpa using hb
  subst hFi;simp[hb',fe]
 rw[if_neg hb]at hFi;have hb2:¬(0≤bV T c[i])∧¬(rea T c[i]<0)∧¬(lh A (rea T c[i])=0):=by
  rw[hbd]at hb;simpa[and_assoc]using hb
 obtain⟨m1,m2,m3⟩:=hb2;obtain⟨u1,u2⟩:=hah c[i] (by omega) (by omega);have hck:=hq c[i] (List.getElem_mem h) n1;simp[m1,m2,m3];refine⟨by omega,?_⟩;refine bs.intro hpl (by simp) ?_;simp;obtain⟨k',rfl⟩:∃k',k=k'+1:=⟨k -1,by omega⟩;have hrec:=ih k' (by omega) (rea T c[i]) (aM (-c[i])) (qS T s c[i]) (fun y hy hne=>by have:=u2 y hy hne;omega);simp only[qU,qS]at hrec;refine ak.intro hrec (by simp) ?_;rintro _ _ ⟨rfl,rfl⟩;simp;refine⟨(i+1,pm A T stop (k'+1) (qS T s c[i]) (rea T c[i]) (aM (-c[i]))),by(try dsimp only);omega,⟨by(try dsimp only);omega,hFi⟩,aj.to (by simp[hw]) (by simp[qU,qS]) (by simp) (by simp) (by simp[dC])⟩
def cv(lits:List Int):Nat→List (Int×Int)
 |0=>[]
 |i+1=>pt (cv lits i) (lits.getD i 0) ((lk (cv lits i) (lits.getD i 0)).getD 0+1)
theorem nG(lits:List Int):∀(i:Nat)(v:Int),0≤(lk (cv lits i) v).getD 0∧(lk (cv lits i) v).getD 0≤i
 |0,v=>by simp[cv,lk]
 |i+1,v=>by
  have h:=nG lits i;rw[cv,bz];split
  ·have:=h (lits.getD i 0);rw[Option.getD_some];omega
  ·have:=h v;omega
theorem qV(lits:List Int)(v:Int):∀i,i≤lits.length→(ay (cv lits i) v=true↔v∈lits.take i)
 |0,_=>by simp[cv,lk,ay]
 |i+1,h=>by
  have ih:=qV lits v i (by omega);have hg:lits.getD i 0=lits[i]:=by rw[List.getD_eq_getElem?_getD,List.getElem?_eq_getElem (by omega)];rfl
  have hle:=nG lits i lits[i];rw[cv,hg,lO,List.take_add_one,List.getElem?_eq_getElem (by omega),Option.toList_some,List.mem_append,List.mem_singleton];split
  ·rename_i e;subst e;have:0<(lk (cv lits i) lits[i]).getD 0+1:=by omega
   simp[this]
  ·rename_i e;rw[ih];exact⟨.inl,fun h=>h.elim id (fun h=>absurd h.symm e)⟩
def Ea(T:Tr)(at':List (Int×Int))(out:List Int)(i:Nat):Bool:=ay at' i&&!decide (rea T (T.lits.getD i 0)∈out)
def dP(T:Tr)(at':List (Int×Int)):Nat→List Int
 |0=>[]
 |i+1=>if Ea T at' (dP T at' i) i=true then dP T at' i++[rea T (T.lits.getD i 0)]else dP T at' i
theorem qW(T:Tr)(at':List (Int×Int)):∀i,(dP T at' i).length≤i
 |0=>by simp[dP]
 |i+1=>by
  have:=qW T at' i;rw[dP];split
  ·simp;omega
  ·omega
def jZ(A:Ar)(T:Tr)(lits:List Int)(con:Int):NS:=pm A T (cv lits lits.length) (T.lits.length+1) ⟨[],true⟩ con 0
def pn(T:Tr)(at':List (Int×Int))(con:Int):List Int:=if con∈dP T at' T.lits.length then dP T at' T.lits.length else dP T at' T.lits.length++[con]
def po(A:Ar)(T:Tr)(lits:List Int)(con:Int):List Int×Bool:=
 if lh A con=0 then([],false)else if(jZ A T lits con).ok=false then([],false)else(pn T (jZ A T lits con).at' con,true)
set_option maxRecDepth 16000 in
theorem Eb(A:Ar)(T:Tr)(lits:List Int)(con:Int)(hA:AheadOk A T)(hp:∀l,pla T l<T.lits.length)(hl:lits.length≤1000000)(hT:T.lits.length≤1000000):
 ao Tryz.prog 94 [jY A,bu T,.seq false 1 (af lits),ae con] (fun r=>r=.pv (.tup [.seq true 1 (af (po A T lits con).1),BL (po A T lits con).2])):=by
 refine ao.wk (R:=fun r=>∃x,r=.pv x∧cz x (.tup [.seq true 1 (af (po A T lits con).1),BL (po A T lits con).2])) ?_ (fun r ⟨x,e,h⟩=>⟨x,_,e,h,rfl⟩);refine kU [] [.tmp 8,.tmp 9] aG Tryz.func94 (by kernel_rfl) rfl rfl (by kernel_rfl) (Nat.le_of_ble_eq_true rfl) ?_;have hId:=uF A hA.hd hA.ar hA.len con;have hcls:=GP A T (cv lits lits.length) hA T.lits.length con 0 ⟨[],true⟩ (fun y _ _=>hp y);have hL:=er T hT;obtain⟨H,hH⟩:∃H,po A T lits con=H:=⟨_,rfl⟩;rw[hH];unfold po at hH;have hN:pm A T (cv lits lits.length) (T.lits.length+1) ⟨[],true⟩ con 0=jZ A T lits con:=rfl;rw[hN]at hcls;generalize jZ A T lits con=N at*;simp;refine bY.intro (fun _=>hId) (by simp) ?_
 by_cases c0:lh A con=0
 ·rw[if_pos c0]at hH;subst hH;simp[c0,cz,cI,af]
 rw[if_neg c0]at hH;simp[c0];refine aH.intro (S:=fun(i:Nat)=>⟨[(0,.pv (jY A)),(1,.pv (bu T)),(2,.pv (.seq false 1 (af lits))),(3,.pv (ae con)),(10,.pv (.ptr 0 0)),(35,.pv (.seq false 1 (af lits))),(36,.pv (ae lits.length)),(37,.pv (ae i))],[qU A T (cv lits i) ⟨[],true⟩]⟩) (fun i=>i≤lits.length) (fun i=>lits.length -i) 0 ?_ (Nat.zero_le _) ?_
 ·exact aj.to (by simp) (by simp[qU,cv]) (by simp) (by simp) (by simp[dC])
 intro i hi
 by_cases h:i<lits.length
 ·have hw:aM ((i:Int)+1)=((i+1:Nat):Int):=by rw[ah (by omega) (by omega)];omega
  have hg:lits.getD i 0=lits[i]:=by rw[List.getD_eq_getElem?_getD,List.getElem?_eq_getElem h];rfl
  have hle:=nG lits i lits[i];have hwm:aM ((lk (cv lits i) lits[i]).getD 0+1)=(lk (cv lits i) lits[i]).getD 0+1:=ah (by omega) (by omega);have hsu:cv lits (i+1)=pt (cv lits i) lits[i] ((lk (cv lits i) lits[i]).getD 0+1):=by rw[cv,hg]
  simp[h,qU];refine⟨i+1,by(try dsimp only);omega,by(try dsimp only);omega,aj.to (by simp[hw]) (by simp[qU,hsu,hwm]) (by simp) (by simp) (by simp[dC])⟩
 have hie:i=lits.length:=by omega
 subst hie;simp only[qU]at hcls;simp[qU];refine ak.intro hcls (by simp) ?_;rintro _ _ ⟨rfl,rfl⟩;cases c1:N.ok
 ·rw[if_pos c1]at hH;subst hH;simp[c1,cz,cI,af]
 rw[if_neg (by simp[c1])]at hH;subst hH;simp[c1];refine am.intro hL (by simp) ?_;simp;refine aH.intro (S:=fun(i:Nat)=>⟨[(1,.pv (bu T)),(3,.pv (ae con)),(10,.pv (.ptr 0 0)),(13,.own true 1 (af (dP T N.at' i))),(58,.own true 1 (af T.lits)),(59,.pv (ae T.lits.length)),(60,.pv (ae i))],[qU A T (cv lits lits.length) N]⟩) (fun i=>i≤T.lits.length) (fun i=>T.lits.length -i) 0 ?_ (Nat.zero_le _) ?_
 ·exact(aj.nilOwn (s:=13) 1 true (by simp)).trans (aj.to (by simp[dP,af]) (by simp[qU,c1]) (by simp) (by simp) (by simp[dC]))
 intro i hi;have hle:=qW T N.at' i
 by_cases h:i<T.lits.length
 ·have hw:aM ((i:Int)+1)=((i+1:Nat):Int):=by rw[ah (by omega) (by omega)];omega
  have hg:T.lits.getD i 0=T.lits[i]:=by rw[List.getD_eq_getElem?_getD,List.getElem?_eq_getElem h];rfl
  have hre:=fC T (ab T.lits[i]) hA.tr;have hr0:(dq T (ab T.lits[i])).1.rea=rea T T.lits[i]:=rfl;rw[hr0]at hre;have hsu:dP T N.at' (i+1)=if Ea T N.at' (dP T N.at' i) i=true then dP T N.at' i++[rea T T.lits[i]]else dP T N.at' i:=by rw[dP,hg]
  have hB:Ea T N.at' (dP T N.at' i) i=(decide (0<(lk N.at' (i:Int)).getD 0)&&!decide (rea T T.lits[i]∈dP T N.at' i)):=by unfold Ea;rw[hg];rfl
  have hct:=ir (dP T N.at' i) (rea T T.lits[i]) (by omega);simp[h,qU];refine am.intro (aD T.lits[i]) (by simp) ?_;simp;refine am.intro hre (by simp) ?_;simp;refine bY.intro (fun _=>hct) (by simp) ?_
  by_cases hc:0<(lk N.at' (i:Int)).getD 0∧¬rea T T.lits[i]∈dP T N.at' i
  ·rw[if_pos (by rw[hB];simp[hc])]at hsu;simp[hc];refine⟨by omega,i+1,by(try dsimp only);omega,by(try dsimp only);omega,aj.to (by simp[hw,hsu,af]) (by simp[qU]) (by simp) (by simp) (by simp[dC])⟩
  ·rw[if_neg (by rw[hB];simpa using hc)]at hsu;simp[hc];refine fun _=>⟨i+1,by(try dsimp only);omega,by(try dsimp only);omega,aj.to (by simp[hw,hsu]) (by simp[qU]) (by simp) (by simp) (by simp[dC])⟩
 have hie:i=T.lits.length:=by omega
 subst hie;have hct:=ir (dP T N.at' T.lits.length) con (by omega);unfold pn;generalize dP T N.at' T.lits.length=O at*;simp;refine am.intro hct (by simp) ?_
 by_cases hc:con∈O
 ·simp[hc,cz,cI]
 ·simp[hc,cz,cI,af];omega
theorem wx(T:Tr)(out:List Int):∀i,(cq T out i).2.1≤i∧((cq T out i).2.1=0∨(cq T out i).2.2<i)∧(cq T out i).2.2≤i
 |0=>⟨Nat.le_refl _,.inl rfl,Nat.le_refl _⟩
 |i+1=>by
  have ih:=wx T out i;rw[cq];split
  ·exact⟨by dsimp only;omega,.inr (by dsimp only;omega),by dsimp only;omega⟩
  ·split
   ·refine⟨by dsimp only;omega,?_,by dsimp only;omega⟩;dsimp only;rename_i c1 c2;rcases ih.2.1 with e|e
    ·exact .inr (by omega)
    ·exact .inr (by omega)
   ·exact⟨by omega,ih.2.1.imp id (fun e=>by omega),by omega⟩
set_option maxRecDepth 16000 in
theorem BT(T:Tr)(lits:List Int)(ht:T.ok)(hl:lits.length≤1000000):ao Tryz.prog 163 [bu T,.seq false 1 (af lits)] (fun r=>r=.own true 1 (af (DY T lits))):=by
 refine aw aG Tryz.func163 (by kernel_rfl) rfl rfl (by kernel_rfl) (Nat.le_of_ble_eq_true rfl) ?_;have hN:=Gy lits hl;have hnl:=Bz lits;unfold DY DX;generalize d4 lits=out at*;simp;refine am.intro hN (by simp) ?_;simp;refine aH.intro (S:=fun(i:Nat)=>⟨[(0,.pv (bu T)),(5,.own true 1 (af out)),(6,.pv (ae (cq T out i).1)),(7,.pv (ae (cq T out i).2.1)),(8,.pv (ae (cq T out i).2.2)),(15,.al (.slot 5)),(16,.pv (ae out.length)),(17,.pv (ae i))],[]⟩) (fun i=>i≤out.length) (fun i=>out.length -i) 0 ?_ (Nat.zero_le _) ?_
 ·exact aj.to (by simp[cq]) (by simp) (by simp) (by simp) (by simp)
 intro i hi;obtain⟨a1,a2,a3⟩:=wx T out i
 by_cases h:i<out.length
 ·have hw:aM ((i:Int)+1)=((i+1:Nat):Int):=by rw[ah (by omega) (by omega)];omega
  have hg:out.getD i 0=out[i]:=by rw[List.getD_eq_getElem?_getD,List.getElem?_eq_getElem h];rfl
  have hlv:=eP T (ab out[i]) ht;have hsu:cq T out (i+1)=if(cq T out i).1<(dq T (ab out[i])).1.lev then((dq T (ab out[i])).1.lev,1,i)else if(dq T (ab out[i])).1.lev=(cq T out i).1 then((cq T out i).1,(cq T out i).2.1+1,(cq T out i).2.2)else cq T out i:=by rw[cq,hg];rfl
  have hwm:aM (((cq T out i).2.1:Int)+1)=(((cq T out i).2.1+1:Nat):Int):=by rw[ah (by omega) (by omega)];omega
  simp[h];refine am.intro (aD out[i]) (by simp) ?_;simp;refine am.intro hlv (by simp) ?_
  by_cases c1:(cq T out i).1<(dq T (ab out[i])).1.lev
  ·rw[if_pos c1]at hsu;simp[c1];refine⟨i+1,by(try dsimp only);omega,by(try dsimp only);omega,aj.to (by simp[hw,hsu]) (by simp) (by simp) (by simp) (by simp)⟩
  rw[if_neg c1]at hsu
  by_cases c2:(dq T (ab out[i])).1.lev=(cq T out i).1
  ·rw[if_pos c2]at hsu;simp[c1,c2];refine⟨i+1,by(try dsimp only);omega,by(try dsimp only);omega,aj.to (by simp[hw,hsu,hwm]) (by simp) (by simp) (by simp) (by simp)⟩
  ·rw[if_neg c2]at hsu;simp[c1,c2];refine⟨i+1,by(try dsimp only);omega,by(try dsimp only);omega,aj.to (by simp[hw,hsu]) (by simp) (by simp) (by simp) (by simp)⟩
 have hie:i=out.length:=by omega
 subst hie;clear hi h;generalize cq T out out.length=s at*;obtain⟨top,many,at'⟩:=s;dsimp only at a1 a2 a3⊢
 by_cases c:many=1
 rotate_left
 ·have c':¬(many:Int)=1:=by omega
  simp[c,c']
 subst c;have hat:at'<out.length:=by omega
 have hg:out.getD at' 0=out[at']:=by rw[List.getD_eq_getElem?_getD,List.getElem?_eq_getElem hat];rfl
 have hw:aM ((at':Int)+1)=((at'+1:Nat):Int):=by rw[ah (by omega) (by omega)];omega
 simp only[if_pos,hg];simp[hat,hw];have hdl:(out.take at'++out.drop (at'+1)++List.replicate (at'+1 -at') 0).length=out.length:=by simp;omega
 have hd1:out.length -(at'+1 -at')=out.length -1:=by omega
 have hD:=ww Tryz.dlaA out at' (at'+1) (by omega) (by omega) (by kernel_rfl);rw[hd1]at hD;refine am.introX (dg.introW (ps:=.slot 5) (hi:=out.length) hD hdl (by omega) (fun e=>by rw[e]at hat;simp at hat) (by simp) rfl rfl (by simp) (by simp) rfl (by simp) (by simp) ?_);have hpl:(out.take at'++out.drop (at'+1)).length=out.length -1:=by simp;omega
 have htk:(out.take at'++out.drop (at'+1)++List.replicate (at'+1 -at') 0).take (out.length -1)=out.eraseIdx at':=by
  rw[List.take_left' hpl,List.eraseIdx_eq_take_drop_succ]
 have hdk:(out.take at'++out.drop (at'+1)++List.replicate (at'+1 -at') 0).drop (out.length -1+1)=[]:=List.drop_eq_nil_of_le (by rw[hdl];omega);generalize out.take at'++out.drop (at'+1)++List.replicate (at'+1 -at') 0=dl at*;generalize out[at']=u at*;simp;refine am.introX (dg.introI (ps:=.slot 5) (py:=.slot 51) (hi:=out.length -1) (zs:=dl) (x:=u) Tryz.insA (by kernel_rfl) (by simp) rfl rfl (by simp) (by simp) (by simp) (by simp) (by simp) (by simp) rfl (by decide) rfl (by omega) ?_);rw[htk,hdk];simp;exact List.take_of_length_le (by rw[fD,List.length_cons,List.length_eraseIdx_of_lt hat];omega)
def IF(A:Ar)(T:Tr):List SV:=[.pv (jY A),.pv (bu T),.omap true (aT fI []),.pv (.lit (.slice none 0 0)),.pv (ae 0)]
set_option maxRecDepth 16000 in
theorem BU(A:Ar)(T:Tr)(q but:Int)(ht:T.ok)(h0:A.hd≠[])(hk:jC A)(hl:A.row.length≤1000000):
 aE Tryz.prog 161 [.ptr 0 0,ae q,ae but] [IF A T] (fun r h'=>h'=[gZ A T (c9 T but (aq A q) ⟨[],[],0⟩)]∧r=.pv (.tup [])):=by
 obtain⟨p,hp⟩:∃p:PS,p=⟨[],[],0⟩:=⟨_,rfl⟩;rw[←hp];have hm0:p.many=0:=by rw[hp]
 have hl0:p.lits.length=0:=by rw[hp];rfl
 refine gN [] [] [gZ A T (c9 T but (aq A q) p)] (by simp) (fun _=>⟨aN _ _ _ _,trivial⟩) aG Tryz.func161 (by kernel_rfl) rfl rfl (by kernel_rfl) (Nat.le_of_ble_eq_true rfl) ?_;have hL:=iU A h0 hk hl q;have hc:=eU A hk q;generalize aq A q=c at*;simp[IF];refine am.intro hL (by simp) ?_;simp;refine aH.intro (S:=fun(i:Nat)=>⟨[(0,.pv (.ptr 0 0)),(2,.pv (ae but)),(6,.pv (.fn (.func 170) [bu T] [])),(20,.own true 1 (af c)),(21,.pv (ae c.length)),(22,.pv (ae i))],[gZ A T (c9 T but (c.take i) p)]⟩) (fun i=>i≤c.length) (fun i=>c.length -i) 0 ?_ (Nat.zero_le _) ?_
 ·exact(aj.nilCell (b:=0) (k:=3) (xs:=IF A T) 1 true (by simp[IF]) (by simp[IF])).trans (aj.to (by simp) (by simp[gZ,IF,c9,hp,af]) (by simp) (by simp) (by simp[aN]))
 intro i hi
 by_cases h:i<c.length
 rotate_left
 ·have hie:i=c.length:=by omega
  subst hie;simp[gZ,fe]
 have hw:aM ((i:Int)+1)=((i+1:Nat):Int):=by rw[ah (by omega) (by omega)];omega
 have hs:=qR T but c p h;have hle:=iW T but (c.take i) p;rw[List.length_take]at hle;generalize c9 T but (c.take i) p=s at*;have hlv:=eP T (ab c[i]) ht;simp[h,gZ];refine am.intro (aD c[i]) (by simp) ?_;simp;refine bY.intro (fun _=>hlv) (by simp) ?_
 by_cases c1:ab c[i]=but
 ·have hd:takeF T but s c[i]=s:=by unfold takeF;rw[if_pos (.inl c1)]
  simp[c1];refine⟨i+1,by(try dsimp only);omega,by(try dsimp only);omega,aj.to (by simp[hw]) (by simp[gZ,hs,hd]) (by simp) (by simp) (by simp[aN])⟩
 by_cases c2:0<(lk s.seen (ab c[i])).getD 0
 ·have hd:takeF T but s c[i]=s:=by unfold takeF;rw[if_pos (.inr (.inl (by simpa[ay]using c2)))]
  simp[c1,c2];refine⟨i+1,by(try dsimp only);omega,by(try dsimp only);omega,aj.to (by simp[hw]) (by simp[gZ,hs,hd]) (by simp) (by simp) (by simp[aN])⟩
 have c2':(lk s.seen (ab c[i])).getD 0≤0:=by omega
 by_cases c3:(dq T (ab c[i])).1.lev≤0
 ·have hd:takeF T but s c[i]=s:=by unfold takeF;rw[if_pos (.inr (.inr c3))]
  simp[c1,c2,c2',c3];refine⟨i+1,by(try dsimp only);omega,by(try dsimp only);omega,aj.to (by simp[hw]) (by simp[gZ,hs,hd]) (by simp) (by simp) (by simp[aN])⟩
 have hd:takeF T but s c[i]=if(dq T (ab c[i])).1.lev=T.beg.length then⟨pt s.seen (ab c[i]) 1,s.lits,s.many+1⟩else⟨pt s.seen (ab c[i]) 1,s.lits++[c[i]],s.many⟩:=by
  unfold takeF;rw[if_neg]
  ·rfl
  rintro(e|e|e)
  ·exact c1 e
  ·exact c2 (by simpa[ay]using e)
  ·exact c3 e
 simp[c1,c2,c2',c3];refine bs.intro hlv (by simp) ?_;simp;refine bs.intro (iT T) (by simp) ?_
 by_cases c4:(dq T (ab c[i])).1.lev=T.beg.length
 ·rw[if_pos c4]at hd;have hwm:aM ((s.many:Int)+1)=((s.many+1:Nat):Int):=by rw[ah (by omega) (by omega)];omega
  simp[c4];refine⟨i+1,by(try dsimp only);omega,by(try dsimp only);omega,aj.to (by simp[hw]) (by simp[gZ,hs,hd,hwm]) (by simp) (by simp) (by simp[aN])⟩
 ·rw[if_neg c4]at hd;simp[c4];refine⟨by omega,i+1,by(try dsimp only);omega,by(try dsimp only);omega,aj.to (by simp[hw]) (by simp[gZ,hs,hd,af]) (by simp) (by simp) (by simp[aN])⟩
def jE(A:Ar)(T:Tr)(con:Int):Int:=if lh A con=0 then 20 else if mV T (aq A con)=false then 30 else 0
def oA(A:Ar)(T:Tr)(con:Int):List Int:=if jE A T con=0 then cZ A T con else[]
structure DeskI (cs:List (List Int)) (ats:List Int) (D:DK):Prop extends DeskT cs ats D where
  id:∀x∈D.a.rows,1≤x.id
/-! ### What was gathered -/
structure NI (D:DK) (L:List Int) (s:NS):Prop where
  val:∀p,0≤(lk s.at' p).getD 0
  mem:∀p,ay s.at' p=true→∃j,∃hj:j<D.t.rows.length,p=(j:Int)∧0≤D.t.rows[j].rea∧-D.t.rows[j].l∉L
def Met(D:DK)(L:List Int)(s:NS)(y:Int):Prop:=y∈L∨∃j,∃hj:j<D.t.rows.length,D.t.rows[j].l=-y∧ay s.at' j=true
structure Post (D:DK) (L:List Int) (s s':NS) (c:List Int) (but:Int):Prop where
  ni:NI D L s'
  mono:∀p,ay s.at' p=true→ay s'.at' p=true
  all:s'.ok=true→s.ok=true∧(∀y∈c,y≠but→Met D L s' y)∧∀j (hj:j<D.t.rows.length),ay s'.at' j=true→ay s.at' j=false→∀y∈aq D.A D.t.rows[j].rea,y≠D.t.rows[j].l→Met D L s' y
  ok:(∀y∈c,y≠but→HOk D.A D.T L y)→s'.ok=s.ok
theorem Met.mono{D:DK}{L:List Int}{s s':NS}{y:Int}(h:Met D L s y)(hm:∀p,ay s.at' p=true→ay s'.at' p=true):Met D L s' y:=
 h.imp id fun⟨j,hj,e1,e2⟩=>⟨j,hj,e1,hm _ e2⟩
def pp(l:List Int):List (List Int)→Nat→List Int×Nat×Int
 |[],n=>(l,n,23)
 |h::hs,n=>if FX l h=-1 then(l,n+1,0)else if(fX l h).2=true then pp (l++[(fX l h).1]) hs (n+1)else([],n,22)
def sV(c:List Int):Nat→List Int
 |0=>[]
 |i+1=>if c.getD i 0∈c.take i then sV c i else sV c i++[aM (-(c.getD i 0))]
theorem sW(c:List Int)(x:Int):∀i,i≤c.length→(x∈sV c i↔∃y∈c.take i,x=aM (-y))
 |0,_=>by simp[sV]
 |i+1,h=>by
  have ih:=sW c x i (by omega);have hg:c.getD i 0=c[i]:=by rw[List.getD_eq_getElem?_getD,List.getElem?_eq_getElem (by omega)];rfl
  have ht:c.take (i+1)=c.take i++[c[i]]:=(List.take_append_getElem (by omega)).symm;rw[sV,hg,ht]
  by_cases e:c[i]∈c.take i
  ·rw[if_pos e,ih];constructor
   ·rintro⟨y,hy,e2⟩;exact⟨y,List.mem_append_left _ hy,e2⟩
   ·rintro⟨y,hy,e2⟩;rcases List.mem_append.1 hy with hy|hy
    ·exact⟨y,hy,e2⟩
    ·simp at hy;subst hy;exact⟨_,e,e2⟩
  ·rw[if_neg e,List.mem_append,ih,List.mem_singleton];constructor
   ·rintro(⟨y,hy,e2⟩|e2)
    ·exact⟨y,List.mem_append_left _ hy,e2⟩
    ·exact⟨_,List.mem_append_right _ (List.mem_singleton.2 rfl),e2⟩
   ·rintro⟨y,hy,e2⟩;rcases List.mem_append.1 hy with hy|hy
    ·exact .inl ⟨y,hy,e2⟩
    ·simp at hy;subst hy;exact .inr e2
def wy(c:List Int):List Int:=sV c c.length
theorem nH(c:List Int)(x:Int):x∈wy c↔∃y∈c,x=aM (-y):=by
 have:=sW c x c.length (Nat.le_refl _)
 rwa [List.take_length]at this
def AllNeg(D:DK)(L:List Int):Prop:=∀y∈L,ax y 6=0∧∃j,∃hj:j<D.t.rows.length,D.t.rows[j].l=-y
def rj(D:DK)(j:Nat):Int:=rea D.T (D.T.lits.getD j 0)
theorem fE{t:RT}{j:Nat}(hj:j<t.rows.length):t.rows[j].l∈dx t:=List.mem_map.2 ⟨_,List.getElem_mem hj,rfl⟩
def BV(s:NS)(i:Nat):List Nat:=(List.range i).filter fun j=>ay s.at' j
theorem Ec(s:NS)(i:Nat):BV s (i+1)=if ay s.at' i=true then BV s i++[i]else BV s i:=by
 unfold BV;rw[List.range_succ,List.filter_append]
 by_cases c:ay s.at' i=true
 ·rw[if_pos c,List.filter_cons,if_pos c];rfl
 ·rw[if_neg c,List.filter_cons,if_neg c];simp
theorem uG(s:NS)(i j:Nat):j∈BV s i↔j<i∧ay s.at' j=true:=by
 unfold BV;rw[List.mem_filter,List.mem_range]
structure CInv (D:DK) (L:List Int) (s:NS) (l:List Int) (js:List Nat):Prop where
  sub:∀x∈l,x∈dx D.t
  neg:∀y∈L,-y∈l
  don:∀j (hj:j<D.t.rows.length),ay s.at' j=true→j∉js→D.t.rows[j].l∈l
  todo:∀j∈js,∃hj:j<D.t.rows.length,ay s.at' j=true∧D.t.rows[j].l∉l
  inc:js.Pairwise (·<·)
def GQ(l:List Int)(x:Int):Int:=if x∈l then 1 else if aM (-x)∈l then-1 else 0
theorem uH(l:List Int)(x:Int):(0<(lk (cv l l.length) x).getD 0)=(x∈l):=by
 have:=qV l x l.length (Nat.le_refl _);rw[List.take_length]at this;unfold ay at this;rw[decide_eq_true_eq]at this;exact propext this
def yz(n:Nat):PV:=.fn (.func 200) [] [.ptr n 0]
theorem yA(l:List Int)(x:Int):ao Tryz.prog 200 [ae x,.iptr 1 [[.amap false (aT fI (cv l l.length))]] 0 0] (fun r=>r=.pv (ae (GQ l x))):=by
 refine aw aG Tryz.func200 (by kernel_rfl) rfl rfl (by kernel_rfl) (Nat.le_of_ble_eq_true rfl) ?_;unfold GQ
 by_cases c1:x∈l
 ·simp[uH,c1]
 ·by_cases c2:aM (-x)∈l
  ·simp[uH,c1,c2]
  ·simp[uH,c1,c2]
set_option maxRecDepth 16000 in
theorem BW(h:List (List SV))(l:List Int)(hl:l.length≤1000000):aE Tryz.prog 120 [.seq false 1 (af l)] h (fun r h'=>h'=h++[[.omap true (aT fI (cv l l.length))]]∧r=.pv (yz h.length)):=by
 refine aE.below (by kernel_rfl) fun hh=>?_;refine dh [] [.tmp 2] aG Tryz.func120 (by kernel_rfl) rfl rfl (by kernel_rfl) (Nat.le_of_ble_eq_true rfl) ?_;simp;refine aH.intro (S:=fun(i:Nat)=>⟨[(3,.pv (.ptr h.length 0)),(9,.pv (.seq false 1 (af l))),(10,.pv (ae l.length)),(11,.pv (ae i))],h++[[.omap true (aT fI (cv l i))]]⟩) (fun i=>i≤l.length) (fun i=>l.length -i) 0 ?_ (Nat.zero_le _) ?_
 ·exact aj.keep (by simp) (by simp[cv])
 intro i hi
 by_cases c:i<l.length
 ·have hw:aM ((i:Int)+1)=((i+1:Nat):Int):=by rw[ah (by omega) (by omega)];omega
  have hg:l.getD i 0=l[i]:=by simp[c]
  have hs:cv l (i+1)=pt (cv l i) l[i] ((lk (cv l i) l[i]).getD 0+1):=by rw[cv,hg]
  have hb:=nG l i l[i];have hw2:aM ((lk (cv l i) l[i]).getD 0+1)=(lk (cv l i) l[i]).getD 0+1:=ah (by omega) (by omega);simp[c];exact⟨i+1,by(try dsimp only);omega,by(try dsimp only);omega,aj.keep (by simp[hw]) (by simp[hw2,hs])⟩
 ·have:i=l.length:=by omega
  subst this;simp[yz]
def jG(T:Tr):Tr:=⟨T.marks.set (ab (T.lits.getD (T.lits.length -1) 0)).toNat ⟨0,0,0,0⟩,T.lits.take (T.lits.length -1),T.beg⟩
def popN(T:Tr):Nat→Tr
 |0=>T
 |j+1=>jG (popN T j)
def bZ(T:Tr)(k:Nat):Tr:=⟨(popN T (T.lits.length -(T.beg.getD k 0).toNat)).marks,(popN T (T.lits.length -(T.beg.getD k 0).toNat)).lits,T.beg.take k⟩
set_option maxRecDepth 16000 in
theorem yO(h:List (List SV))(n b:Nat)(T:Tr)(hn:h[n]?=some [.pv (.ptr b 0)])(hb:h[b]?=some (fB T))(h0:T.lits≠[])(hs:T.lits.length≤1000000)(hv:∀y∈T.lits,0≤ab y∧ab y<T.marks.length):
 aE Tryz.prog 265 [.ptr n 0] h (fun r h'=>h'=h.set b (fB (jG T))∧r=.pv (ae (T.lits.getD (T.lits.length -1) 0))):=by
 refine gN [] [.tmp 1] (h.set b (fB (jG T))) (by simp) (fun hh=>by rw[List.length_set];exact d0 (gO _ _) b hh) aG Tryz.func265 (by kernel_rfl) rfl rfl (by kernel_rfl) (Nat.le_of_ble_eq_true rfl) ?_;obtain⟨hlt,hb'⟩:=List.getElem?_eq_some_iff.1 hb;obtain⟨hltn,hn'⟩:=List.getElem?_eq_some_iff.1 hn;obtain⟨m,hm⟩:∃m,T.lits.length=m+1:=⟨T.lits.length -1,by have:=List.length_pos_iff.2 h0;omega⟩;have hml:m<T.lits.length:=by omega
 have hw:aM ((T.lits.length:Int) -1)=(m:Int):=by rw[ah (by omega) (by omega)];omega
 have hg:T.lits.getD (T.lits.length -1) 0=T.lits[m]:=by rw[hm,Nat.add_sub_cancel,List.getD_eq_getElem?_getD,List.getElem?_eq_getElem hml];rfl
 rw[hg];have hne:n≠b:=fun e=>by subst e;rw[hn]at hb;simp[fB]at hb
 have hgn:∀x,(h.set b x)[n]?=some [.pv (.ptr b 0)]:=fun x=>by rw[List.getElem?_set_ne (Ne.symm hne)];exact hn
 have hgn':∀x hh,(h.set b x)[n]'hh=[.pv (.ptr b 0)]:=fun x hh=>by have:=hgn x;rw[List.getElem?_eq_getElem hh]at this;exact Option.some.inj this
 have hgs:∀x hh,(h.set b x)[b]'hh=x:=fun x hh=>by simp
 obtain⟨v1,v2⟩:=hv _ (List.getElem_mem hml);have hLV:=aD T.lits[m];obtain⟨i,hi⟩:∃i:Nat,ab T.lits[m]=(i:Int):=⟨(ab T.lits[m]).toNat,by omega⟩;have hil:i<T.marks.length:=by omega
 have hmk:(T.marks.map nV).set i [ae 0,ae 0,ae 0,ae 0]=(T.marks.set i ⟨0,0,0,0⟩).map nV:=by rw[List.map_set];rfl
 have hlt2:(af T.lits).take m=af (T.lits.take m):=by unfold af;rw[List.map_take]
 have hpo:jG T=⟨T.marks.set i ⟨0,0,0,0⟩,T.lits.take m,T.beg⟩:=by unfold jG;rw[hg,hi,Int.toNat_natCast,hm,Nat.add_sub_cancel]
 have hlm:m≤T.lits.length:=by omega
 rw[hpo];rw[hi]at hLV;simp[hb',hn',hlt,hltn,fB,hw,hgn',hgs,hml,hlm,hlt2];refine bs.intro hLV (by simp) ?_;simp[hb',hn',hlt,hltn,fB,hw,hgn',hgs,hml,hlm,hlt2,hil,hmk];rw[List.take_of_length_le (by simp)];simp[nV]
theorem B1(h:List (List SV))(b:Nat):
 aE Tryz.prog 211 [.ptr b 0] h (fun r h'=>h'=h++[[.pv (.ptr b 0)]]∧r=.pv (.fn (.func 265) [] [.ptr h.length 0])):=by
 refine dh [] [.tmp 2] aG Tryz.func211 (by kernel_rfl) rfl rfl (by kernel_rfl) (Nat.le_of_ble_eq_true rfl) ?_;simp
theorem rb(T:Tr):∀j,(popN T j).beg=T.beg
 |0=>rfl
 |j+1=>rb T j
theorem At(T:Tr):∀j,(popN T j).marks.length=T.marks.length
 |0=>rfl
 |j+1=>by rw[popN];unfold jG;rw[List.length_set];exact At T j
theorem dJ(T:Tr):∀j,(popN T j).lits=T.lits.take (T.lits.length -j)
 |0=>by rw[popN,Nat.sub_zero,List.take_length]
 |j+1=>by
  rw[popN];unfold jG;simp only;rw[dJ T j,List.take_take,List.length_take,show min (min (T.lits.length -j) T.lits.length -1) (T.lits.length -j)=T.lits.length -(j+1) by omega]
def re(T:Tr):Nat→List Int
 |0=>[]
 |j+1=>re T j++[(popN T j).lits.getD ((popN T j).lits.length -1) 0]
theorem rf(T:Tr):∀j,(re T j).length=j
 |0=>rfl
 |j+1=>by rw[re,List.length_append,rf T j];rfl
/-! ### Levels, in order, each once -/
theorem wR{zs:List Int}(hs:zs.Pairwise (·≤·)):∀j,j≤zs.length→(aR zs j).Pairwise (·<·)∧∀x,x∈aR zs j↔x∈zs.take j
 |0,_=>⟨by simp[aR],fun x=>by simp[aR]⟩
 |j+1,h=>by
  obtain⟨h1,h2⟩:=wR hs j (by omega);have hg:zs.getD j 0=zs[j]:=by simp[show j<zs.length by omega]
  rw[aR,hg,List.take_add_one,List.getElem?_eq_getElem (by omega),Option.toList_some];have hp:=List.pairwise_iff_getElem.1 hs
  by_cases d:j=0∨zs[j]≠zs.getD (j -1) 0
  ·rw[if_pos d];refine⟨List.pairwise_append.2 ⟨h1,by simp,fun y hy z hz=>?_⟩,fun x=>by rw[List.mem_append,List.mem_append,h2]⟩;rw[List.mem_singleton]at hz;subst hz;obtain⟨k,hk,rfl⟩:=List.getElem_of_mem ((h2 y).1 hy);rw[List.length_take]at hk;rw[List.getElem_take];rcases d with rfl|d
   ·omega
   ·have e2:zs.getD (j -1) 0=zs[j -1]:=by simp[show j -1<zs.length by omega]
    rw[e2]at d;have a1:zs[k]≤zs[j -1]:=by
     by_cases e:k=j -1
     ·subst e;exact Int.le_refl _
     ·exact hp k (j -1) (by omega) (by omega) (by omega)
    have a2:zs[j -1]≤zs[j]:=hp (j -1) j (by omega) (by omega) (by omega);omega
  ·rw[if_neg d];refine⟨h1,fun x=>?_⟩;rw[h2,List.mem_append,List.mem_singleton];refine⟨.inl,fun hx=>hx.elim id fun e=>?_⟩;have hj:j≠0:=fun e=>d (.inl e);have e2:zs.getD (j -1) 0=zs[j -1]:=by simp[show j -1<zs.length by omega]
   have e3:zs[j]=zs[j -1]:=Classical.byContradiction fun hh=>d (.inr (by rw[e2];exact hh));rw[e,e3];exact List.mem_take_iff_getElem.2 ⟨j -1,by omega,rfl⟩
theorem wS(l:List Int):(cW (dO l)).Pairwise (·<·)∧∀x,x∈cW (dO l)↔x∈l:=by
 obtain⟨h1,h2⟩:=wR (uA l) (dO l).length (Nat.le_refl _);refine⟨h1,fun x=>?_⟩;rw[List.take_length]at h2;refine(h2 x).trans ?_;unfold dO;exact(List.mergeSort_perm _ _).mem_iff
theorem AH{T:Tr}{L:List Int}{u:Int}{r:List Int}(e:L=u::r)(hv:∀y∈L,bV T y≠0)(hp:∀y∈L,0<dB T y)(hr:∀y∈r,dB T y<dB T u):
 0≤ed T L∧ed T L<dB T u∧∀y∈r,dB T y≤ed T L:=by
 have hlv:eV T L L.length=L.map (dB T):=by
  unfold eV;rw[List.take_length,List.filter_eq_self.2 (fun y hy=>by simpa using hv y hy)]
 obtain⟨h1,h2⟩:=wS (L.map (dB T));unfold ed D8;rw[hlv];have hu:dB T u∈cW (dO (L.map (dB T))):=(h2 _).2 (List.mem_map.2 ⟨u,by rw[e];exact List.mem_cons_self,rfl⟩);have hm:∀y∈r,dB T y∈cW (dO (L.map (dB T))):=fun y hy=>(h2 _).2 (List.mem_map.2 ⟨y,by rw[e];exact List.mem_cons_of_mem _ hy,rfl⟩);have hb:∀x∈cW (dO (L.map (dB T))),0<x∧x≤dB T u:=fun x hx=>by
  obtain⟨y,hy,rfl⟩:=List.mem_map.1 ((h2 x).1 hx);refine⟨hp y hy,?_⟩;rw[e]at hy;rcases List.mem_cons.1 hy with rfl|hy
  ·exact Int.le_refl _
  ·have:=hr y hy;omega
 generalize cW (dO (L.map (dB T)))=C at*;have hpw:=List.pairwise_iff_getElem.1 h1;obtain⟨i,hi,hui⟩:=List.getElem_of_mem hu;have hlast:i=C.length -1:=by
  refine Classical.byContradiction fun hne=>?_;have:=hpw i (C.length -1) hi (by omega) (by omega);have:=(hb _ (List.getElem_mem (show C.length -1<C.length by omega))).2;omega
 have hpu:=hp u (by rw[e];exact List.mem_cons_self);split
 ·rename_i hlt;refine⟨Int.le_refl _,hpu,fun y hy=>?_⟩;obtain⟨j,hj,hyj⟩:=List.getElem_of_mem (hm y hy);have hji:j=i:=by omega
  subst hji;have:=hr y hy;omega
 ·rename_i hlt;have hC2:C.getD (C.length -2) 0=C[C.length -2]:=by rw[List.getD_eq_getElem?_getD,List.getElem?_eq_getElem (by omega)];rfl
  rw[hC2];have h2l:=hb _ (List.getElem_mem (show C.length -2<C.length by omega));refine⟨by omega,?_,fun y hy=>?_⟩
  ·have:=hpw (C.length -2) i (by omega) hi (by omega);omega
  ·obtain⟨j,hj,hyj⟩:=List.getElem_of_mem (hm y hy);have hne:j≠i:=fun e=>by subst e;have:=hr y hy;omega
   by_cases e2:j=C.length -2
   ·subst e2;omega
   ·have:=hpw j (C.length -2) hj (by omega) (by omega);omega
/-! ### Where levels begin -/
/-! ### Back -/
/-! ### What is left stands for what was there -/
theorem Cb{A:Ar}{T:Tr}{R S:List Int}(h:∀x∈R,HOk A T S x){y:Int}(hy:HOk A T R y):HOk A T S y:=by
 induction hy with
 |stop hm=>exact h _ hm
 |why a b c _ ih=>exact .why a b c ih
theorem Hf(A:Ar)(T:Tr)(L:List Int):(oy A T L).Sublist L:=DV A T L
theorem Ff(A:Ar)(T:Tr)(u:Int)(r:List Int):∃r',oy A T (u::r)=u::r'∧∀y∈r',y∈r:=by
 refine⟨aU (fY A T (u::r)) r,by unfold oy;rfl,fun y hy=>?_⟩;unfold aU at hy;exact(List.mem_filter.1 hy).1
theorem back_mem{T:Tr}{L:List Int}{u:Int}{r:List Int}(e:L=u::r)(hv:∀y∈L,bV T y≠0)(hp:∀y∈L,0<dB T y)(hr:∀y∈r,dB T y<dB T u):
 ed T L=0∨∃y∈r,ed T L=dB T y:=by
 obtain⟨_,b1,_⟩:=AH e hv hp hr;have hlv:eV T L L.length=L.map (dB T):=by
  unfold eV;rw[List.take_length,List.filter_eq_self.2 (fun y hy=>by simpa using hv y hy)]
 obtain⟨_,h2⟩:=wS (L.map (dB T));unfold ed D8 at b1⊢;rw[hlv]at b1⊢;split at b1
 ·rename_i c;rw[if_pos c];exact .inl rfl
 ·rename_i c;rw[if_neg c];right;generalize hC:cW (dO (L.map (dB T)))=C at*;have hC2:C.getD (C.length -2) 0=C[C.length -2]:=by rw[List.getD_eq_getElem?_getD,List.getElem?_eq_getElem (by omega)];rfl
  rw[hC2]at b1⊢;obtain⟨y,hy,e2⟩:=List.mem_map.1 ((h2 _).1 (List.getElem_mem (show C.length -2<C.length by omega)));refine⟨y,?_,e2.symm⟩;rw[e]at hy;rcases List.mem_cons.1 hy with rfl|hy
  ·omega
  ·exact hy
/-! ### What is shown holds -/
theorem jI{m:List Bool}{x:Int}(h:gg m x=true):da x=true∧0≤bi x:=by
 have hk:da x=true:=by
  rw[bj];unfold gg at h;simp only[Bool.and_eq_true,decide_eq_true_eq]at h;have h1:=h.1;unfold cC at h1;split at h1
  ·omega
  ·split at h1
   ·omega
   ·exact absurd rfl h1
 refine⟨hk,?_⟩;have:=(bj x).1 hk;unfold bi eF;rw[if_pos hk];split<;>omega
theorem wU{m:List Bool}{x:Int}(h:gg m x=true):gg m (-x)=false:=by
 obtain⟨hk,_⟩:=jI h;have hr:=(bj x).1 hk;unfold gg cC at*
 by_cases c:0<x
 ·rw[if_pos (by omega)]at h;rw[if_neg (by omega),if_pos (by omega)];simp only[Int.neg_neg]at h⊢
  revert h
  cases hb:(decide (x≤(m.length:Int))&&m.getD (x -1).toNat false)<;>simp
 ·rw[if_neg (by omega),if_pos (by omega)]at h;rw[if_pos (by omega)];simp only at h⊢
  revert h
  cases hb:(decide (-x≤(m.length:Int))&&m.getD (-x -1).toNat false)<;>simp
theorem Fg{m:List Bool}{x:Int}(hk:da x=true)(h:gg m x=false):gg m (-x)=true:=by
 have hr:=(bj x).1 hk;unfold gg cC at*
 by_cases c:0<x
 ·rw[if_pos (by omega)]at h;rw[if_neg (by omega),if_pos (by omega)];simp only[Int.neg_neg]at h⊢
  revert h
  have:x≠0:=by omega
  cases hb:(decide (x≤(m.length:Int))&&m.getD (x -1).toNat false)<;>simp[this]
 ·rw[if_neg (by omega),if_pos (by omega)]at h;rw[if_pos (by omega)];simp only at h⊢
  revert h
  have:-x≠0:=by omega
  cases hb:(decide (-x≤(m.length:Int))&&m.getD (-x -1).toNat false)<;>simp[this]
theorem Hg{l:List Int}{x:Int}(h:cG l x=-1):aM (-x)∈l:=by
 unfold cG at h;split at h
 ·omega
 ·split at h
  ·omega
  ·split at h
   ·assumption
   ·omega
theorem AI{m:List Bool}{l:List Int}(hl:∀y∈l,gg m y=true){x:Int}(hx:gg m x=true):cG l x≠-1:=fun e=>by
 have h1:=Hg e;obtain⟨hk,_⟩:=jI hx;have hr:=(bj x).1 hk;rw[ah (by omega) (by omega)]at h1;have:=hl _ h1;rw[wU hx]at this;cases this
theorem yV{m:List Bool}{l c:List Int}(hc:c.length≤1000000)(hl:∀y∈l,gg m y=true)(hh:cD c m=true)(hu:(fX l c).2=true):gg m (fX l c).1=true:=by
 obtain⟨y,hy,hyt⟩:=List.any_eq_true.1 hh;have hg:=mQ l c 0 0 0 (by omega) (by omega) (by omega);have hct:K5 l c=(((0+iV l c 1:Nat):Int),((0+iV l c (-1):Nat):Int),((0+(fo l c).length:Nat):Int)):=hg;have h0:iV l c 1=0∧(fo l c).length=1∧(fX l c).1=c.foldl (HE l) 0:=by
  unfold fX at hu⊢;rw[hct]at hu⊢;split at hu
  ·cases hu
  ·rename_i hn;rw[if_neg hn];simp only[ne_eq,not_or,Decidable.not_not]at hn;exact⟨by omega,by omega,rfl⟩
 obtain⟨a1,a2,a3⟩:=h0;obtain⟨u,hu1⟩:∃u,fo l c=[u]:=List.length_eq_one_iff.1 a2;rw[uB,hu1]at a3;have hyo:y∈fo l c:=by
  unfold fo;rw[List.mem_filter];refine⟨hy,?_⟩;rw[decide_eq_true_eq];refine⟨(jI hyt).2,fun e=>?_,AI hl hyt⟩;unfold iV at a1;rw[List.length_eq_zero_iff,List.filter_eq_nil_iff]at a1;exact a1 y hy (by simpa using e)
 rw[hu1,List.mem_singleton]at hyo;rw[a3,←hyo];exact hyt
theorem tt{m:List Bool}:∀(hs:List (List Int))(l:List Int)(n:Nat),(∀c∈hs,c.length≤1000000)→(∀y∈l,gg m y=true)→(∀c∈hs,cD c m=true)→(pp l hs n).2.2=0→False
 |[],l,n,_,_,_,h=>by simp[pp]at h
 |c::hs,l,n,hc,hl,hh,h=>by
  rw[pp]at h;split at h
  ·rename_i h1;obtain⟨y,hy,hyt⟩:=List.any_eq_true.1 (hh c List.mem_cons_self);exact AI hl hyt (mR.1 h1 y hy (jI hyt).2)
  ·split at h
   ·rename_i h2;have hu:=yV (hc c List.mem_cons_self) hl (hh c List.mem_cons_self) h2;refine tt hs _ _ (fun c hc'=>hc c (List.mem_cons_of_mem _ hc')) (fun y hy=>?_) (fun c hc'=>hh c (List.mem_cons_of_mem _ hc')) h;rcases List.mem_append.1 hy with hy|hy
    ·exact hl y hy
    ·rw[List.mem_singleton]at hy;rw[hy];exact hu
   ·simp at h
end Go.AX