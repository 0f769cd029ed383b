/-
  Contracts: the document's trails that grow, and its arenas.
-/
import Derived.Test.YthfhellfmbllhaaGreatS12AxRfA
import Derived.Test.YthfhellfmbllhaaGreatS12AxClG
import Derived.Test.YthfhellfmbllhaaGreatAxIs
namespace Go.AX
open Go.Proofs
set_option linter.unusedSimpArgs false
structure Ro where
  at':Int
  id:Int
  lits:List Int
structure RA where
  rows:List Ro
  size:Int
def roR (x:Ro):List PV:=[I64 x.at',I64 x.id,.seq false 1 (irow x.lits),BL false,BL true]
def raV (a:RA):PV:=.agg [.seq false 5 (a.rows.map roR),I64 a.size]
@[simp] theorem belowR_roR (k:Nat) (l:List Ro):belowR k (l.map roR):=by
 induction l with
 |nil=>trivial
 |cons x xs ih=>exact⟨⟨trivial,trivial,belowR_irow k _,trivial,trivial,trivial⟩,ih⟩
@[simp] theorem frzR_roR (r:Nat→Nat→PV) (l:List Ro):frzR r (l.map roR)=l.map roR:=by
 rw[frzR_map,List.map_map];apply List.map_congr_left;intro x _;simp[roR]
theorem wkCs_refl:∀l:List SV,wkCs l l
 |[]=>trivial
 |x::xs=>⟨wkS_refl x,wkCs_refl xs⟩
theorem wkHs_app:∀(h:List (List SV)) {a b:List (List SV)},wkHs a b→wkHs (h++a) (h++b)
 |[],_,_,h=>h
 |x::xs,_,_,h=>⟨wkCs_refl x,wkHs_app xs h⟩
def putEA (id:Int) (lits:List Int):Int:=if id<1∨10000000<id then 2 else chkC lits 100000
def putRA (a:RA) (id:Int) (lits:List Int):RA:=if putEA id lits=0 then⟨a.rows++[⟨a.size,id,lits⟩],w64 (w64 (a.size+3)+lits.length)⟩else a
def putQA (a:RA) (id:Int) (lits:List Int):Int:=if putEA id lits=0 then a.size else 0
set_option maxHeartbeats 4000000 in
def rfRow (a:RA) (id:Int) (lits:List Int):List PV:=[I64 a.size,I64 id,.seq false 1 (irow lits),BL false,BL true]
def rfBa (h:List (List SV)) (a:RA) (id:Int) (lits:List Int):List (List SV):=h++[[.pv (.seq false 5 (a.rows.map roR)),.pv (I64 a.size)],[.pv (.lit (.slice none 0 0)),.pv (.lit (.int .i64 0))]]
def rfBb (h:List (List SV)) (a:RA) (id:Int) (lits:List Int):List (List SV):=h++[[.pv (.seq false 5 (a.rows.map roR)),.pv (I64 a.size)],[.pv (.lit (.slice none 0 0)),.pv (.lit (.int .i64 0))],[.pv (I64 a.size),.pv (I64 id),.pv (.seq false 1 (irow lits)),.pv (BL false),.pv (BL true)]]
def rfBc (h:List (List SV)) (a:RA) (id:Int) (lits:List Int):List (List SV):=h++[[.pv (.seq false 5 (a.rows.map roR)),.pv (I64 a.size)],[.pv (.lit (.slice none 0 0)),.pv (.lit (.int .i64 0))],[.pv (.lit (.int .i64 0)),.pv (.lit (.int .i64 0)),.pv (.lit (.slice none 0 0)),.pv (.lit (.bool false)),.pv (.lit (.bool false))]]
def rfBd (h:List (List SV)) (a:RA) (id:Int) (lits:List Int):List (List SV):=h++[[.pv (.seq false 5 (a.rows.map roR)),.pv (I64 a.size)],[.pv (.seq true 5 (a.rows.map roR++[[I64 a.size,I64 id,.seq false 1 (irow lits),BL false,BL true]])),.pv (I64 (w64 (w64 (a.size+3)+lits.length)))],[.pv (I64 a.size),.pv (I64 id),.pv (.seq false 1 (irow lits)),.pv (BL false),.pv (BL true)]]
theorem rfU:(∀(a:RA) (id:Int) (lits:List Int),rfRow a id lits=[I64 a.size,I64 id,.seq false 1 (irow lits),BL false,BL true])∧(∀(h:List (List SV)) (a:RA) (id:Int) (lits:List Int),rfBa h a id lits=h++[[.pv (.seq false 5 (a.rows.map roR)),.pv (I64 a.size)],[.pv (.lit (.slice none 0 0)),.pv (.lit (.int .i64 0))]])∧(∀(h:List (List SV)) (a:RA) (id:Int) (lits:List Int),rfBb h a id lits=h++[[.pv (.seq false 5 (a.rows.map roR)),.pv (I64 a.size)],[.pv (.lit (.slice none 0 0)),.pv (.lit (.int .i64 0))],[.pv (I64 a.size),.pv (I64 id),.pv (.seq false 1 (irow lits)),.pv (BL false),.pv (BL true)]])∧(∀(h:List (List SV)) (a:RA) (id:Int) (lits:List Int),rfBc h a id lits=h++[[.pv (.seq false 5 (a.rows.map roR)),.pv (I64 a.size)],[.pv (.lit (.slice none 0 0)),.pv (.lit (.int .i64 0))],[.pv (.lit (.int .i64 0)),.pv (.lit (.int .i64 0)),.pv (.lit (.slice none 0 0)),.pv (.lit (.bool false)),.pv (.lit (.bool false))]])∧(∀(h:List (List SV)) (a:RA) (id:Int) (lits:List Int),rfBd h a id lits=h++[[.pv (.seq false 5 (a.rows.map roR)),.pv (I64 a.size)],[.pv (.seq true 5 (a.rows.map roR++[[I64 a.size,I64 id,.seq false 1 (irow lits),BL false,BL true]])),.pv (I64 (w64 (w64 (a.size+3)+lits.length)))],[.pv (I64 a.size),.pv (I64 id),.pv (.seq false 1 (irow lits)),.pv (BL false),.pv (BL true)]]):=⟨fun _ _ _=>rfl,fun _ _ _ _=>rfl,fun _ _ _ _=>rfl,fun _ _ _ _=>rfl,fun _ _ _ _=>rfl⟩
theorem WalkerO.kp {P:Program} {k0:Nat} {ops:Array Oper} {stp:Nat→(St→Prop)→St→Prop} {K:St→Prop} {C:Nat→Array Bool→St→Prop} (hC:WalkerO P k0 ops stp K C) {n:Nat} {l:Array Bool} {st:St} {t1:List (Nat×SV)} {h1:List (List SV)} (hd:C n l ⟨t1,h1⟩) (h:wkL st.t t1) (hh:st.h=h1):C n l st:=hC.weak hd (hh▸Weak.slots h)
set_option maxRecDepth 16000 in
theorem raPut_ok (h:List (List SV)) (a:RA) (id:Int) (lits:List Int) (hl:a.rows.length≤1000000) (hc:lits.length≤1000000):AMut Tryz.prog 39 [raV a,I64 id,.seq false 1 (irow lits),BL false] h (fun r h'=>h'=h∧r=.pv (.tup [raV (putRA a id lits),I64 (putQA a id lits),I64 (putEA id lits)])):=by
  refine amutXW [6,7] [.cell 8 _,.tmp 9,.tmp 10] hmo Tryz.func39 (by kernel_rfl) rfl rfl (by kernel_rfl) (Nat.le_of_ble_eq_true rfl) ?_
  have hE:putEA id lits=if id<1∨10000000<id then 2 else chkC lits 100000:=rfl
  have hA:putRA a id lits=if putEA id lits=0 then⟨a.rows++[⟨a.size,id,lits⟩],w64 (w64 (a.size+3)+lits.length)⟩else a:=rfl
  have hQ:putQA a id lits=if putEA id lits=0 then a.size else 0:=rfl
  generalize putRA a id lits=A at hA⊢
  generalize putQA a id lits=Q at hQ⊢
  generalize putEA id lits=E at hE hA hQ⊢
  by_cases c1:id<1
  · rw[if_pos (.inl c1)]at hE
    subst hE
    rw[if_neg (by omega)]at hA hQ
    subst hA hQ
    simp[raV,c1,wkPL,wkP]
  by_cases c2:10000000<id
  · rw[if_pos (.inr c2)]at hE
    subst hE
    rw[if_neg (by omega)]at hA hQ
    subst hA hQ
    simp[raV,c1,c2,wkPL,wkP]
  rw[if_neg (by omega)]at hE
  simp[raV,c1,c2]
  refine CallK.intro (refClCheck_ok lits 100000 (by omega)) (by simp) ?_
  rw[←hE]
  by_cases c3:E=0
  rotate_left
  · rw[if_neg c3]at hA hQ
    subst hA hQ
    simp[c3,wkPL,wkP]
  rw[if_pos c3]at hA hQ
  subst hA hQ
  simp[c3,wkPL,wkP]
  have fR:=rfU
  refine AAnyD.dagO 10 (bvA 10 0) (by kernel_rfl) fun stp hstp C hC=>?_
  have e0:=hstp 0
  have e1:=hstp 1
  have e2:=hstp 2
  have e3:=hstp 3
  have e4:=hstp 4
  have e5:=hstp 5
  have e6:=hstp 6
  have e7:=hstp 7
  have e8:=hstp 8
  have e9:=hstp 9
  simp only[AStepI,AStep,AEx,gslot,boxedIn,List.getElem?_cons_zero,List.getElem?_cons_succ,Option.bind_some,Bool.or_false,Bool.false_or,Bool.or_true,Bool.true_or,Bool.false_and,Bool.true_and,Bool.false_eq_true,if_false]at e0 e1 e2 e3 e4 e5 e6 e7 e8 e9
  clear hstp
  have d0:C 0 (bvA 10 1023) ⟨[(2,.pv (.seq false 1 (irow lits))),(4,.pv (.ptr h.length 0)),(8,.pv (.ptr (h.length+1) 0)),(12,.pv (.ptr (h.length+2) 0))],rfBb h a id lits⟩:=by
   refine hC.done _ _ _ ?_ ?_
   ·kernel_rfl
   simp[fR]
   refine AAnyD.dagO 19 (bvA 19 0) (by kernel_rfl) fun stp hstp C hC=>?_
   have e0:=hstp 0
   have e1:=hstp 1
   have e2:=hstp 2
   have e3:=hstp 3
   have e4:=hstp 4
   have e5:=hstp 5
   have e6:=hstp 6
   have e7:=hstp 7
   have e8:=hstp 8
   have e9:=hstp 9
   have e10:=hstp 10
   have e11:=hstp 11
   have e12:=hstp 12
   have e13:=hstp 13
   have e14:=hstp 14
   have e15:=hstp 15
   have e16:=hstp 16
   have e17:=hstp 17
   have e18:=hstp 18
   simp only[AStepI,AStep,AEx,gslot,boxedIn,List.getElem?_cons_zero,List.getElem?_cons_succ,Option.bind_some,Bool.or_false,Bool.false_or,Bool.or_true,Bool.true_or,Bool.false_and,Bool.true_and,Bool.false_eq_true,if_false]at e0 e1 e2 e3 e4 e5 e6 e7 e8 e9 e10 e11 e12 e13 e14 e15 e16 e17 e18
   clear hstp
   have d0:C 0 (bvA 19 524287) ⟨[(8,.pv (.ptr (h.length+1) 0)),(9,.pv (I64 a.size)),(10,.pv (I64 0))],rfBd h a id lits⟩:=by
    refine hC.done _ _ _ ?_ ?_
    ·kernel_rfl
    simp[roR,wkPL,wkP,fR]
   have d1:C 3 (bvA 19 65535) ⟨[(8,.pv (.ptr (h.length+1) 0)),(47,.pv (.agg [.seq true 5 (a.rows.map roR++[rfRow a id lits]),I64 (w64 (w64 (a.size+3)+lits.length))])),(49,.pv (I64 a.size))],rfBb h a id lits⟩:=by
    refine hC.fork [(16,(bvA 19 131071))] ?_ ⟨?_,trivial⟩
    ·kernel_rfl
    ·simp[e16,fR]
     refine hC.take 17 (bvA 19 262143) ?_ ?_
     ·kernel_rfl
     simp[e17,fR]
     refine hC.take 18 (bvA 19 524287) ?_ ?_
     ·kernel_rfl
     simp[e18,fR]
     refine hC.kp d0 ?_ ?_<;>simp[fR]
   have d2:C 3 (bvA 19 98303) ⟨[(8,.pv (.ptr (h.length+1) 0)),(48,.pv (.ptr h.length 1))],rfBd h a id lits⟩:=by
    refine hC.fork [(15,(bvA 19 131071))] ?_ ⟨?_,trivial⟩
    ·kernel_rfl
    ·simp[e15,fR]
     refine hC.take 17 (bvA 19 262143) ?_ ?_
     ·kernel_rfl
     simp[e17,fR]
     refine hC.take 18 (bvA 19 524287) ?_ ?_
     ·kernel_rfl
     simp[e18,fR]
     refine hC.kp d0 ?_ ?_<;>simp[fR]
   have d3:C 4 (bvA 19 32767) ⟨[(8,.pv (.ptr (h.length+1) 0)),(47,.pv (.agg [.seq true 5 (a.rows.map roR++[rfRow a id lits]),I64 (w64 (w64 (a.size+3)+lits.length))])),(48,.pv (.ptr h.length 1))],rfBb h a id lits⟩:=by
    refine hC.fork [(15,(bvA 19 65535)),(16,(bvA 19 98303))] ?_ ⟨?_,?_,trivial⟩
    ·kernel_rfl
    ·simp[e15,fR]
     refine hC.kp d1 ?_ ?_<;>simp[fR]
    ·simp[e16,fR]
     refine hC.kp d2 ?_ ?_<;>simp[fR]
   have d4:C 4 (bvA 19 57343) ⟨[(8,.pv (.ptr (h.length+1) 0)),(40,.own true 5 (a.rows.map roR++[rfRow a id lits])),(46,.pv (I64 (w64 (w64 (a.size+3)+lits.length)))),(49,.pv (I64 a.size))],rfBb h a id lits⟩:=by
    refine hC.fork [(13,(bvA 19 65535))] ?_ ⟨?_,trivial⟩
    ·kernel_rfl
    ·simp[e13,fR]
     refine hC.kp d1 ?_ ?_<;>simp[fR]
   have d5:C 5 (bvA 19 24575) ⟨[(8,.pv (.ptr (h.length+1) 0)),(40,.own true 5 (a.rows.map roR++[rfRow a id lits])),(46,.pv (I64 (w64 (w64 (a.size+3)+lits.length)))),(48,.pv (.ptr h.length 1))],rfBb h a id lits⟩:=by
    refine hC.fork [(13,(bvA 19 32767)),(15,(bvA 19 57343))] ?_ ⟨?_,?_,trivial⟩
    ·kernel_rfl
    ·simp[e13,fR]
     refine hC.kp d3 ?_ ?_<;>simp[fR]
    ·simp[e15,fR]
     refine hC.kp d4 ?_ ?_<;>simp[fR]
   have d6:C 7 (bvA 19 52479) ⟨[(8,.pv (.ptr (h.length+1) 0)),(40,.own true 5 (a.rows.map roR++[rfRow a id lits])),(41,.pv (.ptr h.length 1)),(45,.pv (I64 lits.length)),(49,.pv (I64 a.size))],rfBb h a id lits⟩:=by
    refine hC.fork [(8,(bvA 19 52735))] ?_ ⟨?_,trivial⟩
    ·kernel_rfl
    ·simp[e8,fR]
     refine hC.take 9 (bvA 19 53247) ?_ ?_
     ·kernel_rfl
     simp[e9,fR]
     refine hC.take 12 (bvA 19 57343) ?_ ?_
     ·kernel_rfl
     simp[e12,fR]
     refine hC.kp d4 ?_ ?_<;>simp[fR]
   have d7:C 8 (bvA 19 19711) ⟨[(8,.pv (.ptr (h.length+1) 0)),(40,.own true 5 (a.rows.map roR++[rfRow a id lits])),(41,.pv (.ptr h.length 1)),(45,.pv (I64 lits.length)),(48,.pv (.ptr h.length 1))],rfBb h a id lits⟩:=by
    refine hC.fork [(8,(bvA 19 19967)),(15,(bvA 19 52479))] ?_ ⟨?_,?_,trivial⟩
    ·kernel_rfl
    ·simp[e8,fR]
     refine hC.take 9 (bvA 19 20479) ?_ ?_
     ·kernel_rfl
     simp[e9,fR]
     refine hC.take 12 (bvA 19 24575) ?_ ?_
     ·kernel_rfl
     simp[e12,fR]
     refine hC.kp d5 ?_ ?_<;>simp[fR]
    ·simp[e15,fR]
     refine hC.kp d6 ?_ ?_<;>simp[fR]
   have d8:C 5 (bvA 19 57279) ⟨[(8,.pv (.ptr (h.length+1) 0)),(37,.own true 5 (a.rows.map roR)),(39,.own true 5 [rfRow a id lits]),(46,.pv (I64 (w64 (w64 (a.size+3)+lits.length)))),(49,.pv (I64 a.size))],rfBb h a id lits⟩:=by
    refine hC.fork [(6,(bvA 19 57343))] ?_ ⟨?_,trivial⟩
    ·kernel_rfl
    ·simp[e6,fR]
     try refine⟨by omega,?_⟩
     refine hC.kp d4 ?_ ?_<;>simp[fR]
   have d9:C 6 (bvA 19 24511) ⟨[(8,.pv (.ptr (h.length+1) 0)),(37,.own true 5 (a.rows.map roR)),(39,.own true 5 [rfRow a id lits]),(46,.pv (I64 (w64 (w64 (a.size+3)+lits.length)))),(48,.pv (.ptr h.length 1))],rfBb h a id lits⟩:=by
    refine hC.fork [(6,(bvA 19 24575)),(15,(bvA 19 57279))] ?_ ⟨?_,?_,trivial⟩
    ·kernel_rfl
    ·simp[e6,fR]
     try refine⟨by omega,?_⟩
     refine hC.kp d5 ?_ ?_<;>simp[fR]
    ·simp[e15,fR]
     refine hC.kp d8 ?_ ?_<;>simp[fR]
   have d10:C 8 (bvA 19 52415) ⟨[(8,.pv (.ptr (h.length+1) 0)),(37,.own true 5 (a.rows.map roR)),(39,.own true 5 [rfRow a id lits]),(41,.pv (.ptr h.length 1)),(45,.pv (I64 lits.length)),(49,.pv (I64 a.size))],rfBb h a id lits⟩:=by
    refine hC.fork [(6,(bvA 19 52479)),(8,(bvA 19 52671))] ?_ ⟨?_,?_,trivial⟩
    ·kernel_rfl
    ·simp[e6,fR]
     try refine⟨by omega,?_⟩
     refine hC.kp d6 ?_ ?_<;>simp[fR]
    ·simp[e8,fR]
     refine hC.take 9 (bvA 19 53183) ?_ ?_
     ·kernel_rfl
     simp[e9,fR]
     refine hC.take 12 (bvA 19 57279) ?_ ?_
     ·kernel_rfl
     simp[e12,fR]
     refine hC.kp d8 ?_ ?_<;>simp[fR]
   have d11:C 9 (bvA 19 19647) ⟨[(8,.pv (.ptr (h.length+1) 0)),(37,.own true 5 (a.rows.map roR)),(39,.own true 5 [rfRow a id lits]),(41,.pv (.ptr h.length 1)),(45,.pv (I64 lits.length)),(48,.pv (.ptr h.length 1))],rfBb h a id lits⟩:=by
    refine hC.fork [(6,(bvA 19 19711)),(8,(bvA 19 19903)),(15,(bvA 19 52415))] ?_ ⟨?_,?_,?_,trivial⟩
    ·kernel_rfl
    ·simp[e6,fR]
     try refine⟨by omega,?_⟩
     refine hC.kp d7 ?_ ?_<;>simp[fR]
    ·simp[e8,fR]
     refine hC.take 9 (bvA 19 20415) ?_ ?_
     ·kernel_rfl
     simp[e9,fR]
     refine hC.take 12 (bvA 19 24511) ?_ ?_
     ·kernel_rfl
     simp[e12,fR]
     refine hC.kp d9 ?_ ?_<;>simp[fR]
    ·simp[e15,fR]
     refine hC.kp d10 ?_ ?_<;>simp[fR]
   have d12:C 6 (bvA 19 57247) ⟨[(8,.pv (.ptr (h.length+1) 0)),(37,.own true 5 (a.rows.map roR)),(38,.pv (.agg (rfRow a id lits))),(46,.pv (I64 (w64 (w64 (a.size+3)+lits.length)))),(49,.pv (I64 a.size))],rfBb h a id lits⟩:=by
    refine hC.fork [(5,(bvA 19 57279))] ?_ ⟨?_,trivial⟩
    ·kernel_rfl
    ·simp[e5,fR]
     refine hC.kp d8 ?_ ?_<;>simp[fR]
   have d13:C 7 (bvA 19 24479) ⟨[(8,.pv (.ptr (h.length+1) 0)),(37,.own true 5 (a.rows.map roR)),(38,.pv (.agg (rfRow a id lits))),(46,.pv (I64 (w64 (w64 (a.size+3)+lits.length)))),(48,.pv (.ptr h.length 1))],rfBb h a id lits⟩:=by
    refine hC.fork [(5,(bvA 19 24511)),(15,(bvA 19 57247))] ?_ ⟨?_,?_,trivial⟩
    ·kernel_rfl
    ·simp[e5,fR]
     refine hC.kp d9 ?_ ?_<;>simp[fR]
    ·simp[e15,fR]
     refine hC.kp d12 ?_ ?_<;>simp[fR]
   have d14:C 9 (bvA 19 52383) ⟨[(8,.pv (.ptr (h.length+1) 0)),(37,.own true 5 (a.rows.map roR)),(38,.pv (.agg (rfRow a id lits))),(41,.pv (.ptr h.length 1)),(45,.pv (I64 lits.length)),(49,.pv (I64 a.size))],rfBb h a id lits⟩:=by
    refine hC.fork [(5,(bvA 19 52415)),(8,(bvA 19 52639))] ?_ ⟨?_,?_,trivial⟩
    ·kernel_rfl
    ·simp[e5,fR]
     refine hC.kp d10 ?_ ?_<;>simp[fR]
    ·simp[e8,fR]
     refine hC.take 9 (bvA 19 53151) ?_ ?_
     ·kernel_rfl
     simp[e9,fR]
     refine hC.take 12 (bvA 19 57247) ?_ ?_
     ·kernel_rfl
     simp[e12,fR]
     refine hC.kp d12 ?_ ?_<;>simp[fR]
   have d15:C 10 (bvA 19 19615) ⟨[(8,.pv (.ptr (h.length+1) 0)),(37,.own true 5 (a.rows.map roR)),(38,.pv (.agg (rfRow a id lits))),(41,.pv (.ptr h.length 1)),(45,.pv (I64 lits.length)),(48,.pv (.ptr h.length 1))],rfBb h a id lits⟩:=by
    refine hC.fork [(5,(bvA 19 19647)),(8,(bvA 19 19871)),(15,(bvA 19 52383))] ?_ ⟨?_,?_,?_,trivial⟩
    ·kernel_rfl
    ·simp[e5,fR]
     refine hC.kp d11 ?_ ?_<;>simp[fR]
    ·simp[e8,fR]
     refine hC.take 9 (bvA 19 20383) ?_ ?_
     ·kernel_rfl
     simp[e9,fR]
     refine hC.take 12 (bvA 19 24479) ?_ ?_
     ·kernel_rfl
     simp[e12,fR]
     refine hC.kp d13 ?_ ?_<;>simp[fR]
    ·simp[e15,fR]
     refine hC.kp d14 ?_ ?_<;>simp[fR]
   have d16:C 7 (bvA 19 57231) ⟨[(8,.pv (.ptr (h.length+1) 0)),(12,.pv (.ptr (h.length+2) 0)),(37,.own true 5 (a.rows.map roR)),(46,.pv (I64 (w64 (w64 (a.size+3)+lits.length)))),(49,.pv (I64 a.size))],rfBb h a id lits⟩:=by
    refine hC.fork [(4,(bvA 19 57247))] ?_ ⟨?_,trivial⟩
    ·kernel_rfl
    ·simp[e4,fR]
     refine hC.kp d12 ?_ ?_<;>simp[fR]
   have d17:C 8 (bvA 19 24463) ⟨[(8,.pv (.ptr (h.length+1) 0)),(12,.pv (.ptr (h.length+2) 0)),(37,.own true 5 (a.rows.map roR)),(46,.pv (I64 (w64 (w64 (a.size+3)+lits.length)))),(48,.pv (.ptr h.length 1))],rfBb h a id lits⟩:=by
    refine hC.fork [(4,(bvA 19 24479)),(15,(bvA 19 57231))] ?_ ⟨?_,?_,trivial⟩
    ·kernel_rfl
    ·simp[e4,fR]
     refine hC.kp d13 ?_ ?_<;>simp[fR]
    ·simp[e15,fR]
     refine hC.kp d16 ?_ ?_<;>simp[fR]
   have d18:C 10 (bvA 19 52367) ⟨[(8,.pv (.ptr (h.length+1) 0)),(12,.pv (.ptr (h.length+2) 0)),(37,.own true 5 (a.rows.map roR)),(41,.pv (.ptr h.length 1)),(45,.pv (I64 lits.length)),(49,.pv (I64 a.size))],rfBb h a id lits⟩:=by
    refine hC.fork [(4,(bvA 19 52383)),(8,(bvA 19 52623))] ?_ ⟨?_,?_,trivial⟩
    ·kernel_rfl
    ·simp[e4,fR]
     refine hC.kp d14 ?_ ?_<;>simp[fR]
    ·simp[e8,fR]
     refine hC.take 9 (bvA 19 53135) ?_ ?_
     ·kernel_rfl
     simp[e9,fR]
     refine hC.take 12 (bvA 19 57231) ?_ ?_
     ·kernel_rfl
     simp[e12,fR]
     refine hC.kp d16 ?_ ?_<;>simp[fR]
   have d19:C 11 (bvA 19 19599) ⟨[(8,.pv (.ptr (h.length+1) 0)),(12,.pv (.ptr (h.length+2) 0)),(37,.own true 5 (a.rows.map roR)),(41,.pv (.ptr h.length 1)),(45,.pv (I64 lits.length)),(48,.pv (.ptr h.length 1))],rfBb h a id lits⟩:=by
    refine hC.fork [(4,(bvA 19 19615)),(8,(bvA 19 19855)),(15,(bvA 19 52367))] ?_ ⟨?_,?_,?_,trivial⟩
    ·kernel_rfl
    ·simp[e4,fR]
     refine hC.kp d15 ?_ ?_<;>simp[fR]
    ·simp[e8,fR]
     refine hC.take 9 (bvA 19 20367) ?_ ?_
     ·kernel_rfl
     simp[e9,fR]
     refine hC.take 12 (bvA 19 24463) ?_ ?_
     ·kernel_rfl
     simp[e12,fR]
     refine hC.kp d17 ?_ ?_<;>simp[fR]
    ·simp[e15,fR]
     refine hC.kp d18 ?_ ?_<;>simp[fR]
   have d20:C 6 (bvA 19 57271) ⟨[(8,.pv (.ptr (h.length+1) 0)),(34,.own true 5 []),(36,.pv (.seq false 5 (a.rows.map roR))),(39,.own true 5 [rfRow a id lits]),(46,.pv (I64 (w64 (w64 (a.size+3)+lits.length)))),(49,.pv (I64 a.size))],rfBb h a id lits⟩:=by
    refine hC.fork [(3,(bvA 19 57279))] ?_ ⟨?_,trivial⟩
    ·kernel_rfl
    ·simp[e3,fR]
     try refine⟨by omega,?_⟩
     refine hC.kp d8 ?_ ?_<;>simp[fR]
   have d21:C 7 (bvA 19 24503) ⟨[(8,.pv (.ptr (h.length+1) 0)),(34,.own true 5 []),(36,.pv (.seq false 5 (a.rows.map roR))),(39,.own true 5 [rfRow a id lits]),(46,.pv (I64 (w64 (w64 (a.size+3)+lits.length)))),(48,.pv (.ptr h.length 1))],rfBb h a id lits⟩:=by
    refine hC.fork [(3,(bvA 19 24511)),(15,(bvA 19 57271))] ?_ ⟨?_,?_,trivial⟩
    ·kernel_rfl
    ·simp[e3,fR]
     try refine⟨by omega,?_⟩
     refine hC.kp d9 ?_ ?_<;>simp[fR]
    ·simp[e15,fR]
     refine hC.kp d20 ?_ ?_<;>simp[fR]
   have d22:C 9 (bvA 19 52407) ⟨[(8,.pv (.ptr (h.length+1) 0)),(34,.own true 5 []),(36,.pv (.seq false 5 (a.rows.map roR))),(39,.own true 5 [rfRow a id lits]),(41,.pv (.ptr h.length 1)),(45,.pv (I64 lits.length)),(49,.pv (I64 a.size))],rfBb h a id lits⟩:=by
    refine hC.fork [(3,(bvA 19 52415)),(8,(bvA 19 52663))] ?_ ⟨?_,?_,trivial⟩
    ·kernel_rfl
    ·simp[e3,fR]
     try refine⟨by omega,?_⟩
     refine hC.kp d10 ?_ ?_<;>simp[fR]
    ·simp[e8,fR]
     refine hC.take 9 (bvA 19 53175) ?_ ?_
     ·kernel_rfl
     simp[e9,fR]
     refine hC.take 12 (bvA 19 57271) ?_ ?_
     ·kernel_rfl
     simp[e12,fR]
     refine hC.kp d20 ?_ ?_<;>simp[fR]
   have d23:C 10 (bvA 19 19639) ⟨[(8,.pv (.ptr (h.length+1) 0)),(34,.own true 5 []),(36,.pv (.seq false 5 (a.rows.map roR))),(39,.own true 5 [rfRow a id lits]),(41,.pv (.ptr h.length 1)),(45,.pv (I64 lits.length)),(48,.pv (.ptr h.length 1))],rfBb h a id lits⟩:=by
    refine hC.fork [(3,(bvA 19 19647)),(8,(bvA 19 19895)),(15,(bvA 19 52407))] ?_ ⟨?_,?_,?_,trivial⟩
    ·kernel_rfl
    ·simp[e3,fR]
     try refine⟨by omega,?_⟩
     refine hC.kp d11 ?_ ?_<;>simp[fR]
    ·simp[e8,fR]
     refine hC.take 9 (bvA 19 20407) ?_ ?_
     ·kernel_rfl
     simp[e9,fR]
     refine hC.take 12 (bvA 19 24503) ?_ ?_
     ·kernel_rfl
     simp[e12,fR]
     refine hC.kp d21 ?_ ?_<;>simp[fR]
    ·simp[e15,fR]
     refine hC.kp d22 ?_ ?_<;>simp[fR]
   have d24:C 7 (bvA 19 57239) ⟨[(8,.pv (.ptr (h.length+1) 0)),(34,.own true 5 []),(36,.pv (.seq false 5 (a.rows.map roR))),(38,.pv (.agg (rfRow a id lits))),(46,.pv (I64 (w64 (w64 (a.size+3)+lits.length)))),(49,.pv (I64 a.size))],rfBb h a id lits⟩:=by
    refine hC.fork [(3,(bvA 19 57247)),(5,(bvA 19 57271))] ?_ ⟨?_,?_,trivial⟩
    ·kernel_rfl
    ·simp[e3,fR]
     try refine⟨by omega,?_⟩
     refine hC.kp d12 ?_ ?_<;>simp[fR]
    ·simp[e5,fR]
     refine hC.kp d20 ?_ ?_<;>simp[fR]
   have d25:C 8 (bvA 19 24471) ⟨[(8,.pv (.ptr (h.length+1) 0)),(34,.own true 5 []),(36,.pv (.seq false 5 (a.rows.map roR))),(38,.pv (.agg (rfRow a id lits))),(46,.pv (I64 (w64 (w64 (a.size+3)+lits.length)))),(48,.pv (.ptr h.length 1))],rfBb h a id lits⟩:=by
    refine hC.fork [(3,(bvA 19 24479)),(5,(bvA 19 24503)),(15,(bvA 19 57239))] ?_ ⟨?_,?_,?_,trivial⟩
    ·kernel_rfl
    ·simp[e3,fR]
     try refine⟨by omega,?_⟩
     refine hC.kp d13 ?_ ?_<;>simp[fR]
    ·simp[e5,fR]
     refine hC.kp d21 ?_ ?_<;>simp[fR]
    ·simp[e15,fR]
     refine hC.kp d24 ?_ ?_<;>simp[fR]
   have d26:C 10 (bvA 19 52375) ⟨[(8,.pv (.ptr (h.length+1) 0)),(34,.own true 5 []),(36,.pv (.seq false 5 (a.rows.map roR))),(38,.pv (.agg (rfRow a id lits))),(41,.pv (.ptr h.length 1)),(45,.pv (I64 lits.length)),(49,.pv (I64 a.size))],rfBb h a id lits⟩:=by
    refine hC.fork [(3,(bvA 19 52383)),(5,(bvA 19 52407)),(8,(bvA 19 52631))] ?_ ⟨?_,?_,?_,trivial⟩
    ·kernel_rfl
    ·simp[e3,fR]
     try refine⟨by omega,?_⟩
     refine hC.kp d14 ?_ ?_<;>simp[fR]
    ·simp[e5,fR]
     refine hC.kp d22 ?_ ?_<;>simp[fR]
    ·simp[e8,fR]
     refine hC.take 9 (bvA 19 53143) ?_ ?_
     ·kernel_rfl
     simp[e9,fR]
     refine hC.take 12 (bvA 19 57239) ?_ ?_
     ·kernel_rfl
     simp[e12,fR]
     refine hC.kp d24 ?_ ?_<;>simp[fR]
   have d27:C 11 (bvA 19 19607) ⟨[(8,.pv (.ptr (h.length+1) 0)),(34,.own true 5 []),(36,.pv (.seq false 5 (a.rows.map roR))),(38,.pv (.agg (rfRow a id lits))),(41,.pv (.ptr h.length 1)),(45,.pv (I64 lits.length)),(48,.pv (.ptr h.length 1))],rfBb h a id lits⟩:=by
    refine hC.fork [(3,(bvA 19 19615)),(5,(bvA 19 19639)),(8,(bvA 19 19863)),(15,(bvA 19 52375))] ?_ ⟨?_,?_,?_,?_,trivial⟩
    ·kernel_rfl
    ·simp[e3,fR]
     try refine⟨by omega,?_⟩
     refine hC.kp d15 ?_ ?_<;>simp[fR]
    ·simp[e5,fR]
     refine hC.kp d23 ?_ ?_<;>simp[fR]
    ·simp[e8,fR]
     refine hC.take 9 (bvA 19 20375) ?_ ?_
     ·kernel_rfl
     simp[e9,fR]
     refine hC.take 12 (bvA 19 24471) ?_ ?_
     ·kernel_rfl
     simp[e12,fR]
     refine hC.kp d25 ?_ ?_<;>simp[fR]
    ·simp[e15,fR]
     refine hC.kp d26 ?_ ?_<;>simp[fR]
   have d28:C 8 (bvA 19 57223) ⟨[(8,.pv (.ptr (h.length+1) 0)),(12,.pv (.ptr (h.length+2) 0)),(34,.own true 5 []),(36,.pv (.seq false 5 (a.rows.map roR))),(46,.pv (I64 (w64 (w64 (a.size+3)+lits.length)))),(49,.pv (I64 a.size))],rfBb h a id lits⟩:=by
    refine hC.fork [(3,(bvA 19 57231)),(4,(bvA 19 57239))] ?_ ⟨?_,?_,trivial⟩
    ·kernel_rfl
    ·simp[e3,fR]
     try refine⟨by omega,?_⟩
     refine hC.kp d16 ?_ ?_<;>simp[fR]
    ·simp[e4,fR]
     refine hC.kp d24 ?_ ?_<;>simp[fR]
   have d29:C 9 (bvA 19 24455) ⟨[(8,.pv (.ptr (h.length+1) 0)),(12,.pv (.ptr (h.length+2) 0)),(34,.own true 5 []),(36,.pv (.seq false 5 (a.rows.map roR))),(46,.pv (I64 (w64 (w64 (a.size+3)+lits.length)))),(48,.pv (.ptr h.length 1))],rfBb h a id lits⟩:=by
    refine hC.fork [(3,(bvA 19 24463)),(4,(bvA 19 24471)),(15,(bvA 19 57223))] ?_ ⟨?_,?_,?_,trivial⟩
    ·kernel_rfl
    ·simp[e3,fR]
     try refine⟨by omega,?_⟩
     refine hC.kp d17 ?_ ?_<;>simp[fR]
    ·simp[e4,fR]
     refine hC.kp d25 ?_ ?_<;>simp[fR]
    ·simp[e15,fR]
     refine hC.kp d28 ?_ ?_<;>simp[fR]
   have d30:C 11 (bvA 19 52359) ⟨[(8,.pv (.ptr (h.length+1) 0)),(12,.pv (.ptr (h.length+2) 0)),(34,.own true 5 []),(36,.pv (.seq false 5 (a.rows.map roR))),(41,.pv (.ptr h.length 1)),(45,.pv (I64 lits.length)),(49,.pv (I64 a.size))],rfBb h a id lits⟩:=by
    refine hC.fork [(3,(bvA 19 52367)),(4,(bvA 19 52375)),(8,(bvA 19 52615))] ?_ ⟨?_,?_,?_,trivial⟩
    ·kernel_rfl
    ·simp[e3,fR]
     try refine⟨by omega,?_⟩
     refine hC.kp d18 ?_ ?_<;>simp[fR]
    ·simp[e4,fR]
     refine hC.kp d26 ?_ ?_<;>simp[fR]
    ·simp[e8,fR]
     refine hC.take 9 (bvA 19 53127) ?_ ?_
     ·kernel_rfl
     simp[e9,fR]
     refine hC.take 12 (bvA 19 57223) ?_ ?_
     ·kernel_rfl
     simp[e12,fR]
     refine hC.kp d28 ?_ ?_<;>simp[fR]
   have d31:C 12 (bvA 19 19591) ⟨[(8,.pv (.ptr (h.length+1) 0)),(12,.pv (.ptr (h.length+2) 0)),(34,.own true 5 []),(36,.pv (.seq false 5 (a.rows.map roR))),(41,.pv (.ptr h.length 1)),(45,.pv (I64 lits.length)),(48,.pv (.ptr h.length 1))],rfBb h a id lits⟩:=by
    refine hC.fork [(3,(bvA 19 19599)),(4,(bvA 19 19607)),(8,(bvA 19 19847)),(15,(bvA 19 52359))] ?_ ⟨?_,?_,?_,?_,trivial⟩
    ·kernel_rfl
    ·simp[e3,fR]
     try refine⟨by omega,?_⟩
     refine hC.kp d19 ?_ ?_<;>simp[fR]
    ·simp[e4,fR]
     refine hC.kp d27 ?_ ?_<;>simp[fR]
    ·simp[e8,fR]
     refine hC.take 9 (bvA 19 20359) ?_ ?_
     ·kernel_rfl
     simp[e9,fR]
     refine hC.take 12 (bvA 19 24455) ?_ ?_
     ·kernel_rfl
     simp[e12,fR]
     refine hC.kp d29 ?_ ?_<;>simp[fR]
    ·simp[e15,fR]
     refine hC.kp d30 ?_ ?_<;>simp[fR]
   have d32:C 7 (bvA 19 57267) ⟨[(8,.pv (.ptr (h.length+1) 0)),(34,.own true 5 []),(35,.pv (.ptr h.length 0)),(39,.own true 5 [rfRow a id lits]),(46,.pv (I64 (w64 (w64 (a.size+3)+lits.length)))),(49,.pv (I64 a.size))],rfBb h a id lits⟩:=by
    refine hC.fork [(2,(bvA 19 57271))] ?_ ⟨?_,trivial⟩
    ·kernel_rfl
    ·simp[e2,fR]
     refine hC.kp d20 ?_ ?_<;>simp[fR]
   have d33:C 8 (bvA 19 24499) ⟨[(8,.pv (.ptr (h.length+1) 0)),(34,.own true 5 []),(35,.pv (.ptr h.length 0)),(39,.own true 5 [rfRow a id lits]),(46,.pv (I64 (w64 (w64 (a.size+3)+lits.length)))),(48,.pv (.ptr h.length 1))],rfBb h a id lits⟩:=by
    refine hC.fork [(2,(bvA 19 24503)),(15,(bvA 19 57267))] ?_ ⟨?_,?_,trivial⟩
    ·kernel_rfl
    ·simp[e2,fR]
     refine hC.kp d21 ?_ ?_<;>simp[fR]
    ·simp[e15,fR]
     refine hC.kp d32 ?_ ?_<;>simp[fR]
   have d34:C 10 (bvA 19 52403) ⟨[(8,.pv (.ptr (h.length+1) 0)),(34,.own true 5 []),(35,.pv (.ptr h.length 0)),(39,.own true 5 [rfRow a id lits]),(41,.pv (.ptr h.length 1)),(45,.pv (I64 lits.length)),(49,.pv (I64 a.size))],rfBb h a id lits⟩:=by
    refine hC.fork [(2,(bvA 19 52407)),(8,(bvA 19 52659))] ?_ ⟨?_,?_,trivial⟩
    ·kernel_rfl
    ·simp[e2,fR]
     refine hC.kp d22 ?_ ?_<;>simp[fR]
    ·simp[e8,fR]
     refine hC.take 9 (bvA 19 53171) ?_ ?_
     ·kernel_rfl
     simp[e9,fR]
     refine hC.take 12 (bvA 19 57267) ?_ ?_
     ·kernel_rfl
     simp[e12,fR]
     refine hC.kp d32 ?_ ?_<;>simp[fR]
   have d35:C 11 (bvA 19 19635) ⟨[(8,.pv (.ptr (h.length+1) 0)),(34,.own true 5 []),(35,.pv (.ptr h.length 0)),(39,.own true 5 [rfRow a id lits]),(41,.pv (.ptr h.length 1)),(45,.pv (I64 lits.length)),(48,.pv (.ptr h.length 1))],rfBb h a id lits⟩:=by
    refine hC.fork [(2,(bvA 19 19639)),(8,(bvA 19 19891)),(15,(bvA 19 52403))] ?_ ⟨?_,?_,?_,trivial⟩
    ·kernel_rfl
    ·simp[e2,fR]
     refine hC.kp d23 ?_ ?_<;>simp[fR]
    ·simp[e8,fR]
     refine hC.take 9 (bvA 19 20403) ?_ ?_
     ·kernel_rfl
     simp[e9,fR]
     refine hC.take 12 (bvA 19 24499) ?_ ?_
     ·kernel_rfl
     simp[e12,fR]
     refine hC.kp d33 ?_ ?_<;>simp[fR]
    ·simp[e15,fR]
     refine hC.kp d34 ?_ ?_<;>simp[fR]
   have d36:C 8 (bvA 19 57235) ⟨[(8,.pv (.ptr (h.length+1) 0)),(34,.own true 5 []),(35,.pv (.ptr h.length 0)),(38,.pv (.agg (rfRow a id lits))),(46,.pv (I64 (w64 (w64 (a.size+3)+lits.length)))),(49,.pv (I64 a.size))],rfBb h a id lits⟩:=by
    refine hC.fork [(2,(bvA 19 57239)),(5,(bvA 19 57267))] ?_ ⟨?_,?_,trivial⟩
    ·kernel_rfl
    ·simp[e2,fR]
     refine hC.kp d24 ?_ ?_<;>simp[fR]
    ·simp[e5,fR]
     refine hC.kp d32 ?_ ?_<;>simp[fR]
   have d37:C 9 (bvA 19 24467) ⟨[(8,.pv (.ptr (h.length+1) 0)),(34,.own true 5 []),(35,.pv (.ptr h.length 0)),(38,.pv (.agg (rfRow a id lits))),(46,.pv (I64 (w64 (w64 (a.size+3)+lits.length)))),(48,.pv (.ptr h.length 1))],rfBb h a id lits⟩:=by
    refine hC.fork [(2,(bvA 19 24471)),(5,(bvA 19 24499)),(15,(bvA 19 57235))] ?_ ⟨?_,?_,?_,trivial⟩
    ·kernel_rfl
    ·simp[e2,fR]
     refine hC.kp d25 ?_ ?_<;>simp[fR]
    ·simp[e5,fR]
     refine hC.kp d33 ?_ ?_<;>simp[fR]
    ·simp[e15,fR]
     refine hC.kp d36 ?_ ?_<;>simp[fR]
   have d38:C 11 (bvA 19 52371) ⟨[(8,.pv (.ptr (h.length+1) 0)),(34,.own true 5 []),(35,.pv (.ptr h.length 0)),(38,.pv (.agg (rfRow a id lits))),(41,.pv (.ptr h.length 1)),(45,.pv (I64 lits.length)),(49,.pv (I64 a.size))],rfBb h a id lits⟩:=by
    refine hC.fork [(2,(bvA 19 52375)),(5,(bvA 19 52403)),(8,(bvA 19 52627))] ?_ ⟨?_,?_,?_,trivial⟩
    ·kernel_rfl
    ·simp[e2,fR]
     refine hC.kp d26 ?_ ?_<;>simp[fR]
    ·simp[e5,fR]
     refine hC.kp d34 ?_ ?_<;>simp[fR]
    ·simp[e8,fR]
     refine hC.take 9 (bvA 19 53139) ?_ ?_
     ·kernel_rfl
     simp[e9,fR]
     refine hC.take 12 (bvA 19 57235) ?_ ?_
     ·kernel_rfl
     simp[e12,fR]
     refine hC.kp d36 ?_ ?_<;>simp[fR]
   have d39:C 12 (bvA 19 19603) ⟨[(8,.pv (.ptr (h.length+1) 0)),(34,.own true 5 []),(35,.pv (.ptr h.length 0)),(38,.pv (.agg (rfRow a id lits))),(41,.pv (.ptr h.length 1)),(45,.pv (I64 lits.length)),(48,.pv (.ptr h.length 1))],rfBb h a id lits⟩:=by
    refine hC.fork [(2,(bvA 19 19607)),(5,(bvA 19 19635)),(8,(bvA 19 19859)),(15,(bvA 19 52371))] ?_ ⟨?_,?_,?_,?_,trivial⟩
    ·kernel_rfl
    ·simp[e2,fR]
     refine hC.kp d27 ?_ ?_<;>simp[fR]
    ·simp[e5,fR]
     refine hC.kp d35 ?_ ?_<;>simp[fR]
    ·simp[e8,fR]
     refine hC.take 9 (bvA 19 20371) ?_ ?_
     ·kernel_rfl
     simp[e9,fR]
     refine hC.take 12 (bvA 19 24467) ?_ ?_
     ·kernel_rfl
     simp[e12,fR]
     refine hC.kp d37 ?_ ?_<;>simp[fR]
    ·simp[e15,fR]
     refine hC.kp d38 ?_ ?_<;>simp[fR]
   have d40:C 9 (bvA 19 57219) ⟨[(8,.pv (.ptr (h.length+1) 0)),(12,.pv (.ptr (h.length+2) 0)),(34,.own true 5 []),(35,.pv (.ptr h.length 0)),(46,.pv (I64 (w64 (w64 (a.size+3)+lits.length)))),(49,.pv (I64 a.size))],rfBb h a id lits⟩:=by
    refine hC.fork [(2,(bvA 19 57223)),(4,(bvA 19 57235))] ?_ ⟨?_,?_,trivial⟩
    ·kernel_rfl
    ·simp[e2,fR]
     refine hC.kp d28 ?_ ?_<;>simp[fR]
    ·simp[e4,fR]
     refine hC.kp d36 ?_ ?_<;>simp[fR]
   have d41:C 10 (bvA 19 24451) ⟨[(8,.pv (.ptr (h.length+1) 0)),(12,.pv (.ptr (h.length+2) 0)),(34,.own true 5 []),(35,.pv (.ptr h.length 0)),(46,.pv (I64 (w64 (w64 (a.size+3)+lits.length)))),(48,.pv (.ptr h.length 1))],rfBb h a id lits⟩:=by
    refine hC.fork [(2,(bvA 19 24455)),(4,(bvA 19 24467)),(15,(bvA 19 57219))] ?_ ⟨?_,?_,?_,trivial⟩
    ·kernel_rfl
    ·simp[e2,fR]
     refine hC.kp d29 ?_ ?_<;>simp[fR]
    ·simp[e4,fR]
     refine hC.kp d37 ?_ ?_<;>simp[fR]
    ·simp[e15,fR]
     refine hC.kp d40 ?_ ?_<;>simp[fR]
   have d42:C 12 (bvA 19 52355) ⟨[(8,.pv (.ptr (h.length+1) 0)),(12,.pv (.ptr (h.length+2) 0)),(34,.own true 5 []),(35,.pv (.ptr h.length 0)),(41,.pv (.ptr h.length 1)),(45,.pv (I64 lits.length)),(49,.pv (I64 a.size))],rfBb h a id lits⟩:=by
    refine hC.fork [(2,(bvA 19 52359)),(4,(bvA 19 52371)),(8,(bvA 19 52611))] ?_ ⟨?_,?_,?_,trivial⟩
    ·kernel_rfl
    ·simp[e2,fR]
     refine hC.kp d30 ?_ ?_<;>simp[fR]
    ·simp[e4,fR]
     refine hC.kp d38 ?_ ?_<;>simp[fR]
    ·simp[e8,fR]
     refine hC.take 9 (bvA 19 53123) ?_ ?_
     ·kernel_rfl
     simp[e9,fR]
     refine hC.take 12 (bvA 19 57219) ?_ ?_
     ·kernel_rfl
     simp[e12,fR]
     refine hC.kp d40 ?_ ?_<;>simp[fR]
   have d43:C 13 (bvA 19 19587) ⟨[(8,.pv (.ptr (h.length+1) 0)),(12,.pv (.ptr (h.length+2) 0)),(34,.own true 5 []),(35,.pv (.ptr h.length 0)),(41,.pv (.ptr h.length 1)),(45,.pv (I64 lits.length)),(48,.pv (.ptr h.length 1))],rfBb h a id lits⟩:=by
    refine hC.fork [(2,(bvA 19 19591)),(4,(bvA 19 19603)),(8,(bvA 19 19843)),(15,(bvA 19 52355))] ?_ ⟨?_,?_,?_,?_,trivial⟩
    ·kernel_rfl
    ·simp[e2,fR]
     refine hC.kp d31 ?_ ?_<;>simp[fR]
    ·simp[e4,fR]
     refine hC.kp d39 ?_ ?_<;>simp[fR]
    ·simp[e8,fR]
     refine hC.take 9 (bvA 19 20355) ?_ ?_
     ·kernel_rfl
     simp[e9,fR]
     refine hC.take 12 (bvA 19 24451) ?_ ?_
     ·kernel_rfl
     simp[e12,fR]
     refine hC.kp d41 ?_ ?_<;>simp[fR]
    ·simp[e15,fR]
     refine hC.kp d42 ?_ ?_<;>simp[fR]
   have d44:C 7 (bvA 19 57270) ⟨[(8,.pv (.ptr (h.length+1) 0)),(36,.pv (.seq false 5 (a.rows.map roR))),(39,.own true 5 [rfRow a id lits]),(46,.pv (I64 (w64 (w64 (a.size+3)+lits.length)))),(49,.pv (I64 a.size))],rfBb h a id lits⟩:=by
    refine hC.fork [(0,(bvA 19 57271))] ?_ ⟨?_,trivial⟩
    ·kernel_rfl
    ·simp[e0,fR]
     refine hC.kp d20 ?_ ?_<;>simp[fR]
   have d45:C 8 (bvA 19 24502) ⟨[(8,.pv (.ptr (h.length+1) 0)),(36,.pv (.seq false 5 (a.rows.map roR))),(39,.own true 5 [rfRow a id lits]),(46,.pv (I64 (w64 (w64 (a.size+3)+lits.length)))),(48,.pv (.ptr h.length 1))],rfBb h a id lits⟩:=by
    refine hC.fork [(0,(bvA 19 24503)),(15,(bvA 19 57270))] ?_ ⟨?_,?_,trivial⟩
    ·kernel_rfl
    ·simp[e0,fR]
     refine hC.kp d21 ?_ ?_<;>simp[fR]
    ·simp[e15,fR]
     refine hC.kp d44 ?_ ?_<;>simp[fR]
   have d46:C 10 (bvA 19 52406) ⟨[(8,.pv (.ptr (h.length+1) 0)),(36,.pv (.seq false 5 (a.rows.map roR))),(39,.own true 5 [rfRow a id lits]),(41,.pv (.ptr h.length 1)),(45,.pv (I64 lits.length)),(49,.pv (I64 a.size))],rfBb h a id lits⟩:=by
    refine hC.fork [(0,(bvA 19 52407)),(8,(bvA 19 52662))] ?_ ⟨?_,?_,trivial⟩
    ·kernel_rfl
    ·simp[e0,fR]
     refine hC.kp d22 ?_ ?_<;>simp[fR]
    ·simp[e8,fR]
     refine hC.take 9 (bvA 19 53174) ?_ ?_
     ·kernel_rfl
     simp[e9,fR]
     refine hC.take 12 (bvA 19 57270) ?_ ?_
     ·kernel_rfl
     simp[e12,fR]
     refine hC.kp d44 ?_ ?_<;>simp[fR]
   have d47:C 11 (bvA 19 19638) ⟨[(8,.pv (.ptr (h.length+1) 0)),(36,.pv (.seq false 5 (a.rows.map roR))),(39,.own true 5 [rfRow a id lits]),(41,.pv (.ptr h.length 1)),(45,.pv (I64 lits.length)),(48,.pv (.ptr h.length 1))],rfBb h a id lits⟩:=by
    refine hC.fork [(0,(bvA 19 19639)),(8,(bvA 19 19894)),(15,(bvA 19 52406))] ?_ ⟨?_,?_,?_,trivial⟩
    ·kernel_rfl
    ·simp[e0,fR]
     refine hC.kp d23 ?_ ?_<;>simp[fR]
    ·simp[e8,fR]
     refine hC.take 9 (bvA 19 20406) ?_ ?_
     ·kernel_rfl
     simp[e9,fR]
     refine hC.take 12 (bvA 19 24502) ?_ ?_
     ·kernel_rfl
     simp[e12,fR]
     refine hC.kp d45 ?_ ?_<;>simp[fR]
    ·simp[e15,fR]
     refine hC.kp d46 ?_ ?_<;>simp[fR]
   have d48:C 8 (bvA 19 57238) ⟨[(8,.pv (.ptr (h.length+1) 0)),(36,.pv (.seq false 5 (a.rows.map roR))),(38,.pv (.agg (rfRow a id lits))),(46,.pv (I64 (w64 (w64 (a.size+3)+lits.length)))),(49,.pv (I64 a.size))],rfBb h a id lits⟩:=by
    refine hC.fork [(0,(bvA 19 57239)),(5,(bvA 19 57270))] ?_ ⟨?_,?_,trivial⟩
    ·kernel_rfl
    ·simp[e0,fR]
     refine hC.kp d24 ?_ ?_<;>simp[fR]
    ·simp[e5,fR]
     refine hC.kp d44 ?_ ?_<;>simp[fR]
   have d49:C 9 (bvA 19 24470) ⟨[(8,.pv (.ptr (h.length+1) 0)),(36,.pv (.seq false 5 (a.rows.map roR))),(38,.pv (.agg (rfRow a id lits))),(46,.pv (I64 (w64 (w64 (a.size+3)+lits.length)))),(48,.pv (.ptr h.length 1))],rfBb h a id lits⟩:=by
    refine hC.fork [(0,(bvA 19 24471)),(5,(bvA 19 24502)),(15,(bvA 19 57238))] ?_ ⟨?_,?_,?_,trivial⟩
    ·kernel_rfl
    ·simp[e0,fR]
     refine hC.kp d25 ?_ ?_<;>simp[fR]
    ·simp[e5,fR]
     refine hC.kp d45 ?_ ?_<;>simp[fR]
    ·simp[e15,fR]
     refine hC.kp d48 ?_ ?_<;>simp[fR]
   have d50:C 11 (bvA 19 52374) ⟨[(8,.pv (.ptr (h.length+1) 0)),(36,.pv (.seq false 5 (a.rows.map roR))),(38,.pv (.agg (rfRow a id lits))),(41,.pv (.ptr h.length 1)),(45,.pv (I64 lits.length)),(49,.pv (I64 a.size))],rfBb h a id lits⟩:=by
    refine hC.fork [(0,(bvA 19 52375)),(5,(bvA 19 52406)),(8,(bvA 19 52630))] ?_ ⟨?_,?_,?_,trivial⟩
    ·kernel_rfl
    ·simp[e0,fR]
     refine hC.kp d26 ?_ ?_<;>simp[fR]
    ·simp[e5,fR]
     refine hC.kp d46 ?_ ?_<;>simp[fR]
    ·simp[e8,fR]
     refine hC.take 9 (bvA 19 53142) ?_ ?_
     ·kernel_rfl
     simp[e9,fR]
     refine hC.take 12 (bvA 19 57238) ?_ ?_
     ·kernel_rfl
     simp[e12,fR]
     refine hC.kp d48 ?_ ?_<;>simp[fR]
   have d51:C 12 (bvA 19 19606) ⟨[(8,.pv (.ptr (h.length+1) 0)),(36,.pv (.seq false 5 (a.rows.map roR))),(38,.pv (.agg (rfRow a id lits))),(41,.pv (.ptr h.length 1)),(45,.pv (I64 lits.length)),(48,.pv (.ptr h.length 1))],rfBb h a id lits⟩:=by
    refine hC.fork [(0,(bvA 19 19607)),(5,(bvA 19 19638)),(8,(bvA 19 19862)),(15,(bvA 19 52374))] ?_ ⟨?_,?_,?_,?_,trivial⟩
    ·kernel_rfl
    ·simp[e0,fR]
     refine hC.kp d27 ?_ ?_<;>simp[fR]
    ·simp[e5,fR]
     refine hC.kp d47 ?_ ?_<;>simp[fR]
    ·simp[e8,fR]
     refine hC.take 9 (bvA 19 20374) ?_ ?_
     ·kernel_rfl
     simp[e9,fR]
     refine hC.take 12 (bvA 19 24470) ?_ ?_
     ·kernel_rfl
     simp[e12,fR]
     refine hC.kp d49 ?_ ?_<;>simp[fR]
    ·simp[e15,fR]
     refine hC.kp d50 ?_ ?_<;>simp[fR]
   have d52:C 9 (bvA 19 57222) ⟨[(8,.pv (.ptr (h.length+1) 0)),(12,.pv (.ptr (h.length+2) 0)),(36,.pv (.seq false 5 (a.rows.map roR))),(46,.pv (I64 (w64 (w64 (a.size+3)+lits.length)))),(49,.pv (I64 a.size))],rfBb h a id lits⟩:=by
    refine hC.fork [(0,(bvA 19 57223)),(4,(bvA 19 57238))] ?_ ⟨?_,?_,trivial⟩
    ·kernel_rfl
    ·simp[e0,fR]
     refine hC.kp d28 ?_ ?_<;>simp[fR]
    ·simp[e4,fR]
     refine hC.kp d48 ?_ ?_<;>simp[fR]
   have d53:C 10 (bvA 19 24454) ⟨[(8,.pv (.ptr (h.length+1) 0)),(12,.pv (.ptr (h.length+2) 0)),(36,.pv (.seq false 5 (a.rows.map roR))),(46,.pv (I64 (w64 (w64 (a.size+3)+lits.length)))),(48,.pv (.ptr h.length 1))],rfBb h a id lits⟩:=by
    refine hC.fork [(0,(bvA 19 24455)),(4,(bvA 19 24470)),(15,(bvA 19 57222))] ?_ ⟨?_,?_,?_,trivial⟩
    ·kernel_rfl
    ·simp[e0,fR]
     refine hC.kp d29 ?_ ?_<;>simp[fR]
    ·simp[e4,fR]
     refine hC.kp d49 ?_ ?_<;>simp[fR]
    ·simp[e15,fR]
     refine hC.kp d52 ?_ ?_<;>simp[fR]
   have d54:C 12 (bvA 19 52358) ⟨[(8,.pv (.ptr (h.length+1) 0)),(12,.pv (.ptr (h.length+2) 0)),(36,.pv (.seq false 5 (a.rows.map roR))),(41,.pv (.ptr h.length 1)),(45,.pv (I64 lits.length)),(49,.pv (I64 a.size))],rfBb h a id lits⟩:=by
    refine hC.fork [(0,(bvA 19 52359)),(4,(bvA 19 52374)),(8,(bvA 19 52614))] ?_ ⟨?_,?_,?_,trivial⟩
    ·kernel_rfl
    ·simp[e0,fR]
     refine hC.kp d30 ?_ ?_<;>simp[fR]
    ·simp[e4,fR]
     refine hC.kp d50 ?_ ?_<;>simp[fR]
    ·simp[e8,fR]
     refine hC.take 9 (bvA 19 53126) ?_ ?_
     ·kernel_rfl
     simp[e9,fR]
     refine hC.take 12 (bvA 19 57222) ?_ ?_
     ·kernel_rfl
     simp[e12,fR]
     refine hC.kp d52 ?_ ?_<;>simp[fR]
   have d55:C 13 (bvA 19 19590) ⟨[(8,.pv (.ptr (h.length+1) 0)),(12,.pv (.ptr (h.length+2) 0)),(36,.pv (.seq false 5 (a.rows.map roR))),(41,.pv (.ptr h.length 1)),(45,.pv (I64 lits.length)),(48,.pv (.ptr h.length 1))],rfBb h a id lits⟩:=by
    refine hC.fork [(0,(bvA 19 19591)),(4,(bvA 19 19606)),(8,(bvA 19 19846)),(15,(bvA 19 52358))] ?_ ⟨?_,?_,?_,?_,trivial⟩
    ·kernel_rfl
    ·simp[e0,fR]
     refine hC.kp d31 ?_ ?_<;>simp[fR]
    ·simp[e4,fR]
     refine hC.kp d51 ?_ ?_<;>simp[fR]
    ·simp[e8,fR]
     refine hC.take 9 (bvA 19 20358) ?_ ?_
     ·kernel_rfl
     simp[e9,fR]
     refine hC.take 12 (bvA 19 24454) ?_ ?_
     ·kernel_rfl
     simp[e12,fR]
     refine hC.kp d53 ?_ ?_<;>simp[fR]
    ·simp[e15,fR]
     refine hC.kp d54 ?_ ?_<;>simp[fR]
   have d56:C 8 (bvA 19 57266) ⟨[(8,.pv (.ptr (h.length+1) 0)),(35,.pv (.ptr h.length 0)),(39,.own true 5 [rfRow a id lits]),(46,.pv (I64 (w64 (w64 (a.size+3)+lits.length)))),(49,.pv (I64 a.size))],rfBb h a id lits⟩:=by
    refine hC.fork [(0,(bvA 19 57267)),(2,(bvA 19 57270))] ?_ ⟨?_,?_,trivial⟩
    ·kernel_rfl
    ·simp[e0,fR]
     refine hC.kp d32 ?_ ?_<;>simp[fR]
    ·simp[e2,fR]
     refine hC.kp d44 ?_ ?_<;>simp[fR]
   have d57:C 9 (bvA 19 24498) ⟨[(8,.pv (.ptr (h.length+1) 0)),(35,.pv (.ptr h.length 0)),(39,.own true 5 [rfRow a id lits]),(46,.pv (I64 (w64 (w64 (a.size+3)+lits.length)))),(48,.pv (.ptr h.length 1))],rfBb h a id lits⟩:=by
    refine hC.fork [(0,(bvA 19 24499)),(2,(bvA 19 24502)),(15,(bvA 19 57266))] ?_ ⟨?_,?_,?_,trivial⟩
    ·kernel_rfl
    ·simp[e0,fR]
     refine hC.kp d33 ?_ ?_<;>simp[fR]
    ·simp[e2,fR]
     refine hC.kp d45 ?_ ?_<;>simp[fR]
    ·simp[e15,fR]
     refine hC.kp d56 ?_ ?_<;>simp[fR]
   have d58:C 11 (bvA 19 52402) ⟨[(8,.pv (.ptr (h.length+1) 0)),(35,.pv (.ptr h.length 0)),(39,.own true 5 [rfRow a id lits]),(41,.pv (.ptr h.length 1)),(45,.pv (I64 lits.length)),(49,.pv (I64 a.size))],rfBb h a id lits⟩:=by
    refine hC.fork [(0,(bvA 19 52403)),(2,(bvA 19 52406)),(8,(bvA 19 52658))] ?_ ⟨?_,?_,?_,trivial⟩
    ·kernel_rfl
    ·simp[e0,fR]
     refine hC.kp d34 ?_ ?_<;>simp[fR]
    ·simp[e2,fR]
     refine hC.kp d46 ?_ ?_<;>simp[fR]
    ·simp[e8,fR]
     refine hC.take 9 (bvA 19 53170) ?_ ?_
     ·kernel_rfl
     simp[e9,fR]
     refine hC.take 12 (bvA 19 57266) ?_ ?_
     ·kernel_rfl
     simp[e12,fR]
     refine hC.kp d56 ?_ ?_<;>simp[fR]
   have d59:C 12 (bvA 19 19634) ⟨[(8,.pv (.ptr (h.length+1) 0)),(35,.pv (.ptr h.length 0)),(39,.own true 5 [rfRow a id lits]),(41,.pv (.ptr h.length 1)),(45,.pv (I64 lits.length)),(48,.pv (.ptr h.length 1))],rfBb h a id lits⟩:=by
    refine hC.fork [(0,(bvA 19 19635)),(2,(bvA 19 19638)),(8,(bvA 19 19890)),(15,(bvA 19 52402))] ?_ ⟨?_,?_,?_,?_,trivial⟩
    ·kernel_rfl
    ·simp[e0,fR]
     refine hC.kp d35 ?_ ?_<;>simp[fR]
    ·simp[e2,fR]
     refine hC.kp d47 ?_ ?_<;>simp[fR]
    ·simp[e8,fR]
     refine hC.take 9 (bvA 19 20402) ?_ ?_
     ·kernel_rfl
     simp[e9,fR]
     refine hC.take 12 (bvA 19 24498) ?_ ?_
     ·kernel_rfl
     simp[e12,fR]
     refine hC.kp d57 ?_ ?_<;>simp[fR]
    ·simp[e15,fR]
     refine hC.kp d58 ?_ ?_<;>simp[fR]
   have d60:C 9 (bvA 19 57234) ⟨[(8,.pv (.ptr (h.length+1) 0)),(35,.pv (.ptr h.length 0)),(38,.pv (.agg (rfRow a id lits))),(46,.pv (I64 (w64 (w64 (a.size+3)+lits.length)))),(49,.pv (I64 a.size))],rfBb h a id lits⟩:=by
    refine hC.fork [(0,(bvA 19 57235)),(2,(bvA 19 57238)),(5,(bvA 19 57266))] ?_ ⟨?_,?_,?_,trivial⟩
    ·kernel_rfl
    ·simp[e0,fR]
     refine hC.kp d36 ?_ ?_<;>simp[fR]
    ·simp[e2,fR]
     refine hC.kp d48 ?_ ?_<;>simp[fR]
    ·simp[e5,fR]
     refine hC.kp d56 ?_ ?_<;>simp[fR]
   have d61:C 10 (bvA 19 24466) ⟨[(8,.pv (.ptr (h.length+1) 0)),(35,.pv (.ptr h.length 0)),(38,.pv (.agg (rfRow a id lits))),(46,.pv (I64 (w64 (w64 (a.size+3)+lits.length)))),(48,.pv (.ptr h.length 1))],rfBb h a id lits⟩:=by
    refine hC.fork [(0,(bvA 19 24467)),(2,(bvA 19 24470)),(5,(bvA 19 24498)),(15,(bvA 19 57234))] ?_ ⟨?_,?_,?_,?_,trivial⟩
    ·kernel_rfl
    ·simp[e0,fR]
     refine hC.kp d37 ?_ ?_<;>simp[fR]
    ·simp[e2,fR]
     refine hC.kp d49 ?_ ?_<;>simp[fR]
    ·simp[e5,fR]
     refine hC.kp d57 ?_ ?_<;>simp[fR]
    ·simp[e15,fR]
     refine hC.kp d60 ?_ ?_<;>simp[fR]
   have d62:C 12 (bvA 19 52370) ⟨[(8,.pv (.ptr (h.length+1) 0)),(35,.pv (.ptr h.length 0)),(38,.pv (.agg (rfRow a id lits))),(41,.pv (.ptr h.length 1)),(45,.pv (I64 lits.length)),(49,.pv (I64 a.size))],rfBb h a id lits⟩:=by
    refine hC.fork [(0,(bvA 19 52371)),(2,(bvA 19 52374)),(5,(bvA 19 52402)),(8,(bvA 19 52626))] ?_ ⟨?_,?_,?_,?_,trivial⟩
    ·kernel_rfl
    ·simp[e0,fR]
     refine hC.kp d38 ?_ ?_<;>simp[fR]
    ·simp[e2,fR]
     refine hC.kp d50 ?_ ?_<;>simp[fR]
    ·simp[e5,fR]
     refine hC.kp d58 ?_ ?_<;>simp[fR]
    ·simp[e8,fR]
     refine hC.take 9 (bvA 19 53138) ?_ ?_
     ·kernel_rfl
     simp[e9,fR]
     refine hC.take 12 (bvA 19 57234) ?_ ?_
     ·kernel_rfl
     simp[e12,fR]
     refine hC.kp d60 ?_ ?_<;>simp[fR]
   have d63:C 13 (bvA 19 19602) ⟨[(8,.pv (.ptr (h.length+1) 0)),(35,.pv (.ptr h.length 0)),(38,.pv (.agg (rfRow a id lits))),(41,.pv (.ptr h.length 1)),(45,.pv (I64 lits.length)),(48,.pv (.ptr h.length 1))],rfBb h a id lits⟩:=by
    refine hC.fork [(0,(bvA 19 19603)),(2,(bvA 19 19606)),(5,(bvA 19 19634)),(8,(bvA 19 19858)),(15,(bvA 19 52370))] ?_ ⟨?_,?_,?_,?_,?_,trivial⟩
    ·kernel_rfl
    ·simp[e0,fR]
     refine hC.kp d39 ?_ ?_<;>simp[fR]
    ·simp[e2,fR]
     refine hC.kp d51 ?_ ?_<;>simp[fR]
    ·simp[e5,fR]
     refine hC.kp d59 ?_ ?_<;>simp[fR]
    ·simp[e8,fR]
     refine hC.take 9 (bvA 19 20370) ?_ ?_
     ·kernel_rfl
     simp[e9,fR]
     refine hC.take 12 (bvA 19 24466) ?_ ?_
     ·kernel_rfl
     simp[e12,fR]
     refine hC.kp d61 ?_ ?_<;>simp[fR]
    ·simp[e15,fR]
     refine hC.kp d62 ?_ ?_<;>simp[fR]
   have d64:C 10 (bvA 19 57218) ⟨[(8,.pv (.ptr (h.length+1) 0)),(12,.pv (.ptr (h.length+2) 0)),(35,.pv (.ptr h.length 0)),(46,.pv (I64 (w64 (w64 (a.size+3)+lits.length)))),(49,.pv (I64 a.size))],rfBb h a id lits⟩:=by
    refine hC.fork [(0,(bvA 19 57219)),(2,(bvA 19 57222)),(4,(bvA 19 57234))] ?_ ⟨?_,?_,?_,trivial⟩
    ·kernel_rfl
    ·simp[e0,fR]
     refine hC.kp d40 ?_ ?_<;>simp[fR]
    ·simp[e2,fR]
     refine hC.kp d52 ?_ ?_<;>simp[fR]
    ·simp[e4,fR]
     refine hC.kp d60 ?_ ?_<;>simp[fR]
   have d65:C 11 (bvA 19 24450) ⟨[(8,.pv (.ptr (h.length+1) 0)),(12,.pv (.ptr (h.length+2) 0)),(35,.pv (.ptr h.length 0)),(46,.pv (I64 (w64 (w64 (a.size+3)+lits.length)))),(48,.pv (.ptr h.length 1))],rfBb h a id lits⟩:=by
    refine hC.fork [(0,(bvA 19 24451)),(2,(bvA 19 24454)),(4,(bvA 19 24466)),(15,(bvA 19 57218))] ?_ ⟨?_,?_,?_,?_,trivial⟩
    ·kernel_rfl
    ·simp[e0,fR]
     refine hC.kp d41 ?_ ?_<;>simp[fR]
    ·simp[e2,fR]
     refine hC.kp d53 ?_ ?_<;>simp[fR]
    ·simp[e4,fR]
     refine hC.kp d61 ?_ ?_<;>simp[fR]
    ·simp[e15,fR]
     refine hC.kp d64 ?_ ?_<;>simp[fR]
   have d66:C 13 (bvA 19 52354) ⟨[(8,.pv (.ptr (h.length+1) 0)),(12,.pv (.ptr (h.length+2) 0)),(35,.pv (.ptr h.length 0)),(41,.pv (.ptr h.length 1)),(45,.pv (I64 lits.length)),(49,.pv (I64 a.size))],rfBb h a id lits⟩:=by
    refine hC.fork [(0,(bvA 19 52355)),(2,(bvA 19 52358)),(4,(bvA 19 52370)),(8,(bvA 19 52610))] ?_ ⟨?_,?_,?_,?_,trivial⟩
    ·kernel_rfl
    ·simp[e0,fR]
     refine hC.kp d42 ?_ ?_<;>simp[fR]
    ·simp[e2,fR]
     refine hC.kp d54 ?_ ?_<;>simp[fR]
    ·simp[e4,fR]
     refine hC.kp d62 ?_ ?_<;>simp[fR]
    ·simp[e8,fR]
     refine hC.take 9 (bvA 19 53122) ?_ ?_
     ·kernel_rfl
     simp[e9,fR]
     refine hC.take 12 (bvA 19 57218) ?_ ?_
     ·kernel_rfl
     simp[e12,fR]
     refine hC.kp d64 ?_ ?_<;>simp[fR]
   have d67:C 14 (bvA 19 19586) ⟨[(8,.pv (.ptr (h.length+1) 0)),(12,.pv (.ptr (h.length+2) 0)),(35,.pv (.ptr h.length 0)),(41,.pv (.ptr h.length 1)),(45,.pv (I64 lits.length)),(48,.pv (.ptr h.length 1))],rfBb h a id lits⟩:=by
    refine hC.fork [(0,(bvA 19 19587)),(2,(bvA 19 19590)),(4,(bvA 19 19602)),(8,(bvA 19 19842)),(15,(bvA 19 52354))] ?_ ⟨?_,?_,?_,?_,?_,trivial⟩
    ·kernel_rfl
    ·simp[e0,fR]
     refine hC.kp d43 ?_ ?_<;>simp[fR]
    ·simp[e2,fR]
     refine hC.kp d55 ?_ ?_<;>simp[fR]
    ·simp[e4,fR]
     refine hC.kp d63 ?_ ?_<;>simp[fR]
    ·simp[e8,fR]
     refine hC.take 9 (bvA 19 20354) ?_ ?_
     ·kernel_rfl
     simp[e9,fR]
     refine hC.take 12 (bvA 19 24450) ?_ ?_
     ·kernel_rfl
     simp[e12,fR]
     refine hC.kp d65 ?_ ?_<;>simp[fR]
    ·simp[e15,fR]
     refine hC.kp d66 ?_ ?_<;>simp[fR]
   refine hC.take 1 (bvA 19 2) ?_ ?_
   ·kernel_rfl
   simp[e1,fR]
   refine hC.take 7 (bvA 19 130) ?_ ?_
   ·kernel_rfl
   simp[e7,fR]
   refine hC.take 10 (bvA 19 1154) ?_ ?_
   ·kernel_rfl
   simp[e10,fR]
   refine hC.take 11 (bvA 19 3202) ?_ ?_
   ·kernel_rfl
   simp[e11,fR]
   refine hC.take 14 (bvA 19 19586) ?_ ?_
   ·kernel_rfl
   simp[e14,fR]
   refine hC.kp d67 ?_ ?_<;>simp[fR]
  have d1:C 1 (bvA 10 511) ⟨[(2,.pv (.seq false 1 (irow lits))),(4,.pv (.ptr h.length 0)),(8,.pv (.ptr (h.length+1) 0)),(33,.pv (.agg [I64 a.size,I64 id,.seq true 1 (irow lits),BL false,BL true])),(12,.pv (.ptr (h.length+2) 0))],rfBc h a id lits⟩:=by
   refine hC.fork [(9,(bvA 10 1023))] ?_ ⟨?_,trivial⟩
   ·kernel_rfl
   ·simp[e9,fR]
    exact hC.weak d0 (Weak.le (by simp[wkPL,wkP]) (wkHs_app h (by simp[wkPL,wkP])))
  have d2:C 2 (bvA 10 255) ⟨[(2,.pv (.seq false 1 (irow lits))),(4,.pv (.ptr h.length 0)),(8,.pv (.ptr (h.length+1) 0)),(33,.pv (.agg [I64 a.size,I64 id,.seq true 1 (irow lits),BL false,BL true]))],rfBa h a id lits⟩:=by
   refine hC.fork [(8,(bvA 10 511))] ?_ ⟨?_,trivial⟩
   ·kernel_rfl
   ·simp[e8,fR]
    refine hC.kp d1 ?_ ?_<;>simp[fR]
  have d3:C 2 (bvA 10 383) ⟨[(2,.pv (.seq false 1 (irow lits))),(4,.pv (.ptr h.length 0)),(8,.pv (.ptr (h.length+1) 0)),(27,.pv (I64 a.size)),(28,.pv (I64 id)),(31,.own true 1 (irow lits)),(32,.pv (BL false)),(12,.pv (.ptr (h.length+2) 0))],rfBc h a id lits⟩:=by
   refine hC.fork [(7,(bvA 10 511))] ?_ ⟨?_,trivial⟩
   ·kernel_rfl
   ·simp[e7,fR]
    refine hC.kp d1 ?_ ?_<;>simp[fR]
  have d4:C 3 (bvA 10 127) ⟨[(2,.pv (.seq false 1 (irow lits))),(4,.pv (.ptr h.length 0)),(8,.pv (.ptr (h.length+1) 0)),(27,.pv (I64 a.size)),(28,.pv (I64 id)),(31,.own true 1 (irow lits)),(32,.pv (BL false))],rfBa h a id lits⟩:=by
   refine hC.fork [(7,(bvA 10 255)),(8,(bvA 10 383))] ?_ ⟨?_,?_,trivial⟩
   ·kernel_rfl
   ·simp[e7,fR]
    refine hC.kp d2 ?_ ?_<;>simp[fR]
   ·simp[e8,fR]
    refine hC.kp d3 ?_ ?_<;>simp[fR]
  have d5:C 3 (bvA 10 351) ⟨[(2,.pv (.seq false 1 (irow lits))),(4,.pv (.ptr h.length 0)),(8,.pv (.ptr (h.length+1) 0)),(27,.pv (I64 a.size)),(28,.pv (I64 id)),(29,.own true 1 []),(30,.pv (.seq false 1 (irow lits))),(32,.pv (BL false)),(12,.pv (.ptr (h.length+2) 0))],rfBc h a id lits⟩:=by
   refine hC.fork [(5,(bvA 10 383))] ?_ ⟨?_,trivial⟩
   ·kernel_rfl
   ·simp[e5,fR]
    try refine⟨by omega,?_⟩
    refine hC.kp d3 ?_ ?_<;>simp[fR]
  have d6:C 4 (bvA 10 95) ⟨[(2,.pv (.seq false 1 (irow lits))),(4,.pv (.ptr h.length 0)),(8,.pv (.ptr (h.length+1) 0)),(27,.pv (I64 a.size)),(28,.pv (I64 id)),(29,.own true 1 []),(30,.pv (.seq false 1 (irow lits))),(32,.pv (BL false))],rfBa h a id lits⟩:=by
   refine hC.fork [(5,(bvA 10 127)),(8,(bvA 10 351))] ?_ ⟨?_,?_,trivial⟩
   ·kernel_rfl
   ·simp[e5,fR]
    try refine⟨by omega,?_⟩
    refine hC.kp d4 ?_ ?_<;>simp[fR]
   ·simp[e8,fR]
    refine hC.kp d5 ?_ ?_<;>simp[fR]
  have d7:C 4 (bvA 10 343) ⟨[(2,.pv (.seq false 1 (irow lits))),(4,.pv (.ptr h.length 0)),(8,.pv (.ptr (h.length+1) 0)),(27,.pv (I64 a.size)),(28,.pv (I64 id)),(30,.pv (.seq false 1 (irow lits))),(32,.pv (BL false)),(12,.pv (.ptr (h.length+2) 0))],rfBc h a id lits⟩:=by
   refine hC.fork [(3,(bvA 10 351))] ?_ ⟨?_,trivial⟩
   ·kernel_rfl
   ·simp[e3,fR]
    refine hC.kp d5 ?_ ?_<;>simp[fR]
  have d8:C 5 (bvA 10 87) ⟨[(2,.pv (.seq false 1 (irow lits))),(4,.pv (.ptr h.length 0)),(8,.pv (.ptr (h.length+1) 0)),(27,.pv (I64 a.size)),(28,.pv (I64 id)),(30,.pv (.seq false 1 (irow lits))),(32,.pv (BL false))],rfBa h a id lits⟩:=by
   refine hC.fork [(3,(bvA 10 95)),(8,(bvA 10 343))] ?_ ⟨?_,?_,trivial⟩
   ·kernel_rfl
   ·simp[e3,fR]
    refine hC.kp d6 ?_ ?_<;>simp[fR]
   ·simp[e8,fR]
    refine hC.kp d7 ?_ ?_<;>simp[fR]
  have d9:C 3 (bvA 10 381) ⟨[(2,.pv (.seq false 1 (irow lits))),(4,.pv (.ptr h.length 0)),(8,.pv (.ptr (h.length+1) 0)),(26,.pv (.ptr h.length 1)),(28,.pv (I64 id)),(31,.own true 1 (irow lits)),(32,.pv (BL false)),(12,.pv (.ptr (h.length+2) 0))],rfBc h a id lits⟩:=by
   refine hC.fork [(1,(bvA 10 383))] ?_ ⟨?_,trivial⟩
   ·kernel_rfl
   ·simp[e1,fR]
    refine hC.kp d3 ?_ ?_<;>simp[fR]
  have d10:C 4 (bvA 10 125) ⟨[(2,.pv (.seq false 1 (irow lits))),(4,.pv (.ptr h.length 0)),(8,.pv (.ptr (h.length+1) 0)),(26,.pv (.ptr h.length 1)),(28,.pv (I64 id)),(31,.own true 1 (irow lits)),(32,.pv (BL false))],rfBa h a id lits⟩:=by
   refine hC.fork [(1,(bvA 10 127)),(8,(bvA 10 381))] ?_ ⟨?_,?_,trivial⟩
   ·kernel_rfl
   ·simp[e1,fR]
    refine hC.kp d4 ?_ ?_<;>simp[fR]
   ·simp[e8,fR]
    refine hC.kp d9 ?_ ?_<;>simp[fR]
  have d11:C 4 (bvA 10 349) ⟨[(2,.pv (.seq false 1 (irow lits))),(4,.pv (.ptr h.length 0)),(8,.pv (.ptr (h.length+1) 0)),(26,.pv (.ptr h.length 1)),(28,.pv (I64 id)),(29,.own true 1 []),(30,.pv (.seq false 1 (irow lits))),(32,.pv (BL false)),(12,.pv (.ptr (h.length+2) 0))],rfBc h a id lits⟩:=by
   refine hC.fork [(1,(bvA 10 351)),(5,(bvA 10 381))] ?_ ⟨?_,?_,trivial⟩
   ·kernel_rfl
   ·simp[e1,fR]
    refine hC.kp d5 ?_ ?_<;>simp[fR]
   ·simp[e5,fR]
    try refine⟨by omega,?_⟩
    refine hC.kp d9 ?_ ?_<;>simp[fR]
  have d12:C 5 (bvA 10 93) ⟨[(2,.pv (.seq false 1 (irow lits))),(4,.pv (.ptr h.length 0)),(8,.pv (.ptr (h.length+1) 0)),(26,.pv (.ptr h.length 1)),(28,.pv (I64 id)),(29,.own true 1 []),(30,.pv (.seq false 1 (irow lits))),(32,.pv (BL false))],rfBa h a id lits⟩:=by
   refine hC.fork [(1,(bvA 10 95)),(5,(bvA 10 125)),(8,(bvA 10 349))] ?_ ⟨?_,?_,?_,trivial⟩
   ·kernel_rfl
   ·simp[e1,fR]
    refine hC.kp d6 ?_ ?_<;>simp[fR]
   ·simp[e5,fR]
    try refine⟨by omega,?_⟩
    refine hC.kp d10 ?_ ?_<;>simp[fR]
   ·simp[e8,fR]
    refine hC.kp d11 ?_ ?_<;>simp[fR]
  have d13:C 5 (bvA 10 341) ⟨[(2,.pv (.seq false 1 (irow lits))),(4,.pv (.ptr h.length 0)),(8,.pv (.ptr (h.length+1) 0)),(26,.pv (.ptr h.length 1)),(28,.pv (I64 id)),(30,.pv (.seq false 1 (irow lits))),(32,.pv (BL false)),(12,.pv (.ptr (h.length+2) 0))],rfBc h a id lits⟩:=by
   refine hC.fork [(1,(bvA 10 343)),(3,(bvA 10 349))] ?_ ⟨?_,?_,trivial⟩
   ·kernel_rfl
   ·simp[e1,fR]
    refine hC.kp d7 ?_ ?_<;>simp[fR]
   ·simp[e3,fR]
    refine hC.kp d11 ?_ ?_<;>simp[fR]
  have d14:C 6 (bvA 10 85) ⟨[(2,.pv (.seq false 1 (irow lits))),(4,.pv (.ptr h.length 0)),(8,.pv (.ptr (h.length+1) 0)),(26,.pv (.ptr h.length 1)),(28,.pv (I64 id)),(30,.pv (.seq false 1 (irow lits))),(32,.pv (BL false))],rfBa h a id lits⟩:=by
   refine hC.fork [(1,(bvA 10 87)),(3,(bvA 10 93)),(8,(bvA 10 341))] ?_ ⟨?_,?_,?_,trivial⟩
   ·kernel_rfl
   ·simp[e1,fR]
    refine hC.kp d8 ?_ ?_<;>simp[fR]
   ·simp[e3,fR]
    refine hC.kp d12 ?_ ?_<;>simp[fR]
   ·simp[e8,fR]
    refine hC.kp d13 ?_ ?_<;>simp[fR]
  refine hC.take 0 (bvA 10 1) ?_ ?_
  ·kernel_rfl
  simp[e0,fR]
  refine hC.take 2 (bvA 10 5) ?_ ?_
  ·kernel_rfl
  simp[e2,fR]
  refine hC.take 4 (bvA 10 21) ?_ ?_
  ·kernel_rfl
  simp[e4,fR]
  refine hC.take 6 (bvA 10 85) ?_ ?_
  ·kernel_rfl
  simp[e6,fR]
  refine hC.kp d14 ?_ ?_<;>simp[fR]
end Go.AX