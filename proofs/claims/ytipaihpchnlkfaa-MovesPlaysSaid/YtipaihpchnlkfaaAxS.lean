/-
  AX, part S: what is run by simp.
-/
import Derived.Test.YtipaihpchnlkfaaAxQ
namespace Go.AX
attribute [simp] look posGet SV.isOwn SV.inCell ev mvS mv gcS gc asK asI isI asB isB asS isS binI binB binS nilness isNilConst binP asFlat flatKinds isFlat binF isPtr isNilSl rowsOf slOk lenSl lenStr fldA live fieldV idxSl idxV cellSV ld1 isPv toPv ldn ldV unV pickV extV pcells isAggV partV cvtV ckV cutSl bnd bndOk cutV St.put killS killL SV.avoids qSlot setPos St.grow splice qCells frozenOf callV binV pop PV.one allOne embPos emb embL putD takeS frzW frzL frzR frzE frzC vw vwOk PV.nw nwL nwR nwE SV.nwS putR calleeOf vwOkL storeK buildSl appendK callE popK AE gslot gcond frzS SV.isFree AGp AGs AG tmpOf tmpsOf optmpOf opTmps looks preLen restr qDst kq bots dstsOf wkv wkL seqQ blockQ argT endQ ret1 retN viewsOf callG callQ0 callQ ptrCallX ptrCall isPtrP isPtrS qCell retM retMN buildV bFill partsOk partsV indexV allPv pvsOf makeFV amLook entriesOf isMap lookV makeSl mapUp amPut PV.bel belowL belowR belowE SV.bel belowT belowC belowH unread preLenW AStep AQs ADraw SV.int SV.bool plainArgs retC popQ bslV frzOk1 frzOk alOf memN fnd vwA ptrAny ptrAnyS

@[simp] theorem oc_int (k : IntKind) (n : Int) : (Value.int k n).oneCell' = true := rfl
@[simp] theorem oc_bool (b : Bool) : (Value.bool b).oneCell' = true := rfl
@[simp] theorem oc_string (s : ByteArray) : (Value.string s).oneCell' = true := rfl
@[simp] theorem oc_ptr (p : Option Addr) : (Value.pointer p).oneCell' = true := rfl
@[simp] theorem oc_slice (p : Option Addr) (n c : Nat) : (Value.slice p n c).oneCell' = true := rfl
@[simp] theorem oc_map (r : Option Nat) : (Value.map r).oneCell' = true := rfl
@[simp] theorem oc_func (f : Fn) (a b : Array Value) : (Value.func f a b).oneCell' = true := rfl

@[simp] theorem range_0 : List.range 0 = [] := rfl
@[simp] theorem range_1 : List.range 1 = [0] := rfl
@[simp] theorem range_2 : List.range 2 = [0, 1] := rfl
@[simp] theorem range_3 : List.range 3 = [0, 1, 2] := rfl
@[simp] theorem range_4 : List.range 4 = [0, 1, 2, 3] := rfl
@[simp] theorem range_5 : List.range 5 = [0, 1, 2, 3, 4] := rfl
@[simp] theorem range_6 : List.range 6 = [0, 1, 2, 3, 4, 5] := rfl
@[simp] theorem range_7 : List.range 7 = [0, 1, 2, 3, 4, 5, 6] := rfl
@[simp] theorem range_8 : List.range 8 = [0, 1, 2, 3, 4, 5, 6, 7] := rfl
@[simp] theorem range_9 : List.range 9 = [0, 1, 2, 3, 4, 5, 6, 7, 8] := rfl
@[simp] theorem range_10 : List.range 10 = [0, 1, 2, 3, 4, 5, 6, 7, 8, 9] := rfl
@[simp] theorem range_11 : List.range 11 = [0, 1, 2, 3, 4, 5, 6, 7, 8, 9, 10] := rfl
@[simp] theorem range_12 : List.range 12 = [0, 1, 2, 3, 4, 5, 6, 7, 8, 9, 10, 11] := rfl
@[simp] theorem range_13 : List.range 13 = [0, 1, 2, 3, 4, 5, 6, 7, 8, 9, 10, 11, 12] := rfl
@[simp] theorem range_14 : List.range 14 = [0, 1, 2, 3, 4, 5, 6, 7, 8, 9, 10, 11, 12, 13] := rfl
@[simp] theorem range_15 : List.range 15 = [0, 1, 2, 3, 4, 5, 6, 7, 8, 9, 10, 11, 12, 13, 14] := rfl
@[simp] theorem range_16 : List.range 16 = [0, 1, 2, 3, 4, 5, 6, 7, 8, 9, 10, 11, 12, 13, 14, 15] := rfl

/-! ### Steps: what is still to come stays folded -/
section
variable {P : Program} {k0 : Nat} {Q : Exit → St → Prop} {st : St} {K : St → Prop} {ops : List Oper}
@[simp] theorem AC_skip : AC P k0 .skip Q st = Q .normal st := rfl
@[simp] theorem AC_region0 (id : Nat) (ops : Array Oper) : AC P k0 (.region id ops false) Q st = AOps P ops.toList (Q .normal) ops.toList st := rfl
@[simp] theorem AC_region1 (id : Nat) (ops : Array Oper) : AC P k0 (.region id ops true) Q st = ADraw P ops.toList (Q .normal) st := rfl
@[simp] theorem AC_seq (x y : Code) : AC P k0 (.seq x y) Q st = AC P k0 x (seqQ (AC P k0 y Q) Q) st := rfl
@[simp] theorem AC_cond (c : Operand) (x y : Code) : AC P k0 (.cond c x y) Q st = (gc st c ∧ isB (mv st c) ∧ (asB (mv st c) = true → AC P k0 x Q st) ∧ (asB (mv st c) = false → AC P k0 y Q st)) := rfl
@[simp] theorem AC_block (id : Nat) (x : Code) : AC P k0 (.block id x) Q st = AC P k0 x (blockQ id Q) st := rfl
@[simp] theorem AC_exit (id : Nat) : AC P k0 (.exit id) Q st = Q (.exit id) st := rfl
@[simp] theorem AC_ret : AC P k0 .ret Q st = Q .ret st := rfl
@[simp] theorem AC_loop (x : Code) : AC P k0 (.loop x) Q st = ALoop k0 (AC P k0 x) Q st := rfl
@[simp] theorem AOps_nil : AOps P ops K [] st = K st := rfl
@[simp] theorem AOps_cons (o : Oper) (rest : List Oper) : AOps P ops K (o :: rest) st = AStep P ops o (AOps P ops K rest) st := rfl
end
section
variable {P : Program} {ops : List Oper} {q : Pos → Bool} {base : St} {K : List (Nat × SV) → Prop} {acc : List (Nat × SV)} {K0 : St → Prop}
@[simp] theorem alK_nil : alK P K0 [] base = K0 base := rfl
@[simp] theorem alK_cons (o : Oper) (rest : List Oper) : alK P K0 (o :: rest) base = (match alOf o with
    | some (d, t) => match zeroL P t with
      | some zs => allOne zs = true ∧ alK P K0 rest ((base.grow (zs.map .pv)).put d (.pv (.ptr base.h.length 0)))
      | none => False
    | none => alK P K0 rest base) := rfl
@[simp] theorem ADrawK_eq : ADrawK P ops K0 base acc = alK P (AOps P ops K0 (ops.drop (preLen ops))) (ops.take (preLen ops)) ⟨acc ++ base.t, base.h⟩ := rfl
@[simp] theorem AQ_nil : AQ P ops q base K [] acc = K acc := rfl
@[simp] theorem AQ_cons_eq (o : Oper) (rest : List Oper) : AQ P ops q base K (o :: rest) acc = AQs P ops q base o (AQ P ops q base K rest) acc := rfl
end

end Go.AX
