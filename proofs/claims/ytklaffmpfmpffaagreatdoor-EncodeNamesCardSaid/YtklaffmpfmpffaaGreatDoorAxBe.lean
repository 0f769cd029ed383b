/-
  AX, part S: what is run by simp.
  AX, part X: whole numbers that wrap.
  AX: what is told may be told as less: new memory as any, nil as a row of nothing.
  AX, part XD: a call that leaves certain blocks; its own are let go.
  AX, part Be: what names blocks below a number only.
-/
import Derived.Test.YtklaffmpfmpffaaGreatDoorAxQ
namespace Go.AX
attribute [simp] look posGet SV.isOwn SV.inCell ev mvS mv gcS gc asK asI isI asB isB asS isS binI binB binS nilness isNilConst binP asFlat flatKinds isFlat binF isPtr isNilSl rowsOf slOk lenSl lenStr fldA live fieldV idxSl idxV cellSV ld1 isPv toPv ldn ldV unV pickV extV pcells isAggV partV cvtV ckV cutSl bnd bndOk cutV St.put killS killL SV.avoids qSlot setPos St.grow splice qCells frozenOf callV binV pop PV.one allOne embPos emb embL putD takeS frzW frzL frzR frzE frzC vw vwOk PV.nw nwL nwR nwE SV.nwS putR calleeOf vwOkL storeK buildSl appendK callE popK AE gslot gcond frzS SV.isFree AGp AGs AG tmpOf tmpsOf optmpOf opTmps looks preLen restr qDst kq bots dstsOf wkv wkL seqQ blockQ scopeQ argT endQ ret1 retN viewsOf callG callQ0 callQ ptrCallX ptrCall isPtrP isPtrS qCell retM retMN buildV bFill partsOk partsV indexV allPv pvsOf makeFV amLook entriesOf isMap lookV makeSl mapUp amPut PV.bel belowL belowR belowE SV.bel belowT belowC belowH unread preLenW AStep AQs ADraw SV.int SV.bool plainArgs retC popQ bslV frzOk1 frzOk alOf memN fnd vwA ptrAny ptrAnyS storeO moveSt moveAg anyPart agPart noPart carry cutOf aPart aFill aParts aPartsOk aglV aglK AEx mvIn moved aOwn boxedIn ownAny boxK AStepI anyPos WeakTo loadSt frzCells resV resL resOut retX retMX partOf ownE ownRows ownNw putS oldL oldR oldE PV.old hintOk clearK allLit copyK copyE copyV isLoc isLit litsL cpN nilK mapNil cut3V u8s byteSl cvB AForks AForksO

@[simp] theorem cells_int (k : IntKind) (n : Int) : (Value.int k n).cells = #[.int k n] := rfl
@[simp] theorem oc_int (k : IntKind) (n : Int) : (Value.int k n).oneCell' = true := rfl
@[simp] theorem oc_bool (b : Bool) : (Value.bool b).oneCell' = true := rfl
@[simp] theorem oc_string (s : ByteArray) : (Value.string s).oneCell' = true := rfl
@[simp] theorem oc_ptr (p : Option Addr) : (Value.pointer p).oneCell' = true := rfl
@[simp] theorem oc_slice (p : Option Addr) (n c : Nat) : (Value.slice p n c).oneCell' = true := rfl
@[simp] theorem oc_map (r : Option Nat) : (Value.map r).oneCell' = true := rfl
@[simp] theorem oc_func (f : Fn) (a b : Array Value) : (Value.func f a b).oneCell' = true := rfl

@[simp] theorem range_0 : List.range 0 = [] := rfl
@[simp] theorem range_1 : List.range 1 = [0] := rfl
@[simp] theorem range_2 : List.range 2 = [0, 1] := rfl
@[simp] theorem range_3 : List.range 3 = [0, 1, 2] := rfl
@[simp] theorem range_4 : List.range 4 = [0, 1, 2, 3] := rfl
@[simp] theorem range_5 : List.range 5 = [0, 1, 2, 3, 4] := rfl
@[simp] theorem range_6 : List.range 6 = [0, 1, 2, 3, 4, 5] := rfl
@[simp] theorem range_7 : List.range 7 = [0, 1, 2, 3, 4, 5, 6] := rfl
@[simp] theorem range_8 : List.range 8 = [0, 1, 2, 3, 4, 5, 6, 7] := rfl
@[simp] theorem range_9 : List.range 9 = [0, 1, 2, 3, 4, 5, 6, 7, 8] := rfl
@[simp] theorem range_10 : List.range 10 = [0, 1, 2, 3, 4, 5, 6, 7, 8, 9] := rfl
@[simp] theorem range_11 : List.range 11 = [0, 1, 2, 3, 4, 5, 6, 7, 8, 9, 10] := rfl
@[simp] theorem range_12 : List.range 12 = [0, 1, 2, 3, 4, 5, 6, 7, 8, 9, 10, 11] := rfl
@[simp] theorem range_13 : List.range 13 = [0, 1, 2, 3, 4, 5, 6, 7, 8, 9, 10, 11, 12] := rfl
@[simp] theorem range_14 : List.range 14 = [0, 1, 2, 3, 4, 5, 6, 7, 8, 9, 10, 11, 12, 13] := rfl
@[simp] theorem range_15 : List.range 15 = [0, 1, 2, 3, 4, 5, 6, 7, 8, 9, 10, 11, 12, 13, 14] := rfl
@[simp] theorem range_16 : List.range 16 = [0, 1, 2, 3, 4, 5, 6, 7, 8, 9, 10, 11, 12, 13, 14, 15] := rfl

/-! ### Steps: what is still to come stays folded -/
section
variable {P : Program} {k0 : Nat} {bad : List Nat} {Q : Exit → St → Prop} {st : St} {K : St → Prop} {ops : List Oper}
@[simp] theorem AC_skip : AC P k0 bad .skip Q st = Q .normal st := rfl
@[simp] theorem AC_region0 (id : Nat) (ops : Array Oper) : AC P k0 bad (.region id ops false) Q st = AOps P ops.toList (Q .normal) ops.toList st := rfl
@[simp] theorem AC_region1 (id : Nat) (ops : Array Oper) : AC P k0 bad (.region id ops true) Q st = if memN bad id = true then AAnyD P k0 ops (Q .normal) st else ADraw P ops.toList (Q .normal) st := rfl
@[simp] theorem AC_seq (x y : Code) : AC P k0 bad (.seq x y) Q st = AC P k0 bad x (seqQ (AC P k0 bad y Q) Q) st := rfl
@[simp] theorem AC_cond (c : Operand) (x y : Code) : AC P k0 bad (.cond c x y) Q st = (gc st c ∧ isB (mv st c) ∧ (asB (mv st c) = true → AC P k0 bad x Q st) ∧ (asB (mv st c) = false → AC P k0 bad y Q st)) := rfl
@[simp high] theorem AC_cond_t (c : Operand) (x y : Code) (h : asB (mv st c) = true) : AC P k0 bad (.cond c x y) Q st = (gc st c ∧ isB (mv st c) ∧ AC P k0 bad x Q st) := by
  rw [AC_cond, h]
  exact propext ⟨fun ⟨a, b, c, _⟩ => ⟨a, b, c rfl⟩, fun ⟨a, b, c⟩ => ⟨a, b, fun _ => c, fun h => by cases h⟩⟩
@[simp high] theorem AC_cond_f (c : Operand) (x y : Code) (h : asB (mv st c) = false) : AC P k0 bad (.cond c x y) Q st = (gc st c ∧ isB (mv st c) ∧ AC P k0 bad y Q st) := by
  rw [AC_cond, h]
  exact propext ⟨fun ⟨a, b, _, c⟩ => ⟨a, b, c rfl⟩, fun ⟨a, b, c⟩ => ⟨a, b, (fun h => by cases h), fun _ => c⟩⟩
@[simp] theorem AC_block (id : Nat) (x : Code) : AC P k0 bad (.block id x) Q st = AC P k0 bad x (blockQ id Q) st := rfl
@[simp] theorem AC_label (l : Nat) : AC P k0 bad (.label l) Q st = Q .normal st := rfl
@[simp] theorem AC_scope (x : Code) : AC P k0 bad (.scope x) Q st = AC P k0 bad x (scopeQ Q) st := rfl
@[simp] theorem AC_exit (id : Nat) : AC P k0 bad (.exit id) Q st = Q (.exit id) st := rfl
@[simp] theorem AC_ret : AC P k0 bad .ret Q st = Q .ret st := rfl
@[simp] theorem AC_loop (x : Code) : AC P k0 bad (.loop x) Q st = ALoop k0 (AC P k0 bad x) Q st := rfl
@[simp] theorem AOps_nil : AOps P ops K [] st = K st := rfl
@[simp] theorem AOps_cons (o : Oper) (rest : List Oper) : AOps P ops K (o :: rest) st = AStep P ops o (AOps P ops K rest) st := rfl
end
section
variable {P : Program} {ops : List Oper} {q : Pos → Bool} {base : St} {K : List (Nat × SV) → Prop} {acc : List (Nat × SV)} {K0 : St → Prop}
@[simp] theorem alK_nil : alK P K0 [] base = K0 base := rfl
@[simp] theorem alK_cons (o : Oper) (rest : List Oper) : alK P K0 (o :: rest) base = (match alOf o with
    | some (d, t) => match zeroL P t with
      | some zs => allOne zs = true ∧ alK P K0 rest ((base.grow (zs.map .pv)).put d (.pv (.ptr base.h.length 0)))
      | none => False
    | none => alK P K0 rest base) := rfl
@[simp] theorem ADrawK_eq : ADrawK P ops K0 base acc = alK P (AOps P ops K0 (ops.drop (preLen ops))) (ops.take (preLen ops)) ⟨acc ++ base.t, base.h⟩ := rfl
@[simp] theorem AQ_nil : AQ P ops q base K [] acc = K acc := rfl
@[simp] theorem AQ_cons_eq (o : Oper) (rest : List Oper) : AQ P ops q base K (o :: rest) acc = AQs P ops q base o (AQ P ops q base K rest) acc := rfl
end
section
variable {P : Program} {ops : List Oper} {K : St → Prop} {st : St}
@[simp] theorem ASch_done : ASch P ops K .done st = K st := rfl
@[simp] theorem ASch_take (i : Nat) (r : Sch) : ASch P ops K (.take i r) st = AStepI P ops i (ASch P ops K r) st := rfl
@[simp] theorem ASch_fork (l : List (Nat × Sch)) : ASch P ops K (.fork l) st = ASchL P ops K l st := rfl
@[simp] theorem ASchL_nil : ASchL P ops K [] st = True := rfl
@[simp] theorem ASchL_cons (i : Nat) (r : Sch) (l : List (Nat × Sch)) : ASchL P ops K ((i, r) :: l) st = (AStepI P ops i (ASch P ops K r) st ∧ ASchL P ops K l st) := rfl
end

end Go.AX

namespace Go.AX

/-- A number in a slot. -/
abbrev I64 (n : Int) : PV := .lit (.int .i64 n)
abbrev BL (b : Bool) : PV := .lit (.bool b)
/-- A number as int64 holds it. -/
def w64 (n : Int) : Int := IntKind.i64.wrap n
@[simp] theorem w64_def (n : Int) : IntKind.i64.wrap n = w64 n := rfl

theorem w64_eq (n : Int) : w64 n = (n + 9223372036854775808) % 18446744073709551616 - 9223372036854775808 := by
  unfold w64; rw [IntKind.wrap_i64]
theorem w64_id {n : Int} (h1 : -9223372036854775808 ≤ n) (h2 : n ≤ 9223372036854775807) : w64 n = n := by rw [w64_eq]; omega
theorem w64_ex (n : Int) : ∃ k, w64 n = n + 18446744073709551616 * k := by
  refine ⟨-((n + 9223372036854775808) / 18446744073709551616), ?_⟩
  rw [w64_eq]
  have := Int.emod_add_mul_ediv (n + 9223372036854775808) 18446744073709551616
  omega
theorem w64_shift (n k : Int) : w64 (n + 18446744073709551616 * k) = w64 n := by rw [w64_eq, w64_eq]; omega
@[simp] theorem w64_w64 (a : Int) : w64 (w64 a) = w64 a := by rw [w64_eq (w64 a), w64_eq]; omega
@[simp] theorem w64_add_l (a b : Int) : w64 (w64 a + b) = w64 (a + b) := by simp only [w64_eq]; omega
@[simp] theorem w64_add_r (a b : Int) : w64 (a + w64 b) = w64 (a + b) := by simp only [w64_eq]; omega
@[simp] theorem w64_sub_l (a b : Int) : w64 (w64 a - b) = w64 (a - b) := by simp only [w64_eq]; omega
@[simp] theorem w64_sub_r (a b : Int) : w64 (a - w64 b) = w64 (a - b) := by simp only [w64_eq]; omega
@[simp] theorem w64_neg (a : Int) : w64 (- w64 a) = w64 (-a) := by simp only [w64_eq]; omega
@[simp] theorem w64_mul_l (a b : Int) : w64 (w64 a * b) = w64 (a * b) := by
  obtain ⟨k, hk⟩ := w64_ex a
  rw [hk, Int.add_mul, Int.mul_assoc, w64_shift]
@[simp] theorem w64_mul_r (a b : Int) : w64 (a * w64 b) = w64 (a * b) := by rw [Int.mul_comm, w64_mul_l, Int.mul_comm]
theorem w64_lo (a : Int) : -9223372036854775808 ≤ w64 a := by rw [w64_eq]; omega
theorem w64_hi (a : Int) : w64 a ≤ 9223372036854775807 := by rw [w64_eq]; omega

@[simp] theorem belowR_append (k : Nat) (a b : List (List PV)) : belowR k (a ++ b) ↔ belowR k a ∧ belowR k b := by
  simp only [belowR_iff, List.mem_append]
  constructor
  · intro h; exact ⟨fun r hr => h r (.inl hr), fun r hr => h r (.inr hr)⟩
  · rintro ⟨h1, h2⟩ r (hr | hr)
    · exact h1 r hr
    · exact h2 r hr

/-! ### Arguments in other words -/
/-- What one says, the other says too. -/
def PV.as (x y : PV) : Prop := ∀ (w : World) (v : Value), Fit (snap w) x v → Fit (snap w) y v
theorem PV.as.refl (x : PV) : PV.as x x := fun _ _ h => h
theorem PV.as_nil (e : Nat) : PV.as (.lit (.slice none 0 0)) (.seq false e []) := fun _ _ h => ⟨none, 0, h, Nat.le_refl _, .inl rfl⟩
def asL : List PV → List PV → Prop
  | [], ys => ys = []
  | x :: xs, ys => ∃ y r, ys = y :: r ∧ PV.as x y ∧ asL xs r
theorem asL_fit {w : World} : ∀ {xs ys : List PV} {vs : List Value}, asL xs ys → FitL (snap w) xs vs → FitL (snap w) ys vs
  | [], _, _, h, h' => by simp only [asL] at h; subst h; exact h'
  | x :: xs, _, _, h, h' => by
    simp only [asL] at h
    obtain ⟨y, r, rfl, h1, h2⟩ := h
    obtain ⟨v, q, rfl, h3, h4⟩ := h'
    exact ⟨v, q, rfl, h1 w v h3, asL_fit h2 h4⟩
theorem APure.conv {P : Program} {f : FuncId} {xs ys : List PV} {R : SV → Prop} (h : APure P f ys R) (hc : asL xs ys) : APure P f xs R :=
  ⟨h.1, fun w vs hv => h.2 w vs (asL_fit hc hv)⟩

theorem CallM.intro {P : Program} {st : St} {f : FuncId} {pa : List PV} {d : Option Tmp} {K : St → Prop} {R : SV → List (List SV) → Prop} (h : AMut P f pa st.h R) (hK : ∀ r h', R r h' → K (putR d r ⟨killL qCell st.t, h'⟩)) : CallM P st f pa d K := ⟨R, h, hK⟩

end Go.AX

namespace Go.AX

mutual
def wkP : PV → PV → Prop
  | .agg xs, .agg ys => wkPL xs ys
  | .tup xs, .tup ys => wkPL xs ys
  | .seq nw e rows, .seq nw' e' rows' => (nw' = true → nw = true) ∧ e = e' ∧ rows = rows'
  | .lit v, .seq _ _ rows => isNilSl v = true ∧ rows = []
  | x, y => x = y
def wkPL : List PV → List PV → Prop
  | [], [] => True
  | x :: xs, y :: ys => wkP x y ∧ wkPL xs ys
  | _, _ => False
end

mutual
theorem wkP_ok {g : Gh} : ∀ (x y : PV) (v : Value), wkP x y → Fit g x v → Fit g y v
  | .agg xs, .agg ys, _, h, ⟨vs, h1, h2⟩ => ⟨vs, h1, wkPL_ok xs ys _ (by simpa only [wkP] using h) h2⟩
  | .tup xs, .tup ys, _, h, ⟨vs, h1, h2⟩ => ⟨vs, h1, wkPL_ok xs ys _ (by simpa only [wkP] using h) h2⟩
  | .seq nw e rows, .seq nw' e' rows', v, h, ⟨p, cap, h1, hc, h2⟩ => by
    simp only [wkP] at h
    obtain ⟨hn, rfl, rfl⟩ := h
    exact ⟨p, cap, h1, hc, h2.imp id fun ⟨c, off, arr, T, fz, vs, a, b, n, r, q⟩ => ⟨c, off, arr, T, fz, vs, a, b, fun hh => n (hn hh), r, q⟩⟩
  | .lit u, .seq nw e rows, v, h, hf => by
    simp only [wkP] at h
    obtain ⟨hn, rfl⟩ := h
    have hv : v = u := hf
    rw [hv, isNilSl_eq hn]
    exact ⟨none, 0, rfl, Nat.le_refl _, .inl rfl⟩
  | .bot, y, v, h, hf => by cases y <;> first | exact hf | (simp only [wkP] at h; cases h)
  | .iptr _ _ _ _, y, v, h, hf => by cases y <;> simp only [wkP] at h <;> first | (cases h; exact hf) | cases h
  | .ptr _ _, y, v, h, hf => by cases y <;> simp only [wkP] at h <;> first | (cases h; exact hf) | cases h
  | .bsl _ _ _ _ _, y, v, h, hf => by cases y <;> simp only [wkP] at h <;> first | (cases h; exact hf) | cases h
  | .fn _ _ _, y, v, h, hf => by cases y <;> simp only [wkP] at h <;> first | (cases h; exact hf) | cases h
  | .amap _ _, y, v, h, hf => by cases y <;> simp only [wkP] at h <;> first | (cases h; exact hf) | cases h
  | .ifc _ _, y, v, h, hf => by cases y <;> simp only [wkP] at h <;> first | (cases h; exact hf) | cases h
  | .lit u, .bot, v, h, hf => trivial
  | .lit u, .lit u', v, h, hf => by simp only [wkP] at h; cases h; exact hf
  | .lit u, .agg _, v, h, hf => by simp only [wkP] at h; cases h
  | .lit u, .tup _, v, h, hf => by simp only [wkP] at h; cases h
  | .lit u, .iptr _ _ _ _, v, h, hf => by simp only [wkP] at h; cases h
  | .lit u, .ptr _ _, v, h, hf => by simp only [wkP] at h; cases h
  | .lit u, .bsl _ _ _ _ _, v, h, hf => by simp only [wkP] at h; cases h
  | .lit u, .fn _ _ _, v, h, hf => by simp only [wkP] at h; cases h
  | .lit u, .amap _ _, v, h, hf => by simp only [wkP] at h; cases h
  | .lit u, .ifc _ _, v, h, hf => by simp only [wkP] at h; cases h
  | .agg xs, .bot, v, h, hf => trivial
  | .agg xs, .lit _, v, h, hf => by simp only [wkP] at h; cases h
  | .agg xs, .tup _, v, h, hf => by simp only [wkP] at h; cases h
  | .agg xs, .seq _ _ _, v, h, hf => by simp only [wkP] at h; cases h
  | .agg xs, .iptr _ _ _ _, v, h, hf => by simp only [wkP] at h; cases h
  | .agg xs, .ptr _ _, v, h, hf => by simp only [wkP] at h; cases h
  | .agg xs, .bsl _ _ _ _ _, v, h, hf => by simp only [wkP] at h; cases h
  | .agg xs, .fn _ _ _, v, h, hf => by simp only [wkP] at h; cases h
  | .agg xs, .amap _ _, v, h, hf => by simp only [wkP] at h; cases h
  | .agg xs, .ifc _ _, v, h, hf => by simp only [wkP] at h; cases h
  | .tup xs, .bot, v, h, hf => trivial
  | .tup xs, .lit _, v, h, hf => by simp only [wkP] at h; cases h
  | .tup xs, .agg _, v, h, hf => by simp only [wkP] at h; cases h
  | .tup xs, .seq _ _ _, v, h, hf => by simp only [wkP] at h; cases h
  | .tup xs, .iptr _ _ _ _, v, h, hf => by simp only [wkP] at h; cases h
  | .tup xs, .ptr _ _, v, h, hf => by simp only [wkP] at h; cases h
  | .tup xs, .bsl _ _ _ _ _, v, h, hf => by simp only [wkP] at h; cases h
  | .tup xs, .fn _ _ _, v, h, hf => by simp only [wkP] at h; cases h
  | .tup xs, .amap _ _, v, h, hf => by simp only [wkP] at h; cases h
  | .tup xs, .ifc _ _, v, h, hf => by simp only [wkP] at h; cases h
  | .seq _ _ _, .bot, v, h, hf => trivial
  | .seq _ _ _, .lit _, v, h, hf => by simp only [wkP] at h; cases h
  | .seq _ _ _, .agg _, v, h, hf => by simp only [wkP] at h; cases h
  | .seq _ _ _, .tup _, v, h, hf => by simp only [wkP] at h; cases h
  | .seq _ _ _, .iptr _ _ _ _, v, h, hf => by simp only [wkP] at h; cases h
  | .seq _ _ _, .ptr _ _, v, h, hf => by simp only [wkP] at h; cases h
  | .seq _ _ _, .bsl _ _ _ _ _, v, h, hf => by simp only [wkP] at h; cases h
  | .seq _ _ _, .fn _ _ _, v, h, hf => by simp only [wkP] at h; cases h
  | .seq _ _ _, .amap _ _, v, h, hf => by simp only [wkP] at h; cases h
  | .seq _ _ _, .ifc _ _, v, h, hf => by simp only [wkP] at h; cases h
theorem wkPL_ok {g : Gh} : ∀ (xs ys : List PV) (vs : List Value), wkPL xs ys → FitL g xs vs → FitL g ys vs
  | [], [], _, _, h => h
  | [], _ :: _, _, h, _ => by simp only [wkPL] at h
  | _ :: _, [], _, h, _ => by simp only [wkPL] at h
  | x :: xs, y :: ys, _, h, ⟨v, r, h1, h2, h3⟩ => by
    simp only [wkPL] at h
    exact ⟨v, r, h1, wkP_ok x y v h.1 h2, wkPL_ok xs ys r h.2 h3⟩
end

/-- A slot or a cell told as less. -/
def wkS : SV → SV → Prop
  | .pv x, .pv y => y = .bot ∨ wkP x y
  | .own nw e rows, .own nw' e' rows' => (nw' = true → nw = true) ∧ e = e' ∧ rows = rows'
  | x, y => y = x ∨ y = .pv .bot

theorem wkS_cases {x y : SV} (h : wkS x y) : y = x ∨ y = .pv .bot ∨ (∃ a b, x = .pv a ∧ y = .pv b ∧ wkP a b) ∨ (∃ nw nw' e rows, x = .own nw e rows ∧ y = .own nw' e rows ∧ (nw' = true → nw = true)) := by
  unfold wkS at h
  split at h
  · rename_i a b
    rcases h with rfl | h
    · exact .inr (.inl rfl)
    · exact .inr (.inr (.inl ⟨a, b, rfl, rfl, h⟩))
  · obtain ⟨h1, rfl, rfl⟩ := h
    exact .inr (.inr (.inr ⟨_, _, _, _, rfl, rfl, h1⟩))
  · exact h.imp id .inl

theorem wkS_own {x y : SV} (h : wkS x y) (ho : y.isOwn = true) : x.isOwn = true ∧ (y = x ∨ ∃ nw nw' e rows, x = .own nw e rows ∧ y = .own nw' e rows ∧ (nw' = true → nw = true)) := by
  rcases wkS_cases h with rfl | rfl | ⟨a, b, rfl, rfl, _⟩ | ⟨nw, nw', e, rows, rfl, rfl, h1⟩
  · exact ⟨ho, .inl rfl⟩
  · cases ho
  · cases ho
  · exact ⟨rfl, .inr ⟨_, _, _, _, rfl, rfl, h1⟩⟩

theorem wkS_fit {g : Gh} {w : World} {x y : SV} {v : Value} {o : Option Nat} (h : wkS x y) (hf : SFit g w x v o) : SFit g w y v (if y.isOwn = true then o else none) := by
  rcases wkS_cases h with rfl | rfl | ⟨a, b, rfl, rfl, h1⟩ | ⟨nw, nw', e, rows, rfl, rfl, h1⟩
  · cases y with
    | own _ _ _ => exact hf
    | omap _ _ => exact hf
    | pv _ => exact ⟨rfl, hf.2⟩
    | opt _ _ => exact ⟨rfl, hf.2⟩
    | agl _ => exact ⟨rfl, hf.2⟩
    | _ => rfl
  · exact ⟨rfl, trivial⟩
  · exact ⟨rfl, wkP_ok a b v h1 hf.2⟩
  · exact hf.imp id fun ⟨c, e1, cap, arr, T, vs, a1, a2, a3, a4, a5, a6, a7⟩ => ⟨c, e1, cap, arr, T, vs, a1, a2, a3, a4, a5, a6, fun hh => a7 (h1 hh)⟩

/-- A state told as less. -/
theorem Sim.le {g : Gh} {st st' : St} {a : Act} {w : World} (h : Sim g st a w) (hp : ∀ p, wkS (posGet st p) (posGet st' p)) (hl : st'.h.length = st.h.length) (hb : ∀ b, (st'.h.getD b []).length = (st.h.getD b []).length) : Sim g st' a w := by
  obtain ⟨bl, ho⟩ := h.own
  have hget : ∀ (b : Nat) (xs' : List SV), st'.h[b]? = some xs' → ∃ xs : List SV, st.h[b]? = some xs ∧ xs'.length = xs.length := fun b xs' hx => by
    have hlt : b < st.h.length := by rw [← hl]; exact (List.getElem?_eq_some_iff.1 hx).1
    refine ⟨st.h[b], List.getElem?_eq_getElem hlt, ?_⟩
    have := hb b
    rw [List.getD_eq_getElem?_getD, List.getD_eq_getElem?_getD, hx, List.getElem?_eq_getElem hlt] at this
    simpa using this
  have hal : ∀ {sv : SV} {v : Value}, AlOk g st a w sv v → AlOk g st' a w sv v := by
    intro sv
    induction sv with
    | al p => intro v hv ho'; exact hv (wkS_own (hp p) ho').1
    | loc p lo hi =>
      intro v hv nw e rows he
      rcases (wkS_own (hp p) (by rw [he]; rfl)).2 with e1 | ⟨nw1, nw2, e1, rows1, e2, e3, _⟩
      · exact hv nw e rows (by rw [← e1]; exact he)
      · rw [he] at e3; cases e3; exact hv _ _ _ e2
    | sptr p i k =>
      intro v hv nw e rows he
      rcases (wkS_own (hp p) (by rw [he]; rfl)).2 with e1 | ⟨nw1, nw2, e1, rows1, e2, e3, _⟩
      · exact hv nw e rows (by rw [← e1]; exact he)
      · rw [he] at e3; cases e3; exact hv _ _ _ e2
    | agl xs => intro v hv k x p hk ho'; exact hv k x p hk (wkS_own (hp p) ho').1
    | opt c x ih => intro v hv hc; exact ih (hv hc)
    | _ => intro v _; trivial
  refine { size := h.size, defs := h.defs, env := h.env, n := by rw [hl]; exact h.n, n0 := h.n0, B := h.B, I := h.I, F := h.F, μI := h.μI, μinj := h.μinj,
           own := ⟨fun p => if (posGet st' p).isOwn = true then bl p else none, ?_⟩, al := fun s => ?_ }
  · have hsub : ∀ p c, (if (posGet st' p).isOwn = true then bl p else none) = some c → bl p = some c := fun p c hc => by
      split at hc
      · exact hc
      · cases hc
    refine { slots := fun s => wkS_fit (hp (.slot s)) (ho.slots s), blocks := fun b xs' hx => ?_, inj := fun p q c h1 h2 => ho.inj p q c (hsub p c h1) (hsub q c h2), free := fun p c h1 => ho.free p c (hsub p c h1) }
    obtain ⟨xs, hx2, hlen⟩ := hget b xs' hx
    obtain ⟨arr, T, e1, e2, e3⟩ := ho.blocks b xs hx2
    refine ⟨arr, T, e1, ⟨by rw [hlen]; exact e2.1, e2.2⟩, fun k x hk => ?_⟩
    have hkl : k < xs.length := by rw [← hlen]; exact (List.getElem?_eq_some_iff.1 hk).1
    have g1 : posGet st' (.cell b k) = x := by simp only [posGet, List.getD_eq_getElem?_getD, hx, Option.getD_some, hk]
    have g2 : posGet st (.cell b k) = xs[k] := by simp only [posGet, List.getD_eq_getElem?_getD, hx2, Option.getD_some, List.getElem?_eq_getElem hkl]
    have h4 := hp (.cell b k)
    rw [g1, g2] at h4
    obtain ⟨c1, c2⟩ := e3 k xs[k] (List.getElem?_eq_getElem hkl)
    rw [g1]
    refine ⟨?_, wkS_fit h4 c2⟩
    rcases wkS_cases h4 with e | e | ⟨a1, b1, _, e, _⟩ | ⟨_, _, _, _, _, e, _⟩
    · rw [e]; exact c1
    · rw [e]; rfl
    · rw [e]; rfl
    · rw [e]; rfl
  · have h4 := hp (.slot s)
    simp only [posGet] at h4
    have h5 := h.al s
    rcases wkS_cases h4 with e | e | ⟨a1, b1, _, e, _⟩ | ⟨_, _, _, _, _, e, _⟩
    · rw [e]; exact hal h5
    · rw [e]; trivial
    · rw [e]; trivial
    · rw [e]; trivial

def wkLs (t : List (Nat × SV)) : List (Nat × SV) → Prop
  | [] => True
  | (s, v) :: r => wkS (look t s) v ∧ wkLs t r
def wkCs : List SV → List SV → Prop
  | [], [] => True
  | x :: xs, y :: ys => wkS x y ∧ wkCs xs ys
  | _, _ => False
def wkHs : List (List SV) → List (List SV) → Prop
  | [], [] => True
  | x :: xs, y :: ys => wkCs x y ∧ wkHs xs ys
  | _, _ => False
theorem wkS_bot (x : SV) : wkS x (.pv .bot) := by cases x <;> simp [wkS]
mutual
theorem wkP_refl : ∀ x : PV, wkP x x
  | .agg xs => by simp only [wkP]; exact wkPL_refl xs
  | .tup xs => by simp only [wkP]; exact wkPL_refl xs
  | .seq _ _ _ => by simp [wkP]
  | .bot => by simp [wkP]
  | .lit _ => by simp [wkP]
  | .iptr _ _ _ _ => by simp [wkP]
  | .ptr _ _ => by simp [wkP]
  | .bsl _ _ _ _ _ => by simp [wkP]
  | .fn _ _ _ => by simp [wkP]
  | .amap _ _ => by simp [wkP]
  | .ifc _ _ => by simp [wkP]
theorem wkPL_refl : ∀ xs : List PV, wkPL xs xs
  | [] => by simp [wkPL]
  | x :: xs => by simp only [wkPL]; exact ⟨wkP_refl x, wkPL_refl xs⟩
end
theorem wkS_refl (x : SV) : wkS x x := by
  cases x with
  | pv x => exact .inr (wkP_refl x)
  | own _ _ _ => exact ⟨id, rfl, rfl⟩
  | _ => exact .inl rfl
theorem wkLs_ok {t : List (Nat × SV)} : ∀ {t1 : List (Nat × SV)}, wkLs t t1 → ∀ s, wkS (look t s) (look t1 s)
  | [], _, s => wkS_bot _
  | (j, v) :: r, h, s => by
    simp only [look]
    by_cases e : j = s
    · subst e; rw [if_pos rfl]; exact h.1
    · rw [if_neg e]; exact wkLs_ok h.2 s
theorem wkCs_ok : ∀ {xs ys : List SV}, wkCs xs ys → ys.length = xs.length ∧ ∀ k, wkS (xs.getD k (.pv .bot)) (ys.getD k (.pv .bot))
  | [], [], _ => ⟨rfl, fun k => by simp; exact wkS_bot _⟩
  | [], _ :: _, h => by simp only [wkCs] at h
  | _ :: _, [], h => by simp only [wkCs] at h
  | x :: xs, y :: ys, h => by
    simp only [wkCs] at h
    obtain ⟨h1, h2⟩ := wkCs_ok h.2
    refine ⟨by simp [h1], fun k => ?_⟩
    cases k with
    | zero => exact h.1
    | succ k => simpa using h2 k
theorem wkHs_ok : ∀ {xs ys : List (List SV)}, wkHs xs ys → ys.length = xs.length ∧ ∀ b, (ys.getD b []).length = (xs.getD b []).length ∧ ∀ k, wkS ((xs.getD b []).getD k (.pv .bot)) ((ys.getD b []).getD k (.pv .bot))
  | [], [], _ => ⟨rfl, fun b => ⟨rfl, fun k => by simp; exact wkS_bot _⟩⟩
  | [], _ :: _, h => by simp only [wkHs] at h
  | _ :: _, [], h => by simp only [wkHs] at h
  | x :: xs, y :: ys, h => by
    simp only [wkHs] at h
    obtain ⟨h1, h2⟩ := wkHs_ok h.2
    refine ⟨by simp [h1], fun b => ?_⟩
    cases b with
    | zero => exact wkCs_ok h.1
    | succ b => simpa using h2 b
theorem Weak.le {k0 : Nat} {st : St} {t1 : List (Nat × SV)} {h1 : List (List SV)} (ht : wkLs st.t t1) (hh : wkHs st.h h1) : Weak k0 st ⟨t1, h1⟩ := fun g _ _ _ hs => by
  obtain ⟨hl, hk⟩ := wkHs_ok hh
  refine ⟨g, hs.refl_to, hs.le (fun p => ?_) hl fun b => (hk b).1⟩
  cases p with
  | slot s => exact wkLs_ok ht s
  | cell b k => exact (hk b).2 k
theorem Weak.les {k0 : Nat} {st : St} {t1 : List (Nat × SV)} (ht : wkLs st.t t1) : Weak k0 st ⟨t1, st.h⟩ := fun g _ _ _ hs => by
  refine ⟨g, hs.refl_to, hs.le (fun p => ?_) rfl fun b => rfl⟩
  cases p with
  | slot s => exact wkLs_ok ht s
  | cell b k => exact wkS_refl _

/-! ### Calls -/
theorem AMut.args {P : Program} {f : FuncId} {xs ys : List PV} {h : List (List SV)} {R : SV → List (List SV) → Prop} (hm : AMut P f ys h R) (hw : wkPL xs ys) : AMut P f xs h R :=
  ⟨hm.1, fun g st a w vs hs hh hv => hm.2 g st a w vs hs hh (wkPL_ok _ _ _ hw hv)⟩
theorem AMut.res {P : Program} {f : FuncId} {args : List PV} {h : List (List SV)} {R R' : SV → List (List SV) → Prop} (hm : AMut P f args h R) (hr : ∀ r h', R r h' → ∃ x y, r = .pv x ∧ wkP x y ∧ R' (.pv y) h') : AMut P f args h R' :=
  ⟨hm.1, fun g st a w vs hs hh hv => (hm.2 g st a w vs hs hh hv).mono fun e w' ⟨v, r, h', g', e1, e2, e3, e4⟩ => by
    obtain ⟨x, y, rfl, hw, hR⟩ := hr r h' e2
    refine ⟨v, .pv y, h', g', e1, hR, e3, fun d hd => (e4 d hd).le (fun p => ?_) ?_ ?_⟩
    · cases d with
      | none => exact wkS_refl _
      | some d =>
        cases p with
        | cell b k => exact wkS_refl _
        | slot s =>
          simp only [posGet, putR, putD, St.put, look]
          split
          · exact .inr hw
          · exact wkS_refl _
    · cases d <;> rfl
    · intro b; cases d <;> rfl⟩

/-! ### What fits names only blocks that there are -/
section
variable {g : Gh}
mutual
theorem Fit.bel : ∀ (x : PV) (v : Value), Fit g x v → x.bel g.n
  | .bot, _, _ => trivial
  | .lit _, _, _ => trivial
  | .agg xs, _, ⟨vs, _, h2⟩ => FitL.bel xs _ h2
  | .tup xs, _, ⟨vs, _, h2⟩ => FitL.bel xs _ h2
  | .seq _ e [], _, _ => trivial
  | .seq _ e (r :: rows), _, ⟨p, cap, _, _, h2⟩ => by
    rcases h2 with h2 | ⟨c, off, arr, T, fz, vs, a, b, n, q, _⟩
    · cases h2
    · exact FitR.bel e (r :: rows) vs q
  | .iptr e rows _ _, _, ⟨c, off, arr, T, fz, vs, _, _, q, _⟩ => FitR.bel e rows vs q
  | .ptr b _, _, ⟨h1, _⟩ => h1
  | .bsl b _ _ _ _, _, ⟨h1, _⟩ => h1
  | .fn _ first cap, _, ⟨a, b, _, h2, h3⟩ => ⟨FitL.bel first _ h2, FitL.bel cap _ h3⟩
  | .amap _ es, _, h => by
    rcases h with ⟨rfl, _⟩ | ⟨r, en, ck, _, _, _, q⟩
    · trivial
    · exact FitE.bel es _ q
  | .ifc _ x, _, ⟨y, _, h2⟩ => Fit.bel x y h2
theorem FitL.bel : ∀ (xs : List PV) (vs : List Value), FitL g xs vs → belowL g.n xs
  | [], _, _ => trivial
  | x :: xs, _, ⟨v, r, _, h2, h3⟩ => ⟨Fit.bel x v h2, FitL.bel xs r h3⟩
theorem FitR.bel (e : Nat) : ∀ (rows : List (List PV)) (vs : List Value), FitR g e rows vs → belowR g.n rows
  | [], _, _ => trivial
  | row :: rows, _, ⟨v1, v2, _, _, h3, h4⟩ => ⟨FitL.bel row v1 h3, FitR.bel e rows v2 h4⟩
theorem FitE.bel : ∀ (es : List (Int × PV)) (en : List MapEntry), FitE g es en → belowE g.n es
  | [], _, _ => trivial
  | (_, x) :: es, _, ⟨m, r, _, _, h3, h4⟩ => ⟨Fit.bel x m.val h3, FitE.bel es r h4⟩
end
end
theorem SFit.bel {g : Gh} {w : World} {x : SV} {v : Value} {o : Option Nat} (hc : x.inCell = true) (h : SFit g w x v o) : x.bel g.n := by
  cases x with
  | pv x => exact Fit.bel x v h.2
  | own nw e rows =>
    rcases h with ⟨_, rfl, _⟩ | ⟨c, _, cap, arr, T, vs, _, _, _, _, q, _⟩
    · trivial
    · exact FitR.bel e rows vs q
  | omap nw es => obtain ⟨c, _, en, ck, _, _, q, _⟩ := h; exact FitE.bel es _ q
  | _ => cases hc
theorem belowC_of {k : Nat} : ∀ {l : List SV}, (∀ x ∈ l, x.bel k) → belowC k l
  | [], _ => trivial
  | x :: l, h => ⟨h x (List.mem_cons_self), belowC_of fun y hy => h y (List.mem_cons_of_mem _ hy)⟩
theorem belowH_of {k : Nat} : ∀ {l : List (List SV)}, (∀ xs ∈ l, ∀ x ∈ xs, x.bel k) → belowH k l
  | [], _ => trivial
  | x :: l, h => ⟨belowC_of (h x (List.mem_cons_self)), belowH_of fun y hy => h y (List.mem_cons_of_mem _ hy)⟩
theorem Sim.belH {g : Gh} {st : St} {a : Act} {w : World} (h : Sim g st a w) : belowH g.n st.h := by
  obtain ⟨bl, hb⟩ := h.own
  refine belowH_of fun xs hxs x hx => ?_
  obtain ⟨b, hb1⟩ := List.mem_iff_getElem?.1 hxs
  obtain ⟨k, hk⟩ := List.mem_iff_getElem?.1 hx
  obtain ⟨arr, T, _, _, e3⟩ := hb.blocks b xs hb1
  obtain ⟨c1, c2⟩ := e3 k x hk
  exact c2.bel c1

/-- Results of a call that leaves the caller's blocks as they were; its own are let go. -/
def retXP (P : Program) (rs : List ResultVar) (h : List (List SV)) (R : SV → Prop) (st : St) : Prop :=
  (resL P st rs).2.2 ∧ (resL P st rs).2.1.h.take h.length = h ∧ (resOut (resL P st rs).1).bel h.length ∧ R (.pv (resOut (resL P st rs).1))
theorem amutXP {P : Program} (bad : List Nat) {f : FuncId} {fn : Func} {c : Code} {args : List PV} {h : List (List SV)} {R : SV → Prop} (rs : List ResultVar) (hmo : P.follows .mixedOrders = true) (hf : P.funcs[f]? = some fn) (hcall : callable P f = true) (hb : fn.body = some c)
    (hr : fn.results = rs.toArray) (hok : okC fn.ntmps bad c = true) (hn : args.length ≤ fn.ntmps) (hA : AC P h.length bad c (endQ (retXP P rs h R)) ⟨argT 0 args, h⟩) : AMut P f args h (fun r h' => h' = h ∧ R r) := by
  refine ⟨hcall, fun g st a w vs hs hh hv => ?_⟩
  have hbel : belowH h.length h := by have := hs.belH; rwa [hs.n, hh] at this
  have key := amut_of (R := fun r h' => h' = h ∧ R r) hmo hf hcall hb hok hn hA fun g' st' a' w' hk hn0 s' => ?_
  · exact key.2 g st a w vs hs hh hv
  · obtain ⟨k1, k2, k3, k4⟩ := hk
    obtain ⟨g2, t2, l2, n2, s2, vs2, e2, f2⟩ := resL_ok rs s' k1
    obtain ⟨v, e3, f3⟩ := results_run hr (resL_len rs st') e2 f2
    have s3 := s2.weak (st' := ⟨[], (resL P st' rs).2.1.h⟩) rfl fun s => .inr rfl
    obtain ⟨t4, s4⟩ := Sim.dropB (st := ⟨[], (resL P st' rs).2.1.h⟩) (h1 := h) k2 (ht := trivial) hbel (hs := s3) (h0 := by rw [t2.n0]; exact hn0)
    obtain ⟨bl4, hb4⟩ := s4.own
    exact ⟨v, _, _, _, bl4, none, e3, t2.trans t4, s4, hb4, ⟨rfl, k4⟩, ⟨rfl, Fit.below _ _ k3 f3⟩, rfl, fun c hc => by cases hc⟩

/-- The same, the result told as less. -/
theorem amutXW {P : Program} (bad : List Nat) {f : FuncId} {fn : Func} {c : Code} {args : List PV} {h : List (List SV)} {y : PV} (rs : List ResultVar) (hmo : P.follows .mixedOrders = true) (hf : P.funcs[f]? = some fn) (hcall : callable P f = true) (hb : fn.body = some c)
    (hr : fn.results = rs.toArray) (hok : okC fn.ntmps bad c = true) (hn : args.length ≤ fn.ntmps) (hA : AC P h.length bad c (endQ (retXP P rs h (fun r => ∃ x, r = .pv x ∧ wkP x y))) ⟨argT 0 args, h⟩) : AMut P f args h (fun r h' => h' = h ∧ r = .pv y) :=
  (amutXP bad rs hmo hf hcall hb hr hok hn hA).res fun r h' ⟨h1, x, h2, h3⟩ => ⟨x, y, h2, h3, h1, rfl⟩

attribute [simp] wkP wkPL wkS wkLs wkCs wkHs retXP
end Go.AX

namespace Go.AX

/-- A call that leaves the blocks h1; its own are let go. -/
theorem amutXD {P : Program} (bad : List Nat) {f : FuncId} {fn : Func} {c : Code} {args : List PV} {h : List (List SV)} {R : SV → Prop} (rs : List ResultVar) (h1 : List (List SV)) (hl : h.length ≤ h1.length) (hbl : belowH h.length h → belowH h1.length h1) (hmo : P.follows .mixedOrders = true) (hf : P.funcs[f]? = some fn) (hcall : callable P f = true) (hb : fn.body = some c)
    (hr : fn.results = rs.toArray) (hok : okC fn.ntmps bad c = true) (hn : args.length ≤ fn.ntmps) (hA : AC P h.length bad c (endQ (retXP P rs h1 R)) ⟨argT 0 args, h⟩) : AMut P f args h (fun r h' => h' = h1 ∧ R r) := by
  refine ⟨hcall, fun g st a w vs hs hh hv => ?_⟩
  have hbel : belowH h1.length h1 := hbl (by have := hs.belH; rwa [hs.n, hh] at this)
  have key := amut_of (R := fun r h' => h' = h1 ∧ R r) hmo hf hcall hb hok hn hA fun g' st' a' w' hk hn0 s' => ?_
  · exact key.2 g st a w vs hs hh hv
  · obtain ⟨k1, k2, k3, k4⟩ := hk
    obtain ⟨g2, t2, l2, n2, s2, vs2, e2, f2⟩ := resL_ok rs s' k1
    obtain ⟨v, e3, f3⟩ := results_run hr (resL_len rs st') e2 f2
    have s3 := s2.weak (st' := ⟨[], (resL P st' rs).2.1.h⟩) rfl fun s => .inr rfl
    obtain ⟨t4, s4⟩ := Sim.dropB (st := ⟨[], (resL P st' rs).2.1.h⟩) (h1 := h1) k2 (ht := trivial) hbel (hs := s3) (h0 := by rw [t2.n0]; exact Nat.le_trans hn0 hl)
    obtain ⟨bl4, hb4⟩ := s4.own
    exact ⟨v, _, _, _, bl4, none, e3, t2.trans t4, s4, hb4, ⟨rfl, k4⟩, ⟨rfl, Fit.below _ _ k3 f3⟩, rfl, fun c hc => by cases hc⟩

theorem Weak.keep {k0 : Nat} {st : St} {t1 : List (Nat × SV)} {h1 : List (List SV)} (h : wkL st.t t1) (hh : st.h = h1) : Weak k0 st ⟨t1, h1⟩ := hh ▸ Weak.slots h

/-- nil in a cell, taken for a slice of one's own. -/
theorem Weak.nilCell {k0 : Nat} {st : St} {b k : Nat} {xs : List SV} (e : Nat) (nw : Bool) (hx : st.h[b]? = some xs) (hk : xs[k]? = some (.pv (.lit (.slice none 0 0)))) : Weak k0 st ⟨killL (qCells b k 1) st.t, st.h.set b (xs.set k (.own nw e []))⟩ := fun g a w _ hs => by
  obtain ⟨bl, hb⟩ := hs.own
  have hkl : k < xs.length := (List.getElem?_eq_some_iff.1 hk).1
  obtain ⟨arr, T, e1, e2, e3⟩ := hb.blocks b xs hx
  have h4 := (e3 k _ hk).2
  have hv : posVal g a w (.cell b k) = .slice none 0 0 := by
    simp only [posVal, e1]; exact h4.2
  exact ⟨g, hs.refl_to, (hs.adopt hb hx hkl (sv := .own nw e []) (o := none) (.inl ⟨rfl, rfl, hv⟩) rfl (fun c hc => by cases hc)).1⟩

end Go.AX

namespace Go.AX

mutual
theorem PV.bel_up {k k' : Nat} (hk : k ≤ k') : ∀ x : PV, x.bel k → x.bel k'
  | .bot, _ => trivial
  | .lit _, _ => trivial
  | .agg xs, h => belowL_up hk xs h
  | .tup xs, h => belowL_up hk xs h
  | .seq _ _ rows, h => belowR_up hk rows h
  | .iptr _ rows _ _, h => belowR_up hk rows h
  | .ptr _ _, h => Nat.lt_of_lt_of_le h hk
  | .bsl _ _ _ _ _, h => Nat.lt_of_lt_of_le h hk
  | .fn _ first cap, h => ⟨belowL_up hk first h.1, belowL_up hk cap h.2⟩
  | .amap _ es, h => belowE_up hk es h
  | .ifc _ x, h => PV.bel_up hk x h
theorem belowL_up {k k' : Nat} (hk : k ≤ k') : ∀ xs : List PV, belowL k xs → belowL k' xs
  | [], _ => trivial
  | x :: xs, h => ⟨PV.bel_up hk x h.1, belowL_up hk xs h.2⟩
theorem belowR_up {k k' : Nat} (hk : k ≤ k') : ∀ xs : List (List PV), belowR k xs → belowR k' xs
  | [], _ => trivial
  | x :: xs, h => ⟨belowL_up hk x h.1, belowR_up hk xs h.2⟩
theorem belowE_up {k k' : Nat} (hk : k ≤ k') : ∀ xs : List (Int × PV), belowE k xs → belowE k' xs
  | [], _ => trivial
  | (_, x) :: xs, h => ⟨PV.bel_up hk x h.1, belowE_up hk xs h.2⟩
end
theorem SV.bel_up {k k' : Nat} (hk : k ≤ k') : ∀ x : SV, x.bel k → x.bel k'
  | .pv x, h => PV.bel_up hk x h
  | .own _ _ rows, h => belowR_up hk rows h
  | .omap _ es, h => belowE_up hk es h
  | .opt _ x, h => SV.bel_up hk x h
  | .agl xs, h => belowL_up hk _ h
  | .al _, _ => trivial
  | .loc _ _ _, _ => trivial
  | .sptr _ _ _, _ => trivial
theorem belowC_up {k k' : Nat} (hk : k ≤ k') : ∀ xs : List SV, belowC k xs → belowC k' xs
  | [], _ => trivial
  | x :: xs, h => ⟨SV.bel_up hk x h.1, belowC_up hk xs h.2⟩
theorem belowH_up {k k' : Nat} (hk : k ≤ k') : ∀ xs : List (List SV), belowH k xs → belowH k' xs
  | [], _ => trivial
  | x :: xs, h => ⟨belowC_up hk x h.1, belowH_up hk xs h.2⟩
theorem belowH_app {k : Nat} : ∀ {a b : List (List SV)}, belowH k a → belowH k b → belowH k (a ++ b)
  | [], _, _, h => h
  | _ :: _, _, h, h' => ⟨h.1, belowH_app h.2 h'⟩
/-- The blocks that are there name only such. -/
theorem AMut.below {P : Program} {f : FuncId} {args : List PV} {h : List (List SV)} {R : SV → List (List SV) → Prop} (hc : callable P f = true) (hb : belowH h.length h → AMut P f args h R) : AMut P f args h R :=
  ⟨hc, fun g st a w vs hs hh hv => (hb (by have := hs.belH; rwa [hs.n, hh] at this)).2 g st a w vs hs hh hv⟩
/-- Rows, told less of. -/
def wkRR : List (List PV) → List (List PV) → Prop
  | [], [] => True
  | x :: xs, y :: ys => wkPL x y ∧ wkRR xs ys
  | _, _ => False
theorem wkPL_len : ∀ {a b : List PV}, wkPL a b → a.length = b.length
  | [], [], _ => rfl
  | [], _ :: _, h => by simp [wkPL] at h
  | _ :: _, [], h => by simp [wkPL] at h
  | x :: a, y :: b, h => by
    simp only [wkPL] at h
    rw [List.length_cons, List.length_cons, wkPL_len h.2]
theorem wkRR_len : ∀ {a b : List (List PV)}, wkRR a b → a.length = b.length
  | [], [], _ => rfl
  | [], _ :: _, h => h.elim
  | _ :: _, [], h => h.elim
  | x :: a, y :: b, h => by rw [List.length_cons, List.length_cons, wkRR_len h.2]
theorem FitR.wk {g : Gh} {e : Nat} : ∀ {a b : List (List PV)} {vs : List Value}, wkRR a b → FitR g e a vs → FitR g e b vs
  | [], [], _, _, h => h
  | [], _ :: _, _, h, _ => h.elim
  | _ :: _, [], _, h, _ => h.elim
  | x :: a, y :: b, _, h, ⟨v1, v2, h1, ⟨h2, h2'⟩, h3, h4⟩ => ⟨v1, v2, h1, ⟨by rw [← wkPL_len h.1]; exact h2, h2'⟩, wkPL_ok _ _ _ h.1 h3, FitR.wk h.2 h4⟩
def wkA : PV → PV → Prop
  | .seq nw e rows, .seq nw' e' rows' => (nw' = true → nw = true) ∧ e = e' ∧ wkRR rows rows'
  | x, y => wkP x y
theorem wkA_ok {g : Gh} {x y : PV} {v : Value} (h : wkA x y) (hf : Fit g x v) : Fit g y v := by
  unfold wkA at h
  split at h
  · rename_i nw e rows nw' e' rows'
    obtain ⟨hn, rfl, hr⟩ := h
    obtain ⟨p, cap, h1, hc, h2⟩ := hf
    refine ⟨p, cap, by rw [← wkRR_len hr]; exact h1, by rw [← wkRR_len hr]; exact hc, ?_⟩
    rcases h2 with h2 | ⟨c, off, arr, T, fz, vs, a, b, n, r, q⟩
    · subst h2
      cases rows' with
      | nil => exact .inl rfl
      | cons _ _ => exact hr.elim
    · exact .inr ⟨c, off, arr, T, fz, vs, a, b, fun hh => n (hn hh), FitR.wk hr r, q⟩
  · exact wkP_ok _ _ _ h hf
def wkAL : List PV → List PV → Prop
  | [], [] => True
  | x :: xs, y :: ys => wkA x y ∧ wkAL xs ys
  | _, _ => False
theorem wkAL_ok {g : Gh} : ∀ {xs ys : List PV} {vs : List Value}, wkAL xs ys → FitL g xs vs → FitL g ys vs
  | [], [], _, _, h => h
  | [], _ :: _, _, h, _ => h.elim
  | _ :: _, [], _, h, _ => h.elim
  | _ :: _, _ :: _, _, h, ⟨v, r, h1, h2, h3⟩ => ⟨v, r, h1, wkA_ok h.1 h2, wkAL_ok h.2 h3⟩
theorem AMut.argsA {P : Program} {f : FuncId} {xs ys : List PV} {h : List (List SV)} {R : SV → List (List SV) → Prop} (hm : AMut P f ys h R) (hw : wkAL xs ys) : AMut P f xs h R :=
  ⟨hm.1, fun g st a w vs hs hh hv => hm.2 g st a w vs hs hh (wkAL_ok hw hv)⟩
/-- A call that makes blocks, handed slices of the caller's own, which are then its own no more. -/
theorem CallK.introE {P : Program} {st : St} {ok : Prop} {f k : FuncId} {pa p q pa1 : List PV} {h1 : List (List SV)} {d : Option Tmp} {K : St → Prop} {x : Operand} {args : Array Operand} {R : SV → List (List SV) → Prop}
    (hA : AMut P f pa1 h1 R) (hg : gc st x) (hc : calleeOf st x = some (f, p, q)) (hv : (embL st args.toList).2.2) (hh : (embL st args.toList).2.1.h = h1) (hw : wkAL (p ++ ((embL st args.toList).1 ++ q)) pa1)
    (hK : ∀ r h', R r h' → K (putR d r ⟨killL qCell (embL st args.toList).2.1.t, h'⟩)) : CallK P st ok k pa d K x args := by
  subst hh
  exact CallK.introX fun o tys ho hd g a w hs hN K' Q hK' => mut_wp hs o x args tys f p q ho hg hc hv (hd ▸ hN) (hd ▸ ⟨R, hA.argsA hw, hK⟩) hK'
/-- A result, told less of. -/
theorem APure.wk {P : Program} {f : FuncId} {args : List PV} {R R' : SV → Prop} (h : APure P f args R) (hr : ∀ r, R r → ∃ x y, r = .pv x ∧ wkP x y ∧ R' (.pv y)) : APure P f args R' :=
  ⟨h.1, fun w vs hv => (h.2 w vs hv).mono fun e w' ⟨v, r, g', o, h1, h2, h3, h4, h5, h6⟩ => by
    obtain ⟨x, y, rfl, hw, hR⟩ := hr r h2
    exact ⟨v, .pv y, g', o, h1, hR, h3, ⟨h4.1, wkP_ok x y v hw h4.2⟩, rfl, h6⟩⟩
end Go.AX
