/-
  AX, part D: the other operations that only read; what any of them yields.
-/
import Derived.Test.YtipaihpchnlkfaaAxC
namespace Go.AX

/-! ### Small ones -/
def unV (op : UnOp) (x : SV) : SV × Prop :=
  match op with
  | .not => (.bool (!asB x), isB x)
  | .neg => (.int (asK x) ((asK x).wrap (0 - asI x)), isI x)
  | _ => (.pv .bot, False)

theorem unV_ok {P : Program} {st : St} (o : Oper) (op : UnOp) (t : TypeId) (x : Operand) (ho : o.op = .unOp op t x) :
    Pop P st o ((unV op (mv st x)).1, gc st x ∧ (unV op (mv st x)).2) := by
  intro g a w h ⟨hx, hd⟩
  unfold unV at hd ⊢
  simp only [execOp, ho]
  cases op <;> simp only at hd ⊢
  case not =>
    rw [bool_ok h hx hd]
    simp only [Op.unary, Sem.run_bind, Sem.run_pure, Result.andThen_ok]
    exact ⟨_, rfl, ⟨rfl, rfl⟩, trivial⟩
  case neg =>
    rw [int_ok h hx hd]
    simp only [Op.unary, Op.intArith, Sem.run_bind, Sem.run_pure, Result.andThen_ok]
    exact ⟨_, rfl, ⟨rfl, rfl⟩, trivial⟩
  all_goals exact hd.elim

theorem mvV_ok {P : Program} {st : St} (o : Oper) (x : Operand) (ho : o.op = .move x ∨ o.op = .assign x) :
    Pop P st o (mv st x, gc st x) := by
  intro g a w h hx
  obtain ⟨hf, ha⟩ := mv_ok h x hx
  exact ⟨a.eval x, by rcases ho with ho | ho <;> simp [execOp, ho], hf, ha⟩

/-- The two arms of '&&' and '||'. -/
def pickV (c x y : SV) : SV × Prop :=
  (.bool (bif asB c then asB x else asB y), isB c ∧ (asB c = true → isB x) ∧ (asB c = false → isB y))

theorem pickV_ok {P : Program} {st : St} (o : Oper) (c x y : Operand) (ho : o.op = .pick c x y) :
    Pop P st o ((pickV (mv st c) (mv st x) (mv st y)).1, gc st c ∧ (asB (mv st c) = true → gc st x) ∧ (asB (mv st c) = false → gc st y) ∧ (pickV (mv st c) (mv st x) (mv st y)).2) := by
  intro g a w h ⟨hc, hx, hy, hd⟩
  obtain ⟨h1, h2, h3⟩ := hd
  simp only [execOp, ho]
  rw [bool_ok h hc h1]
  simp only [asBool, Sem.run_bind, Sem.run_pure, Result.andThen_ok]
  cases hb : asB (mv st c) with
  | true =>
    refine ⟨_, rfl, ⟨rfl, ?_⟩, trivial⟩
    simp only [if_true, bool_ok h (hx hb) (h2 hb), hb, cond_true]; rfl
  | false =>
    refine ⟨_, rfl, ⟨rfl, ?_⟩, trivial⟩
    simp only [Bool.false_eq_true, if_false, bool_ok h (hy hb) (h3 hb), hb, cond_false]; rfl

def extV (i : Nat) (x : SV) : SV × Prop :=
  match x with
  | .pv (.tup xs) => (.pv (xs.getD i .bot), i < xs.length)
  | _ => (.pv .bot, False)

theorem extV_ok {P : Program} {st : St} (o : Oper) (x : Operand) (i : Nat) (ho : o.op = .extract x i) :
    Pop P st o ((extV i (mv st x)).1, gc st x ∧ (extV i (mv st x)).2) := by
  intro g a w h ⟨hx, hd⟩
  obtain ⟨hf, _⟩ := mv_ok h x hx
  unfold extV at hd ⊢
  split at hd
  · rename_i xs hm
    rw [hm] at hf
    simp only [hm] at hd ⊢
    obtain ⟨_, vs, hv, hl⟩ := hf
    obtain ⟨v, hv', hf'⟩ := hl.get i _ (List.getElem?_eq_getElem hd)
    refine ⟨v, ?_, ⟨rfl, by simpa [List.getD, List.getElem?_eq_getElem hd] using hf'⟩, trivial⟩
    have : vs[i]? = some v := by rw [← Array.getElem?_toList]; exact hv'
    simp [execOp, ho, hv, Instr.extract, this]
  · cases hd

/-- A part of a struct's value. -/
def pcells : PV → List PV
  | .agg xs => xs
  | .lit (.agg vs) => vs.toList.map .lit
  | x => [x]

def fldInfo (P : Program) (t : TypeId) (f : Nat) : Option (Nat × Bool × Nat) :=
  match P.underlying t with
  | some (.struct fs) => match fs[f]? with
    | some x => (ldInfo P x.type).map fun p => (x.offset, p)
    | none => none
  | _ => none

def isAggV : SV → Prop
  | .pv (.agg _) => True
  | .pv (.lit (.agg _)) => True
  | _ => False

def partV (P : Program) (t : TypeId) (f : Nat) (x : SV) : SV × Prop :=
  match fldInfo P t f with
  | some (off, false, _) => (.pv ((pcells (toPv x)).getD off .bot), isAggV x ∧ off < (pcells (toPv x)).length)
  | some (off, true, n) => (.pv (.agg (((pcells (toPv x)).drop off).take n)), isAggV x ∧ off + n ≤ (pcells (toPv x)).length)
  | none => (.pv .bot, False)

theorem agg_ok {g : Gh} {w : World} {x : SV} {v : Value} (h : SFit g w x v none) (hs : isAggV x) : ∃ vs : Array Value, v = .agg vs ∧ FitL g (pcells (toPv x)) vs.toList := by
  unfold isAggV at hs
  split at hs
  · obtain ⟨_, vs, rfl, hl⟩ := h; exact ⟨vs, rfl, hl⟩
  · rename_i vs
    have h2 : v = .agg vs := h.2
    subst h2
    refine ⟨vs, rfl, ?_⟩
    show FitL g (vs.toList.map PV.lit) vs.toList
    induction vs.toList with
    | nil => simp [FitL]
    | cons u us ih => exact ⟨u, us, rfl, rfl, ih⟩
  · cases hs

theorem run_part {P : Program} {t : TypeId} {n : Nat} (w : World) (cs : Array Value) (off : Nat) (h : ldInfo P t = some (true, n)) :
    (part t cs off).run P w = .ok (.agg (cs.extract off (off + n))) w := by
  obtain ⟨h1, h2⟩ := run_isAgg h w
  simp [part, h1, h2]
theorem run_part1 {P : Program} {t : TypeId} {n : Nat} (w : World) (cs : Array Value) (off : Nat) (v : Value) (h : ldInfo P t = some (false, n)) (hv : cs[off]? = some v) :
    (part t cs off).run P w = .ok v w := by
  obtain ⟨h1, _⟩ := run_isAgg h w
  simp [part, h1, hv]

theorem partV_ok {P : Program} {st : St} (o : Oper) (t : TypeId) (x : Operand) (f : Nat) (ho : o.op = .field t x f) :
    Pop P st o ((partV P t f (mv st x)).1, gc st x ∧ (partV P t f (mv st x)).2) := by
  intro g a w h ⟨hx, hd⟩
  obtain ⟨hf, _⟩ := mv_ok h x hx
  unfold partV at hd ⊢
  cases hi : fldInfo P t f with
  | none => rw [hi] at hd; cases hd
  | some q =>
    obtain ⟨off, b, n⟩ := q
    rw [hi] at hd
    unfold fldInfo at hi
    split at hi
    case h_2 => cases hi
    rename_i fs hu
    split at hi
    case h_2 => cases hi
    rename_i fd hfd
    simp only [Option.map_eq_some_iff, Prod.mk.injEq] at hi
    obtain ⟨q, hl, rfl, hq⟩ := hi
    rw [hq] at hl
    clear hq
    cases b with
    | false =>
      simp only at hd ⊢
      obtain ⟨vs, hv, hfl⟩ := agg_ok hf hd.1
      obtain ⟨v, hv', hf'⟩ := hfl.get _ _ (List.getElem?_eq_getElem hd.2)
      refine ⟨v, ?_, ⟨rfl, by simpa [List.getD, List.getElem?_eq_getElem hd.2] using hf'⟩, trivial⟩
      simp [execOp, ho, hv, Instr.field, run_underlying hu, hfd, asAgg, run_part1 w vs fd.offset v hl (by rw [← Array.getElem?_toList]; exact hv')]
    | true =>
      simp only at hd ⊢
      obtain ⟨vs, hv, hfl⟩ := agg_ok hf hd.1
      refine ⟨.agg (vs.extract fd.offset (fd.offset + n)), ?_, ⟨rfl, _, rfl, ?_⟩, trivial⟩
      · simp [execOp, ho, hv, Instr.field, run_underlying hu, hfd, asAgg, run_part w vs fd.offset hl]
      · have := (hfl.drop fd.offset).take n
        rw [Array.toList_extract]
        simpa [List.extract] using this

/-- Between integer kinds. -/
def cvtK (P : Program) (t : TypeId) : Option IntKind :=
  match P.underlying t with
  | some (.int k) => some k
  | _ => none
def cvtV (P : Program) (src dst : TypeId) (x : SV) : SV × Prop :=
  match cvtK P src, cvtK P dst with
  | some _, some k => (.int k (k.wrap (asI x)), isI x)
  | _, _ => match P.underlying src, P.underlying dst with
    | some .string, some .string => (.pv (.lit (.string (asS x))), isS x)
    | _, _ => (.pv .bot, False)

theorem cvtV_ok {P : Program} {st : St} (o : Oper) (src dst : TypeId) (x : Operand) (ho : o.op = .convert src dst x) :
    Pop P st o ((cvtV P src dst (mv st x)).1, gc st x ∧ (cvtV P src dst (mv st x)).2) := by
  intro g a w h ⟨hx, hd⟩
  unfold cvtV at hd ⊢
  split at hd
  · rename_i k1 k h1 h2
    simp only [h1, h2] at hd ⊢
    unfold cvtK at h1 h2
    split at h1
    case h_2 => cases h1
    rename_i hu1
    split at h2
    case h_2 => cases h2
    rename_i hu2
    cases h2
    refine ⟨_, ?_, ⟨rfl, rfl⟩, trivial⟩
    simp [execOp, ho, int_ok h hx hd, convert, run_underlying hu1, run_underlying hu2, Conv.intToInt]
  · split at hd
    · rename_i h1 h2
      refine ⟨.string (asS (mv st x)), ?_, ?_, ?_⟩
      · simp [execOp, ho, str_ok h hx hd, convert, run_underlying h1, run_underlying h2]
      · exact ⟨rfl, rfl⟩
      · trivial
    · cases hd

/-- A pointer that is no nil. -/
def ckV (x : SV) : SV × Prop :=
  match x with
  | .pv (.ptr b o) => (.pv (.ptr b o), True)
  | .pv (.iptr e r i k) => (.pv (.iptr e r i k), True)
  | .pv (.fn (.func f) a b) => (.pv (.fn (.func f) a b), True)
  | .pv (.lit (.func (.func f) a b)) => (.pv (.lit (.func (.func f) a b)), True)
  | _ => (.pv .bot, False)
theorem ckV_ok {P : Program} {st : St} (o : Oper) (x : Operand) (ho : o.op = .nilCheck x) :
    Pop P st o ((ckV (mv st x)).1, gc st x ∧ (ckV (mv st x)).2) := by
  intro g a w h ⟨hx, hd⟩
  obtain ⟨hf, _⟩ := mv_ok h x hx
  unfold ckV at hd ⊢
  split at hd
  · rename_i hm; rw [hm] at hf; simp only [hm]
    obtain ⟨_, h1, hv⟩ := hf
    exact ⟨_, by simp [execOp, ho, hv], ⟨rfl, h1, rfl⟩, trivial⟩
  · rename_i hm; rw [hm] at hf; simp only [hm]
    obtain ⟨_, c, off, arr, T, fz, vs, hv, hr⟩ := hf
    exact ⟨_, by simp [execOp, ho, hv], ⟨rfl, c, off, arr, T, fz, vs, rfl, hr⟩, trivial⟩
  · rename_i hm; rw [hm] at hf; simp only [hm]
    obtain ⟨_, p, q, hv, hr⟩ := hf
    exact ⟨_, by simp [execOp, ho, hv], ⟨rfl, p, q, rfl, hr⟩, trivial⟩
  · rename_i hm; rw [hm] at hf; simp only [hm]
    have hv : a.eval x = _ := hf.2
    exact ⟨_, by simp [execOp, ho, hv], ⟨rfl, rfl⟩, trivial⟩
  · cases hd

/-! ### Slice expressions -/
def cutSl (l h : Nat) : SV → SV
  | .pv (.seq nw e rows) => .pv (.seq nw e ((rows.take h).drop l))
  | .pv (.lit v) => .pv (.lit v)
  | .al p => .loc p l h
  | .loc p lo _ => .loc p (lo + l) (lo + h)
  | _ => .pv .bot

def bnd (st : St) (d : Nat) : Option Operand → Int
  | none => d
  | some x => asI (mv st x)
def bndOk (st : St) : Option Operand → Prop
  | none => True
  | some x => gc st x ∧ isI (mv st x)

def cutV (P : Program) (st : St) (t : TypeId) (x : SV) (lo hi : Option Operand) : SV × Prop :=
  match slSize P t with
  | some e => (cutSl (bnd st 0 lo).toNat (bnd st (rowsOf st x).length hi).toNat x,
      slOk st e x ∧ bndOk st lo ∧ bndOk st hi ∧ 0 ≤ bnd st 0 lo ∧ bnd st 0 lo ≤ bnd st (rowsOf st x).length hi ∧ bnd st (rowsOf st x).length hi ≤ (rowsOf st x).length)
  | none => match P.underlying t with
    | some .string => (.pv (.lit (.string ((asS x).extract (bnd st 0 lo).toNat (bnd st (asS x).size hi).toNat))),
      isS x ∧ bndOk st lo ∧ bndOk st hi ∧ 0 ≤ bnd st 0 lo ∧ bnd st 0 lo ≤ bnd st (asS x).size hi ∧ bnd st (asS x).size hi ≤ (asS x).size)
    | _ => (.pv .bot, False)

theorem run_bounds {P : Program} {st : St} {g : Gh} {a : Act} {w : World} (h : Sim g st a w) (isS : Bool) (len cap : Nat) (lo hi : Option Operand) (hlo : bndOk st lo) (hhi : bndOk st hi)
    (h0 : 0 ≤ bnd st 0 lo) (h1 : bnd st 0 lo ≤ bnd st len hi) (h2 : bnd st len hi ≤ len) (hc : len ≤ cap) :
    (Instr.sliceBounds isS len cap (lo.map a.eval) (hi.map a.eval) none).run P w = .ok ((bnd st 0 lo).toNat, (bnd st len hi).toNat, cap) w := by
  cases hi with
  | none =>
    cases lo with
    | none => simp [Instr.sliceBounds, bnd]
    | some l =>
      simp only [bnd, bndOk] at *
      simp only [Instr.sliceBounds, Option.map_none, Option.map_some, int_ok h hlo.1 hlo.2, Sem.run_bind, Sem.run_pure, Result.andThen_ok, run_sliceBound w _ _ _ _ h0 h1]
      simp
  | some u =>
    cases lo with
    | none =>
      simp only [bnd, bndOk] at *
      simp only [Instr.sliceBounds, Option.map_none, Option.map_some, int_ok h hhi.1 hhi.2, Sem.run_bind, Sem.run_pure, Result.andThen_ok, run_sliceBound w _ _ cap _ h1 (by omega)]
      simp
    | some l =>
      simp only [bnd, bndOk] at *
      have e1 : ((asI (mv st u)).toNat : Int) = asI (mv st u) := Int.toNat_of_nonneg (by omega)
      simp only [Instr.sliceBounds, Option.map_some, int_ok h hhi.1 hhi.2, int_ok h hlo.1 hlo.2, Sem.run_bind, Sem.run_pure, Result.andThen_ok, run_sliceBound w _ _ cap _ (by omega : (0:Int) ≤ asI (mv st u)) (by omega),
        run_sliceBound w _ _ _ _ h0 (by rw [e1]; exact h1)]

theorem FitR.cut {g : Gh} {e : Nat} {rows : List (List PV)} {vs : List Value} (h : FitR g e rows vs) (l u : Nat) (hl : l ≤ u) (hu : u ≤ rows.length) :
    FitR g e ((rows.take u).drop l) ((vs.take (u * e)).drop (l * e)) := by
  obtain ⟨v1, v2, e1, h1, h2⟩ := FitR.split (xs := rows.take u) (ys := rows.drop u) (by rw [List.take_append_drop]; exact h)
  have l1 : v1.length = u * e := by rw [h1.length, List.length_take]; congr 1; omega
  have : vs.take (u * e) = v1 := by rw [e1, ← l1, List.take_left']; rfl
  rw [this]
  obtain ⟨u1, u2, e2, h3, h4⟩ := FitR.split (xs := (rows.take u).take l) (ys := (rows.take u).drop l) (by rw [List.take_append_drop]; exact h1)
  have l2 : u1.length = l * e := by rw [h3.length, List.length_take, List.length_take]; congr 1; omega
  rw [e2, ← l2, List.drop_left']
  · exact h4
  · rfl

theorem cut_prefix {vs m : List Value} (h : vs <+: m) (l u : Nat) : (vs.take u).drop l <+: m.drop l := by
  obtain ⟨r, hr⟩ := (List.take_prefix u vs).trans h
  by_cases hl : l ≤ (vs.take u).length
  · exact ⟨r, by rw [← hr, List.drop_append_of_le_length hl]⟩
  · rw [List.drop_eq_nil_of_le (by omega)]; exact List.nil_prefix

theorem cutV_ok {P : Program} {st : St} (o : Oper) (t : TypeId) (x : Operand) (lo hi : Option Operand) (ho : o.op = .slice t x lo hi none) :
    Pop P st o ((cutV P st t (mv st x) lo hi).1, gc st x ∧ (cutV P st t (mv st x) lo hi).2) := by
  intro g a w h ⟨hx, hd⟩
  unfold cutV at hd ⊢
  cases hs : slSize P t with
  | some e =>
    rw [hs] at hd
    simp only at hd ⊢
    obtain ⟨h1, h2, h3, h4, h5, h6⟩ := hd
    obtain ⟨q, cap, hv, hcap⟩ := slice_len h hx h1
    obtain ⟨hf, ha⟩ := mv_ok h x hx
    unfold slSize at hs
    split at hs
    case h_2 => cases hs
    rename_i el hu
    simp only [Option.map_eq_some_iff] at hs
    obtain ⟨inf, hinf, rfl⟩ := hs
    generalize hL : (bnd st 0 lo).toNat = L at *
    generalize hU : (bnd st (rowsOf st (mv st x)).length hi).toNat = U at *
    have hLU : L ≤ U := by omega
    have hUn : U ≤ (rowsOf st (mv st x)).length := by omega
    refine ⟨sliced q L U cap inf.size, ?_, ?_⟩
    · simp only [execOp, ho, hv, Option.map_none]
      simp only [Instr.sliceAt, Sem.run_bind, run_underlying hu, Result.andThen_ok, Instr.slice, run_bounds h true _ cap lo hi h2 h3 h4 h5 h6 hcap, run_sizeOf hinf, Sem.run_pure, hL, hU, sliced]
    · unfold slOk at h1
      split at h1
      · rename_i nw e' rows hm
        subst h1
        rw [hm] at hf hv hcap hUn ⊢
        simp only [rowsOf] at hUn hcap hv
        refine ⟨⟨rfl, ?_⟩, trivial⟩
        obtain ⟨_, q', cap', hv', _, hr⟩ := hf
        rw [hv'] at hv; cases hv
        refine ⟨_, _, by rw [sliced, List.length_drop, List.length_take, Nat.min_eq_left hUn], by simp; omega, ?_⟩
        rcases hr with rfl | ⟨c, off, arr, T, fz, vs, rfl, i2, i3, i4, i5⟩
        · left; simp
        · by_cases hc : cap = L
          · left; simp; omega
          · right
            refine ⟨c, off + L * inf.size, arr, T, fz, (vs.take (U * inf.size)).drop (L * inf.size), by rw [if_neg hc]; simp [Addr.add_lit], i2, i3, i4.cut L U hLU hUn, ?_⟩
            have := cut_prefix i5 (L * inf.size) (U * inf.size)
            rwa [List.drop_drop] at this
      · rename_i v hm
        rw [hm] at hf hv hUn ⊢
        obtain ⟨_, hv'⟩ := hf
        rw [isNilSl_eq h1] at hv'
        simp only [rowsOf, List.length_nil] at hUn
        rw [hv'] at hv; cases hv
        have hU0 : U = 0 := by omega
        have hL0 : L = 0 := by omega
        refine ⟨⟨rfl, ?_⟩, trivial⟩
        show sliced none _ _ 0 inf.size = v
        rw [isNilSl_eq h1, hU0, hL0]; simp [sliced]
      · rename_i p hm
        rw [hm] at ha hUn hv hcap ⊢
        split at h1
        · rename_i nw e' rows hp
          subst h1
          obtain ⟨bl, hb⟩ := h.own
          have hv' := ha (by rw [hp]; rfl)
          simp only [rowsOf, hp] at hUn hv hcap
          refine ⟨rfl, fun nw' e' rows' hp' => ?_⟩
          rw [hp] at hp'; cases hp'
          refine ⟨hLU, hUn, _, _, rfl, by omega, ?_⟩
          by_cases hlu : L = U
          · exact .inl hlu
          · right
            have := pos_fit hb (p := p) (by rw [hp]; rfl)
            rw [hp] at this
            rcases this with ⟨_, rfl, e1⟩ | ⟨c, _, cap', arr, T, vs, e1, _⟩
            · simp at hUn; omega
            · rw [hv', e1] at hv; cases hv
              refine ⟨c, _, _, e1, ?_⟩
              rw [if_neg (by omega)]; simp [Addr.add_lit]
        · cases h1
      · rename_i p lo' hi' hm
        rw [hm] at ha hUn hv hcap ⊢
        split at h1
        · rename_i nw e' rows hp
          subst h1
          obtain ⟨j1, j2, q', cap', hv', jc, hq⟩ := ha _ _ _ hp
          simp only [rowsOf, hp, List.length_drop, List.length_take] at hUn hv hcap
          rw [hv'] at hv; simp only [Value.slice.injEq] at hv; obtain ⟨rfl, _, rfl⟩ := hv
          refine ⟨rfl, fun nw' e' rows' hp' => ?_⟩
          rw [hp] at hp'; cases hp'
          refine ⟨by omega, by omega, _, _, by rw [sliced]; congr 1; omega, by omega, ?_⟩
          by_cases hlu : L = U
          · left; omega
          · right
            rcases hq with rfl | ⟨c, n, cp, hpv, rfl⟩
            · omega
            · refine ⟨c, n, cp, hpv, ?_⟩
              rw [if_neg (by omega)]; simp [Addr.add_lit, Nat.add_mul]
        · cases h1
      · cases h1
  | none =>
    rw [hs] at hd
    simp only at hd ⊢
    split at hd
    · rename_i hu
      obtain ⟨h1, h2, h3, h4, h5, h6⟩ := hd
      refine ⟨.string ((asS (mv st x)).extract (bnd st 0 lo).toNat (bnd st (asS (mv st x)).size hi).toNat), ?_, ⟨rfl, rfl⟩, trivial⟩
      simp only [execOp, ho, str_ok h hx h1, Option.map_none]
      simp only [Instr.sliceAt, Sem.run_bind, run_underlying hu, Result.andThen_ok, Instr.slice, Option.isSome_none, Bool.false_eq_true, if_false, run_bounds h false _ _ lo hi h2 h3 h4 h5 h6 (Nat.le_refl _), Sem.run_pure]
    · cases hd

end Go.AX
