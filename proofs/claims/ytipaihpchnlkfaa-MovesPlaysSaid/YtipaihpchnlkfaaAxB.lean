/-
  AX, part B: operations that only read: what they yield, of plain data.
-/
import Derived.Test.YtipaihpchnlkfaaAxA
namespace Go.AX

def ev (st : St) : Operand → SV
  | .tmp k => look st.t k
  | .const v => .pv (.lit v)
  | .func f => .pv (.lit (.func (.func f) #[] #[]))
  | .global _ => .pv .bot

/-- What is read of an operand. -/
def mvS (x : Operand) : SV → SV
  | .own _ _ _ => match x with | .tmp s => .al (.slot s) | _ => .pv .bot
  | .omap _ _ => match x with | .tmp s => .al (.slot s) | _ => .pv .bot
  | .opt _ y => y
  | .pv p => .pv p
  | .al p => .al p
  | .loc p i k => .loc p i k
  | .sptr p i k => .sptr p i k

def mv (st : St) (x : Operand) : SV := mvS x (ev st x)

def gcS : SV → Prop
  | .opt c _ => c
  | .own _ _ _ => True
  | .omap _ _ => True
  | .pv _ => True
  | .al _ => True
  | .loc _ _ _ => True
  | .sptr _ _ _ => True

def gc (st : St) (x : Operand) : Prop := gcS (ev st x)

theorem Sim.slot {g : Gh} {st : St} {a : Act} {w : World} (h : Sim g st a w) (k : Nat) : ∃ b, SFit g w (look st.t k) (a.tmps.getD k undef) b := by
  obtain ⟨bl, hb⟩ := h.own
  exact ⟨_, hb.slots k⟩

theorem mv_ok {g : Gh} {st : St} {a : Act} {w : World} (h : Sim g st a w) (x : Operand) (hg : gc st x) :
    SFit g w (mv st x) (a.eval x) none ∧ AlOk g st a w (mv st x) (a.eval x) := by
  cases x with
  | const v => exact ⟨⟨rfl, rfl⟩, trivial⟩
  | func f => exact ⟨⟨rfl, rfl⟩, trivial⟩
  | global n => exact ⟨⟨rfl, trivial⟩, trivial⟩
  | tmp k =>
    obtain ⟨b, hs⟩ := h.slot k
    have ha := h.al k
    simp only [mv, ev, Act.eval, gc] at *
    cases hl : look st.t k with
    | pv p => rw [hl] at hs ha; obtain ⟨rfl, hf⟩ := hs; exact ⟨⟨rfl, hf⟩, trivial⟩
    | own nw e rows => rw [hl] at hs; exact ⟨rfl, fun _ => rfl⟩
    | omap nw es => rw [hl] at hs; exact ⟨rfl, fun _ => rfl⟩
    | al p => rw [hl] at hs ha; exact ⟨rfl, ha⟩
    | loc p i j => rw [hl] at hs ha; exact ⟨rfl, ha⟩
    | sptr p i j => rw [hl] at hs ha; exact ⟨rfl, ha⟩
    | opt c y => rw [hl] at hs ha hg; exact ⟨hs.2.2 hg, ha hg⟩

/-- A quiet operation. -/
def Pop (P : Program) (st : St) (o : Oper) (r : SV × Prop) : Prop :=
  ∀ g a w, Sim g st a w → r.2 → ∃ v, (execOp a.eval o).run P w = .ok (.value v) w ∧ SFit g w r.1 v none ∧ AlOk g st a w r.1 v

/-! ### Numbers, truths, texts -/
def asK : SV → IntKind
  | .pv (.lit (.int k _)) => k
  | _ => .i64
def asI : SV → Int
  | .pv (.lit (.int _ n)) => n
  | _ => 0
def isI : SV → Prop
  | .pv (.lit (.int _ _)) => True
  | _ => False
def asB : SV → Bool
  | .pv (.lit (.bool b)) => b
  | _ => false
def isB : SV → Prop
  | .pv (.lit (.bool _)) => True
  | _ => False
def asS : SV → ByteArray
  | .pv (.lit (.string s)) => s
  | _ => ByteArray.empty
def isS : SV → Prop
  | .pv (.lit (.string _)) => True
  | _ => False

theorem isI_eq {x : SV} (h : isI x) : x = .pv (.lit (.int (asK x) (asI x))) := by
  unfold isI at h; split at h
  · rfl
  · cases h
theorem isB_eq {x : SV} (h : isB x) : x = .pv (.lit (.bool (asB x))) := by
  unfold isB at h; split at h
  · rfl
  · cases h
theorem isS_eq {x : SV} (h : isS x) : x = .pv (.lit (.string (asS x))) := by
  unfold isS at h; split at h
  · rfl
  · cases h

theorem int_ok {g : Gh} {st : St} {a : Act} {w : World} (h : Sim g st a w) {x : Operand} (hg : gc st x) (hi : isI (mv st x)) :
    a.eval x = .int (asK (mv st x)) (asI (mv st x)) := by
  have := (mv_ok h x hg).1
  rw [isI_eq hi] at this
  exact this.2
theorem bool_ok {g : Gh} {st : St} {a : Act} {w : World} (h : Sim g st a w) {x : Operand} (hg : gc st x) (hi : isB (mv st x)) :
    a.eval x = .bool (asB (mv st x)) := by
  have := (mv_ok h x hg).1
  rw [isB_eq hi] at this
  exact this.2
theorem str_ok {g : Gh} {st : St} {a : Act} {w : World} (h : Sim g st a w) {x : Operand} (hg : gc st x) (hi : isS (mv st x)) :
    a.eval x = .string (asS (mv st x)) := by
  have := (mv_ok h x hg).1
  rw [isS_eq hi] at this
  exact this.2

abbrev SV.int (k : IntKind) (n : Int) : SV := .pv (.lit (.int k n))
abbrev SV.bool (b : Bool) : SV := .pv (.lit (.bool b))

/-- What kind of values a type has, as far as '==' asks. -/
inductive TK where
  | int | bool | string | ptr | slice | map | func | other
  | flat (n : Nat)

def flatFields (P : Program) : List Field → Nat → Bool
  | [], _ => true
  | f :: fs, n => f.offset == n && f.name != "_" && (match P.underlying f.type with | some (.int _) => true | _ => false) && (match P.info? f.type with | some i => i.size == 1 | none => false) && flatFields P fs (n + 1)

def tk (P : Program) (t : TypeId) : TK :=
  match P.underlying t with
  | some (.int _) => .int
  | some .bool => .bool
  | some .string => .string
  | some (.pointer _) => .ptr
  | some (.slice _) => .slice
  | some (.map _ _) => .map
  | some (.func _ _ _) => .func
  | some (.struct fs) => if flatFields P fs.toList 0 && !P.stoodInHeld t && !P.eqGuardType P.depth t then .flat fs.size else .other
  | _ => .other

/-! ### Binary operators -/
def binI (op : BinOp) (x y : SV) : SV × Prop :=
  match op with
  | .add => (.int (asK x) ((asK x).wrap (asI x + asI y)), isI x ∧ isI y ∧ asK x = asK y ∧ True)
  | .sub => (.int (asK x) ((asK x).wrap (asI x - asI y)), isI x ∧ isI y ∧ asK x = asK y ∧ True)
  | .mul => (.int (asK x) ((asK x).wrap (asI x * asI y)), isI x ∧ isI y ∧ asK x = asK y ∧ True)
  | .quo => (.int (asK x) ((asK x).wrap ((asI x).tdiv (asI y))), isI x ∧ isI y ∧ asK x = asK y ∧ asI y ≠ 0)
  | .rem => (.int (asK x) ((asI x).tmod (asI y)), isI x ∧ isI y ∧ asK x = asK y ∧ asI y ≠ 0)
  | .lss => (.bool (decide (asI x < asI y)), isI x ∧ isI y ∧ asK x = asK y ∧ True)
  | .leq => (.bool (decide (asI x ≤ asI y)), isI x ∧ isI y ∧ asK x = asK y ∧ True)
  | .gtr => (.bool (decide (asI y < asI x)), isI x ∧ isI y ∧ asK x = asK y ∧ True)
  | .geq => (.bool (decide (asI y ≤ asI x)), isI x ∧ isI y ∧ asK x = asK y ∧ True)
  | .eql => (.bool (decide (asI x = asI y)), isI x ∧ isI y ∧ asK x = asK y ∧ True)
  | .neq => (.bool (!decide (asI x = asI y)), isI x ∧ isI y ∧ asK x = asK y ∧ True)
  | _ => (.pv .bot, False)

def binB (op : BinOp) (x y : SV) : SV × Prop :=
  match op with
  | .eql => (.bool (asB x == asB y), isB x ∧ isB y)
  | .neq => (.bool (asB x != asB y), isB x ∧ isB y)
  | _ => (.pv .bot, False)

def binS (op : BinOp) (x y : SV) : SV × Prop :=
  match op with
  | .add => (.pv (.lit (.string (asS x ++ asS y))), isS x ∧ isS y ∧ ((asS x).size + (asS y).size : Nat) ≤ 9223372036854775807)
  | .eql => (.bool (decide (asS x = asS y)), isS x ∧ isS y)
  | .neq => (.bool (!decide (asS x = asS y)), isS x ∧ isS y)
  | .lss => (.bool (Op.bytesLess (asS x).toList (asS y).toList), isS x ∧ isS y)
  | .gtr => (.bool (!(Op.bytesLess (asS x).toList (asS y).toList || decide (asS x = asS y))), isS x ∧ isS y)
  | .leq => (.bool (Op.bytesLess (asS x).toList (asS y).toList || decide (asS x = asS y)), isS x ∧ isS y)
  | .geq => (.bool (!Op.bytesLess (asS x).toList (asS y).toList), isS x ∧ isS y)
  | _ => (.pv .bot, False)

/-- Against nil. -/
def nilness : SV → Option Bool
  | .pv (.lit (.pointer none)) => some true
  | .pv (.lit (.pointer (some _))) => some false
  | .pv (.ptr _ _) => some false
  | .pv (.iptr _ _ _ _) => some false
  | .sptr _ _ _ => none
  | .pv (.lit (.slice none 0 0)) => some true
  | .pv (.lit (.map none)) => some true
  | _ => none
def isNilConst : SV → Bool
  | .pv (.lit (.pointer none)) => true
  | _ => false
def binP (op : BinOp) (x y : SV) : SV × Prop :=
  match op with
  | .eql => (.bool (nilness x == some true), isNilConst y = true ∧ (nilness x).isSome = true)
  | .neq => (.bool (nilness x == some false), isNilConst y = true ∧ (nilness x).isSome = true)
  | _ => (.pv .bot, False)

/-- The numbers of a flat struct. -/
def asFlat : SV → List Int
  | .pv (.agg xs) => xs.map fun x => asI (.pv x)
  | .pv (.lit (.agg vs)) => vs.toList.map fun v => asI (.pv (.lit v))
  | _ => []
def flatKinds : SV → List IntKind
  | .pv (.agg xs) => xs.map fun x => asK (.pv x)
  | .pv (.lit (.agg vs)) => vs.toList.map fun v => asK (.pv (.lit v))
  | _ => []
def isFlat (n : Nat) : SV → Prop
  | .pv (.agg xs) => xs.length = n ∧ ∀ x ∈ xs, isI (.pv x)
  | .pv (.lit (.agg vs)) => vs.size = n ∧ ∀ v ∈ vs.toList, isI (.pv (.lit v))
  | _ => False
def binF (n : Nat) (op : BinOp) (x y : SV) : SV × Prop :=
  match op with
  | .eql => (.bool (decide (asFlat x = asFlat y)), isFlat n x ∧ isFlat n y ∧ flatKinds x = flatKinds y)
  | .neq => (.bool (!decide (asFlat x = asFlat y)), isFlat n x ∧ isFlat n y ∧ flatKinds x = flatKinds y)
  | _ => (.pv .bot, False)

def bin (P : Program) (op : BinOp) (t : TypeId) (x y : SV) : SV × Prop :=
  match tk P t with
  | .int => binI op x y
  | .bool => binB op x y
  | .string => binS op x y
  | .ptr => binP op x y
  | .flat n => binF n op x y
  | _ => (.pv .bot, False)

theorem binI_ok {P : Program} {st : St} (o : Oper) (op : BinOp) (t u : TypeId) (x y : Operand) (ho : o.op = .binOp op t x y u) :
    Pop P st o ((binI op (mv st x) (mv st y)).1, gc st x ∧ gc st y ∧ (binI op (mv st x) (mv st y)).2) := by
  intro g a w h ⟨hx, hy, hd⟩
  have ex := fun hi => int_ok h hx hi
  have ey := fun hi => int_ok h hy hi
  unfold binI at hd ⊢
  simp only [execOp, ho]
  cases op <;> simp only at hd ⊢
  case quo | rem =>
    obtain ⟨h1, h2, h3, h4⟩ := hd
    rw [ex h1, ey h2, h3]
    simp only [go_sem, Sem.run_bind, Sem.run_pure, Result.andThen_ok, Op.intDiv, if_neg h4]
    exact ⟨_, rfl, ⟨rfl, by first | rfl | rw [h3]⟩, trivial⟩
  case add | sub | mul | lss | leq | gtr | geq | eql | neq =>
    obtain ⟨h1, h2, h3, h4⟩ := hd
    rw [ex h1, ey h2, h3]
    simp only [go_sem, Sem.run_bind, Sem.run_pure, Result.andThen_ok, Op.intArith]
    exact ⟨_, rfl, ⟨rfl, by first | rfl | rw [h3]⟩, trivial⟩
  all_goals exact hd.elim

theorem binB_ok {P : Program} {st : St} (o : Oper) (op : BinOp) (t u : TypeId) (x y : Operand) (ho : o.op = .binOp op t x y u) (ht : P.underlying t = some .bool) :
    Pop P st o ((binB op (mv st x) (mv st y)).1, gc st x ∧ gc st y ∧ (binB op (mv st x) (mv st y)).2) := by
  intro g a w h ⟨hx, hy, hd⟩
  have ex := fun hi => bool_ok h hx hi
  have ey := fun hi => bool_ok h hy hi
  unfold binB at hd ⊢
  simp only [execOp, ho]
  cases op <;> simp only at hd ⊢
  case eql | neq =>
    obtain ⟨h1, h2⟩ := hd
    rw [ex h1, ey h2]
    simp only [eqGuard_at_bool, Sem.run_bind, Sem.run_pure, Result.andThen_ok, run_eql_bool w t _ _ ht, run_neq_bool w t _ _ ht]
    exact ⟨_, rfl, ⟨rfl, rfl⟩, trivial⟩
  all_goals exact hd.elim

theorem ByteArray.toList_inj {a b : ByteArray} : (a.toList == b.toList) = decide (a = b) := by
  rw [Bool.eq_iff_iff, beq_iff_eq, decide_eq_true_iff]
  constructor
  · intro h
    rw [ByteArray.toList_eq, ByteArray.toList_eq] at h
    cases a; cases b; simp at h; simp [h]
  · intro h; rw [h]

theorem binS_ok {P : Program} {st : St} (o : Oper) (op : BinOp) (t u : TypeId) (x y : Operand) (ho : o.op = .binOp op t x y u) :
    Pop P st o ((binS op (mv st x) (mv st y)).1, gc st x ∧ gc st y ∧ (binS op (mv st x) (mv st y)).2) := by
  intro g a w h ⟨hx, hy, hd⟩
  have ex := fun hi => str_ok h hx hi
  have ey := fun hi => str_ok h hy hi
  unfold binS at hd ⊢
  simp only [execOp, ho]
  cases op <;> simp only at hd ⊢
  case add =>
    obtain ⟨h1, h2, h3⟩ := hd
    rw [ex h1, ey h2]
    simp only [eqGuard_at_string, Sem.run_bind, Sem.run_pure, Result.andThen_ok, binOp, Op.stringOp]
    rw [if_neg (by simp only [IntKind.max_i64]; omega)]
    exact ⟨_, rfl, ⟨rfl, rfl⟩, trivial⟩
  case eql | neq | lss | leq | gtr | geq =>
    obtain ⟨h1, h2⟩ := hd
    rw [ex h1, ey h2]
    simp only [eqGuard_at_string, Sem.run_bind, Sem.run_pure, Result.andThen_ok, binOp, Op.stringOp, ByteArray.toList_inj]
    exact ⟨_, rfl, ⟨rfl, rfl⟩, trivial⟩
  all_goals exact hd.elim

theorem nilness_ok {g : Gh} {w : World} {x : SV} {v : Value} {b : Bool} (h : SFit g w x v none) (hn : nilness x = some b) (hp : ∃ p, v = .pointer p) : v = .pointer none ∧ b = true ∨ (∃ q, v = .pointer (some q)) ∧ b = false := by
  unfold nilness at hn
  split at hn
  · cases hn; obtain ⟨_, rfl⟩ := h; exact .inl ⟨rfl, rfl⟩
  · cases hn; obtain ⟨_, rfl⟩ := h; exact .inr ⟨⟨_, rfl⟩, rfl⟩
  · cases hn; obtain ⟨_, _, rfl⟩ := h; exact .inr ⟨⟨_, rfl⟩, rfl⟩
  · cases hn; obtain ⟨_, _, _, _, _, _, _, rfl, _⟩ := h; exact .inr ⟨⟨_, rfl⟩, rfl⟩
  · cases hn
  · obtain ⟨_, rfl⟩ := h; obtain ⟨p, hp⟩ := hp; cases hp
  · obtain ⟨_, rfl⟩ := h; obtain ⟨p, hp⟩ := hp; cases hp
  · cases hn

def isPtr : SV → Prop
  | .pv (.lit (.pointer _)) => True
  | .pv (.ptr _ _) => True
  | .pv (.iptr _ _ _ _) => True
  | _ => False

theorem isPtr_ok {g : Gh} {w : World} {x : SV} {v : Value} (h : SFit g w x v none) (hp : isPtr x) : ∃ p, v = .pointer p := by
  unfold isPtr at hp
  split at hp
  · obtain ⟨_, rfl⟩ := h; exact ⟨_, rfl⟩
  · obtain ⟨_, _, rfl⟩ := h; exact ⟨_, rfl⟩
  · obtain ⟨_, _, _, _, _, _, _, rfl, _⟩ := h; exact ⟨_, rfl⟩
  · cases hp

theorem pointee_of {P : Program} {t e : TypeId} (h : P.underlying t = some (.pointer e)) : P.underlying t = some (.pointer (P.pointee t)) := by
  simp [Program.pointee, h]

theorem binP_ok {P : Program} {st : St} (o : Oper) (op : BinOp) (t u e : TypeId) (x y : Operand) (ho : o.op = .binOp op t x y u) (ht : P.underlying t = some (.pointer e)) :
    Pop P st o ((binP op (mv st x) (mv st y)).1, gc st x ∧ gc st y ∧ isPtr (mv st x) ∧ (binP op (mv st x) (mv st y)).2) := by
  intro g a w h ⟨hx, hy, hp, hd⟩
  obtain ⟨fx, _⟩ := mv_ok h x hx
  obtain ⟨fy, _⟩ := mv_ok h y hy
  obtain ⟨p, hp⟩ := isPtr_ok fx hp
  have ht' := pointee_of ht
  have nil_y : isNilConst (mv st y) = true → a.eval y = .pointer none := by
    intro hn
    unfold isNilConst at hn
    split at hn
    · rename_i e; rw [e] at fy; exact fy.2
    · cases hn
  unfold binP at hd ⊢
  simp only [execOp, ho]
  cases op <;> simp only at hd ⊢
  case eql | neq =>
    obtain ⟨h1, h2⟩ := hd
    obtain ⟨b, hb⟩ := Option.isSome_iff_exists.mp h2
    rw [nil_y h1, hp]
    simp only [eqGuard_at_pointer, Sem.run_bind, Sem.run_pure, Result.andThen_ok, run_eql_pointer_nil w t _ ht', run_neq_pointer_nil w t _ ht']
    refine ⟨_, rfl, ⟨rfl, ?_⟩, trivial⟩
    rcases nilness_ok fx hb ⟨_, hp⟩ with ⟨e1, rfl⟩ | ⟨⟨q, e1⟩, rfl⟩ <;> (rw [hp] at e1; cases e1; simp [Fit, hb])
  all_goals exact hd.elim

/-! ### Flat structs -/
theorem run_part_cell {P : Program} (w : World) {t : TypeId} {k : IntKind} (ht : P.underlying t = some (.int k)) (cs : Array Value) (off : Nat) (v : Value) (h : cs[off]? = some v) :
    (part t cs off).run P w = .ok v w := by
  simp [part, isAgg, run_underlying ht, h]

theorem run_eqFlat {P : Program} (w : World) (d : Nat) (xs ys : Array Value) : ∀ (fs : List Field) (n : Nat) (A B : List (IntKind × Int)), flatFields P fs n = true →
    A.length = fs.length → A.map (·.1) = B.map (·.1) → (∀ i p, A[i]? = some p → xs[n + i]? = some (.int p.1 p.2)) → (∀ i p, B[i]? = some p → ys[n + i]? = some (.int p.1 p.2)) →
    (Op.eqFields (d + 1) xs ys fs).run P w = .ok (decide (A.map (·.2) = B.map (·.2))) w
  | [], n, A, B, _, hA, hAB, _, _ => by
    have : A = [] := List.length_eq_zero_iff.1 hA
    subst this
    have : B = [] := by simpa using hAB.symm
    subst this
    simp [Op.eqFields]
  | f :: fs, n, A, B, hf, hA, hAB, hx, hy => by
    cases A with
    | nil => simp at hA
    | cons p A =>
    cases B with
    | nil => simp at hAB
    | cons q B =>
    simp only [flatFields, Bool.and_eq_true, beq_iff_eq, bne_iff_ne] at hf
    obtain ⟨⟨⟨⟨ho, hn⟩, hu⟩, _⟩, hr⟩ := hf
    split at hu
    case h_2 => cases hu
    rename_i k hk
    simp only [List.map_cons, List.cons.injEq] at hAB
    have hx0 := hx 0 p rfl
    have hy0 := hy 0 q rfl
    simp only [Nat.add_zero] at hx0 hy0
    rw [Op.eqFields, if_pos hn, ho]
    simp only [Sem.run_bind, run_part_cell w hk xs n _ hx0, run_part_cell w hk ys n _ hy0, Result.andThen_ok, hAB.1, run_equalIn_int w d f.type q.1 k p.2 q.2 hk]
    by_cases he : p.2 = q.2
    · simp only [he, beq_self_eq_true, Bool.not_true, Bool.false_eq_true, if_false]
      rw [run_eqFlat w d xs ys fs (n + 1) A B hr (by simpa using hA) hAB.2 (fun i p hp => by have := hx (i + 1) p (by simpa using hp); rw [← this]; congr 1; omega) (fun i p hp => by have := hy (i + 1) p (by simpa using hp); rw [← this]; congr 1; omega)]
      simp [he]
    · simp [he]

/-- The kinds and numbers of a flat struct. -/
def flatOf : SV → List (IntKind × Int)
  | .pv (.agg xs) => xs.map fun x => (asK (.pv x), asI (.pv x))
  | .pv (.lit (.agg vs)) => vs.toList.map fun v => (asK (.pv (.lit v)), asI (.pv (.lit v)))
  | _ => []

theorem flat_ok {g : Gh} {w : World} {x : SV} {v : Value} {n : Nat} (h : SFit g w x v none) (hf : isFlat n x) :
    ∃ vs, v = .agg vs ∧ (flatOf x).length = n ∧ (flatOf x).map (·.1) = flatKinds x ∧ (flatOf x).map (·.2) = asFlat x ∧ ∀ (i : Nat) (p : IntKind × Int), (flatOf x)[i]? = some p → vs[i]? = some (Value.int p.1 p.2) := by
  unfold isFlat at hf
  split at hf
  · rename_i xs
    obtain ⟨_, vs, rfl, hl⟩ := h
    refine ⟨vs, rfl, by simp [flatOf, hf.1], by simp [flatOf, flatKinds], by simp [flatOf, asFlat], fun i p hp => ?_⟩
    simp only [flatOf, List.getElem?_map, Option.map_eq_some_iff] at hp
    obtain ⟨y, hy, rfl⟩ := hp
    obtain ⟨u, hu, hfy⟩ := hl.get i y hy
    have := hf.2 y (List.mem_of_getElem? hy)
    have e := isI_eq this
    simp only [SV.pv.injEq] at e
    rw [e] at hfy
    rw [← Array.getElem?_toList, hu, hfy]
  · rename_i vs
    obtain ⟨_, rfl⟩ := h
    refine ⟨vs, rfl, by simp [flatOf, hf.1], by simp [flatOf, flatKinds], by simp [flatOf, asFlat], fun i p hp => ?_⟩
    simp only [flatOf, List.getElem?_map, Option.map_eq_some_iff] at hp
    obtain ⟨y, hy, rfl⟩ := hp
    have := hf.2 y (List.mem_of_getElem? hy)
    have e := isI_eq this
    simp only [SV.pv.injEq, PV.lit.injEq] at e
    rw [← Array.getElem?_toList, hy, ← e]
  · cases hf

theorem binF_ok {P : Program} {st : St} (o : Oper) (op : BinOp) (t u : TypeId) (x y : Operand) (n : Nat) (ho : o.op = .binOp op t x y u) (ht : tk P t = .flat n) :
    Pop P st o ((binF n op (mv st x) (mv st y)).1, gc st x ∧ gc st y ∧ (binF n op (mv st x) (mv st y)).2) := by
  intro g a w h ⟨hx, hy, hd⟩
  obtain ⟨fx, _⟩ := mv_ok h x hx
  obtain ⟨fy, _⟩ := mv_ok h y hy
  unfold tk at ht
  split at ht
  case h_8 =>
    rename_i fs hu
    split at ht
    case isFalse => cases ht
    rename_i hc
    cases ht
    simp only [Bool.and_eq_true, Bool.not_eq_true'] at hc
    obtain ⟨⟨hfl, hst⟩, heq⟩ := hc
    have hfo : P.fieldsOf t = fs := by simp [Program.fieldsOf, hu]
    have hu' : P.underlying t = some (.struct (P.fieldsOf t)) := by rw [hfo]; exact hu
    unfold binF at hd ⊢
    simp only [execOp, ho]
    cases op <;> simp only at hd ⊢
    case eql | neq =>
      obtain ⟨h1, h2, h3⟩ := hd
      obtain ⟨xs, ex, lx, kx, ix, cx⟩ := flat_ok fx h1
      obtain ⟨ys, ey, ly, ky, iy, cy⟩ := flat_ok fy h2
      rw [ex, ey]
      simp only [Sem.run_bind, run_eqGuard_agg w _ t _ _ _ _ heq, Result.andThen_ok, run_eql_struct, run_neq_struct, run_equalIn_agg w 9999 t xs ys hu' hst, hfo,
        run_eqFlat w 9998 xs ys fs.toList 0 (flatOf (mv st x)) (flatOf (mv st y)) hfl (by simpa using lx) (by rw [kx, ky, h3]) (by simpa using cx) (by simpa using cy), ix, iy, Sem.run_pure]
      exact ⟨_, rfl, ⟨rfl, rfl⟩, trivial⟩
    all_goals exact hd.elim
  all_goals (first | cases ht | (split at ht <;> cases ht))

end Go.AX
