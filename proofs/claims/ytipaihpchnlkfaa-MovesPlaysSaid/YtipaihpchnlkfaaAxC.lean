/-
  AX, part C: operations that read memory.
-/
import Derived.Test.YtipaihpchnlkfaaAxB
namespace Go.AX

/-! ### What the types say -/
def fOff (P : Program) (t : TypeId) (f : Nat) : Option Nat :=
  match P.underlying t with
  | some (.struct fs) => match fs[f]? with
    | some x => match P.info? x.type with
      | some i => if i.size = 0 then none else some x.offset
      | none => none
    | none => none
  | _ => none

def slSize (P : Program) (t : TypeId) : Option Nat :=
  match P.underlying t with
  | some (.slice e) => (P.info? e).map (·.size)
  | _ => none

def arSize (P : Program) (t : TypeId) : Option (Nat × Nat) :=
  match P.underlying t with
  | some (.array n e) => (P.info? e).map fun i => (n, i.size)
  | _ => none

def ldInfo (P : Program) (t : TypeId) : Option (Bool × Nat) :=
  match P.underlying t with
  | some (.struct _) => (P.info? t).map fun i => (true, i.size)
  | some (.array _ _) => (P.info? t).map fun i => (true, i.size)
  | some _ => (P.info? t).map fun i => (false, i.size)
  | none => none

theorem run_sizeOf {P : Program} {t : TypeId} {i : TypeInfo} (h : P.info? t = some i) (w : World) : (sizeOf t).run P w = .ok i.size w := by
  simp [sizeOf, typeInfo, h]

theorem run_isAgg {P : Program} {t : TypeId} {b : Bool} {n : Nat} (h : ldInfo P t = some (b, n)) (w : World) : (isAgg t).run P w = .ok b w ∧ (sizeOf t).run P w = .ok n w := by
  unfold ldInfo at h
  split at h
  case h_4 => cases h
  all_goals (
    rename_i hu
    simp only [Option.map_eq_some_iff, Prod.mk.injEq] at h
    obtain ⟨i, hi, rfl, rfl⟩ := h
    refine ⟨?_, run_sizeOf hi w⟩
    simp only [isAgg, Sem.run_bind, run_underlying hu, Result.andThen_ok])
  · rfl
  · rfl
  · rfl

/-! ### Cells -/
theorem cell_of {w : World} {c : Nat} {arr : Array Value} {T : TypeId} {fz : Nat × Nat} (h : w.heap[c]? = some (.cells arr T fz)) (o : Nat) : w.cell? ⟨c, o, none⟩ = arr[o]? := by
  simp [World.cell?, h]

theorem prefix_get {l m : List Value} (h : l <+: m) {i : Nat} {v : Value} (hi : l[i]? = some v) : m[i]? = some v := by
  obtain ⟨r, rfl⟩ := h
  rw [List.getElem?_append_left]
  · exact hi
  · exact (List.getElem?_eq_some_iff.1 hi).1

/-- The cells of a row. -/
theorem row_cells {g : Gh} {e : Nat} {rows : List (List PV)} {vs : List Value} {arr : Array Value} {off : Nat} (h : FitR g e rows vs) (hp : vs <+: arr.toList.drop off) {i : Nat} {row : List PV} (hi : rows[i]? = some row) :
    row.length = e ∧ ∃ b, FitL g row b ∧ ∀ j v, b[j]? = some v → arr[off + i * e + j]? = some v := by
  obtain ⟨he, a, b, c, e1, e2, e3⟩ := h.get i row hi
  refine ⟨he, b, e3, fun j v hj => ?_⟩
  have hb : j < b.length := (List.getElem?_eq_some_iff.1 hj).1
  have : vs[i * e + j]? = some v := by
    rw [e1, List.getElem?_append_left (by simp [e2]; omega), List.getElem?_append_right (by omega), e2]
    rw [← hj]; congr 1; omega
  have := prefix_get hp this
  rw [List.getElem?_drop, Array.getElem?_toList] at this
  rw [← this]; congr 1; omega

theorem FitL.drop {g : Gh} : ∀ {xs : List PV} {vs : List Value} (_ : FitL g xs vs) (k : Nat), FitL g (xs.drop k) (vs.drop k)
  | _, _, h, 0 => by simpa using h
  | [], _, h, k + 1 => by simp only [FitL] at h; subst h; simp [FitL]
  | _ :: _, _, ⟨_, _, h1, _, h3⟩, k + 1 => by subst h1; simpa using FitL.drop h3 k
theorem FitL.take {g : Gh} : ∀ {xs : List PV} {vs : List Value} (_ : FitL g xs vs) (k : Nat), FitL g (xs.take k) (vs.take k)
  | _, _, _, 0 => by simp [FitL]
  | [], _, h, k + 1 => by simp only [FitL] at h; subst h; simp [FitL]
  | _ :: _, _, ⟨_, _, h1, h2, h3⟩, k + 1 => by subst h1; exact ⟨_, _, rfl, h2, FitL.take h3 k⟩

/-! ### Places that own -/
theorem pos_fit {g : Gh} {st : St} {a : Act} {w : World} {bl : Pos → Option Nat} (hb : Owns g st a w bl) {p : Pos} (ho : (posGet st p).isOwn = true) : SFit g w (posGet st p) (posVal g a w p) (bl p) := by
  cases p with
  | slot s => exact hb.slots s
  | cell b k =>
    simp only [posGet] at ho ⊢
    cases hx : st.h[b]? with
    | none => simp [List.getD, hx] at ho; cases ho
    | some xs =>
      simp only [List.getD, hx, Option.getD_some] at ho ⊢
      cases hk : xs[k]? with
      | none => simp [hk] at ho; cases ho
      | some x =>
        obtain ⟨arr, T, h1, ⟨h2, _⟩, h3⟩ := hb.blocks b xs hx
        simp only [Option.getD_some, posVal, h1]
        exact (h3 k x hk).2

/-! ### Slices -/
def isNilSl : Value → Bool
  | .slice none 0 0 => true
  | _ => false
theorem isNilSl_eq {v : Value} (h : isNilSl v = true) : v = .slice none 0 0 := by
  unfold isNilSl at h; split at h
  · rfl
  · cases h

def rowsOf (st : St) : SV → List (List PV)
  | .pv (.seq _ _ rows) => rows
  | .al p => match posGet st p with
    | .own _ _ rows => rows
    | _ => []
  | .loc p lo hi => match posGet st p with
    | .own _ _ rows => (rows.take hi).drop lo
    | _ => []
  | _ => []

def slOk (st : St) (e : Nat) : SV → Prop
  | .pv (.seq _ e' _) => e' = e
  | .pv (.lit v) => isNilSl v = true
  | .al p => match posGet st p with
    | .own _ e' _ => e' = e
    | _ => False
  | .loc p _ _ => match posGet st p with
    | .own _ e' _ => e' = e
    | _ => False
  | _ => False

theorem slice_len {g : Gh} {st : St} {a : Act} {w : World} (h : Sim g st a w) {x : Operand} {e : Nat} (hg : gc st x) (hs : slOk st e (mv st x)) :
    ∃ q cap, a.eval x = .slice q (rowsOf st (mv st x)).length cap ∧ (rowsOf st (mv st x)).length ≤ cap := by
  obtain ⟨hf, ha⟩ := mv_ok h x hg
  unfold slOk at hs
  split at hs
  · rename_i nw e' rows hm
    rw [hm] at hf ⊢
    obtain ⟨_, q, cap, hv, hc, _⟩ := hf
    exact ⟨q, cap, hv, hc⟩
  · rename_i v hm
    rw [hm] at hf ⊢
    obtain ⟨_, hv⟩ := hf
    exact ⟨none, 0, by rw [hv, isNilSl_eq hs]; rfl, by simp [rowsOf]⟩
  · rename_i p hm
    rw [hm] at ha ⊢
    split at hs
    · rename_i nw e' rows hp
      obtain ⟨bl, hb⟩ := h.own
      have hv := ha (by rw [hp]; rfl)
      have := pos_fit hb (p := p) (by rw [hp]; rfl)
      rw [hp] at this
      simp only [rowsOf, hp]
      rcases this with ⟨_, rfl, e1⟩ | ⟨c, _, cap, arr, T, vs, e1, _, _, e4, _⟩
      · exact ⟨none, 0, by rw [hv, e1]; rfl, by simp⟩
      · exact ⟨_, cap, by rw [hv, e1], e4.1⟩
    · cases hs
  · rename_i p lo hi hm
    rw [hm] at ha ⊢
    split at hs
    · rename_i nw e' rows hp
      obtain ⟨h1, h2, q, cap, hv, hc, _⟩ := ha nw e' rows hp
      have : (rowsOf st (.loc p lo hi)).length = hi - lo := by simp only [rowsOf, hp, List.length_drop, List.length_take]; omega
      exact ⟨q, cap, by rw [hv, this], by rw [this]; exact hc⟩
    · cases hs
  · cases hs

def lenSl (P : Program) (st : St) (t : TypeId) (x : SV) : SV × Prop :=
  match slSize P t with
  | some e => (.int .i64 (rowsOf st x).length, slOk st e x)
  | none => (.pv .bot, False)

theorem lenSl_ok {P : Program} {st : St} (o : Oper) (t : TypeId) (x : Operand) (ho : o.op = .call { callee := .builtin .len, args := #[x], argTypes := #[t] }) :
    Pop P st o ((lenSl P st t (mv st x)).1, gc st x ∧ (lenSl P st t (mv st x)).2) := by
  intro g a w h ⟨hx, hd⟩
  unfold lenSl at hd ⊢
  cases hs : slSize P t with
  | none => rw [hs] at hd; cases hd
  | some e =>
    rw [hs] at hd
    simp only at hd ⊢
    obtain ⟨q, cap, hv, _⟩ := slice_len h hx hd
    unfold slSize at hs
    split at hs
    case h_2 => cases hs
    rename_i el hu
    refine ⟨_, ?_, ⟨rfl, rfl⟩, trivial⟩
    simp [execOp, ho, resolve, invoke, builtin, hv, Builtin.len_, run_underlying hu, goInt]

def lenStr (x : SV) : SV × Prop := (.int .i64 (asS x).size, isS x)
theorem lenStr_ok {P : Program} {st : St} (o : Oper) (t : TypeId) (x : Operand) (ho : o.op = .call { callee := .builtin .len, args := #[x], argTypes := #[t] }) (hu : P.underlying t = some .string) :
    Pop P st o ((lenStr (mv st x)).1, gc st x ∧ (lenStr (mv st x)).2) := by
  intro g a w h ⟨hx, hd⟩
  have ex := str_ok h hx hd
  refine ⟨_, ?_, ⟨rfl, rfl⟩, trivial⟩
  simp [execOp, ho, resolve, invoke, builtin, ex, Builtin.len_, run_underlying hu, goInt]

/-! ### Addresses -/
def fldA (off : Nat) : SV → SV × Prop
  | .pv (.ptr b o) => (.pv (.ptr b (o + off)), True)
  | .pv (.iptr e rows i k) => (.pv (.iptr e rows i (k + off)), True)
  | .sptr p i k => (.sptr p i (k + off), True)
  | _ => (.pv .bot, False)

theorem fldA_ok {g : Gh} {st : St} {a : Act} {w : World} {off : Nat} {x : SV} {v : Value} (hf : SFit g w x v none) (ha : AlOk g st a w x v) (hd : (fldA off x).2) :
    ((∃ q : Addr, v = .pointer (some q) ∧ SFit g w (fldA off x).1 (.pointer (some (q.add off))) none ∧ AlOk g st a w (fldA off x).1 (.pointer (some (q.add off)))) ∨
      (∃ p i k, x = .sptr p i k ∧ ∀ nw e rows, posGet st p ≠ .own nw e rows)) := by
  unfold fldA at hd ⊢
  split at hd
  · obtain ⟨_, h1, rfl⟩ := hf
    exact .inl ⟨_, rfl, ⟨rfl, h1, by rw [Addr.add_lit]⟩, trivial⟩
  · obtain ⟨_, c, o', arr, T, fz, vs, rfl, h2, h3, h4⟩ := hf
    exact .inl ⟨_, rfl, ⟨rfl, c, o', arr, T, fz, vs, by rw [Addr.add_lit, Nat.add_assoc], h2, h3, h4⟩, trivial⟩
  · rename_i p i k
    by_cases hp : ∃ nw e rows, posGet st p = .own nw e rows
    · obtain ⟨nw, e, rows, hp⟩ := hp
      obtain ⟨c, n, cp, h1, rfl⟩ := ha nw e rows hp
      refine .inl ⟨_, rfl, rfl, fun nw' e' rows' hp' => ?_⟩
      rw [hp] at hp'; cases hp'
      exact ⟨c, n, cp, h1, by rw [Addr.add_lit, Nat.add_assoc]⟩
    · exact .inr ⟨p, i, k, rfl, fun nw e rows hh => hp ⟨nw, e, rows, hh⟩⟩
  · cases hd

/-- An address that may be followed. -/
def live (st : St) : SV → Prop
  | .sptr p _ _ => match posGet st p with
    | .own _ _ _ => True
    | _ => False
  | _ => True

theorem fldA_live {g : Gh} {st : St} {a : Act} {w : World} {off : Nat} {x : SV} {v : Value} (hf : SFit g w x v none) (ha : AlOk g st a w x v) (hd : (fldA off x).2) (hl : live st x) :
    ∃ q : Addr, v = .pointer (some q) ∧ SFit g w (fldA off x).1 (.pointer (some (q.add off))) none ∧ AlOk g st a w (fldA off x).1 (.pointer (some (q.add off))) := by
  rcases fldA_ok hf ha hd with h | ⟨p, i, k, rfl, hn⟩
  · exact h
  · unfold live at hl
    cases hps : posGet st p <;> simp only [hps] at hl
    exact absurd hps (hn _ _ _)

def fieldV (P : Program) (st : St) (t : TypeId) (f : Nat) (x : SV) : SV × Prop :=
  match fOff P t f with
  | some off => ((fldA off x).1, (fldA off x).2 ∧ live st x)
  | none => (.pv .bot, False)

theorem fieldV_ok {P : Program} {st : St} (o : Oper) (t : TypeId) (f : Nat) (x : Operand) (ho : o.op = .fieldAddr t x f) :
    Pop P st o ((fieldV P st t f (mv st x)).1, gc st x ∧ (fieldV P st t f (mv st x)).2) := by
  intro g a w h ⟨hx, hd⟩
  obtain ⟨hf, ha⟩ := mv_ok h x hx
  unfold fieldV at hd ⊢
  cases hs : fOff P t f with
  | none => rw [hs] at hd; cases hd
  | some off =>
    rw [hs] at hd
    simp only at hd ⊢
    obtain ⟨q, hv, h1, h2⟩ := fldA_live hf ha hd.1 hd.2
    refine ⟨_, ?_, h1, h2⟩
    unfold fOff at hs
    split at hs
    case h_2 => cases hs
    rename_i fs hu
    split at hs
    case h_2 => cases hs
    rename_i fd hfd
    split at hs
    case h_2 => cases hs
    rename_i i hi
    split at hs
    case isTrue => cases hs
    rename_i hne
    cases hs
    simp [execOp, ho, hv, Instr.fieldAt, run_underlying hu, hfd, Instr.sureAddr, fieldPlace, run_sizeOf hi, hne]

def idxSl (i : Nat) : SV → SV
  | .pv (.seq _ e rows) => .pv (.iptr e rows i 0)
  | .al p => .sptr p i 0
  | .loc p lo _ => .sptr p (lo + i) 0
  | _ => .pv .bot

theorem idxSl_ok {g : Gh} {st : St} {a : Act} {w : World} (h : Sim g st a w) {x : Operand} {e i : Nat} (hg : gc st x) (hs : slOk st e (mv st x)) (hi : i < (rowsOf st (mv st x)).length) :
    ∃ (q : Addr) (cap : Nat), a.eval x = .slice (some q) (rowsOf st (mv st x)).length cap ∧ SFit g w (idxSl i (mv st x)) (.pointer (some (q.add (i * e)))) none ∧ AlOk g st a w (idxSl i (mv st x)) (.pointer (some (q.add (i * e)))) := by
  obtain ⟨hf, ha⟩ := mv_ok h x hg
  unfold slOk at hs
  split at hs
  · rename_i nw e' rows hm
    subst hs
    rw [hm] at hf hi ⊢
    obtain ⟨_, q, cap, hv, _, hr⟩ := hf
    rcases hr with rfl | ⟨c, off, arr, T, fz, vs, rfl, h2, _, h3, h4⟩
    · simp [rowsOf] at hi
    · exact ⟨_, cap, hv, ⟨rfl, c, off, arr, T, fz, vs, by rw [Addr.add_lit]; simp, h2, h3, h4⟩, trivial⟩
  · rename_i v hm
    rw [hm] at hi; simp [rowsOf] at hi
  · rename_i p hm
    rw [hm] at ha hi ⊢
    split at hs
    · rename_i nw e' rows hp
      subst hs
      obtain ⟨bl, hb⟩ := h.own
      have hv := ha (by rw [hp]; rfl)
      have := pos_fit hb (p := p) (by rw [hp]; rfl)
      rw [hp] at this
      simp only [rowsOf, hp] at hi ⊢
      rcases this with ⟨_, rfl, e1⟩ | ⟨c, _, cap, arr, T, vs, e1, _⟩
      · simp at hi
      · refine ⟨_, cap, by rw [hv, e1], rfl, fun nw' e' rows' hp' => ?_⟩
        rw [hp] at hp'; cases hp'
        exact ⟨c, _, cap, e1, by rw [Addr.add_lit]; simp⟩
    · cases hs
  · rename_i p lo hi' hm
    rw [hm] at ha hi ⊢
    split at hs
    · rename_i nw e' rows hp
      subst hs
      simp only [rowsOf, hp, List.length_drop, List.length_take] at hi ⊢
      obtain ⟨h1, h2, q, cap, hv, _, hq⟩ := ha nw e' rows hp
      rcases hq with rfl | ⟨c, n, cp, hpv, rfl⟩
      · omega
      · refine ⟨_, cap, by rw [hv]; congr 1; omega, rfl, fun nw' e' rows' hp' => ?_⟩
        rw [hp] at hp'; cases hp'
        exact ⟨c, n, cp, hpv, by rw [Addr.add_lit, ← Nat.add_mul]; simp⟩
    · cases hs
  · cases hs

def idxV (P : Program) (st : St) (t : TypeId) (x i : SV) : SV × Prop :=
  match slSize P t with
  | some e => (idxSl (asI i).toNat x, slOk st e x ∧ isI i ∧ 0 ≤ asI i ∧ asI i < (rowsOf st x).length)
  | none => match arSize P t with
    | some (n, e) => ((fldA ((asI i).toNat * e) x).1, (fldA ((asI i).toNat * e) x).2 ∧ live st x ∧ isI i ∧ 0 ≤ asI i ∧ asI i < (n : Int))
    | none => (.pv .bot, False)

theorem idxV_ok {P : Program} {st : St} (o : Oper) (t : TypeId) (x i : Operand) (ho : o.op = .indexAddr t x i) :
    Pop P st o ((idxV P st t (mv st x) (mv st i)).1, gc st x ∧ gc st i ∧ (idxV P st t (mv st x) (mv st i)).2) := by
  intro g a w h ⟨hx, hgi, hd⟩
  unfold idxV at hd ⊢
  cases hs : slSize P t with
  | some e =>
    rw [hs] at hd
    simp only at hd ⊢
    obtain ⟨h1, h2, h3, h4⟩ := hd
    have ei := int_ok h hgi h2
    obtain ⟨q, cap, hv, h5, h6⟩ := idxSl_ok h hx h1 (i := (asI (mv st i)).toNat) (by omega)
    refine ⟨_, ?_, h5, h6⟩
    unfold slSize at hs
    split at hs
    case h_2 => cases hs
    rename_i el hu
    simp only [Option.map_eq_some_iff] at hs
    obtain ⟨inf, hinf, rfl⟩ := hs
    simp only [execOp, ho, hv, ei, Instr.indexAt, asIntOf, Sem.run_bind, Sem.run_pure, Result.andThen_ok, run_underlying hu, if_pos (And.intro h3 h4), run_sizeOf hinf]
  | none =>
    rw [hs] at hd
    simp only at hd ⊢
    cases hs' : arSize P t with
    | none => rw [hs'] at hd; cases hd
    | some p =>
      obtain ⟨n, e⟩ := p
      rw [hs'] at hd
      simp only at hd ⊢
      obtain ⟨h1, h2, h3, h4, h5⟩ := hd
      have ei := int_ok h hgi h3
      obtain ⟨hf, ha⟩ := mv_ok h x hx
      obtain ⟨q, hv, h6, h7⟩ := fldA_live hf ha h1 h2
      refine ⟨_, ?_, h6, h7⟩
      unfold arSize at hs'
      split at hs'
      case h_2 => cases hs'
      rename_i n' el hu
      simp only [Option.map_eq_some_iff, Prod.mk.injEq] at hs'
      obtain ⟨inf, hinf, rfl, rfl⟩ := hs'
      simp only [execOp, ho, hv, ei, Instr.indexAt, Instr.sureAddr, asIntOf, Sem.run_bind, Sem.run_pure, Result.andThen_ok, run_underlying hu, if_pos (And.intro h4 h5), run_sizeOf hinf]

/-! ### Loads -/
def cellSV (st : St) (b k : Nat) : SV :=
  match posGet st (.cell b k) with
  | .pv x => .pv x
  | .own _ _ _ => .al (.cell b k)
  | .omap _ _ => .al (.cell b k)
  | _ => .pv .bot

def ld1 (st : St) : SV → SV × Prop
  | .pv (.ptr b o) => (cellSV st b o, o < (st.h.getD b []).length)
  | .pv (.iptr e rows i k) => (.pv ((rows.getD i []).getD k .bot), i < rows.length ∧ k < e)
  | .sptr p i k => match posGet st p with
    | .own _ e rows => (.pv ((rows.getD i []).getD k .bot), i < rows.length ∧ k < e)
    | _ => (.pv .bot, False)
  | _ => (.pv .bot, False)

def isPv : SV → Prop
  | .pv _ => True
  | _ => False
def toPv : SV → PV
  | .pv x => x
  | _ => .bot

def ldn (st : St) (n : Nat) : SV → SV × Prop
  | .pv (.ptr b o) => (.pv (.agg (((st.h.getD b []).drop o).take n |>.map toPv)), o + n ≤ (st.h.getD b []).length ∧ ∀ x ∈ ((st.h.getD b []).drop o).take n, isPv x)
  | .pv (.iptr e rows i k) => (.pv (.agg (((rows.getD i []).drop k).take n)), i < rows.length ∧ k + n ≤ e)
  | .sptr p i k => match posGet st p with
    | .own _ e rows => (.pv (.agg (((rows.getD i []).drop k).take n)), i < rows.length ∧ k + n ≤ e)
    | _ => (.pv .bot, False)
  | _ => (.pv .bot, False)

def ldV (P : Program) (st : St) (t : TypeId) (x : SV) : SV × Prop :=
  match ldInfo P t with
  | some (false, _) => ld1 st x
  | some (true, n) => ldn st n x
  | none => (.pv .bot, False)

theorem isPv_eq {x : SV} (h : isPv x) : x = .pv (toPv x) := by
  unfold isPv at h; split at h
  · rfl
  · cases h

theorem run_loadVar {P : Program} {t : TypeId} {n : Nat} (w : World) (a : Addr) (vs : List Value) (h : ldInfo P t = some (true, n)) (hn : vs.length = n) (hc : ∀ j v, vs[j]? = some v → w.cell? (a.add j) = some v) :
    (loadVar t a).run P w = .ok (.agg vs.toArray) w := by
  obtain ⟨h1, h2⟩ := run_isAgg h w
  simp only [loadVar, Sem.run_bind, h1, Result.andThen_ok, if_true, h2]
  rw [← hn, run_loadCells_list w a vs hc]
  rfl

theorem run_loadVar1 {P : Program} {t : TypeId} {n : Nat} (w : World) (a : Addr) (v : Value) (h : ldInfo P t = some (false, n)) (hc : w.cell? a = some v) :
    (loadVar t a).run P w = .ok v w := by
  obtain ⟨h1, _⟩ := run_isAgg h w
  simp only [loadVar, Sem.run_bind, h1, Result.andThen_ok, Bool.false_eq_true, if_false, run_load, hc]

/-- A row of frozen or owned memory. -/
theorem row_run {g : Gh} {w : World} {e : Nat} {rows : List (List PV)} {vs : List Value} {arr : Array Value} {off c : Nat} {T : TypeId} {fz : Nat × Nat} (hc : w.heap[c]? = some (.cells arr T fz))
    (h : FitR g e rows vs) (hp : vs <+: arr.toList.drop off) {i : Nat} (hi : i < rows.length) :
    (rows.getD i []).length = e ∧ ∃ b, b.length = e ∧ FitL g (rows.getD i []) b ∧ ∀ j v, b[j]? = some v → w.cell? ⟨c, off + i * e + j, none⟩ = some v := by
  have hr : rows[i]? = some (rows.getD i []) := by simp [List.getD, List.getElem?_eq_getElem hi]
  obtain ⟨he, b, hb, hj⟩ := row_cells h hp hr
  exact ⟨he, b, by rw [hb.length, he], hb, fun j v hv => by rw [cell_of hc]; exact hj j v hv⟩

theorem row1 {P : Program} {g : Gh} {w : World} {t : TypeId} {m e : Nat} {rows : List (List PV)} {vs : List Value} {arr : Array Value} {off c : Nat} {T : TypeId} {fz : Nat × Nat} (hl : ldInfo P t = some (false, m))
    (hc : w.heap[c]? = some (.cells arr T fz)) (h : FitR g e rows vs) (hp : vs <+: arr.toList.drop off) {i k : Nat} (hi : i < rows.length) (hk : k < e) :
    ∃ v, (loadVar t ⟨c, off + i * e + k, none⟩).run P w = .ok v w ∧ Fit g ((rows.getD i []).getD k .bot) v := by
  obtain ⟨he, b, hbl, hb, hj⟩ := row_run hc h hp hi
  have hk' : k < (rows.getD i []).length := by omega
  obtain ⟨v, hv, hf⟩ := hb.get k ((rows.getD i []).getD k .bot) (by simp only [List.getD_eq_getElem?_getD]; rw [List.getElem?_eq_getElem (by simpa only [List.getD_eq_getElem?_getD] using hk')]; rfl)
  exact ⟨v, run_loadVar1 w _ v hl (hj k v hv), hf⟩

theorem rown {P : Program} {g : Gh} {w : World} {t : TypeId} {n e : Nat} {rows : List (List PV)} {vs : List Value} {arr : Array Value} {off c : Nat} {T : TypeId} {fz : Nat × Nat} (hl : ldInfo P t = some (true, n))
    (hc : w.heap[c]? = some (.cells arr T fz)) (h : FitR g e rows vs) (hp : vs <+: arr.toList.drop off) {i k : Nat} (hi : i < rows.length) (hk : k + n ≤ e) :
    ∃ v, (loadVar t ⟨c, off + i * e + k, none⟩).run P w = .ok v w ∧ Fit g (.agg (((rows.getD i []).drop k).take n)) v := by
  obtain ⟨he, b, hbl, hb, hj⟩ := row_run hc h hp hi
  refine ⟨_, run_loadVar w _ ((b.drop k).take n) hl (by simp; omega) (fun j v hv => ?_), _, rfl, by simpa using (hb.drop k).take n⟩
  rw [List.getElem?_take] at hv
  split at hv
  · rw [List.getElem?_drop] at hv
    rw [Addr.add_lit, Nat.add_assoc]
    exact hj _ v hv
  · cases hv

theorem ldV_ok {P : Program} {st : St} (o : Oper) (t : TypeId) (x : Operand) (ho : o.op = .load t x) :
    Pop P st o ((ldV P st t (mv st x)).1, gc st x ∧ (ldV P st t (mv st x)).2) := by
  intro g a w h ⟨hx, hd⟩
  obtain ⟨hf, ha⟩ := mv_ok h x hx
  obtain ⟨bl, hb⟩ := h.own
  have hrun : ∀ (q : Addr) (v : Value), a.eval x = .pointer (some q) → (loadVar t q).run P w = .ok v w → (execOp a.eval o).run P w = .ok (.value v) w := by
    intro q v he hv
    simp only [execOp, ho, he, Instr.loadAt, Instr.sureAddr, Sem.run_bind, Sem.run_pure, Result.andThen_ok, hv]
  unfold ldV at hd ⊢
  cases hl : ldInfo P t with
  | none => rw [hl] at hd; cases hd
  | some p =>
    obtain ⟨bb, n⟩ := p
    rw [hl] at hd
    cases bb with
    | false =>
      simp only at hd ⊢
      unfold ld1 at hd ⊢
      split at hd
      · rename_i b k hm
        rw [hm] at hf
        simp only [hm] at hd ⊢
        obtain ⟨_, hbn, hv⟩ := hf
        have hbl : b < st.h.length := h.n ▸ hbn
        obtain ⟨arr, T, h1, ⟨h2, _⟩, h3⟩ := hb.blocks b (st.h[b]) (List.getElem?_eq_getElem hbl)
        simp only [List.getD, List.getElem?_eq_getElem hbl, Option.getD_some] at hd
        obtain ⟨hin, hs⟩ := h3 k ((st.h[b])[k]) (List.getElem?_eq_getElem hd)
        have hval : posVal g a w (.cell b k) = arr.getD k undef := by simp [posVal, h1]
        have hrun' := hrun _ (arr.getD k undef) hv (run_loadVar1 w _ _ hl (by rw [cell_of h1]; simp [Array.getD, h2, hd]))
        have hpg : posGet st (.cell b k) = (st.h[b])[k] := by simp [posGet, List.getElem?_eq_getElem hbl, List.getElem?_eq_getElem hd]
        refine ⟨_, hrun', ?_⟩
        unfold cellSV
        rw [hpg]
        cases hsv : (st.h[b])[k] with
        | pv y => rw [hsv] at hs; exact ⟨⟨rfl, hs.2⟩, trivial⟩
        | own nw e rows => exact ⟨rfl, fun _ => hval.symm⟩
        | omap nw es => exact ⟨rfl, fun _ => hval.symm⟩
        | al p => rw [hsv] at hin; cases hin
        | loc p i j => rw [hsv] at hin; cases hin
        | sptr p i j => rw [hsv] at hin; cases hin
        | opt c y => rw [hsv] at hin; cases hin
      · rename_i e rows i k hm
        rw [hm] at hf
        simp only [hm] at hd ⊢
        obtain ⟨_, c, off, arr, T, fz, vs, hv, h2, h3, h4⟩ := hf
        obtain ⟨v, hr, hfv⟩ := row1 hl (h.I _ _ h2) h3 h4 hd.1 hd.2
        exact ⟨v, hrun _ v hv hr, ⟨rfl, hfv⟩, trivial⟩
      · rename_i p i k hm
        rw [hm] at ha
        split at hd
        · rename_i nw e rows hp
          simp only [hp]
          obtain ⟨c, n', cp, hpv, hv⟩ := ha nw e rows hp
          have := pos_fit hb (p := p) (by rw [hp]; rfl)
          rw [hp] at this
          rcases this with ⟨_, rfl, _⟩ | ⟨c', _, cap, arr, T, vs, e1, e2, _, _, e5, e6, _⟩
          · simp at hd
          · rw [e1] at hpv; cases hpv
            obtain ⟨v, hr, hfv⟩ := row1 (off := 0) hl e2 e5 (by simpa using e6) hd.1 hd.2
            refine ⟨v, hrun _ v hv (by simpa using hr), ⟨rfl, hfv⟩, trivial⟩
        · cases hd
      · cases hd
    | true =>
      simp only at hd ⊢
      unfold ldn at hd ⊢
      split at hd
      · rename_i b k hm
        rw [hm] at hf
        simp only [hm] at hd ⊢
        obtain ⟨_, hbn, hv⟩ := hf
        have hbl : b < st.h.length := h.n ▸ hbn
        obtain ⟨arr, T, h1, ⟨h2, _⟩, h3⟩ := hb.blocks b (st.h[b]) (List.getElem?_eq_getElem hbl)
        simp only [List.getD, List.getElem?_eq_getElem hbl, Option.getD_some] at hd ⊢
        have hlen : (((arr.toList).drop k).take n).length = n := by simp; omega
        refine ⟨_, hrun _ _ hv (run_loadVar w _ (((arr.toList).drop k).take n) hl hlen (fun j v hv => ?_)), ⟨rfl, _, rfl, ?_⟩, trivial⟩
        · rw [List.getElem?_take] at hv
          split at hv
          · rw [List.getElem?_drop, Array.getElem?_toList] at hv
            rw [Addr.add_lit, cell_of h1]; exact hv
          · cases hv
        · have key : ∀ (xs : List SV) (us : List Value), xs.length = us.length → (∀ x ∈ xs, isPv x) → (∀ (j : Nat) (x : SV) (u : Value), xs[j]? = some x → us[j]? = some u → ∃ b' : Option Nat, SFit g w x u b') → FitL g (xs.map toPv) us := by
            intro xs
            induction xs with
            | nil => intro us hl _ _; cases us with
              | nil => simp [FitL]
              | cons _ _ => simp at hl
            | cons x xs ih =>
              intro us hl hp hs
              cases us with
              | nil => simp at hl
              | cons u us =>
                refine ⟨u, us, rfl, ?_, ih us (by simpa using hl) (fun y hy => hp y (List.mem_cons_of_mem _ hy)) (fun j y v hy hv => hs (j + 1) y v (by simpa using hy) (by simpa using hv))⟩
                obtain ⟨b', hx⟩ := hs 0 x u rfl rfl
                rw [isPv_eq (hp x (List.mem_cons_self ..))] at hx
                exact hx.2
          refine key _ _ (by simp; omega) hd.2 (fun j x u hx hu => ?_)
          rw [List.getElem?_take] at hx hu
          split at hx
          · rename_i hj
            rw [if_pos hj] at hu
            rw [List.getElem?_drop] at hx hu
            obtain ⟨_, hs⟩ := h3 (k + j) x hx
            refine ⟨bl (.cell b (k + j)), ?_⟩
            have : arr.getD (k + j) undef = u := by
              rw [Array.getElem?_toList] at hu
              simp [Array.getD_eq_getD_getElem?, hu]
            rw [← this]; exact hs
          · cases hx
      · rename_i e rows i k hm
        rw [hm] at hf
        simp only [hm] at hd ⊢
        obtain ⟨_, c, off, arr, T, fz, vs, hv, h2, h3, h4⟩ := hf
        obtain ⟨v, hr, hfv⟩ := rown hl (h.I _ _ h2) h3 h4 hd.1 hd.2
        exact ⟨v, hrun _ v hv hr, ⟨rfl, hfv⟩, trivial⟩
      · rename_i p i k hm
        rw [hm] at ha
        split at hd
        · rename_i nw e rows hp
          simp only [hp]
          obtain ⟨c, n', cp, hpv, hv⟩ := ha nw e rows hp
          have := pos_fit hb (p := p) (by rw [hp]; rfl)
          rw [hp] at this
          rcases this with ⟨_, rfl, _⟩ | ⟨c', _, cap, arr, T, vs, e1, e2, _, _, e5, e6, _⟩
          · simp at hd
          · rw [e1] at hpv; cases hpv
            obtain ⟨v, hr, hfv⟩ := rown (off := 0) hl e2 e5 (by simpa using e6) hd.1 hd.2
            refine ⟨v, hrun _ v hv (by simpa using hr), ⟨rfl, hfv⟩, trivial⟩
        · cases hd
      · cases hd

end Go.AX
