/-
  AX, part A: what a state of a walk is, said of plain data; what it says of the machine's state.
-/
import Derived.WalkKit
namespace Go.AX

/-- Plain values: what lies in frozen memory is written out. -/
inductive PV where
  | bot
  | lit (v : Value)
  | agg (xs : List PV)
  | tup (xs : List PV)
  | seq (nw : Bool) (e : Nat) (rows : List (List PV))
  | iptr (e : Nat) (rows : List (List PV)) (i k : Nat)
  | ptr (b off : Nat)
  | fn (f : Fn) (first cap : List PV)
  | amap (nw : Bool) (es : List (Int × PV))
  | ifc (t : TypeId) (x : PV)

/-- A place of a walk's state: a slot, or a cell of a block of its own. -/
inductive Pos where
  | slot (s : Nat)
  | cell (b k : Nat)
  deriving DecidableEq

/-- What a slot or a cell holds. -/
inductive SV where
  | pv (x : PV)
  | own (nw : Bool) (e : Nat) (rows : List (List PV))
  | omap (nw : Bool) (es : List (Int × PV))
  | al (p : Pos)
  | loc (p : Pos) (lo hi : Nat)
  | sptr (p : Pos) (i k : Nat)
  | opt (c : Prop) (x : SV)

/-- A walk's state: slots by their numbers; blocks. -/
structure St where
  t : List (Nat × SV)
  h : List (List SV)

/-- What a walk never turns: the world outside. -/
def envOf (w : World) : Os × (Nat → Question → Nat) × Array (Nat × ByteArray) := (w.os, w.tape, w.output)

/-- The ghost part: frozen memory, memory that is kept, where new memory begins, where blocks lie. -/
structure Gh where
  I : Nat → Option Obj
  F : Nat → Option Obj
  B : Nat
  μ : Nat → Nat
  n : Nat
  n0 : Nat
  N : Nat
  env : Os × (Nat → Question → Nat) × Array (Nat × ByteArray)

mutual
def Fit (g : Gh) : PV → Value → Prop
  | .bot, _ => True
  | .lit x, v => v = x
  | .agg xs, v => ∃ vs : Array Value, v = .agg vs ∧ FitL g xs vs.toList
  | .tup xs, v => ∃ vs : Array Value, v = .tuple vs ∧ FitL g xs vs.toList
  | .seq nw e rows, v => ∃ p cap, v = .slice p rows.length cap ∧ rows.length ≤ cap ∧ (rows = [] ∨ ∃ c off arr T fz vs, p = some ⟨c, off, none⟩ ∧ g.I c = some (.cells arr T fz) ∧ (nw = true → g.B ≤ c) ∧ FitR g e rows vs ∧ vs <+: arr.toList.drop off)
  | .iptr e rows i k, v => ∃ c off arr T fz vs, v = .pointer (some ⟨c, off + i * e + k, none⟩) ∧ g.I c = some (.cells arr T fz) ∧ FitR g e rows vs ∧ vs <+: arr.toList.drop off
  | .ptr b off, v => b < g.n ∧ v = .pointer (some ⟨g.μ b, off, none⟩)
  | .fn f first cap, v => ∃ a b : Array Value, v = .func f a b ∧ FitL g first a.toList ∧ FitL g cap b.toList
  | .amap nw es, v => (es = [] ∧ v = .map none) ∨ ∃ r entries clock, v = .map (some r) ∧ g.I r = some (.map entries clock) ∧ (nw = true → g.B ≤ r) ∧ FitE g es entries.toList
  | .ifc t x, v => ∃ y, v = .iface t y ∧ Fit g x y
def FitL (g : Gh) : List PV → List Value → Prop
  | [], vs => vs = []
  | x :: xs, vs => ∃ v r, vs = v :: r ∧ Fit g x v ∧ FitL g xs r
def FitR (g : Gh) (e : Nat) : List (List PV) → List Value → Prop
  | [], vs => vs = []
  | row :: rows, vs => ∃ v1 v2, vs = v1 ++ v2 ∧ (row.length = e ∧ ∀ v ∈ v1, v.oneCell' = true) ∧ FitL g row v1 ∧ FitR g e rows v2
def FitE (g : Gh) : List (Int × PV) → List MapEntry → Prop
  | [], es => es = []
  | (k, x) :: xs, es => ∃ m r, es = m :: r ∧ m.key = .int .i64 k ∧ Fit g x m.val ∧ FitE g xs r
end

/-- g' tells at least what g tells. -/
structure Gh.le (g g' : Gh) : Prop where
  I : ∀ c o, g.I c = some o → g'.I c = some o
  B : g'.B ≤ g.B
  n : g.n ≤ g'.n
  μ : ∀ b, b < g.n → g'.μ b = g.μ b

theorem Gh.le.refl (g : Gh) : g.le g := ⟨fun _ _ h => h, Nat.le_refl _, Nat.le_refl _, fun _ _ => rfl⟩

mutual
theorem Fit.mono {g g' : Gh} (hl : g.le g') : ∀ (x : PV) (v : Value), Fit g x v → Fit g' x v
  | .bot, _, _ => trivial
  | .lit _, _, h => h
  | .agg xs, v, ⟨vs, h1, h2⟩ => ⟨vs, h1, FitL.mono hl xs _ h2⟩
  | .tup xs, v, ⟨vs, h1, h2⟩ => ⟨vs, h1, FitL.mono hl xs _ h2⟩
  | .seq nw e rows, v, ⟨p, cap, h1, hc, h2⟩ => ⟨p, cap, h1, hc, h2.imp id fun ⟨c, off, arr, T, fz, vs, a, b, n, r, q⟩ => ⟨c, off, arr, T, fz, vs, a, hl.I _ _ b, fun hn => Nat.le_trans hl.B (n hn), FitR.mono hl e rows vs r, q⟩⟩
  | .iptr e rows i k, v, ⟨c, off, arr, T, fz, vs, a, b, r, q⟩ => ⟨c, off, arr, T, fz, vs, a, hl.I _ _ b, FitR.mono hl e rows vs r, q⟩
  | .ptr b off, v, ⟨h1, h2⟩ => ⟨Nat.lt_of_lt_of_le h1 hl.n, by rw [hl.μ b h1]; exact h2⟩
  | .fn f first cap, v, ⟨a, b, h1, h2, h3⟩ => ⟨a, b, h1, FitL.mono hl first _ h2, FitL.mono hl cap _ h3⟩
  | .amap nw es, v, h => h.imp id fun ⟨r, en, ck, a, b, n, q⟩ => ⟨r, en, ck, a, hl.I _ _ b, fun hn => Nat.le_trans hl.B (n hn), FitE.mono hl es _ q⟩
  | .ifc t x, v, ⟨y, h1, h2⟩ => ⟨y, h1, Fit.mono hl x y h2⟩
theorem FitL.mono {g g' : Gh} (hl : g.le g') : ∀ (xs : List PV) (vs : List Value), FitL g xs vs → FitL g' xs vs
  | [], _, h => h
  | x :: xs, vs, ⟨v, r, h1, h2, h3⟩ => ⟨v, r, h1, Fit.mono hl x v h2, FitL.mono hl xs r h3⟩
theorem FitR.mono {g g' : Gh} (hl : g.le g') (e : Nat) : ∀ (rows : List (List PV)) (vs : List Value), FitR g e rows vs → FitR g' e rows vs
  | [], _, h => h
  | row :: rows, vs, ⟨v1, v2, h1, h2, h3, h4⟩ => ⟨v1, v2, h1, h2, FitL.mono hl row v1 h3, FitR.mono hl e rows v2 h4⟩
theorem FitE.mono {g g' : Gh} (hl : g.le g') : ∀ (es : List (Int × PV)) (en : List MapEntry), FitE g es en → FitE g' es en
  | [], _, h => h
  | (k, x) :: es, en, ⟨m, r, h1, h2, h3, h4⟩ => ⟨m, r, h1, h2, Fit.mono hl x m.val h3, FitE.mono hl es r h4⟩
end

theorem FitL.length {g : Gh} : ∀ {xs : List PV} {vs : List Value}, FitL g xs vs → vs.length = xs.length
  | [], _, h => by simp only [FitL] at h; simp [h]
  | _ :: _, _, ⟨_, _, h1, _, h3⟩ => by simp [h1, FitL.length h3]

theorem FitL.get {g : Gh} : ∀ {xs : List PV} {vs : List Value} (_ : FitL g xs vs) (i : Nat) (x : PV), xs[i]? = some x → ∃ v, vs[i]? = some v ∧ Fit g x v
  | [], _, _, i, x, h => by simp at h
  | y :: xs, _, ⟨v, r, h1, h2, h3⟩, 0, x, h => by simp at h; subst h; exact ⟨v, by simp [h1], h2⟩
  | y :: xs, _, ⟨v, r, h1, h2, h3⟩, i + 1, x, h => by
    simp at h; obtain ⟨v', e1, e2⟩ := FitL.get h3 i x h; exact ⟨v', by simp [h1, e1], e2⟩

theorem FitL.append {g : Gh} : ∀ {xs ys : List PV} {vs us : List Value}, FitL g xs vs → FitL g ys us → FitL g (xs ++ ys) (vs ++ us)
  | [], _, _, _, h, h' => by simp only [FitL] at h; subst h; exact h'
  | _ :: _, _, _, _, ⟨v, r, h1, h2, h3⟩, h' => ⟨v, _, by simp [h1], h2, FitL.append h3 h'⟩

theorem FitL.split {g : Gh} : ∀ {xs ys : List PV} {vs : List Value}, FitL g (xs ++ ys) vs → ∃ v1 v2, vs = v1 ++ v2 ∧ FitL g xs v1 ∧ FitL g ys v2
  | [], _, vs, h => ⟨[], vs, rfl, rfl, h⟩
  | _ :: _, _, _, ⟨v, r, h1, h2, h3⟩ => by
    obtain ⟨v1, v2, e, a, b⟩ := FitL.split h3
    exact ⟨v :: v1, v2, by simp [h1, e], ⟨v, v1, rfl, h2, a⟩, b⟩

theorem FitR.length {g : Gh} {e : Nat} : ∀ {rows : List (List PV)} {vs : List Value}, FitR g e rows vs → vs.length = rows.length * e
  | [], _, h => by simp only [FitR] at h; simp [h]
  | row :: rows, _, ⟨v1, v2, h1, h2, h3, h4⟩ => by
    rw [h1, List.length_append, h3.length, h2.1, FitR.length h4, List.length_cons, Nat.succ_mul]; omega

/-- A row's part of the cells. -/
theorem FitR.get {g : Gh} {e : Nat} : ∀ {rows : List (List PV)} {vs : List Value} (_ : FitR g e rows vs) (i : Nat) (row : List PV), rows[i]? = some row →
    row.length = e ∧ ∃ a b c, vs = a ++ b ++ c ∧ a.length = i * e ∧ FitL g row b
  | [], _, _, i, row, h => by simp at h
  | r0 :: rows, _, ⟨v1, v2, h1, h2, h3, h4⟩, 0, row, h => by
    simp at h; subst h; exact ⟨h2.1, [], v1, v2, by simp [h1], by simp, h3⟩
  | r0 :: rows, _, ⟨v1, v2, h1, h2, h3, h4⟩, i + 1, row, h => by
    simp at h
    obtain ⟨he, a, b, c, e1, e2, e3⟩ := FitR.get h4 i row h
    exact ⟨he, v1 ++ a, b, c, by simp [h1, e1], by rw [List.length_append, h3.length, h2.1, e2, Nat.succ_mul]; omega, e3⟩

theorem FitR.append {g : Gh} {e : Nat} : ∀ {xs ys : List (List PV)} {vs us : List Value}, FitR g e xs vs → FitR g e ys us → FitR g e (xs ++ ys) (vs ++ us)
  | [], _, _, _, h, h' => by simp only [FitR] at h; subst h; exact h'
  | _ :: _, _, _, _, ⟨v1, v2, h1, h2, h3, h4⟩, h' => ⟨v1, _, by simp [h1], h2, h3, FitR.append h4 h'⟩

theorem FitR.split {g : Gh} {e : Nat} : ∀ {xs ys : List (List PV)} {vs : List Value}, FitR g e (xs ++ ys) vs → ∃ v1 v2, vs = v1 ++ v2 ∧ FitR g e xs v1 ∧ FitR g e ys v2
  | [], _, vs, h => ⟨[], vs, rfl, rfl, h⟩
  | _ :: _, _, _, ⟨v1, v2, h1, h2, h3, h4⟩ => by
    obtain ⟨u1, u2, e1, a, b⟩ := FitR.split h4
    exact ⟨v1 ++ u1, u2, by simp [h1, e1], ⟨v1, u1, rfl, h2, h3, a⟩, b⟩

theorem FitR.one {g : Gh} {e : Nat} : ∀ {rows : List (List PV)} {vs : List Value}, FitR g e rows vs → ∀ v ∈ vs, v.oneCell' = true
  | [], _, h => by simp only [FitR] at h; subst h; simp
  | _ :: _, _, ⟨v1, v2, h1, h2, _, h4⟩ => by
    subst h1
    intro v hv
    rcases List.mem_append.1 hv with hv | hv
    · exact h2.2 v hv
    · exact FitR.one h4 v hv

theorem FitL.set {g : Gh} : ∀ {xs : List PV} {vs : List Value} (_ : FitL g xs vs) (k : Nat) (x : PV) (v : Value), Fit g x v → FitL g (xs.set k x) (vs.set k v)
  | [], _, h, _, _, _, _ => by simp only [FitL] at h; subst h; simp [FitL]
  | _ :: _, _, ⟨_, r, h1, _, h3⟩, 0, _, v, hx => by subst h1; exact ⟨v, r, rfl, hx, h3⟩
  | _ :: _, _, ⟨u, _, h1, h2, h3⟩, k + 1, x, v, hx => by subst h1; exact ⟨u, _, rfl, h2, FitL.set h3 k x v hx⟩

theorem FitR.set {g : Gh} {e : Nat} : ∀ {rows : List (List PV)} {vs : List Value} (_ : FitR g e rows vs) (i k : Nat) (row : List PV) (x : PV) (v : Value), rows[i]? = some row → k < e → v.oneCell' = true → Fit g x v →
    FitR g e (rows.set i (row.set k x)) (vs.set (i * e + k) v)
  | [], _, _, i, k, row, x, v, h, _, _, _ => by simp at h
  | r0 :: rows, _, ⟨v1, v2, h1, h2, h3, h4⟩, 0, k, row, x, v, h, hk, ho, hx => by
    simp at h; subst h
    refine ⟨v1.set k v, v2, ?_, ⟨by simp [h2.1], fun u hu => (List.mem_or_eq_of_mem_set hu).elim (h2.2 u) (fun e => e ▸ ho)⟩, ?_, h4⟩
    · rw [h1]; simp; rw [List.set_append_left]; rw [h3.length]; omega
    · exact FitL.set h3 k x v hx
  | r0 :: rows, _, ⟨v1, v2, h1, h2, h3, h4⟩, i + 1, k, row, x, v, h, hk, ho, hx => by
    simp at h
    refine ⟨v1, v2.set (i * e + k) v, ?_, h2, h3, FitR.set h4 i k row x v h hk ho hx⟩
    rw [h1, List.set_append_right]
    · congr 2; rw [h3.length, h2.1, Nat.succ_mul]; omega
    · rw [h3.length, h2.1, Nat.succ_mul]; omega

theorem FitE.length {g : Gh} : ∀ {es : List (Int × PV)} {en : List MapEntry}, FitE g es en → en.length = es.length
  | [], _, h => by simp only [FitE] at h; simp [h]
  | _ :: _, _, ⟨_, _, h1, _, _, h4⟩ => by simp [h1, FitE.length h4]

/-! ### Slots -/
def look : List (Nat × SV) → Nat → SV
  | [], _ => .pv .bot
  | (j, v) :: r, k => if j = k then v else look r k

def posGet (st : St) : Pos → SV
  | .slot s => look st.t s
  | .cell b k => (st.h.getD b []).getD k (.pv .bot)

/-- A slice that owns its block. -/
def OwnAt (g : Gh) (w : World) (nw : Bool) (e : Nat) (rows : List (List PV)) (v : Value) (c : Nat) : Prop :=
  ∃ cap arr T vs, v = .slice (some ⟨c, 0, none⟩) rows.length cap ∧ w.heap[c]? = some (.cells arr T (0, 0)) ∧ arr.size = cap * e ∧ (rows.length ≤ cap ∧ cap ≤ maxLen) ∧ FitR g e rows vs ∧ vs <+: arr.toList ∧ (nw = true → g.B ≤ c)

/-- A map that owns its block. -/
def MapAt (g : Gh) (w : World) (nw : Bool) (es : List (Int × PV)) (v : Value) (c : Nat) : Prop :=
  ∃ entries clock, v = .map (some c) ∧ w.heap[c]? = some (.map entries clock) ∧ FitE g es entries.toList ∧ (nw = true → g.B ≤ c)

def SFit (g : Gh) (w : World) : SV → Value → Option Nat → Prop
  | .pv x, v, bl => bl = none ∧ Fit g x v
  | .own nw e rows, v, bl => (bl = none ∧ rows = [] ∧ v = .slice none 0 0) ∨ ∃ c, bl = some c ∧ OwnAt g w nw e rows v c
  | .omap nw es, v, bl => ∃ c, bl = some c ∧ MapAt g w nw es v c
  | .opt c x, v, bl => bl = none ∧ (¬ c → v = undef) ∧ (c → SFit g w x v none)
  | .al _, _, bl => bl = none
  | .loc _ _ _, _, bl => bl = none
  | .sptr _ _ _, _, bl => bl = none

def SV.isOwn : SV → Bool
  | .own .. => true
  | .omap .. => true
  | _ => false

/-- What a cell may hold. -/
def SV.inCell : SV → Bool
  | .pv _ => true
  | .own .. => true
  | .omap .. => true
  | _ => false

def posVal (g : Gh) (a : Act) (w : World) : Pos → Value
  | .slot s => a.tmps.getD s undef
  | .cell b k => match w.heap[g.μ b]? with
    | some (.cells arr _ _) => arr.getD k undef
    | _ => undef

/-- A name for what lies elsewhere. -/
def AlOk (g : Gh) (st : St) (a : Act) (w : World) : SV → Value → Prop
  | .al p, v => (posGet st p).isOwn = true → v = posVal g a w p
  | .loc p lo hi, v => ∀ nw e rows, posGet st p = .own nw e rows → lo ≤ hi ∧ hi ≤ rows.length ∧ ∃ q cap, v = .slice q (hi - lo) cap ∧ hi - lo ≤ cap ∧ (lo = hi ∨ ∃ c n cp, posVal g a w p = .slice (some ⟨c, 0, none⟩) n cp ∧ q = some ⟨c, lo * e, none⟩)
  | .sptr p i k, v => ∀ nw e rows, posGet st p = .own nw e rows → ∃ c n cp, posVal g a w p = .slice (some ⟨c, 0, none⟩) n cp ∧ v = .pointer (some ⟨c, i * e + k, none⟩)
  | .opt c x, v => c → AlOk g st a w x v
  | _, _ => True

/-- Who owns which block. -/
structure Owns (g : Gh) (st : St) (a : Act) (w : World) (bl : Pos → Option Nat) : Prop where
  slots : ∀ s, SFit g w (look st.t s) (a.tmps.getD s undef) (bl (.slot s))
  blocks : ∀ b xs, st.h[b]? = some xs → ∃ arr T, w.heap[g.μ b]? = some (.cells arr T (0, 0)) ∧ (arr.size = xs.length ∧ ∀ v ∈ arr.toList, v.oneCell' = true) ∧
    ∀ k x, xs[k]? = some x → x.inCell = true ∧ SFit g w x (arr.getD k undef) (bl (.cell b k))
  inj : ∀ p q c, bl p = some c → bl q = some c → p = q
  free : ∀ p c, bl p = some c → g.I c = none ∧ g.F c = none ∧ c < w.heap.size ∧ ∀ b, b < g.n → g.μ b ≠ c

structure Sim (g : Gh) (st : St) (a : Act) (w : World) : Prop where
  size : a.tmps.size = g.N
  defs : a.defers = []
  env : envOf w = g.env
  n : g.n = st.h.length
  n0 : g.n0 ≤ g.n
  B : g.B ≤ w.heap.size
  I : ∀ c o, g.I c = some o → w.heap[c]? = some o
  F : ∀ c o, g.F c = some o → w.heap[c]? = some o
  μI : ∀ b, b < g.n → g.I (g.μ b) = none ∧ g.F (g.μ b) = none
  μinj : ∀ b b', b < g.n → b' < g.n → g.μ b = g.μ b' → b = b'
  own : ∃ bl, Owns g st a w bl
  al : ∀ s, AlOk g st a w (look st.t s) (a.tmps.getD s undef)

/-- What may become of the ghost part. -/
structure Gh.to (g g' : Gh) : Prop where
  I : ∀ c o, g.I c = some o → g'.I c = some o
  F : g'.F = g.F
  B : g'.B = g.B
  n0 : g'.n0 = g.n0
  N : g'.N = g.N
  env : g'.env = g.env
  n : g.n0 ≤ g'.n
  μ : ∀ b, b < g.n0 → g'.μ b = g.μ b
  FI : ∀ c, g.F c ≠ none → g.I c = none → g'.I c = none

theorem Gh.to.trans {a b c : Gh} (h : a.to b) (h' : b.to c) : a.to c :=
  ⟨fun k o x => h'.I _ _ (h.I _ _ x), h'.F.trans h.F, h'.B.trans h.B, h'.n0.trans h.n0, h'.N.trans h.N, h'.env.trans h.env, by have := h'.n; rw [h.n0] at this; exact this,
   fun b hb => by rw [h'.μ b (by rw [h.n0]; exact hb), h.μ b hb], fun c hF hI => h'.FI c (by rw [h.F]; exact hF) (h.FI c hF hI)⟩

end Go.AX
