/-
  AX, part A: what a state of a walk is, said of plain data; what it says of the machine's state.
  AX, part B: operations that only read: what they yield, of plain data.
  AX, part C: operations that read memory.
  AX, part D: the other operations that only read; what any of them yields.
  AX, part E: what changes a walk's state.
  AX, part V: operations that only read, more of them: structs that are built, indexes, functions that are made, the least and the greatest, maps that are looked into.
  AX, part F: what any operation that only reads yields; slots and blocks in a run of operations.
  AX, part G: operations that make memory, or write it.
  AX, part H: slices that are made, and grow.
  AX, part I: calls of functions that change nothing.
-/
import Derived.WalkKit
import Derived.MapKept
import Derived.ChangeKeysEq
import Derived.WalkSpells
namespace Go.AX
inductive PV where
  | bot
  | lit (v : Value)
  | agg (xs : List PV)
  | tup (xs : List PV)
  | seq (nw : Bool) (e : Nat) (rows : List (List PV))
  | iptr (e : Nat) (rows : List (List PV)) (i k : Nat)
  | ptr (b off : Nat)
  | bsl (b e off n cap : Nat)
  | fn (f : Fn) (first cap : List PV)
  | amap (nw : Bool) (es : List (Int × PV))
  | ifc (t : TypeId) (x : PV)
inductive Pos where
  | slot (s : Nat)
  | cell (b k : Nat)
  deriving DecidableEq
inductive SV where
  | pv (x : PV)
  | own (nw : Bool) (e : Nat) (rows : List (List PV))
  | omap (nw : Bool) (es : List (Int × PV))
  | al (p : Pos)
  | loc (p : Pos) (lo hi : Nat)
  | sptr (p : Pos) (i k : Nat)
  | agl (xs : List (PV × Option Pos))
  | opt (c : Prop) (x : SV)
structure St where
  t : List (Nat × SV)
  h : List (List SV)
def envOf (w : World) : Os × (Nat → Question → Nat) × Array (Nat × ByteArray) := (w.os, w.tape, w.output)
structure Gh where
  I : Nat → Option Obj
  F : Nat → Option Obj
  B : Nat
  μ : Nat → Nat
  n : Nat
  n0 : Nat
  N : Nat
  env : Os × (Nat → Question → Nat) × Array (Nat × ByteArray)
mutual
def Fit (g : Gh) : PV → Value → Prop
  | .bot, _ => True
  | .lit x, v => v = x
  | .agg xs, v => ∃ vs : Array Value, v = .agg vs ∧ FitL g xs vs.toList
  | .tup xs, v => ∃ vs : Array Value, v = .tuple vs ∧ FitL g xs vs.toList
  | .seq nw e rows, v => ∃ p cap, v = .slice p rows.length cap ∧ rows.length ≤ cap ∧ (rows = [] ∨ ∃ c off arr T fz vs, p = some ⟨c, off, none⟩ ∧ g.I c = some (.cells arr T fz) ∧ (nw = true → g.B ≤ c) ∧ FitR g e rows vs ∧ vs <+: arr.toList.drop off)
  | .iptr e rows i k, v => ∃ c off arr T fz vs, v = .pointer (some ⟨c, off + i * e + k, none⟩) ∧ g.I c = some (.cells arr T fz) ∧ FitR g e rows vs ∧ vs <+: arr.toList.drop off
  | .ptr b off, v => b < g.n ∧ v = .pointer (some ⟨g.μ b, off, none⟩)
  | .bsl b _ off n cap, v => b < g.n ∧ n ≤ cap ∧ v = .slice (some ⟨g.μ b, off, none⟩) n cap
  | .fn f first cap, v => ∃ a b : Array Value, v = .func f a b ∧ FitL g first a.toList ∧ FitL g cap b.toList
  | .amap nw es, v => ∃ r entries clock, v = .map (some r) ∧ g.I r = some (.map entries clock) ∧ (nw = true → g.B ≤ r) ∧ FitE g es entries.toList ∧ MapKept.Stamped entries clock
  | .ifc t x, v => ∃ y, v = .iface t y ∧ Fit g x y
def FitL (g : Gh) : List PV → List Value → Prop
  | [], vs => vs = []
  | x :: xs, vs => ∃ v r, vs = v :: r ∧ Fit g x v ∧ FitL g xs r
def FitR (g : Gh) (e : Nat) : List (List PV) → List Value → Prop
  | [], vs => vs = []
  | row :: rows, vs => ∃ v1 v2, vs = v1 ++ v2 ∧ (row.length = e ∧ ∀ v ∈ v1, v.oneCell' = true) ∧ FitL g row v1 ∧ FitR g e rows v2
def FitE (g : Gh) : List (Int × PV) → List MapEntry → Prop
  | [], es => es = []
  | (k, x) :: xs, es => ∃ m r, es = m :: r ∧ m.key = .int .i64 k ∧ Fit g x m.val ∧ FitE g xs r
end
structure Gh.le (g g' : Gh) : Prop where
  I : ∀ c o, g.I c = some o → g'.I c = some o
  B : g'.B ≤ g.B
  n : g.n ≤ g'.n
  μ : ∀ b, b < g.n → g'.μ b = g.μ b
theorem Gh.le.refl (g : Gh) : g.le g := ⟨fun _ _ h => h, Nat.le_refl _, Nat.le_refl _, fun _ _ => rfl⟩
mutual
theorem Fit.mono {g g' : Gh} (hl : g.le g') : ∀ (x : PV) (v : Value), Fit g x v → Fit g' x v
  | .bot, _, _ => trivial
  | .lit _, _, h => h
  | .agg xs, v, ⟨vs, h1, h2⟩ => ⟨vs, h1, FitL.mono hl xs _ h2⟩
  | .tup xs, v, ⟨vs, h1, h2⟩ => ⟨vs, h1, FitL.mono hl xs _ h2⟩
  | .seq nw e rows, v, ⟨p, cap, h1, hc, h2⟩ => ⟨p, cap, h1, hc, h2.imp id fun ⟨c, off, arr, T, fz, vs, a, b, n, r, q⟩ => ⟨c, off, arr, T, fz, vs, a, hl.I _ _ b, fun hn => Nat.le_trans hl.B (n hn), FitR.mono hl e rows vs r, q⟩⟩
  | .iptr e rows i k, v, ⟨c, off, arr, T, fz, vs, a, b, r, q⟩ => ⟨c, off, arr, T, fz, vs, a, hl.I _ _ b, FitR.mono hl e rows vs r, q⟩
  | .ptr b off, v, ⟨h1, h2⟩ => ⟨Nat.lt_of_lt_of_le h1 hl.n, by rw [hl.μ b h1]; exact h2⟩
  | .bsl b _ off _ _, v, ⟨h1, h2⟩ => ⟨Nat.lt_of_lt_of_le h1 hl.n, by rw [hl.μ b h1]; exact h2⟩
  | .fn f first cap, v, ⟨a, b, h1, h2, h3⟩ => ⟨a, b, h1, FitL.mono hl first _ h2, FitL.mono hl cap _ h3⟩
  | .amap nw es, v, ⟨r, en, ck, a, b, n, q⟩ => ⟨r, en, ck, a, hl.I _ _ b, fun hn => Nat.le_trans hl.B (n hn), FitE.mono hl es _ q.1, q.2⟩
  | .ifc t x, v, ⟨y, h1, h2⟩ => ⟨y, h1, Fit.mono hl x y h2⟩
theorem FitL.mono {g g' : Gh} (hl : g.le g') : ∀ (xs : List PV) (vs : List Value), FitL g xs vs → FitL g' xs vs
  | [], _, h => h
  | x :: xs, vs, ⟨v, r, h1, h2, h3⟩ => ⟨v, r, h1, Fit.mono hl x v h2, FitL.mono hl xs r h3⟩
theorem FitR.mono {g g' : Gh} (hl : g.le g') (e : Nat) : ∀ (rows : List (List PV)) (vs : List Value), FitR g e rows vs → FitR g' e rows vs
  | [], _, h => h
  | row :: rows, vs, ⟨v1, v2, h1, h2, h3, h4⟩ => ⟨v1, v2, h1, h2, FitL.mono hl row v1 h3, FitR.mono hl e rows v2 h4⟩
theorem FitE.mono {g g' : Gh} (hl : g.le g') : ∀ (es : List (Int × PV)) (en : List MapEntry), FitE g es en → FitE g' es en
  | [], _, h => h
  | (k, x) :: es, en, ⟨m, r, h1, h2, h3, h4⟩ => ⟨m, r, h1, h2, Fit.mono hl x m.val h3, FitE.mono hl es r h4⟩
end
theorem FitL.length {g : Gh} : ∀ {xs : List PV} {vs : List Value}, FitL g xs vs → vs.length = xs.length
 | [], _, h => by simp only [FitL] at h; simp [h]
 | _ :: _, _, ⟨_, _, h1, _, h3⟩ => by simp [h1, FitL.length h3]
theorem FitL.get {g : Gh} : ∀ {xs : List PV} {vs : List Value} (_ : FitL g xs vs) (i : Nat) (x : PV), xs[i]? = some x → ∃ v, vs[i]? = some v ∧ Fit g x v
 | [], _, _, i, x, h => by simp at h
 | y :: xs, _, ⟨v, r, h1, h2, h3⟩, 0, x, h => by simp at h; subst h; exact ⟨v, by simp [h1], h2⟩
 | y :: xs, _, ⟨v, r, h1, h2, h3⟩, i + 1, x, h => by
  simp at h; obtain ⟨v', e1, e2⟩ := FitL.get h3 i x h; exact ⟨v', by simp [h1, e1], e2⟩
theorem FitL.append {g : Gh} : ∀ {xs ys : List PV} {vs us : List Value}, FitL g xs vs → FitL g ys us → FitL g (xs ++ ys) (vs ++ us)
 | [], _, _, _, h, h' => by simp only [FitL] at h; subst h; exact h'
 | _ :: _, _, _, _, ⟨v, r, h1, h2, h3⟩, h' => ⟨v, _, by simp [h1], h2, FitL.append h3 h'⟩
theorem FitL.split {g : Gh} : ∀ {xs ys : List PV} {vs : List Value}, FitL g (xs ++ ys) vs → ∃ v1 v2, vs = v1 ++ v2 ∧ FitL g xs v1 ∧ FitL g ys v2
 | [], _, vs, h => ⟨[], vs, rfl, rfl, h⟩
 | _ :: _, _, _, ⟨v, r, h1, h2, h3⟩ => by
  obtain ⟨v1, v2, e, a, b⟩ := FitL.split h3; exact ⟨v :: v1, v2, by simp [h1, e], ⟨v, v1, rfl, h2, a⟩, b⟩
theorem FitR.length {g : Gh} {e : Nat} : ∀ {rows : List (List PV)} {vs : List Value}, FitR g e rows vs → vs.length = rows.length * e
 | [], _, h => by simp only [FitR] at h; simp [h]
 | row :: rows, _, ⟨v1, v2, h1, h2, h3, h4⟩ => by
  rw [h1, List.length_append, h3.length, h2.1, FitR.length h4, List.length_cons, Nat.succ_mul]; omega
theorem FitR.get {g : Gh} {e : Nat} : ∀ {rows : List (List PV)} {vs : List Value} (_ : FitR g e rows vs) (i : Nat) (row : List PV), rows[i]? = some row →
 row.length = e ∧ ∃ a b c, vs = a ++ b ++ c ∧ a.length = i * e ∧ FitL g row b
 | [], _, _, i, row, h => by simp at h
 | r0 :: rows, _, ⟨v1, v2, h1, h2, h3, h4⟩, 0, row, h => by
  simp at h; subst h; exact ⟨h2.1, [], v1, v2, by simp [h1], by simp, h3⟩
 | r0 :: rows, _, ⟨v1, v2, h1, h2, h3, h4⟩, i + 1, row, h => by
  simp at h; obtain ⟨he, a, b, c, e1, e2, e3⟩ := FitR.get h4 i row h; exact ⟨he, v1 ++ a, b, c, by simp [h1, e1], by rw [List.length_append, h3.length, h2.1, e2, Nat.succ_mul]; omega, e3⟩
theorem FitR.append {g : Gh} {e : Nat} : ∀ {xs ys : List (List PV)} {vs us : List Value}, FitR g e xs vs → FitR g e ys us → FitR g e (xs ++ ys) (vs ++ us)
 | [], _, _, _, h, h' => by simp only [FitR] at h; subst h; exact h'
 | _ :: _, _, _, _, ⟨v1, v2, h1, h2, h3, h4⟩, h' => ⟨v1, _, by simp [h1], h2, h3, FitR.append h4 h'⟩
theorem FitR.split {g : Gh} {e : Nat} : ∀ {xs ys : List (List PV)} {vs : List Value}, FitR g e (xs ++ ys) vs → ∃ v1 v2, vs = v1 ++ v2 ∧ FitR g e xs v1 ∧ FitR g e ys v2
 | [], _, vs, h => ⟨[], vs, rfl, rfl, h⟩
 | _ :: _, _, _, ⟨v1, v2, h1, h2, h3, h4⟩ => by
  obtain ⟨u1, u2, e1, a, b⟩ := FitR.split h4; exact ⟨v1 ++ u1, u2, by simp [h1, e1], ⟨v1, u1, rfl, h2, h3, a⟩, b⟩
theorem FitR.one {g : Gh} {e : Nat} : ∀ {rows : List (List PV)} {vs : List Value}, FitR g e rows vs → ∀ v ∈ vs, v.oneCell' = true
 | [], _, h => by simp only [FitR] at h; subst h; simp
 | _ :: _, _, ⟨v1, v2, h1, h2, _, h4⟩ => by
  subst h1; intro v hv; rcases List.mem_append.1 hv with hv | hv
  ·exact h2.2 v hv
  ·exact FitR.one h4 v hv
theorem FitL.set {g : Gh} : ∀ {xs : List PV} {vs : List Value} (_ : FitL g xs vs) (k : Nat) (x : PV) (v : Value), Fit g x v → FitL g (xs.set k x) (vs.set k v)
 | [], _, h, _, _, _, _ => by simp only [FitL] at h; subst h; simp [FitL]
 | _ :: _, _, ⟨_, r, h1, _, h3⟩, 0, _, v, hx => by subst h1; exact ⟨v, r, rfl, hx, h3⟩
 | _ :: _, _, ⟨u, _, h1, h2, h3⟩, k + 1, x, v, hx => by subst h1; exact ⟨u, _, rfl, h2, FitL.set h3 k x v hx⟩
theorem one_splice {xs ys : List Value} {k : Nat} (h : ∀ v ∈ xs, v.oneCell' = true) (h' : ∀ v ∈ ys, v.oneCell' = true) (n : Nat) : ∀ v ∈ xs.take k ++ ys ++ xs.drop n, v.oneCell' = true := by
 intro v hv; simp only [List.mem_append] at hv; rcases hv with (hv | hv) | hv
 ·exact h v (List.mem_of_mem_take hv)
 ·exact h' v hv
 ·exact h v (List.mem_of_mem_drop hv)
theorem one_append {xs ys : List Value} (h : ∀ v ∈ xs, v.oneCell' = true) (h' : ∀ v ∈ ys, v.oneCell' = true) : ∀ v ∈ xs ++ ys, v.oneCell' = true := fun v hv => (List.mem_append.1 hv).elim (h v) (h' v)
theorem FitR.set {g : Gh} {e : Nat} : ∀ {rows : List (List PV)} {vs : List Value} (_ : FitR g e rows vs) (i k : Nat) (row : List PV) (x : PV) (v : Value), rows[i]? = some row → k < e → v.oneCell' = true → Fit g x v →
 FitR g e (rows.set i (row.set k x)) (vs.set (i * e + k) v)
 | [], _, _, i, k, row, x, v, h, _, _, _ => by simp at h
 | r0 :: rows, _, ⟨v1, v2, h1, h2, h3, h4⟩, 0, k, row, x, v, h, hk, ho, hx => by
  simp at h; subst h; refine ⟨v1.set k v, v2, ?_, ⟨by simp [h2.1], fun u hu => (List.mem_or_eq_of_mem_set hu).elim (h2.2 u) (fun e => e ▸ ho)⟩, ?_, h4⟩
  ·rw [h1]; simp; rw [List.set_append_left]; rw [h3.length]; omega
  ·exact FitL.set h3 k x v hx
 | r0 :: rows, _, ⟨v1, v2, h1, h2, h3, h4⟩, i + 1, k, row, x, v, h, hk, ho, hx => by
  simp at h; refine ⟨v1, v2.set (i * e + k) v, ?_, h2, h3, FitR.set h4 i k row x v h hk ho hx⟩; rw [h1, List.set_append_right]
  ·congr 2; rw [h3.length, h2.1, Nat.succ_mul]; omega
  ·rw [h3.length, h2.1, Nat.succ_mul]; omega
theorem FitE.length {g : Gh} : ∀ {es : List (Int × PV)} {en : List MapEntry}, FitE g es en → en.length = es.length
 | [], _, h => by simp only [FitE] at h; simp [h]
 | _ :: _, _, ⟨_, _, h1, _, _, h4⟩ => by simp [h1, FitE.length h4]
/-! ### Slots -/
def look : List (Nat × SV) → Nat → SV
 | [], _ => .pv .bot
 | (j, v) :: r, k => if j = k then v else look r k
def posGet (st : St) : Pos → SV
 | .slot s => look st.t s
 | .cell b k => (st.h.getD b []).getD k (.pv .bot)
def OwnAt (g : Gh) (w : World) (nw : Bool) (e : Nat) (rows : List (List PV)) (v : Value) (c : Nat) : Prop :=
 ∃ cap arr T vs, v = .slice (some ⟨c, 0, none⟩) rows.length cap ∧ w.heap[c]? = some (.cells arr T (0, 0)) ∧ arr.size = cap * e ∧ (rows.length ≤ cap ∧ cap ≤ maxLen ∧ ∀ v ∈ arr.toList, v.oneCell' = true) ∧ FitR g e rows vs ∧ vs <+: arr.toList ∧ (nw = true → g.B ≤ c)
def MapAt (g : Gh) (w : World) (nw : Bool) (es : List (Int × PV)) (v : Value) (c : Nat) : Prop :=
 ∃ entries clock, v = .map (some c) ∧ w.heap[c]? = some (.map entries clock) ∧ FitE g es entries.toList ∧ (nw = true → g.B ≤ c) ∧ MapKept.Stamped entries clock
def SFit (g : Gh) (w : World) : SV → Value → Option Nat → Prop
 | .pv x, v, bl => bl = none ∧ Fit g x v
 | .own nw e rows, v, bl => (bl = none ∧ rows = [] ∧ v = .slice none 0 0) ∨ ∃ c, bl = some c ∧ OwnAt g w nw e rows v c
 | .omap nw es, v, bl => ∃ c, bl = some c ∧ MapAt g w nw es v c
 | .opt c x, v, bl => bl = none ∧ (¬ c → v = undef) ∧ (c → SFit g w x v none)
 | .al _, _, bl => bl = none
 | .loc _ _ _, _, bl => bl = none
 | .sptr _ _ _, _, bl => bl = none
 | .agl xs, v, bl => bl = none ∧ ∃ vs : Array Value, v = .agg vs ∧ FitL g (xs.map (·.1)) vs.toList
def SV.isOwn : SV → Bool
 | .own .. => true
 | .omap .. => true
 | _ => false
def SV.inCell : SV → Bool
 | .pv _ => true
 | .own .. => true
 | .omap .. => true
 | _ => false
def posVal (g : Gh) (a : Act) (w : World) : Pos → Value
 | .slot s => a.tmps.getD s undef
 | .cell b k => match w.heap[g.μ b]? with
  | some (.cells arr _ _) => arr.getD k undef
  | _ => undef
def AlOk (g : Gh) (st : St) (a : Act) (w : World) : SV → Value → Prop
 | .al p, v => (posGet st p).isOwn = true → v = posVal g a w p
 | .loc p lo hi, v => ∀ nw e rows, posGet st p = .own nw e rows → lo ≤ hi ∧ hi ≤ rows.length ∧ ∃ q cap, v = .slice q (hi - lo) cap ∧ hi - lo ≤ cap ∧ (lo = hi ∨ ∃ c n cp, posVal g a w p = .slice (some ⟨c, 0, none⟩) n cp ∧ q = some ⟨c, lo * e, none⟩) ∧ (lo = 0 → ∃ n0, posVal g a w p = .slice q n0 cap)
 | .sptr p i k, v => ∀ nw e rows, posGet st p = .own nw e rows → ∃ c n cp, posVal g a w p = .slice (some ⟨c, 0, none⟩) n cp ∧ v = .pointer (some ⟨c, i * e + k, none⟩)
 | .agl xs, v => ∀ (k : Nat) (x : PV) (p : Pos), xs[k]? = some (x, some p) → (posGet st p).isOwn = true → ∃ vs : Array Value, v = .agg vs ∧ vs[k]? = some (posVal g a w p)
 | .opt c x, v => c → AlOk g st a w x v
 | _, _ => True
structure Owns (g : Gh) (st : St) (a : Act) (w : World) (bl : Pos → Option Nat) : Prop where
  slots : ∀ s, SFit g w (look st.t s) (a.tmps.getD s undef) (bl (.slot s))
  blocks : ∀ b xs, st.h[b]? = some xs → ∃ arr T, w.heap[g.μ b]? = some (.cells arr T (0, 0)) ∧ (arr.size = xs.length ∧ ∀ v ∈ arr.toList, v.oneCell' = true) ∧
    ∀ k x, xs[k]? = some x → x.inCell = true ∧ SFit g w x (arr.getD k undef) (bl (.cell b k))
  inj : ∀ p q c, bl p = some c → bl q = some c → p = q
  free : ∀ p c, bl p = some c → g.I c = none ∧ g.F c = none ∧ c < w.heap.size ∧ ∀ b, b < g.n → g.μ b ≠ c
structure Sim (g : Gh) (st : St) (a : Act) (w : World) : Prop where
  size : a.tmps.size = g.N
  defs : a.defers = []
  env : envOf w = g.env
  n : g.n = st.h.length
  n0 : g.n0 ≤ g.n
  B : g.B ≤ w.heap.size
  I : ∀ c o, g.I c = some o → w.heap[c]? = some o
  F : ∀ c o, g.F c = some o → w.heap[c]? = some o
  μI : ∀ b, b < g.n → g.I (g.μ b) = none ∧ g.F (g.μ b) = none
  μinj : ∀ b b', b < g.n → b' < g.n → g.μ b = g.μ b' → b = b'
  own : ∃ bl, Owns g st a w bl
  al : ∀ s, AlOk g st a w (look st.t s) (a.tmps.getD s undef)
structure Gh.to (g g' : Gh) : Prop where
  I : ∀ c o, g.I c = some o → g'.I c = some o
  F : g'.F = g.F
  B : g'.B = g.B
  n0 : g'.n0 = g.n0
  N : g'.N = g.N
  env : g'.env = g.env
  n : g.n0 ≤ g'.n
  μ : ∀ b, b < g.n0 → g'.μ b = g.μ b
  FI : ∀ c, g.F c ≠ none → g.I c = none → g'.I c = none
theorem Gh.to.trans {a b c : Gh} (h : a.to b) (h' : b.to c) : a.to c :=
  ⟨fun k o x => h'.I _ _ (h.I _ _ x), h'.F.trans h.F, h'.B.trans h.B, h'.n0.trans h.n0, h'.N.trans h.N, h'.env.trans h.env, by have := h'.n; rw [h.n0] at this; exact this,
   fun b hb => by rw [h'.μ b (by rw [h.n0]; exact hb), h.μ b hb], fun c hF hI => h'.FI c (by rw [h.F]; exact hF) (h.FI c hF hI)⟩
end Go.AX

namespace Go.AX
def ev (st : St) : Operand → SV
 | .tmp k => look st.t k
 | .const v => .pv (.lit v)
 | .func f => .pv (.lit (.func (.func f) #[] #[]))
 | .global _ => .pv .bot
def mvS (x : Operand) : SV → SV
 | .own _ _ _ => match x with | .tmp s => .al (.slot s) | _ => .pv .bot
 | .omap _ _ => match x with | .tmp s => .al (.slot s) | _ => .pv .bot
 | .opt _ y => y
 | .pv p => .pv p
 | .al p => .al p
 | .loc p i k => .loc p i k
 | .sptr p i k => .sptr p i k
 | .agl xs => .agl xs
def mv (st : St) (x : Operand) : SV := mvS x (ev st x)
def gcS : SV → Prop
 | .opt c _ => c
 | .own _ _ _ => True
 | .omap _ _ => True
 | .pv _ => True
 | .al _ => True
 | .loc _ _ _ => True
 | .sptr _ _ _ => True
 | .agl _ => True
def gc (st : St) (x : Operand) : Prop := gcS (ev st x)
theorem Sim.slot {g : Gh} {st : St} {a : Act} {w : World} (h : Sim g st a w) (k : Nat) : ∃ b, SFit g w (look st.t k) (a.tmps.getD k undef) b := by
 obtain ⟨bl, hb⟩ := h.own; exact ⟨_, hb.slots k⟩
theorem mv_ok {g : Gh} {st : St} {a : Act} {w : World} (h : Sim g st a w) (x : Operand) (hg : gc st x) :
 SFit g w (mv st x) (a.eval x) none ∧ AlOk g st a w (mv st x) (a.eval x) := by
 cases x with
 | const v => exact ⟨⟨rfl, rfl⟩, trivial⟩
 | func f => exact ⟨⟨rfl, rfl⟩, trivial⟩
 | global n => exact ⟨⟨rfl, trivial⟩, trivial⟩
 | tmp k =>
  obtain ⟨b, hs⟩ := h.slot k; have ha := h.al k; simp only [mv, ev, Act.eval, gc] at *; cases hl : look st.t k with
  | pv p => rw [hl] at hs ha; obtain ⟨rfl, hf⟩ := hs; exact ⟨⟨rfl, hf⟩, trivial⟩
  | own nw e rows => rw [hl] at hs; exact ⟨rfl, fun _ => rfl⟩
  | omap nw es => rw [hl] at hs; exact ⟨rfl, fun _ => rfl⟩
  | al p => rw [hl] at hs ha; exact ⟨rfl, ha⟩
  | loc p i j => rw [hl] at hs ha; exact ⟨rfl, ha⟩
  | sptr p i j => rw [hl] at hs ha; exact ⟨rfl, ha⟩
  | agl xs => rw [hl] at hs ha; exact ⟨⟨rfl, hs.2⟩, ha⟩
  | opt c y => rw [hl] at hs ha hg; exact ⟨hs.2.2 hg, ha hg⟩
def Pop (P : Program) (st : St) (o : Oper) (r : SV × Prop) : Prop :=
 ∀ g a w, Sim g st a w → r.2 → ∃ v, (execOp a.eval o).run P w = .ok (.value v) w ∧ SFit g w r.1 v none ∧ AlOk g st a w r.1 v
def PopS (P : Program) (st : St) (o : Oper) (r : SV × Prop) : Prop :=
 ∀ g a w, Sim g st a w → r.2 → ∃ v, (∀ w' : World, (execOp a.eval o).run P w' = .ok (.value v) w') ∧ SFit g w r.1 v none ∧ AlOk g st a w r.1 v
theorem PopS.pop {P : Program} {st : St} {o : Oper} {r : SV × Prop} (h : PopS P st o r) : Pop P st o r := fun g a w hs hr => by
 obtain ⟨v, h1, h2⟩ := h g a w hs hr; exact ⟨v, h1 w, h2⟩
/-! ### Numbers, truths, texts -/
def asK : SV → IntKind
 | .pv (.lit (.int k _)) => k
 | _ => .i64
def asI : SV → Int
 | .pv (.lit (.int _ n)) => n
 | _ => 0
def isI : SV → Prop
 | .pv (.lit (.int _ _)) => True
 | _ => False
def asB : SV → Bool
 | .pv (.lit (.bool b)) => b
 | _ => false
def isB : SV → Prop
 | .pv (.lit (.bool _)) => True
 | _ => False
def asS : SV → ByteArray
 | .pv (.lit (.string s)) => s
 | _ => ByteArray.empty
def isS : SV → Prop
 | .pv (.lit (.string _)) => True
 | _ => False
theorem isI_eq {x : SV} (h : isI x) : x = .pv (.lit (.int (asK x) (asI x))) := by
 unfold isI at h; split at h
 ·rfl
 ·cases h
theorem isB_eq {x : SV} (h : isB x) : x = .pv (.lit (.bool (asB x))) := by
 unfold isB at h; split at h
 ·rfl
 ·cases h
theorem isS_eq {x : SV} (h : isS x) : x = .pv (.lit (.string (asS x))) := by
 unfold isS at h; split at h
 ·rfl
 ·cases h
theorem int_ok {g : Gh} {st : St} {a : Act} {w : World} (h : Sim g st a w) {x : Operand} (hg : gc st x) (hi : isI (mv st x)) :
 a.eval x = .int (asK (mv st x)) (asI (mv st x)) := by
 have := (mv_ok h x hg).1; rw [isI_eq hi] at this; exact this.2
theorem bool_ok {g : Gh} {st : St} {a : Act} {w : World} (h : Sim g st a w) {x : Operand} (hg : gc st x) (hi : isB (mv st x)) :
 a.eval x = .bool (asB (mv st x)) := by
 have := (mv_ok h x hg).1; rw [isB_eq hi] at this; exact this.2
theorem str_ok {g : Gh} {st : St} {a : Act} {w : World} (h : Sim g st a w) {x : Operand} (hg : gc st x) (hi : isS (mv st x)) :
 a.eval x = .string (asS (mv st x)) := by
 have := (mv_ok h x hg).1; rw [isS_eq hi] at this; exact this.2
abbrev SV.int (k : IntKind) (n : Int) : SV := .pv (.lit (.int k n))
abbrev SV.bool (b : Bool) : SV := .pv (.lit (.bool b))
inductive TK where
  | int | bool | string | ptr | slice | map | func | other
  | flat (n : Nat)
def flatFields (P : Program) : List Field → Nat → Bool
 | [], _ => true
 | f :: fs, n => f.offset == n && f.name != "_" && (match P.underlying f.type with | some (.int _) => true | _ => false) && (match P.info? f.type with | some i => i.size == 1 | none => false) && flatFields P fs (n + 1)
def arrE (P : Program) (e : TypeId) : Bool := (match P.underlying e with | some (.int _) => true | _ => false) && P.cellsOf e == 1 && (P.info? e).isSome
def tk (P : Program) (t : TypeId) : TK :=
 match P.underlying t with
 | some (.int _) => .int
 | some .bool => .bool
 | some .string => .string
 | some (.pointer _) => .ptr
 | some (.slice _) => .slice
 | some (.map _ _) => .map
 | some (.func _ _ _) => .func
 | some (.struct fs) => if flatFields P fs.toList 0 && !P.stoodInHeld t && !P.eqGuardType P.depth t then .flat fs.size else .other
 | some (.array n e) => if arrE P e && !P.eqGuardType P.depth t then .flat n else .other
 | _ => .other
/-! ### Binary operators -/
def binI (op : BinOp) (x y : SV) : SV × Prop :=
 match op with
 | .add => (.int (asK x) ((asK x).wrap (asI x + asI y)), isI x ∧ isI y ∧ asK x = asK y ∧ True)
 | .sub => (.int (asK x) ((asK x).wrap (asI x - asI y)), isI x ∧ isI y ∧ asK x = asK y ∧ True)
 | .mul => (.int (asK x) ((asK x).wrap (asI x * asI y)), isI x ∧ isI y ∧ asK x = asK y ∧ True)
 | .quo => (.int (asK x) ((asK x).wrap ((asI x).tdiv (asI y))), isI x ∧ isI y ∧ asK x = asK y ∧ asI y ≠ 0)
 | .rem => (.int (asK x) ((asI x).tmod (asI y)), isI x ∧ isI y ∧ asK x = asK y ∧ asI y ≠ 0)
 | .lss => (.bool (decide (asI x < asI y)), isI x ∧ isI y ∧ asK x = asK y ∧ True)
 | .leq => (.bool (decide (asI x ≤ asI y)), isI x ∧ isI y ∧ asK x = asK y ∧ True)
 | .gtr => (.bool (decide (asI y < asI x)), isI x ∧ isI y ∧ asK x = asK y ∧ True)
 | .geq => (.bool (decide (asI y ≤ asI x)), isI x ∧ isI y ∧ asK x = asK y ∧ True)
 | .eql => (.bool (decide (asI x = asI y)), isI x ∧ isI y ∧ asK x = asK y ∧ True)
 | .neq => (.bool (!decide (asI x = asI y)), isI x ∧ isI y ∧ asK x = asK y ∧ True)
 | .and => (.int (asK x) (bits .and (asK x) (asI x) (asI y)), isI x ∧ isI y ∧ asK x = asK y ∧ True)
 | .shr => (.int (asK x) ((asI x).fdiv (2 ^ min (asI y).toNat (asK x).bits)), isI x ∧ isI y ∧ 0 ≤ asI y)
 | .shl => (.int (asK x) ((asK x).wrap (asI x * 2 ^ min (asI y).toNat (asK x).bits)), isI x ∧ isI y ∧ 0 ≤ asI y)
 | _ => (.pv .bot, False)
def binB (op : BinOp) (x y : SV) : SV × Prop :=
 match op with
 | .eql => (.bool (asB x == asB y), isB x ∧ isB y)
 | .neq => (.bool (asB x != asB y), isB x ∧ isB y)
 | _ => (.pv .bot, False)
def binS (op : BinOp) (x y : SV) : SV × Prop :=
 match op with
 | .add => (.pv (.lit (.string (asS x ++ asS y))), isS x ∧ isS y ∧ ((asS x).size + (asS y).size : Nat) ≤ 9223372036854775807)
 | .eql => (.bool (decide (asS x = asS y)), isS x ∧ isS y)
 | .neq => (.bool (!decide (asS x = asS y)), isS x ∧ isS y)
 | .lss => (.bool (Op.bytesLess (asS x).toList (asS y).toList), isS x ∧ isS y)
 | .gtr => (.bool (!(Op.bytesLess (asS x).toList (asS y).toList || decide (asS x = asS y))), isS x ∧ isS y)
 | .leq => (.bool (Op.bytesLess (asS x).toList (asS y).toList || decide (asS x = asS y)), isS x ∧ isS y)
 | .geq => (.bool (!Op.bytesLess (asS x).toList (asS y).toList), isS x ∧ isS y)
 | _ => (.pv .bot, False)
def nilness : SV → Option Bool
 | .pv (.lit (.pointer none)) => some true
 | .pv (.lit (.pointer (some _))) => some false
 | .pv (.ptr _ _) => some false
 | .pv (.iptr _ _ _ _) => some false
 | .sptr _ _ _ => none
 | .pv (.lit (.slice none 0 0)) => some true
 | .pv (.lit (.map none)) => some true
 | _ => none
def isNilConst : SV → Bool
 | .pv (.lit (.pointer none)) => true
 | _ => false
def binP (op : BinOp) (x y : SV) : SV × Prop :=
 match op with
 | .eql => (.bool (nilness x == some true), isNilConst y = true ∧ (nilness x).isSome = true)
 | .neq => (.bool (nilness x == some false), isNilConst y = true ∧ (nilness x).isSome = true)
 | _ => (.pv .bot, False)
def asFlat : SV → List Int
 | .pv (.agg xs) => xs.map fun x => asI (.pv x)
 | .pv (.lit (.agg vs)) => vs.toList.map fun v => asI (.pv (.lit v))
 | _ => []
def flatKinds : SV → List IntKind
 | .pv (.agg xs) => xs.map fun x => asK (.pv x)
 | .pv (.lit (.agg vs)) => vs.toList.map fun v => asK (.pv (.lit v))
 | _ => []
def isFlat (n : Nat) : SV → Prop
 | .pv (.agg xs) => xs.length = n ∧ ∀ x ∈ xs, isI (.pv x)
 | .pv (.lit (.agg vs)) => vs.size = n ∧ ∀ v ∈ vs.toList, isI (.pv (.lit v))
 | _ => False
def binF (n : Nat) (op : BinOp) (x y : SV) : SV × Prop :=
 match op with
 | .eql => (.bool (decide (asFlat x = asFlat y)), isFlat n x ∧ isFlat n y ∧ flatKinds x = flatKinds y)
 | .neq => (.bool (!decide (asFlat x = asFlat y)), isFlat n x ∧ isFlat n y ∧ flatKinds x = flatKinds y)
 | _ => (.pv .bot, False)
def bin (P : Program) (op : BinOp) (t : TypeId) (x y : SV) : SV × Prop :=
 match tk P t with
 | .int => binI op x y
 | .bool => binB op x y
 | .string => binS op x y
 | .ptr => binP op x y
 | .flat n => binF n op x y
 | _ => (.pv .bot, False)
theorem binI_ok {P : Program} {st : St} (o : Oper) (op : BinOp) (t u : TypeId) (x y : Operand) (ho : o.op = .binOp op t x y u) :
 PopS P st o ((binI op (mv st x) (mv st y)).1, gc st x ∧ gc st y ∧ (binI op (mv st x) (mv st y)).2) := by
 intro g a w h ⟨hx, hy, hd⟩; have ex := fun hi => int_ok h hx hi; have ey := fun hi => int_ok h hy hi; unfold binI at hd ⊢; simp only [execOp, ho]; cases op <;> simp only at hd ⊢
 case quo | rem =>
  obtain ⟨h1, h2, h3, h4⟩ := hd; rw [ex h1, ey h2, h3]; simp only [go_sem, Sem.run_bind, Sem.run_pure, Result.andThen_ok, Op.intDiv, if_neg h4]; exact ⟨_, fun _ => rfl, ⟨rfl, by first | rfl | rw [h3]⟩, trivial⟩
 case and | add | sub | mul | lss | leq | gtr | geq | eql | neq =>
  obtain ⟨h1, h2, h3, h4⟩ := hd; rw [ex h1, ey h2, h3]; simp only [go_sem, Sem.run_bind, Sem.run_pure, Result.andThen_ok, Op.intArith]; exact ⟨_, fun _ => rfl, ⟨rfl, by first | rfl | rw [h3]⟩, trivial⟩
 case shr | shl =>
  obtain ⟨h1, h2, h3⟩ := hd; rw [ex h1, ey h2]; simp only [go_sem, Sem.run_bind, Sem.run_pure, Result.andThen_ok, Op.shift, if_neg (Int.not_lt.2 h3)]; exact ⟨_, fun _ => rfl, ⟨rfl, rfl⟩, trivial⟩
 all_goals exact hd.elim
theorem binB_ok {P : Program} {st : St} (o : Oper) (op : BinOp) (t u : TypeId) (x y : Operand) (ho : o.op = .binOp op t x y u) (ht : P.underlying t = some .bool) :
 PopS P st o ((binB op (mv st x) (mv st y)).1, gc st x ∧ gc st y ∧ (binB op (mv st x) (mv st y)).2) := by
 intro g a w h ⟨hx, hy, hd⟩; have ex := fun hi => bool_ok h hx hi; have ey := fun hi => bool_ok h hy hi; unfold binB at hd ⊢; simp only [execOp, ho]; cases op <;> simp only at hd ⊢
 case eql | neq =>
  obtain ⟨h1, h2⟩ := hd; rw [ex h1, ey h2]; simp only [eqGuard_at_bool, Sem.run_bind, Sem.run_pure, Result.andThen_ok, run_eql_bool _ t _ _ ht, run_neq_bool _ t _ _ ht]; exact ⟨_, fun _ => rfl, ⟨rfl, rfl⟩, trivial⟩
 all_goals exact hd.elim
theorem ByteArray.toList_inj {a b : ByteArray} : (a.toList == b.toList) = decide (a = b) := by
 rw [Bool.eq_iff_iff, beq_iff_eq, decide_eq_true_iff]; constructor
 ·intro h; rw [ByteArray.toList_eq, ByteArray.toList_eq] at h; cases a; cases b; simp at h; simp [h]
 ·intro h; rw [h]
theorem binS_ok {P : Program} {st : St} (o : Oper) (op : BinOp) (t u : TypeId) (x y : Operand) (ho : o.op = .binOp op t x y u) :
 PopS P st o ((binS op (mv st x) (mv st y)).1, gc st x ∧ gc st y ∧ (binS op (mv st x) (mv st y)).2) := by
 intro g a w h ⟨hx, hy, hd⟩; have ex := fun hi => str_ok h hx hi; have ey := fun hi => str_ok h hy hi; unfold binS at hd ⊢; simp only [execOp, ho]; cases op <;> simp only at hd ⊢
 case add =>
  obtain ⟨h1, h2, h3⟩ := hd; rw [ex h1, ey h2]; simp only [eqGuard_at_string, Sem.run_bind, Sem.run_pure, Result.andThen_ok, binOp, Op.stringOp]; rw [if_neg (by simp only [IntKind.max_i64]; omega)]; exact ⟨_, fun _ => rfl, ⟨rfl, rfl⟩, trivial⟩
 case eql | neq | lss | leq | gtr | geq =>
  obtain ⟨h1, h2⟩ := hd; rw [ex h1, ey h2]; simp only [eqGuard_at_string, Sem.run_bind, Sem.run_pure, Result.andThen_ok, binOp, Op.stringOp, ByteArray.toList_inj]; exact ⟨_, fun _ => rfl, ⟨rfl, rfl⟩, trivial⟩
 all_goals exact hd.elim
theorem nilness_ok {g : Gh} {w : World} {x : SV} {v : Value} {b : Bool} (h : SFit g w x v none) (hn : nilness x = some b) (hp : ∃ p, v = .pointer p) : v = .pointer none ∧ b = true ∨ (∃ q, v = .pointer (some q)) ∧ b = false := by
 unfold nilness at hn; split at hn
 ·cases hn; obtain ⟨_, rfl⟩ := h; exact .inl ⟨rfl, rfl⟩
 ·cases hn; obtain ⟨_, rfl⟩ := h; exact .inr ⟨⟨_, rfl⟩, rfl⟩
 ·cases hn; obtain ⟨_, _, rfl⟩ := h; exact .inr ⟨⟨_, rfl⟩, rfl⟩
 ·cases hn; obtain ⟨_, _, _, _, _, _, _, rfl, _⟩ := h; exact .inr ⟨⟨_, rfl⟩, rfl⟩
 ·cases hn
 ·obtain ⟨_, rfl⟩ := h; obtain ⟨p, hp⟩ := hp; cases hp
 ·obtain ⟨_, rfl⟩ := h; obtain ⟨p, hp⟩ := hp; cases hp
 ·cases hn
def isPtr : SV → Prop
 | .pv (.lit (.pointer _)) => True
 | .pv (.ptr _ _) => True
 | .pv (.iptr _ _ _ _) => True
 | _ => False
theorem isPtr_ok {g : Gh} {w : World} {x : SV} {v : Value} (h : SFit g w x v none) (hp : isPtr x) : ∃ p, v = .pointer p := by
 unfold isPtr at hp; split at hp
 ·obtain ⟨_, rfl⟩ := h; exact ⟨_, rfl⟩
 ·obtain ⟨_, _, rfl⟩ := h; exact ⟨_, rfl⟩
 ·obtain ⟨_, _, _, _, _, _, _, rfl, _⟩ := h; exact ⟨_, rfl⟩
 ·cases hp
theorem pointee_of {P : Program} {t e : TypeId} (h : P.underlying t = some (.pointer e)) : P.underlying t = some (.pointer (P.pointee t)) := by
 simp [Program.pointee, h]
theorem binP_ok {P : Program} {st : St} (o : Oper) (op : BinOp) (t u e : TypeId) (x y : Operand) (ho : o.op = .binOp op t x y u) (ht : P.underlying t = some (.pointer e)) :
 PopS P st o ((binP op (mv st x) (mv st y)).1, gc st x ∧ gc st y ∧ isPtr (mv st x) ∧ (binP op (mv st x) (mv st y)).2) := by
 intro g a w h ⟨hx, hy, hp, hd⟩; obtain ⟨fx, _⟩ := mv_ok h x hx; obtain ⟨fy, _⟩ := mv_ok h y hy; obtain ⟨p, hp⟩ := isPtr_ok fx hp; have ht' := pointee_of ht; have nil_y : isNilConst (mv st y) = true → a.eval y = .pointer none := by
  intro hn; unfold isNilConst at hn; split at hn
  ·rename_i e; rw [e] at fy; exact fy.2
  ·cases hn
 unfold binP at hd ⊢; simp only [execOp, ho]; cases op <;> simp only at hd ⊢
 case eql | neq =>
  obtain ⟨h1, h2⟩ := hd; obtain ⟨b, hb⟩ := Option.isSome_iff_exists.mp h2; rw [nil_y h1, hp]; simp only [eqGuard_at_pointer, Sem.run_bind, Sem.run_pure, Result.andThen_ok, run_eql_pointer_nil _ t _ ht', run_neq_pointer_nil _ t _ ht']; refine ⟨_, fun _ => rfl, ⟨rfl, ?_⟩, trivial⟩; rcases nilness_ok fx hb ⟨_, hp⟩ with ⟨e1, rfl⟩ | ⟨⟨q, e1⟩, rfl⟩ <;> (rw [hp] at e1; cases e1; simp [Fit, hb])
 all_goals exact hd.elim
/-! ### Flat structs -/
theorem run_part_cell {P : Program} (w : World) {t : TypeId} {k : IntKind} (ht : P.underlying t = some (.int k)) (cs : Array Value) (off : Nat) (v : Value) (h : cs[off]? = some v) :
 (part t cs off).run P w = .ok v w := by
 simp [part, isAgg, run_underlying ht, h]
theorem run_eqFlat {P : Program} (w : World) (d : Nat) (xs ys : Array Value) : ∀ (fs : List Field) (n : Nat) (A B : List (IntKind × Int)), flatFields P fs n = true →
 A.length = fs.length → A.map (·.1) = B.map (·.1) → (∀ i p, A[i]? = some p → xs[n + i]? = some (.int p.1 p.2)) → (∀ i p, B[i]? = some p → ys[n + i]? = some (.int p.1 p.2)) →
 (Op.eqFields (d + 1) xs ys fs).run P w = .ok (decide (A.map (·.2) = B.map (·.2))) w
 | [], n, A, B, _, hA, hAB, _, _ => by
  have : A = [] := List.length_eq_zero_iff.1 hA; subst this; have : B = [] := by simpa using hAB.symm
  subst this; simp [Op.eqFields]
 | f :: fs, n, A, B, hf, hA, hAB, hx, hy => by
  cases A with
  | nil => simp at hA
  | cons p A =>
  cases B with
  | nil => simp at hAB
  | cons q B =>
  simp only [flatFields, Bool.and_eq_true, beq_iff_eq, bne_iff_ne] at hf; obtain ⟨⟨⟨⟨ho, hn⟩, hu⟩, _⟩, hr⟩ := hf; split at hu
  case h_2 => cases hu
  rename_i k hk; simp only [List.map_cons, List.cons.injEq] at hAB; have hx0 := hx 0 p rfl; have hy0 := hy 0 q rfl; simp only [Nat.add_zero] at hx0 hy0; rw [Op.eqFields, if_pos hn, ho]; simp only [Sem.run_bind, run_part_cell w hk xs n _ hx0, run_part_cell w hk ys n _ hy0, Result.andThen_ok, hAB.1, run_equalIn_int w d f.type q.1 k p.2 q.2 hk]; by_cases he : p.2 = q.2
  ·simp only [he, beq_self_eq_true, Bool.not_true, Bool.false_eq_true, if_false]; rw [run_eqFlat w d xs ys fs (n + 1) A B hr (by simpa using hA) hAB.2 (fun i p hp => by have := hx (i + 1) p (by simpa using hp); rw [← this]; congr 1; omega) (fun i p hp => by have := hy (i + 1) p (by simpa using hp); rw [← this]; congr 1; omega)]; simp [he]
  ·simp [he]
theorem run_eqArr {P : Program} (w : World) (d : Nat) (xs ys : Array Value) {e : TypeId} {k : IntKind} (he : P.underlying e = some (.int k)) : ∀ (A B : List (IntKind × Int)) (n : Nat),
 A.map (·.1) = B.map (·.1) → (∀ i p, A[i]? = some p → xs[n + i]? = some (.int p.1 p.2)) → (∀ i p, B[i]? = some p → ys[n + i]? = some (.int p.1 p.2)) →
 (Op.eqItems (d + 1) e 1 xs ys (List.range' n A.length)).run P w = .ok (decide (A.map (·.2) = B.map (·.2))) w
 | [], B, n, hAB, _, _ => by
  have : B = [] := by simpa using hAB.symm
  subst this; simp [Op.eqItems]
 | p :: A, [], n, hAB, _, _ => by simp at hAB
 | p :: A, q :: B, n, hAB, hx, hy => by
  simp only [List.map_cons, List.cons.injEq] at hAB; have hx0 := hx 0 p rfl; have hy0 := hy 0 q rfl; simp only [Nat.add_zero] at hx0 hy0; simp only [List.length_cons, List.range'_succ, Op.eqItems, Nat.mul_one, Sem.run_bind, run_part_cell w he xs n _ hx0, run_part_cell w he ys n _ hy0, Result.andThen_ok, hAB.1, run_equalIn_int w d e q.1 k p.2 q.2 he]; by_cases hpq : p.2 = q.2
  ·simp only [hpq, beq_self_eq_true, Bool.not_true, Bool.false_eq_true, if_false]; rw [run_eqArr w d xs ys he A B (n + 1) hAB.2 (fun i p hp => by have := hx (i + 1) p (by simpa using hp); rw [← this]; congr 1; omega) (fun i p hp => by have := hy (i + 1) p (by simpa using hp); rw [← this]; congr 1; omega)]; simp [hpq]
  ·simp [hpq]
def flatOf : SV → List (IntKind × Int)
 | .pv (.agg xs) => xs.map fun x => (asK (.pv x), asI (.pv x))
 | .pv (.lit (.agg vs)) => vs.toList.map fun v => (asK (.pv (.lit v)), asI (.pv (.lit v)))
 | _ => []
theorem flat_ok {g : Gh} {w : World} {x : SV} {v : Value} {n : Nat} (h : SFit g w x v none) (hf : isFlat n x) :
 ∃ vs, v = .agg vs ∧ (flatOf x).length = n ∧ (flatOf x).map (·.1) = flatKinds x ∧ (flatOf x).map (·.2) = asFlat x ∧ ∀ (i : Nat) (p : IntKind × Int), (flatOf x)[i]? = some p → vs[i]? = some (Value.int p.1 p.2) := by
 unfold isFlat at hf; split at hf
 ·rename_i xs; obtain ⟨_, vs, rfl, hl⟩ := h; refine ⟨vs, rfl, by simp [flatOf, hf.1], by simp [flatOf, flatKinds], by simp [flatOf, asFlat], fun i p hp => ?_⟩; simp only [flatOf, List.getElem?_map, Option.map_eq_some_iff] at hp; obtain ⟨y, hy, rfl⟩ := hp; obtain ⟨u, hu, hfy⟩ := hl.get i y hy; have := hf.2 y (List.mem_of_getElem? hy); have e := isI_eq this; simp only [SV.pv.injEq] at e; rw [e] at hfy; rw [← Array.getElem?_toList, hu, hfy]
 ·rename_i vs; obtain ⟨_, rfl⟩ := h; refine ⟨vs, rfl, by simp [flatOf, hf.1], by simp [flatOf, flatKinds], by simp [flatOf, asFlat], fun i p hp => ?_⟩; simp only [flatOf, List.getElem?_map, Option.map_eq_some_iff] at hp; obtain ⟨y, hy, rfl⟩ := hp; have := hf.2 y (List.mem_of_getElem? hy); have e := isI_eq this; simp only [SV.pv.injEq, PV.lit.injEq] at e; rw [← Array.getElem?_toList, hy, ← e]
 ·cases hf
theorem binF_ok {P : Program} {st : St} (o : Oper) (op : BinOp) (t u : TypeId) (x y : Operand) (n : Nat) (ho : o.op = .binOp op t x y u) (ht : tk P t = .flat n) :
 Pop P st o ((binF n op (mv st x) (mv st y)).1, gc st x ∧ gc st y ∧ (binF n op (mv st x) (mv st y)).2) := by
 intro g a w h ⟨hx, hy, hd⟩; obtain ⟨fx, _⟩ := mv_ok h x hx; obtain ⟨fy, _⟩ := mv_ok h y hy; unfold tk at ht; split at ht
 case h_8 =>
  rename_i fs hu; split at ht
  case isFalse => cases ht
  rename_i hc; cases ht; simp only [Bool.and_eq_true, Bool.not_eq_true'] at hc; obtain ⟨⟨hfl, hst⟩, heq⟩ := hc; have hfo : P.fieldsOf t = fs := by simp [Program.fieldsOf, hu]
  have hu' : P.underlying t = some (.struct (P.fieldsOf t)) := by rw [hfo]; exact hu
  unfold binF at hd ⊢; simp only [execOp, ho]; cases op <;> simp only at hd ⊢
  case eql | neq =>
   obtain ⟨h1, h2, h3⟩ := hd; obtain ⟨xs, ex, lx, kx, ix, cx⟩ := flat_ok fx h1; obtain ⟨ys, ey, ly, ky, iy, cy⟩ := flat_ok fy h2; rw [ex, ey]; simp only [Sem.run_bind, run_eqGuard_agg w _ t _ _ _ _ heq, Result.andThen_ok, run_eql_struct, run_neq_struct, run_equalIn_agg w 9999 t xs ys hu' hst, hfo,
    run_eqFlat w 9998 xs ys fs.toList 0 (flatOf (mv st x)) (flatOf (mv st y)) hfl (by simpa using lx) (by rw [kx, ky, h3]) (by simpa using cx) (by simpa using cy), ix, iy, Sem.run_pure]
   exact ⟨_, rfl, ⟨rfl, rfl⟩, trivial⟩
  all_goals exact hd.elim
 case h_9 =>
  rename_i m e hu; split at ht
  case isFalse => cases ht
  rename_i hc; cases ht; simp only [arrE, Bool.and_eq_true, Bool.not_eq_true', beq_iff_eq] at hc; obtain ⟨⟨⟨hk, hce⟩, hi⟩, heq⟩ := hc; split at hk
  case h_2 => cases hk
  rename_i k hk2; obtain ⟨inf, hinf⟩ := Option.isSome_iff_exists.1 hi; unfold binF at hd ⊢; simp only [execOp, ho]; cases op <;> simp only at hd ⊢
  case eql | neq =>
   obtain ⟨h1, h2, h3⟩ := hd; obtain ⟨xs, ex, lx, kx, ix, cx⟩ := flat_ok fx h1; obtain ⟨ys, ey, ly, ky, iy, cy⟩ := flat_ok fy h2; rw [ex, ey]; have hE := run_eqArr w 9998 xs ys hk2 (flatOf (mv st x)) (flatOf (mv st y)) 0 (by rw [kx, ky, h3]) (by simpa using cx) (by simpa using cy); rw [lx, ← List.range_eq_range'] at hE; simp only [Sem.run_bind, run_eqGuard_agg w _ t _ _ _ _ heq, Result.andThen_ok, run_eql_struct, run_neq_struct, run_equalIn_array w 9999 xs ys hu hinf, hce, hE, ix, iy, Sem.run_pure]; exact ⟨_, rfl, ⟨rfl, rfl⟩, trivial⟩
  all_goals exact hd.elim
 all_goals (first | cases ht | (split at ht <;> cases ht))
end Go.AX

namespace Go.AX
/-! ### What the types say -/
def fOff (P : Program) (t : TypeId) (f : Nat) : Option Nat :=
 match P.underlying t with
 | some (.struct fs) => match fs[f]? with
  | some x => match P.info? x.type with
   | some i => if i.size = 0 then none else some x.offset
   | none => none
  | none => none
 | _ => none
def slSize (P : Program) (t : TypeId) : Option Nat :=
 match P.underlying t with
 | some (.slice e) => (P.info? e).map (·.size)
 | _ => none
def arSize (P : Program) (t : TypeId) : Option (Nat × Nat) :=
 match P.underlying t with
 | some (.array n e) => (P.info? e).map fun i => (n, i.size)
 | _ => none
def ldInfo (P : Program) (t : TypeId) : Option (Bool × Nat) :=
 match P.underlying t with
 | some (.struct _) => (P.info? t).map fun i => (true, i.size)
 | some (.array _ _) => (P.info? t).map fun i => (true, i.size)
 | some _ => (P.info? t).map fun i => (false, i.size)
 | none => none
theorem run_sizeOf {P : Program} {t : TypeId} {i : TypeInfo} (h : P.info? t = some i) (w : World) : (sizeOf t).run P w = .ok i.size w := by
 simp [sizeOf, typeInfo, h]
theorem run_isAgg {P : Program} {t : TypeId} {b : Bool} {n : Nat} (h : ldInfo P t = some (b, n)) (w : World) : (isAgg t).run P w = .ok b w ∧ (sizeOf t).run P w = .ok n w := by
 unfold ldInfo at h; split at h
 case h_4 => cases h
 all_goals (
  rename_i hu; simp only [Option.map_eq_some_iff, Prod.mk.injEq] at h; obtain ⟨i, hi, rfl, rfl⟩ := h; refine ⟨?_, run_sizeOf hi w⟩; simp only [isAgg, Sem.run_bind, run_underlying hu, Result.andThen_ok])
 ·rfl
 ·rfl
 ·rfl
/-! ### Cells -/
theorem cell_of {w : World} {c : Nat} {arr : Array Value} {T : TypeId} {fz : Nat × Nat} (h : w.heap[c]? = some (.cells arr T fz)) (o : Nat) : w.cell? ⟨c, o, none⟩ = arr[o]? := by
 simp [World.cell?, h]
theorem prefix_get {l m : List Value} (h : l <+: m) {i : Nat} {v : Value} (hi : l[i]? = some v) : m[i]? = some v := by
 obtain ⟨r, rfl⟩ := h; rw [List.getElem?_append_left]
 ·exact hi
 ·exact (List.getElem?_eq_some_iff.1 hi).1
theorem row_cells {g : Gh} {e : Nat} {rows : List (List PV)} {vs : List Value} {arr : Array Value} {off : Nat} (h : FitR g e rows vs) (hp : vs <+: arr.toList.drop off) {i : Nat} {row : List PV} (hi : rows[i]? = some row) :
 row.length = e ∧ ∃ b, FitL g row b ∧ ∀ j v, b[j]? = some v → arr[off + i * e + j]? = some v := by
 obtain ⟨he, a, b, c, e1, e2, e3⟩ := h.get i row hi; refine ⟨he, b, e3, fun j v hj => ?_⟩; have hb : j < b.length := (List.getElem?_eq_some_iff.1 hj).1; have : vs[i * e + j]? = some v := by
  rw [e1, List.getElem?_append_left (by simp [e2]; omega), List.getElem?_append_right (by omega), e2]; rw [← hj]; congr 1; omega
 have := prefix_get hp this; rw [List.getElem?_drop, Array.getElem?_toList] at this; rw [← this]; congr 1; omega
theorem FitL.drop {g : Gh} : ∀ {xs : List PV} {vs : List Value} (_ : FitL g xs vs) (k : Nat), FitL g (xs.drop k) (vs.drop k)
 | _, _, h, 0 => by simpa using h
 | [], _, h, k + 1 => by simp only [FitL] at h; subst h; simp [FitL]
 | _ :: _, _, ⟨_, _, h1, _, h3⟩, k + 1 => by subst h1; simpa using FitL.drop h3 k
theorem FitL.take {g : Gh} : ∀ {xs : List PV} {vs : List Value} (_ : FitL g xs vs) (k : Nat), FitL g (xs.take k) (vs.take k)
 | _, _, _, 0 => by simp [FitL]
 | [], _, h, k + 1 => by simp only [FitL] at h; subst h; simp [FitL]
 | _ :: _, _, ⟨_, _, h1, h2, h3⟩, k + 1 => by subst h1; exact ⟨_, _, rfl, h2, FitL.take h3 k⟩
/-! ### Places that own -/
theorem pos_fit {g : Gh} {st : St} {a : Act} {w : World} {bl : Pos → Option Nat} (hb : Owns g st a w bl) {p : Pos} (ho : (posGet st p).isOwn = true) : SFit g w (posGet st p) (posVal g a w p) (bl p) := by
 cases p with
 | slot s => exact hb.slots s
 | cell b k =>
  simp only [posGet] at ho ⊢; cases hx : st.h[b]? with
  | none => simp [List.getD, hx] at ho; cases ho
  | some xs =>
   simp only [List.getD, hx, Option.getD_some] at ho ⊢; cases hk : xs[k]? with
   | none => simp [hk] at ho; cases ho
   | some x =>
    obtain ⟨arr, T, h1, ⟨h2, _⟩, h3⟩ := hb.blocks b xs hx; simp only [Option.getD_some, posVal, h1]; exact (h3 k x hk).2
/-! ### Slices -/
def isNilSl : Value → Bool
 | .slice none 0 0 => true
 | _ => false
theorem isNilSl_eq {v : Value} (h : isNilSl v = true) : v = .slice none 0 0 := by
 unfold isNilSl at h; split at h
 ·rfl
 ·cases h
def rowsOf (st : St) : SV → List (List PV)
 | .pv (.seq _ _ rows) => rows
 | .al p => match posGet st p with
  | .own _ _ rows => rows
  | _ => []
 | .loc p lo hi => match posGet st p with
  | .own _ _ rows => (rows.take hi).drop lo
  | _ => []
 | _ => []
def slOk (st : St) (e : Nat) : SV → Prop
 | .pv (.seq _ e' _) => e' = e
 | .pv (.lit v) => isNilSl v = true
 | .al p => match posGet st p with
  | .own _ e' _ => e' = e
  | _ => False
 | .loc p _ _ => match posGet st p with
  | .own _ e' _ => e' = e
  | _ => False
 | _ => False
theorem slice_len {g : Gh} {st : St} {a : Act} {w : World} (h : Sim g st a w) {x : Operand} {e : Nat} (hg : gc st x) (hs : slOk st e (mv st x)) :
 ∃ q cap, a.eval x = .slice q (rowsOf st (mv st x)).length cap ∧ (rowsOf st (mv st x)).length ≤ cap := by
 obtain ⟨hf, ha⟩ := mv_ok h x hg; unfold slOk at hs; split at hs
 ·rename_i nw e' rows hm; rw [hm] at hf ⊢; obtain ⟨_, q, cap, hv, hc, _⟩ := hf; exact ⟨q, cap, hv, hc⟩
 ·rename_i v hm; rw [hm] at hf ⊢; obtain ⟨_, hv⟩ := hf; exact ⟨none, 0, by rw [hv, isNilSl_eq hs]; rfl, by simp [rowsOf]⟩
 ·rename_i p hm; rw [hm] at ha ⊢; split at hs
  ·rename_i nw e' rows hp; obtain ⟨bl, hb⟩ := h.own; have hv := ha (by rw [hp]; rfl); have := pos_fit hb (p := p) (by rw [hp]; rfl); rw [hp] at this; simp only [rowsOf, hp]; rcases this with ⟨_, rfl, e1⟩ | ⟨c, _, cap, arr, T, vs, e1, _, _, e4, _⟩
   ·exact ⟨none, 0, by rw [hv, e1]; rfl, by simp⟩
   ·exact ⟨_, cap, by rw [hv, e1], e4.1⟩
  ·cases hs
 ·rename_i p lo hi hm; rw [hm] at ha ⊢; split at hs
  ·rename_i nw e' rows hp; obtain ⟨h1, h2, q, cap, hv, hc, _⟩ := ha nw e' rows hp; have : (rowsOf st (.loc p lo hi)).length = hi - lo := by simp only [rowsOf, hp, List.length_drop, List.length_take]; omega
   exact ⟨q, cap, by rw [hv, this], by rw [this]; exact hc⟩
  ·cases hs
 ·cases hs
def lenSl (P : Program) (st : St) (t : TypeId) (x : SV) : SV × Prop :=
 match slSize P t with
 | some e => match x with
  | .pv (.bsl _ e' _ n _) => (.int .i64 n, e' = e)
  | .pv (.lit (.slice _ 0 _)) => (.int .i64 0, True)
  | x => (.int .i64 (rowsOf st x).length, slOk st e x)
 | none => (.pv .bot, False)
theorem lenSl_ok {P : Program} {st : St} (o : Oper) (t : TypeId) (x : Operand) (ho : o.op = .call { callee := .builtin .len, args := #[x], argTypes := #[t] }) :
 PopS P st o ((lenSl P st t (mv st x)).1, gc st x ∧ (lenSl P st t (mv st x)).2) := by
 intro g a w h ⟨hx, hd⟩; unfold lenSl at hd ⊢; cases hs : slSize P t with
 | none => rw [hs] at hd; cases hd
 | some e =>
  rw [hs] at hd; simp only at hd ⊢; unfold slSize at hs; split at hs
  case h_2 => cases hs
  rename_i el hu; split at hd
  ·rename_i b e' off n cap hm; obtain ⟨hf, _⟩ := mv_ok h x hx; rw [hm] at hf; obtain ⟨_, _, _, hv⟩ := hf; refine ⟨_, ?_, ⟨rfl, rfl⟩, trivial⟩; intro w'; simp [execOp, ho, resolve, invoke, builtin, hv, Builtin.len_, run_underlying hu, goInt]
  ·rename_i p cap hm; obtain ⟨hf, _⟩ := mv_ok h x hx; rw [hm] at hf; have hv : a.eval x = _ := hf.2; refine ⟨_, ?_, ⟨rfl, rfl⟩, trivial⟩; intro w'; simp [execOp, ho, resolve, invoke, builtin, hv, Builtin.len_, run_underlying hu, goInt]
  ·obtain ⟨q, cap, hv, _⟩ := slice_len h hx hd; refine ⟨_, ?_, ⟨rfl, rfl⟩, trivial⟩; intro w'; simp [execOp, ho, resolve, invoke, builtin, hv, Builtin.len_, run_underlying hu, goInt]
def lenStr (x : SV) : SV × Prop := (.int .i64 (asS x).size, isS x)
theorem lenStr_ok {P : Program} {st : St} (o : Oper) (t : TypeId) (x : Operand) (ho : o.op = .call { callee := .builtin .len, args := #[x], argTypes := #[t] }) (hu : P.underlying t = some .string) :
 PopS P st o ((lenStr (mv st x)).1, gc st x ∧ (lenStr (mv st x)).2) := by
 intro g a w h ⟨hx, hd⟩; have ex := str_ok h hx hd; refine ⟨_, ?_, ⟨rfl, rfl⟩, trivial⟩; intro w'; simp [execOp, ho, resolve, invoke, builtin, ex, Builtin.len_, run_underlying hu, goInt]
/-! ### Addresses -/
def fldA (off : Nat) : SV → SV × Prop
 | .pv (.ptr b o) => (.pv (.ptr b (o + off)), True)
 | .pv (.iptr e rows i k) => (.pv (.iptr e rows i (k + off)), True)
 | .sptr p i k => (.sptr p i (k + off), True)
 | _ => (.pv .bot, False)
theorem fldA_ok {g : Gh} {st : St} {a : Act} {w : World} {off : Nat} {x : SV} {v : Value} (hf : SFit g w x v none) (ha : AlOk g st a w x v) (hd : (fldA off x).2) :
 ((∃ q : Addr, v = .pointer (some q) ∧ SFit g w (fldA off x).1 (.pointer (some (q.add off))) none ∧ AlOk g st a w (fldA off x).1 (.pointer (some (q.add off)))) ∨
  (∃ p i k, x = .sptr p i k ∧ ∀ nw e rows, posGet st p ≠ .own nw e rows)) := by
 unfold fldA at hd ⊢; split at hd
 ·obtain ⟨_, h1, rfl⟩ := hf; exact .inl ⟨_, rfl, ⟨rfl, h1, by rw [Addr.add_lit]⟩, trivial⟩
 ·obtain ⟨_, c, o', arr, T, fz, vs, rfl, h2, h3, h4⟩ := hf; exact .inl ⟨_, rfl, ⟨rfl, c, o', arr, T, fz, vs, by rw [Addr.add_lit, Nat.add_assoc], h2, h3, h4⟩, trivial⟩
 ·rename_i p i k; by_cases hp : ∃ nw e rows, posGet st p = .own nw e rows
  ·obtain ⟨nw, e, rows, hp⟩ := hp; obtain ⟨c, n, cp, h1, rfl⟩ := ha nw e rows hp; refine .inl ⟨_, rfl, rfl, fun nw' e' rows' hp' => ?_⟩; rw [hp] at hp'; cases hp'; exact ⟨c, n, cp, h1, by rw [Addr.add_lit, Nat.add_assoc]⟩
  ·exact .inr ⟨p, i, k, rfl, fun nw e rows hh => hp ⟨nw, e, rows, hh⟩⟩
 ·cases hd
def live (st : St) : SV → Prop
 | .sptr p _ _ => match posGet st p with
  | .own _ _ _ => True
  | _ => False
 | _ => True
theorem fldA_live {g : Gh} {st : St} {a : Act} {w : World} {off : Nat} {x : SV} {v : Value} (hf : SFit g w x v none) (ha : AlOk g st a w x v) (hd : (fldA off x).2) (hl : live st x) :
 ∃ q : Addr, v = .pointer (some q) ∧ SFit g w (fldA off x).1 (.pointer (some (q.add off))) none ∧ AlOk g st a w (fldA off x).1 (.pointer (some (q.add off))) := by
 rcases fldA_ok hf ha hd with h | ⟨p, i, k, rfl, hn⟩
 ·exact h
 ·unfold live at hl; cases hps : posGet st p <;> simp only [hps] at hl; exact absurd hps (hn _ _ _)
def fieldV (P : Program) (st : St) (t : TypeId) (f : Nat) (x : SV) : SV × Prop :=
 match fOff P t f with
 | some off => ((fldA off x).1, (fldA off x).2 ∧ live st x)
 | none => (.pv .bot, False)
theorem fieldV_ok {P : Program} {st : St} (o : Oper) (t : TypeId) (f : Nat) (x : Operand) (ho : o.op = .fieldAddr t x f) :
 PopS P st o ((fieldV P st t f (mv st x)).1, gc st x ∧ (fieldV P st t f (mv st x)).2) := by
 intro g a w h ⟨hx, hd⟩; obtain ⟨hf, ha⟩ := mv_ok h x hx; unfold fieldV at hd ⊢; cases hs : fOff P t f with
 | none => rw [hs] at hd; cases hd
 | some off =>
  rw [hs] at hd; simp only at hd ⊢; obtain ⟨q, hv, h1, h2⟩ := fldA_live hf ha hd.1 hd.2; refine ⟨_, ?_, h1, h2⟩; unfold fOff at hs; split at hs
  case h_2 => cases hs
  rename_i fs hu; split at hs
  case h_2 => cases hs
  rename_i fd hfd; split at hs
  case h_2 => cases hs
  rename_i i hi; split at hs
  case isTrue => cases hs
  rename_i hne; cases hs; intro w'; simp [execOp, ho, hv, Instr.fieldAt, run_underlying hu, hfd, Instr.sureAddr, fieldPlace, run_sizeOf hi, hne]
def idxSl (i : Nat) : SV → SV
 | .pv (.seq _ e rows) => .pv (.iptr e rows i 0)
 | .al p => .sptr p i 0
 | .loc p lo _ => .sptr p (lo + i) 0
 | _ => .pv .bot
theorem idxSl_ok {g : Gh} {st : St} {a : Act} {w : World} (h : Sim g st a w) {x : Operand} {e i : Nat} (hg : gc st x) (hs : slOk st e (mv st x)) (hi : i < (rowsOf st (mv st x)).length) :
 ∃ (q : Addr) (cap : Nat), a.eval x = .slice (some q) (rowsOf st (mv st x)).length cap ∧ SFit g w (idxSl i (mv st x)) (.pointer (some (q.add (i * e)))) none ∧ AlOk g st a w (idxSl i (mv st x)) (.pointer (some (q.add (i * e)))) := by
 obtain ⟨hf, ha⟩ := mv_ok h x hg; unfold slOk at hs; split at hs
 ·rename_i nw e' rows hm; subst hs; rw [hm] at hf hi ⊢; obtain ⟨_, q, cap, hv, _, hr⟩ := hf; rcases hr with rfl | ⟨c, off, arr, T, fz, vs, rfl, h2, _, h3, h4⟩
  ·simp [rowsOf] at hi
  ·exact ⟨_, cap, hv, ⟨rfl, c, off, arr, T, fz, vs, by rw [Addr.add_lit]; simp, h2, h3, h4⟩, trivial⟩
 ·rename_i v hm; rw [hm] at hi; simp [rowsOf] at hi
 ·rename_i p hm; rw [hm] at ha hi ⊢; split at hs
  ·rename_i nw e' rows hp; subst hs; obtain ⟨bl, hb⟩ := h.own; have hv := ha (by rw [hp]; rfl); have := pos_fit hb (p := p) (by rw [hp]; rfl); rw [hp] at this; simp only [rowsOf, hp] at hi ⊢; rcases this with ⟨_, rfl, e1⟩ | ⟨c, _, cap, arr, T, vs, e1, _⟩
   ·simp at hi
   ·refine ⟨_, cap, by rw [hv, e1], rfl, fun nw' e' rows' hp' => ?_⟩; rw [hp] at hp'; cases hp'; exact ⟨c, _, cap, e1, by rw [Addr.add_lit]; simp⟩
  ·cases hs
 ·rename_i p lo hi' hm; rw [hm] at ha hi ⊢; split at hs
  ·rename_i nw e' rows hp; subst hs; simp only [rowsOf, hp, List.length_drop, List.length_take] at hi ⊢; obtain ⟨h1, h2, q, cap, hv, _, hq, _⟩ := ha nw e' rows hp; rcases hq with rfl | ⟨c, n, cp, hpv, rfl⟩
   ·omega
   ·refine ⟨_, cap, by rw [hv]; congr 1; omega, rfl, fun nw' e' rows' hp' => ?_⟩; rw [hp] at hp'; cases hp'; exact ⟨c, n, cp, hpv, by rw [Addr.add_lit, ← Nat.add_mul]; simp⟩
  ·cases hs
 ·cases hs
def idxV (P : Program) (st : St) (t : TypeId) (x i : SV) : SV × Prop :=
 match slSize P t with
 | some e => match x with
  | .pv (.bsl b e' off n _) => (.pv (.ptr b (off + (asI i).toNat * e)), e' = e ∧ isI i ∧ 0 ≤ asI i ∧ asI i < (n : Int))
  | x => (idxSl (asI i).toNat x, slOk st e x ∧ isI i ∧ 0 ≤ asI i ∧ asI i < (rowsOf st x).length)
 | none => match arSize P t with
  | some (n, e) => ((fldA ((asI i).toNat * e) x).1, (fldA ((asI i).toNat * e) x).2 ∧ live st x ∧ isI i ∧ 0 ≤ asI i ∧ asI i < (n : Int))
  | none => (.pv .bot, False)
theorem idxV_ok {P : Program} {st : St} (o : Oper) (t : TypeId) (x i : Operand) (ho : o.op = .indexAddr t x i) :
 PopS P st o ((idxV P st t (mv st x) (mv st i)).1, gc st x ∧ gc st i ∧ (idxV P st t (mv st x) (mv st i)).2) := by
 intro g a w h ⟨hx, hgi, hd⟩; unfold idxV at hd ⊢; cases hs : slSize P t with
 | some e =>
  rw [hs] at hd; simp only at hd ⊢; split at hd
  ·rename_i b e' off n cap hm; obtain ⟨rfl, h2, h3, h4⟩ := hd; have ei := int_ok h hgi h2; obtain ⟨hf, _⟩ := mv_ok h x hx; rw [hm] at hf; obtain ⟨_, hb, _, hv⟩ := hf; refine ⟨.pointer (some ((⟨g.μ b, off, none⟩ : Addr).add ((asI (mv st i)).toNat * e'))), ?_, ⟨rfl, hb, by rw [Addr.add_lit]⟩, trivial⟩; unfold slSize at hs; split at hs
   case h_2 => cases hs
   rename_i el hu; simp only [Option.map_eq_some_iff] at hs; obtain ⟨inf, hinf, rfl⟩ := hs; intro w'; simp only [execOp, ho, hv, ei, Instr.indexAt, asIntOf, Sem.run_bind, Sem.run_pure, Result.andThen_ok, run_underlying hu, if_pos (And.intro h3 h4), run_sizeOf hinf]
  rename_i hnb; obtain ⟨h1, h2, h3, h4⟩ := hd; have ei := int_ok h hgi h2; obtain ⟨q, cap, hv, h5, h6⟩ := idxSl_ok h hx h1 (i := (asI (mv st i)).toNat) (by omega); refine ⟨_, ?_, h5, h6⟩; unfold slSize at hs; split at hs
  case h_2 => cases hs
  rename_i el hu; simp only [Option.map_eq_some_iff] at hs; obtain ⟨inf, hinf, rfl⟩ := hs; intro w'; simp only [execOp, ho, hv, ei, Instr.indexAt, asIntOf, Sem.run_bind, Sem.run_pure, Result.andThen_ok, run_underlying hu, if_pos (And.intro h3 h4), run_sizeOf hinf]
 | none =>
  rw [hs] at hd; simp only at hd ⊢; cases hs' : arSize P t with
  | none => rw [hs'] at hd; cases hd
  | some p =>
   obtain ⟨n, e⟩ := p; rw [hs'] at hd; simp only at hd ⊢; obtain ⟨h1, h2, h3, h4, h5⟩ := hd; have ei := int_ok h hgi h3; obtain ⟨hf, ha⟩ := mv_ok h x hx; obtain ⟨q, hv, h6, h7⟩ := fldA_live hf ha h1 h2; refine ⟨_, ?_, h6, h7⟩; unfold arSize at hs'; split at hs'
   case h_2 => cases hs'
   rename_i n' el hu; simp only [Option.map_eq_some_iff, Prod.mk.injEq] at hs'; obtain ⟨inf, hinf, rfl, rfl⟩ := hs'; intro w'; simp only [execOp, ho, hv, ei, Instr.indexAt, Instr.sureAddr, asIntOf, Sem.run_bind, Sem.run_pure, Result.andThen_ok, run_underlying hu, if_pos (And.intro h4 h5), run_sizeOf hinf]
/-! ### Loads -/
def cellSV (st : St) (b k : Nat) : SV :=
 match posGet st (.cell b k) with
 | .pv x => .pv x
 | .own _ _ _ => .al (.cell b k)
 | .omap _ _ => .al (.cell b k)
 | _ => .pv .bot
def ld1 (st : St) : SV → SV × Prop
 | .pv (.ptr b o) => (cellSV st b o, o < (st.h.getD b []).length)
 | .pv (.iptr e rows i k) => (.pv ((rows.getD i []).getD k .bot), i < rows.length ∧ k < e)
 | .sptr p i k => match posGet st p with
  | .own _ e rows => (.pv ((rows.getD i []).getD k .bot), i < rows.length ∧ k < e)
  | _ => (.pv .bot, False)
 | _ => (.pv .bot, False)
def isPv : SV → Prop
 | .pv _ => True
 | _ => False
def toPv : SV → PV
 | .pv x => x
 | _ => .bot
def ldn (st : St) (n : Nat) : SV → SV × Prop
 | .pv (.ptr b o) => (.pv (.agg (((st.h.getD b []).drop o).take n |>.map toPv)), o + n ≤ (st.h.getD b []).length ∧ ∀ x ∈ ((st.h.getD b []).drop o).take n, isPv x)
 | .pv (.iptr e rows i k) => (.pv (.agg (((rows.getD i []).drop k).take n)), i < rows.length ∧ k + n ≤ e)
 | .sptr p i k => match posGet st p with
  | .own _ e rows => (.pv (.agg (((rows.getD i []).drop k).take n)), i < rows.length ∧ k + n ≤ e)
  | _ => (.pv .bot, False)
 | _ => (.pv .bot, False)
def ldV (P : Program) (st : St) (t : TypeId) (x : SV) : SV × Prop :=
 match ldInfo P t with
 | some (false, _) => ld1 st x
 | some (true, n) => ldn st n x
 | none => (.pv .bot, False)
theorem isPv_eq {x : SV} (h : isPv x) : x = .pv (toPv x) := by
 unfold isPv at h; split at h
 ·rfl
 ·cases h
theorem run_loadVar {P : Program} {t : TypeId} {n : Nat} (w : World) (a : Addr) (vs : List Value) (h : ldInfo P t = some (true, n)) (hn : vs.length = n) (hc : ∀ j v, vs[j]? = some v → w.cell? (a.add j) = some v) :
 (loadVar t a).run P w = .ok (.agg vs.toArray) w := by
 obtain ⟨h1, h2⟩ := run_isAgg h w; simp only [loadVar, Sem.run_bind, h1, Result.andThen_ok, if_true, h2]; rw [← hn, run_loadCells_list w a vs hc]; rfl
theorem run_loadVar1 {P : Program} {t : TypeId} {n : Nat} (w : World) (a : Addr) (v : Value) (h : ldInfo P t = some (false, n)) (hc : w.cell? a = some v) :
 (loadVar t a).run P w = .ok v w := by
 obtain ⟨h1, _⟩ := run_isAgg h w; simp only [loadVar, Sem.run_bind, h1, Result.andThen_ok, Bool.false_eq_true, if_false, run_load, hc]
theorem row_run {g : Gh} {w : World} {e : Nat} {rows : List (List PV)} {vs : List Value} {arr : Array Value} {off c : Nat} {T : TypeId} {fz : Nat × Nat} (hc : w.heap[c]? = some (.cells arr T fz))
 (h : FitR g e rows vs) (hp : vs <+: arr.toList.drop off) {i : Nat} (hi : i < rows.length) :
 (rows.getD i []).length = e ∧ ∃ b, b.length = e ∧ FitL g (rows.getD i []) b ∧ ∀ j v, b[j]? = some v → w.cell? ⟨c, off + i * e + j, none⟩ = some v := by
 have hr : rows[i]? = some (rows.getD i []) := by simp [List.getD, List.getElem?_eq_getElem hi]
 obtain ⟨he, b, hb, hj⟩ := row_cells h hp hr; exact ⟨he, b, by rw [hb.length, he], hb, fun j v hv => by rw [cell_of hc]; exact hj j v hv⟩
theorem row1 {P : Program} {g : Gh} {w : World} {t : TypeId} {m e : Nat} {rows : List (List PV)} {vs : List Value} {arr : Array Value} {off c : Nat} {T : TypeId} {fz : Nat × Nat} (hl : ldInfo P t = some (false, m))
 (hc : w.heap[c]? = some (.cells arr T fz)) (h : FitR g e rows vs) (hp : vs <+: arr.toList.drop off) {i k : Nat} (hi : i < rows.length) (hk : k < e) :
 ∃ v, (loadVar t ⟨c, off + i * e + k, none⟩).run P w = .ok v w ∧ Fit g ((rows.getD i []).getD k .bot) v := by
 obtain ⟨he, b, hbl, hb, hj⟩ := row_run hc h hp hi; have hk' : k < (rows.getD i []).length := by omega
 obtain ⟨v, hv, hf⟩ := hb.get k ((rows.getD i []).getD k .bot) (by simp only [List.getD_eq_getElem?_getD]; rw [List.getElem?_eq_getElem (by simpa only [List.getD_eq_getElem?_getD] using hk')]; rfl); exact ⟨v, run_loadVar1 w _ v hl (hj k v hv), hf⟩
theorem rown {P : Program} {g : Gh} {w : World} {t : TypeId} {n e : Nat} {rows : List (List PV)} {vs : List Value} {arr : Array Value} {off c : Nat} {T : TypeId} {fz : Nat × Nat} (hl : ldInfo P t = some (true, n))
 (hc : w.heap[c]? = some (.cells arr T fz)) (h : FitR g e rows vs) (hp : vs <+: arr.toList.drop off) {i k : Nat} (hi : i < rows.length) (hk : k + n ≤ e) :
 ∃ v, (loadVar t ⟨c, off + i * e + k, none⟩).run P w = .ok v w ∧ Fit g (.agg (((rows.getD i []).drop k).take n)) v := by
 obtain ⟨he, b, hbl, hb, hj⟩ := row_run hc h hp hi; refine ⟨_, run_loadVar w _ ((b.drop k).take n) hl (by simp; omega) (fun j v hv => ?_), _, rfl, by simpa using (hb.drop k).take n⟩; rw [List.getElem?_take] at hv; split at hv
 ·rw [List.getElem?_drop] at hv; rw [Addr.add_lit, Nat.add_assoc]; exact hj _ v hv
 ·cases hv
theorem ldV_ok {P : Program} {st : St} (o : Oper) (t : TypeId) (x : Operand) (ho : o.op = .load t x) :
 Pop P st o ((ldV P st t (mv st x)).1, gc st x ∧ (ldV P st t (mv st x)).2) := by
 intro g a w h ⟨hx, hd⟩; obtain ⟨hf, ha⟩ := mv_ok h x hx; obtain ⟨bl, hb⟩ := h.own; have hrun : ∀ (q : Addr) (v : Value), a.eval x = .pointer (some q) → (loadVar t q).run P w = .ok v w → (execOp a.eval o).run P w = .ok (.value v) w := by
  intro q v he hv; simp only [execOp, ho, he, Instr.loadAt, Instr.sureAddr, Sem.run_bind, Sem.run_pure, Result.andThen_ok, hv]
 unfold ldV at hd ⊢; cases hl : ldInfo P t with
 | none => rw [hl] at hd; cases hd
 | some p =>
  obtain ⟨bb, n⟩ := p; rw [hl] at hd; cases bb with
  | false =>
   simp only at hd ⊢; unfold ld1 at hd ⊢; split at hd
   ·rename_i b k hm; rw [hm] at hf; simp only [hm] at hd ⊢; obtain ⟨_, hbn, hv⟩ := hf; have hbl : b < st.h.length := h.n ▸ hbn; obtain ⟨arr, T, h1, ⟨h2, _⟩, h3⟩ := hb.blocks b (st.h[b]) (List.getElem?_eq_getElem hbl); simp only [List.getD, List.getElem?_eq_getElem hbl, Option.getD_some] at hd; obtain ⟨hin, hs⟩ := h3 k ((st.h[b])[k]) (List.getElem?_eq_getElem hd); have hval : posVal g a w (.cell b k) = arr.getD k undef := by simp [posVal, h1]
    have hrun' := hrun _ (arr.getD k undef) hv (run_loadVar1 w _ _ hl (by rw [cell_of h1]; simp [Array.getD, h2, hd])); have hpg : posGet st (.cell b k) = (st.h[b])[k] := by simp [posGet, List.getElem?_eq_getElem hbl, List.getElem?_eq_getElem hd]
    refine ⟨_, hrun', ?_⟩; unfold cellSV; rw [hpg]; cases hsv : (st.h[b])[k] with
    | pv y => rw [hsv] at hs; exact ⟨⟨rfl, hs.2⟩, trivial⟩
    | own nw e rows => exact ⟨rfl, fun _ => hval.symm⟩
    | omap nw es => exact ⟨rfl, fun _ => hval.symm⟩
    | al p => rw [hsv] at hin; cases hin
    | loc p i j => rw [hsv] at hin; cases hin
    | sptr p i j => rw [hsv] at hin; cases hin
    | agl xs => rw [hsv] at hin; cases hin
    | opt c y => rw [hsv] at hin; cases hin
   ·rename_i e rows i k hm; rw [hm] at hf; simp only [hm] at hd ⊢; obtain ⟨_, c, off, arr, T, fz, vs, hv, h2, h3, h4⟩ := hf; obtain ⟨v, hr, hfv⟩ := row1 hl (h.I _ _ h2) h3 h4 hd.1 hd.2; exact ⟨v, hrun _ v hv hr, ⟨rfl, hfv⟩, trivial⟩
   ·rename_i p i k hm; rw [hm] at ha; split at hd
    ·rename_i nw e rows hp; simp only [hp]; obtain ⟨c, n', cp, hpv, hv⟩ := ha nw e rows hp; have := pos_fit hb (p := p) (by rw [hp]; rfl); rw [hp] at this; rcases this with ⟨_, rfl, _⟩ | ⟨c', _, cap, arr, T, vs, e1, e2, _, _, e5, e6, _⟩
     ·simp at hd
     ·rw [e1] at hpv; cases hpv; obtain ⟨v, hr, hfv⟩ := row1 (off := 0) hl e2 e5 (by simpa using e6) hd.1 hd.2; refine ⟨v, hrun _ v hv (by simpa using hr), ⟨rfl, hfv⟩, trivial⟩
    ·cases hd
   ·cases hd
  | true =>
   simp only at hd ⊢; unfold ldn at hd ⊢; split at hd
   ·rename_i b k hm; rw [hm] at hf; simp only [hm] at hd ⊢; obtain ⟨_, hbn, hv⟩ := hf; have hbl : b < st.h.length := h.n ▸ hbn; obtain ⟨arr, T, h1, ⟨h2, _⟩, h3⟩ := hb.blocks b (st.h[b]) (List.getElem?_eq_getElem hbl); simp only [List.getD, List.getElem?_eq_getElem hbl, Option.getD_some] at hd ⊢; have hlen : (((arr.toList).drop k).take n).length = n := by simp; omega
    refine ⟨_, hrun _ _ hv (run_loadVar w _ (((arr.toList).drop k).take n) hl hlen (fun j v hv => ?_)), ⟨rfl, _, rfl, ?_⟩, trivial⟩
    ·rw [List.getElem?_take] at hv; split at hv
     ·rw [List.getElem?_drop, Array.getElem?_toList] at hv; rw [Addr.add_lit, cell_of h1]; exact hv
     ·cases hv
    ·have key : ∀ (xs : List SV) (us : List Value), xs.length = us.length → (∀ x ∈ xs, isPv x) → (∀ (j : Nat) (x : SV) (u : Value), xs[j]? = some x → us[j]? = some u → ∃ b' : Option Nat, SFit g w x u b') → FitL g (xs.map toPv) us := by
      intro xs
      induction xs with
      | nil => intro us hl _ _; cases us with
       | nil => simp [FitL]
       | cons _ _ => simp at hl
      | cons x xs ih =>
       intro us hl hp hs; cases us with
       | nil => simp at hl
       | cons u us =>
        refine ⟨u, us, rfl, ?_, ih us (by simpa using hl) (fun y hy => hp y (List.mem_cons_of_mem _ hy)) (fun j y v hy hv => hs (j + 1) y v (by simpa using hy) (by simpa using hv))⟩; obtain ⟨b', hx⟩ := hs 0 x u rfl rfl; rw [isPv_eq (hp x (List.mem_cons_self ..))] at hx; exact hx.2
     refine key _ _ (by simp; omega) hd.2 (fun j x u hx hu => ?_); rw [List.getElem?_take] at hx hu; split at hx
     ·rename_i hj; rw [if_pos hj] at hu; rw [List.getElem?_drop] at hx hu; obtain ⟨_, hs⟩ := h3 (k + j) x hx; refine ⟨bl (.cell b (k + j)), ?_⟩; have : arr.getD (k + j) undef = u := by
       rw [Array.getElem?_toList] at hu; simp [Array.getD_eq_getD_getElem?, hu]
      rw [← this]; exact hs
     ·cases hx
   ·rename_i e rows i k hm; rw [hm] at hf; simp only [hm] at hd ⊢; obtain ⟨_, c, off, arr, T, fz, vs, hv, h2, h3, h4⟩ := hf; obtain ⟨v, hr, hfv⟩ := rown hl (h.I _ _ h2) h3 h4 hd.1 hd.2; exact ⟨v, hrun _ v hv hr, ⟨rfl, hfv⟩, trivial⟩
   ·rename_i p i k hm; rw [hm] at ha; split at hd
    ·rename_i nw e rows hp; simp only [hp]; obtain ⟨c, n', cp, hpv, hv⟩ := ha nw e rows hp; have := pos_fit hb (p := p) (by rw [hp]; rfl); rw [hp] at this; rcases this with ⟨_, rfl, _⟩ | ⟨c', _, cap, arr, T, vs, e1, e2, _, _, e5, e6, _⟩
     ·simp at hd
     ·rw [e1] at hpv; cases hpv; obtain ⟨v, hr, hfv⟩ := rown (off := 0) hl e2 e5 (by simpa using e6) hd.1 hd.2; refine ⟨v, hrun _ v hv (by simpa using hr), ⟨rfl, hfv⟩, trivial⟩
    ·cases hd
   ·cases hd
end Go.AX

namespace Go.AX
/-! ### Small ones -/
def unV (op : UnOp) (x : SV) : SV × Prop :=
 match op with
 | .not => (.bool (!asB x), isB x)
 | .neg => (.int (asK x) ((asK x).wrap (0 - asI x)), isI x)
 | _ => (.pv .bot, False)
theorem unV_ok {P : Program} {st : St} (o : Oper) (op : UnOp) (t : TypeId) (x : Operand) (ho : o.op = .unOp op t x) :
 PopS P st o ((unV op (mv st x)).1, gc st x ∧ (unV op (mv st x)).2) := by
 intro g a w h ⟨hx, hd⟩; unfold unV at hd ⊢; simp only [execOp, ho]; cases op <;> simp only at hd ⊢
 case not =>
  rw [bool_ok h hx hd]; simp only [Op.unary, Sem.run_bind, Sem.run_pure, Result.andThen_ok]; exact ⟨_, fun _ => rfl, ⟨rfl, rfl⟩, trivial⟩
 case neg =>
  rw [int_ok h hx hd]; simp only [Op.unary, Op.intArith, Sem.run_bind, Sem.run_pure, Result.andThen_ok]; exact ⟨_, fun _ => rfl, ⟨rfl, rfl⟩, trivial⟩
 all_goals exact hd.elim
theorem mvV_ok {P : Program} {st : St} (o : Oper) (x : Operand) (ho : o.op = .move x ∨ o.op = .assign x) :
 PopS P st o (mv st x, gc st x) := by
 intro g a w h hx; obtain ⟨hf, ha⟩ := mv_ok h x hx; exact ⟨a.eval x, fun _ => by rcases ho with ho | ho <;> simp [execOp, ho], hf, ha⟩
def pickV (c x y : SV) : SV × Prop :=
 (.bool (bif asB c then asB x else asB y), isB c ∧ (asB c = true → isB x) ∧ (asB c = false → isB y))
theorem pickV_ok {P : Program} {st : St} (o : Oper) (c x y : Operand) (ho : o.op = .pick c x y) :
 PopS P st o ((pickV (mv st c) (mv st x) (mv st y)).1, gc st c ∧ (asB (mv st c) = true → gc st x) ∧ (asB (mv st c) = false → gc st y) ∧ (pickV (mv st c) (mv st x) (mv st y)).2) := by
 intro g a w h ⟨hc, hx, hy, hd⟩; obtain ⟨h1, h2, h3⟩ := hd; simp only [execOp, ho]; rw [bool_ok h hc h1]; simp only [asBool, Sem.run_bind, Sem.run_pure, Result.andThen_ok]; cases hb : asB (mv st c) with
 | true =>
  refine ⟨_, fun _ => rfl, ⟨rfl, ?_⟩, trivial⟩; simp only [if_true, bool_ok h (hx hb) (h2 hb), hb, cond_true]; rfl
 | false =>
  refine ⟨_, fun _ => rfl, ⟨rfl, ?_⟩, trivial⟩; simp only [Bool.false_eq_true, if_false, bool_ok h (hy hb) (h3 hb), hb, cond_false]; rfl
def extV (i : Nat) (x : SV) : SV × Prop :=
 match x with
 | .pv (.tup xs) => (.pv (xs.getD i .bot), i < xs.length)
 | _ => (.pv .bot, False)
theorem extV_ok {P : Program} {st : St} (o : Oper) (x : Operand) (i : Nat) (ho : o.op = .extract x i) :
 PopS P st o ((extV i (mv st x)).1, gc st x ∧ (extV i (mv st x)).2) := by
 intro g a w h ⟨hx, hd⟩; obtain ⟨hf, _⟩ := mv_ok h x hx; unfold extV at hd ⊢; split at hd
 ·rename_i xs hm; rw [hm] at hf; simp only [hm] at hd ⊢; obtain ⟨_, vs, hv, hl⟩ := hf; obtain ⟨v, hv', hf'⟩ := hl.get i _ (List.getElem?_eq_getElem hd); refine ⟨v, ?_, ⟨rfl, by simpa [List.getD, List.getElem?_eq_getElem hd] using hf'⟩, trivial⟩; have : vs[i]? = some v := by rw [← Array.getElem?_toList]; exact hv'
  intro w'; simp [execOp, ho, hv, Instr.extract, this]
 ·cases hd
def pcells : PV → List PV
 | .agg xs => xs
 | .lit (.agg vs) => vs.toList.map .lit
 | x => [x]
def fldInfo (P : Program) (t : TypeId) (f : Nat) : Option (Nat × Bool × Nat) :=
 match P.underlying t with
 | some (.struct fs) => match fs[f]? with
  | some x => (ldInfo P x.type).map fun p => (x.offset, p)
  | none => none
 | _ => none
def isAggV : SV → Prop
 | .pv (.agg _) => True
 | .pv (.lit (.agg _)) => True
 | _ => False
def partV (P : Program) (t : TypeId) (f : Nat) (x : SV) : SV × Prop :=
 match fldInfo P t f with
 | some (off, false, _) => (.pv ((pcells (toPv x)).getD off .bot), isAggV x ∧ off < (pcells (toPv x)).length)
 | some (off, true, n) => (.pv (.agg (((pcells (toPv x)).drop off).take n)), isAggV x ∧ off + n ≤ (pcells (toPv x)).length)
 | none => (.pv .bot, False)
theorem agg_ok {g : Gh} {w : World} {x : SV} {v : Value} (h : SFit g w x v none) (hs : isAggV x) : ∃ vs : Array Value, v = .agg vs ∧ FitL g (pcells (toPv x)) vs.toList := by
 unfold isAggV at hs; split at hs
 ·obtain ⟨_, vs, rfl, hl⟩ := h; exact ⟨vs, rfl, hl⟩
 ·rename_i vs; have h2 : v = .agg vs := h.2; subst h2; refine ⟨vs, rfl, ?_⟩; show FitL g (vs.toList.map PV.lit) vs.toList
  induction vs.toList with
  | nil => simp [FitL]
  | cons u us ih => exact ⟨u, us, rfl, rfl, ih⟩
 ·cases hs
theorem run_part {P : Program} {t : TypeId} {n : Nat} (w : World) (cs : Array Value) (off : Nat) (h : ldInfo P t = some (true, n)) :
 (part t cs off).run P w = .ok (.agg (cs.extract off (off + n))) w := by
 obtain ⟨h1, h2⟩ := run_isAgg h w; simp [part, h1, h2]
theorem run_part1 {P : Program} {t : TypeId} {n : Nat} (w : World) (cs : Array Value) (off : Nat) (v : Value) (h : ldInfo P t = some (false, n)) (hv : cs[off]? = some v) :
 (part t cs off).run P w = .ok v w := by
 obtain ⟨h1, _⟩ := run_isAgg h w; simp [part, h1, hv]
theorem partV_ok {P : Program} {st : St} (o : Oper) (t : TypeId) (x : Operand) (f : Nat) (ho : o.op = .field t x f) :
 PopS P st o ((partV P t f (mv st x)).1, gc st x ∧ (partV P t f (mv st x)).2) := by
 intro g a w h ⟨hx, hd⟩; obtain ⟨hf, _⟩ := mv_ok h x hx; unfold partV at hd ⊢; cases hi : fldInfo P t f with
 | none => rw [hi] at hd; cases hd
 | some q =>
  obtain ⟨off, b, n⟩ := q; rw [hi] at hd; unfold fldInfo at hi; split at hi
  case h_2 => cases hi
  rename_i fs hu; split at hi
  case h_2 => cases hi
  rename_i fd hfd; simp only [Option.map_eq_some_iff, Prod.mk.injEq] at hi; obtain ⟨q, hl, rfl, hq⟩ := hi; rw [hq] at hl; clear hq; cases b with
  | false =>
   simp only at hd ⊢; obtain ⟨vs, hv, hfl⟩ := agg_ok hf hd.1; obtain ⟨v, hv', hf'⟩ := hfl.get _ _ (List.getElem?_eq_getElem hd.2); refine ⟨v, ?_, ⟨rfl, by simpa [List.getD, List.getElem?_eq_getElem hd.2] using hf'⟩, trivial⟩; intro w'; simp [execOp, ho, hv, Instr.field, run_underlying hu, hfd, asAgg, run_part1 w' vs fd.offset v hl (by rw [← Array.getElem?_toList]; exact hv')]
  | true =>
   simp only at hd ⊢; obtain ⟨vs, hv, hfl⟩ := agg_ok hf hd.1; refine ⟨.agg (vs.extract fd.offset (fd.offset + n)), ?_, ⟨rfl, _, rfl, ?_⟩, trivial⟩
   ·intro w'; simp [execOp, ho, hv, Instr.field, run_underlying hu, hfd, asAgg, run_part w' vs fd.offset hl]
   ·have := (hfl.drop fd.offset).take n; rw [Array.toList_extract]; simpa [List.extract] using this
def cvtK (P : Program) (t : TypeId) : Option IntKind :=
 match P.underlying t with
 | some (.int k) => some k
 | _ => none
def cvtV (P : Program) (src dst : TypeId) (x : SV) : SV × Prop :=
 match cvtK P src, cvtK P dst with
 | some _, some k => (.int k (k.wrap (asI x)), isI x)
 | _, _ => match P.underlying src, P.underlying dst with
  | some .string, some .string => (.pv (.lit (.string (asS x))), isS x)
  | _, _ => (.pv .bot, False)
theorem cvtV_ok {P : Program} {st : St} (o : Oper) (src dst : TypeId) (x : Operand) (ho : o.op = .convert src dst x) :
 PopS P st o ((cvtV P src dst (mv st x)).1, gc st x ∧ (cvtV P src dst (mv st x)).2) := by
 intro g a w h ⟨hx, hd⟩; unfold cvtV at hd ⊢; split at hd
 ·rename_i k1 k h1 h2; simp only [h1, h2] at hd ⊢; unfold cvtK at h1 h2; split at h1
  case h_2 => cases h1
  rename_i hu1; split at h2
  case h_2 => cases h2
  rename_i hu2; cases h2; refine ⟨_, ?_, ⟨rfl, rfl⟩, trivial⟩; intro w'; simp [execOp, ho, int_ok h hx hd, convert, run_underlying hu1, run_underlying hu2, Conv.intToInt]
 ·split at hd
  ·rename_i h1 h2; refine ⟨.string (asS (mv st x)), ?_, ?_, ?_⟩
   ·intro w'; simp [execOp, ho, str_ok h hx hd, convert, run_underlying h1, run_underlying h2]
   ·exact ⟨rfl, rfl⟩
   ·trivial
  ·cases hd
def ckV (st : St) (x : SV) : SV × Prop :=
 match x with
 | .pv (.ptr b o) => (.pv (.ptr b o), True)
 | .pv (.iptr e r i k) => (.pv (.iptr e r i k), True)
 | .pv (.fn (.func f) a b) => (.pv (.fn (.func f) a b), True)
 | .pv (.lit (.func (.func f) a b)) => (.pv (.lit (.func (.func f) a b)), True)
 | .sptr p i k => (.sptr p i k, live st (.sptr p i k))
 | _ => (.pv .bot, False)
theorem ckV_ok {P : Program} {st : St} (o : Oper) (x : Operand) (ho : o.op = .nilCheck x) :
 PopS P st o ((ckV st (mv st x)).1, gc st x ∧ (ckV st (mv st x)).2) := by
 intro g a w h ⟨hx, hd⟩; obtain ⟨hf, _⟩ := mv_ok h x hx; unfold ckV at hd ⊢; split at hd
 ·rename_i hm; rw [hm] at hf; simp only [hm]; obtain ⟨_, h1, hv⟩ := hf; exact ⟨_, fun _ => by simp [execOp, ho, hv], ⟨rfl, h1, rfl⟩, trivial⟩
 ·rename_i hm; rw [hm] at hf; simp only [hm]; obtain ⟨_, c, off, arr, T, fz, vs, hv, hr⟩ := hf; exact ⟨_, fun _ => by simp [execOp, ho, hv], ⟨rfl, c, off, arr, T, fz, vs, rfl, hr⟩, trivial⟩
 ·rename_i hm; rw [hm] at hf; simp only [hm]; obtain ⟨_, p, q, hv, hr⟩ := hf; exact ⟨_, fun _ => by simp [execOp, ho, hv], ⟨rfl, p, q, rfl, hr⟩, trivial⟩
 ·rename_i hm; rw [hm] at hf; simp only [hm]; have hv : a.eval x = _ := hf.2; exact ⟨_, fun _ => by simp [execOp, ho, hv], ⟨rfl, rfl⟩, trivial⟩
 ·rename_i p i k hm; obtain ⟨_, ha⟩ := mv_ok h x hx; rw [hm] at ha; simp only [hm]; unfold live at hd; cases hps : posGet st p <;> simp only [hps] at hd; obtain ⟨c, n, cp, h1, hv⟩ := ha _ _ _ hps; exact ⟨_, fun _ => by simp [execOp, ho, hv]; rfl, rfl, fun nw' e' rows' hp' => ⟨c, n, cp, h1, by rw [hps] at hp'; cases hp'; rfl⟩⟩
 ·cases hd
/-! ### Slice expressions -/
def cutSl (l h : Nat) : SV → SV
 | .pv (.seq nw e rows) => .pv (.seq nw e ((rows.take h).drop l))
 | .pv (.lit v) => .pv (.lit v)
 | .al p => .loc p l h
 | .loc p lo _ => .loc p (lo + l) (lo + h)
 | _ => .pv .bot
def bnd (st : St) (d : Nat) : Option Operand → Int
 | none => d
 | some x => asI (mv st x)
def bndOk (st : St) : Option Operand → Prop
 | none => True
 | some x => gc st x ∧ isI (mv st x)
def cutV (P : Program) (st : St) (t : TypeId) (x : SV) (lo hi : Option Operand) : SV × Prop :=
 match slSize P t with
 | some e => match x with
  | .pv (.bsl b e' off n cap) => (.pv (.bsl b e (off + (bnd st 0 lo).toNat * e) ((bnd st n hi).toNat - (bnd st 0 lo).toNat) (cap - (bnd st 0 lo).toNat)),
   e' = e ∧ bndOk st lo ∧ bndOk st hi ∧ 0 ≤ bnd st 0 lo ∧ bnd st 0 lo ≤ bnd st n hi ∧ bnd st n hi ≤ n ∧ bnd st 0 lo < cap)
  | x => (cutSl (bnd st 0 lo).toNat (bnd st (rowsOf st x).length hi).toNat x,
   slOk st e x ∧ bndOk st lo ∧ bndOk st hi ∧ 0 ≤ bnd st 0 lo ∧ bnd st 0 lo ≤ bnd st (rowsOf st x).length hi ∧ bnd st (rowsOf st x).length hi ≤ (rowsOf st x).length)
 | none => match P.underlying t with
  | some .string => (.pv (.lit (.string ((asS x).extract (bnd st 0 lo).toNat (bnd st (asS x).size hi).toNat))),
   isS x ∧ bndOk st lo ∧ bndOk st hi ∧ 0 ≤ bnd st 0 lo ∧ bnd st 0 lo ≤ bnd st (asS x).size hi ∧ bnd st (asS x).size hi ≤ (asS x).size)
  | _ => (.pv .bot, False)
theorem run_bounds {P : Program} {st : St} {g : Gh} {a : Act} {w : World} (h : Sim g st a w) (isS : Bool) (len cap : Nat) (lo hi : Option Operand) (hlo : bndOk st lo) (hhi : bndOk st hi)
 (h0 : 0 ≤ bnd st 0 lo) (h1 : bnd st 0 lo ≤ bnd st len hi) (h2 : bnd st len hi ≤ len) (hc : len ≤ cap) :
 ∀ w' : World, (Instr.sliceBounds isS len cap (lo.map a.eval) (hi.map a.eval) none).run P w' = .ok ((bnd st 0 lo).toNat, (bnd st len hi).toNat, cap) w' := by
 intro w'; cases hi with
 | none =>
  cases lo with
  | none => simp [Instr.sliceBounds, bnd]
  | some l =>
   simp only [bnd, bndOk] at *; simp only [Instr.sliceBounds, Option.map_none, Option.map_some, int_ok h hlo.1 hlo.2, Sem.run_bind, Sem.run_pure, Result.andThen_ok, run_sliceBound w' _ _ _ _ h0 h1]; simp
 | some u =>
  cases lo with
  | none =>
   simp only [bnd, bndOk] at *; simp only [Instr.sliceBounds, Option.map_none, Option.map_some, int_ok h hhi.1 hhi.2, Sem.run_bind, Sem.run_pure, Result.andThen_ok, run_sliceBound w' _ _ cap _ h1 (by omega)]; simp
  | some l =>
   simp only [bnd, bndOk] at *; have e1 : ((asI (mv st u)).toNat : Int) = asI (mv st u) := Int.toNat_of_nonneg (by omega); simp only [Instr.sliceBounds, Option.map_some, int_ok h hhi.1 hhi.2, int_ok h hlo.1 hlo.2, Sem.run_bind, Sem.run_pure, Result.andThen_ok, run_sliceBound w' _ _ cap _ (by omega : (0:Int) ≤ asI (mv st u)) (by omega),
    run_sliceBound w' _ _ _ _ h0 (by rw [e1]; exact h1)]
theorem FitR.cut {g : Gh} {e : Nat} {rows : List (List PV)} {vs : List Value} (h : FitR g e rows vs) (l u : Nat) (hl : l ≤ u) (hu : u ≤ rows.length) :
 FitR g e ((rows.take u).drop l) ((vs.take (u * e)).drop (l * e)) := by
 obtain ⟨v1, v2, e1, h1, h2⟩ := FitR.split (xs := rows.take u) (ys := rows.drop u) (by rw [List.take_append_drop]; exact h); have l1 : v1.length = u * e := by rw [h1.length, List.length_take]; congr 1; omega
 have : vs.take (u * e) = v1 := by rw [e1, ← l1, List.take_left']; rfl
 rw [this]; obtain ⟨u1, u2, e2, h3, h4⟩ := FitR.split (xs := (rows.take u).take l) (ys := (rows.take u).drop l) (by rw [List.take_append_drop]; exact h1); have l2 : u1.length = l * e := by rw [h3.length, List.length_take, List.length_take]; congr 1; omega
 rw [e2, ← l2, List.drop_left']
 ·exact h4
 ·rfl
theorem cut_prefix {vs m : List Value} (h : vs <+: m) (l u : Nat) : (vs.take u).drop l <+: m.drop l := by
 obtain ⟨r, hr⟩ := (List.take_prefix u vs).trans h; by_cases hl : l ≤ (vs.take u).length
 ·exact ⟨r, by rw [← hr, List.drop_append_of_le_length hl]⟩
 ·rw [List.drop_eq_nil_of_le (by omega)]; exact List.nil_prefix
theorem cutV_ok {P : Program} {st : St} (o : Oper) (t : TypeId) (x : Operand) (lo hi : Option Operand) (ho : o.op = .slice t x lo hi none) :
 PopS P st o ((cutV P st t (mv st x) lo hi).1, gc st x ∧ (cutV P st t (mv st x) lo hi).2) := by
 intro g a w h ⟨hx, hd⟩; unfold cutV at hd ⊢; cases hs : slSize P t with
 | some e =>
  rw [hs] at hd; simp only at hd ⊢; split at hd
  ·rename_i b e' off n cap hm; obtain ⟨rfl, h2, h3, h4, h5, h6, h7⟩ := hd; obtain ⟨hf, _⟩ := mv_ok h x hx; rw [hm] at hf; obtain ⟨_, hb, hcap, hv⟩ := hf; unfold slSize at hs; split at hs
   case h_2 => cases hs
   rename_i el hu; simp only [Option.map_eq_some_iff] at hs; obtain ⟨inf, hinf, rfl⟩ := hs; refine ⟨sliced (some ⟨g.μ b, off, none⟩) (bnd st 0 lo).toNat (bnd st n hi).toNat cap inf.size, ?_, ⟨rfl, hb, by omega, ?_⟩, trivial⟩
   ·intro w'; simp only [execOp, ho, hv, Option.map_none]; simp only [Instr.sliceAt, Sem.run_bind, run_underlying hu, Result.andThen_ok, Instr.slice, run_bounds h true _ cap lo hi h2 h3 h4 h5 h6 hcap, run_sizeOf hinf, Sem.run_pure, sliced]
   ·rw [sliced, if_neg (by omega)]; simp [Addr.add_lit]
  rename_i hnb; obtain ⟨h1, h2, h3, h4, h5, h6⟩ := hd; obtain ⟨q, cap, hv, hcap⟩ := slice_len h hx h1; obtain ⟨hf, ha⟩ := mv_ok h x hx; unfold slSize at hs; split at hs
  case h_2 => cases hs
  rename_i el hu; simp only [Option.map_eq_some_iff] at hs; obtain ⟨inf, hinf, rfl⟩ := hs; generalize hL : (bnd st 0 lo).toNat = L at *; generalize hU : (bnd st (rowsOf st (mv st x)).length hi).toNat = U at *; have hLU : L ≤ U := by omega
  have hUn : U ≤ (rowsOf st (mv st x)).length := by omega
  refine ⟨sliced q L U cap inf.size, ?_, ?_⟩
  ·intro w'; simp only [execOp, ho, hv, Option.map_none]; simp only [Instr.sliceAt, Sem.run_bind, run_underlying hu, Result.andThen_ok, Instr.slice, run_bounds h true _ cap lo hi h2 h3 h4 h5 h6 hcap, run_sizeOf hinf, Sem.run_pure, hL, hU, sliced]
  ·unfold slOk at h1; split at h1
   ·rename_i nw e' rows hm; subst h1; rw [hm] at hf hv hcap hUn ⊢; simp only [rowsOf] at hUn hcap hv; refine ⟨⟨rfl, ?_⟩, trivial⟩; obtain ⟨_, q', cap', hv', _, hr⟩ := hf; rw [hv'] at hv; cases hv; refine ⟨_, _, by rw [sliced, List.length_drop, List.length_take, Nat.min_eq_left hUn], by simp; omega, ?_⟩; rcases hr with rfl | ⟨c, off, arr, T, fz, vs, rfl, i2, i3, i4, i5⟩
    ·left; simp
    ·by_cases hc : cap = L
     ·left; simp; omega
     ·right; refine ⟨c, off + L * inf.size, arr, T, fz, (vs.take (U * inf.size)).drop (L * inf.size), by rw [if_neg hc]; simp [Addr.add_lit], i2, i3, i4.cut L U hLU hUn, ?_⟩; have := cut_prefix i5 (L * inf.size) (U * inf.size)
      rwa [List.drop_drop] at this
   ·rename_i v hm; rw [hm] at hf hv hUn ⊢; obtain ⟨_, hv'⟩ := hf; rw [isNilSl_eq h1] at hv'; simp only [rowsOf, List.length_nil] at hUn; rw [hv'] at hv; cases hv; have hU0 : U = 0 := by omega
    have hL0 : L = 0 := by omega
    refine ⟨⟨rfl, ?_⟩, trivial⟩; show sliced none _ _ 0 inf.size = v; rw [isNilSl_eq h1, hU0, hL0]; simp [sliced]
   ·rename_i p hm; rw [hm] at ha hUn hv hcap ⊢; split at h1
    ·rename_i nw e' rows hp; subst h1; obtain ⟨bl, hb⟩ := h.own; have hv' := ha (by rw [hp]; rfl); simp only [rowsOf, hp] at hUn hv hcap; refine ⟨rfl, fun nw' e' rows' hp' => ?_⟩; rw [hp] at hp'; cases hp'; refine ⟨hLU, hUn, _, _, rfl, by omega, ?_, fun hL0 => ?_⟩; rotate_left
     ·subst hL0; refine ⟨rows.length, ?_⟩; have hv2 := hv; rw [hv'] at hv2; rw [hv2]; have hfp := pos_fit hb (p := p) (by rw [hp]; rfl); rw [hp, hv2] at hfp; have hq0 : q.map (·.add (0 * inf.size)) = q := by
       rcases hfp with ⟨_, _, e1⟩ | ⟨c, _, cap', arr, T, vs, e1, _⟩
       ·simp only [Value.slice.injEq] at e1; rw [e1.1]; rfl
       ·simp only [Value.slice.injEq] at e1; rw [e1.1]; simp [Addr.add_lit]
      rw [hq0]; simp
     by_cases hlu : L = U
     ·exact .inl hlu
     ·right; have := pos_fit hb (p := p) (by rw [hp]; rfl); rw [hp] at this; rcases this with ⟨_, rfl, e1⟩ | ⟨c, _, cap', arr, T, vs, e1, _⟩
      ·simp at hUn; omega
      ·rw [hv', e1] at hv; cases hv; refine ⟨c, _, _, e1, ?_⟩; rw [if_neg (by omega)]; simp [Addr.add_lit]
    ·cases h1
   ·rename_i p lo' hi' hm; rw [hm] at ha hUn hv hcap ⊢; split at h1
    ·rename_i nw e' rows hp; subst h1; obtain ⟨j1, j2, q', cap', hv', jc, hq, hz⟩ := ha _ _ _ hp; simp only [rowsOf, hp, List.length_drop, List.length_take] at hUn hv hcap; rw [hv'] at hv; simp only [Value.slice.injEq] at hv; obtain ⟨rfl, _, rfl⟩ := hv; refine ⟨rfl, fun nw' e' rows' hp' => ?_⟩; rw [hp] at hp'; cases hp'; refine ⟨by omega, by omega, _, _, by rw [sliced]; congr 1; omega, by omega, ?_, fun hL0 => ?_⟩; rotate_left
     ·have h0 : lo' = 0 := by omega
      have hL : L = 0 := by omega
      obtain ⟨n0, hz⟩ := hz h0; refine ⟨n0, ?_⟩; rw [hz]; subst hL; have hfp := pos_fit (Classical.choose_spec h.own) (p := p) (by rw [hp]; rfl); rw [hp, hz] at hfp; have hq0 : q'.map (·.add (0 * inf.size)) = q' := by
       rcases hfp with ⟨_, _, e1⟩ | ⟨c, _, cap', arr, T, vs, e1, _⟩
       ·simp only [Value.slice.injEq] at e1; rw [e1.1]; rfl
       ·simp only [Value.slice.injEq] at e1; rw [e1.1]; simp [Addr.add_lit]
      rw [hq0]; simp
     by_cases hlu : L = U
     ·left; omega
     ·right; rcases hq with rfl | ⟨c, n, cp, hpv, rfl⟩
      ·omega
      ·refine ⟨c, n, cp, hpv, ?_⟩; rw [if_neg (by omega)]; simp [Addr.add_lit, Nat.add_mul]
    ·cases h1
   ·cases h1
 | none =>
  rw [hs] at hd; simp only at hd ⊢; split at hd
  ·rename_i hu; obtain ⟨h1, h2, h3, h4, h5, h6⟩ := hd; refine ⟨.string ((asS (mv st x)).extract (bnd st 0 lo).toNat (bnd st (asS (mv st x)).size hi).toNat), ?_, ⟨rfl, rfl⟩, trivial⟩; intro w'; simp only [execOp, ho, str_ok h hx h1, Option.map_none]; simp only [Instr.sliceAt, Sem.run_bind, run_underlying hu, Result.andThen_ok, Instr.slice, Option.isSome_none, Bool.false_eq_true, if_false, run_bounds h false _ _ lo hi h2 h3 h4 h5 h6 (Nat.le_refl _), Sem.run_pure]
  ·cases hd
/-! ### A slice of one's own, cut at both ends and no longer than that -/
theorem run_bounds3 {P : Program} {st : St} {g : Gh} {a : Act} {w : World} (h : Sim g st a w) (len cap : Nat) (lo hi m : Operand) (hlo : bndOk st (some lo)) (hhi : bndOk st (some hi)) (hm : bndOk st (some m)) (he : asI (mv st m) = asI (mv st hi))
 (h0 : 0 ≤ asI (mv st lo)) (h1 : asI (mv st lo) ≤ asI (mv st hi)) (h2 : asI (mv st hi) ≤ len) (hc : len ≤ cap) :
 ∀ w' : World, (Instr.sliceBounds true len cap (some (a.eval lo)) (some (a.eval hi)) (some (a.eval m))).run P w' = .ok ((asI (mv st lo)).toNat, (asI (mv st hi)).toNat, (asI (mv st hi)).toNat) w' := by
 intro w'; simp only [bndOk] at *; have e1 : ((asI (mv st hi)).toNat : Int) = asI (mv st hi) := Int.toNat_of_nonneg (by omega); simp only [Instr.sliceBounds, int_ok h hhi.1 hhi.2, int_ok h hlo.1 hlo.2, int_ok h hm.1 hm.2, he, Sem.run_bind, Sem.run_pure, Result.andThen_ok, run_sliceBound w' _ _ cap _ (by omega : (0:Int) ≤ asI (mv st hi)) (by omega),
  run_sliceBound w' _ _ (asI (mv st hi)).toNat _ (by omega : (0:Int) ≤ asI (mv st hi)) (by omega), run_sliceBound w' _ _ (asI (mv st hi)).toNat _ h0 (by rw [e1]; exact h1)]
def cut3V (P : Program) (st : St) (t : TypeId) (x : SV) (lo hi m : Operand) : SV × Prop :=
 match slSize P t, x with
 | some e, .al p => (.loc p (asI (mv st lo)).toNat (asI (mv st hi)).toNat, slOk st e x ∧ bndOk st (some lo) ∧ bndOk st (some hi) ∧ bndOk st (some m) ∧ asI (mv st m) = asI (mv st hi) ∧ 0 < asI (mv st lo) ∧ asI (mv st lo) ≤ asI (mv st hi) ∧ asI (mv st hi) ≤ (rowsOf st x).length)
 | some e, .pv (.seq nw e' rows) => (.pv (.seq nw e' ((rows.take (asI (mv st hi)).toNat).drop (asI (mv st lo)).toNat)), e' = e ∧ bndOk st (some lo) ∧ bndOk st (some hi) ∧ bndOk st (some m) ∧ asI (mv st m) = asI (mv st hi) ∧ 0 ≤ asI (mv st lo) ∧ asI (mv st lo) ≤ asI (mv st hi) ∧ asI (mv st hi) ≤ rows.length)
 | _, _ => (.pv .bot, False)
theorem cut3V_ok {P : Program} {st : St} (o : Oper) (t : TypeId) (x lo hi m : Operand) (ho : o.op = .slice t x (some lo) (some hi) (some m)) :
 PopS P st o ((cut3V P st t (mv st x) lo hi m).1, gc st x ∧ (cut3V P st t (mv st x) lo hi m).2) := by
 intro g a w h ⟨hx, hd⟩; unfold cut3V at hd ⊢; split at hd
 case h_3 => exact hd.elim
 case h_2 =>
  rename_i e nw e' rows hs hm; obtain ⟨rfl, h2, h3, h4, h5, h6, h7, h8⟩ := hd; obtain ⟨q, cap, hv, hcap⟩ := slice_len (e := e') h hx (by rw [hm]; rfl); obtain ⟨hf, ha⟩ := mv_ok h x hx; unfold slSize at hs; split at hs
  case h_2 => cases hs
  rename_i el hu; simp only [Option.map_eq_some_iff] at hs; obtain ⟨inf, hinf, rfl⟩ := hs; rw [hm] at hf hv hcap; simp only [rowsOf] at hcap hv; generalize hL : (asI (mv st lo)).toNat = L at *; generalize hU : (asI (mv st hi)).toNat = U at *; have hLU : L ≤ U := by omega
  have hUn : U ≤ rows.length := by omega
  refine ⟨sliced q L U U inf.size, ?_, ⟨rfl, ?_⟩, trivial⟩
  ·intro w'; simp only [execOp, ho, hv, Option.map_some]; simp only [Instr.sliceAt, Sem.run_bind, run_underlying hu, Result.andThen_ok, Instr.slice, run_bounds3 h rows.length cap lo hi m h2 h3 h4 h5 h6 h7 h8 hcap, run_sizeOf hinf, Sem.run_pure, hL, hU, sliced]
  ·obtain ⟨_, q', cap', hv', _, hr⟩ := hf; rw [hv'] at hv; cases hv; refine ⟨_, _, by rw [sliced, List.length_drop, List.length_take, Nat.min_eq_left hUn], by simp; omega, ?_⟩; rcases hr with rfl | ⟨c, off, arr, T, fz, vs, rfl, i2, i3, i4, i5⟩
   ·left; simp
   ·by_cases hc : U = L
    ·left; simp; omega
    ·right; refine ⟨c, off + L * inf.size, arr, T, fz, (vs.take (U * inf.size)).drop (L * inf.size), by rw [if_neg hc]; simp [Addr.add_lit], i2, i3, i4.cut L U hLU hUn, ?_⟩; have := cut_prefix i5 (L * inf.size) (U * inf.size)
     rwa [List.drop_drop] at this
 rename_i e p hs hm; obtain ⟨h1, h2, h3, h4, h5, h6, h7, h8⟩ := hd; obtain ⟨q, cap, hv, hcap⟩ := slice_len h hx h1; obtain ⟨hf, ha⟩ := mv_ok h x hx; unfold slSize at hs; split at hs
 case h_2 => cases hs
 rename_i el hu; simp only [Option.map_eq_some_iff] at hs; obtain ⟨inf, hinf, rfl⟩ := hs; generalize hL : (asI (mv st lo)).toNat = L at *; generalize hU : (asI (mv st hi)).toNat = U at *; have hLU : L ≤ U := by omega
 have hL0 : 0 < L := by omega
 have hUn : U ≤ (rowsOf st (mv st x)).length := by omega
 refine ⟨sliced q L U U inf.size, ?_, ?_⟩
 ·intro w'; simp only [execOp, ho, hv, Option.map_some]; simp only [Instr.sliceAt, Sem.run_bind, run_underlying hu, Result.andThen_ok, Instr.slice, run_bounds3 h _ cap lo hi m h2 h3 h4 h5 (by omega) h7 h8 hcap, run_sizeOf hinf, Sem.run_pure, hL, hU, sliced]
 ·rw [hm] at ha hUn hv hcap h1 ⊢; unfold slOk at h1; simp only at h1; split at h1
  ·rename_i nw e' rows hp; subst h1; obtain ⟨bl, hb⟩ := h.own; have hv' := ha (by rw [hp]; rfl); simp only [rowsOf, hp] at hUn hv hcap; refine ⟨rfl, fun nw' e' rows' hp' => ?_⟩; rw [hp] at hp'; cases hp'; refine ⟨hLU, hUn, _, U - L, rfl, Nat.le_refl _, ?_, fun hz => by omega⟩; by_cases hUL : L = U
   ·exact .inl hUL
   ·right; have hfp := pos_fit hb (p := p) (by rw [hp]; rfl); rw [hp] at hfp; rcases hfp with ⟨_, rfl, _⟩ | ⟨c, _, cap', arr, T, vs, e1, _⟩
    ·simp at hUn; omega
    ·refine ⟨c, _, cap', e1, ?_⟩; have hv2 := hv; rw [hv', e1] at hv2; cases hv2; rw [if_neg (fun e => hUL e.symm)]; simp [Addr.add_lit]
  ·exact h1.elim
end Go.AX

namespace Go.AX
theorem SFit.frame {g g' : Gh} {w w' : World} (hl : g.le g') : ∀ {sv : SV} {v : Value} {b : Option Nat}, (∀ c, b = some c → w'.heap[c]? = w.heap[c]?) → SFit g w sv v b → SFit g' w' sv v b
 | .pv _, _, _, _, h => ⟨h.1, Fit.mono hl _ _ h.2⟩
 | .own _ _ _, _, _, hw, h => h.imp id fun ⟨c, h1, cap, arr, T, vs, a1, a2, a3, a4, a5, a6, a7⟩ =>
  ⟨c, h1, cap, arr, T, vs, a1, by rw [hw c h1]; exact a2, a3, a4, FitR.mono hl _ _ _ a5, a6, fun hn => Nat.le_trans hl.B (a7 hn)⟩
 | .omap _ _, _, _, hw, ⟨c, h1, en, ck, a1, a2, a3, a4⟩ => ⟨c, h1, en, ck, a1, by rw [hw c h1]; exact a2, FitE.mono hl _ _ a3, fun hn => Nat.le_trans hl.B (a4.1 hn), a4.2⟩
 | .opt _ _, _, _, _, h => ⟨h.1, h.2.1, fun hc => SFit.frame hl (fun _ hb => by cases hb) (h.2.2 hc)⟩
 | .al _, _, _, _, h => h
 | .loc _ _ _, _, _, _, h => h
 | .sptr _ _ _, _, _, _, h => h
 | .agl _, _, _, _, ⟨h, vs, h1, h2⟩ => ⟨h, vs, h1, FitL.mono hl _ _ h2⟩
theorem AlOk.congr {g g' : Gh} {st st' : St} {a a' : Act} {w w' : World} (hp : ∀ p, (posGet st' p).isOwn = true → posGet st' p = posGet st p ∧ posVal g' a' w' p = posVal g a w p) :
 ∀ {sv : SV} {v : Value}, AlOk g st a w sv v → AlOk g' st' a' w' sv v
 | .pv _, _, _ => trivial
 | .own _ _ _, _, _ => trivial
 | .omap _ _, _, _ => trivial
 | .al p, v, h => fun ho => by obtain ⟨h1, h2⟩ := hp p ho; rw [h2]; exact h (by rw [← h1]; exact ho)
 | .loc p lo hi, v, h => fun nw e rows he => by
  obtain ⟨h1, h2⟩ := hp p (by rw [he]; rfl); rw [h2]; exact h nw e rows (by rw [← h1]; exact he)
 | .sptr p i k, v, h => fun nw e rows he => by
  obtain ⟨h1, h2⟩ := hp p (by rw [he]; rfl); rw [h2]; exact h nw e rows (by rw [← h1]; exact he)
 | .agl xs, v, h => fun k x p hx ho => by obtain ⟨h1, h2⟩ := hp p ho; rw [h2]; exact h k x p hx (by rw [← h1]; exact ho)
 | .opt c x, v, h => fun hc => AlOk.congr hp (h hc)
theorem getD_put {a : Act} {d : Nat} {v : Value} (hd : d < a.tmps.size) (s : Nat) : (a.put (some d) v).tmps.getD s undef = if d = s then v else a.tmps.getD s undef := by
 simp only [Act.put, Array.getD_eq_getD_getElem?]; by_cases h : d = s
 ·subst h; simp [hd]
 ·simp [h]
def St.put (st : St) (d : Nat) (sv : SV) : St := ⟨(d, sv) :: st.t, st.h⟩
theorem look_put (st : St) (d : Nat) (sv : SV) (s : Nat) : look (st.put d sv).t s = if d = s then sv else look st.t s := rfl
theorem Sim.put {g : Gh} {st : St} {a : Act} {w : World} (h : Sim g st a w) {d : Nat} (hd : d < g.N) {sv : SV} {v : Value} (hs : SFit g w sv v none) (ha : AlOk g st a w sv v) (ho : sv.isOwn = false) :
 Sim g (st.put d sv) (a.put (some d) v) w := by
 have hd' : d < a.tmps.size := by rw [h.size]; exact hd
 obtain ⟨bl, hb⟩ := h.own; have hpos : ∀ p, (posGet (st.put d sv) p).isOwn = true → posGet (st.put d sv) p = posGet st p ∧ posVal g (a.put (some d) v) w p = posVal g a w p := by
  intro p hp; cases p with
  | cell b k => exact ⟨rfl, rfl⟩
  | slot s =>
   simp only [posGet, look_put] at hp ⊢; split at hp
   ·rw [ho] at hp; cases hp
   ·rename_i hne; simp only [if_neg hne, posVal, getD_put hd', true_and]
 refine { size := ?_, defs := h.defs, env := h.env, n := h.n, n0 := h.n0, B := h.B, I := h.I, F := h.F, μI := h.μI, μinj := h.μinj, own := ⟨fun p => if p = .slot d then none else bl p, ?_⟩, al := fun s => ?_ }
 ·simp [Act.put, h.size]
 ·refine { slots := fun s => ?_, blocks := fun b xs hx => ?_, inj := fun p q c hp hq => ?_, free := fun p c hp => ?_ }
  ·rw [look_put, getD_put hd']; by_cases he : d = s
   ·subst he; simpa using hs
   ·simp only [if_neg he]; rw [if_neg (by intro e; cases e; exact he rfl)]; exact hb.slots s
  ·obtain ⟨arr, T, h1, h2, h3⟩ := hb.blocks b xs hx; refine ⟨arr, T, h1, h2, fun k x hk => ?_⟩; rw [if_neg (by intro e; cases e)]; exact h3 k x hk
  ·split at hp
   ·cases hp
   ·split at hq
    ·cases hq
    ·exact hb.inj p q c hp hq
  ·split at hp
   ·cases hp
   ·exact hb.free p c hp
 ·rw [look_put, getD_put hd']; by_cases he : d = s
  ·simp only [if_pos he]; exact AlOk.congr hpos ha
  ·simp only [if_neg he]; exact AlOk.congr hpos (h.al s)
def anyPos (q : Pos → Bool) : List (PV × Option Pos) → Bool
 | [] => false
 | (_, some p) :: r => q p || anyPos q r
 | (_, none) :: r => anyPos q r
theorem anyPos_false {q : Pos → Bool} : ∀ {xs : List (PV × Option Pos)}, anyPos q xs = false → ∀ (k : Nat) (x : PV) (p : Pos), xs[k]? = some (x, some p) → q p = false
 | [], _, k, x, p, h => by simp at h
 | (y, some p') :: r, hq, 0, x, p, h => by simp only [anyPos, Bool.or_eq_false_iff] at hq; simp at h; rw [← h.2]; exact hq.1
 | (y, none) :: r, hq, 0, x, p, h => by simp at h
 | (y, some p') :: r, hq, k + 1, x, p, h => by simp only [anyPos, Bool.or_eq_false_iff] at hq; exact anyPos_false hq.2 k x p (by simpa using h)
 | (y, none) :: r, hq, k + 1, x, p, h => anyPos_false (xs := r) hq k x p (by simpa using h)
def killS (q : Pos → Bool) : SV → SV
 | .al p => if q p = true then .pv .bot else .al p
 | .loc p lo hi => if q p = true then .pv .bot else .loc p lo hi
 | .sptr p i k => if q p = true then .pv .bot else .sptr p i k
 | .agl xs => if anyPos q xs = true then .pv .bot else .agl xs
 | .opt c x => match killS q x with
  | .pv .bot => .pv .bot
  | y => .opt c y
 | .pv x => .pv x
 | .own a b c => .own a b c
 | .omap a b => .omap a b
def killL (q : Pos → Bool) (t : List (Nat × SV)) : List (Nat × SV) := t.map fun p => (p.1, killS q p.2)
theorem look_kill (q : Pos → Bool) : ∀ (t : List (Nat × SV)) (s : Nat), look (killL q t) s = killS q (look t s)
 | [], _ => rfl
 | (j, v) :: r, s => by
  simp only [killL, List.map_cons, look]; split
  ·rfl
  ·exact look_kill q r s
def SV.avoids (q : Pos → Bool) : SV → Prop
 | .al p => q p = false
 | .loc p _ _ => q p = false
 | .sptr p _ _ => q p = false
 | .agl xs => anyPos q xs = false
 | .opt _ x => x.avoids q
 | _ => True
theorem killS_cases (q : Pos → Bool) : ∀ x : SV, killS q x = .pv .bot ∨ (killS q x = x ∧ x.avoids q)
 | .pv _ => .inr ⟨rfl, trivial⟩
 | .own _ _ _ => .inr ⟨rfl, trivial⟩
 | .omap _ _ => .inr ⟨rfl, trivial⟩
 | .al p => by cases h : q p <;> simp [killS, h, SV.avoids]
 | .loc p lo hi => by cases h : q p <;> simp [killS, h, SV.avoids]
 | .sptr p lo hi => by cases h : q p <;> simp [killS, h, SV.avoids]
 | .agl xs => by cases h : anyPos q xs <;> simp [killS, h, SV.avoids]
 | .opt c x => by
  rcases killS_cases q x with h | ⟨h1, h2⟩
  ·left; simp [killS, h]
  ·rw [killS, h1]; cases x with
   | pv y => cases y <;> first | (left; rfl) | (right; exact ⟨rfl, h2⟩)
   | _ => right; exact ⟨rfl, h2⟩
theorem AlOk.congrA {g g' : Gh} {st st' : St} {a a' : Act} {w w' : World} {q : Pos → Bool} (hp : ∀ p, q p = false → (posGet st' p).isOwn = true → posGet st' p = posGet st p ∧ posVal g' a' w' p = posVal g a w p) :
 ∀ {sv : SV} {v : Value}, sv.avoids q → AlOk g st a w sv v → AlOk g' st' a' w' sv v
 | .pv _, _, _, _ => trivial
 | .own _ _ _, _, _, _ => trivial
 | .omap _ _, _, _, _ => trivial
 | .al p, v, hq, h => fun ho => by obtain ⟨h1, h2⟩ := hp p hq ho; rw [h2]; exact h (by rw [← h1]; exact ho)
 | .loc p lo hi, v, hq, h => fun nw e rows he => by
  obtain ⟨h1, h2⟩ := hp p hq (by rw [he]; rfl); rw [h2]; exact h nw e rows (by rw [← h1]; exact he)
 | .sptr p i k, v, hq, h => fun nw e rows he => by
  obtain ⟨h1, h2⟩ := hp p hq (by rw [he]; rfl); rw [h2]; exact h nw e rows (by rw [← h1]; exact he)
 | .agl xs, v, hq, h => fun k x p hx ho => by obtain ⟨h1, h2⟩ := hp p (anyPos_false hq k x p hx) ho; rw [h2]; exact h k x p hx (by rw [← h1]; exact ho)
 | .opt c x, v, hq, h => fun hc => AlOk.congrA hp hq (h hc)
theorem killS_own {q : Pos → Bool} : ∀ {x : SV}, (killS q x).isOwn = true → killS q x = x
 | .pv _, _ => rfl
 | .own _ _ _, _ => rfl
 | .omap _ _, _ => rfl
 | .al p, h => by simp only [killS] at h; split at h <;> cases h
 | .loc p _ _, h => by simp only [killS] at h; split at h <;> cases h
 | .sptr p _ _, h => by simp only [killS] at h; split at h <;> cases h
 | .agl xs, h => by simp only [killS] at h; split at h <;> cases h
 | .opt c x, h => by simp only [killS] at h; split at h <;> cases h
theorem SFit.kill {g : Gh} {w : World} (q : Pos → Bool) {x : SV} {v : Value} {b : Option Nat} (h : SFit g w x v b) : SFit g w (killS q x) v b := by
 rcases killS_cases q x with e | ⟨e, _⟩
 ·rw [e]; cases x with
  | pv y => simp only [killS] at e; cases e; exact h
  | own _ _ _ => cases e
  | omap _ _ => cases e
  | al _ => exact ⟨h, trivial⟩
  | loc _ _ _ => exact ⟨h, trivial⟩
  | sptr _ _ _ => exact ⟨h, trivial⟩
  | agl _ => exact ⟨h.1, trivial⟩
  | opt _ _ => exact ⟨h.1, trivial⟩
 ·rw [e]; exact h
structure FreeAt (g : Gh) (bl : Pos → Option Nat) (c : Nat) : Prop where
  I : g.I c = none
  F : g.F c = none
  μ : ∀ b, b < g.n → g.μ b ≠ c
  own : ∀ p, bl p ≠ some c
theorem Sim.fresh {g : Gh} {st : St} {a : Act} {w : World} (h : Sim g st a w) {bl : Pos → Option Nat} (hb : Owns g st a w bl) {c : Nat} (hc : w.heap.size ≤ c) : FreeAt g bl c := by
 have hn : w.heap[c]? = none := Array.getElem?_eq_none hc; refine ⟨?_, ?_, fun b hbn e => ?_, fun p hp => ?_⟩
 ·cases hh : g.I c with
  | none => rfl
  | some ob => have := h.I c ob hh; rw [hn] at this; cases this
 ·cases hh : g.F c with
  | none => rfl
  | some ob => have := h.F c ob hh; rw [hn] at this; cases this
 ·have hbl : b < st.h.length := h.n ▸ hbn; obtain ⟨arr, T, h3, _⟩ := hb.blocks b _ (List.getElem?_eq_getElem hbl); rw [e, hn] at h3; cases h3
 ·have := (hb.free p c hp).2.2.1; omega
def qSlot (d : Nat) : Pos → Bool
 | .slot s => d == s
 | .cell _ _ => false
theorem Sim.putOwn {g : Gh} {st : St} {a : Act} {w w' : World} (h : Sim g st a w) {bl : Pos → Option Nat} (hb : Owns g st a w bl) {d : Nat} (hd : d < g.N) {sv : SV} {v : Value} {o : Option Nat}
 (hen : envOf w' = envOf w) (hsz : w.heap.size ≤ w'.heap.size) (hw : ∀ c, c < w.heap.size → o ≠ some c → w'.heap[c]? = w.heap[c]?) (hs : SFit g w' sv v o) (ho : sv.isOwn = true) (hc : ∀ c, o = some c → c < w'.heap.size ∧ FreeAt g bl c) :
 Sim g ⟨(d, sv) :: killL (qSlot d) st.t, st.h⟩ (a.put (some d) v) w' := by
 have hd' : d < a.tmps.size := by rw [h.size]; exact hd
 have hlt : ∀ {c o}, w.heap[c]? = some o → c < w.heap.size := fun hh => (Array.getElem?_eq_some_iff.1 hh).1; have hfr : ∀ {b : Option Nat} {p}, bl p = b → ∀ c, b = some c → w'.heap[c]? = w.heap[c]? := fun {b p} hp c hcb =>
  hw c (hb.free _ c (hp.trans hcb)).2.2.1 (fun e => (hc c e).2.own p (hp.trans hcb))
 have hblk : ∀ b, b < g.n → ∀ ob, w.heap[g.μ b]? = some ob → w'.heap[g.μ b]? = w.heap[g.μ b]? := fun b hbn ob hh => hw _ (hlt hh) (fun e => (hc _ e).2.μ b hbn rfl); have hbn : ∀ {b xs}, st.h[b]? = some xs → b < g.n := fun hx => by rw [h.n]; exact (List.getElem?_eq_some_iff.1 hx).1
 have hpos : ∀ p, qSlot d p = false → (posGet ⟨(d, sv) :: killL (qSlot d) st.t, st.h⟩ p).isOwn = true → posGet ⟨(d, sv) :: killL (qSlot d) st.t, st.h⟩ p = posGet st p ∧ posVal g (a.put (some d) v) w' p = posVal g a w p := by
  intro p hqp hp; cases p with
  | cell b k =>
   refine ⟨rfl, ?_⟩; simp only [posGet] at hp; cases hx : st.h[b]? with
   | none => simp [List.getD, hx, SV.isOwn] at hp
   | some xs =>
    obtain ⟨arr, T, h1, h2, h3⟩ := hb.blocks b xs hx; simp only [posVal, hblk b (hbn hx) _ h1]
  | slot s =>
   have hne : d ≠ s := by simpa [qSlot] using hqp
   simp only [posGet, look, if_neg hne, look_kill] at hp ⊢; refine ⟨killS_own hp, ?_⟩; simp only [posVal, getD_put hd', if_neg hne]
 refine { size := ?_, defs := h.defs, env := hen.trans h.env, n := h.n, n0 := h.n0, B := Nat.le_trans h.B hsz, I := fun c o' hc' => ?_, F := fun c o' hc' => ?_, μI := h.μI, μinj := h.μinj, own := ⟨fun p => if p = .slot d then o else bl p, ?_⟩, al := fun s => ?_ }
 ·simp [Act.put, h.size]
 ·have := h.I c o' hc'; rw [hw c (hlt this) (fun e => by have := (hc c e).2.I; rw [hc'] at this; cases this)]; exact this
 ·have := h.F c o' hc'; rw [hw c (hlt this) (fun e => by have := (hc c e).2.F; rw [hc'] at this; cases this)]; exact this
 ·refine { slots := fun s => ?_, blocks := fun b xs hx => ?_, inj := fun p r c hp hr => ?_, free := fun p c hp => ?_ }
  ·simp only [look, look_kill]; rw [getD_put hd']; by_cases he : d = s
   ·subst he; simpa using hs
   ·simp only [if_neg he]; rw [if_neg (by intro e; cases e; exact he rfl)]; exact SFit.frame (Gh.le.refl g) (hfr rfl) (SFit.kill _ (hb.slots s))
  ·obtain ⟨arr, T, h1, h2, h3⟩ := hb.blocks b xs hx; refine ⟨arr, T, by rw [hblk b (hbn hx) _ h1]; exact h1, h2, fun k x hk => ?_⟩; rw [if_neg (by intro e; cases e)]; exact ⟨(h3 k x hk).1, SFit.frame (Gh.le.refl g) (hfr rfl) (h3 k x hk).2⟩
  ·split at hp
   ·rename_i e1; split at hr
    ·rename_i e2; rw [e1, e2]
    ·exact absurd hr ((hc c hp).2.own r)
   ·split at hr
    ·exact absurd hp ((hc c hr).2.own p)
    ·exact hb.inj p r c hp hr
  ·split at hp
   ·obtain ⟨h1, h2⟩ := hc c hp; exact ⟨h2.I, h2.F, h1, h2.μ⟩
   ·obtain ⟨h1, h2, h3, h4⟩ := hb.free p c hp; exact ⟨h1, h2, by omega, h4⟩
 ·simp only [look, look_kill]; rw [getD_put hd']; by_cases he : d = s
  ·simp only [if_pos he]; cases sv <;> first | trivial | cases ho
  ·simp only [if_neg he]; rcases killS_cases (qSlot d) (look st.t s) with e | ⟨e, hav⟩
   ·rw [e]; trivial
   ·rw [e]; exact AlOk.congrA hpos hav (h.al s)
/-! ### A place is set anew -/
def setPos (st : St) (p : Pos) (sv : SV) : St :=
 match p with
 | .slot s => ⟨(s, sv) :: st.t, st.h⟩
 | .cell b k => ⟨st.t, st.h.set b ((st.h.getD b []).set k sv)⟩
theorem posGet_setPos_ne (st : St) (p r : Pos) (sv : SV) (h : p ≠ r) : posGet (setPos st p sv) r = posGet st r := by
 cases p with
 | slot s =>
  cases r with
  | slot u => simp only [setPos, posGet, look]; rw [if_neg (fun e => h (by rw [e]))]
  | cell b k => rfl
 | cell b k =>
  cases r with
  | slot u => rfl
  | cell b' k' =>
   simp only [setPos, posGet]; by_cases hb : b = b'
   ·subst hb; have hk : k ≠ k' := fun e => h (by rw [e]); simp only [List.getD_eq_getElem?_getD]; by_cases hl : b < st.h.length
    ·simp [hl, hk]
    ·rw [List.set_eq_of_length_le (Nat.le_of_not_lt hl)]
   ·simp [List.getD_eq_getElem?_getD, hb]
theorem Sim.drop {g : Gh} {st : St} {a : Act} {w : World} (h : Sim g st a w) {bl : Pos → Option Nat} (hb : Owns g st a w bl) (p : Pos) :
 Sim g (setPos st p (.pv .bot)) a w ∧ ∃ bl', Owns g (setPos st p (.pv .bot)) a w bl' ∧ (∀ r, r ≠ p → bl' r = bl r) ∧ bl' p = none ∧ ∀ c, bl p = some c → FreeAt g bl' c := by
 have hown : Owns g (setPos st p (.pv .bot)) a w (fun r => if r = p then none else bl r) := by
  refine { slots := fun s => ?_, blocks := fun b xs hx => ?_, inj := fun r q c hr hq => ?_, free := fun r c hr => ?_ }
  ·by_cases he : (.slot s : Pos) = p
   ·subst he; simp only [setPos, look, if_true]; exact ⟨rfl, trivial⟩
   ·rw [if_neg he]; have := posGet_setPos_ne st p (.slot s) (.pv .bot) (Ne.symm he); simp only [posGet] at this; rw [this]; exact hb.slots s
  ·cases p with
   | slot s =>
    obtain ⟨arr, T, h1, h2, h3⟩ := hb.blocks b xs hx; refine ⟨arr, T, h1, h2, fun k x hk => ?_⟩; rw [if_neg (by intro e; cases e)]; exact h3 k x hk
   | cell b0 k0 =>
    simp only [setPos] at hx; rw [List.getElem?_set] at hx; split at hx
    ·rename_i hbb; subst hbb; split at hx
     ·rename_i hlt; simp only [Option.some.injEq] at hx; subst hx; simp only [List.getD_eq_getElem?_getD, List.getElem?_eq_getElem hlt, Option.getD_some]; obtain ⟨arr, T, h1, h2, h3⟩ := hb.blocks b0 _ (List.getElem?_eq_getElem hlt); refine ⟨arr, T, h1, ⟨by simpa using h2.1, h2.2⟩, fun k x hk => ?_⟩; rw [List.getElem?_set] at hk; split at hk
      ·rename_i hkk; subst hkk; split at hk
       ·cases hk; rw [if_pos rfl]; exact ⟨rfl, rfl, trivial⟩
       ·cases hk
      ·rename_i hkk; rw [if_neg (by intro e; cases e; exact hkk rfl)]; exact h3 k x hk
     ·cases hx
    ·rename_i hbb; obtain ⟨arr, T, h1, h2, h3⟩ := hb.blocks b xs hx; refine ⟨arr, T, h1, h2, fun k x hk => ?_⟩; rw [if_neg (by intro e; cases e; exact hbb rfl)]; exact h3 k x hk
  ·split at hr
   ·cases hr
   ·split at hq
    ·cases hq
    ·exact hb.inj r q c hr hq
  ·split at hr
   ·cases hr
   ·exact hb.free r c hr
 refine ⟨{ size := h.size, defs := h.defs, env := h.env, n := ?_, n0 := h.n0, B := h.B, I := h.I, F := h.F, μI := h.μI, μinj := h.μinj, own := ⟨_, hown⟩, al := fun s => ?_ }, _, hown, fun r hr => if_neg hr, if_pos rfl, fun c hc => ?_⟩
 ·cases p with
  | slot s => exact h.n
  | cell b k => simp only [setPos, List.length_set]; exact h.n
 ·have hpos : ∀ r, (posGet (setPos st p (.pv .bot)) r).isOwn = true → posGet (setPos st p (.pv .bot)) r = posGet st r ∧ posVal g a w r = posVal g a w r := by
   intro r hr; by_cases he : p = r
   ·subst he; exfalso; cases p with
    | slot u => simp [setPos, posGet, look, SV.isOwn] at hr
    | cell b k =>
     simp only [setPos, posGet, List.getD_eq_getElem?_getD] at hr; by_cases hl : b < st.h.length
     ·simp only [List.getElem?_set, hl, if_true, Option.getD_some] at hr; by_cases hk : k < (st.h[b]?.getD []).length
      ·simp [hk, SV.isOwn] at hr
      ·simp [hk, SV.isOwn] at hr
     ·rw [List.set_eq_of_length_le (Nat.le_of_not_lt hl), List.getElem?_eq_none (Nat.le_of_not_lt hl)] at hr; simp [SV.isOwn] at hr
   ·exact ⟨posGet_setPos_ne st p r _ he, rfl⟩
  by_cases he : (.slot s : Pos) = p
  ·subst he; simp only [setPos, look, if_true]; trivial
  ·have := posGet_setPos_ne st p (.slot s) (.pv .bot) (Ne.symm he); simp only [posGet] at this; rw [this]; exact AlOk.congr hpos (h.al s)
 ·obtain ⟨h1, h2, h3, h4⟩ := hb.free p c hc; refine ⟨h1, h2, h4, fun r hr => ?_⟩; split at hr
  ·cases hr
  ·rename_i hne; exact hne (hb.inj r p c hr hc)
theorem posGet_setPos_same {st : St} {p : Pos} {sv : SV} (h : (posGet st p).isOwn = true) : posGet (setPos st p sv) p = sv := by
 cases p with
 | slot s => simp [setPos, posGet, look]
 | cell b k =>
  simp only [posGet, List.getD_eq_getElem?_getD] at h; by_cases hl : b < st.h.length
  ·by_cases hk : k < (st.h[b]?.getD []).length
   ·simp only [setPos, posGet, List.getD_eq_getElem?_getD, List.getElem?_set, hl, if_true, Option.getD_some, hk]
   ·rw [List.getElem?_eq_none (Nat.le_of_not_lt hk)] at h; cases h
  ·rw [List.getElem?_eq_none (Nat.le_of_not_lt hl)] at h; cases h
theorem AlOk.write {g : Gh} {st st' : St} {a : Act} {w w' : World} {p : Pos} {sv' : SV} (hne : ∀ r, r ≠ p → posGet st' r = posGet st r) (hp : posGet st' p = sv') (hown : (posGet st p).isOwn = true)
 (hv : ∀ r, (posGet st r).isOwn = true → posVal g a w' r = posVal g a w r) (hsame : ∀ nw' e' rows', sv' = .own nw' e' rows' → ∃ nw rows, posGet st p = .own nw e' rows ∧ rows.length = rows'.length) :
 ∀ {sv : SV} {v : Value}, AlOk g st a w sv v → AlOk g st' a w' sv v
 | .pv _, _, _ => trivial
 | .own _ _ _, _, _ => trivial
 | .omap _ _, _, _ => trivial
 | .al r, v, h => fun ho => by
  by_cases hr : r = p
  ·subst hr; rw [hv r hown]; exact h hown
  ·rw [hne r hr] at ho; rw [hv r ho]; exact h ho
 | .loc r lo hi, v, h => fun nw e rows he => by
  by_cases hr : r = p
  ·subst hr; obtain ⟨nw2, rows2, h1, h2⟩ := hsame nw e rows (by rw [← hp, he]); rw [hv r hown]; obtain ⟨a1, a2, a3⟩ := h nw2 e rows2 h1; exact ⟨a1, by omega, a3⟩
  ·rw [hne r hr] at he; rw [hv r (by rw [he]; rfl)]; exact h nw e rows he
 | .sptr r i k, v, h => fun nw e rows he => by
  by_cases hr : r = p
  ·subst hr; obtain ⟨nw2, rows2, h1, h2⟩ := hsame nw e rows (by rw [← hp, he]); rw [hv r hown]; exact h nw2 e rows2 h1
  ·rw [hne r hr] at he; rw [hv r (by rw [he]; rfl)]; exact h nw e rows he
 | .agl xs, v, h => fun k x r hx ho => by
  by_cases hr : r = p
  ·subst hr; rw [hv r hown]; exact h k x r hx hown
  ·rw [hne r hr] at ho; rw [hv r ho]; exact h k x r hx ho
 | .opt c x, v, h => fun hc => AlOk.write hne hp hown hv hsame (h hc)
theorem Sim.ownWrite {g : Gh} {st : St} {a : Act} {w w' : World} (h : Sim g st a w) {bl : Pos → Option Nat} (hb : Owns g st a w bl) {p : Pos} {sv' : SV} {c : Nat} (hown : (posGet st p).isOwn = true) (hc : bl p = some c)
 (hen : envOf w' = envOf w) (hsz : w'.heap.size = w.heap.size) (hw : ∀ k, k ≠ c → w'.heap[k]? = w.heap[k]?) (hs : SFit g w' sv' (posVal g a w p) (some c)) (ho : sv'.isOwn = true)
 (hsame : ∀ nw' e' rows', sv' = .own nw' e' rows' → ∃ nw rows, posGet st p = .own nw e' rows ∧ rows.length = rows'.length) :
 Sim g (setPos st p sv') a w' := by
 obtain ⟨f1, f2, f3, f4⟩ := hb.free p c hc; have hblk : ∀ b, b < g.n → w'.heap[g.μ b]? = w.heap[g.μ b]? := fun b hbn => hw _ (f4 b hbn); have hbn : ∀ {b : Nat} {xs : List SV}, st.h[b]? = some xs → b < g.n := fun hx => by rw [h.n]; exact (List.getElem?_eq_some_iff.1 hx).1
 have hfr : ∀ r, r ≠ p → ∀ k, bl r = some k → w'.heap[k]? = w.heap[k]? := fun r hr k hk => hw k (fun e => hr (hb.inj r p c (by rw [hk, e]) hc)); have hpv : ∀ r, (posGet st r).isOwn = true → posVal g a w' r = posVal g a w r := by
  intro r hr; cases r with
  | slot s => rfl
  | cell b k =>
   simp only [posGet] at hr; cases hx : st.h[b]? with
   | none => simp [List.getD, hx, SV.isOwn] at hr
   | some xs => simp only [posVal, hblk b (hbn hx)]
 have hne := fun r (hr : r ≠ p) => posGet_setPos_ne st p r sv' (Ne.symm hr); have hsame' := posGet_setPos_same (sv := sv') hown; refine { size := h.size, defs := h.defs, env := hen.trans h.env, n := ?_, n0 := h.n0, B := by rw [hsz]; exact h.B, I := fun k o hk => ?_, F := fun k o hk => ?_, μI := h.μI, μinj := h.μinj, own := ⟨bl, ?_⟩, al := fun s => ?_ }
 ·cases p with
  | slot s => exact h.n
  | cell b k => simp only [setPos, List.length_set]; exact h.n
 ·rw [hw k (fun e => by rw [e, f1] at hk; cases hk)]; exact h.I k o hk
 ·rw [hw k (fun e => by rw [e, f2] at hk; cases hk)]; exact h.F k o hk
 ·refine { slots := fun s => ?_, blocks := fun b xs hx => ?_, inj := hb.inj, free := fun r k hr => ?_ }
  ·by_cases he : (.slot s : Pos) = p
   ·subst he; simp only [posGet] at hsame'; rw [hsame', hc]; exact hs
   ·have := hne _ he; simp only [posGet] at this; rw [this]; exact SFit.frame (Gh.le.refl g) (hfr _ he) (hb.slots s)
  ·cases p with
   | slot s =>
    obtain ⟨arr, T, h1, h2, h3⟩ := hb.blocks b xs hx; exact ⟨arr, T, by rw [hblk b (hbn (show st.h[b]? = some xs from hx))]; exact h1, h2, fun k x hk => ⟨(h3 k x hk).1, SFit.frame (Gh.le.refl g) (hfr _ (by intro e; cases e)) (h3 k x hk).2⟩⟩
   | cell b0 k0 =>
    simp only [setPos] at hx; rw [List.getElem?_set] at hx; split at hx
    ·rename_i hbb; subst hbb; split at hx
     ·rename_i hlt; simp only [Option.some.injEq] at hx; subst hx; simp only [List.getD_eq_getElem?_getD, List.getElem?_eq_getElem hlt, Option.getD_some]; obtain ⟨arr, T, h1, h2, h3⟩ := hb.blocks b0 _ (List.getElem?_eq_getElem hlt); refine ⟨arr, T, by rw [hblk b0 (hbn (List.getElem?_eq_getElem hlt))]; exact h1, ⟨by simpa using h2.1, h2.2⟩, fun k x hk => ?_⟩; rw [List.getElem?_set] at hk; split at hk
      ·rename_i hkk; subst hkk; split at hk
       ·cases hk; refine ⟨(by cases sv' <;> first | rfl | cases ho), ?_⟩; rw [hc]; simpa [posVal, h1] using hs
       ·cases hk
      ·rename_i hkk; exact ⟨(h3 k x hk).1, SFit.frame (Gh.le.refl g) (hfr _ (by intro e; cases e; exact hkk rfl)) (h3 k x hk).2⟩
     ·cases hx
    ·rename_i hbb; obtain ⟨arr, T, h1, h2, h3⟩ := hb.blocks b xs hx; exact ⟨arr, T, by rw [hblk b (hbn hx)]; exact h1, h2, fun k x hk => ⟨(h3 k x hk).1, SFit.frame (Gh.le.refl g) (hfr _ (by intro e; cases e; exact hbb rfl)) (h3 k x hk).2⟩⟩
  ·obtain ⟨a1, a2, a3, a4⟩ := hb.free r k hr; exact ⟨a1, a2, by rw [hsz]; exact a3, a4⟩
 ·by_cases he : (.slot s : Pos) = p
  ·subst he; simp only [posGet] at hsame'; rw [hsame']; cases sv' <;> first | trivial | cases ho
  ·have := hne _ he; simp only [posGet] at this; rw [this]; exact AlOk.write hne hsame' hown hpv hsame (h.al s)
/-! ### A new block of the walk's own -/
def St.grow (st : St) (xs : List SV) : St := ⟨st.t, st.h ++ [xs]⟩
theorem Sim.blockNew {g : Gh} {st : St} {a : Act} {w : World} (h : Sim g st a w) (xs : List PV) (arr : Array Value) (T : TypeId) (hf : FitL g xs arr.toList) (h1c : ∀ v ∈ arr.toList, v.oneCell' = true) :
 ∃ g', g.to g' ∧ g.le g' ∧ g'.n = g.n + 1 ∧ g'.μ g.n = w.heap.size ∧ Sim g' (st.grow (xs.map .pv)) a (w.alloc (.cells arr T)) := by
 obtain ⟨bl, hb⟩ := h.own; have hlt : ∀ {c o}, w.heap[c]? = some o → c < w.heap.size := fun hh => (Array.getElem?_eq_some_iff.1 hh).1; have hnew : (w.alloc (.cells arr T)).heap[w.heap.size]? = some (.cells arr T (0, 0)) := heap_alloc_new w _; have hold : ∀ k, k < w.heap.size → (w.alloc (.cells arr T)).heap[k]? = w.heap[k]? := fun k hk => heap_alloc_old w _ hk; have hμ : ∀ b, b < g.n → g.μ b < w.heap.size := fun b hbn => by
  obtain ⟨_, _, h3, _⟩ := hb.blocks b _ (List.getElem?_eq_getElem (h.n ▸ hbn)); exact hlt h3
 let g' : Gh := { g with n := g.n + 1, μ := fun b => if b = g.n then w.heap.size else g.μ b }
 have hle : g.le g' := ⟨fun _ _ h => h, Nat.le_refl _, Nat.le_succ _, fun b hbn => by show (if b = g.n then _ else _) = _; rw [if_neg (by omega)]⟩; have hIn : g.I w.heap.size = none := (h.fresh hb (Nat.le_refl _)).I; have hFn : g.F w.heap.size = none := (h.fresh hb (Nat.le_refl _)).F; refine ⟨g', ⟨fun _ _ h => h, rfl, rfl, rfl, rfl, rfl, Nat.le_trans h.n0 (Nat.le_succ _), fun b hbn => hle.μ b (Nat.lt_of_lt_of_le hbn h.n0), fun _ _ h => h⟩, hle, rfl, by show (if g.n = g.n then _ else _) = _; rw [if_pos rfl], ?_⟩; have hfr : ∀ p c, bl p = some c → (w.alloc (.cells arr T)).heap[c]? = w.heap[c]? := fun p c hc => hold c (hb.free p c hc).2.2.1; have hpg : ∀ p, (posGet (st.grow (xs.map .pv)) p).isOwn = true → posGet (st.grow (xs.map .pv)) p = posGet st p ∧ posVal g' a (w.alloc (.cells arr T)) p = posVal g a w p := by
  intro p hp; cases p with
  | slot s => exact ⟨rfl, rfl⟩
  | cell b k =>
   simp only [posGet, St.grow, List.getD_eq_getElem?_getD] at hp ⊢; rcases Nat.lt_trichotomy b st.h.length with hl | hl | hl
   ·rw [List.getElem?_append_left hl] at hp ⊢; refine ⟨rfl, ?_⟩; have hbn : b < g.n := by rw [h.n]; exact hl
    simp only [posVal]; rw [hle.μ b hbn, hold _ (hμ b hbn)]
   ·exfalso; rw [hl, List.getElem?_append_right (Nat.le_refl _)] at hp; simp only [Nat.sub_self, List.getElem?_cons_zero, Option.getD_some, List.getElem?_map] at hp; cases hx : xs[k]? with
    | none => simp [hx, SV.isOwn] at hp
    | some y => simp [hx, SV.isOwn] at hp
   ·exfalso; have hz : (st.h ++ [xs.map SV.pv])[b]? = none := List.getElem?_eq_none (by simp only [List.length_append, List.length_cons, List.length_nil]; omega); rw [hz] at hp; simp [SV.isOwn] at hp
 have hbl' : ∀ p c, (match p with | .cell b _ => if b = g.n then none else bl p | .slot _ => bl p) = some c → bl p = some c := by
  intro p c hp; cases p with
  | slot s => exact hp
  | cell b k =>
   have hp2 : (if b = g.n then none else bl (.cell b k)) = some c := hp; split at hp2
   ·cases hp2
   ·exact hp2
 refine { size := h.size, defs := h.defs, env := h.env, n := ?_, n0 := Nat.le_trans h.n0 (Nat.le_succ _), B := ?_, I := fun c o hc => ?_, F := fun c o hc => ?_, μI := fun b hbn => ?_, μinj := fun b b' hbn hbn' he => ?_, own := ⟨fun p => match p with | .cell b _ => if b = g.n then none else bl p | .slot _ => bl p, ?_⟩, al := fun s => AlOk.congr hpg (h.al s) }
 ·show g.n + 1 = _; rw [h.n]; simp [St.grow]
 ·have := h.B; simp only [World.size_alloc]; exact Nat.le_succ_of_le this
 ·have := h.I c o hc; rw [hold c (hlt this)]; exact this
 ·have := h.F c o hc; rw [hold c (hlt this)]; exact this
 ·by_cases hbe : b = g.n
  ·show g.I (if b = g.n then _ else _) = none ∧ g.F (if b = g.n then _ else _) = none; rw [if_pos hbe]; exact ⟨hIn, hFn⟩
  ·show g.I (if b = g.n then _ else _) = none ∧ g.F (if b = g.n then _ else _) = none; rw [if_neg hbe]; exact h.μI b (by have : b < g.n + 1 := hbn; omega)
 ·change (if b = g.n then w.heap.size else g.μ b) = (if b' = g.n then w.heap.size else g.μ b') at he
  have h1 : b < g.n + 1 := hbn; have h2 : b' < g.n + 1 := hbn'; by_cases e1 : b = g.n
  ·by_cases e2 : b' = g.n
   ·omega
   ·rw [if_pos e1, if_neg e2] at he; have := hμ b' (by omega); omega
  ·by_cases e2 : b' = g.n
   ·rw [if_neg e1, if_pos e2] at he; have := hμ b (by omega); omega
   ·rw [if_neg e1, if_neg e2] at he; exact h.μinj b b' (by omega) (by omega) he
 ·refine { slots := fun s => SFit.frame hle (hfr (.slot s)) (hb.slots s), blocks := fun b ys hy => ?_, inj := fun p q c hp hq => hb.inj p q c (hbl' p c hp) (hbl' q c hq), free := fun p c hp => ?_ }
  ·simp only [St.grow] at hy; by_cases hl : b < st.h.length
   ·rw [List.getElem?_append_left hl] at hy; have hbn : b < g.n := by rw [h.n]; exact hl
    obtain ⟨arr', T', h1, h2, h3⟩ := hb.blocks b ys hy; refine ⟨arr', T', by rw [hle.μ b hbn, hold _ (hμ b hbn)]; exact h1, h2, fun k x hk => ?_⟩; simp only [if_neg (Nat.ne_of_lt hbn)]; exact ⟨(h3 k x hk).1, SFit.frame hle (hfr (.cell b k)) (h3 k x hk).2⟩
   ·have hbe : b = st.h.length := by
     have := (List.getElem?_eq_some_iff.1 hy).1; simp at this; omega
    rw [hbe, List.getElem?_append_right (Nat.le_refl _)] at hy; simp only [Nat.sub_self, List.getElem?_cons_zero, Option.some.injEq] at hy; subst hy; have hbn : b = g.n := by rw [hbe, h.n]
    refine ⟨arr, T, by show (w.alloc _).heap[if b = g.n then _ else _]? = _; rw [if_pos hbn]; exact hnew, ⟨by have := hf.length; simpa using this, h1c⟩, fun k x hk => ?_⟩; rw [List.getElem?_map, Option.map_eq_some_iff] at hk; obtain ⟨y, hy, rfl⟩ := hk; obtain ⟨v, hv, hfv⟩ := hf.get k y hy; simp only [if_pos hbn]; refine ⟨rfl, rfl, ?_⟩; have : arr.getD k undef = v := by
     rw [Array.getElem?_toList] at hv; simp [Array.getD_eq_getD_getElem?, hv]
    rw [this]; exact Fit.mono hle _ _ hfv
  ·have hp' := hbl' p c hp; obtain ⟨a1, a2, a3, a4⟩ := hb.free p c hp'; refine ⟨a1, a2, by simp only [World.size_alloc]; omega, fun b hbn => ?_⟩; show (if b = g.n then w.heap.size else g.μ b) ≠ c; by_cases hbe : b = g.n
   ·rw [if_pos hbe]; omega
   ·rw [if_neg hbe]; exact a4 b (by have : b < g.n + 1 := hbn; omega)
end Go.AX
namespace Go.AX
def splice {α : Type} (xs : List α) (k : Nat) (ys : List α) : List α := xs.take k ++ ys ++ xs.drop (k + ys.length)
theorem splice_length {α : Type} {xs : List α} {k : Nat} {ys : List α} (h : k + ys.length ≤ xs.length) : (splice xs k ys).length = xs.length := by
 simp [splice]; omega
theorem splice_get {α : Type} {xs : List α} {k : Nat} {ys : List α} (h : k + ys.length ≤ xs.length) (i : Nat) :
 (splice xs k ys)[i]? = if k ≤ i ∧ i < k + ys.length then ys[i - k]? else xs[i]? := by
 unfold splice; by_cases h1 : i < k
 ·rw [if_neg (by omega), List.append_assoc, List.getElem?_append_left (by simp; omega), List.getElem?_take, if_pos h1]
 ·by_cases h2 : i < k + ys.length
  ·rw [if_pos ⟨by omega, h2⟩, List.append_assoc, List.getElem?_append_right (by simp; omega), List.getElem?_append_left (by simp; omega)]; congr 1; simp; omega
  ·rw [if_neg (by omega), List.getElem?_append_right (by simp; omega), List.getElem?_drop]; congr 1; simp; omega
def qCells (b k n : Nat) : Pos → Bool
 | .slot _ => false
 | .cell b' k' => b == b' && decide (k ≤ k') && decide (k' < k + n)
theorem Sim.blockWriteO {g : Gh} {st : St} {a : Act} {w w' : World} (h : Sim g st a w) {bl : Pos → Option Nat} (hb : Owns g st a w bl) {b k0 : Nat} {xs : List SV} {arr arr' : Array Value} {T : TypeId} {ys : List PV} {vs : List Value}
 (hx : st.h[b]? = some xs) (hk : k0 + ys.length ≤ xs.length) (ha : w.heap[g.μ b]? = some (.cells arr T (0, 0))) (hf : FitL g ys vs) (h1c : ∀ v ∈ vs, v.oneCell' = true)
 (hen : envOf w' = envOf w) (hsz : w'.heap.size = w.heap.size) (hw : ∀ c, c ≠ g.μ b → w'.heap[c]? = w.heap[c]?) (hb' : ∃ T', w'.heap[g.μ b]? = some (.cells arr' T' (0, 0))) (harr : arr'.toList = splice arr.toList k0 vs) :
 Sim g ⟨killL (qCells b k0 ys.length) st.t, st.h.set b (splice xs k0 (ys.map .pv))⟩ a w' ∧ Owns g ⟨killL (qCells b k0 ys.length) st.t, st.h.set b (splice xs k0 (ys.map .pv))⟩ a w' (fun p => if qCells b k0 ys.length p = true then none else bl p) := by
 obtain ⟨T', hb'⟩ := hb'; have hbn : b < g.n := by rw [h.n]; exact (List.getElem?_eq_some_iff.1 hx).1
 have hbl : b < st.h.length := (List.getElem?_eq_some_iff.1 hx).1; obtain ⟨arr0, T0, b1, b2, b3⟩ := hb.blocks b xs hx; rw [ha] at b1; cases b1; obtain ⟨b2, b2c⟩ := b2; have hvl : vs.length = ys.length := hf.length; have hvk : k0 + vs.length ≤ arr.toList.length := by simp [b2, hvl]; exact hk
 have hbn' : ∀ {b' : Nat} {xs' : List SV}, st.h[b']? = some xs' → b' < g.n := fun hx' => by rw [h.n]; exact (List.getElem?_eq_some_iff.1 hx').1
 have hoth : ∀ b', b' < g.n → b' ≠ b → w'.heap[g.μ b']? = w.heap[g.μ b']? := fun b' hn hne => hw _ (fun e => hne (h.μinj b' b hn hbn e)); have hfr : ∀ p c, bl p = some c → w'.heap[c]? = w.heap[c]? := fun p c hc => hw c (fun e => (hb.free p c hc).2.2.2 b hbn e.symm); have hnew : ∀ k, arr'.getD k undef = if k0 ≤ k ∧ k < k0 + ys.length then (vs[k - k0]?).getD undef else arr.getD k undef := fun k => by
  rw [Array.getD_eq_getD_getElem?, ← Array.getElem?_toList, harr, splice_get hvk, hvl]; split
  ·rfl
  ·rw [Array.getD_eq_getD_getElem?, Array.getElem?_toList]
 have hxk : k0 + (ys.map SV.pv).length ≤ xs.length := by simpa using hk
 have hget : ∀ k, (splice xs k0 (ys.map SV.pv))[k]? = if k0 ≤ k ∧ k < k0 + ys.length then (ys[k - k0]?).map SV.pv else xs[k]? := fun k => by
  rw [splice_get hxk]; simp only [List.length_map, List.getElem?_map]
 have hpos : ∀ p, qCells b k0 ys.length p = false → (posGet ⟨killL (qCells b k0 ys.length) st.t, st.h.set b (splice xs k0 (ys.map .pv))⟩ p).isOwn = true →
  posGet ⟨killL (qCells b k0 ys.length) st.t, st.h.set b (splice xs k0 (ys.map .pv))⟩ p = posGet st p ∧ posVal g a w' p = posVal g a w p := by
  intro p hqp hp; cases p with
  | slot s => simp only [posGet, look_kill] at hp ⊢; exact ⟨killS_own hp, by first | rfl | trivial⟩
  | cell b' k =>
   by_cases hbb : b' = b
   ·subst hbb; have hnr : ¬ (k0 ≤ k ∧ k < k0 + ys.length) := by
     intro hh; simp [qCells, hh.1, hh.2] at hqp
    refine ⟨?_, ?_⟩
    ·simp only [posGet, List.getD_eq_getElem?_getD, List.getElem?_set, hbl, if_true, Option.getD_some, hget, if_neg hnr, hx]
    ·simp only [posVal, hb', ha, hnew, if_neg hnr]
   ·simp only [posGet, List.getD_eq_getElem?_getD, List.getElem?_set, if_neg (Ne.symm hbb)] at hp ⊢; refine ⟨by first | rfl | trivial, ?_⟩; cases hy : st.h[b']? with
    | none => simp [hy, SV.isOwn] at hp
    | some xs' => simp only [posVal, hoth b' (hbn' hy) hbb]
 have hown : Owns g ⟨killL (qCells b k0 ys.length) st.t, st.h.set b (splice xs k0 (ys.map .pv))⟩ a w' (fun p => if qCells b k0 ys.length p = true then none else bl p) := by
  refine { slots := fun s => ?_, blocks := fun b' xs' hx' => ?_, inj := fun p q c hp hq => ?_, free := fun p c hp => ?_ }
  ·rw [if_neg (by simp [qCells]), look_kill]; exact SFit.frame (Gh.le.refl g) (hfr _) (SFit.kill _ (hb.slots s))
  ·rw [List.getElem?_set] at hx'; split at hx'
   ·rename_i hbb; subst hbb
    try rw [if_pos hbl] at hx'
    cases hx'; refine ⟨arr', T', hb', ⟨?_, fun v hv => ?_⟩, fun k x hk' => ?_⟩
    ·rw [← Array.length_toList, harr, splice_length hvk, splice_length hxk, Array.length_toList]; exact b2
    ·rw [harr] at hv; simp only [splice, List.mem_append] at hv; rcases hv with (hv | hv) | hv
     ·exact b2c v (List.mem_of_mem_take hv)
     ·exact h1c v hv
     ·exact b2c v (List.mem_of_mem_drop hv)
    ·rw [hget] at hk'; split at hk'
     ·rename_i hin; rw [Option.map_eq_some_iff] at hk'; obtain ⟨y, hy, rfl⟩ := hk'; obtain ⟨v, hv, hfv⟩ := hf.get _ y hy; rw [if_pos (by simp [qCells, hin.1, hin.2]), hnew, if_pos hin, hv]; exact ⟨rfl, rfl, hfv⟩
     ·rename_i hin; rw [if_neg (by simp [qCells]; intro h1; omega), hnew, if_neg hin]; exact ⟨(b3 k x hk').1, SFit.frame (Gh.le.refl g) (hfr _) (b3 k x hk').2⟩
   ·rename_i hbb; obtain ⟨arr1, T1, c1, c2, c3⟩ := hb.blocks b' xs' hx'; refine ⟨arr1, T1, by rw [hoth b' (hbn' hx') (Ne.symm hbb)]; exact c1, c2, fun k x hk' => ?_⟩; rw [if_neg (by simp [qCells, hbb])]; exact ⟨(c3 k x hk').1, SFit.frame (Gh.le.refl g) (hfr _) (c3 k x hk').2⟩
  ·split at hp
   ·cases hp
   ·split at hq
    ·cases hq
    ·exact hb.inj p q c hp hq
  ·split at hp
   ·cases hp
   ·obtain ⟨f1, f2, f3, f4⟩ := hb.free p c hp; exact ⟨f1, f2, by rw [hsz]; exact f3, f4⟩
 refine ⟨{ size := h.size, defs := h.defs, env := hen.trans h.env, n := by simp only [List.length_set]; exact h.n, n0 := h.n0, B := by rw [hsz]; exact h.B, I := fun c o hc => ?_, F := fun c o hc => ?_, μI := h.μI, μinj := h.μinj, own := ⟨_, hown⟩, al := fun s => ?_ }, hown⟩
 ·rw [hw c (fun e => by have := (h.μI b hbn).1; rw [← e, hc] at this; cases this)]; exact h.I c o hc
 ·rw [hw c (fun e => by have := (h.μI b hbn).2; rw [← e, hc] at this; cases this)]; exact h.F c o hc
 ·rw [look_kill]; rcases killS_cases (qCells b k0 ys.length) (look st.t s) with e | ⟨e, hav⟩
  ·rw [e]; trivial
  ·rw [e]; exact AlOk.congrA hpos hav (h.al s)
theorem Sim.blockWrite {g : Gh} {st : St} {a : Act} {w w' : World} (h : Sim g st a w) {b k0 : Nat} {xs : List SV} {arr arr' : Array Value} {T : TypeId} {ys : List PV} {vs : List Value}
 (hx : st.h[b]? = some xs) (hk : k0 + ys.length ≤ xs.length) (ha : w.heap[g.μ b]? = some (.cells arr T (0, 0))) (hf : FitL g ys vs) (h1c : ∀ v ∈ vs, v.oneCell' = true)
 (hen : envOf w' = envOf w) (hsz : w'.heap.size = w.heap.size) (hw : ∀ c, c ≠ g.μ b → w'.heap[c]? = w.heap[c]?) (hb' : ∃ T', w'.heap[g.μ b]? = some (.cells arr' T' (0, 0))) (harr : arr'.toList = splice arr.toList k0 vs) :
 Sim g ⟨killL (qCells b k0 ys.length) st.t, st.h.set b (splice xs k0 (ys.map .pv))⟩ a w' := by
 obtain ⟨bl, hb⟩ := h.own; exact (h.blockWriteO hb hx hk ha hf h1c hen hsz hw hb' harr).1
/-! ### Freezing -/
def frozenOf : SV → PV
 | .own nw e rows => .seq nw e rows
 | .omap nw es => .amap nw es
 | .pv x => x
 | _ => .bot
theorem Sim.freeze {g : Gh} {st : St} {a : Act} {w : World} (h : Sim g st a w) {p : Pos} (hown : (posGet st p).isOwn = true) :
 ∃ g', g.to g' ∧ g.le g' ∧ g'.n = g.n ∧ Fit g' (frozenOf (posGet st p)) (posVal g a w p) ∧ Sim g' (setPos st p (.pv (frozenOf (posGet st p)))) a w ∧ ∀ r, posVal g' a w r = posVal g a w r := by
 obtain ⟨bl, hb⟩ := h.own; have hfit := pos_fit hb hown
 let g' : Gh := { g with I := fun c => if bl p = some c then w.heap[c]? else g.I c }
 have hle : g.le g' := ⟨fun c o hc => by
  show (if bl p = some c then w.heap[c]? else g.I c) = some o; split
  ·rename_i e; rw [(hb.free p c e).1] at hc; cases hc
  ·exact hc, Nat.le_refl _, Nat.le_refl _, fun _ _ => rfl⟩
 have hto : g.to g' := ⟨hle.I, rfl, rfl, rfl, rfl, rfl, h.n0, fun _ _ => rfl, fun c hF hI => by
  show (if bl p = some c then w.heap[c]? else g.I c) = none; rw [if_neg (fun e => hF (hb.free p c e).2.1)]; exact hI⟩
 have hff : Fit g' (frozenOf (posGet st p)) (posVal g a w p) := by
  cases hs : posGet st p with
  | own nw e rows =>
   rw [hs] at hfit; rcases hfit with ⟨_, rfl, e1⟩ | ⟨c, hc, cap, arr, T, vs, e1, e2, e3, e4, e5, e6, e7⟩
   ·exact ⟨none, 0, e1, Nat.le_refl _, .inl rfl⟩
   ·exact ⟨_, cap, e1, e4.1, .inr ⟨c, 0, arr, T, (0, 0), vs, rfl, by show (if bl p = some c then w.heap[c]? else g.I c) = _; rw [if_pos hc]; exact e2, e7, FitR.mono hle _ _ _ e5, by simpa using e6⟩⟩
  | omap nw es =>
   rw [hs] at hfit; obtain ⟨c, hc, en, ck, e1, e2, e3, e4⟩ := hfit; exact ⟨c, en, ck, e1, by show (if bl p = some c then w.heap[c]? else g.I c) = _; rw [if_pos hc]; exact e2, e4.1, FitE.mono hle _ _ e3, e4.2⟩
  | _ => rw [hs] at hown; cases hown
 generalize frozenOf (posGet st p) = fz at *; refine ⟨g', hto, hle, rfl, hff, ?_, fun r => rfl⟩; obtain ⟨_, bl', hb', h1, h2, h3⟩ := h.drop hb p; have hne := fun r (hr : r ≠ p) => posGet_setPos_ne st p r (.pv fz) (Ne.symm hr); have hsame := posGet_setPos_same (sv := .pv fz) hown; have hposA : ∀ r, (posGet (setPos st p (.pv fz)) r).isOwn = true → posGet (setPos st p (.pv fz)) r = posGet st r ∧ posVal g' a w r = posVal g a w r := by
  intro r hr; by_cases he : r = p
  ·subst he; rw [hsame] at hr; cases hr
  ·exact ⟨hne r he, rfl⟩
 refine { size := h.size, defs := h.defs, env := h.env, n := ?_, n0 := h.n0, B := h.B, I := fun c o hc => ?_, F := h.F, μI := fun b hbn => ?_, μinj := h.μinj, own := ⟨fun r => if r = p then none else bl r, ?_⟩, al := fun s => ?_ }
 ·cases p with
  | slot s => exact h.n
  | cell b k => simp only [setPos, List.length_set]; exact h.n
 ·change (if bl p = some c then w.heap[c]? else g.I c) = some o at hc
  split at hc
  ·exact hc
  ·exact h.I c o hc
 ·refine ⟨?_, (h.μI b hbn).2⟩; show (if bl p = some (g.μ b) then w.heap[g.μ b]? else g.I (g.μ b)) = none; rw [if_neg (fun e => (hb.free p _ e).2.2.2 b hbn rfl)]; exact (h.μI b hbn).1
 ·refine { slots := fun s => ?_, blocks := fun b xs hx => ?_, inj := fun r q c hr hq => ?_, free := fun r c hr => ?_ }
  ·by_cases he : (.slot s : Pos) = p
   ·subst he; rw [if_pos rfl]; simp only [posGet] at hsame; rw [hsame]; exact ⟨rfl, hff⟩
   ·rw [if_neg he]; have := hne _ he; simp only [posGet] at this; rw [this]; exact SFit.frame hle (fun _ _ => rfl) (hb.slots s)
  ·cases p with
   | slot s =>
    obtain ⟨arr, T, c1, c2, c3⟩ := hb.blocks b xs hx; refine ⟨arr, T, c1, c2, fun k x hk => ?_⟩; rw [if_neg (by intro e; cases e)]; exact ⟨(c3 k x hk).1, SFit.frame hle (fun _ _ => rfl) (c3 k x hk).2⟩
   | cell b0 k0 =>
    simp only [setPos] at hx; rw [List.getElem?_set] at hx; split at hx
    ·rename_i hbb; subst hbb; split at hx
     ·rename_i hlt; simp only [Option.some.injEq] at hx; subst hx; obtain ⟨arr, T, c1, c2, c3⟩ := hb.blocks b0 _ (List.getElem?_eq_getElem hlt); simp only [List.getD_eq_getElem?_getD, List.getElem?_eq_getElem hlt, Option.getD_some]; refine ⟨arr, T, c1, ⟨by simpa using c2.1, c2.2⟩, fun k x hk => ?_⟩; rw [List.getElem?_set] at hk; split at hk
      ·rename_i hkk; subst hkk; split at hk
       ·cases hk; rw [if_pos rfl]; refine ⟨rfl, rfl, ?_⟩; have : posVal g a w (.cell b0 k0) = arr.getD k0 undef := by simp [posVal, c1]
        rw [← this]; exact hff
       ·cases hk
      ·rename_i hkk; rw [if_neg (by intro e; cases e; exact hkk rfl)]; exact ⟨(c3 k x hk).1, SFit.frame hle (fun _ _ => rfl) (c3 k x hk).2⟩
     ·cases hx
    ·rename_i hbb; obtain ⟨arr, T, c1, c2, c3⟩ := hb.blocks b xs hx; refine ⟨arr, T, c1, c2, fun k x hk => ?_⟩; rw [if_neg (by intro e; cases e; exact hbb rfl)]; exact ⟨(c3 k x hk).1, SFit.frame hle (fun _ _ => rfl) (c3 k x hk).2⟩
  ·split at hr
   ·cases hr
   ·split at hq
    ·cases hq
    ·exact hb.inj r q c hr hq
  ·split at hr
   ·cases hr
   ·rename_i hne'; obtain ⟨f1, f2, f3, f4⟩ := hb.free r c hr; refine ⟨?_, f2, f3, f4⟩; show (if bl p = some c then w.heap[c]? else g.I c) = none; rw [if_neg (fun e => hne' (hb.inj r p c hr e))]; exact f1
 ·by_cases he : (.slot s : Pos) = p
  ·subst he; simp only [posGet] at hsame; rw [hsame]; trivial
  ·have := hne _ he; simp only [posGet] at this; rw [this]; exact AlOk.congr hposA (h.al s)
end Go.AX

namespace Go.AX
/-! ### One-cell values -/
def PV.one : PV → Bool
 | .bot => false
 | .lit v => v.oneCell'
 | .agg _ => false
 | .tup _ => false
 | .ifc _ _ => true
 | .seq _ _ _ => true
 | .iptr _ _ _ _ => true
 | .ptr _ _ => true
 | .bsl _ _ _ _ _ => true
 | .fn _ _ _ => true
 | .amap _ _ => true
theorem one_ok {g : Gh} : ∀ {x : PV} {v : Value}, x.one = true → Fit g x v → v.oneCell' = true
 | .bot, _, h, _ => by cases h
 | .lit _, _, h, hf => by cases hf; exact h
 | .agg _, _, h, _ => by cases h
 | .tup _, _, h, _ => by cases h
 | .ifc _ _, _, _, ⟨_, h, _⟩ => by rw [h]; rfl
 | .seq _ _ _, _, _, ⟨_, _, h, _⟩ => by rw [h]; rfl
 | .iptr _ _ _ _, _, _, ⟨_, _, _, _, _, _, h, _⟩ => by rw [h]; rfl
 | .ptr _ _, _, _, ⟨_, h⟩ => by rw [h]; rfl
 | .bsl _ _ _ _ _, _, _, ⟨_, _, h⟩ => by rw [h]; rfl
 | .fn _ _ _, _, _, ⟨_, _, h, _⟩ => by rw [h]; rfl
 | .amap _ _, _, _, ⟨_, _, _, h, _⟩ => by rw [h]; rfl
def allOne : List PV → Bool
 | [] => true
 | x :: xs => x.one && allOne xs
theorem allOne_ok {g : Gh} : ∀ {xs : List PV} {vs : List Value}, allOne xs = true → FitL g xs vs → ∀ v ∈ vs, v.oneCell' = true
 | [], _, _, h => by simp only [FitL] at h; subst h; simp
 | _ :: _, _, ha, ⟨_, _, h1, h2, h3⟩ => by
  simp only [allOne, Bool.and_eq_true] at ha; subst h1; intro u hu; rcases List.mem_cons.1 hu with rfl | hu
  ·exact one_ok ha.1 h2
  ·exact allOne_ok ha.2 h3 u hu
theorem pcells_ok {g : Gh} {x : PV} {v : Value} (h : Fit g x v) (hx : x.one = true ∨ isAggV (.pv x)) : FitL g (pcells x) v.cells.toList := by
 rcases hx with hx | hx
 ·have h1 := one_ok hx h; have hc : v.cells = #[v] := by cases v <;> first | rfl | (simp [Value.oneCell'] at h1)
  rw [hc]; have : pcells x = [x] := by
   cases x with
   | lit u => cases u <;> first | rfl | (simp [PV.one, Value.oneCell'] at hx)
   | agg _ => cases hx
   | _ => rfl
  rw [this]; exact ⟨v, [], rfl, h, rfl⟩
 ·obtain ⟨vs, rfl, hl⟩ := agg_ok (w := default) (x := .pv x) (v := v) ⟨rfl, h⟩ hx; exact hl
theorem splice_cons {α : Type} (xs : List α) (o : Nat) (x : α) (l : List α) (h : o + (x :: l).length ≤ xs.length) : splice xs o (x :: l) = splice (xs.set o x) (o + 1) l := by
 apply List.ext_getElem?; intro i; rw [splice_get h, splice_get (by simp at h ⊢; omega)]; simp only [List.length_cons] at h ⊢; by_cases h1 : o ≤ i ∧ i < o + (l.length + 1)
 ·rw [if_pos h1]; by_cases h2 : i = o
  ·subst h2; rw [if_neg (by omega)]; simp only [Nat.sub_self, List.getElem?_cons_zero]; rw [List.getElem?_set]; simp; omega
  ·rw [if_pos (by omega)]; have : i - o = (i - (o + 1)) + 1 := by omega
   rw [this, List.getElem?_cons_succ]
 ·rw [if_neg h1, if_neg (by omega), List.getElem?_set, if_neg (by omega)]
theorem splice_nil {α : Type} (xs : List α) (o : Nat) : splice xs o [] = xs := by simp [splice]
theorem foldl_set (off : Nat) : ∀ (l : List Value) (k : Nat) (cells : Array Value), off + k + l.length ≤ cells.size →
 ((l.zipIdx k).foldl (fun cs (p : Value × Nat) => cs.setIfInBounds (off + p.2) p.1) cells).toList = splice cells.toList (off + k) l
 | [], k, cells, _ => by simp [splice_nil]
 | x :: l, k, cells, h => by
  simp only [List.zipIdx_cons, List.foldl_cons]; simp only [List.length_cons] at h; rw [foldl_set off l (k + 1) _ (by simp; omega), splice_cons _ _ _ _ (by simp; omega)]; simp [Nat.add_assoc]
theorem fill_step (place : Nat → Option (Nat × Nat)) (cells : Array Value) (i off size : Nat) (v : Value) (rest : List (Nat × Value)) (hp : place i = some (off, size)) (hv : v.cells.size = size) (hfit : off + size ≤ cells.size) :
 Instr.fill place cells ((i, v) :: rest) = Instr.fill place (splice cells.toList off v.cells.toList).toArray rest := by
 simp only [Instr.fill, hp, hv, ne_eq, not_true, decide_false, Bool.false_or, decide_eq_true_eq]; rw [if_neg (by omega)]; congr 1; have := foldl_set off v.cells.toList 0 cells (by simp [hv]; omega); simp only [Nat.add_zero] at this; rw [← this]; simp only [Array.toArray_toList]; rw [← Array.foldl_toList, Array.toList_zipIdx]
theorem FitL.splice {g : Gh} {xs ys : List PV} {vs us : List Value} (h : FitL g xs vs) (h' : FitL g ys us) (k : Nat) : FitL g (splice xs k ys) (splice vs k us) := by
 have hl := h'.length; simp only [Go.AX.splice, hl]; exact ((h.take k).append h').append (h.drop _)
/-! ### A struct or an array is built -/
def bInfo (P : Program) (t : TypeId) : Option (List (Nat × Nat)) :=
 match P.underlying t with
 | some (.struct fs) => fs.toList.mapM fun f => (P.info? f.type).map fun i => (f.offset, i.size)
 | some (.array n e) => (P.info? e).map fun i => (List.range n).map fun k => (k * i.size, i.size)
 | _ => none
def zeroV (P : Program) (t : TypeId) : Option (List PV) :=
 match P.info? t with
 | some i => i.zero.map fun z => z.cells.toList.map PV.lit
 | none => none
def bFill (pl : List (Nat × Nat)) (cells : List PV) : List (Nat × PV) → List PV × Prop
 | [] => (cells, True)
 | (i, y) :: rest => match pl[i]? with
  | some (off, n) => ((bFill pl (splice cells off (pcells y)) rest).1, (pcells y).length = n ∧ off + n ≤ cells.length ∧ (y.one = true ∨ isAggV (.pv y)) ∧ (bFill pl (splice cells off (pcells y)) rest).2)
  | none => (cells, False)
def partsOk (st : St) : List (Nat × Operand) → Prop
 | [] => True
 | (_, x) :: r => gc st x ∧ isPv (mv st x) ∧ partsOk st r
def partsV (st : St) : List (Nat × Operand) → List (Nat × PV)
 | [] => []
 | (i, x) :: r => (i, toPv (mv st x)) :: partsV st r
def buildV (P : Program) (st : St) (t : TypeId) (parts : Array (Nat × Operand)) : SV × Prop :=
 match bInfo P t, zeroV P t with
 | some pl, some zs => (.pv (.agg (bFill pl zs (partsV st parts.toList)).1), partsOk st parts.toList ∧ (bFill pl zs (partsV st parts.toList)).2)
 | _, _ => (.pv .bot, False)
theorem fill_congr (p q : Nat → Option (Nat × Nat)) (h : ∀ i x, q i = some x → p i = some x) : ∀ (l : List (Nat × Value)) (cells out : Array Value), Instr.fill q cells l = some out → Instr.fill p cells l = some out
 | [], cells, out, ho => by simpa [Instr.fill] using ho
 | (i, v) :: rest, cells, out, ho => by
  simp only [Instr.fill] at ho ⊢; cases hq : q i with
  | none => rw [hq] at ho; cases ho
  | some x =>
   rw [hq] at ho; rw [h i x hq]; obtain ⟨off, size⟩ := x; simp only at ho ⊢; split
   ·rename_i hc; rw [if_pos hc] at ho; cases ho
   ·rename_i hc; rw [if_neg hc] at ho; exact fill_congr p q h rest _ _ ho
theorem bFill_ok {g : Gh} (pl : List (Nat × Nat)) : ∀ (l : List (Nat × PV)) (l' : List (Nat × Value)) (cs : List PV) (cells : Array Value), FitL g cs cells.toList → l.map (·.1) = l'.map (·.1) → FitL g (l.map (·.2)) (l'.map (·.2)) → (bFill pl cs l).2 →
 ∃ out, Instr.fill (pl[·]?) cells l' = some out ∧ FitL g (bFill pl cs l).1 out.toList
 | [], l', cs, cells, hc, hl, hf, hd => by
  cases l' with
  | nil => exact ⟨cells, rfl, hc⟩
  | cons _ _ => cases hl
 | (i, y) :: rest, l', cs, cells, hc, hl, hf, hd => by
  cases l' with
  | nil => cases hl
  | cons p l' =>
   obtain ⟨i', v⟩ := p; simp only [List.map_cons, List.cons.injEq] at hl; obtain ⟨rfl, hl⟩ := hl; obtain ⟨v', r, e1, hv, hr⟩ := hf; simp only [List.map_cons, List.cons.injEq] at e1; obtain ⟨rfl, rfl⟩ := e1; simp only [bFill] at hd ⊢; cases hp : pl[i]? with
   | none => rw [hp] at hd; exact hd.elim
   | some x =>
    obtain ⟨off, n⟩ := x; rw [hp] at hd; obtain ⟨h1, h2, h3, h4⟩ := hd; have hpc := pcells_ok hv h3; have hsz : v.cells.size = n := by have := hpc.length; rw [h1] at this; simpa using this
    have hcl := hc.length; rw [fill_step (pl[·]?) cells i off n v l' hp hsz (by rw [← Array.length_toList, hcl]; exact h2)]; exact bFill_ok pl rest l' _ _ (by simpa using hc.splice hpc off) hl hr h4
theorem partsV_ok {g : Gh} {st : St} {a : Act} {w : World} (h : Sim g st a w) : ∀ (l : List (Nat × Operand)), partsOk st l → (partsV st l).map (·.1) = (l.map fun p => (p.1, a.eval p.2)).map (·.1) ∧ FitL g ((partsV st l).map (·.2)) ((l.map fun p => (p.1, a.eval p.2)).map (·.2))
 | [], _ => ⟨rfl, rfl⟩
 | (i, x) :: r, hd => by
  obtain ⟨h1, h2, h3⟩ := hd; obtain ⟨a1, a2⟩ := partsV_ok h r h3; obtain ⟨hf, _⟩ := mv_ok h x h1; rw [isPv_eq h2] at hf; exact ⟨by simp only [partsV, List.map_cons]; rw [a1], _, _, rfl, hf.2, a2⟩
theorem buildV_ok {P : Program} {st : St} (o : Oper) (t : TypeId) (parts : Array (Nat × Operand)) (ho : o.op = .build t parts) : Pop P st o (buildV P st t parts) := by
 intro g a w h hd; unfold buildV at hd ⊢; split at hd
 ·rename_i pl zs hb hz; obtain ⟨hp, hd⟩ := hd; obtain ⟨e1, e2⟩ := partsV_ok h parts.toList hp; unfold zeroV at hz; cases hi : P.info? t with
  | none => rw [hi] at hz; cases hz
  | some it =>
   rw [hi] at hz; simp only [Option.map_eq_some_iff] at hz; obtain ⟨z, hz, rfl⟩ := hz; have hlits : ∀ vs : List Value, FitL g (vs.map PV.lit) vs := fun vs => by
    induction vs with
    | nil => rfl
    | cons u us ih => exact ⟨u, us, rfl, rfl, ih⟩
   obtain ⟨out, ho1, ho2⟩ := bFill_ok pl _ _ _ z.cells (hlits _) e1 e2 hd; have hbuilt : P.built t (parts.toList.map fun p => (p.1, a.eval p.2)) = some out := by
    unfold bInfo at hb; unfold Program.built; rw [hi]; split at hb
    ·rename_i fs hu; rw [hu]; simp only [hz, hb]; simpa using ho1
    ·rename_i n e hu; simp only [Option.map_eq_some_iff] at hb; obtain ⟨ie, hie, rfl⟩ := hb; rw [hu]; simp only [hz, hie]; refine fill_congr _ _ (fun i x hx => ?_) _ _ _ ho1; simp only [List.getElem?_map, Option.map_eq_some_iff] at hx; obtain ⟨k, hk, rfl⟩ := hx; have := List.getElem?_eq_some_iff.1 hk; obtain ⟨hlt, he⟩ := this; simp at he; subst he; rfl
    ·cases hb
   refine ⟨.agg out, ?_, ⟨rfl, out, rfl, ho2⟩, trivial⟩; simp only [execOp, ho, Sem.run_bind]; rw [run_build w t _ out (by rw [← hbuilt]; simp)]; simp
 ·exact hd.elim
/-! ### An index into an array's value, or a text -/
def arInfo (P : Program) (t : TypeId) : Option (Nat × Bool × Nat) :=
 match P.underlying t with
 | some (.array n e) => (ldInfo P e).map fun p => (n, p)
 | _ => none
def indexV (P : Program) (t : TypeId) (x i : SV) : SV × Prop :=
 match arInfo P t with
 | some (n, false, e) => (.pv ((pcells (toPv x)).getD ((asI i).toNat * e) .bot), isAggV x ∧ isI i ∧ 0 ≤ asI i ∧ asI i < n ∧ (asI i).toNat * e < (pcells (toPv x)).length)
 | some (n, true, e) => (.pv (.agg (((pcells (toPv x)).drop ((asI i).toNat * e)).take e)), isAggV x ∧ isI i ∧ 0 ≤ asI i ∧ asI i < n)
 | none => match P.underlying t with
  | some .string => (.pv (.lit (.int .u8 ((asS x)[(asI i).toNat]?.getD 0).toNat)), isS x ∧ isI i ∧ 0 ≤ asI i ∧ asI i < (asS x).size)
  | _ => (.pv .bot, False)
theorem indexV_ok {P : Program} {st : St} (o : Oper) (t : TypeId) (x i : Operand) (ho : o.op = .index t x i) : Pop P st o ((indexV P t (mv st x) (mv st i)).1, gc st x ∧ gc st i ∧ (indexV P t (mv st x) (mv st i)).2) := by
 intro g a w h ⟨hx, hi, hd⟩; obtain ⟨hf, _⟩ := mv_ok h x hx; unfold indexV at hd ⊢; cases ha : arInfo P t with
 | some q =>
  obtain ⟨n, b, e⟩ := q; rw [ha] at hd; unfold arInfo at ha; split at ha
  case h_2 => cases ha
  rename_i n' el hu; simp only [Option.map_eq_some_iff, Prod.mk.injEq] at ha; obtain ⟨q, hl, rfl, hq⟩ := ha; rw [hq] at hl; clear hq; have hsz := (run_isAgg hl w).2; cases b with
  | false =>
   simp only at hd ⊢; obtain ⟨h1, h2, h3, h4, h5⟩ := hd; obtain ⟨vs, hv, hfl⟩ := agg_ok hf h1; obtain ⟨v, hv', hf'⟩ := hfl.get _ _ (List.getElem?_eq_getElem h5); refine ⟨v, ?_, ⟨rfl, by simpa [List.getD, List.getElem?_eq_getElem h5] using hf'⟩, trivial⟩; simp [execOp, ho, hv, int_ok h hi h2, Instr.index, run_underlying hu, asIntOf, h3, h4, hsz, run_part1 w vs _ v hl (by rw [← Array.getElem?_toList]; exact hv')]
  | true =>
   simp only at hd ⊢; obtain ⟨h1, h2, h3, h4⟩ := hd; obtain ⟨vs, hv, hfl⟩ := agg_ok hf h1; refine ⟨.agg (vs.extract ((asI (mv st i)).toNat * e) ((asI (mv st i)).toNat * e + e)), ?_, ⟨rfl, _, rfl, ?_⟩, trivial⟩
   ·simp [execOp, ho, hv, int_ok h hi h2, Instr.index, run_underlying hu, asIntOf, h3, h4, hsz, run_part w vs _ hl]
   ·have := (hfl.drop ((asI (mv st i)).toNat * e)).take e; rw [Array.toList_extract]; simpa [List.extract] using this
 | none =>
  rw [ha] at hd; simp only at hd ⊢; split at hd
  ·rename_i hu; obtain ⟨h1, h2, h3, h4⟩ := hd; have hlt : (asI (mv st i)).toNat < (asS (mv st x)).size := by omega
   refine ⟨_, ?_, ⟨rfl, rfl⟩, trivial⟩; simp only [execOp, ho, str_ok h hx h1, int_ok h hi h2, Instr.index, asIntOf, Sem.run_bind, Sem.run_pure, Result.andThen_ok, run_underlying hu, if_pos h3]; have : (asS (mv st x))[(asI (mv st i)).toNat]? = some ((asS (mv st x))[(asI (mv st i)).toNat]) := by simp [hlt]
   rw [this]; simp
  ·exact hd.elim
/-! ### A function is made -/
def allPv (st : St) : List Operand → Prop
 | [] => True
 | x :: r => gc st x ∧ isPv (mv st x) ∧ allPv st r
def pvsOf (st : St) : List Operand → List PV
 | [] => []
 | x :: r => toPv (mv st x) :: pvsOf st r
theorem pvsOf_ok {g : Gh} {st : St} {a : Act} {w : World} (h : Sim g st a w) : ∀ (l : List Operand), allPv st l → FitL g (pvsOf st l) (l.map a.eval)
 | [], _ => rfl
 | x :: r, ⟨h1, h2, h3⟩ => by
  obtain ⟨hf, _⟩ := mv_ok h x h1; rw [isPv_eq h2] at hf; exact ⟨_, _, rfl, hf.2, pvsOf_ok h r h3⟩
def makeFV (st : St) (f : Fn) (first cap : Array Operand) : SV × Prop := (.pv (.fn f (pvsOf st first.toList) (pvsOf st cap.toList)), allPv st first.toList ∧ allPv st cap.toList)
theorem makeFV_ok {P : Program} {st : St} (o : Oper) (f : Fn) (first cap : Array Operand) (ho : o.op = .makeFunc f first cap) : Pop P st o (makeFV st f first cap) := by
 intro g a w h ⟨h1, h2⟩; refine ⟨.func f (first.map a.eval) (cap.map a.eval), by simp [execOp, ho, Instr.makeFunc], ⟨rfl, _, _, rfl, ?_, ?_⟩, trivial⟩
 ·simpa using pvsOf_ok h _ h1
 ·simpa using pvsOf_ok h _ h2
/-! ### Maps -/
def amLook : List (Int × PV) → Int → Option PV
 | [], _ => none
 | (k, x) :: r, n => if k = n then some x else amLook r n
def entriesOf (st : St) : SV → List (Int × PV)
 | .pv (.amap _ es) => es
 | .al p => match posGet st p with
  | .omap _ es => es
  | _ => []
 | _ => []
def isMap (st : St) : SV → Prop
 | .pv (.amap _ _) => True
 | .pv (.lit (.map none)) => True
 | .al p => match posGet st p with
  | .omap _ _ => True
  | _ => False
 | _ => False
def mpInfo (P : Program) (t : TypeId) : Option PV :=
 match P.underlying t with
 | some (.map k e) => match P.underlying k with
  | some (.int _) => match P.info? e with
   | some i => match i.zero with
    | some (.agg vs) => some (.agg (vs.toList.map .lit))
    | some z => some (.lit z)
    | none => none
   | none => none
  | _ => none
 | _ => none
def lookV (P : Program) (st : St) (t : TypeId) (x k : SV) (ok : Bool) : SV × Prop :=
 match mpInfo P t with
 | some z => (.pv (if ok = true then .tup [(amLook (entriesOf st x) (asI k)).getD z, .lit (.bool (amLook (entriesOf st x) (asI k)).isSome)] else (amLook (entriesOf st x) (asI k)).getD z), isMap st x ∧ isI k ∧ asK k = .i64)
 | none => (.pv .bot, False)
theorem findNow_ok {g : Gh} {kk : IntKind} {n : Int} : ∀ {es : List (Int × PV)} {en : List MapEntry} (_ : FitE g es en) (j : Nat),
 ∃ r, Instr.findNow (.int kk) (.int .i64 n) en j = some r ∧ (r = none ∧ amLook es n = none ∨ ∃ i m x, r = some (j + i, m.val) ∧ en[i]? = some m ∧ m.key = .int .i64 n ∧ amLook es n = some x ∧ Fit g x m.val)
 | [], en, h, j => by simp only [FitE] at h; subst h; exact ⟨none, rfl, .inl ⟨rfl, rfl⟩⟩
 | (k, x) :: es, en, ⟨m, r, h1, h2, h3, h4⟩, j => by
  subst h1; simp only [Instr.findNow, h2, Instr.sameNow, if_true, amLook]; by_cases hk : k = n
  ·subst hk; simp only [beq_self_eq_true, if_true]; exact ⟨_, rfl, .inr ⟨0, m, x, rfl, rfl, h2, rfl, h3⟩⟩
  ·have hb : (n == k) = false := by simp; exact fun e => hk e.symm
   simp only [hb, if_neg hk]; obtain ⟨r', e1, e2⟩ := findNow_ok (n := n) h4 (j + 1); refine ⟨r', e1, ?_⟩; rcases e2 with ⟨rfl, e2⟩ | ⟨i, m', x', rfl, e3, e4, e5, e6⟩
   ·exact .inl ⟨rfl, e2⟩
   ·exact .inr ⟨i + 1, m', x', by rw [Nat.add_assoc, Nat.add_comm 1 i], by simpa using e3, e4, e5, e6⟩
theorem run_checkKey_int {P : Program} (w : World) (b : Bool) (t : TypeId) (kk k : IntKind) (n : Int) (h : P.underlying t = some (.int kk)) : (Instr.checkKey b 10000 t (.int k n)).run P w = .ok () w := by
 show (Instr.checkKey b (9999 + 1) t (.int k n)).run P w = _; rw [Instr.checkKey]; simp only [Sem.run_bind, run_underlying h, Result.andThen_ok, Sem.run_pure]
theorem map_ok {g : Gh} {st : St} {a : Act} {w : World} (h : Sim g st a w) {x : Operand} (hg : gc st x) (hm : isMap st (mv st x)) :
 (a.eval x = .map none ∧ entriesOf st (mv st x) = []) ∨ ∃ r en ck, a.eval x = .map (some r) ∧ w.heap[r]? = some (.map en ck) ∧ FitE g (entriesOf st (mv st x)) en.toList := by
 obtain ⟨hf, ha⟩ := mv_ok h x hg; unfold isMap at hm; split at hm
 ·rename_i nw es hx; rw [hx] at hf ⊢; obtain ⟨r, en, ck, e1, e2, _, e3⟩ := hf.2; exact .inr ⟨r, en, ck, e1, h.I _ _ e2, e3.1⟩
 ·rename_i hx; rw [hx] at hf ⊢; exact .inl ⟨hf.2, rfl⟩
 ·rename_i p hx; rw [hx] at ha ⊢; split at hm
  ·rename_i nw es hp; obtain ⟨bl, hb⟩ := h.own; have hv := ha (by rw [hp]; rfl); have hfp := pos_fit hb (p := p) (by rw [hp]; rfl); rw [hp] at hfp; obtain ⟨c, _, en, ck, e1, e2, e3, _⟩ := hfp; exact .inr ⟨c, en, ck, hv.trans e1, e2, by simp only [entriesOf, hp]; exact e3⟩
  ·exact hm.elim
 ·exact hm.elim
theorem run_findKey {P : Program} {g : Gh} (w : World) (kt : TypeId) (kk : IntKind) (n : Int) (hu : P.underlying kt = some (.int kk)) {es : List (Int × PV)} {en : List MapEntry} (h : FitE g es en) :
 ∃ r, (Instr.findKey kt (.int .i64 n) en).run P w = .ok r w ∧ (r = none ∧ amLook es n = none ∨ ∃ i m x, r = some (i, m.val) ∧ en[i]? = some m ∧ m.key = .int .i64 n ∧ amLook es n = some x ∧ Fit g x m.val) := by
 obtain ⟨r, e1, e2⟩ := findNow_ok (kk := kk) (n := n) h 0; refine ⟨r, ?_, ?_⟩
 ·simp only [Instr.findKey, Sem.run_bind, run_underlying hu, Result.andThen_ok, e1, Sem.run_pure]
 ·simpa using e2
theorem lookV_ok {P : Program} {st : St} (o : Oper) (t : TypeId) (x k : Operand) (ok : Bool) (ho : o.op = .lookup t x k ok) : Pop P st o ((lookV P st t (mv st x) (mv st k) ok).1, gc st x ∧ gc st k ∧ (lookV P st t (mv st x) (mv st k) ok).2) := by
 intro g a w h ⟨hx, hk, hd⟩; unfold lookV at hd ⊢; cases hi : mpInfo P t with
 | none => rw [hi] at hd; exact hd.elim
 | some z =>
  rw [hi] at hd; simp only at hd ⊢; obtain ⟨h1, h2, h3⟩ := hd; unfold mpInfo at hi; split at hi
  case h_2 => cases hi
  rename_i kt et hu; split at hi
  case h_2 => cases hi
  rename_i kk hku; cases hinf : P.info? et with
  | none => rw [hinf] at hi; cases hi
  | some inf =>
   rw [hinf] at hi; simp only at hi; cases hz : inf.zero with
   | none => rw [hz] at hi; cases hi
   | some zv =>
    rw [hz] at hi; have hzf : Fit g z zv := by
     have hlits : ∀ vs : List Value, FitL g (vs.map PV.lit) vs := fun vs => by
      induction vs with
      | nil => rfl
      | cons u us ih => exact ⟨u, us, rfl, rfl, ih⟩
     split at hi
     ·rename_i vs he; cases hi; cases he; exact ⟨vs, rfl, hlits _⟩
     ·rename_i z' _ he; cases hi; cases he; rfl
     ·cases hi
    have hzr : (zeroValue et).run P w = .ok zv w := by simp [zeroValue, typeInfo, hinf, hz]
    have hkv := int_ok h hk h2; rw [h3] at hkv; have fin : ∀ (v : Value) (b : Bool), Fit g ((amLook (entriesOf st (mv st x)) (asI (mv st k))).getD z) v → b = (amLook (entriesOf st (mv st x)) (asI (mv st k))).isSome →
     Fit g (if ok = true then .tup [(amLook (entriesOf st (mv st x)) (asI (mv st k))).getD z, .lit (.bool (amLook (entriesOf st (mv st x)) (asI (mv st k))).isSome)] else (amLook (entriesOf st (mv st x)) (asI (mv st k))).getD z) (if ok = true then .tuple #[v, .bool b] else v) := by
     intro v b f1 f2; subst f2; cases ok with
     | true => exact ⟨_, rfl, v, _, rfl, f1, _, _, rfl, rfl, rfl⟩
     | false => exact f1
    rcases map_ok h hx h1 with ⟨e1, e2⟩ | ⟨r, en, ck, e1, e2, e3⟩
    ·refine ⟨if ok = true then .tuple #[zv, .bool false] else zv, ?_, ⟨rfl, fin zv false (by rw [e2]; exact hzf) (by rw [e2]; rfl)⟩, trivial⟩; have hfk : (Instr.findKey kt (.int .i64 (asI (mv st k))) (#[] : Array MapEntry).toList).run P w = .ok none w := by
      simp [Instr.findKey, run_underlying hku, Instr.findNow]
     simp only [execOp, ho, e1, hkv, Instr.lookup, Sem.run_bind, run_underlying hu, Result.andThen_ok, Sem.run_pure, run_checkKey_int w _ kt kk .i64 _ hku, hfk, hzr]
    ·obtain ⟨q, k1, k2⟩ := run_findKey (P := P) w kt kk (asI (mv st k)) hku e3; have hobj : (getObj r).run P w = .ok (.map en ck) w := by simp [getObj, Sem.run, e2]
     rcases k2 with ⟨rfl, k2⟩ | ⟨i, m, x', rfl, _, _, k3, k4⟩
     ·refine ⟨if ok = true then .tuple #[zv, .bool false] else zv, ?_, ⟨rfl, fin zv false (by rw [k2]; exact hzf) (by rw [k2]; rfl)⟩, trivial⟩; simp only [execOp, ho, e1, hkv, Instr.lookup, Sem.run_bind, run_underlying hu, Result.andThen_ok, Sem.run_pure, hobj, run_checkKey_int w _ kt kk .i64 _ hku, k1, hzr]
     ·refine ⟨if ok = true then .tuple #[m.val, .bool true] else m.val, ?_, ⟨rfl, fin m.val true (by rw [k3]; exact k4) (by rw [k3]; rfl)⟩, trivial⟩; simp only [execOp, ho, e1, hkv, Instr.lookup, Sem.run_bind, run_underlying hu, Result.andThen_ok, Sem.run_pure, hobj, run_checkKey_int w _ kt kk .i64 _ hku, k1]
end Go.AX

namespace Go.AX
def callV (P : Program) (st : St) (c : Call) : SV × Prop :=
 match c.callee, c.args.toList, c.argTypes.toList with
 | .builtin .len, [x], [t] => match tk P t with
  | .slice => ((lenSl P st t (mv st x)).1, gc st x ∧ (lenSl P st t (mv st x)).2)
  | .string => ((lenStr (mv st x)).1, gc st x ∧ (lenStr (mv st x)).2)
  | .map => (.int .i64 (entriesOf st (mv st x)).length, gc st x ∧ isMap st (mv st x))
  | _ => (.pv .bot, False)
 | .builtin .min, [x, y], _ => (.int (asK (mv st x)) (if asI (mv st y) < asI (mv st x) then asI (mv st y) else asI (mv st x)), gc st x ∧ gc st y ∧ isI (mv st x) ∧ isI (mv st y))
 | .builtin .max, [x, y], _ => (.int (asK (mv st x)) (if asI (mv st x) < asI (mv st y) then asI (mv st y) else asI (mv st x)), gc st x ∧ gc st y ∧ isI (mv st x) ∧ isI (mv st y))
 | _, _, _ => (.pv .bot, False)
def binV (P : Program) (op : BinOp) (t : TypeId) (x y : SV) : SV × Prop :=
 match tk P t with
 | .int => binI op x y
 | .bool => binB op x y
 | .string => binS op x y
 | .ptr => ((binP op x y).1, isPtr x ∧ (binP op x y).2)
 | .flat n => binF n op x y
 | _ => (.pv .bot, False)
def mapNil (st : St) (op : BinOp) (x y : Operand) : Option Bool :=
 match y, mv st x with
 | .const (.map none), .al p => match posGet st p, op with
  | .omap _ _, .eql => some false
  | .omap _ _, .neq => some true
  | _, _ => none
 | .const (.map none), .pv (.amap _ _) => match op with
  | .eql => some false
  | .neq => some true
  | _ => none
 | _, _ => none
def pop (P : Program) (st : St) (o : Op) : SV × Prop :=
 match o with
 | .move x => (mv st x, gc st x)
 | .assign x => (mv st x, gc st x)
 | .pick c x y => ((pickV (mv st c) (mv st x) (mv st y)).1, gc st c ∧ (asB (mv st c) = true → gc st x) ∧ (asB (mv st c) = false → gc st y) ∧ (pickV (mv st c) (mv st x) (mv st y)).2)
 | .unOp op _ x => ((unV op (mv st x)).1, gc st x ∧ (unV op (mv st x)).2)
 | .binOp op t x y _ => match mapNil st op x y with
  | some b => (.bool b, gc st x ∧ tk P t = .map)
  | none => ((binV P op t (mv st x) (mv st y)).1, gc st x ∧ gc st y ∧ (binV P op t (mv st x) (mv st y)).2)
 | .fieldAddr t x f => ((fieldV P st t f (mv st x)).1, gc st x ∧ (fieldV P st t f (mv st x)).2)
 | .indexAddr t x i => ((idxV P st t (mv st x) (mv st i)).1, gc st x ∧ gc st i ∧ (idxV P st t (mv st x) (mv st i)).2)
 | .load t x => ((ldV P st t (mv st x)).1, gc st x ∧ (ldV P st t (mv st x)).2)
 | .extract x i => ((extV i (mv st x)).1, gc st x ∧ (extV i (mv st x)).2)
 | .field t x f => ((partV P t f (mv st x)).1, gc st x ∧ (partV P t f (mv st x)).2)
 | .convert s d x => ((cvtV P s d (mv st x)).1, gc st x ∧ (cvtV P s d (mv st x)).2)
 | .nilCheck x => ((ckV st (mv st x)).1, gc st x ∧ (ckV st (mv st x)).2)
 | .slice t x lo hi none => ((cutV P st t (mv st x) lo hi).1, gc st x ∧ (cutV P st t (mv st x) lo hi).2)
 | .slice t x (some lo) (some hi) (some m) => ((cut3V P st t (mv st x) lo hi m).1, gc st x ∧ (cut3V P st t (mv st x) lo hi m).2)
 | .call c => callV P st c
 | .build t ps => buildV P st t ps
 | .index t x i => ((indexV P t (mv st x) (mv st i)).1, gc st x ∧ gc st i ∧ (indexV P t (mv st x) (mv st i)).2)
 | .makeFunc f first cap => makeFV st f first cap
 | .lookup t x k ok => ((lookV P st t (mv st x) (mv st k) ok).1, gc st x ∧ gc st k ∧ (lookV P st t (mv st x) (mv st k) ok).2)
 | _ => (.pv .bot, False)
theorem tk_bool {P : Program} {t : TypeId} (h : tk P t = .bool) : P.underlying t = some .bool := by
 unfold tk at h; split at h <;> first | assumption | (cases h; done) | (split at h <;> cases h)
theorem tk_string {P : Program} {t : TypeId} (h : tk P t = .string) : P.underlying t = some .string := by
 unfold tk at h; split at h <;> first | assumption | (cases h; done) | (split at h <;> cases h)
theorem tk_map {P : Program} {t : TypeId} (h : tk P t = .map) : ∃ k e, P.underlying t = some (.map k e) := by
 unfold tk at h; split at h <;> first | exact ⟨_, _, by assumption⟩ | (cases h; done) | (split at h <;> cases h)
theorem tk_ptr {P : Program} {t : TypeId} (h : tk P t = .ptr) : ∃ e, P.underlying t = some (.pointer e) := by
 unfold tk at h; split at h <;> first | exact ⟨_, by assumption⟩ | (cases h; done) | (split at h <;> cases h)
theorem pop_ok {P : Program} {st : St} (o : Oper) : Pop P st o (pop P st o.op) := by
 cases hop : o.op
 case move x => exact (mvV_ok o x (.inl hop)).pop
 case assign x => exact (mvV_ok o x (.inr hop)).pop
 case pick c x y => exact (pickV_ok o c x y hop).pop
 case unOp op t x => exact (unV_ok o op t x hop).pop
 case fieldAddr t x f => exact (fieldV_ok o t f x hop).pop
 case indexAddr t x i => exact (idxV_ok o t x i hop).pop
 case load t x => exact ldV_ok o t x hop
 case extract x i => exact (extV_ok o x i hop).pop
 case field t x f => exact (partV_ok o t x f hop).pop
 case convert s d x => exact (cvtV_ok o s d x hop).pop
 case nilCheck x => exact (ckV_ok o x hop).pop
 case slice t x lo hi mx =>
  cases mx with
  | none => exact (cutV_ok o t x lo hi hop).pop
  | some m =>
   cases lo with
   | none => exact fun _ _ _ _ h => h.elim
   | some lo =>
    cases hi with
    | none => exact fun _ _ _ _ h => h.elim
    | some hi => exact (cut3V_ok o t x lo hi m hop).pop
 case binOp op t x y u =>
  simp only [pop, binV]; split
  ·rename_i b hmn; intro g a w h ⟨hx, htk⟩; obtain ⟨k, e, hu⟩ := tk_map htk; unfold mapNil at hmn; split at hmn
   case h_3 => cases hmn
   case h_2 =>
    rename_i nw es hm; obtain ⟨hf, _⟩ := mv_ok h x hx; rw [hm] at hf; have hy : a.eval (.const (.map none)) = .map none := rfl; obtain ⟨c, en, ck, hc, _⟩ := hf.2; split at hmn
    ·cases hmn; refine ⟨.bool false, ?_, ⟨rfl, rfl⟩, trivial⟩; simp only [execOp, hop, hc, hy, eqGuard_at_map, Sem.run_bind, Sem.run_pure, Result.andThen_ok, Go.run_eql_map_nil w t k e (some c) hu]; rfl
    ·cases hmn; refine ⟨.bool true, ?_, ⟨rfl, rfl⟩, trivial⟩; simp only [execOp, hop, hc, hy, eqGuard_at_map, Sem.run_bind, Sem.run_pure, Result.andThen_ok, Go.run_neq_map_nil w t k e (some c) hu]; rfl
    ·cases hmn
   rename_i p hm; obtain ⟨_, ha⟩ := mv_ok h x hx; rw [hm] at ha; obtain ⟨bl, hb⟩ := h.own; have key : ∀ (nw : Bool) (es : List (Int × PV)), posGet st p = .omap nw es → ∃ c, a.eval x = .map (some c) := fun nw es hp => by
    have hv := ha (by rw [hp]; rfl); have hf := pos_fit hb (p := p) (by rw [hp]; rfl); rw [hp] at hf; obtain ⟨c, _, en, ck, e1, _⟩ := hf; exact ⟨c, by rw [hv, e1]⟩
   have hy : a.eval (.const (.map none)) = .map none := rfl; split at hmn
   ·rename_i nw es hp; cases hmn; obtain ⟨c, hc⟩ := key nw es hp; refine ⟨.bool false, ?_, ⟨rfl, rfl⟩, trivial⟩; simp only [execOp, hop, hc, hy, eqGuard_at_map, Sem.run_bind, Sem.run_pure, Result.andThen_ok, Go.run_eql_map_nil w t k e (some c) hu]; rfl
   ·rename_i nw es hp; cases hmn; obtain ⟨c, hc⟩ := key nw es hp; refine ⟨.bool true, ?_, ⟨rfl, rfl⟩, trivial⟩; simp only [execOp, hop, hc, hy, eqGuard_at_map, Sem.run_bind, Sem.run_pure, Result.andThen_ok, Go.run_neq_map_nil w t k e (some c) hu]; rfl
   ·cases hmn
  cases ht : tk P t with
  | int => exact (binI_ok o op t u x y hop).pop
  | bool => exact (binB_ok o op t u x y hop (tk_bool ht)).pop
  | string => exact (binS_ok o op t u x y hop).pop
  | ptr => obtain ⟨e, he⟩ := tk_ptr ht; exact (binP_ok o op t u e x y hop he).pop
  | flat n => exact binF_ok o op t u x y n hop ht
  | _ => exact fun _ _ _ _ h => h.2.2.elim
 case build t ps => exact buildV_ok o t ps hop
 case index t x i => exact indexV_ok o t x i hop
 case makeFunc f first cap => exact makeFV_ok o f first cap hop
 case lookup t x k ok => exact lookV_ok o t x k ok hop
 case call c =>
  simp only [pop, callV]; split
  ·rename_i x t h1 h2 h3; have hc : c = { callee := .builtin .len, args := #[x], argTypes := #[t] } := by
    cases c with
    | mk a b d =>
     simp only at h1 h2 h3; rw [h1, show b = #[x] from by rw [← Array.toArray_toList (xs := b), h2], show d = #[t] from by rw [← Array.toArray_toList (xs := d), h3]]
   rw [hc] at hop; cases ht : tk P t with
   | slice => exact (lenSl_ok o t x hop).pop
   | string => exact (lenStr_ok o t x hop (tk_string ht)).pop
   | map =>
    intro g a w h ⟨hx, hd⟩; obtain ⟨k, e, hu⟩ := tk_map ht; refine ⟨_, ?_, ⟨rfl, rfl⟩, trivial⟩; rcases map_ok h hx hd with ⟨e1, e2⟩ | ⟨r, en, ck, e1, e2, e3⟩
    ·simp [execOp, hop, resolve, invoke, builtin, e1, e2, Builtin.len_, run_underlying hu, goInt]
    ·have hl := e3.length; have hobj : (getObj r).run P w = .ok (.map en ck) w := by simp [getObj, Sem.run, e2]
     simp [execOp, hop, resolve, invoke, builtin, e1, Builtin.len_, run_underlying hu, goInt, hobj, ← hl]
   | _ => exact fun _ _ _ _ h => h.elim
  ·rename_i x y h1 h2; intro g a w h ⟨g1, g2, i1, i2⟩; have e2 : c.args = #[x, y] := by rw [← Array.toArray_toList (xs := c.args), h2]
   refine ⟨_, ?_, ⟨rfl, rfl⟩, trivial⟩; have ex := int_ok h g1 i1; have ey := int_ok h g2 i2; simp [execOp, hop, resolve, h1, e2, ex, ey, invoke, builtin, Builtin.min_, Builtin.min2]
  ·rename_i x y h1 h2; intro g a w h ⟨g1, g2, i1, i2⟩; have e2 : c.args = #[x, y] := by rw [← Array.toArray_toList (xs := c.args), h2]
   refine ⟨_, ?_, ⟨rfl, rfl⟩, trivial⟩; have ex := int_ok h g1 i1; have ey := int_ok h g2 i2; simp [execOp, hop, resolve, h1, e2, ex, ey, invoke, builtin, Builtin.max_, Builtin.max2]
  ·exact fun _ _ _ _ h => h.elim
 all_goals exact fun _ _ _ _ h => h.elim
/-! ### What is laid into memory is frozen -/
def embPos (st : St) (p : Pos) : PV × St × Prop :=
 match posGet st p with
 | .own nw e rows => (.seq nw e rows, setPos st p (.pv (.seq nw e rows)), True)
 | .omap nw es => (.amap nw es, setPos st p (.pv (.amap nw es)), True)
 | _ => (.bot, st, False)
def emb (st : St) (x : Operand) : PV × St × Prop :=
 match mv st x with
 | .pv y => (y, st, gc st x)
 | .al p => ((embPos st p).1, (embPos st p).2.1, gc st x ∧ (embPos st p).2.2)
 | .loc p lo hi => match posGet st p with
  | .own nw e rows => (.seq nw e ((rows.take hi).drop lo), setPos st p (.pv (.seq nw e rows)), gc st x)
  | _ => (.bot, st, False)
 | _ => (.bot, st, False)
theorem emb_ok {g : Gh} {st : St} {a : Act} {w : World} (h : Sim g st a w) (x : Operand) (hd : (emb st x).2.2) :
 ∃ g', g.to g' ∧ g.le g' ∧ g'.n = g.n ∧ Sim g' (emb st x).2.1 a w ∧ Fit g' (emb st x).1 (a.eval x) := by
 have hrefl : g.to g := ⟨fun _ _ h => h, rfl, rfl, rfl, rfl, rfl, h.n0, fun _ _ => rfl, fun _ _ h => h⟩; unfold emb at hd ⊢; split at hd
 ·rename_i y hm; obtain ⟨hf, _⟩ := mv_ok h x hd; rw [hm] at hf; exact ⟨g, hrefl, Gh.le.refl g, rfl, h, hf.2⟩
 ·rename_i p hm; obtain ⟨hf, ha⟩ := mv_ok h x hd.1; rw [hm] at ha; have hd2 := hd.2; unfold embPos at hd2 ⊢; split at hd2
  ·rename_i nw e rows hp; obtain ⟨g', t1, t2, t3, t4, t5, _⟩ := h.freeze (p := p) (by rw [hp]; rfl); rw [hp] at t4 t5; exact ⟨g', t1, t2, t3, t5, by rw [ha (by rw [hp]; rfl)]; exact t4⟩
  ·rename_i nw es hp; obtain ⟨g', t1, t2, t3, t4, t5, _⟩ := h.freeze (p := p) (by rw [hp]; rfl); rw [hp] at t4 t5; exact ⟨g', t1, t2, t3, t5, by rw [ha (by rw [hp]; rfl)]; exact t4⟩
  ·exact hd2.elim
 ·rename_i p lo hi hm; split at hd
  ·rename_i nw e rows hp; obtain ⟨hf, ha⟩ := mv_ok h x hd; rw [hm] at ha; obtain ⟨g', t1, t2, t3, t4, t5, _⟩ := h.freeze (p := p) (by rw [hp]; rfl); rw [hp] at t4 t5; refine ⟨g', t1, t2, t3, t5, ?_⟩; obtain ⟨j1, j2, q, cap, hv, jc, hq, _⟩ := ha _ _ _ hp; refine ⟨q, cap, by rw [hv, List.length_drop, List.length_take]; congr 1; omega, by simp; omega, ?_⟩; by_cases hlh : lo = hi
   ·left; subst hlh; simp
   ·right; rcases hq with hq | ⟨c, n, cp, hpv, rfl⟩
    ·exact absurd hq hlh
    ·obtain ⟨q', cap', e1, _, hr⟩ := t4; rw [hpv] at e1; cases e1; rcases hr with rfl | ⟨c', off, arr, T, fz, vs, e1, e2, e3, e4, e5⟩
     ·simp at j2; omega
     ·cases e1; refine ⟨c, lo * e, arr, T, fz, (vs.take (hi * e)).drop (lo * e), rfl, e2, e3, e4.cut lo hi j1 j2, ?_⟩; have := cut_prefix e5 (lo * e) (hi * e)
      rwa [List.drop_drop, Nat.zero_add] at this
  ·cases hd
 ·exact hd.elim
def embL (st : St) : List Operand → List PV × St × Prop
 | [] => ([], st, True)
 | x :: xs => ((emb st x).1 :: (embL (emb st x).2.1 xs).1, (embL (emb st x).2.1 xs).2.1, (emb st x).2.2 ∧ (embL (emb st x).2.1 xs).2.2)
theorem embL_ok : ∀ (xs : List Operand) {g : Gh} {st : St} {a : Act} {w : World}, Sim g st a w → (embL st xs).2.2 →
 ∃ g', g.to g' ∧ g.le g' ∧ g'.n = g.n ∧ Sim g' (embL st xs).2.1 a w ∧ FitL g' (embL st xs).1 (xs.map a.eval)
 | [], g, st, a, w, h, _ => ⟨g, ⟨fun _ _ h => h, rfl, rfl, rfl, rfl, rfl, h.n0, fun _ _ => rfl, fun _ _ h => h⟩, Gh.le.refl g, rfl, h, rfl⟩
 | x :: xs, g, st, a, w, h, hd => by
  obtain ⟨g1, t1, l1, n1, s1, f1⟩ := emb_ok h x hd.1; obtain ⟨g2, t2, l2, n2, s2, f2⟩ := embL_ok xs s1 hd.2; refine ⟨g2, t1.trans t2, ⟨fun c o hc => l2.I _ _ (l1.I _ _ hc), Nat.le_trans l2.B l1.B, by rw [n2, n1]; exact Nat.le_refl _, fun b hb => by rw [l2.μ b (by rw [n1]; exact hb), l1.μ b hb]⟩, n2.trans n1, s2, _, _, rfl, Fit.mono l2 _ _ f1, f2⟩
end Go.AX

namespace Go.AX
theorem Sim.refl_to {g : Gh} {st : St} {a : Act} {w : World} (h : Sim g st a w) : g.to g := ⟨fun _ _ h => h, rfl, rfl, rfl, rfl, rfl, h.n0, fun _ _ => rfl, fun _ _ h => h⟩
/-! ### Reading -/
def putD (d : Option Tmp) (sv : SV) (st : St) : St :=
 match d with
 | some d => st.put d sv
 | none => st
def dstOk (N : Nat) (d : Option Tmp) : Prop :=
 match d with
 | some d => d < N
 | none => True
theorem Sim.putD {g : Gh} {st : St} {a : Act} {w : World} (h : Sim g st a w) {d : Option Tmp} (hd : dstOk g.N d) {sv : SV} {v : Value} (hs : SFit g w sv v none) (ha : AlOk g st a w sv v) (ho : sv.isOwn = false) :
 Sim g (putD d sv st) (a.put d v) w := by
 cases d with
 | none => exact h
 | some d => exact h.put hd hs ha ho
/-! ### An owned value moves -/
def takeS (st : St) (s d : Nat) : St := ⟨(d, look st.t s) :: killL (qSlot d) ((s, .pv .bot) :: st.t), st.h⟩
theorem Sim.take {g : Gh} {st : St} {a : Act} {w : World} (h : Sim g st a w) {s d : Nat} (hd : d < g.N) (ho : (look st.t s).isOwn = true) : Sim g (takeS st s d) (a.put (some d) (a.tmps.getD s undef)) w := by
 obtain ⟨bl, hb⟩ := h.own; obtain ⟨h1, bl', hb', h2, h3, h4⟩ := h.drop hb (.slot s); have hs := hb.slots s; refine h1.putOwn hb' hd rfl (Nat.le_refl _) (fun _ _ _ => rfl) hs ho (fun c hc => ⟨(hb.free _ c hc).2.2.1, h4 c hc⟩)
theorem assign_own {P : Program} {st : St} (o : Oper) (s d : Nat) (ho : o.op = .assign (.tmp s)) (hd : o.dst = some d) (hown : (look st.t s).isOwn = true) {N : Nat} (hN : d < N) :
 ∀ g a w, g.N = N → Sim g st a w → ∃ v w' g', (execOp a.eval o).run P w = .ok (.value v) w' ∧ g.to g' ∧ Sim g' (takeS st s d) (a.put o.dst v) w' := by
 intro g a w hg h; refine ⟨a.tmps.getD s undef, w, g, by simp [execOp, ho, Act.eval], h.refl_to, ?_⟩; rw [hd]; exact h.take (hg ▸ hN) hown
/-! ### New blocks of the walk's own -/
def zeroL (P : Program) (t : TypeId) : Option (List PV) :=
 match P.info? t with
 | some i => i.zero.map fun z => z.cells.toList.map PV.lit
 | none => none
theorem fitL_lits (g : Gh) : ∀ vs : List Value, FitL g (vs.map PV.lit) vs
 | [] => rfl
 | v :: vs => ⟨v, vs, rfl, rfl, fitL_lits g vs⟩
theorem alloc_ok {P : Program} {st : St} (o : Oper) (t : TypeId) (d : Nat) (zs : List PV) (ho : o.op = .alloc t) (hd : o.dst = some d) (hz : zeroL P t = some zs) (hz1 : allOne zs = true) {N : Nat} (hN : d < N) :
 ∀ g a w, g.N = N → Sim g st a w → ∃ v w' g', (execOp a.eval o).run P w = .ok (.value v) w' ∧ g.to g' ∧ Sim g' ((st.grow (zs.map .pv)).put d (.pv (.ptr st.h.length 0))) (a.put o.dst v) w' := by
 intro g a w hg h; unfold zeroL at hz; split at hz
 case h_2 => cases hz
 rename_i i hi; simp only [Option.map_eq_some_iff] at hz; obtain ⟨z, hz, rfl⟩ := hz; obtain ⟨g', t1, l1, n1, m1, s1⟩ := h.blockNew (z.cells.toList.map PV.lit) z.cells t (fitL_lits g _) (allOne_ok hz1 (fitL_lits g _)); refine ⟨.pointer (some ⟨w.heap.size, 0, none⟩), w.alloc (.cells z.cells t), g', ?_, t1, ?_⟩
 ·simp only [execOp, ho, Instr.alloc, zeroValue, typeInfo, Sem.run_bind, run_program, Result.andThen_ok, hi, Sem.run_pure, hz]; simp [newVar, newRow]
 ·rw [hd]; refine s1.put (by rw [t1.N, hg]; exact hN) ⟨rfl, ?_, ?_⟩ trivial rfl
  ·rw [n1, ← h.n]; omega
  ·rw [← h.n, m1]
theorem box_ok {P : Program} {st : St} (o : Oper) (t : TypeId) (x : Operand) (d : Nat) (ho : o.op = .box t x) (hd : o.dst = some d) (he : (emb st x).2.2) (hx : (emb st x).1.one = true ∨ isAggV (.pv (emb st x).1)) (hx1 : allOne (pcells (emb st x).1) = true) {N : Nat} (hN : d < N) :
 ∀ g a w, g.N = N → Sim g st a w → ∃ v w' g', (execOp a.eval o).run P w = .ok (.value v) w' ∧ g.to g' ∧ Sim g' (((emb st x).2.1.grow ((pcells (emb st x).1).map .pv)).put d (.pv (.ptr (emb st x).2.1.h.length 0))) (a.put o.dst v) w' := by
 intro g a w hg h; obtain ⟨g1, t1, l1, n1, s1, f1⟩ := emb_ok h x he; have hc := pcells_ok f1 hx; obtain ⟨g2, t2, l2, n2, m2, s2⟩ := s1.blockNew _ (a.eval x).cells t hc (allOne_ok hx1 hc); refine ⟨.pointer (some ⟨w.heap.size, 0, none⟩), w.alloc (.cells (a.eval x).cells t), g2, ?_, t1.trans t2, ?_⟩
 ·simp [execOp, ho, Instr.box, newVar, newRow]
 ·rw [hd]; refine s2.put (by rw [t2.N, t1.N, hg]; exact hN) ⟨rfl, ?_, ?_⟩ trivial rfl
  ·rw [n2, ← s1.n]; omega
  ·rw [← s1.n, m2]
/-! ### Stores -/
theorem run_storeVar_at {P : Program} {t : TypeId} {ag : Bool} {n : Nat} (w : World) (hl : ldInfo P t = some (ag, n)) (v : Value) (hv : v.cells.size = n) (c off : Nat) (T : TypeId) (arr : Array Value)
 (hc : w.heap[c]? = some (.cells arr T (0, 0))) (hfit : off + n ≤ arr.size) (h1 : ∀ u ∈ v.cells.toList, u.oneCell' = true) :
 (storeVar t ⟨c, off, none⟩ v).run P w = .ok () (w.setRow c (splice arr.toList off v.cells.toList).toArray) := by
 obtain ⟨_, h2⟩ := run_isAgg hl w; have := run_storeCells_at P c off T v.cells.toList 0 arr w hc (by simp [hv]; omega) h1; simp only [Nat.add_zero] at this; simp only [storeVar, Sem.run_bind, h2, Result.andThen_ok, hv, ne_eq, not_true, if_false, Sem.run_ite]; simpa [splice] using this
theorem store_ptr {P : Program} {st : St} (o : Oper) (t : TypeId) (x y : Operand) (b off n : Nat) (ag : Bool) (ho : o.op = .store t x y) (hd : o.dst = none) (hl : ldInfo P t = some (ag, n))
 (he : (emb st y).2.2) (hone : allOne (pcells (emb st y).1) = true) (hy : (emb st y).1.one = true ∨ isAggV (.pv (emb st y).1)) (hn : (pcells (emb st y).1).length = n)
 (hx : mv (emb st y).2.1 x = .pv (.ptr b off)) (hgx : gc (emb st y).2.1 x) (hfit : off + n ≤ ((emb st y).2.1.h.getD b []).length) :
 ∀ g a w, Sim g st a w → ∃ w' g', (execOp a.eval o).run P w = .ok .skip w' ∧ g.to g' ∧
  Sim g' ⟨killL (qCells b off n) (emb st y).2.1.t, (emb st y).2.1.h.set b (splice ((emb st y).2.1.h.getD b []) off ((pcells (emb st y).1).map .pv))⟩ a w' := by
 intro g a w h; obtain ⟨g1, t1, l1, n1, s1, f1⟩ := emb_ok h y he; obtain ⟨hfx, _⟩ := mv_ok s1 x hgx; rw [hx] at hfx; obtain ⟨_, hb1, hvx⟩ := hfx; have hbl : b < (emb st y).2.1.h.length := s1.n ▸ hb1; have hbe : (emb st y).2.1.h[b]? = some ((emb st y).2.1.h.getD b []) := by simp [List.getD, List.getElem?_eq_getElem hbl]
 obtain ⟨bl, hbo⟩ := s1.own; obtain ⟨arr, T, a1, ⟨a2, _⟩, _⟩ := hbo.blocks b _ hbe; have hc := pcells_ok f1 hy; have hcn : (a.eval y).cells.size = n := by have := hc.length; rw [hn] at this; simpa using this
 have hr := run_storeVar_at w hl (a.eval y) hcn (g1.μ b) off T arr a1 (by rw [a2]; exact hfit) (allOne_ok hone hc); refine ⟨w.setRow (g1.μ b) (splice arr.toList off (a.eval y).cells.toList).toArray, g1, ?_, t1, ?_⟩
 ·simp only [execOp, ho, hvx, Instr.storeAt, Instr.sureAddr, Sem.run_bind, Sem.run_pure, Result.andThen_ok, hr]
 ·have := s1.blockWrite (w' := w.setRow (g1.μ b) (splice arr.toList off (a.eval y).cells.toList).toArray) hbe (by rw [hn]; exact hfit) a1 hc (allOne_ok hone hc) rfl (size_setRow _ _ _) (fun c hc => setRow_other w _ c _ hc) ⟨T, setRow_heap w _ arr _ T _ a1⟩ (by simp); rw [hn] at this; exact this
theorem FitR.splice {g : Gh} {e : Nat} : ∀ {rows : List (List PV)} {vs : List Value} (_ : FitR g e rows vs) (i k : Nat) (ys : List PV) (us : List Value), i < rows.length → k + ys.length ≤ e → (∀ u ∈ us, u.oneCell' = true) → FitL g ys us →
 FitR g e (rows.set i (AX.splice (rows.getD i []) k ys)) (AX.splice vs (i * e + k) us)
 | [], _, _, i, k, ys, us, h, _, _, _ => by simp at h
 | r0 :: rows, _, ⟨v1, v2, h1, h2, h3, h4⟩, 0, k, ys, us, _, hk, ho, hy => by
  have hl := h3.length; have hu := hy.length; refine ⟨AX.splice v1 k us, v2, ?_, ⟨?_, fun v hv => ?_⟩, ?_, h4⟩
  ·rw [h1]; simp only [AX.splice, Nat.zero_mul, Nat.zero_add]; rw [List.take_append_of_le_length (by omega), List.drop_append_of_le_length (by omega), List.append_assoc, List.append_assoc, List.append_assoc]
  ·simp only [List.getD_eq_getElem?_getD, List.getElem?_cons_zero, Option.getD_some]; rw [splice_length (by omega)]; exact h2.1
  ·simp only [AX.splice, List.mem_append] at hv; rcases hv with (hv | hv) | hv
   ·exact h2.2 v (List.mem_of_mem_take hv)
   ·exact ho v hv
   ·exact h2.2 v (List.mem_of_mem_drop hv)
  ·simp only [List.getD_eq_getElem?_getD, List.getElem?_cons_zero, Option.getD_some, AX.splice]; rw [← hu]; exact ((h3.take k).append hy).append (h3.drop _)
 | r0 :: rows, _, ⟨v1, v2, h1, h2, h3, h4⟩, i + 1, k, ys, us, h, hk, ho, hy => by
  have hl := h3.length; have h2l := h4.length; have hlt : i < rows.length := by simpa using h
  have hmul : i * e + e ≤ rows.length * e := by rw [← Nat.succ_mul]; exact Nat.mul_le_mul_right _ hlt
  have hu := hy.length; refine ⟨v1, AX.splice v2 (i * e + k) us, ?_, h2, h3, ?_⟩
  ·rw [h1]; simp only [AX.splice]; have e1 : (i + 1) * e + k = v1.length + (i * e + k) := by rw [hl, h2.1, Nat.succ_mul]; omega
   rw [e1, List.take_length_add_append, Nat.add_assoc, List.drop_length_add_append]; simp [List.append_assoc]
  ·have := FitR.splice h4 i k ys us hlt hk ho hy; simpa using this
theorem store_sptr {P : Program} {st : St} (o : Oper) (t : TypeId) (x y : Operand) (p : Pos) (i k n e : Nat) (nw : Bool) (rows : List (List PV)) (ag : Bool) (ho : o.op = .store t x y) (hl : ldInfo P t = some (ag, n))
 (he : (emb st y).2.2) (hone : allOne (pcells (emb st y).1) = true) (hy : (emb st y).1.one = true ∨ isAggV (.pv (emb st y).1)) (hn : (pcells (emb st y).1).length = n)
 (hx : mv (emb st y).2.1 x = .sptr p i k) (hgx : gc (emb st y).2.1 x) (hp : posGet (emb st y).2.1 p = .own nw e rows) (hi : i < rows.length) (hk : k + n ≤ e) :
 ∀ g a w, Sim g st a w → ∃ w' g', (execOp a.eval o).run P w = .ok .skip w' ∧ g.to g' ∧
  Sim g' (setPos (emb st y).2.1 p (.own nw e (rows.set i (splice (rows.getD i []) k (pcells (emb st y).1))))) a w' := by
 intro g a w h; obtain ⟨g1, t1, l1, n1, s1, f1⟩ := emb_ok h y he; obtain ⟨hfx, hax⟩ := mv_ok s1 x hgx; rw [hx] at hax; obtain ⟨c, m, cp, hpv, hvx⟩ := hax _ _ _ hp; obtain ⟨bl, hbo⟩ := s1.own; have hown : (posGet (emb st y).2.1 p).isOwn = true := by rw [hp]; rfl
 have hfp := pos_fit hbo hown; rw [hp] at hfp; have hc := pcells_ok f1 hy; have hcn : (a.eval y).cells.size = n := by have := hc.length; rw [hn] at this; simpa using this
 rcases hfp with ⟨_, rfl, _⟩ | ⟨c', hbc, cap, arr, T, vs, e1, e2, e3, e4, e5, e6, e7⟩
 ·simp at hi
 ·rw [e1] at hpv; cases hpv; have hmul : i * e + e ≤ cp * e := by rw [← Nat.succ_mul]; exact Nat.mul_le_mul_right _ (by omega)
  have hr := run_storeVar_at w hl (a.eval y) hcn c (i * e + k) T arr e2 (by rw [e3]; omega) (allOne_ok hone hc); refine ⟨_, g1, ?_, t1, s1.ownWrite (w' := w.setRow c (splice arr.toList (i * e + k) (a.eval y).cells.toList).toArray) hbo hown hbc rfl (size_setRow _ _ _) (fun q hq => setRow_other w _ q _ hq) (.inr ⟨c, rfl, cp, _, T, splice vs (i * e + k) (a.eval y).cells.toList, ?_, setRow_heap w _ arr _ T _ e2, ?_, ⟨by simpa using e4.1, e4.2.1, one_splice e4.2.2 (allOne_ok hone hc) _⟩, ?_, ?_, e7⟩) rfl ?_⟩
  ·simp only [execOp, ho, hvx, Instr.storeAt, Instr.sureAddr, Sem.run_bind, Sem.run_pure, Result.andThen_ok, hr]
  ·rw [e1]; simp
  ·have : i * e + k + (a.eval y).cells.toList.length ≤ arr.toList.length := by simp [hcn, e3]; omega
   simp only [List.size_toArray]; rw [splice_length this]; simp [e3]
  ·exact e5.splice i k _ _ hi (by rw [hn]; exact hk) (allOne_ok hone hc) hc
  ·obtain ⟨r, hr'⟩ := e6; have hvl := e5.length; have hmul2 : i * e + e ≤ rows.length * e := by rw [← Nat.succ_mul]; exact Nat.mul_le_mul_right _ hi
   refine ⟨r, ?_⟩; simp only [splice]; have hcl : (a.eval y).cells.toList.length = n := by simp [hcn]
   rw [← hr', List.take_append_of_le_length (by omega), List.drop_append_of_le_length (by rw [hcl]; omega)]; simp [List.append_assoc]
  ·intro nw' e' rows' hh; cases hh; exact ⟨nw, rows, hp, by simp⟩
end Go.AX

namespace Go.AX
theorem fill_all (size : Nat) : ∀ (vs : List Value) (j : Nat) (cells : Array Value), (∀ v ∈ vs, v.cells.size = size) → cells.size = (j + vs.length) * size →
 ∃ out, Instr.fill (fun i => some (i * size, size)) cells ((vs.zipIdx j).map fun p => (p.2, p.1)) = some out ∧ out.toList = cells.toList.take (j * size) ++ (vs.map fun v => v.cells.toList).flatten
 | [], j, cells, _, hc => ⟨cells, by simp [Instr.fill], by simp at hc; rw [← hc, ← Array.length_toList, List.take_length]; simp⟩
 | v :: vs, j, cells, hv, hc => by
  have h1 := hv v (List.mem_cons_self ..); simp only [List.length_cons] at hc; have hle : j * size + size ≤ cells.size := by rw [hc, ← Nat.succ_mul]; exact Nat.mul_le_mul_right _ (by omega)
  simp only [List.zipIdx_cons, List.map_cons]; rw [fill_step _ cells j (j * size) size v _ rfl h1 hle]; have hsl : (splice cells.toList (j * size) v.cells.toList).length = cells.size := by rw [splice_length (by simp [h1]; exact hle)]; simp
  obtain ⟨out, ho, hl⟩ := fill_all size vs (j + 1) (splice cells.toList (j * size) v.cells.toList).toArray (fun u hu => hv u (List.mem_cons_of_mem _ hu)) (by simp only [List.size_toArray, hsl, hc]; congr 1; omega); refine ⟨out, ho, ?_⟩; rw [hl]; simp only [List.map_cons, List.flatten_cons]; rw [← List.append_assoc]; congr 1; simp only [splice]; rw [List.append_assoc, ← List.append_assoc]; have e1 : ((cells.toList.take (j * size)) ++ v.cells.toList).length = (j + 1) * size := by simp [h1, Nat.succ_mul]; omega
  rw [← e1, List.take_left']; rfl
theorem fitR_rows {g : Gh} {e : Nat} : ∀ {ys : List PV} {vs : List Value}, FitL g ys vs → (∀ y ∈ ys, (pcells y).length = e ∧ allOne (pcells y) = true ∧ (y.one = true ∨ isAggV (.pv y))) →
 FitR g e (ys.map pcells) ((vs.map fun v => v.cells.toList).flatten) ∧ ∀ v ∈ vs, v.cells.size = e
 | [], _, h, _ => by simp only [FitL] at h; subst h; simp [FitR]
 | y :: ys, _, ⟨v, r, h1, h2, h3⟩, hy => by
  subst h1; obtain ⟨a1, a2, a3⟩ := hy y (List.mem_cons_self ..); have hc := pcells_ok h2 a3; obtain ⟨b1, b2⟩ := fitR_rows h3 (fun z hz => hy z (List.mem_cons_of_mem _ hz)); refine ⟨⟨v.cells.toList, _, by simp, ⟨a1, allOne_ok a2 hc⟩, hc, b1⟩, fun u hu => ?_⟩; rcases List.mem_cons.1 hu with rfl | hu
  ·have := hc.length; rw [a1] at this; simpa using this
  ·exact b2 u hu
def slZero (P : Program) (t : TypeId) : Option (List PV) :=
 match P.underlying t with
 | some (.slice e) => zeroL P e
 | _ => none
theorem buildSlice_core {P : Program} {g : Gh} {a : Act} {w : World} (o : Oper) (t : TypeId) (len e : Nat) (parts : Array (Nat × Operand)) (zs ys : List PV) (ho : o.op = .buildSlice t len parts)
 (hs : slSize P t = some e) (hz : slZero P t = some zs) (hsm : len * e ≤ 16777216) (hp : parts.toList.map (·.1) = List.range len)
 (f1 : FitL g ys ((parts.toList.map (·.2)).map a.eval)) (hy : ∀ y ∈ ys, (pcells y).length = e ∧ allOne (pcells y) = true ∧ (y.one = true ∨ isAggV (.pv y))) :
 ∃ arr T, FitR g e (ys.map pcells) arr ∧
  (execOp a.eval o).run P w = .ok (.value (.slice (some ⟨w.heap.size, 0, none⟩) len len)) (w.alloc (.cells arr.toArray T)) ∧ (ys.map pcells).length = len := by
 obtain ⟨r1, r2⟩ := fitR_rows f1 hy; unfold slSize at hs; split at hs
 case h_2 => cases hs
 rename_i el hu; simp only [Option.map_eq_some_iff] at hs; obtain ⟨inf, hinf, rfl⟩ := hs; unfold slZero at hz; rw [hu] at hz; simp only [zeroL, hinf, Option.map_eq_some_iff] at hz; obtain ⟨z, hz, rfl⟩ := hz; have hlen : parts.toList.length = len := by have := congrArg List.length hp; simpa using this
 refine ⟨_, el, r1, ?_, ?_⟩
 ·have hargs : (parts.map fun (p : Nat × Operand) => (p.1, a.eval p.2)).toList = (((parts.toList.map (·.2)).map a.eval).zipIdx 0).map fun p => (p.2, p.1) := by
   apply List.ext_getElem?; intro i; simp only [Array.toList_map, List.getElem?_map, List.getElem?_zipIdx, Option.map_map]; cases hi : parts.toList[i]? with
   | none => simp
   | some q =>
    have := congrArg (fun l => l[i]?) hp; simp only [List.getElem?_map, hi, Option.map_some] at this; rw [List.getElem?_range (by have := (List.getElem?_eq_some_iff.1 hi).1; omega)] at this; simp only [Option.some.injEq] at this; simp [this]
  have hnew : ((Array.range (len * inf.size)).map ((if len * inf.size = 0 then (#[] : Array Value) else z.cells)[· % (if len * inf.size = 0 then (#[] : Array Value) else z.cells).size]!)).size = (0 + ((parts.toList.map (·.2)).map a.eval).length) * inf.size := by
   simp [hlen]
  obtain ⟨out, ho1, ho2⟩ := fill_all inf.size ((parts.toList.map (·.2)).map a.eval) 0 _ r2 hnew; rw [← hargs] at ho1; simp only [Nat.zero_mul, List.take_zero, List.nil_append] at ho2; rw [← ho2]; simp only [execOp, ho, Instr.buildSlice, Sem.run_bind, run_underlying hu, Result.andThen_ok, run_sizeOf hinf]; rw [if_neg (by omega)]; by_cases hz0 : len * inf.size = 0
  ·simp only [hz0, if_true] at ho1 ⊢; simp only [Sem.run_bind, Sem.run_pure, Result.andThen_ok, ho1]; simp [newRow]
  ·simp only [hz0, if_false] at ho1 ⊢; simp only [zeroValue, typeInfo, Sem.run_bind, run_program, hinf, hz, Sem.run_pure, Result.andThen_ok, ho1]; simp [newRow]
 ·have := f1.length; simp only [List.length_map] at this ⊢; rw [← this]; exact hlen
theorem buildSlice_run {P : Program} {g : Gh} {st : St} {a : Act} {w : World} (h : Sim g st a w) (o : Oper) (t : TypeId) (len e : Nat) (parts : Array (Nat × Operand)) (zs : List PV) (ho : o.op = .buildSlice t len parts)
 (hs : slSize P t = some e) (hz : slZero P t = some zs) (hsm : len * e ≤ 16777216) (hp : parts.toList.map (·.1) = List.range len)
 (he : (embL st (parts.toList.map (·.2))).2.2) (hy : ∀ y ∈ (embL st (parts.toList.map (·.2))).1, (pcells y).length = e ∧ allOne (pcells y) = true ∧ (y.one = true ∨ isAggV (.pv y))) :
 ∃ g' arr T, g.to g' ∧ g.le g' ∧ g'.n = g.n ∧ Sim g' (embL st (parts.toList.map (·.2))).2.1 a w ∧ FitR g' e ((embL st (parts.toList.map (·.2))).1.map pcells) arr ∧
  (execOp a.eval o).run P w = .ok (.value (.slice (some ⟨w.heap.size, 0, none⟩) len len)) (w.alloc (.cells arr.toArray T)) ∧ ((embL st (parts.toList.map (·.2))).1.map pcells).length = len := by
 obtain ⟨g1, t1, l1, n1, s1, f1⟩ := embL_ok _ h he; obtain ⟨arr, T, r1, r2, r3⟩ := buildSlice_core (w := w) o t len e parts zs _ ho hs hz hsm hp f1 hy; exact ⟨g1, arr, T, t1, l1, n1, s1, r1, r2, r3⟩
theorem buildSlice_own {P : Program} {st : St} (o : Oper) (t : TypeId) (len e : Nat) (parts : Array (Nat × Operand)) (zs : List PV) (d : Nat) (ho : o.op = .buildSlice t len parts) (hd : o.dst = some d)
 (hs : slSize P t = some e) (hz : slZero P t = some zs) (hsm : len * e ≤ 16777216) (h0 : 0 < e) (hp : parts.toList.map (·.1) = List.range len)
 (he : (embL st (parts.toList.map (·.2))).2.2) (hy : ∀ y ∈ (embL st (parts.toList.map (·.2))).1, (pcells y).length = e ∧ allOne (pcells y) = true ∧ (y.one = true ∨ isAggV (.pv y))) {N : Nat} (hN : d < N) :
 ∀ g a w, g.N = N → Sim g st a w → ∃ v w' g', (execOp a.eval o).run P w = .ok (.value v) w' ∧ g.to g' ∧
  Sim g' ⟨(d, .own true e ((embL st (parts.toList.map (·.2))).1.map pcells)) :: killL (qSlot d) (embL st (parts.toList.map (·.2))).2.1.t, (embL st (parts.toList.map (·.2))).2.1.h⟩ (a.put o.dst v) w' := by
 intro g a w hg h; obtain ⟨g1, arr, T, t1, l1, n1, s1, r1, hr, hlen⟩ := buildSlice_run h o t len e parts zs ho hs hz hsm hp he hy; refine ⟨_, _, g1, hr, t1, ?_⟩; rw [hd]; obtain ⟨bl, hb⟩ := s1.own; refine s1.putOwn hb (o := some w.heap.size) (by rw [t1.N, hg]; exact hN) rfl (by simp) (fun c hc _ => heap_alloc_old w _ hc) (.inr ⟨w.heap.size, rfl, len, arr.toArray, T, arr, by rw [hlen], heap_alloc_new w _, ?_, ⟨by rw [hlen]; exact Nat.le_refl _, ?_, by simpa using r1.one⟩, r1, by simp, fun _ => s1.B⟩) rfl (fun c hc => ?_)
 ·have := r1.length; rw [hlen] at this; simpa using this
 ·have : len ≤ len * e := Nat.le_mul_of_pos_right _ h0; unfold maxLen; omega
 ·cases hc; exact ⟨by simp, s1.fresh hb (Nat.le_refl _)⟩
/-! ### append -/
theorem slice_cells {g : Gh} {st : St} {a : Act} {w : World} (h : Sim g st a w) {x : Operand} {e : Nat} (hg : gc st x) (hs : slOk st e (mv st x)) :
 ∃ q cap vs, a.eval x = .slice q (rowsOf st (mv st x)).length cap ∧ FitR g e (rowsOf st (mv st x)) vs ∧ (rowsOf st (mv st x) = [] ∨ ∃ ad : Addr, q = some ad ∧ ∀ (j : Nat) u, vs[j]? = some u → w.cell? (ad.add j) = some u) := by
 obtain ⟨hf, ha⟩ := mv_ok h x hg; have nocase : ∀ {rows : List (List PV)}, rows = [] → FitR g e rows [] := fun h => by subst h; rfl
 unfold slOk at hs; split at hs
 ·rename_i nw e' rows hm; subst hs; rw [hm] at hf ⊢; obtain ⟨_, q, cap, hv, _, hr⟩ := hf; rcases hr with rfl | ⟨c, off, arr, T, fz, vs, rfl, h2, _, h3, h4⟩
  ·exact ⟨q, cap, [], hv, rfl, .inl rfl⟩
  ·refine ⟨_, cap, vs, hv, h3, .inr ⟨_, rfl, fun j u hj => ?_⟩⟩; rw [Addr.add_lit, cell_of (h.I _ _ h2)]; have := prefix_get h4 hj
   rwa [List.getElem?_drop, Array.getElem?_toList] at this
 ·rename_i v hm; rw [hm] at hf ⊢; have hv : a.eval x = v := hf.2; exact ⟨none, 0, [], by rw [hv, isNilSl_eq hs]; rfl, rfl, .inl rfl⟩
 ·rename_i p hm; rw [hm] at ha ⊢; split at hs
  ·rename_i nw e' rows hp; subst hs; obtain ⟨bl, hb⟩ := h.own; have hv := ha (by rw [hp]; rfl); have := pos_fit hb (p := p) (by rw [hp]; rfl); rw [hp] at this; simp only [rowsOf, hp]; rcases this with ⟨_, rfl, e1⟩ | ⟨c, _, cap, arr, T, vs, e1, e2, _, _, e5, e6, _⟩
   ·exact ⟨none, 0, [], by rw [hv, e1]; rfl, rfl, .inl rfl⟩
   ·refine ⟨_, cap, vs, by rw [hv, e1], e5, .inr ⟨_, rfl, fun j u hj => ?_⟩⟩; rw [Addr.add_lit, cell_of e2, Nat.zero_add, ← Array.getElem?_toList]; exact prefix_get e6 hj
  ·exact hs.elim
 ·rename_i p lo hi hm; rw [hm] at ha ⊢; split at hs
  ·rename_i nw e' rows hp; subst hs; obtain ⟨h1, h2, q, cap, hv, hc, hq⟩ := ha _ _ _ hp; obtain ⟨bl, hb⟩ := h.own; have := pos_fit hb (p := p) (by rw [hp]; rfl); rw [hp] at this; have hln : (rowsOf st (.loc p lo hi)).length = hi - lo := by simp only [rowsOf, hp, List.length_drop, List.length_take]; omega
   by_cases hlh : lo = hi
   ·have : rowsOf st (.loc p lo hi) = [] := List.eq_nil_of_length_eq_zero (by omega); exact ⟨q, cap, [], by rw [hv, hln], nocase this, .inl this⟩
   ·rcases hq with hq | ⟨c, n, cp, hpv, rfl⟩
    ·exact absurd hq hlh
    ·rcases this with ⟨_, rfl, e1⟩ | ⟨c', _, cap', arr, T, vs, e1, e2, _, _, e5, e6, _⟩
     ·simp at h2; omega
     ·rw [e1] at hpv; cases hpv; refine ⟨_, cap, (vs.take (hi * e')).drop (lo * e'), by rw [hv, hln], by simp only [rowsOf, hp]; exact e5.cut lo hi h1 h2, .inr ⟨_, rfl, fun j u hj => ?_⟩⟩; rw [Addr.add_lit, cell_of e2]; have := prefix_get (cut_prefix e6 (lo * e') (hi * e')) hj
      rwa [List.getElem?_drop, Array.getElem?_toList] at this
  ·exact hs.elim
 ·exact hs.elim
theorem run_append_zero {P : Program} (w : World) (t ty e : TypeId) (i : TypeInfo) (ht : P.underlying t = some (.slice e)) (hi : P.info? e = some i) (b : Option Addr) (n cap : Nat) (hn : n ≤ cap) (q : Option Addr) (c : Nat) :
 (Builtin.append_ #[t, t] ty #[.slice b n cap, .slice q 0 c]).run P w = .ok (.slice b n cap) w := by
 cases q with
 | none => cases b <;> simp [Builtin.append_, run_underlying ht, sizeOf, typeInfo, hi, Builtin.lenOf, hn, Builtin.firstCells, storeCells]
 | some q => cases b <;> simp [Builtin.append_, run_underlying ht, sizeOf, typeInfo, hi, Builtin.lenOf, hn, Builtin.firstCells, storeCells, loadCells, loadCellsFrom]
theorem run_append_in {P : Program} (w : World) (t ty e : TypeId) (i : TypeInfo) (ht : P.underlying t = some (.slice e)) (hi : P.info? e = some i)
 (c n cap : Nat) (T : TypeId) (arr : Array Value) (hc : w.heap[c]? = some (.cells arr T (0, 0))) (a : Addr) (m k : Nat) (news : List Value) (hl : news.length = m * i.size) (hnews : ∀ (j : Nat) u, news[j]? = some u → w.cell? (a.add j) = some u) (h1 : ∀ u ∈ news, u.oneCell' = true)
 (hroom : n + m ≤ cap) (hfit : n * i.size + news.length ≤ arr.size) :
 (Builtin.append_ #[t, t] ty #[.slice (some ⟨c, 0, none⟩) n cap, .slice (some a) m k]).run P w = .ok (.slice (some ⟨c, 0, none⟩) (n + m) cap) (w.setRow c (splice arr.toList (n * i.size) news).toArray) := by
 have hf := run_firstCells_some (P := P) w i.size m a m k news hl hnews; have hst := run_storeCells_at P c (n * i.size) T news 0 arr w hc (by simpa using hfit) h1; simp only [Nat.add_zero] at hst; simp [Builtin.append_, run_underlying ht, sizeOf, typeInfo, hi, Builtin.lenOf, hroom, hf, Addr.add_lit, hst, splice]
def slInfo (P : Program) (t : TypeId) : Option (Nat × Nat) :=
 match P.underlying t with
 | some (.slice el) => match P.info? el with
  | some i => match i.zero with
   | some z => if z.cells.size = i.size ∧ z.cells.toList.all (fun u => u.oneCell') = true then some (i.size, i.bytes) else none
   | none => none
  | none => none
 | _ => none
theorem slInfo_ok {P : Program} {t : TypeId} {e b : Nat} (h : slInfo P t = some (e, b)) : ∃ el i z, P.underlying t = some (.slice el) ∧ P.info? el = some i ∧ i.zero = some z ∧ i.size = e ∧ i.bytes = b ∧ z.cells.size = e ∧ ∀ u ∈ z.cells.toList, u.oneCell' = true := by
 unfold slInfo at h; split at h
 case h_2 => cases h
 rename_i el hu; split at h
 case h_2 => cases h
 rename_i i hi; split at h
 case h_2 => cases h
 rename_i z hz; split at h
 case isFalse => cases h
 rename_i hs; cases h; exact ⟨el, i, z, hu, hi, hz, rfl, rfl, hs.1, fun u hu => List.all_eq_true.1 hs.2 u hu⟩
theorem append_run {P : Program} {g : Gh} {w : World} {t ty : TypeId} {e b : Nat} (hi : slInfo P t = some (e, b)) (hb1 : 0 < b) {nw : Bool} {rows xr : List (List PV)} {v : Value} {o : Option Nat} (hB : g.B ≤ w.heap.size)
 (hv : SFit g w (.own nw e rows) v o) {q : Option Addr} {k : Nat} {news : List Value} (hx : FitR g e xr news) (hc : xr = [] ∨ ∃ ad : Addr, q = some ad ∧ ∀ (j : Nat) u, news[j]? = some u → w.cell? (ad.add j) = some u)
 (hbytes : (rows.length + xr.length) * b ≤ 140737488355328) :
 ∃ v' w' o', (Builtin.append_ #[t, t] ty #[v, .slice q xr.length k]).run P w = .ok v' w' ∧ envOf w' = envOf w ∧ w.heap.size ≤ w'.heap.size ∧ SFit g w' (.own nw e (rows ++ xr)) v' o' ∧
  (∀ c, c < w.heap.size → o' ≠ some c → w'.heap[c]? = w.heap[c]?) ∧ ∀ c, o' = some c → c < w'.heap.size ∧ (o = some c ∨ w.heap.size ≤ c) := by
 obtain ⟨el, i, z, hu, hinf, hz, rfl, rfl, hzs, hz1⟩ := slInfo_ok hi; have hzo : ∀ n, ∀ v ∈ (Builtin.zeroCells z.cells n).toList, v.oneCell' = true := fun n v hv => by
  simp only [Builtin.zeroCells, Array.toList_map, List.mem_map] at hv; obtain ⟨j, hj, rfl⟩ := hv; by_cases e : z.cells.size = 0
  ·rw [e] at hj; simp at hj
  ·have hlt : j % z.cells.size < z.cells.size := Nat.mod_lt _ (by omega); rw [getElem!_pos z.cells (j % z.cells.size) hlt]; exact hz1 _ (Array.getElem_mem_toList hlt)
 have hnl : news.length = xr.length * i.size := hx.length; have hsum : rows.length + xr.length ≤ 140737488355328 := by
  have : (rows.length + xr.length) * 1 ≤ (rows.length + xr.length) * i.bytes := Nat.mul_le_mul_left _ hb1; omega
 have h63 : ((rows.length + xr.length : Nat) : Int) ≤ 9223372036854775807 := by omega
 by_cases hm : xr = []
 ·subst hm; simp only [FitR] at hx; rcases hv with ⟨rfl, rfl, rfl⟩ | ⟨c, rfl, cap, arr, T, vs, rfl, e2, e3, e4, e5, e6, e7⟩
  ·exact ⟨_, w, none, run_append_zero w t ty el i hu hinf none 0 0 (Nat.le_refl _) q k, rfl, Nat.le_refl _, .inl ⟨rfl, rfl, rfl⟩, fun _ _ _ => rfl, fun c hc => by cases hc⟩
  ·refine ⟨_, w, some c, run_append_zero w t ty el i hu hinf _ _ cap e4.1 q k, rfl, Nat.le_refl _, .inr ⟨c, rfl, cap, arr, T, vs, by simp, e2, e3, by simpa using e4, by simpa using e5, e6, e7⟩, fun _ _ _ => rfl, fun c' hc' => ?_⟩; cases hc'; exact ⟨(Array.getElem?_eq_some_iff.1 e2).1, .inl rfl⟩
 ·have hm0 : 0 < xr.length := List.length_pos_iff.2 hm; rcases hc with hc | ⟨ad, rfl, hcell⟩
  ·exact absurd hc hm
  have fresh : ∀ (olds : List Value) (vs : List Value), FitR g i.size rows vs → olds = vs → ∀ cp, rows.length + xr.length ≤ cp → cp ≤ maxLen →
   SFit g (w.drew.alloc (.cells (olds.toArray ++ news.toArray ++ Builtin.zeroCells z.cells (cp - (rows.length + xr.length))) el)) (.own nw i.size (rows ++ xr)) (.slice (some ⟨w.heap.size, 0, none⟩) (rows.length + xr.length) cp) (some w.heap.size) := by
   intro olds vs hr ho cp hcp hmx; subst ho; have hol := hr.length; refine .inr ⟨w.heap.size, rfl, cp, _, el, olds ++ news, by rw [List.length_append], heap_alloc_new w.drew _, ?_, ⟨by rw [List.length_append]; exact hcp, hmx, by simpa only [Array.toList_append] using one_append (one_append hr.one hx.one) (hzo _)⟩, FitR.append hr hx, ?_, fun _ => hB⟩
   ·simp only [Array.size_append, List.size_toArray, size_zeroCells, hzs, hol, hnl, ← Nat.add_mul]; congr 1; omega
   ·refine ⟨(Builtin.zeroCells z.cells (cp - (rows.length + xr.length))).toList, by simp⟩
  have hge := grownCap_ge w (rows.length + xr.length); have hmx := fun old => grownCap_le_maxLen w (rows.length + xr.length) old el (by unfold maxLen; omega); have keep : ∀ (ob : Obj) (c : Nat), c < w.heap.size → (w.drew.alloc ob).heap[c]? = w.heap[c]? := fun ob c hc => heap_alloc_old w.drew ob hc; rcases hv with ⟨rfl, rfl, rfl⟩ | ⟨c, rfl, cap, arr, T, vs, rfl, e2, e3, e4, e5, e6, e7⟩
  ·have hr := run_append_nil (P := P) w t ty el i z hu hinf hz ad xr.length k news hnl hcell hm0 (by simpa using h63) (by simp only [List.length_nil, Nat.zero_add] at hbytes; omega); have hf := fresh [] [] rfl rfl (grownCap w xr.length 0 el) (by simpa using hge 0 el) (by simpa using hmx 0); simp only [List.nil_append, Array.empty_append, List.length_nil, Nat.zero_add] at hf; refine ⟨_, _, _, hr, rfl, by simp, by simpa using hf, fun c hc _ => keep _ c hc, fun c hc => ?_⟩; cases hc; exact ⟨by simp, .inr (Nat.le_refl _)⟩
  ·have hvl := e5.length; by_cases hroom : rows.length + xr.length ≤ cap
   ·have hfit : rows.length * i.size + news.length ≤ arr.size := by rw [hnl, e3, ← Nat.add_mul]; exact Nat.mul_le_mul_right _ hroom
    have hr := run_append_in (P := P) w t ty el i hu hinf c rows.length cap T arr e2 ad xr.length k news hnl hcell hx.one hroom hfit; refine ⟨_, w.setRow c (splice arr.toList (rows.length * i.size) news).toArray, some c, hr, rfl, by simp, .inr ⟨c, rfl, cap, _, T, vs ++ news, by simp, setRow_heap w c arr _ T _ e2, ?_, ⟨by simpa using hroom, e4.2.1, one_splice e4.2.2 hx.one _⟩, FitR.append e5 hx, ?_, e7⟩, fun c' _ hc' => setRow_other w c c' _ (fun ee => hc' (by rw [ee])), fun c' hc' => ?_⟩
    ·simp only [List.size_toArray]; rw [splice_length (by simpa using hfit)]; simpa using e3
    ·obtain ⟨r, hr'⟩ := e6; refine ⟨arr.toList.drop (rows.length * i.size + news.length), ?_⟩; simp only [splice]; rw [← hr', ← hvl, List.take_left']; rfl
    ·cases hc'; exact ⟨by simp; exact (Array.getElem?_eq_some_iff.1 e2).1, .inl rfl⟩
   ·have holds : ∀ (j : Nat) u, vs[j]? = some u → w.cell? ((⟨c, 0, none⟩ : Addr).add j) = some u := fun j u hj => by
     rw [Addr.add_lit, cell_of e2, Nat.zero_add, ← Array.getElem?_toList]; exact prefix_get e6 hj
    have hr := run_append_grow (P := P) w t ty el i z hu hinf hz ⟨c, 0, none⟩ rows.length cap vs hvl holds ad xr.length k news hnl hcell (by omega) h63 (growslice_fits (by omega) hbytes); refine ⟨_, _, _, hr, rfl, by simp, fresh vs vs e5 rfl (grownCap w (rows.length + xr.length) cap el) (hge cap el) (hmx cap), fun c' hc' _ => keep _ c' hc', fun c' hc' => ?_⟩; cases hc'; exact ⟨by simp, .inr (Nat.le_refl _)⟩
theorem append_own {P : Program} {st : St} (o : Oper) (t : TypeId) (s x : Operand) (d e b : Nat) (p : Pos) (nw : Bool) (rows : List (List PV)) (ho : o.op = .call { callee := .builtin .append, args := #[s, x], argTypes := #[t, t] }) (hd : o.dst = some d)
 (hi : slInfo P t = some (e, b)) (hb1 : 0 < b) (hgs : gc st s) (hs : mv st s = .al p) (hp : posGet st p = .own nw e rows) (hgx : gc st x) (hx : slOk st e (mv st x))
 (hbytes : (rows.length + (rowsOf st (mv st x)).length) * b ≤ 140737488355328) {N : Nat} (hN : d < N) :
 ∀ g a w, g.N = N → Sim g st a w → ∃ v w' g', (execOp a.eval o).run P w = .ok (.value v) w' ∧ g.to g' ∧
  Sim g' ⟨(d, .own nw e (rows ++ rowsOf st (mv st x))) :: killL (qSlot d) (setPos st p (.pv .bot)).t, (setPos st p (.pv .bot)).h⟩ (a.put o.dst v) w' := by
 intro g a w hg h; obtain ⟨bl, hb⟩ := h.own; have hown : (posGet st p).isOwn = true := by rw [hp]; rfl
 obtain ⟨_, has⟩ := mv_ok h s hgs; rw [hs] at has; have hfp := pos_fit hb hown; rw [hp] at hfp; obtain ⟨q, cap, news, hvx, hfx, hcx⟩ := slice_cells h hgx hx; obtain ⟨v', w', o', hr, hen, hsz, hf', hw', hc'⟩ := append_run (ty := o.type) (k := cap) hi hb1 h.B hfp hfx hcx hbytes; refine ⟨v', w', g, ?_, h.refl_to, ?_⟩
 ·simp only [execOp, ho, resolve, invoke, builtin, List.map_toArray, List.map_cons, List.map_nil, Sem.run_bind, Sem.run_pure, Result.andThen_ok, has hown, hvx, hr]
 ·obtain ⟨h1, bl', hb', _, _, h4⟩ := h.drop hb p; rw [hd]; exact h1.putOwn hb' (hg ▸ hN) hen hsz hw' hf' rfl (fun c hc => ⟨(hc' c hc).1, (hc' c hc).2.elim (fun e => h4 c e) (fun hge => h1.fresh hb' hge)⟩)
theorem append_nil {P : Program} {st : St} (o : Oper) (t : TypeId) (s x : Operand) (d e b : Nat) (u : Value) (ho : o.op = .call { callee := .builtin .append, args := #[s, x], argTypes := #[t, t] }) (hd : o.dst = some d)
 (hi : slInfo P t = some (e, b)) (hb1 : 0 < b) (hgs : gc st s) (hs : mv st s = .pv (.lit u)) (hu : isNilSl u = true) (hgx : gc st x) (hx : slOk st e (mv st x))
 (hbytes : (rowsOf st (mv st x)).length * b ≤ 140737488355328) {N : Nat} (hN : d < N) :
 ∀ g a w, g.N = N → Sim g st a w → ∃ v w' g', (execOp a.eval o).run P w = .ok (.value v) w' ∧ g.to g' ∧
  Sim g' ⟨(d, .own true e (rowsOf st (mv st x))) :: killL (qSlot d) st.t, st.h⟩ (a.put o.dst v) w' := by
 intro g a w hg h; obtain ⟨bl, hb⟩ := h.own; obtain ⟨hfs, _⟩ := mv_ok h s hgs; rw [hs] at hfs; have hvs : a.eval s = .slice none 0 0 := by have := hfs.2; rw [isNilSl_eq hu] at this; exact this
 obtain ⟨q, cap, news, hvx, hfx, hcx⟩ := slice_cells h hgx hx; obtain ⟨v', w', o', hr, hen, hsz, hf', hw', hc'⟩ := append_run (ty := o.type) (k := cap) (nw := true) (rows := []) (v := .slice none 0 0) (o := none) hi hb1 h.B (.inl ⟨rfl, rfl, rfl⟩) hfx hcx (by simpa using hbytes); refine ⟨v', w', g, ?_, h.refl_to, ?_⟩
 ·simp only [execOp, ho, resolve, invoke, builtin, List.map_toArray, List.map_cons, List.map_nil, Sem.run_bind, Sem.run_pure, Result.andThen_ok, hvs, hvx, hr]
 ·rw [hd]; exact h.putOwn hb (hg ▸ hN) hen hsz hw' (by simpa using hf') rfl (fun c hc => ⟨(hc' c hc).1, (hc' c hc).2.elim (fun e => by cases e) (fun hge => h.fresh hb hge)⟩)
end Go.AX

namespace Go.AX
/-! ### Views -/
def frzB (x : PV) (e n : Nat) : PV :=
 match x with
 | .iptr _ [cells] 0 k => if e = 1 ∧ k + n ≤ cells.length then .seq false 1 (((cells.drop k).take n).map fun y => [y]) else .bot
 | _ => .bot
mutual
def frzW (r : Nat → Nat → PV) : PV → PV
  | .bot => .bot
  | .lit v => .lit v
  | .agg xs => .agg (frzL r xs)
  | .tup xs => .tup (frzL r xs)
  | .seq _ e rows => .seq false e (frzR r rows)
  | .iptr e rows i k => .iptr e (frzR r rows) i k
  | .ptr b off => r b off
  | .bsl b e off n _ => frzB (r b off) e n
  | .fn f first cap => .fn f (frzL r first) (frzL r cap)
  | .amap _ es => .amap false (frzE r es)
  | .ifc t x => .ifc t (frzW r x)
def frzL (r : Nat → Nat → PV) : List PV → List PV
  | [] => []
  | x :: xs => frzW r x :: frzL r xs
def frzR (r : Nat → Nat → PV) : List (List PV) → List (List PV)
  | [] => []
  | x :: xs => frzL r x :: frzR r xs
def frzE (r : Nat → Nat → PV) : List (Int × PV) → List (Int × PV)
  | [] => []
  | (k, x) :: xs => (k, frzW r x) :: frzE r xs
end
theorem frzL_map (r : Nat → Nat → PV) : ∀ xs : List PV, frzL r xs = xs.map (frzW r)
 | [] => rfl
 | x :: xs => by simp [frzL, frzL_map r xs]
theorem frzR_map (r : Nat → Nat → PV) : ∀ xs : List (List PV), frzR r xs = xs.map (List.map (frzW r))
 | [] => rfl
 | x :: xs => by simp [frzR, frzR_map r xs, frzL_map]
def frzC (r : Nat → Nat → PV) : SV → PV
 | .pv x => frzW r x
 | .own _ e rows => .seq false e (frzR r rows)
 | .omap _ es => .amap false (frzE r es)
 | _ => .bot
def frzP (h : List (List SV)) : Nat → Nat → Nat → PV
 | 0, _, _ => .bot
 | n + 1, b, off => .iptr (h.getD b []).length [(h.getD b []).map (frzC (frzP h n))] 0 off
def snap (w : World) : Gh := { I := fun c => w.heap[c]?, F := fun _ => none, B := w.heap.size, μ := fun _ => 0, n := 0, n0 := 0, N := 0, env := envOf w }
theorem FitL.rows1 {g : Gh} : ∀ {xs : List PV} {vs : List Value}, FitL g xs vs → (∀ v ∈ vs, v.oneCell' = true) → FitR g 1 (xs.map fun y => [y]) vs
 | [], _, h, _ => h
 | x :: xs, _, ⟨v, r, h1, h2, h3⟩, ho => by
  subst h1; exact ⟨[v], r, rfl, ⟨rfl, fun u hu => ho u (by simp at hu; simp [hu])⟩, ⟨v, [], rfl, h2, rfl⟩, FitL.rows1 h3 fun u hu => ho u (List.mem_cons_of_mem _ hu)⟩
theorem frzB_ok {g : Gh} {x : PV} {e n cap : Nat} {q : Addr} (hx : Fit g x (.pointer (some q))) (hc : n ≤ cap) : Fit g (frzB x e n) (.slice (some q) n cap) := by
 unfold frzB; split
 ·rename_i e' cells k; split
  ·rename_i hk; obtain ⟨c, off, arr, T, fz, vs, h1, h2, ⟨v1, v2, rfl, h3, h4, h5⟩, h6⟩ := hx; have h5' : v2 = [] := h5; subst h5'; rw [List.append_nil] at h6; have hl := h4.length; have hlen : (((cells.drop k).take n).map fun y => [y]).length = n := by simp; omega
   refine ⟨_, cap, by rw [hlen], by rw [hlen]; exact hc, .inr ⟨c, off + k, arr, T, fz, (v1.drop k).take n, ?_, h2, fun h => (by cases h), ?_, ?_⟩⟩
   ·injection h1 with h1; rw [h1]; simp
   ·exact FitL.rows1 ((h4.drop k).take n) fun v hv => h3.2 v (List.mem_of_mem_drop (List.mem_of_mem_take hv))
   ·refine (List.take_prefix n _).trans ?_; rw [← List.drop_drop]; obtain ⟨r, hr⟩ := h6; rw [← hr, List.drop_append_of_le_length (by omega)]; exact ⟨r, rfl⟩
  ·trivial
 ·trivial
section
variable {g : Gh} {w : World} {r : Nat → Nat → PV}
mutual
theorem Fit.frz (hI : ∀ c o, g.I c = some o → w.heap[c]? = some o) (hr : ∀ b off, b < g.n → Fit (snap w) (r b off) (.pointer (some ⟨g.μ b, off, none⟩))) :
    ∀ (x : PV) (v : Value), Fit g x v → Fit (snap w) (frzW r x) v
  | .bot, _, _ => trivial
  | .lit _, _, h => h
  | .agg xs, v, ⟨vs, h1, h2⟩ => ⟨vs, h1, FitL.frz hI hr xs _ h2⟩
  | .tup xs, v, ⟨vs, h1, h2⟩ => ⟨vs, h1, FitL.frz hI hr xs _ h2⟩
  | .seq nw e rows, v, ⟨p, cap, h1, hc, h2⟩ => ⟨p, cap, by rw [h1, frzR_map, List.length_map], by rw [frzR_map, List.length_map]; exact hc, h2.imp (fun h => by rw [h]; rfl)
      fun ⟨c, off, arr, T, fz, vs, a, b, _, q1, q2⟩ => ⟨c, off, arr, T, fz, vs, a, hI _ _ b, fun hn => (by cases hn), FitR.frz hI hr e rows vs q1, q2⟩⟩
  | .iptr e rows i k, v, ⟨c, off, arr, T, fz, vs, a, b, q1, q2⟩ => ⟨c, off, arr, T, fz, vs, a, hI _ _ b, FitR.frz hI hr e rows vs q1, q2⟩
  | .ptr b off, v, ⟨h1, h2⟩ => by rw [h2]; exact hr b off h1
  | .bsl b e off n cap, v, ⟨h1, h2, h3⟩ => by rw [h3]; exact frzB_ok (hr b off h1) h2
  | .fn f first cap, v, ⟨a, b, h1, h2, h3⟩ => ⟨a, b, h1, FitL.frz hI hr first _ h2, FitL.frz hI hr cap _ h3⟩
  | .amap nw es, v, ⟨c, en, ck, a, b, _, q⟩ => ⟨c, en, ck, a, hI _ _ b, fun hn => (by cases hn), FitE.frz hI hr es _ q.1, q.2⟩
  | .ifc t x, v, ⟨y, h1, h2⟩ => ⟨y, h1, Fit.frz hI hr x y h2⟩
theorem FitL.frz (hI : ∀ c o, g.I c = some o → w.heap[c]? = some o) (hr : ∀ b off, b < g.n → Fit (snap w) (r b off) (.pointer (some ⟨g.μ b, off, none⟩))) :
    ∀ (xs : List PV) (vs : List Value), FitL g xs vs → FitL (snap w) (frzL r xs) vs
  | [], _, h => h
  | x :: xs, vs, ⟨v, r', h1, h2, h3⟩ => ⟨v, r', h1, Fit.frz hI hr x v h2, FitL.frz hI hr xs r' h3⟩
theorem FitR.frz (hI : ∀ c o, g.I c = some o → w.heap[c]? = some o) (hr : ∀ b off, b < g.n → Fit (snap w) (r b off) (.pointer (some ⟨g.μ b, off, none⟩))) (e : Nat) :
    ∀ (rows : List (List PV)) (vs : List Value), FitR g e rows vs → FitR (snap w) e (frzR r rows) vs
  | [], _, h => h
  | row :: rows, vs, ⟨v1, v2, h1, h2, h3, h4⟩ => ⟨v1, v2, h1, ⟨by rw [frzL_map, List.length_map]; exact h2.1, h2.2⟩, FitL.frz hI hr row v1 h3, FitR.frz hI hr e rows v2 h4⟩
theorem FitE.frz (hI : ∀ c o, g.I c = some o → w.heap[c]? = some o) (hr : ∀ b off, b < g.n → Fit (snap w) (r b off) (.pointer (some ⟨g.μ b, off, none⟩))) :
    ∀ (es : List (Int × PV)) (en : List MapEntry), FitE g es en → FitE (snap w) (frzE r es) en
  | [], _, h => h
  | (k, x) :: es, en, ⟨m, r', h1, h2, h3, h4⟩ => ⟨m, r', h1, h2, Fit.frz hI hr x m.val h3, FitE.frz hI hr es r' h4⟩
end
end
theorem SFit.frz {g : Gh} {w : World} {r : Nat → Nat → PV} (hI : ∀ c o, g.I c = some o → w.heap[c]? = some o) (hr : ∀ b off, b < g.n → Fit (snap w) (r b off) (.pointer (some ⟨g.μ b, off, none⟩)))
 {x : SV} {v : Value} {b : Option Nat} (h : SFit g w x v b) (hc : x.inCell = true) : Fit (snap w) (frzC r x) v := by
 cases x with
 | pv y => exact Fit.frz hI hr y v h.2
 | own nw e rows =>
  rcases h with ⟨_, rfl, rfl⟩ | ⟨c, _, cap, arr, T, vs, rfl, e2, e3, e4, e5, e6, e7⟩
  ·exact ⟨none, 0, rfl, Nat.le_refl _, .inl rfl⟩
  ·exact ⟨_, cap, by rw [frzR_map, List.length_map], by rw [frzR_map, List.length_map]; exact e4.1, .inr ⟨c, 0, arr, T, (0, 0), vs, rfl, e2, fun hn => (by cases hn), FitR.frz hI hr e rows vs e5, by simpa using e6⟩⟩
 | omap nw es =>
  obtain ⟨c, _, en, ck, rfl, e2, e3, e4⟩ := h; exact ⟨c, en, ck, rfl, e2, fun hn => (by cases hn), FitE.frz hI hr es _ e3, e4.2⟩
 | _ => cases hc
theorem frzP_ok {g : Gh} {st : St} {a : Act} {w : World} (h : Sim g st a w) : ∀ (n b off : Nat), b < g.n → Fit (snap w) (frzP st.h n b off) (.pointer (some ⟨g.μ b, off, none⟩))
 | 0, _, _, _ => trivial
 | n + 1, b, off, hb => by
  obtain ⟨bl, hbo⟩ := h.own; have hl : b < st.h.length := h.n ▸ hb; have hbe : st.h[b]? = some (st.h.getD b []) := by simp [List.getD, List.getElem?_eq_getElem hl]
  obtain ⟨arr, T, h1, ⟨h2, h2c⟩, h3⟩ := hbo.blocks b _ hbe; have ih := fun b' off' => frzP_ok h n b' off'; simp only [frzP]; generalize st.h.getD b [] = xs at *; have key : ∀ (ys : List SV) (us : List Value), ys.length = us.length → (∀ (j : Nat) (x : SV) (u : Value), ys[j]? = some x → us[j]? = some u → x.inCell = true ∧ ∃ b' : Option Nat, SFit g w x u b') → FitL (snap w) (ys.map (frzC (frzP st.h n))) us := by
   intro ys
   induction ys with
   | nil => intro us hu _; cases us with
    | nil => rfl
    | cons _ _ => simp at hu
   | cons y ys ih2 =>
    intro us hu hs; cases us with
    | nil => simp at hu
    | cons u us =>
     obtain ⟨h5, b', h6⟩ := hs 0 y u rfl rfl; exact ⟨u, us, rfl, SFit.frz h.I ih h6 h5, ih2 us (by simpa using hu) (fun j x v hx hv => hs (j + 1) x v (by simpa using hx) (by simpa using hv))⟩
  have hL := key xs arr.toList (by simpa using h2.symm) (fun j x u hx hu => by
   have := h3 j x hx; refine ⟨this.1, bl (.cell b j), ?_⟩; have e : arr.getD j undef = u := by rw [Array.getElem?_toList] at hu; simp [Array.getD_eq_getD_getElem?, hu]
   rw [← e]; exact this.2)
  refine ⟨g.μ b, 0, arr, T, (0, 0), arr.toList, by simp, h1, ⟨arr.toList, [], by simp, ⟨by simp, h2c⟩, hL, rfl⟩, by simp⟩
def vw (n : Nat) (st : St) (x : Operand) : PV :=
 match mv st x with
 | .pv y => frzW (frzP st.h n) y
 | .al p => frzC (frzP st.h n) (posGet st p)
 | .loc p lo hi => match posGet st p with
  | .own _ e rows => .seq false e (frzR (frzP st.h n) ((rows.take hi).drop lo))
  | _ => .bot
 | _ => .bot
def vwOk (st : St) (x : Operand) : Prop :=
 gc st x ∧ match mv st x with
 | .al p => (posGet st p).isOwn = true
 | _ => True
theorem vw_ok {g : Gh} {st : St} {a : Act} {w : World} (h : Sim g st a w) (n : Nat) (x : Operand) (hd : vwOk st x) : Fit (snap w) (vw n st x) (a.eval x) := by
 obtain ⟨hg, hd⟩ := hd; obtain ⟨hf, ha⟩ := mv_ok h x hg; have hr := frzP_ok h n; obtain ⟨bl, hb⟩ := h.own; unfold vw; split
 ·rename_i y hm; rw [hm] at hf; exact Fit.frz h.I hr y _ hf.2
 ·rename_i p hm; rw [hm] at ha hd; rw [ha hd]; exact SFit.frz h.I hr (pos_fit hb hd) (by cases hp : posGet st p <;> simp only [hp] at hd <;> first | rfl | cases hd)
 ·rename_i p lo hi hm; rw [hm] at ha; split
  ·rename_i nw e rows hp; obtain ⟨j1, j2, q, cap, hv, jc, hq⟩ := ha _ _ _ hp; have hfp := pos_fit hb (p := p) (by rw [hp]; rfl); rw [hp] at hfp; refine ⟨q, cap, by rw [hv, frzR_map, List.length_map, List.length_drop, List.length_take]; congr 1; omega, by rw [frzR_map]; simp; omega, ?_⟩; by_cases hlh : lo = hi
   ·left; subst hlh; rw [frzR_map]; simp
   ·right; rcases hq with hq | ⟨c, n', cp, hpv, rfl⟩
    ·exact absurd hq hlh
    ·rcases hfp with ⟨_, rfl, e1⟩ | ⟨c', _, cap', arr, T, vs, e1, e2, e3, e4, e5, e6, e7⟩
     ·simp at j2; omega
     ·rw [e1] at hpv; cases hpv; refine ⟨_, lo * e, arr, T, (0, 0), (vs.take (hi * e)).drop (lo * e), rfl, e2, fun hn => (by cases hn), FitR.frz h.I hr e _ _ (e5.cut lo hi j1 j2), cut_prefix e6 _ _⟩
  ·trivial
 ·trivial
/-! ### Values that lie in new memory -/
mutual
def PV.nw : PV → Prop
  | .bot => True
  | .lit _ => True
  | .agg xs => nwL xs
  | .tup xs => nwL xs
  | .seq n _ rows => (rows = [] ∨ n = true) ∧ nwR rows
  | .iptr _ _ _ _ => False
  | .ptr _ _ => False
  | .bsl _ _ _ _ _ => False
  | .fn _ first cap => nwL first ∧ nwL cap
  | .amap n es => n = true ∧ nwE es
  | .ifc _ x => x.nw
def nwL : List PV → Prop
  | [] => True
  | x :: xs => x.nw ∧ nwL xs
def nwR : List (List PV) → Prop
  | [] => True
  | x :: xs => nwL x ∧ nwR xs
def nwE : List (Int × PV) → Prop
  | [] => True
  | (_, x) :: xs => x.nw ∧ nwE xs
end
theorem nwR_iff : ∀ xs : List (List PV), nwR xs ↔ ∀ r ∈ xs, nwL r
 | [] => by simp [nwR]
 | x :: xs => by simp [nwR, nwR_iff xs]
section
variable {g g2 : Gh}
mutual
theorem Fit.new (hI : ∀ c o, g.I c = some o → g.B ≤ c → g2.I c = some o) (hB : g2.B ≤ g.B) : ∀ (x : PV) (v : Value), x.nw → Fit g x v → Fit g2 x v
  | .bot, _, _, _ => trivial
  | .lit _, _, _, h => h
  | .agg xs, v, hn, ⟨vs, h1, h2⟩ => ⟨vs, h1, FitL.new hI hB xs _ hn h2⟩
  | .tup xs, v, hn, ⟨vs, h1, h2⟩ => ⟨vs, h1, FitL.new hI hB xs _ hn h2⟩
  | .seq nw e rows, v, ⟨hn1, hn2⟩, ⟨p, cap, h1, hc, h2⟩ => ⟨p, cap, h1, hc, hn1.elim .inl fun hnw => h2.imp id
      fun ⟨c, off, arr, T, fz, vs, a, b, n, q1, q2⟩ => ⟨c, off, arr, T, fz, vs, a, hI _ _ b (n hnw), fun hn => Nat.le_trans hB (n hn), FitR.new hI hB e rows vs hn2 q1, q2⟩⟩
  | .iptr _ _ _ _, _, hn, _ => hn.elim
  | .ptr _ _, _, hn, _ => hn.elim
  | .bsl _ _ _ _ _, _, hn, _ => hn.elim
  | .fn f first cap, v, ⟨n1, n2⟩, ⟨a, b, h1, h2, h3⟩ => ⟨a, b, h1, FitL.new hI hB first _ n1 h2, FitL.new hI hB cap _ n2 h3⟩
  | .amap nw es, v, ⟨hn1, hn2⟩, ⟨c, en, ck, a, b, n, q⟩ => ⟨c, en, ck, a, hI _ _ b (n hn1), fun hn => Nat.le_trans hB (n hn), FitE.new hI hB es _ hn2 q.1, q.2⟩
  | .ifc t x, v, hn, ⟨y, h1, h2⟩ => ⟨y, h1, Fit.new hI hB x y hn h2⟩
theorem FitL.new (hI : ∀ c o, g.I c = some o → g.B ≤ c → g2.I c = some o) (hB : g2.B ≤ g.B) : ∀ (xs : List PV) (vs : List Value), nwL xs → FitL g xs vs → FitL g2 xs vs
  | [], _, _, h => h
  | x :: xs, vs, ⟨n1, n2⟩, ⟨v, r', h1, h2, h3⟩ => ⟨v, r', h1, Fit.new hI hB x v n1 h2, FitL.new hI hB xs r' n2 h3⟩
theorem FitR.new (hI : ∀ c o, g.I c = some o → g.B ≤ c → g2.I c = some o) (hB : g2.B ≤ g.B) (e : Nat) : ∀ (rows : List (List PV)) (vs : List Value), nwR rows → FitR g e rows vs → FitR g2 e rows vs
  | [], _, _, h => h
  | row :: rows, vs, ⟨n1, n2⟩, ⟨v1, v2, h1, h2, h3, h4⟩ => ⟨v1, v2, h1, h2, FitL.new hI hB row v1 n1 h3, FitR.new hI hB e rows v2 n2 h4⟩
theorem FitE.new (hI : ∀ c o, g.I c = some o → g.B ≤ c → g2.I c = some o) (hB : g2.B ≤ g.B) : ∀ (es : List (Int × PV)) (en : List MapEntry), nwE es → FitE g es en → FitE g2 es en
  | [], _, _, h => h
  | (k, x) :: es, en, ⟨n1, n2⟩, ⟨m, r', h1, h2, h3, h4⟩ => ⟨m, r', h1, h2, Fit.new hI hB x m.val n1 h3, FitE.new hI hB es r' n2 h4⟩
end
end
end Go.AX
