/-
  AX, part M: regions that draw their order: operations that change nothing there is, in any order; then a chain.
-/
import Derived.Test.YtipaihpchnlkfaaAxY
import Derived.Orders
namespace Go.AX

def memN : List Nat → Nat → Bool
  | [], _ => false
  | d :: ds, s => if d = s then true else memN ds s
theorem memN_iff : ∀ (ds : List Nat) (s : Nat), memN ds s = true ↔ s ∈ ds
  | [], s => by simp [memN]
  | d :: ds, s => by
    simp only [memN, List.mem_cons]
    by_cases h : d = s
    · subst h; simp
    · rw [if_neg h, memN_iff ds s]
      exact ⟨.inr, fun h' => h'.resolve_left (fun e => h e.symm)⟩
/-! ### What an operation looks at -/
def tmpOf : Operand → List Nat
  | .tmp t => [t]
  | _ => []
def tmpsOf : List Operand → List Nat
  | [] => []
  | x :: xs => tmpOf x ++ tmpsOf xs

def optmpOf : Option Operand → List Nat
  | some x => tmpOf x
  | none => []

def opTmps : Op → List Nat
  | .move x | .assign x | .load _ x | .nilCheck x | .unOp _ _ x | .convert _ _ x | .fieldAddr _ x _ | .field _ x _ | .extract x _ => tmpOf x
  | .pick c a b => tmpOf c ++ (tmpOf a ++ tmpOf b)
  | .build _ ps => tmpsOf (ps.toList.map (·.2))
  | .buildSlice _ _ ps => tmpsOf (ps.toList.map (·.2))
  | .binOp _ _ a v _ | .indexAddr _ a v | .index _ a v | .lookup _ a v _ => tmpOf a ++ tmpOf v
  | .slice _ x l h _ => tmpOf x ++ (optmpOf l ++ optmpOf h)
  | .call c => match c.callee with
    | .value x => tmpOf x ++ tmpsOf c.args.toList
    | _ => tmpsOf c.args.toList
  | _ => []

def looks (ops : List Oper) (o : Oper) : List Nat :=
  match o.guard with
  | none => opTmps o.op
  | some (j, _) => match gslot ops j with
    | some d => d :: opTmps o.op
    | none => opTmps o.op

/-- Is the slot looked at by none? -/
def unread (all : List Oper) (d : Nat) : Bool := all.all fun o => !(opTmps o.op).contains d

/-- Is a slice that is made in slot d only looked at, or appended? -/
def frzOk1 (d : Nat) (o : Oper) : Bool :=
  match o.op with
  | .buildSlice _ _ _ => true
  | .build _ _ => true
  | .call c => match c.callee with
    | .value _ => true
    | .builtin .append => match c.args.toList with
      | x :: _ => !memN (tmpOf x) d
      | [] => true
    | _ => true
  | .assign x => !memN (tmpOf x) d
  | .store _ _ y => !memN (tmpOf y) d
  | .box _ x => !memN (tmpOf x) d
  | .mapUpdate _ _ _ x => !memN (tmpOf x) d
  | _ => true
def frzOk (d : Nat) : List Oper → Bool
  | [] => true
  | o :: r => frzOk1 d o && frzOk d r

def preLenW (all : List Oper) : List Oper → Nat
  | [] => 0
  | o :: r => match o.op with
    | .assign _ => match o.dst with
      | some d => if unread all d = true then preLenW all r + 1 else 0
      | none => 0
    | .alloc _ => match o.dst, o.guard with
      | some d, none => if unread all d = true then preLenW all r + 1 else 0
      | _, _ => 0
    | .buildSlice _ _ _ => match o.dst with
      | some d => if frzOk d all = true then preLenW all r + 1 else 0
      | none => 0
    | .move _ | .load _ _ | .nilCheck _ | .unOp _ _ _ | .convert _ _ _ | .fieldAddr _ _ _ | .field _ _ _ | .extract _ _ | .pick _ _ _ | .build _ _ | .binOp _ _ _ _ _ | .indexAddr _ _ _ | .index _ _ _ | .lookup _ _ _ _ | .slice _ _ _ _ _ => preLenW all r + 1
    | .call c => match c.callee with
      | .value _ => preLenW all r + 1
      | .builtin .len => preLenW all r + 1
      | .builtin .min => preLenW all r + 1
      | .builtin .max => preLenW all r + 1
      | _ => 0
    | _ => 0

def preLen (ops : List Oper) : Nat := preLenW ops ops

def isAfter (o : Oper) (j : Nat) : Bool := o.after.toList.any fun e => Region.binds .any e && e.on == j

def drawB (ops : List Oper) (m : Nat) : Bool :=
  decide (m ≤ ops.length) &&
  (List.range ops.length).all (fun i => match ops[i]? with | some o => o.after.toList.all fun e => !Region.binds .any e || decide (e.on < i) | none => false) &&
  (List.range m).all (fun i => match ops[i]? with
    | some o => match o.dst with
      | some d => (List.range i).all fun j => match (ops[j]?).bind (·.dst) with
        | some dj => dj != d && (!(looks ops o).contains dj || isAfter o j)
        | none => false
      | none => false
    | none => false) &&
  (m == ops.length || (List.range m).all fun i => (List.range (m + 1)).any fun j => decide (i < j) && match ops[j]? with | some o => isAfter o i | none => false) &&
  (List.range ops.length).all fun k => !decide (m ≤ k) || match ops[k + 1]? with | some o => isAfter o k | none => true

/-! ### The walk of the first operations -/
def fnd : List (Nat × SV) → Nat → Option SV
  | [], _ => none
  | (j, v) :: r, s => if j = s then some v else fnd r s
def restr : List Nat → List (Nat × SV) → List (Nat × SV) → List (Nat × SV)
  | [], _, base => base
  | s :: L, acc, base => match fnd acc s with
    | some v => (s, v) :: restr L acc base
    | none => restr L acc base

def qDst (ds : List Nat) : Pos → Bool
  | .slot s => ds.contains s
  | .cell _ _ => false

/-- A result as it is kept: it owns nothing, and names no place of q. -/
def kq (q : Pos → Bool) : SV → SV
  | .own _ _ _ => .pv .bot
  | .omap _ _ => .pv .bot
  | .pv x => .pv x
  | .opt c x => killS q (.opt c x)
  | .al p => killS q (.al p)
  | .loc p lo hi => killS q (.loc p lo hi)
  | .sptr p i k => killS q (.sptr p i k)

theorem kq_cases (q : Pos → Bool) (x : SV) : (kq q x).isOwn = false ∧ (kq q x = .pv .bot ∨ (kq q x = x ∧ x.avoids q)) := by
  cases x with
  | own _ _ _ => exact ⟨rfl, .inl rfl⟩
  | omap _ _ => exact ⟨rfl, .inl rfl⟩
  | pv x => exact ⟨rfl, .inr ⟨rfl, trivial⟩⟩
  | opt c y =>
    refine ⟨?_, killS_cases q (.opt c y)⟩
    cases h : (kq q (.opt c y)).isOwn with
    | false => rfl
    | true => simp only [kq] at h; have := killS_own h; rw [this] at h; cases h
  | al p =>
    refine ⟨?_, killS_cases q (.al p)⟩
    cases h : (kq q (.al p)).isOwn with
    | false => rfl
    | true => simp only [kq] at h; have := killS_own h; rw [this] at h; cases h
  | loc p lo hi =>
    refine ⟨?_, killS_cases q (.loc p lo hi)⟩
    cases h : (kq q (.loc p lo hi)).isOwn with
    | false => rfl
    | true => simp only [kq] at h; have := killS_own h; rw [this] at h; cases h
  | sptr p lo hi =>
    refine ⟨?_, killS_cases q (.sptr p lo hi)⟩
    cases h : (kq q (.sptr p lo hi)).isOwn with
    | false => rfl
    | true => simp only [kq] at h; have := killS_own h; rw [this] at h; cases h

def bots (ds : List Nat) : List (Nat × SV) → List (Nat × SV)
  | [] => []
  | (s, v) :: t => if memN ds s = true then bots ds t else (s, v) :: bots ds t

def QG (P : Program) (ops : List Oper) (st : St) (o : Oper) (r : SV) : Prop :=
  match o.guard with
  | none => QE P st o.op r
  | some (j, want) => match gslot ops j with
    | some d => match gcond st d want with
      | some Gd => ∃ r0, r = .opt Gd r0 ∧ (Gd → QE P st o.op r0)
      | none => False
    | none => False

def HG (P : Program) (ops : List Oper) (st : St) (o : Oper) (r : SV) : Prop :=
  match alOf o with
  | some _ => o.guard = none ∧ r = .pv .bot
  | none => QG P ops st o r

/-- Calls: what is left to say. -/
def CallQ0 (P : Program) (f : FuncId) (pa : List PV) (d : Nat) (acc : List (Nat × SV)) (k : List (Nat × SV) → Prop) : Prop :=
  ∃ r, APure P f pa (fun r' => r' = r) ∧ r.nwS ∧ k ((d, .pv (frzS r)) :: acc)
def CallQ (P : Program) (Gd : Prop) (f : FuncId) (pa : List PV) (q : Pos → Bool) (d : Nat) (acc : List (Nat × SV)) (k : List (Nat × SV) → Prop) : Prop :=
  ∃ r, (Gd → APure P f pa (fun r' => r' = r)) ∧ r.nwS ∧ k ((d, kq q (.opt Gd (.pv (frzS r)))) :: acc)
theorem CallQ0.intro {P : Program} {f : FuncId} {pa : List PV} {d : Nat} {acc : List (Nat × SV)} {k : List (Nat × SV) → Prop} {r : SV} (h : APure P f pa (fun r' => r' = r)) (hn : r.nwS) (hK : k ((d, .pv (frzS r)) :: acc)) : CallQ0 P f pa d acc k := ⟨r, h, hn, hK⟩
theorem CallQ.intro {P : Program} {Gd : Prop} {f : FuncId} {pa : List PV} {q : Pos → Bool} {d : Nat} {acc : List (Nat × SV)} {k : List (Nat × SV) → Prop} {r : SV} (h : Gd → APure P f pa (fun r' => r' = r)) (hn : r.nwS) (hK : k ((d, kq q (.opt Gd (.pv (frzS r)))) :: acc)) : CallQ P Gd f pa q d acc k := ⟨r, h, hn, hK⟩

def callQ0 (P : Program) (st : St) (x : Operand) (args : Array Operand) (d : Nat) (acc : List (Nat × SV)) (k : List (Nat × SV) → Prop) : Prop :=
  match calleeOf st x with
  | some (f, p, q) => gc st x ∧ vwOkL st args.toList ∧ CallQ0 P f (viewsOf st args p q) d acc k
  | none => False
def callQ (P : Program) (st : St) (Gd : Prop) (x : Operand) (args : Array Operand) (qq : Pos → Bool) (d : Nat) (acc : List (Nat × SV)) (k : List (Nat × SV) → Prop) : Prop :=
  match calleeOf st x with
  | some (f, p, q) => (Gd → gc st x ∧ vwOkL st args.toList) ∧ CallQ P Gd f (viewsOf st args p q) qq d acc k
  | none => False

theorem callQ0_ok {P : Program} {st : St} {c : Call} {x : Operand} {d : Nat} {acc : List (Nat × SV)} {k : List (Nat × SV) → Prop} (q : Pos → Bool) (hc : c.callee = .value x) (h : callQ0 P st x c.args d acc k) : ∃ r, QE P st (.call c) r ∧ k ((d, kq q r) :: acc) := by
  unfold callQ0 at h
  split at h
  · rename_i f p q' hce
    obtain ⟨h0, h1, r, h2, h3, h4⟩ := h
    refine ⟨.pv (frzS r), ?_, h4⟩
    simp only [QE, hc, hce]
    exact ⟨h0, h1, _, h2, fun r' hr' => by subst hr'; exact ⟨h3, rfl⟩⟩
  · exact h.elim

theorem callQ_ok {P : Program} {st : St} {Gd : Prop} {c : Call} {x : Operand} {q : Pos → Bool} {d : Nat} {acc : List (Nat × SV)} {k : List (Nat × SV) → Prop} (hc : c.callee = .value x) (h : callQ P st Gd x c.args q d acc k) : ∃ r, (Gd → QE P st (.call c) r) ∧ k ((d, kq q (.opt Gd r)) :: acc) := by
  unfold callQ at h
  split at h
  · rename_i f p q' hce
    obtain ⟨h1, r, h2, h3, h4⟩ := h
    refine ⟨.pv (frzS r), fun hg => ?_, h4⟩
    simp only [QE, hc, hce]
    exact ⟨(h1 hg).1, (h1 hg).2, _, h2 hg, fun r' hr' => by subst hr'; exact ⟨h3, rfl⟩⟩
  · exact h.elim

/-- The walk, with results made known one by one. -/
def AQs (P : Program) (ops : List Oper) (q : Pos → Bool) (base : St) (o : Oper) (k : List (Nat × SV) → Prop) (acc : List (Nat × SV)) : Prop :=
  match o.dst with
    | none => False
    | some d => match alOf o with
     | some _ => o.guard = none ∧ k ((d, .pv .bot) :: acc)
     | none => match o.guard with
      | none => match o.op with
        | .call c => match c.callee with
          | .value x => callQ0 P ⟨restr (looks ops o) acc base.t, base.h⟩ x c.args d acc k
          | _ => (popQ P ⟨restr (looks ops o) acc base.t, base.h⟩ (.call c)).2 ∧ k ((d, kq q (popQ P ⟨restr (looks ops o) acc base.t, base.h⟩ (.call c)).1) :: acc)
        | op => (popQ P ⟨restr (looks ops o) acc base.t, base.h⟩ op).2 ∧ k ((d, kq q (popQ P ⟨restr (looks ops o) acc base.t, base.h⟩ op).1) :: acc)
      | some (j, want) => match gslot ops j with
        | some dj => match gcond ⟨restr (looks ops o) acc base.t, base.h⟩ dj want with
          | some Gd => match o.op with
            | .call c => match c.callee with
              | .value x => callQ P ⟨restr (looks ops o) acc base.t, base.h⟩ Gd x c.args q d acc k
              | _ => (Gd → (popQ P ⟨restr (looks ops o) acc base.t, base.h⟩ (.call c)).2) ∧ k ((d, kq q (.opt Gd (popQ P ⟨restr (looks ops o) acc base.t, base.h⟩ (.call c)).1)) :: acc)
            | op => (Gd → (popQ P ⟨restr (looks ops o) acc base.t, base.h⟩ op).2) ∧ k ((d, kq q (.opt Gd (popQ P ⟨restr (looks ops o) acc base.t, base.h⟩ op).1)) :: acc)
          | none => False
        | none => False

def AQ (P : Program) (ops : List Oper) (q : Pos → Bool) (base : St) (K : List (Nat × SV) → Prop) : List Oper → List (Nat × SV) → Prop
  | [], acc => K acc
  | o :: rest, acc => AQs P ops q base o (AQ P ops q base K rest) acc

def dstsOf (l : List Oper) : List Nat := l.filterMap (·.dst)

/-- Behind the first operations. -/
def ADrawK (P : Program) (ops : List Oper) (K : St → Prop) (base : St) (acc : List (Nat × SV)) : Prop :=
  alK P (AOps P ops K (ops.drop (preLen ops))) (ops.take (preLen ops)) ⟨acc ++ base.t, base.h⟩

def ADraw (P : Program) (ops : List Oper) (K : St → Prop) (st : St) : Prop :=
  AQ P ops (qDst (dstsOf (ops.take (preLen ops)))) ⟨bots (dstsOf (ops.take (preLen ops))) (killL (qDst (dstsOf (ops.take (preLen ops)))) st.t), st.h⟩
    (ADrawK P ops K ⟨bots (dstsOf (ops.take (preLen ops))) (killL (qDst (dstsOf (ops.take (preLen ops)))) st.t), st.h⟩) (ops.take (preLen ops)) []

/-- What the walk shows. -/
theorem AQ_cons {P : Program} {ops : List Oper} {q : Pos → Bool} {base : St} {K : List (Nat × SV) → Prop} {o : Oper} {rest : List Oper} {acc : List (Nat × SV)} (h : AQ P ops q base K (o :: rest) acc) :
    ∃ d r, o.dst = some d ∧ HG P ops ⟨restr (looks ops o) acc base.t, base.h⟩ o r ∧ AQ P ops q base K rest ((d, kq q r) :: acc) := by
  unfold AQ AQs at h
  split at h
  · exact h.elim
  · rename_i d hd
    generalize hst : (⟨restr (looks ops o) acc base.t, base.h⟩ : St) = rst at h ⊢
    split at h
    · rename_i hal; exact ⟨d, .pv .bot, hd, by simp only [HG, hal]; exact ⟨h.1, trivial⟩, h.2⟩
    rename_i hal
    simp only [HG, hal]
    split at h
    · rename_i hg
      simp only [QG, hg]
      split at h
      · rename_i c hop
        split at h
        · rename_i x hx; obtain ⟨r, h1, h2⟩ := callQ0_ok q hx h; exact ⟨d, r, hd, by rw [hop]; exact h1, h2⟩
        · rename_i hn
          exact ⟨d, _, hd, by rw [hop]; exact QE_of_pop (fun c' x hc hx => by cases hc; exact hn x hx) h.1, h.2⟩
      · rename_i hn
        exact ⟨d, _, hd, QE_of_pop (fun c' x hc _ => hn c' hc) h.1, h.2⟩
    · rename_i j want hg
      split at h
      · rename_i dj hgs
        split at h
        · rename_i Gd hc
          simp only [QG, hg, hgs, hc]
          split at h
          · rename_i c hop
            split at h
            · rename_i x hx; obtain ⟨r, h1, h2⟩ := callQ_ok hx h; exact ⟨d, _, hd, ⟨r, rfl, by rw [hop]; exact h1⟩, h2⟩
            · rename_i hn
              exact ⟨d, _, hd, ⟨_, rfl, fun hG => by rw [hop]; exact QE_of_pop (fun c' x hc hx => by cases hc; exact hn x hx) (h.1 hG)⟩, h.2⟩
          · rename_i hn
            exact ⟨d, _, hd, ⟨_, rfl, fun hG => QE_of_pop (fun c' x hc _ => hn c' hc) (h.1 hG)⟩, h.2⟩
        · exact h.elim
      · exact h.elim

/-- All the results. -/
theorem AQ_all {P : Program} {ops : List Oper} {q : Pos → Bool} {base : St} {K : List (Nat × SV) → Prop} : ∀ (l : List Oper) (acc : List (Nat × SV)), AQ P ops q base K l acc →
    ∃ E : List (Nat × SV), E.length = l.length ∧ K (E.reverse ++ acc) ∧ ∀ i o, l[i]? = some o → ∃ d r, o.dst = some d ∧ E[i]? = some (d, kq q r) ∧ HG P ops ⟨restr (looks ops o) ((E.take i).reverse ++ acc) base.t, base.h⟩ o r
  | [], acc, h => ⟨[], rfl, h, fun i o ho => by simp at ho⟩
  | o :: rest, acc, h => by
    obtain ⟨d, r, hd, hq, hr⟩ := AQ_cons h
    obtain ⟨E, h1, h2, h3⟩ := AQ_all rest _ hr
    refine ⟨(d, kq q r) :: E, by simp [h1], by simpa using h2, fun i o' ho => ?_⟩
    cases i with
    | zero => simp at ho; subst ho; exact ⟨d, r, hd, rfl, by simpa using hq⟩
    | succ i =>
      obtain ⟨d', r', e1, e2, e3⟩ := h3 i o' (by simpa using ho)
      exact ⟨d', r', e1, by simpa using e2, by simpa using e3⟩

/-- Soundness of one. -/
theorem QG_ok {P : Program} {ops : Array Oper} {st : St} (o : Oper) {r : SV} (h : QG P ops.toList st o r) {g : Gh} {a : Act} {w : World} (hs : Sim g st a w) {K' : Act → World → Prop} {Q : Exit → Act → World → Prop}
    (hK : ∀ v J w2, (∀ c o, g.I c = some o → J c = some o) → (∀ g3 st3, g3.I = g.I → Sim g3 st3 a w → Sim { g3 with I := J } st3 a w2 ∧ g3.to { g3 with I := J }) → SFit { g with I := J } w2 r v none → AlOk { g with I := J } st a w2 r v → K' (a.put o.dst v) w2) :
    if Region.wanted o (yielded ops a.tmps) = true then o.wp P a w K' Q else K' (a.put o.dst undef) w := by
  unfold QG at h
  split at h
  · rename_i hg
    rw [if_pos (by simp [Region.wanted, hg])]
    exact QE_wp o h hs hK
  · rename_i j want hg
    split at h
    · rename_i d hgs
      split at h
      · rename_i Gd hc
        obtain ⟨r0, rfl, h⟩ := h
        have hw := wanted_iff hs hg hgs hc
        split
        · rename_i hh
          have hG := hw.1 hh
          exact QE_wp o (h hG) hs fun v J w2 t2 s2 f2 a2 => hK v J w2 t2 s2 (SFit.opt hG f2) (fun _ => a2)
        · rename_i hh
          have hG : ¬ Gd := fun hG => hh (hw.2 hG)
          exact hK undef g.I w (fun _ _ h => h) (fun g3 st3 h3 hs3 => by rw [← h3]; exact ⟨hs3, hs3.refl_to⟩) (SFit.undef hG r0) (fun hc => absurd hc hG)
      · exact h.elim
    · exact h.elim

theorem fnd_some {s : Nat} {v : SV} : ∀ (acc base : List (Nat × SV)), fnd acc s = some v → look (acc ++ base) s = v
  | [], _, h => by cases h
  | (j, x) :: r, base, h => by
    simp only [fnd] at h
    simp only [List.cons_append, look]
    split at h
    · rename_i e; rw [if_pos e]; cases h; rfl
    · rename_i e; rw [if_neg e]; exact fnd_some r base h
theorem fnd_none {s : Nat} : ∀ (acc base : List (Nat × SV)), fnd acc s = none → look (acc ++ base) s = look base s
  | [], _, _ => rfl
  | (j, x) :: r, base, h => by
    simp only [fnd] at h
    simp only [List.cons_append, look]
    split at h
    · cases h
    · rename_i e; rw [if_neg e]; exact fnd_none r base h
theorem look_restr : ∀ (L : List Nat) (acc base : List (Nat × SV)) (s : Nat), look (restr L acc base) s = if L.contains s = true then look (acc ++ base) s else look base s
  | [], acc, base, s => by simp [restr]
  | j :: L, acc, base, s => by
    have ih := look_restr L acc base s
    have hc : (j :: L).contains s = true ↔ s = j ∨ L.contains s = true := by simp
    simp only [restr]
    cases hf : fnd acc j with
    | some v =>
      simp only [look]
      by_cases h : j = s
      · subst h; rw [if_pos rfl, if_pos (hc.2 (.inl rfl)), fnd_some acc base hf]
      · rw [if_neg h, ih]
        by_cases h2 : L.contains s = true
        · rw [if_pos h2, if_pos (hc.2 (.inr h2))]
        · rw [if_neg h2, if_neg (fun hh => (hc.1 hh).elim (fun e => h e.symm) h2)]
    | none =>
      simp only []
      rw [ih]
      by_cases h : j = s
      · subst h; rw [if_pos (hc.2 (.inl rfl)), fnd_none acc base hf, ite_self]
      · by_cases h2 : L.contains s = true
        · rw [if_pos h2, if_pos (hc.2 (.inr h2))]
        · rw [if_neg h2, if_neg (fun hh => (hc.1 hh).elim (fun e => h e.symm) h2)]

theorem look_bots (ds : List Nat) : ∀ (t : List (Nat × SV)) (s : Nat), look (bots ds t) s = if s ∈ ds then .pv .bot else look t s
  | [], s => by simp [bots, look]
  | (j, v) :: t, s => by
    have ih := look_bots ds t s
    simp only [bots]
    split
    · rename_i h
      rw [ih]
      simp only [look]
      by_cases e : j = s
      · subst e; rw [if_pos ((memN_iff ds j).1 h), if_pos ((memN_iff ds j).1 h)]
      · rw [if_neg e]
    · rename_i h
      simp only [look]
      by_cases e : j = s
      · subst e; rw [if_pos rfl, if_neg (fun hh => h ((memN_iff ds j).2 hh)), if_pos rfl]
      · rw [if_neg e, if_neg e, ih]

/-! ### What the check says -/
structure DrawOk (l : List Oper) (m : Nat) : Prop where
  le : m ≤ l.length
  back : ∀ (i : Nat) (o : Oper), l[i]? = some o → ∀ e ∈ o.after, Region.binds .any e = true → e.on < i
  dst : ∀ (i : Nat) (o : Oper), i < m → l[i]? = some o → ∃ d, o.dst = some d ∧ ∀ (j : Nat) (oj : Oper), j < i → l[j]? = some oj → ∃ dj, oj.dst = some dj ∧ dj ≠ d ∧ (dj ∈ looks l o → isAfter o j = true)
  up : m < l.length → ∀ i, i < m → ∃ j o, i < j ∧ j ≤ m ∧ l[j]? = some o ∧ isAfter o i = true
  chain : ∀ (k : Nat) (o : Oper), m ≤ k → l[k + 1]? = some o → isAfter o k = true

theorem drawB_ok {l : List Oper} {m : Nat} (h : drawB l m = true) : DrawOk l m := by
  simp only [drawB, Bool.and_eq_true, List.all_eq_true, List.mem_range, Bool.or_eq_true, decide_eq_true_iff, Bool.not_eq_true', List.any_eq_true, beq_iff_eq] at h
  obtain ⟨⟨⟨⟨h1, h2⟩, h3⟩, h4⟩, h5⟩ := h
  have hlt : ∀ {i : Nat} {o : Oper}, l[i]? = some o → i < l.length := fun hh => (List.getElem?_eq_some_iff.1 hh).1
  refine ⟨h1, fun i o ho e he hb => ?_, fun i o hi ho => ?_, fun hm i hi => ?_, fun k o hk ho => ?_⟩
  · have := h2 i (hlt ho)
    rw [ho] at this
    simp only [List.all_eq_true, Bool.or_eq_true, Bool.not_eq_true', decide_eq_true_iff] at this
    rcases this e (by simpa using he) with h6 | h6
    · rw [h6] at hb; cases hb
    · exact h6
  · have := h3 i hi
    rw [ho] at this
    simp only at this
    split at this
    · rename_i d hd
      refine ⟨d, hd, fun j oj hj hoj => ?_⟩
      simp only [List.all_eq_true, List.mem_range] at this
      have h6 := this j hj
      rw [hoj] at h6
      simp only [Option.bind_some] at h6
      split at h6
      · rename_i dj hdj
        simp only [Bool.and_eq_true, bne_iff_ne, Bool.or_eq_true, Bool.not_eq_true', List.contains_eq_mem, decide_eq_false_iff_not] at h6
        exact ⟨dj, hdj, h6.1, fun hm => h6.2.resolve_left (fun hn => hn hm)⟩
      · cases h6
    · cases this
  · rcases h4 with h4 | h4
    · omega
    · obtain ⟨j, hj1, hj2, hj3⟩ := h4 i hi
      split at hj3
      · rename_i o ho
        exact ⟨j, o, hj2, by omega, ho, hj3⟩
      · cases hj3
  · rcases h5 k (by have := hlt ho; omega) with h6 | h6
    · have h7 := of_decide_eq_false h6; omega
    · rw [ho] at h6; exact h6

theorem isAfter_iff {o : Oper} {j : Nat} : isAfter o j = true ↔ ∃ e ∈ o.after, Region.binds .any e = true ∧ e.on = j := by
  simp only [isAfter, List.any_eq_true, Bool.and_eq_true, beq_iff_eq]
  constructor
  · rintro ⟨e, h1, h2⟩; exact ⟨e, by simpa using h1, h2⟩
  · rintro ⟨e, h1, h2⟩; exact ⟨e, by simpa using h1, h2⟩

/-! ### How many are to come -/
def cntF : List Bool → Nat
  | [] => 0
  | true :: r => cntF r
  | false :: r => cntF r + 1

theorem cntF_set : ∀ (l : List Bool) (i : Nat), l[i]? = some false → cntF (l.set i true) + 1 = cntF l
  | [], i, h => by simp at h
  | b :: r, 0, h => by simp at h; subst h; rfl
  | b :: r, i + 1, h => by
    have := cntF_set r i (by simpa using h)
    cases b <;> simp [cntF, this]

theorem cntF_pos : ∀ (l : List Bool), 0 < cntF l → ∃ i : Nat, l[i]? = some false ∧ ∀ j < i, l[j]? = some true
  | [], h => by simp [cntF] at h
  | false :: r, _ => ⟨0, rfl, fun j hj => by omega⟩
  | true :: r, h => by
    obtain ⟨i, h1, h2⟩ := cntF_pos r (by simpa [cntF] using h)
    refine ⟨i + 1, by simpa using h1, fun j hj => ?_⟩
    cases j with
    | zero => rfl
    | succ j => simpa using h2 j (by omega)

theorem cntF_zero : ∀ (l : List Bool), cntF l = 0 → ∀ i : Nat, i < l.length → l[i]? = some true
  | [], _, i, hi => by simp at hi
  | false :: r, h, _, _ => by simp [cntF] at h
  | true :: r, h, 0, _ => rfl
  | true :: r, h, i + 1, hi => by simpa using cntF_zero r (by simpa [cntF] using h) i (by simpa using hi)

theorem cntF_replicate : ∀ n, cntF (List.replicate n false) = n
  | 0 => rfl
  | n + 1 => by simp [List.replicate_succ, cntF, cntF_replicate n]

end Go.AX
