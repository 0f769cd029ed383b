/-
  AX, part L: runs of operations.
-/
import Derived.Test.YtipaihpchnlkfaaAxK
namespace Go.AX

theorem SFit.undef {g : Gh} {w : World} {c : Prop} (h : ¬ c) (r : SV) : SFit g w (.opt c r) Go.undef none := ⟨rfl, fun _ => rfl, fun hc => absurd hc h⟩

theorem SFit.opt {g : Gh} {w : World} {c : Prop} (h : c) {r : SV} {v : Value} (hf : SFit g w r v none) : SFit g w (.opt c r) v none := ⟨rfl, fun hn => absurd h hn, fun _ => hf⟩

/-- Under a guard: no two ways. -/
def AGq (P : Program) (st : St) (Gd : Prop) (o : Op) (d : Option Tmp) (K : St → Prop) : Prop :=
  ∃ r, (Gd → QE P st o r) ∧ K (putD d (.opt Gd r) st)
/-- The same, of an operation that is no call. -/
def AGp (P : Program) (st : St) (Gd : Prop) (o : Op) (d : Option Tmp) (K : St → Prop) : Prop :=
  (Gd → (pop P st o).2) ∧ K (putD d (.opt Gd (pop P st o).1) st)
/-- Under a guard: two ways. -/
def AGs (P : Program) (st : St) (Gd : Prop) (o : Op) (d : Option Tmp) (K : St → Prop) : Prop :=
  (Gd → AE P st o d K) ∧ (¬ Gd → K (putD d (.pv (.lit undef)) st))

/-- The arguments' views. -/
def viewsOf (st : St) (args : Array Operand) (p q : List PV) : List PV := frzL (frzP st.h 3) p ++ (vwA 3 st args.toList ++ frzL (frzP st.h 3) q)

/-- A call under a guard: what is left to say. -/
def CallG (P : Program) (st : St) (Gd : Prop) (f : FuncId) (pa : List PV) (d : Option Tmp) (K : St → Prop) : Prop :=
  ∃ r, (Gd → APure P f pa (fun r' => r' = r)) ∧ r.nwS ∧ K (putD d (.opt Gd (.pv (frzS r))) st)

def callG (P : Program) (st : St) (Gd : Prop) (x : Operand) (args : Array Operand) (d : Option Tmp) (K : St → Prop) : Prop :=
  match calleeOf st x with
  | some (f, p, q) => (Gd → gc st x ∧ vwOkL st args.toList) ∧ CallG P st Gd f (viewsOf st args p q) d K
  | none => False

theorem callG_q {P : Program} {st : St} {Gd : Prop} {c : Call} {x : Operand} {d : Option Tmp} {K : St → Prop} (hc : c.callee = .value x) (h : callG P st Gd x c.args d K) : AGq P st Gd (.call c) d K := by
  unfold callG at h
  split at h
  · rename_i f p q hce
    obtain ⟨h1, r, h2, h3, h4⟩ := h
    refine ⟨_, fun hg => ?_, h4⟩
    simp only [QE, hc, hce]
    exact ⟨(h1 hg).1, (h1 hg).2, _, h2 hg, fun r' hr' => by subst hr'; exact ⟨h3, rfl⟩⟩
  · exact h.elim

theorem CallG.intro {P : Program} {st : St} {Gd : Prop} {f : FuncId} {pa : List PV} {d : Option Tmp} {K : St → Prop} {r : SV} (h : Gd → APure P f pa (fun r' => r' = r)) (hn : r.nwS) (hK : K (putD d (.opt Gd (.pv (frzS r))) st)) : CallG P st Gd f pa d K := ⟨r, h, hn, hK⟩

theorem CallK.intro {P : Program} {st : St} {ok : Prop} {f : FuncId} {pa : List PV} {d : Option Tmp} {K : St → Prop} {r : SV} (h : APure P f pa (fun r' => r' = r)) (hn : r.nwS) (hK : K (putR d r st)) : CallK P st ok f pa d K :=
  .inl ⟨_, h, fun r' hr' => by subst hr'; exact ⟨hn, hK⟩⟩
theorem CallK.introR {P : Program} {st : St} {ok : Prop} {f : FuncId} {pa : List PV} {d : Option Tmp} {K : St → Prop} {R : SV → Prop} (h : APure P f pa R) (hK : ∀ r, R r → r.nwS ∧ K (putR d r st)) : CallK P st ok f pa d K := .inl ⟨_, h, hK⟩
/-- A call that makes blocks. -/
theorem CallK.introM {P : Program} {st : St} {ok : Prop} {f : FuncId} {pa : List PV} {d : Option Tmp} {K : St → Prop} {R : SV → List (List SV) → Prop} (h : AMut P f pa st.h R) (hok : ok) (hK : ∀ r h', R r h' → K (putR d r ⟨killL qCell st.t, h'⟩)) : CallK P st ok f pa d K := .inr ⟨hok, R, h, hK⟩

def ptrCallX (st : St) (x : Operand) (args : Array Operand) : Bool :=
  match calleeOf st x with
  | some (_, p, q) => ptrCall st args p q
  | none => false

def AG (P : Program) (st : St) (Gd : Prop) (o : Op) (d : Option Tmp) (K : St → Prop) : Prop :=
  match o with
  | .alloc t => AGs P st Gd (.alloc t) d K
  | .box t x => AGs P st Gd (.box t x) d K
  | .store t x y => AGs P st Gd (.store t x y) d K
  | .buildSlice t n ps => AGs P st Gd (.buildSlice t n ps) d K
  | .makeSlice t x y => AGs P st Gd (.makeSlice t x y) d K
  | .makeMap t r => AGs P st Gd (.makeMap t r) d K
  | .mapUpdate t m k x => AGs P st Gd (.mapUpdate t m k x) d K
  | .call c => match c.callee with
    | .value x => if ptrCallX st x c.args = true then AGs P st Gd (.call c) d K else callG P st Gd x c.args d K
    | .builtin .append => AGs P st Gd (.call c) d K
    | _ => AGp P st Gd (.call c) d K
  | o => AGp P st Gd o d K

/-- One operation. -/
def AStep (P : Program) (ops : List Oper) (o : Oper) (K : St → Prop) (st : St) : Prop :=
  match o.guard with
  | none => AE P st o.op o.dst K
  | some (j, want) => match gslot ops j with
    | some d => match gcond st d want with
      | some Gd => AG P st Gd o.op o.dst K
      | none => False
    | none => False

def AOps (P : Program) (ops : List Oper) (K : St → Prop) : List Oper → St → Prop
  | [], st => K st
  | o :: rest, st => AStep P ops o (AOps P ops K rest) st

theorem QE_of_pop {P : Program} {st : St} {o : Op} (hc : ∀ c x, o = .call c → c.callee ≠ .value x) (h : (popQ P st o).2) : QE P st o (popQ P st o).1 := by
  cases o with
  | call c =>
    simp only [QE]
    split
    · rename_i x hx; exact absurd hx (hc c x rfl)
    · exact ⟨h, rfl⟩
  | _ => exact ⟨h, rfl⟩

theorem QE_of_pop0 {P : Program} {st : St} {o : Op} (hc : ∀ c x, o = .call c → c.callee ≠ .value x) (h : (pop P st o).2) : QE P st o (pop P st o).1 := by
  cases o with
  | call c =>
    simp only [QE]
    split
    · rename_i x hx; exact absurd hx (hc c x rfl)
    · exact ⟨h, trivial⟩
  | buildSlice t len parts => exact h.elim
  | _ => exact ⟨h, rfl⟩

theorem AGq_ok {P : Program} {st : St} (o : Oper) {Gd : Prop} {K : St → Prop} (h : AGq P st Gd o.op o.dst K) {g : Gh} {a : Act} {w : World} (hs : Sim g st a w) (hd : dstOk g.N o.dst) {K' : Act → World → Prop} {Q : Exit → Act → World → Prop}
    (hK : ∀ st' g' a' w', K st' → g.to g' → Sim g' st' a' w' → K' a' w') : (Gd → o.wp P a w K' Q) ∧ (¬ Gd → K' (a.put o.dst undef) w) := by
  obtain ⟨r, h1, h2⟩ := h
  refine ⟨fun hg => ?_, fun hg => hK _ g _ w h2 hs.refl_to (hs.putD hd (SFit.undef hg r) (fun hc => absurd hc hg) rfl)⟩
  refine QE_wp o (h1 hg) hs fun v J w2 t2 s2 f2 a2 => hK _ _ _ w2 h2 (s2 g _ rfl hs).2 ((s2 g _ rfl hs).1.putD hd (SFit.opt hg f2) (fun _ => a2) rfl)

theorem AGs_ok {P : Program} {st : St} (o : Oper) {Gd : Prop} {K : St → Prop} (h : AGs P st Gd o.op o.dst K) {g : Gh} {a : Act} {w : World} (hs : Sim g st a w) (hd : dstOk g.N o.dst) {K' : Act → World → Prop} {Q : Exit → Act → World → Prop}
    (hK : ∀ st' g' a' w', K st' → g.to g' → Sim g' st' a' w' → K' a' w') : (Gd → o.wp P a w K' Q) ∧ (¬ Gd → K' (a.put o.dst undef) w) :=
  ⟨fun hg => AE_wp o (h.1 hg) hs hd hK, fun hg => hK _ g _ w (h.2 hg) hs.refl_to (hs.putD hd ⟨rfl, rfl⟩ trivial rfl)⟩

theorem AG_ok {P : Program} {st : St} (o : Oper) {Gd : Prop} {K : St → Prop} (h : AG P st Gd o.op o.dst K) {g : Gh} {a : Act} {w : World} (hs : Sim g st a w) (hd : dstOk g.N o.dst) {K' : Act → World → Prop} {Q : Exit → Act → World → Prop}
    (hK : ∀ st' g' a' w', K st' → g.to g' → Sim g' st' a' w' → K' a' w') : (Gd → o.wp P a w K' Q) ∧ (¬ Gd → K' (a.put o.dst undef) w) := by
  have hp : (∀ c x, o.op = .call c → c.callee ≠ .value x) → AGp P st Gd o.op o.dst K → (Gd → o.wp P a w K' Q) ∧ (¬ Gd → K' (a.put o.dst undef) w) :=
    fun hc h => AGq_ok o ⟨(pop P st o.op).1, fun hg => QE_of_pop0 hc (h.1 hg), h.2⟩ hs hd hK
  cases hop : o.op
  case alloc t => rw [hop] at h; exact AGs_ok o (by rw [hop]; exact h) hs hd hK
  case box t x => rw [hop] at h; exact AGs_ok o (by rw [hop]; exact h) hs hd hK
  case store t x y => rw [hop] at h; exact AGs_ok o (by rw [hop]; exact h) hs hd hK
  case buildSlice t n ps => rw [hop] at h; exact AGs_ok o (by rw [hop]; exact h) hs hd hK
  case makeSlice t x y => rw [hop] at h; exact AGs_ok o (by rw [hop]; exact h) hs hd hK
  case makeMap t r => rw [hop] at h; exact AGs_ok o (by rw [hop]; exact h) hs hd hK
  case mapUpdate t m k x => rw [hop] at h; exact AGs_ok o (by rw [hop]; exact h) hs hd hK
  case call c =>
    rw [hop] at h
    simp only [AG] at h
    split at h
    · rename_i x hx
      split at h
      · exact AGs_ok o (by rw [hop]; exact h) hs hd hK
      · exact AGq_ok o (by rw [hop]; exact callG_q hx h) hs hd hK
    · exact AGs_ok o (by rw [hop]; exact h) hs hd hK
    · rename_i hn _
      exact hp (fun c' x hc hx => by rw [hop] at hc; cases hc; exact hn x hx) (by rw [hop]; exact h)
  all_goals (rw [hop] at h; exact hp (fun c' x hc => by rw [hop] at hc; cases hc) (by rw [hop]; exact h))

theorem AStep_ok {P : Program} {ops : Array Oper} {st : St} (o : Oper) {K : St → Prop} (h : AStep P ops.toList o K st) {g : Gh} {a : Act} {w : World} (hs : Sim g st a w) (hd : dstOk g.N o.dst) {K' : Act → World → Prop} {Q : Exit → Act → World → Prop}
    (hK : ∀ st' g' a' w', K st' → g.to g' → Sim g' st' a' w' → K' a' w') : if Region.wanted o (yielded ops a.tmps) = true then o.wp P a w K' Q else K' (a.put o.dst undef) w := by
  unfold AStep at h
  split at h
  · rename_i hg
    rw [if_pos (by simp [Region.wanted, hg])]
    exact AE_wp o h hs hd hK
  · rename_i j want hg
    split at h
    · rename_i d hgs
      split at h
      · rename_i Gd hc
        have hw := wanted_iff hs hg hgs hc
        have := AG_ok o h hs hd (Q := Q) hK
        split
        · rename_i hh; exact this.1 (hw.1 hh)
        · rename_i hh; exact this.2 (fun hG => hh (hw.2 hG))
      · exact h.elim
    · exact h.elim

def dstsOk (N : Nat) (l : List Oper) : Bool := l.all fun o => match o.dst with | some d => decide (d < N) | none => true

theorem dstsOk_cons {N : Nat} {o : Oper} {l : List Oper} (h : dstsOk N (o :: l) = true) : dstOk N o.dst ∧ dstsOk N l = true := by
  simp only [dstsOk, List.all_cons, Bool.and_eq_true] at h
  refine ⟨?_, h.2⟩
  unfold dstOk
  split
  · rename_i d hd; rw [hd] at h; simpa using h.1
  · trivial

theorem AOps_wp {P : Program} {ops : Array Oper} : ∀ (l : List Oper) {st : St} {K : St → Prop} (_ : AOps P ops.toList K l st) {g : Gh} {a : Act} {w : World} (_ : Sim g st a w) (_ : dstsOk g.N l = true) {Q : Exit → Act → World → Prop}
    (_ : ∀ st' g' a' w', K st' → g.to g' → Sim g' st' a' w' → Q .normal a' w'), wpList P ops Q l a w
  | [], st, K, h, g, a, w, hs, _, Q, hQ => hQ st g a w h hs.refl_to hs
  | o :: rest, st, K, h, g, a, w, hs, hd, Q, hQ => by
    obtain ⟨h1, h2⟩ := dstsOk_cons hd
    have := AStep_ok (ops := ops) o h hs h1 (Q := Q) (K' := wpList P ops Q rest)
      (fun st' g' a' w' hk t' s' => AOps_wp rest hk s' (by rw [t'.N]; exact h2) (fun st2 g2 a2 w2 k2 t2 s2 => hQ st2 g2 a2 w2 k2 (t'.trans t2) s2))
    unfold wpList
    split
    · rename_i hw; rw [if_pos hw] at this; exact .inl this
    · rename_i hw; rw [if_neg hw] at this; exact this

end Go.AX
