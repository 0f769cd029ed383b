/-
  AX, part G: operations that make memory, or write it.
-/
import Derived.Test.YtipaihpchnlkfaaAxF
namespace Go.AX

/-- What an operation does, said of walks' states: it ends without a panic, in one of them. -/
def Does (P : Program) (o : Oper) (st st' : St) : Prop :=
  ∀ g a w, Sim g st a w → ∀ (K : Act → World → Prop) (Q : Exit → Act → World → Prop), (∀ g' a' w', g.to g' → Sim g' st' a' w' → K a' w') → o.wp P a w K Q

theorem does_of_run {P : Program} {o : Oper} {st st' : St} (h : ∀ g a w, Sim g st a w → ∃ v w' g', (execOp a.eval o).run P w = .ok (.value v) w' ∧ g.to g' ∧ Sim g' st' (a.put o.dst v) w') : Does P o st st' := by
  intro g a w hs K Q hK
  obtain ⟨v, w', g', h1, h2, h3⟩ := h g a w hs
  unfold Oper.wp
  rw [h1]
  exact hK g' _ w' h2 h3

theorem does_of_skip {P : Program} {o : Oper} {st st' : St} (hd : o.dst = none) (h : ∀ g a w, Sim g st a w → ∃ w' g', (execOp a.eval o).run P w = .ok .skip w' ∧ g.to g' ∧ Sim g' st' a w') : Does P o st st' := by
  intro g a w hs K Q hK
  obtain ⟨w', g', h1, h2, h3⟩ := h g a w hs
  unfold Oper.wp
  rw [h1]
  show K (a.put o.dst undef) w'
  rw [hd]
  exact hK g' _ w' h2 h3

theorem Sim.refl_to {g : Gh} {st : St} {a : Act} {w : World} (h : Sim g st a w) : g.to g := ⟨fun _ _ h => h, rfl, rfl, rfl, rfl, rfl, h.n0, fun _ _ => rfl, fun _ _ h => h⟩

/-! ### Reading -/
def putD (d : Option Tmp) (sv : SV) (st : St) : St :=
  match d with
  | some d => st.put d sv
  | none => st

def dstOk (N : Nat) (d : Option Tmp) : Prop :=
  match d with
  | some d => d < N
  | none => True

theorem Sim.putD {g : Gh} {st : St} {a : Act} {w : World} (h : Sim g st a w) {d : Option Tmp} (hd : dstOk g.N d) {sv : SV} {v : Value} (hs : SFit g w sv v none) (ha : AlOk g st a w sv v) (ho : sv.isOwn = false) :
    Sim g (putD d sv st) (a.put d v) w := by
  cases d with
  | none => exact h
  | some d => exact h.put hd hs ha ho

/-! ### An owned value moves -/
def takeS (st : St) (s d : Nat) : St := ⟨(d, look st.t s) :: killL (qSlot d) ((s, .pv .bot) :: st.t), st.h⟩

theorem Sim.take {g : Gh} {st : St} {a : Act} {w : World} (h : Sim g st a w) {s d : Nat} (hd : d < g.N) (ho : (look st.t s).isOwn = true) : Sim g (takeS st s d) (a.put (some d) (a.tmps.getD s undef)) w := by
  obtain ⟨bl, hb⟩ := h.own
  obtain ⟨h1, bl', hb', h2, h3, h4⟩ := h.drop hb (.slot s)
  have hs := hb.slots s
  refine h1.putOwn hb' hd rfl (Nat.le_refl _) (fun _ _ _ => rfl) hs ho (fun c hc => ⟨(hb.free _ c hc).2.2.1, h4 c hc⟩)

theorem assign_own {P : Program} {st : St} (o : Oper) (s d : Nat) (ho : o.op = .assign (.tmp s)) (hd : o.dst = some d) (hown : (look st.t s).isOwn = true) {N : Nat} (hN : d < N) :
    ∀ g a w, g.N = N → Sim g st a w → ∃ v w' g', (execOp a.eval o).run P w = .ok (.value v) w' ∧ g.to g' ∧ Sim g' (takeS st s d) (a.put o.dst v) w' := by
  intro g a w hg h
  refine ⟨a.tmps.getD s undef, w, g, by simp [execOp, ho, Act.eval], h.refl_to, ?_⟩
  rw [hd]
  exact h.take (hg ▸ hN) hown

/-! ### New blocks of the walk's own -/
def zeroL (P : Program) (t : TypeId) : Option (List PV) :=
  match P.info? t with
  | some i => i.zero.map fun z => z.cells.toList.map PV.lit
  | none => none

theorem fitL_lits (g : Gh) : ∀ vs : List Value, FitL g (vs.map PV.lit) vs
  | [] => rfl
  | v :: vs => ⟨v, vs, rfl, rfl, fitL_lits g vs⟩

theorem alloc_ok {P : Program} {st : St} (o : Oper) (t : TypeId) (d : Nat) (zs : List PV) (ho : o.op = .alloc t) (hd : o.dst = some d) (hz : zeroL P t = some zs) (hz1 : allOne zs = true) {N : Nat} (hN : d < N) :
    ∀ g a w, g.N = N → Sim g st a w → ∃ v w' g', (execOp a.eval o).run P w = .ok (.value v) w' ∧ g.to g' ∧ Sim g' ((st.grow (zs.map .pv)).put d (.pv (.ptr st.h.length 0))) (a.put o.dst v) w' := by
  intro g a w hg h
  unfold zeroL at hz
  split at hz
  case h_2 => cases hz
  rename_i i hi
  simp only [Option.map_eq_some_iff] at hz
  obtain ⟨z, hz, rfl⟩ := hz
  obtain ⟨g', t1, l1, n1, m1, s1⟩ := h.blockNew (z.cells.toList.map PV.lit) z.cells t (fitL_lits g _) (allOne_ok hz1 (fitL_lits g _))
  refine ⟨.pointer (some ⟨w.heap.size, 0, none⟩), w.alloc (.cells z.cells t), g', ?_, t1, ?_⟩
  · simp only [execOp, ho, Instr.alloc, zeroValue, typeInfo, Sem.run_bind, run_program, Result.andThen_ok, hi, Sem.run_pure, hz]
    simp [newVar, newRow]
  · rw [hd]
    refine s1.put (by rw [t1.N, hg]; exact hN) ⟨rfl, ?_, ?_⟩ trivial rfl
    · rw [n1, ← h.n]; omega
    · rw [← h.n, m1]

theorem box_ok {P : Program} {st : St} (o : Oper) (t : TypeId) (x : Operand) (d : Nat) (ho : o.op = .box t x) (hd : o.dst = some d) (he : (emb st x).2.2) (hx : (emb st x).1.one = true ∨ isAggV (.pv (emb st x).1)) (hx1 : allOne (pcells (emb st x).1) = true) {N : Nat} (hN : d < N) :
    ∀ g a w, g.N = N → Sim g st a w → ∃ v w' g', (execOp a.eval o).run P w = .ok (.value v) w' ∧ g.to g' ∧ Sim g' (((emb st x).2.1.grow ((pcells (emb st x).1).map .pv)).put d (.pv (.ptr (emb st x).2.1.h.length 0))) (a.put o.dst v) w' := by
  intro g a w hg h
  obtain ⟨g1, t1, l1, n1, s1, f1⟩ := emb_ok h x he
  have hc := pcells_ok f1 hx
  obtain ⟨g2, t2, l2, n2, m2, s2⟩ := s1.blockNew _ (a.eval x).cells t hc (allOne_ok hx1 hc)
  refine ⟨.pointer (some ⟨w.heap.size, 0, none⟩), w.alloc (.cells (a.eval x).cells t), g2, ?_, t1.trans t2, ?_⟩
  · simp [execOp, ho, Instr.box, newVar, newRow]
  · rw [hd]
    refine s2.put (by rw [t2.N, t1.N, hg]; exact hN) ⟨rfl, ?_, ?_⟩ trivial rfl
    · rw [n2, ← s1.n]; omega
    · rw [← s1.n, m2]

/-! ### Stores -/
theorem run_storeVar_at {P : Program} {t : TypeId} {ag : Bool} {n : Nat} (w : World) (hl : ldInfo P t = some (ag, n)) (v : Value) (hv : v.cells.size = n) (c off : Nat) (T : TypeId) (arr : Array Value)
    (hc : w.heap[c]? = some (.cells arr T (0, 0))) (hfit : off + n ≤ arr.size) (h1 : ∀ u ∈ v.cells.toList, u.oneCell' = true) :
    (storeVar t ⟨c, off, none⟩ v).run P w = .ok () (w.setRow c (splice arr.toList off v.cells.toList).toArray) := by
  obtain ⟨_, h2⟩ := run_isAgg hl w
  have := run_storeCells_at P c off T v.cells.toList 0 arr w hc (by simp [hv]; omega) h1
  simp only [Nat.add_zero] at this
  simp only [storeVar, Sem.run_bind, h2, Result.andThen_ok, hv, ne_eq, not_true, if_false, Sem.run_ite]
  simpa [splice] using this

theorem store_ptr {P : Program} {st : St} (o : Oper) (t : TypeId) (x y : Operand) (b off n : Nat) (ag : Bool) (ho : o.op = .store t x y) (hd : o.dst = none) (hl : ldInfo P t = some (ag, n))
    (he : (emb st y).2.2) (hone : allOne (pcells (emb st y).1) = true) (hy : (emb st y).1.one = true ∨ isAggV (.pv (emb st y).1)) (hn : (pcells (emb st y).1).length = n)
    (hx : mv (emb st y).2.1 x = .pv (.ptr b off)) (hgx : gc (emb st y).2.1 x) (hfit : off + n ≤ ((emb st y).2.1.h.getD b []).length) :
    ∀ g a w, Sim g st a w → ∃ w' g', (execOp a.eval o).run P w = .ok .skip w' ∧ g.to g' ∧
      Sim g' ⟨killL (qCells b off n) (emb st y).2.1.t, (emb st y).2.1.h.set b (splice ((emb st y).2.1.h.getD b []) off ((pcells (emb st y).1).map .pv))⟩ a w' := by
  intro g a w h
  obtain ⟨g1, t1, l1, n1, s1, f1⟩ := emb_ok h y he
  obtain ⟨hfx, _⟩ := mv_ok s1 x hgx
  rw [hx] at hfx
  obtain ⟨_, hb1, hvx⟩ := hfx
  have hbl : b < (emb st y).2.1.h.length := s1.n ▸ hb1
  have hbe : (emb st y).2.1.h[b]? = some ((emb st y).2.1.h.getD b []) := by simp [List.getD, List.getElem?_eq_getElem hbl]
  obtain ⟨bl, hbo⟩ := s1.own
  obtain ⟨arr, T, a1, ⟨a2, _⟩, _⟩ := hbo.blocks b _ hbe
  have hc := pcells_ok f1 hy
  have hcn : (a.eval y).cells.size = n := by have := hc.length; rw [hn] at this; simpa using this
  have hr := run_storeVar_at w hl (a.eval y) hcn (g1.μ b) off T arr a1 (by rw [a2]; exact hfit) (allOne_ok hone hc)
  refine ⟨w.setRow (g1.μ b) (splice arr.toList off (a.eval y).cells.toList).toArray, g1, ?_, t1, ?_⟩
  · simp only [execOp, ho, hvx, Instr.storeAt, Instr.sureAddr, Sem.run_bind, Sem.run_pure, Result.andThen_ok, hr]
  · have := s1.blockWrite (w' := w.setRow (g1.μ b) (splice arr.toList off (a.eval y).cells.toList).toArray) hbe (by rw [hn]; exact hfit) a1 hc (allOne_ok hone hc) rfl (size_setRow _ _ _) (fun c hc => setRow_other w _ c _ hc) ⟨T, setRow_heap w _ arr _ T _ a1⟩ (by simp)
    rw [hn] at this
    exact this

theorem FitR.splice {g : Gh} {e : Nat} : ∀ {rows : List (List PV)} {vs : List Value} (_ : FitR g e rows vs) (i k : Nat) (ys : List PV) (us : List Value), i < rows.length → k + ys.length ≤ e → (∀ u ∈ us, u.oneCell' = true) → FitL g ys us →
    FitR g e (rows.set i (AX.splice (rows.getD i []) k ys)) (AX.splice vs (i * e + k) us)
  | [], _, _, i, k, ys, us, h, _, _, _ => by simp at h
  | r0 :: rows, _, ⟨v1, v2, h1, h2, h3, h4⟩, 0, k, ys, us, _, hk, ho, hy => by
    have hl := h3.length
    have hu := hy.length
    refine ⟨AX.splice v1 k us, v2, ?_, ⟨?_, fun v hv => ?_⟩, ?_, h4⟩
    · rw [h1]; simp only [AX.splice, Nat.zero_mul, Nat.zero_add]
      rw [List.take_append_of_le_length (by omega), List.drop_append_of_le_length (by omega), List.append_assoc, List.append_assoc, List.append_assoc]
    · simp only [List.getD_eq_getElem?_getD, List.getElem?_cons_zero, Option.getD_some]; rw [splice_length (by omega)]; exact h2.1
    · simp only [AX.splice, List.mem_append] at hv
      rcases hv with (hv | hv) | hv
      · exact h2.2 v (List.mem_of_mem_take hv)
      · exact ho v hv
      · exact h2.2 v (List.mem_of_mem_drop hv)
    · simp only [List.getD_eq_getElem?_getD, List.getElem?_cons_zero, Option.getD_some, AX.splice]
      rw [← hu]
      exact ((h3.take k).append hy).append (h3.drop _)
  | r0 :: rows, _, ⟨v1, v2, h1, h2, h3, h4⟩, i + 1, k, ys, us, h, hk, ho, hy => by
    have hl := h3.length
    have h2l := h4.length
    have hlt : i < rows.length := by simpa using h
    have hmul : i * e + e ≤ rows.length * e := by rw [← Nat.succ_mul]; exact Nat.mul_le_mul_right _ hlt
    have hu := hy.length
    refine ⟨v1, AX.splice v2 (i * e + k) us, ?_, h2, h3, ?_⟩
    · rw [h1]; simp only [AX.splice]
      have e1 : (i + 1) * e + k = v1.length + (i * e + k) := by rw [hl, h2.1, Nat.succ_mul]; omega
      rw [e1, List.take_length_add_append, Nat.add_assoc, List.drop_length_add_append]
      simp [List.append_assoc]
    · have := FitR.splice h4 i k ys us hlt hk ho hy
      simpa using this

theorem store_sptr {P : Program} {st : St} (o : Oper) (t : TypeId) (x y : Operand) (p : Pos) (i k n e : Nat) (nw : Bool) (rows : List (List PV)) (ag : Bool) (ho : o.op = .store t x y) (hl : ldInfo P t = some (ag, n))
    (he : (emb st y).2.2) (hone : allOne (pcells (emb st y).1) = true) (hy : (emb st y).1.one = true ∨ isAggV (.pv (emb st y).1)) (hn : (pcells (emb st y).1).length = n)
    (hx : mv (emb st y).2.1 x = .sptr p i k) (hgx : gc (emb st y).2.1 x) (hp : posGet (emb st y).2.1 p = .own nw e rows) (hi : i < rows.length) (hk : k + n ≤ e) :
    ∀ g a w, Sim g st a w → ∃ w' g', (execOp a.eval o).run P w = .ok .skip w' ∧ g.to g' ∧
      Sim g' (setPos (emb st y).2.1 p (.own nw e (rows.set i (splice (rows.getD i []) k (pcells (emb st y).1))))) a w' := by
  intro g a w h
  obtain ⟨g1, t1, l1, n1, s1, f1⟩ := emb_ok h y he
  obtain ⟨hfx, hax⟩ := mv_ok s1 x hgx
  rw [hx] at hax
  obtain ⟨c, m, cp, hpv, hvx⟩ := hax _ _ _ hp
  obtain ⟨bl, hbo⟩ := s1.own
  have hown : (posGet (emb st y).2.1 p).isOwn = true := by rw [hp]; rfl
  have hfp := pos_fit hbo hown
  rw [hp] at hfp
  have hc := pcells_ok f1 hy
  have hcn : (a.eval y).cells.size = n := by have := hc.length; rw [hn] at this; simpa using this
  rcases hfp with ⟨_, rfl, _⟩ | ⟨c', hbc, cap, arr, T, vs, e1, e2, e3, e4, e5, e6, e7⟩
  · simp at hi
  · rw [e1] at hpv; cases hpv
    have hmul : i * e + e ≤ cp * e := by rw [← Nat.succ_mul]; exact Nat.mul_le_mul_right _ (by omega)
    have hr := run_storeVar_at w hl (a.eval y) hcn c (i * e + k) T arr e2 (by rw [e3]; omega) (allOne_ok hone hc)
    refine ⟨_, g1, ?_, t1, s1.ownWrite (w' := w.setRow c (splice arr.toList (i * e + k) (a.eval y).cells.toList).toArray) hbo hown hbc rfl (size_setRow _ _ _) (fun q hq => setRow_other w _ q _ hq) (.inr ⟨c, rfl, cp, _, T, splice vs (i * e + k) (a.eval y).cells.toList, ?_, setRow_heap w _ arr _ T _ e2, ?_, by simpa using e4, ?_, ?_, e7⟩) rfl ?_⟩
    · simp only [execOp, ho, hvx, Instr.storeAt, Instr.sureAddr, Sem.run_bind, Sem.run_pure, Result.andThen_ok, hr]
    · rw [e1]; simp
    · have : i * e + k + (a.eval y).cells.toList.length ≤ arr.toList.length := by simp [hcn, e3]; omega
      simp only [List.size_toArray]; rw [splice_length this]; simp [e3]
    · exact e5.splice i k _ _ hi (by rw [hn]; exact hk) (allOne_ok hone hc) hc
    · obtain ⟨r, hr'⟩ := e6
      have hvl := e5.length
      have hmul2 : i * e + e ≤ rows.length * e := by rw [← Nat.succ_mul]; exact Nat.mul_le_mul_right _ hi
      refine ⟨r, ?_⟩
      simp only [splice]
      have hcl : (a.eval y).cells.toList.length = n := by simp [hcn]
      rw [← hr', List.take_append_of_le_length (by omega), List.drop_append_of_le_length (by rw [hcl]; omega)]
      simp [List.append_assoc]
    · intro nw' e' rows' hh
      cases hh
      exact ⟨nw, rows, hp, by simp⟩

end Go.AX
