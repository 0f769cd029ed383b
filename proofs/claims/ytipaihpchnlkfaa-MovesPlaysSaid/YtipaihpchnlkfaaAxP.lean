/-
  AX, part P: from a body's walk to what a call of the function gives.
-/
import Derived.Test.YtipaihpchnlkfaaAxO
import Derived.OwnWalk
namespace Go.AX

def argT : Nat → List PV → List (Nat × SV)
  | _, [] => []
  | k, x :: xs => (k, .pv x) :: argT (k + 1) xs

def endQ (K : St → Prop) (e : Exit) (st : St) : Prop :=
  match e with
  | .normal => K st
  | .ret => K st
  | _ => False

/-- One result. -/
def ret1 (t : Nat) (R : SV → Prop) (st : St) : Prop :=
  match look st.t t with
  | .pv x => R (.pv x)
  | .own nw e rows => R (.own nw e rows)
  | .omap nw es => R (.omap nw es)
  | .al p => (posGet st p).isOwn = true ∧ R (posGet st p)
  | .opt c (.pv x) => c ∧ R (.pv x)
  | _ => False

/-- None, or several. -/
def retN (ts : List Nat) (R : SV → Prop) (st : St) : Prop := (embL st (ts.map .tmp)).2.2 ∧ R (.pv (.tup (embL st (ts.map .tmp)).1))

theorem look_argT (g : Gh) : ∀ (args : List PV) (vs : List Value) (k s : Nat), FitL g args vs → ∀ (w : World), SFit g w (look (argT k args) s) (if s < k then undef else vs.getD (s - k) undef) none
  | [], vs, k, s, h, w => ⟨rfl, trivial⟩
  | x :: xs, _, k, s, ⟨v, r, h1, h2, h3⟩, w => by
    subst h1
    simp only [argT, look]
    by_cases e : k = s
    · subst e; rw [if_pos rfl, if_neg (by omega), Nat.sub_self]; exact ⟨rfl, h2⟩
    · rw [if_neg e]
      by_cases hl : s < k
      · rw [if_pos hl]
        have := look_argT g xs r (k + 1) s h3 w
        rw [if_pos (by omega)] at this; exact this
      · rw [if_neg hl]
        have := look_argT g xs r (k + 1) s h3 w
        rw [if_neg (by omega)] at this
        rw [show s - k = (s - (k + 1)) + 1 by omega]; exact this

theorem noOwn_argT : ∀ (args : List PV) (k s : Nat), (∃ x, look (argT k args) s = .pv x)
  | [], _, _ => ⟨_, rfl⟩
  | x :: xs, k, s => by
    simp only [argT, look]
    split
    · exact ⟨_, rfl⟩
    · exact noOwn_argT xs (k + 1) s

/-- How a call begins. -/
def gEnter (w : World) (N : Nat) : Gh := { snap w with N := N }

theorem fit_enter {w : World} {N : Nat} {args : List PV} {vs : List Value} (h : FitL (snap w) args vs) : FitL (gEnter w N) args vs := FitL.mono (g := snap w) (g' := gEnter w N) ⟨fun _ _ h => h, Nat.le_refl _, Nat.le_refl _, fun _ _ => rfl⟩ _ _ h

theorem sim_enter {w : World} {N : Nat} {args : List PV} {vs : List Value} (h : FitL (snap w) args vs) (hn : args.length ≤ N) :
    Sim (gEnter w N) ⟨argT 0 args, []⟩ { tmps := vs.toArray ++ Array.replicate (N - vs.toArray.size) undef, defers := [] } w := by
  have hl := h.length
  have hv : ∀ s, (vs.toArray ++ Array.replicate (N - vs.toArray.size) undef).getD s undef = vs.getD s undef := by
    intro s
    simp only [Array.getD_eq_getD_getElem?, List.getD_eq_getElem?_getD, Array.getElem?_append, List.size_toArray, List.getElem?_toArray, Array.getElem?_replicate]
    split
    · rfl
    · rename_i hs
      rw [List.getElem?_eq_none (by omega)]
      split <;> rfl
  refine { size := ?_, defs := rfl, env := rfl, n := rfl, n0 := Nat.le_refl _, B := Nat.le_refl _, I := fun c o hc => hc, F := fun c o hc => (by cases hc), μI := fun b hb => absurd hb (Nat.not_lt_zero _), μinj := fun b b' hb => absurd hb (Nat.not_lt_zero _),
           own := ⟨fun _ => none, ?_⟩, al := fun s => ?_ }
  · show (vs.toArray ++ Array.replicate (N - vs.toArray.size) undef).size = N
    simp; omega
  · refine { slots := fun s => ?_, blocks := fun b xs hx => (by simp at hx), inj := fun p q c hp => (by cases hp), free := fun p c hp => by cases hp }
    show SFit _ w _ ((vs.toArray ++ Array.replicate (N - vs.toArray.size) undef).getD s undef) none
    rw [hv]
    have := look_argT (gEnter w N) args vs 0 s (fit_enter h) w
    simpa using this
  · obtain ⟨x, hx⟩ := noOwn_argT args 0 s
    simp only [hx]; trivial

theorem pureEnd_of {w w' : World} {N : Nat} {g' : Gh} {st' : St} {a' : Act} (ht : (gEnter w N).to g') (hs : Sim g' st' a' w') : PureEnd w w' g' := by
  have hkeep : ∀ c, c < w.heap.size → w'.heap[c]? = w.heap[c]? := fun c hc => by
    have : w.heap[c]? = some w.heap[c] := Array.getElem?_eq_getElem hc
    rw [hs.I c _ (ht.I c _ this), this]
  refine ⟨ht.B, hs.env.trans ht.env, hkeep, ?_, hs.I⟩
  cases hsz : w.heap.size with
  | zero => exact Nat.zero_le _
  | succ n =>
    have h1 := hkeep n (by omega)
    rw [Array.getElem?_eq_getElem (show n < w.heap.size by omega)] at h1
    have := (Array.getElem?_eq_some_iff.1 h1).1
    omega

theorem own_new {w w' : World} {N : Nat} {g' : Gh} {st' : St} {a' : Act} (ht : (gEnter w N).to g') {bl : Pos → Option Nat} (hb : Owns g' st' a' w' bl) {p : Pos} : ∀ c, bl p = some c → w.heap.size ≤ c ∧ g'.I c = none := fun c hc => by
  have h1 := (hb.free p c hc).1
  refine ⟨Nat.le_of_not_lt fun hlt => ?_, h1⟩
  have := ht.I c _ (show w.heap[c]? = some w.heap[c] from Array.getElem?_eq_getElem hlt)
  rw [h1] at this; cases this

theorem apure_of {P : Program} {f : FuncId} {fn : Func} {c : Code} {args : List PV} {R : SV → Prop} {K : St → Prop} (hmo : P.follows .mixedOrders = true) (hf : P.funcs[f]? = some fn) (hcall : callable P f = true) (hb : fn.body = some c) (hok : okC fn.ntmps c = true)
    (hn : args.length ≤ fn.ntmps) (h : AC P 0 c (endQ K) ⟨argT 0 args, []⟩)
    (hK : ∀ (w w' : World) (g' : Gh) (st' : St) (a' : Act), K st' → (gEnter w fn.ntmps).to g' → Sim g' st' a' w' → ∃ v r g2 o, (results fn a'.tmps).run P w' = .ok v w' ∧ R r ∧ PureEnd w w' g2 ∧ SFit g2 w' r v o ∧ r.inCell = true ∧ ∀ c, o = some c → w.heap.size ≤ c ∧ g2.I c = none) :
    APure P f args R := by
  refine ⟨hcall, fun w vs hv => ?_⟩
  refine calls_of_wp hf hb ?_
  have hs := sim_enter (N := fn.ntmps) hv hn
  refine AC_wp hmo c h (g := gEnter w fn.ntmps) ⟨hok, Nat.le_refl _⟩ hs fun e st' g' a' w' hq t' s' => ?_
  have fin : K st' → a'.defers = [] ∧ ∃ v, (results fn a'.tmps).run P w' = .ok v w' ∧ ∃ v' r g' o, Ending.returned v = .returned v' ∧ R r ∧ PureEnd w w' g' ∧ SFit g' w' r v' o ∧ r.inCell = true ∧ ∀ c, o = some c → w.heap.size ≤ c ∧ g'.I c = none := fun hk => by
    obtain ⟨v, r, g2, o, h1, h2, h3, h4, h5, h6⟩ := hK w w' g' st' a' hk t' s'
    exact ⟨s'.defs, v, h1, v, r, g2, o, rfl, h2, h3, h4, h5, h6⟩
  cases e with
  | normal => exact fin hq
  | ret => exact fin hq
  | _ => exact hq.elim

theorem apure1 {P : Program} {f : FuncId} {fn : Func} {c : Code} {args : List PV} {R : SV → Prop} {t : Nat} (hmo : P.follows .mixedOrders = true) (hf : P.funcs[f]? = some fn) (hcall : callable P f = true) (hb : fn.body = some c) (hr : fn.results = #[.tmp t])
    (hok : okC fn.ntmps c = true) (hn : args.length ≤ fn.ntmps) (h : AC P 0 c (endQ (ret1 t R)) ⟨argT 0 args, []⟩) : APure P f args R := by
  refine apure_of hmo hf hcall hb hok hn h fun w w' g' st' a' hk t' s' => ?_
  obtain ⟨bl, hb⟩ := s'.own
  have hfit := hb.slots t
  have hal := s'.al t
  have hend := pureEnd_of t' s'
  unfold ret1 at hk
  split at hk
  · rename_i x hx
    rw [hx] at hfit
    exact ⟨_, .pv x, g', none, results_tmp hr _ _ _, hk, hend, ⟨rfl, hfit.2⟩, rfl, fun c hc => by cases hc⟩
  · rename_i nw e rows hx
    rw [hx] at hfit
    exact ⟨_, _, g', _, results_tmp hr _ _ _, hk, hend, hfit, rfl, own_new t' hb⟩
  · rename_i nw es hx
    rw [hx] at hfit
    exact ⟨_, _, g', _, results_tmp hr _ _ _, hk, hend, hfit, rfl, own_new t' hb⟩
  · rename_i p hx
    rw [hx] at hal
    have hv := hal hk.1
    refine ⟨_, posGet st' p, g', bl p, results_tmp hr _ _ _, hk.2, hend, by rw [hv]; exact pos_fit hb hk.1, ?_, own_new t' hb⟩
    cases hp : posGet st' p <;> first | rfl | (rw [hp] at hk; cases hk.1)
  · rename_i cc x hx
    rw [hx] at hfit
    exact ⟨_, .pv x, g', none, results_tmp hr _ _ _, hk.2, hend, ⟨rfl, (hfit.2.2 hk.1).2⟩, rfl, fun c hc => by cases hc⟩
  · exact hk.elim

/-- One result that is read of memory. -/
def retC (P : Program) (t : Nat) (T : TypeId) (R : SV → Prop) (st : St) : Prop :=
  gc st (.tmp t) ∧ (ldV P st T (mv st (.tmp t))).2 ∧ isPv (ldV P st T (mv st (.tmp t))).1 ∧ R (ldV P st T (mv st (.tmp t))).1

theorem results_cell {P : Program} {fn : Func} {t : Nat} {T : TypeId} (hr : fn.results = #[.cell t T]) {g : Gh} {st : St} {a : Act} {w : World} (hs : Sim g st a w) (hg : gc st (.tmp t)) (hd : (ldV P st T (mv st (.tmp t))).2) :
    ∃ v, (results fn a.tmps).run P w = .ok v w ∧ SFit g w (ldV P st T (mv st (.tmp t))).1 v none := by
  obtain ⟨v, h1, h2, _⟩ := ldV_ok (P := P) (st := st) { dst := none, op := .load T (.tmp t), type := 0, pos := "", after := #[], guard := none } T (.tmp t) rfl g a w hs ⟨hg, hd⟩
  refine ⟨v, ?_, h2⟩
  simp only [execOp, Act.eval] at h1
  have key : (asAddr (a.tmps.getD t undef) >>= loadVar T).run P w = .ok v w := by
    generalize a.tmps.getD t undef = u at h1
    cases u with
    | pointer q =>
      cases q with
      | some q =>
        simp only [Instr.loadAt, Instr.sureAddr, Sem.run_bind, Sem.run_pure, Result.andThen_ok] at h1
        simp only [asAddr, Sem.run_bind, Sem.run_pure, Result.andThen_ok]
        cases hr2 : (loadVar T q).run P w with
        | ok x w2 => rw [hr2] at h1; simp at h1; obtain ⟨rfl, rfl⟩ := h1; rfl
        | halt x w2 => rw [hr2] at h1; cases h1
      | none => simp [Instr.loadAt, Instr.sureAddr, stuck] at h1
    | _ => simp [Instr.loadAt, Instr.sureAddr, stuck] at h1
  simp only [results, hr]
  simpa using key

theorem apureC {P : Program} {f : FuncId} {fn : Func} {c : Code} {args : List PV} {R : SV → Prop} {t : Nat} {T : TypeId} (hmo : P.follows .mixedOrders = true) (hf : P.funcs[f]? = some fn) (hcall : callable P f = true) (hb : fn.body = some c) (hr : fn.results = #[.cell t T])
    (hok : okC fn.ntmps c = true) (hn : args.length ≤ fn.ntmps) (h : AC P 0 c (endQ (retC P t T R)) ⟨argT 0 args, []⟩) : APure P f args R := by
  refine apure_of hmo hf hcall hb hok hn h fun w w' g' st' a' hk t' s' => ?_
  obtain ⟨h1, h2, h3, h4⟩ := hk
  obtain ⟨v, hv, hf'⟩ := results_cell (P := P) hr s' h1 h2
  rw [isPv_eq h3] at hf' h4
  exact ⟨_, _, g', none, hv, h4, pureEnd_of t' s', hf', rfl, fun c hc => by cases hc⟩

theorem apureN {P : Program} {f : FuncId} {fn : Func} {c : Code} {args : List PV} {R : SV → Prop} (ts : List Nat) (hmo : P.follows .mixedOrders = true) (hf : P.funcs[f]? = some fn) (hcall : callable P f = true) (hb : fn.body = some c) (hr : ∀ tmps w, (results fn tmps).run P w = .ok (.tuple (ts.map fun t => tmps.getD t undef).toArray) w)
    (hok : okC fn.ntmps c = true) (hn : args.length ≤ fn.ntmps) (h : AC P 0 c (endQ (retN ts R)) ⟨argT 0 args, []⟩) : APure P f args R := by
  refine apure_of hmo hf hcall hb hok hn h fun w w' g' st' a' hk t' s' => ?_
  obtain ⟨g2, t2, _, _, s2, f2⟩ := embL_ok _ s' hk.1
  refine ⟨_, _, g2, none, hr _ _, hk.2, pureEnd_of (t'.trans t2) s2, ⟨rfl, _, rfl, ?_⟩, rfl, fun c hc => by cases hc⟩
  simpa [List.map_map, Function.comp_def, Act.eval] using f2

end Go.AX
