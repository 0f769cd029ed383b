/-
  AX, part K: what a state forgets; operations under a guard; runs of operations.
-/
import Derived.Test.YtipaihpchnlkfaaAxJ
namespace Go.AX

/-- A state that says less: some slots are forgotten. -/
theorem Sim.weak {g : Gh} {st st' : St} {a : Act} {w : World} (h : Sim g st a w) (hh : st'.h = st.h) (ht : ∀ s, look st'.t s = look st.t s ∨ look st'.t s = .pv .bot) : Sim g st' a w := by
  obtain ⟨bl, hb⟩ := h.own
  have hpos : ∀ p, (posGet st' p).isOwn = true → posGet st' p = posGet st p ∧ posVal g a w p = posVal g a w p := by
    intro p hp
    refine ⟨?_, rfl⟩
    cases p with
    | cell b k => simp only [posGet, hh]
    | slot s =>
      simp only [posGet] at hp ⊢
      rcases ht s with e | e
      · exact e
      · rw [e] at hp; cases hp
  have hone : ∀ s, look st'.t s ≠ look st.t s → look st'.t s = .pv .bot := fun s hne => (ht s).resolve_left hne
  refine { size := h.size, defs := h.defs, env := h.env, n := by rw [hh]; exact h.n, n0 := h.n0, B := h.B, I := h.I, F := h.F, μI := h.μI, μinj := h.μinj,
           own := ⟨fun p => match p with | .slot s => (match look st'.t s with | .pv .bot => none | _ => bl (.slot s)) | .cell b k => bl (.cell b k), ?_⟩, al := fun s => ?_ }
  · have hsub : ∀ p c, (match p with | .slot s => (match look st'.t s with | .pv .bot => none | _ => bl (.slot s)) | .cell b k => bl (.cell b k)) = some c → bl p = some c := by
      intro p c hp
      cases p with
      | cell b k => exact hp
      | slot s =>
        simp only at hp
        split at hp
        · cases hp
        · exact hp
    refine { slots := fun s => ?_, blocks := fun b xs hx => ?_, inj := fun p q c hp hq => hb.inj p q c (hsub p c hp) (hsub q c hq), free := fun p c hp => hb.free p c (hsub p c hp) }
    · simp only
      rcases ht s with e | e
      · split
        · rename_i e2; rw [e2]; exact ⟨rfl, trivial⟩
        · rw [e]; exact hb.slots s
      · rw [e]; exact ⟨rfl, trivial⟩
    · rw [hh] at hx; exact hb.blocks b xs hx
  · rcases ht s with e | e
    · rw [e]; exact AlOk.congr hpos (h.al s)
    · rw [e]; trivial

theorem Sim.same {g : Gh} {st st' : St} {a : Act} {w : World} (h : Sim g st a w) (hh : st'.h = st.h) (ht : ∀ s, look st'.t s = look st.t s) : Sim g st' a w := h.weak hh fun s => .inl (ht s)

/-! ### Guards -/
def gslot (ops : List Oper) (j : Nat) : Option Nat := (ops[j]?).bind (·.dst)

def gcond (st : St) (d : Nat) (want : Bool) : Option Prop :=
  match look st.t d with
  | .pv (.lit (.bool b)) => some (b = want)
  | .opt c (.pv (.lit (.bool b))) => some (c ∧ b = want)
  | _ => none

theorem wanted_iff {g : Gh} {st : St} {a : Act} {w : World} (h : Sim g st a w) {ops : Array Oper} {o : Oper} {j d : Nat} {want : Bool} (hg : o.guard = some (j, want)) (hs : gslot ops.toList j = some d) {Gd : Prop} (hc : gcond st d want = some Gd) :
    Region.wanted o (yielded ops a.tmps) = true ↔ Gd := by
  have hs' : (ops[j]?).bind (·.dst) = some d := by simpa [gslot] using hs
  obtain ⟨bo, hfit⟩ := h.slot d
  have hval : ∀ b, a.tmps.getD d undef = .bool b → yielded ops a.tmps j = some b := by
    intro b hb
    simp only [yielded, hs', Option.bind_some]
    rw [Array.getD_eq_getD_getElem?] at hb
    cases he : a.tmps[d]? with
    | none => rw [he] at hb; cases hb
    | some v => rw [he] at hb; simp only [Option.getD_some] at hb; subst hb; rfl
  have hund : a.tmps.getD d undef = undef → yielded ops a.tmps j = none := by
    intro hb
    simp only [yielded, hs', Option.bind_some]
    rw [Array.getD_eq_getD_getElem?] at hb
    cases he : a.tmps[d]? with
    | none => rfl
    | some v => rw [he] at hb; simp only [Option.getD_some] at hb; subst hb; rfl
  simp only [Region.wanted, hg]
  unfold gcond at hc
  split at hc
  · rename_i b hl
    cases hc
    rw [hl] at hfit
    rw [hval b hfit.2]
    simp
  · rename_i c b hl
    cases hc
    rw [hl] at hfit
    by_cases hcc : c
    · rw [hval b (hfit.2.2 hcc).2]
      simp [hcc]
    · rw [hund (hfit.2.1 hcc)]
      simp [hcc]
  · cases hc

/-! ### Results that are kept frozen -/
def frzS : SV → PV
  | .own nw e rows => .seq nw e rows
  | .omap nw es => .amap nw es
  | .pv x => x
  | _ => .bot

/-- A call's result, written no more. -/
theorem Sim.resultF {g : Gh} {st : St} {a : Act} {w w' : World} {g' : Gh} (h : Sim g st a w) {r : SV} {v : Value} {o : Option Nat} (he : PureEnd w w' g') (hf : SFit g' w' r v o)
    (ho : ∀ c, o = some c → w.heap.size ≤ c ∧ g'.I c = none) (hn : r.nwS) : ∃ J, (∀ c o, g.I c = some o → J c = some o) ∧ (∀ g3 st3, g3.I = g.I → Sim g3 st3 a w → Sim { g3 with I := J } st3 a w' ∧ g3.to { g3 with I := J }) ∧ Fit { g with I := J } (frzS r) v := by
  let J : Nat → Option Obj := fun c => if o = some c then w'.heap[c]? else g'.I c
  have hJ : ∀ c ob, J c = some ob → w'.heap[c]? = some ob := fun c ob hc => by
    change (if o = some c then w'.heap[c]? else g'.I c) = some ob at hc
    split at hc
    · exact hc
    · exact he.I c ob hc
  let g2 : Gh := { g with I := fun c => if w.heap.size ≤ c then J c else g.I c }
  refine ⟨g2.I, (h.grown he.env he.size he.keep J hJ).2.1.I, fun g3 st3 h3 hs3 => ?_, ?_⟩
  · have := hs3.grown he.env he.size he.keep J hJ
    rw [h3] at this
    exact ⟨this.1, this.2.1⟩
  have hI : ∀ c ob, g'.I c = some ob → g'.B ≤ c → g2.I c = some ob := fun c ob hc hB => by
    show (if w.heap.size ≤ c then J c else g.I c) = some ob
    rw [if_pos (by rw [← he.B]; exact hB)]
    show (if o = some c then w'.heap[c]? else g'.I c) = some ob
    split
    · exact he.I c ob hc
    · exact hc
  have hBB : g2.B ≤ g'.B := by rw [he.B]; exact h.B
  have hJo : ∀ c, o = some c → g2.I c = w'.heap[c]? := fun c h5 => by
    show (if w.heap.size ≤ c then J c else g.I c) = _
    rw [if_pos (ho c h5).1]
    show (if o = some c then w'.heap[c]? else g'.I c) = _
    rw [if_pos h5]
  cases r with
  | pv x => exact Fit.new (g := g') hI hBB x v hn hf.2
  | own nw e rows =>
    rcases hf with ⟨_, e1, e2⟩ | ⟨c, h5, cap, arr, T, vs, a1, a2, a3, a4, a5, a6, a7⟩
    · exact ⟨none, 0, by rw [e2, e1]; rfl, by rw [e1]; exact Nat.le_refl _, .inl e1⟩
    · exact ⟨_, cap, a1, a4.1, .inr ⟨c, 0, arr, T, (0, 0), vs, rfl, (hJo c h5).trans a2, fun hh => Nat.le_trans hBB (a7 hh), FitR.new (g := g') hI hBB e rows vs hn.2 a5, by simpa using a6⟩⟩
  | omap nw es =>
    obtain ⟨c, h5, en, ck, a1, a2, a3, a4⟩ := hf
    exact .inr ⟨c, en, ck, a1, (hJo c h5).trans a2, fun hh => Nat.le_trans hBB (a4 hh), FitE.new (g := g') hI hBB es _ hn.2 a3⟩
  | _ => cases hn

/-! ### An operation under a guard -/
def SV.isFree : SV → Bool
  | .own .. => false
  | .omap .. => false
  | _ => true

/-- A slice that is made of plain values, and written no more. -/
def bslV (P : Program) (st : St) (t : TypeId) (len : Nat) (parts : Array (Nat × Operand)) : SV × Prop :=
  match slSize P t, slZero P t with
  | some e, some _ => (.pv (.seq true e ((pvsOf st (parts.toList.map (·.2))).map pcells)), len * e ≤ 16777216 ∧ 0 < e ∧ parts.toList.map (·.1) = List.range len ∧ allPv st (parts.toList.map (·.2)) ∧
      ∀ y ∈ pvsOf st (parts.toList.map (·.2)), (pcells y).length = e ∧ allOne (pcells y) = true ∧ (y.one = true ∨ isAggV (.pv y)))
  | _, _ => (.pv .bot, False)
def popQ (P : Program) (st : St) (o : Op) : SV × Prop :=
  match o with
  | .buildSlice t len parts => bslV P st t len parts
  | o => pop P st o

/-- What an operation yields that changes nothing there is; its result is kept frozen. -/
def QE (P : Program) (st : St) (o : Op) (r : SV) : Prop :=
  match o with
  | .call c => match c.callee with
    | .value x => match calleeOf st x with
      | some (f, p, q) => gc st x ∧ vwOkL st c.args.toList ∧ ∃ R, APure P f (frzL (frzP st.h 3) p ++ (vwA 3 st c.args.toList ++ frzL (frzP st.h 3) q)) R ∧ ∀ r', R r' → r'.nwS ∧ r = .pv (frzS r')
      | none => False
    | _ => (pop P st (.call c)).2 ∧ r = (pop P st (.call c)).1
  | o => (popQ P st o).2 ∧ r = (popQ P st o).1

theorem QE_bsl {P : Program} {st : St} (o : Oper) {t : TypeId} {len : Nat} {parts : Array (Nat × Operand)} (ho : o.op = .buildSlice t len parts) {r : SV} (h : (bslV P st t len parts).2 ∧ r = (bslV P st t len parts).1) {g : Gh} {a : Act} {w : World} (hs : Sim g st a w) {K' : Act → World → Prop} {Q : Exit → Act → World → Prop}
    (hK : ∀ v J w2, (∀ c o, g.I c = some o → J c = some o) → (∀ g3 st3, g3.I = g.I → Sim g3 st3 a w → Sim { g3 with I := J } st3 a w2 ∧ g3.to { g3 with I := J }) → SFit { g with I := J } w2 r v none → AlOk { g with I := J } st a w2 r v → K' (a.put o.dst v) w2) : o.wp P a w K' Q := by
  obtain ⟨h, hr⟩ := h
  subst hr
  unfold bslV at h hK
  split at h
  · rename_i e zs hsz hzz
    obtain ⟨h1, h2, h3, h4, h5⟩ := h
    simp only [hsz, hzz] at hK
    obtain ⟨arr, T, r1, r2, r3⟩ := buildSlice_core (w := w) o t len e parts zs _ ho hsz hzz h1 h3 (pvsOf_ok hs _ h4) h5
    unfold Oper.wp
    rw [r2]
    let J0 : Nat → Option Obj := fun c => if c = w.heap.size then some (.cells arr.toArray T (0, 0)) else none
    have hnew : (w.alloc (.cells arr.toArray T)).heap[w.heap.size]? = some (.cells arr.toArray T (0, 0)) := heap_alloc_new w _
    have hJ0 : ∀ c o, J0 c = some o → (w.alloc (.cells arr.toArray T)).heap[c]? = some o := fun c o hc => by
      change (if c = w.heap.size then _ else _) = _ at hc
      split at hc
      · rename_i ec; subst ec; rw [hnew]; exact hc
      · cases hc
    have hg := fun (g3 : Gh) st3 (hs3 : Sim g3 st3 a w) => hs3.grown (w' := w.alloc (.cells arr.toArray T)) rfl (by simp) (fun c hc => heap_alloc_old w _ hc) J0 hJ0
    refine hK _ (fun c => if w.heap.size ≤ c then J0 c else g.I c) _ ?_ ?_ ?_ trivial
    · exact (hg g st hs).2.1.I
    · intro g3 st3 h3 hs3
      have := hg g3 st3 hs3
      rw [h3] at this
      exact ⟨this.1, this.2.1⟩
    · refine ⟨rfl, _, len, by rw [r3], by rw [r3]; exact Nat.le_refl _, .inr ⟨w.heap.size, 0, arr.toArray, T, (0, 0), arr, rfl, ?_, fun _ => hs.B, FitR.mono ?_ e _ _ r1, by simp⟩⟩
      · show (if w.heap.size ≤ w.heap.size then J0 w.heap.size else _) = _
        rw [if_pos (Nat.le_refl _)]
        exact if_pos rfl
      · exact ⟨fun c o hc => (hg g st hs).2.1.I c o hc, Nat.le_refl _, Nat.le_refl _, fun _ _ => rfl⟩
  · exact h.elim

theorem QE_pop {P : Program} {st : St} (o : Oper) {r : SV} (h : (pop P st o.op).2 ∧ r = (pop P st o.op).1) {g : Gh} {a : Act} {w : World} (hs : Sim g st a w) {K' : Act → World → Prop} {Q : Exit → Act → World → Prop}
    (hK : ∀ v J w2, (∀ c o, g.I c = some o → J c = some o) → (∀ g3 st3, g3.I = g.I → Sim g3 st3 a w → Sim { g3 with I := J } st3 a w2 ∧ g3.to { g3 with I := J }) → SFit { g with I := J } w2 r v none → AlOk { g with I := J } st a w2 r v → K' (a.put o.dst v) w2) : o.wp P a w K' Q := by
  obtain ⟨v, hr, hf, ha⟩ := pop_ok o g a w hs h.1
  rw [← h.2] at hf ha
  unfold Oper.wp
  rw [hr]
  exact hK v g.I w (fun _ _ h => h) (fun g3 st3 h3 hs3 => by rw [← h3]; exact ⟨hs3, hs3.refl_to⟩) hf ha

theorem QE_wp {P : Program} {st : St} (o : Oper) {r : SV} (h : QE P st o.op r) {g : Gh} {a : Act} {w : World} (hs : Sim g st a w) {K' : Act → World → Prop} {Q : Exit → Act → World → Prop}
    (hK : ∀ v J w2, (∀ c o, g.I c = some o → J c = some o) → (∀ g3 st3, g3.I = g.I → Sim g3 st3 a w → Sim { g3 with I := J } st3 a w2 ∧ g3.to { g3 with I := J }) → SFit { g with I := J } w2 r v none → AlOk { g with I := J } st a w2 r v → K' (a.put o.dst v) w2) : o.wp P a w K' Q := by
  cases hop : o.op
  case call c =>
    rw [hop] at h
    simp only [QE] at h
    split at h
    · rename_i x hcal
      split at h
      · rename_i f p q hce
        rw [vwA_eq, frzL_map, frzL_map] at h
        obtain ⟨h1, h2, R, ⟨hcall, hA⟩, hR⟩ := h
        have hc : c = { callee := .value x, args := c.args, argTypes := c.argTypes } := by cases c; simp only at hcal; rw [hcal]
        obtain ⟨u, v, hx, hu, hv'⟩ := callee_ok hs h1 hce
        have hr := frzP_ok hs 3
        have hfit : FitL (snap w) (p.map (frzW (frzP st.h 3)) ++ (c.args.toList.map (vw 3 st) ++ q.map (frzW (frzP st.h 3)))) (u.toList ++ (c.args.toList.map a.eval ++ v.toList)) := by
          refine FitL.append ?_ (FitL.append (vwL_ok hs 3 _ h2) ?_)
          · rw [← frzL_map]; exact FitL.frz hs.I hr _ _ hu
          · rw [← frzL_map]; exact FitL.frz hs.I hr _ _ hv'
        have hcalls := hA w _ hfit
        have harr : (u.toList ++ (c.args.toList.map a.eval ++ v.toList)).toArray = u ++ c.args.map a.eval ++ v := by
          apply Array.ext'
          simp
        rw [harr] at hcalls
        unfold Oper.wp
        have hrun : (execOp a.eval o).run P w = .ok (.enter f (u ++ c.args.map a.eval ++ v)) w := by
          unfold callable at hcall
          split at hcall
          case h_2 => cases hcall
          rename_i fn hfn
          simp only [Bool.and_eq_true, Bool.not_eq_true'] at hcall
          simp only [execOp, hop, resolve, hcal, hx, Deferred.ofValue, invoke, callFunc, Sem.run_bind, Sem.run_pure, Result.andThen_ok, run_program, hfn, hcall.1, hcall.2, Bool.false_eq_true, if_false]
        rw [hrun, Oper.upon_enter]
        refine hcalls.mono fun e w' ⟨val, r', g', ob, he, hRr, hE, hF, hin, hob⟩ => ?_
        subst he
        obtain ⟨hnw, hreq⟩ := hR r' hRr
        obtain ⟨J, h5, h6, h7⟩ := hs.resultF hE hF hob hnw
        rw [hreq] at hK
        exact hK val J w' h5 h6 ⟨rfl, h7⟩ trivial
      · exact h.elim
    · rename_i hcal
      exact QE_pop o (by rw [hop]; exact h) hs hK
  case buildSlice t len parts => rw [hop] at h; exact QE_bsl o hop h hs hK
  all_goals exact QE_pop o (by rw [hop] at h ⊢; exact h) hs hK

end Go.AX
