/-
  AX, part Q: calls of functions that are handed blocks of the caller's, and may write them.
-/
import Derived.Test.YtipaihpchnlkfaaAxP
namespace Go.AX
open Classical

/-- The ghost part within the call. -/
noncomputable def gIn (g : Gh) (w : World) (bl : Pos → Option Nat) (N : Nat) : Gh :=
  { I := g.I, F := fun c => if ∃ s, bl (.slot s) = some c then w.heap[c]? else g.F c, B := g.B, μ := g.μ, n := g.n, n0 := g.n, N := N, env := g.env }

theorem gIn_slot {g : Gh} {st : St} {a : Act} {w : World} {bl : Pos → Option Nat} (hb : Owns g st a w bl) (N : Nat) {s c : Nat} (h : bl (.slot s) = some c) : ∃ o, (gIn g w bl N).F c = some o ∧ w.heap[c]? = some o := by
  have hlt := (hb.free _ c h).2.2.1
  refine ⟨w.heap[c], ?_, Array.getElem?_eq_getElem hlt⟩
  show (if ∃ s, bl (.slot s) = some c then w.heap[c]? else g.F c) = _
  rw [if_pos ⟨s, h⟩, Array.getElem?_eq_getElem hlt]

theorem gIn_none {g : Gh} {st : St} {a : Act} {w : World} {bl : Pos → Option Nat} (hb : Owns g st a w bl) {N c : Nat} (h : (gIn g w bl N).F c = none) : g.F c = none ∧ ∀ s, bl (.slot s) ≠ some c := by
  have h2 : ∀ s, bl (.slot s) ≠ some c := fun s hs => by
    obtain ⟨o, h1, _⟩ := gIn_slot hb N hs
    rw [h] at h1; cases h1
  refine ⟨?_, h2⟩
  have : (if ∃ s, bl (.slot s) = some c then w.heap[c]? else g.F c) = none := h
  rwa [if_neg (fun ⟨s, hs⟩ => h2 s hs)] at this

theorem sim_in {g : Gh} {st : St} {a : Act} {w : World} (h : Sim g st a w) {bl : Pos → Option Nat} (hb : Owns g st a w bl) {N : Nat} {args : List PV} {vs : List Value} (hv : FitL g args vs) (hn : args.length ≤ N) :
    Sim (gIn g w bl N) ⟨argT 0 args, st.h⟩ { tmps := vs.toArray ++ Array.replicate (N - vs.toArray.size) undef, defers := [] } w := by
  have hl := hv.length
  have hle : g.le (gIn g w bl N) := ⟨fun _ _ h => h, Nat.le_refl _, Nat.le_refl _, fun _ _ => rfl⟩
  have hgd : ∀ s, (vs.toArray ++ Array.replicate (N - vs.toArray.size) undef).getD s undef = vs.getD s undef := by
    intro s
    simp only [Array.getD_eq_getD_getElem?, List.getD_eq_getElem?_getD, Array.getElem?_append, List.size_toArray, List.getElem?_toArray, Array.getElem?_replicate]
    split
    · rfl
    · rename_i hs
      rw [List.getElem?_eq_none (by omega)]
      split <;> rfl
  refine { size := ?_, defs := rfl, env := h.env, n := h.n, n0 := Nat.le_refl _, B := h.B, I := h.I, F := fun c o hc => ?_, μI := fun b hbn => ⟨(h.μI b hbn).1, ?_⟩, μinj := h.μinj,
           own := ⟨fun p => match p with | .slot _ => none | .cell b k => bl (.cell b k), ?_⟩, al := fun s => ?_ }
  · show (vs.toArray ++ Array.replicate (N - vs.toArray.size) undef).size = N
    simp; omega
  · change (if ∃ s, bl (.slot s) = some c then w.heap[c]? else g.F c) = some o at hc
    split at hc
    · exact hc
    · exact h.F c o hc
  · show (if ∃ s, bl (.slot s) = some (g.μ b) then w.heap[g.μ b]? else g.F (g.μ b)) = none
    rw [if_neg (fun ⟨s, hs⟩ => (hb.free _ _ hs).2.2.2 b hbn rfl)]
    exact (h.μI b hbn).2
  · refine { slots := fun s => ?_, blocks := fun b xs hx => ?_, inj := fun p q c hp hq => ?_, free := fun p c hp => ?_ }
    · show SFit _ w _ ((vs.toArray ++ Array.replicate (N - vs.toArray.size) undef).getD s undef) none
      rw [hgd]
      have := look_argT (gIn g w bl N) args vs 0 s (FitL.mono hle _ _ hv) w
      simpa using this
    · obtain ⟨arr, T, h1, h2, h3⟩ := hb.blocks b xs hx
      exact ⟨arr, T, h1, h2, fun k x hk => ⟨(h3 k x hk).1, SFit.frame hle (fun _ _ => rfl) (h3 k x hk).2⟩⟩
    · cases p with
      | slot s => cases hp
      | cell b k =>
        cases q with
        | slot s => cases hq
        | cell b' k' => exact hb.inj _ _ c hp hq
    · cases p with
      | slot s => cases hp
      | cell b k =>
        obtain ⟨f1, f2, f3, f4⟩ := hb.free _ c hp
        refine ⟨f1, ?_, f3, f4⟩
        show (if ∃ s, bl (.slot s) = some c then w.heap[c]? else g.F c) = none
        rw [if_neg (fun ⟨s, hs⟩ => by have := hb.inj _ _ c hs hp; cases this)]
        exact f2
  · obtain ⟨x, hx⟩ := noOwn_argT args 0 s
    simp only [hx]; trivial

/-- Behind the call. -/
def gOut (g g2 : Gh) : Gh := { g2 with F := g.F, n0 := g.n0, N := g.N }

theorem to_out {g : Gh} {st : St} {a : Act} {w : World} (h : Sim g st a w) {bl : Pos → Option Nat} (hb : Owns g st a w bl) {N : Nat} {g2 : Gh} (t : (gIn g w bl N).to g2) : g.to (gOut g g2) :=
  ⟨t.I, rfl, t.B, rfl, rfl, t.env, Nat.le_trans h.n0 t.n, fun b hbn => t.μ b (Nat.lt_of_lt_of_le hbn h.n0), fun c hF hI => t.FI c (fun hn => hF (gIn_none hb hn).1) hI⟩

theorem sim_out {g : Gh} {st : St} {a : Act} {w : World} (h : Sim g st a w) {bl : Pos → Option Nat} (hb : Owns g st a w bl) {N : Nat} {g2 : Gh} (t : (gIn g w bl N).to g2) {st2 : St} {a2 : Act} {w2 : World} (s2 : Sim g2 st2 a2 w2)
    {bl2 : Pos → Option Nat} (hb2 : Owns g2 st2 a2 w2 bl2) : Sim (gOut g g2) ⟨killL qCell st.t, st2.h⟩ a w2 ∧
      Owns (gOut g g2) ⟨killL qCell st.t, st2.h⟩ a w2 (fun p => match p with | .slot s => bl (.slot s) | .cell b k => bl2 (.cell b k)) := by
  have hF2 : g2.F = (gIn g w bl N).F := t.F
  have hle : g.le (gOut g g2) := ⟨t.I, by show g2.B ≤ g.B; rw [t.B]; exact Nat.le_refl _, t.n, fun b hbn => t.μ b hbn⟩
  have hle2 : g2.le (gOut g g2) := ⟨fun _ _ h => h, Nat.le_refl _, Nat.le_refl _, fun _ _ => rfl⟩
  have hslot : ∀ s c, bl (.slot s) = some c → ∃ o, g2.F c = some o ∧ w.heap[c]? = some o ∧ w2.heap[c]? = some o := fun s c hs => by
    obtain ⟨o, h1, h2⟩ := gIn_slot hb N hs
    rw [← hF2] at h1
    exact ⟨o, h1, h2, s2.F c o h1⟩
  have hFn : ∀ c, g2.F c = none → g.F c = none ∧ ∀ s, bl (.slot s) ≠ some c := fun c hc => gIn_none (N := N) hb (by rw [← hF2]; exact hc)
  have hown : Owns (gOut g g2) ⟨killL qCell st.t, st2.h⟩ a w2 (fun p => match p with | .slot s => bl (.slot s) | .cell b k => bl2 (.cell b k)) := by
    refine { slots := fun s => ?_, blocks := fun b xs hx => ?_, inj := fun p q c hp hq => ?_, free := fun p c hp => ?_ }
    · simp only [look_kill]
      exact SFit.frame hle (fun c hc => by obtain ⟨o, _, h2, h3⟩ := hslot s c hc; rw [h2, h3]) (SFit.kill qCell (hb.slots s))
    · obtain ⟨arr, T, h1, h2, h3⟩ := hb2.blocks b xs hx
      exact ⟨arr, T, h1, h2, fun k x hk => ⟨(h3 k x hk).1, SFit.frame hle2 (fun _ _ => rfl) (h3 k x hk).2⟩⟩
    · cases p with
      | slot s =>
        cases q with
        | slot s' => exact hb.inj _ _ c hp hq
        | cell b k => exact absurd hp ((hFn c (hb2.free _ c hq).2.1).2 s)
      | cell b k =>
        cases q with
        | slot s' => exact absurd hq ((hFn c (hb2.free _ c hp).2.1).2 s')
        | cell b' k' => exact hb2.inj _ _ c hp hq
    · cases p with
      | slot s =>
        obtain ⟨f1, f2, f3, f4⟩ := hb.free _ c hp
        obtain ⟨o, h1, _, h3⟩ := hslot s c hp
        refine ⟨t.FI c (fun hn => by rw [hF2, hn] at h1; cases h1) f1, f2, (Array.getElem?_eq_some_iff.1 h3).1, fun b hbn e => ?_⟩
        have := (s2.μI b hbn).2
        change g2.μ b = c at e
        rw [e, h1] at this; cases this
      | cell b k =>
        obtain ⟨f1, f2, f3, f4⟩ := hb2.free _ c hp
        exact ⟨f1, (hFn c f2).1, f3, f4⟩
  refine ⟨{ size := h.size, defs := h.defs, env := s2.env, n := s2.n, n0 := Nat.le_trans h.n0 t.n, B := s2.B, I := s2.I, F := fun c o hc => ?_, μI := fun b hbn => ⟨(s2.μI b hbn).1, (hFn _ (s2.μI b hbn).2).1⟩, μinj := s2.μinj, own := ⟨_, hown⟩, al := fun s => ?_ }, hown⟩
  · refine s2.F c o ?_
    rw [hF2]
    show (if ∃ s, bl (.slot s) = some c then w.heap[c]? else g.F c) = some o
    rw [if_neg (fun ⟨s, hs⟩ => by have := (hb.free _ c hs).2.1; change g.F c = some o at hc; rw [this] at hc; cases hc)]
    exact hc
  · simp only [look_kill]
    rcases killS_cases qCell (look st.t s) with e | ⟨e, hav⟩
    · rw [e]; trivial
    · rw [e]
      refine AlOk.congrA (q := qCell) (fun p hqp hp => ?_) hav (h.al s)
      cases p with
      | cell b k => cases hqp
      | slot s' =>
        simp only [posGet, look_kill] at hp ⊢
        exact ⟨killS_own hp, rfl⟩

theorem amut_of {P : Program} {f : FuncId} {fn : Func} {c : Code} {args : List PV} {h : List (List SV)} {R : SV → List (List SV) → Prop} {K : St → Prop} (hmo : P.follows .mixedOrders = true) (hf : P.funcs[f]? = some fn) (hcall : callable P f = true) (hb : fn.body = some c)
    (hok : okC fn.ntmps c = true) (hn : args.length ≤ fn.ntmps) (hA : AC P h.length c (endQ K) ⟨argT 0 args, h⟩)
    (hK : ∀ (g' : Gh) (st' : St) (a' : Act) (w' : World), K st' → Sim g' st' a' w' → ∃ v r g2 st2 bl2 o, (results fn a'.tmps).run P w' = .ok v w' ∧ g'.to g2 ∧ Sim g2 st2 a' w' ∧ Owns g2 st2 a' w' bl2 ∧ R r st2.h ∧ SFit g2 w' r v o ∧ r.inCell = true ∧ ∀ c, o = some c → ∃ t, bl2 (.slot t) = some c) :
    AMut P f args h R := by
  refine ⟨hcall, fun g st a w vs hs hh hv => ?_⟩
  refine calls_of_wp hf hb ?_
  obtain ⟨bl, hbl⟩ := hs.own
  have hsi := sim_in hs hbl (N := fn.ntmps) hv hn
  rw [hh] at hsi
  refine AC_wp hmo c hA (g := gIn g w bl fn.ntmps) ⟨hok, by show g.n ≤ h.length; rw [hs.n, hh]; exact Nat.le_refl _⟩ hsi fun e st' g' a' w' hq t' s' => ?_
  have fin : K st' → a'.defers = [] ∧ ∃ v, (results fn a'.tmps).run P w' = .ok v w' ∧ ∃ v' r h' g', Ending.returned v = .returned v' ∧ R r h' ∧ g.to g' ∧ ∀ d, dstOk g.N d → Sim g' (putR d r ⟨killL qCell st.t, h'⟩) (a.put d v') w' := fun hk => by
    obtain ⟨v, r, g2, st2, bl2, o, h1, h2, h3, h4, h5, h6, h7, h8⟩ := hK g' st' a' w' hk s'
    have t2 := t'.trans h2
    obtain ⟨so, oo⟩ := sim_out hs hbl t2 h3 h4
    refine ⟨s'.defs, v, h1, v, r, st2.h, gOut g g2, rfl, h5, to_out hs hbl t2, fun d hd => ?_⟩
    have hle2 : g2.le (gOut g g2) := ⟨fun _ _ h => h, Nat.le_refl _, Nat.le_refl _, fun _ _ => rfl⟩
    have hfit : SFit (gOut g g2) w' r v o := SFit.frame hle2 (fun _ _ => rfl) h6
    cases d with
    | none => exact so
    | some d =>
      have hfree : ∀ c, o = some c → c < w'.heap.size ∧ FreeAt (gOut g g2) (fun p => match p with | .slot s => bl (.slot s) | .cell b k => bl2 (.cell b k)) c := fun c hc => by
        obtain ⟨t, ht⟩ := h8 c hc
        obtain ⟨f1, f2, f3, f4⟩ := h4.free _ c ht
        have hFn := gIn_none (N := fn.ntmps) hbl (c := c) (by rw [← t2.F]; exact f2)
        refine ⟨f3, f1, hFn.1, f4, fun p hp => ?_⟩
        cases p with
        | slot s => exact hFn.2 s hp
        | cell b k => have := h4.inj _ _ c ht hp; cases this
      cases r with
      | pv x => exact so.put hd (by rw [hfit.1] at hfit; exact hfit) trivial rfl
      | own nw e rows => exact so.putOwn oo hd rfl (Nat.le_refl _) (fun _ _ _ => rfl) hfit rfl hfree
      | omap nw es => exact so.putOwn oo hd rfl (Nat.le_refl _) (fun _ _ _ => rfl) hfit rfl hfree
      | _ => cases h7
  cases e with
  | normal => exact fin hq
  | ret => exact fin hq
  | _ => exact hq.elim

/-- One result. -/
def retM (t : Nat) (R : SV → List (List SV) → Prop) (st : St) : Prop :=
  match look st.t t with
  | .pv x => R (.pv x) st.h
  | .own nw e rows => R (.own nw e rows) st.h
  | .omap nw es => R (.omap nw es) st.h
  | .opt c (.pv x) => c ∧ R (.pv x) st.h
  | _ => False

def retMN (ts : List Nat) (R : SV → List (List SV) → Prop) (st : St) : Prop := (embL st (ts.map .tmp)).2.2 ∧ R (.pv (.tup (embL st (ts.map .tmp)).1)) (embL st (ts.map .tmp)).2.1.h

theorem amut1 {P : Program} {f : FuncId} {fn : Func} {c : Code} {args : List PV} {h : List (List SV)} {R : SV → List (List SV) → Prop} {t : Nat} (hmo : P.follows .mixedOrders = true) (hf : P.funcs[f]? = some fn) (hcall : callable P f = true) (hb : fn.body = some c) (hr : fn.results = #[.tmp t])
    (hok : okC fn.ntmps c = true) (hn : args.length ≤ fn.ntmps) (hA : AC P h.length c (endQ (retM t R)) ⟨argT 0 args, h⟩) : AMut P f args h R := by
  refine amut_of hmo hf hcall hb hok hn hA fun g' st' a' w' hk s' => ?_
  obtain ⟨bl, hb⟩ := s'.own
  have hfit := hb.slots t
  unfold retM at hk
  split at hk
  · rename_i x hx
    rw [hx] at hfit
    exact ⟨_, .pv x, g', st', bl, none, results_tmp hr _ _ _, s'.refl_to, s', hb, hk, ⟨rfl, hfit.2⟩, rfl, fun c hc => by cases hc⟩
  · rename_i nw e rows hx
    rw [hx] at hfit
    exact ⟨_, _, g', st', bl, _, results_tmp hr _ _ _, s'.refl_to, s', hb, hk, hfit, rfl, fun c hc => ⟨t, hc⟩⟩
  · rename_i nw es hx
    rw [hx] at hfit
    exact ⟨_, _, g', st', bl, _, results_tmp hr _ _ _, s'.refl_to, s', hb, hk, hfit, rfl, fun c hc => ⟨t, hc⟩⟩
  · rename_i cc x hx
    rw [hx] at hfit
    exact ⟨_, .pv x, g', st', bl, none, results_tmp hr _ _ _, s'.refl_to, s', hb, hk.2, ⟨rfl, (hfit.2.2 hk.1).2⟩, rfl, fun c hc => by cases hc⟩
  · exact hk.elim

theorem amutN {P : Program} {f : FuncId} {fn : Func} {c : Code} {args : List PV} {h : List (List SV)} {R : SV → List (List SV) → Prop} (ts : List Nat) (hmo : P.follows .mixedOrders = true) (hf : P.funcs[f]? = some fn) (hcall : callable P f = true) (hb : fn.body = some c)
    (hr : ∀ tmps w, (results fn tmps).run P w = .ok (.tuple (ts.map fun t => tmps.getD t undef).toArray) w) (hok : okC fn.ntmps c = true) (hn : args.length ≤ fn.ntmps) (hA : AC P h.length c (endQ (retMN ts R)) ⟨argT 0 args, h⟩) : AMut P f args h R := by
  refine amut_of hmo hf hcall hb hok hn hA fun g' st' a' w' hk s' => ?_
  obtain ⟨g2, t2, _, _, s2, f2⟩ := embL_ok _ s' hk.1
  obtain ⟨bl2, hb2⟩ := s2.own
  refine ⟨_, _, g2, _, bl2, none, hr _ _, t2, s2, hb2, hk.2, ⟨rfl, _, rfl, ?_⟩, rfl, fun c hc => by cases hc⟩
  simpa [List.map_map, Function.comp_def, Act.eval] using f2

end Go.AX
