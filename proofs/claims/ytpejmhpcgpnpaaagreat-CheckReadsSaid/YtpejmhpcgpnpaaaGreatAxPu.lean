/-
  AX, part Pu: a call that leaves all as it was, and whose result is plain, changes nothing.
-/
import Derived.Test.YtpejmhpcgpnpaaaGreatAxBe
import Derived.Test.YtpejmhpcgpnpaaaGreatAxR
namespace Go.AX
theorem AMut.pure {P : Program} {f : FuncId} {args : List PV} {R : SV → Prop} (hm : AMut P f args [] (fun r _ => ∃ x, r = .pv x ∧ R (.pv x))) : APure P f args R := by
 refine ⟨hm.1, fun w vs hv => ?_⟩; have hs := sim_enter (N := args.length + 1) hv (Nat.le_succ _); refine (hm.2 _ _ _ _ vs hs rfl (fit_enter hv)).mono fun e w' ⟨v, r, h', g', he, ⟨x, hr, hR⟩, t', hd⟩ => ?_; subst hr; have hN : args.length < (gEnter w (args.length + 1)).N := Nat.lt_succ_self _; have s' := hd (some args.length) hN; obtain ⟨bl, hb⟩ := s'.own; have hf := hb.slots args.length; have hsz : args.length < (vs.toArray ++ Array.replicate (args.length + 1 - vs.toArray.size) undef).size := by
  rw [hs.size]; exact hN
 rw [getD_put hsz, if_pos rfl] at hf; have hl : look (putR (some args.length) (.pv x) ⟨killL qCell (argT 0 args), h'⟩).t args.length = .pv x := by
  simp [putR, look, St.put]
 rw [hl] at hf; exact ⟨v, .pv x, g', none, he, hR, pureEnd_of t' s', ⟨rfl, hf.2⟩, rfl, fun c hc => by cases hc⟩
def argsPv (st : St) : List Operand → List PV → Prop
 | [], zs => zs = []
 | a :: xs, zs => ∃ z r, zs = z :: r ∧ gc st a ∧ mv st a = .pv z ∧ argsPv st xs r
theorem argsPv_ok {st : St} {g : Gh} {a : Act} {w : World} (h : Sim g st a w) : ∀ {xs : List Operand} {zs : List PV}, argsPv st xs zs → FitL g zs (xs.map a.eval)
 | [], zs, hq => by
  have : zs = [] := hq; subst this; rfl
 | x :: xs, zs, ⟨z, r, hz, hg, hm, hr⟩ => by
  subst hz; obtain ⟨hf, _⟩ := mv_ok h x hg; rw [hm] at hf; exact ⟨_, _, rfl, hf.2, argsPv_ok h hr⟩
theorem fitL_app {g : Gh} : ∀ {xs ys : List PV} {us vs : List Value}, FitL g xs us → FitL g ys vs → FitL g (xs ++ ys) (us ++ vs)
 | [], ys, us, vs, h, k => by
  have : us = [] := h; subst this; exact k
 | x :: xs, ys, us, vs, ⟨v, r, h1, h2, h3⟩, k => by
  subst h1; exact ⟨v, r ++ vs, rfl, h2, fitL_app h3 k⟩
theorem CallX.pureM {P : Program} {st : St} {x : Operand} {args : Array Operand} {d : Nat} {K : St → Prop} {f : FuncId} {p q zs : List PV} {y : PV} (hA : AMut P f (p ++ (zs ++ q)) [] (fun r _ => r = .pv y))
    (hg : gc st x) (hc : calleeOf st x = some (f, p, q)) (ha : argsPv st args.toList zs) (hb : belowL 0 (p ++ (zs ++ q))) (hy : y.bel 0)
    (hK : K (st.put d (.pv y))) : CallX P st x args (some d) K := by
  intro o tys ho hdd g a w h hd K' Q hfin
  obtain ⟨hcall, hA⟩ := hA
  obtain ⟨u, v, hu, hv, hrun⟩ := call_enter h o x args tys f p q ho hg hc hcall
  have hfit : FitL g (p ++ (zs ++ q)) (u.toList ++ (args.toList.map a.eval ++ v.toList)) := fitL_app hu (fitL_app (argsPv_ok h ha) hv)
  generalize hpa : p ++ (zs ++ q) = pa at *
  generalize hvs : u.toList ++ (args.toList.map a.eval ++ v.toList) = vs at *
  let g0 : Gh := { g with F := fun c => if g.I c = none then w.heap[c]? else none, n := 0, n0 := 0, N := pa.length + 1, env := envOf w }
  have hle0 : Gh.le { g with n := 0 } g0 := ⟨fun _ _ h => h, Nat.le_refl _, Nat.le_refl _, fun _ h => absurd h (Nat.not_lt_zero _)⟩
  have hfit0 : FitL g0 pa vs := FitL.mono hle0 _ _ (FitL.below pa vs hb hfit)
  have hl := hfit0.length
  have hgd : ∀ s, (vs.toArray ++ Array.replicate (pa.length + 1 - vs.toArray.size) undef).getD s undef = vs.getD s undef := by
    intro s
    simp only [Array.getD_eq_getD_getElem?, List.getD_eq_getElem?_getD, Array.getElem?_append, List.size_toArray, List.getElem?_toArray, Array.getElem?_replicate]
    split
    · rfl
    · rename_i hs
      rw [List.getElem?_eq_none (by omega)]
      split <;> rfl
  have hs0 : Sim g0 ⟨argT 0 pa, []⟩ { tmps := vs.toArray ++ Array.replicate (pa.length + 1 - vs.toArray.size) undef, defers := [] } w := by
    refine { size := ?_, defs := rfl, env := rfl, n := rfl, n0 := Nat.le_refl _, B := h.B, I := h.I, F := fun c o hc => ?_, μI := fun b hb => absurd hb (Nat.not_lt_zero _), μinj := fun b b' hb => absurd hb (Nat.not_lt_zero _),
             own := ⟨fun _ => none, ?_⟩, al := fun s => ?_ }
    · show (vs.toArray ++ Array.replicate (pa.length + 1 - vs.toArray.size) undef).size = pa.length + 1
      simp; omega
    · change (if g.I c = none then w.heap[c]? else none) = some o at hc
      split at hc
      · exact hc
      · cases hc
    · refine { slots := fun s => ?_, blocks := fun b xs hx => (by simp at hx), inj := fun p q c hp => (by cases hp), free := fun p c hp => by cases hp }
      show SFit _ w _ ((vs.toArray ++ Array.replicate (pa.length + 1 - vs.toArray.size) undef).getD s undef) none
      rw [hgd]
      have := look_argT g0 pa vs 0 s hfit0 w
      simpa using this
    · obtain ⟨x, hx⟩ := noOwn_argT pa 0 s
      simp only [hx]; trivial
  unfold Oper.wp
  rw [hrun, Oper.upon_enter]
  refine (hA g0 _ _ w vs hs0 rfl hfit0).mono fun e w' ⟨v', r, h', g', he, hr, t', hdx⟩ => ?_
  subst he; subst hr
  have hN : pa.length < g0.N := Nat.lt_succ_self _
  have s' := hdx (some pa.length) hN
  obtain ⟨bl, hbo⟩ := s'.own
  have hf := hbo.slots pa.length
  have hsz : pa.length < (vs.toArray ++ Array.replicate (pa.length + 1 - vs.toArray.size) undef).size := by
    rw [hs0.size]; exact hN
  rw [getD_put hsz, if_pos rfl] at hf
  have hlk : look (putR (some pa.length) (.pv y) ⟨killL qCell (argT 0 pa), h'⟩).t pa.length = .pv y := by
    simp [putR, look, St.put]
  rw [hlk] at hf
  have hkeep : ∀ c, c < w.heap.size → w'.heap[c]? = w.heap[c]? := fun c hc => by
    have hx : w.heap[c]? = some w.heap[c] := Array.getElem?_eq_getElem hc
    cases hI : g.I c with
    | some o => rw [s'.I c o (t'.I c o hI), h.I c o hI]
    | none =>
      have hF : g'.F c = some w.heap[c] := by
        rw [t'.F]
        show (if g.I c = none then w.heap[c]? else none) = _
        rw [if_pos hI, hx]
      rw [s'.F c _ hF, hx]
  have hsize : w.heap.size ≤ w'.heap.size := by
    cases hsz2 : w.heap.size with
    | zero => exact Nat.zero_le _
    | succ n =>
      have h1 := hkeep n (by omega)
      rw [Array.getElem?_eq_getElem (show n < w.heap.size by omega)] at h1
      have := (Array.getElem?_eq_some_iff.1 h1).1
      omega
  have henv : envOf w' = envOf w := s'.env.trans t'.env
  obtain ⟨h1, h2, h3⟩ := h.grown henv hsize hkeep g'.I s'.I
  have hfy : Fit { g with I := fun c => if w.heap.size ≤ c then g'.I c else g.I c } y v' := by
    refine Fit.mono ?_ _ _ (Fit.below y v' hy hf.2)
    refine ⟨fun c o hc => ?_, ?_, Nat.zero_le _, fun _ hb => absurd hb (Nat.not_lt_zero _)⟩
    · show (if w.heap.size ≤ c then g'.I c else g.I c) = some o
      have hc' : g'.I c = some o := hc
      split
      · exact hc'
      · rename_i hlt
        cases hI : g.I c with
        | some o2 => rw [t'.I c o2 hI] at hc'; exact hc'
        | none =>
          have hx : w.heap[c]? = some (w.heap[c]'(by omega)) := Array.getElem?_eq_getElem (by omega)
          have := t'.FI c (by show (if g.I c = none then w.heap[c]? else none) ≠ none; rw [if_pos hI, hx]; simp) hI
          rw [this] at hc'; cases hc'
    · show g.B ≤ g'.B
      rw [t'.B]
      exact Nat.le_refl _
  rw [hdd]
  have hd' : d < g.N := hd
  exact hfin _ _ _ _ hK h2 (h1.put hd' ⟨rfl, hfy⟩ trivial rfl)
end Go.AX
