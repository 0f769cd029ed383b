/-
  AX, part La: the last block but one is forgotten.
  AX, part Ag: a function that gives a struct a part of which is a slice of its own.
  AX, part Lo: a function that gives a part of a slice that one of the caller's blocks owns.
-/
import Derived.Test.YtjhchangnkmedaaAxBL
namespace Go.AX

theorem SFit.le1 {g g' : Gh} (hl : g.le g') (hB : g'.B = g.B) {w : World} : ∀ {x : SV} {v : Value} {b : Option Nat}, SFit g w x v b → SFit g' w x v b
  | .pv x, _, _, h => ⟨h.1, Fit.mono hl x _ h.2⟩
  | .own _ e rows, _, _, h => h.imp id fun ⟨c, h1, cap, arr, T, vs, a1, a2, a3, a4, a5, a6, a7⟩ => ⟨c, h1, cap, arr, T, vs, a1, a2, a3, a4, FitR.mono hl e rows vs a5, a6, fun hn => by rw [hB]; exact a7 hn⟩
  | .omap _ es, _, _, ⟨c, h1, en, ck, a1, a2, a3, a4⟩ => ⟨c, h1, en, ck, a1, a2, FitE.mono hl es _ a3, fun hn => by rw [hB]; exact a4.1 hn, a4.2⟩
  | .opt _ _, _, _, h => ⟨h.1, h.2.1, fun hc => SFit.le1 hl hB (h.2.2 hc)⟩
  | .al _, _, _, h => h
  | .loc _ _ _, _, _, h => h
  | .sptr _ _ _, _, _, h => h
  | .agl xs, _, _, ⟨h, vs, h1, h2⟩ => ⟨h, vs, h1, FitL.mono hl _ _ h2⟩

theorem Weak.last {k0 : Nat} {t : List (Nat × SV)} {B : List (List SV)} {x y : List SV} {s0 off : Nat} (ht : belowT B.length t) (hB : belowH B.length B) (hy : ∀ v ∈ y, ∃ p, v = .pv p ∧ p.bel B.length) (hk : k0 ≤ B.length) :
    Weak k0 ⟨(s0, .pv (.ptr (B.length + 1) off)) :: t, B ++ [x, y]⟩ ⟨(s0, .pv (.ptr B.length off)) :: t, B ++ [y]⟩ := fun g a w h0 hs => by
  obtain ⟨bl, hbl⟩ := hs.own
  have hn : g.n = B.length + 2 := by rw [hs.n]; simp
  let g' : Gh := { g with n := B.length + 1, μ := fun b => if b = B.length then g.μ (B.length + 1) else g.μ b }
  have hm : ∀ b, b < B.length → g'.μ b = g.μ b := fun b hb => by show (if b = B.length then _ else _) = _; rw [if_neg (by omega)]
  have hml : g'.μ B.length = g.μ (B.length + 1) := by show (if B.length = B.length then _ else _) = _; rw [if_pos rfl]
  have hle : ({ g with n := B.length } : Gh).le g' := ⟨fun _ _ h => h, Nat.le_refl _, Nat.le_succ _, fun b hb => hm b hb⟩
  have fit : ∀ {x : SV} {v : Value} {b : Option Nat}, x.bel B.length → SFit g w x v b → SFit g' w x v b := fun hb h => SFit.le1 hle rfl (SFit.below hb h)
  have look1 : ∀ (q : SV) s, s ≠ s0 → look ((s0, q) :: t) s = look t s := fun q s h => by simp only [look]; rw [if_neg (Ne.symm h)]
  have look0 : ∀ (q : SV), look ((s0, q) :: t) s0 = q := fun q => by simp [look]
  have hpos : ∀ p, (posGet ⟨(s0, .pv (.ptr B.length off)) :: t, B ++ [y]⟩ p).isOwn = true → posGet ⟨(s0, .pv (.ptr B.length off)) :: t, B ++ [y]⟩ p = posGet ⟨(s0, .pv (.ptr (B.length + 1) off)) :: t, B ++ [x, y]⟩ p ∧ posVal g' a w p = posVal g a w p := by
    intro p hp
    cases p with
    | slot s =>
      refine ⟨?_, rfl⟩
      simp only [posGet] at hp ⊢
      by_cases e : s = s0
      · subst e; rw [look0] at hp; cases hp
      · rw [look1 _ s e, look1 _ s e]
    | cell b k =>
      simp only [posGet] at hp ⊢
      rcases Nat.lt_trichotomy b B.length with c | c | c
      · refine ⟨by simp [List.getD_eq_getElem?_getD, List.getElem?_append_left c], ?_⟩
        simp only [posVal]; rw [hm b c]
      · subst c
        simp only [List.getD_eq_getElem?_getD, List.getElem?_append_right (Nat.le_refl _), Nat.sub_self, List.getElem?_cons_zero, Option.getD_some] at hp
        cases hq : y[k]? with
        | none => rw [hq] at hp; cases hp
        | some z =>
          rw [hq] at hp
          obtain ⟨p, rfl, _⟩ := hy z (List.mem_of_getElem? hq)
          cases hp
      · have : (B ++ [y])[b]? = none := by rw [List.getElem?_eq_none]; simp; omega
        simp only [List.getD_eq_getElem?_getD, this, Option.getD_none] at hp
        cases hp
  refine ⟨g', ⟨fun _ _ h => h, rfl, rfl, rfl, rfl, rfl, by show g.n0 ≤ B.length + 1; omega, fun b hb => hm b (by omega), fun _ _ h => h⟩, ?_⟩
  have lift : ∀ b, b < B.length + 1 → ∃ b', b' < g.n ∧ g'.μ b = g.μ b' ∧ ((b < B.length ∧ b' = b) ∨ (b = B.length ∧ b' = B.length + 1)) := fun b hb => by
    rcases Nat.lt_or_ge b B.length with c | c
    · exact ⟨b, by omega, hm b c, .inl ⟨c, rfl⟩⟩
    · have : b = B.length := by omega
      subst this
      exact ⟨B.length + 1, by omega, hml, .inr ⟨rfl, rfl⟩⟩
  refine { size := hs.size, defs := hs.defs, env := hs.env, n := by show B.length + 1 = _; simp, n0 := by show g.n0 ≤ B.length + 1; omega, B := hs.B, I := hs.I, F := hs.F, μI := fun b hb => ?_, μinj := fun b c hb hc e => ?_,
           own := ⟨fun p => match p with | .slot s => bl (.slot s) | .cell b k => if b < B.length then bl (.cell b k) else none, ?_⟩, al := fun s => ?_ }
  · obtain ⟨b', h1, h2, _⟩ := lift b hb
    rw [h2]; exact hs.μI b' h1
  · obtain ⟨b', h1, h2, h3⟩ := lift b hb
    obtain ⟨c', i1, i2, i3⟩ := lift c hc
    have := hs.μinj b' c' h1 i1 (by rw [← h2, ← i2]; exact e)
    omega
  · have hsub : ∀ p c, (match p with | .slot s => bl (.slot s) | .cell b k => if b < B.length then bl (.cell b k) else none) = some c → bl p = some c := by
      intro p c hp
      cases p with
      | slot s => exact hp
      | cell b k =>
        simp only at hp
        split at hp
        · exact hp
        · cases hp
    refine { slots := fun s => ?_, blocks := fun b xs hx => ?_, inj := fun p q c hp hq => hbl.inj p q c (hsub p c hp) (hsub q c hq), free := fun p c hp => ?_ }
    · have h := hbl.slots s
      simp only at h ⊢
      by_cases e : s = s0
      · subst e
        rw [look0] at h ⊢
        obtain ⟨h1, h2, h3⟩ := h
        exact ⟨h1, Nat.lt_succ_self _, by rw [h3, hml]⟩
      · rw [look1 _ s e] at h ⊢
        exact fit (belowT_look ht s) h
    · rcases Nat.lt_trichotomy b B.length with c | c | c
      · have hx' : (B ++ [x, y])[b]? = some xs := by
          simp only at hx
          rw [List.getElem?_append_left c] at hx ⊢; exact hx
        obtain ⟨arr, T, e1, e2, e3⟩ := hbl.blocks b xs hx'
        refine ⟨arr, T, by rw [hm b c]; exact e1, e2, fun k z hz => ?_⟩
        simp only [if_pos c]
        simp only at hx
        rw [List.getElem?_append_left c] at hx
        exact ⟨(e3 k z hz).1, fit (belowC_get (belowH_get hB b xs hx) k z hz) (e3 k z hz).2⟩
      · subst c
        have hxy : xs = y := by
          simp only [List.getElem?_append_right (Nat.le_refl _), Nat.sub_self, List.getElem?_cons_zero, Option.some.injEq] at hx
          exact hx.symm
        subst hxy
        obtain ⟨arr, T, e1, e2, e3⟩ := hbl.blocks (B.length + 1) xs (by simp only; rw [List.getElem?_append_right (by omega)]; simp)
        refine ⟨arr, T, by rw [hml]; exact e1, e2, fun k z hz => ?_⟩
        obtain ⟨p, rfl, hp⟩ := hy z (List.mem_of_getElem? hz)
        simp only [Nat.lt_irrefl, if_false]
        have h := (e3 k _ hz).2
        exact ⟨rfl, fit (x := .pv p) (b := none) hp ⟨rfl, h.2⟩⟩
      · simp only at hx
        rw [List.getElem?_eq_none (by simp; omega)] at hx
        cases hx
    · obtain ⟨f1, f2, f3, f4⟩ := hbl.free p c (hsub p c hp)
      refine ⟨f1, f2, f3, fun b hb' => ?_⟩
      obtain ⟨b', h1, h2, _⟩ := lift b hb'
      rw [h2]; exact f4 b' h1
  · have h := hs.al s
    simp only at h ⊢
    by_cases e : s = s0
    · subst e; rw [look0]; trivial
    · rw [look1 _ s e] at h ⊢
      exact AlOk.congr hpos h

/-- Nil is a row of nothing. -/
theorem APure.own0 {P : Program} {f : FuncId} {args : List PV} {R R' : SV → Prop} (h : APure P f args R) (hr : ∀ r, R r → R' r ∨ (r = .pv (.lit (.slice none 0 0)) ∧ ∃ nw e, R' (.own nw e []))) : APure P f args R' := by
  refine ⟨h.1, fun w vs hv => (h.2 w vs hv).mono fun e w' ⟨v, r, g', o, h1, h2, h3, h4, h5, h6⟩ => ?_⟩
  rcases hr r h2 with h7 | ⟨rfl, nw, e', h7⟩
  · exact ⟨v, r, g', o, h1, h7, h3, h4, h5, h6⟩
  · exact ⟨v, _, g', o, h1, h7, h3, .inl ⟨h4.1, rfl, h4.2⟩, rfl, h6⟩

end Go.AX

namespace Go.AX

/-- A block's cells, told as a struct's parts. -/
def cellsAg (b : Nat) : Nat → List SV → List (PV × Option Pos)
  | _, [] => []
  | k, .pv x :: r => (x, none) :: cellsAg b (k + 1) r
  | k, _ :: r => (.bot, some (.cell b k)) :: cellsAg b (k + 1) r
theorem cellsAg_get (b : Nat) : ∀ (l : List SV) (k j : Nat) (y : PV) (q : Option Pos), (cellsAg b k l)[j]? = some (y, q) → ∃ z, l[j]? = some z ∧ ((z = .pv y ∧ q = none) ∨ (y = .bot ∧ q = some (.cell b (k + j))))
  | [], k, j, y, q, h => by simp [cellsAg] at h
  | .pv x :: r, k, 0, y, q, h => by simp [cellsAg] at h; exact ⟨_, rfl, .inl ⟨by rw [h.1], h.2.symm⟩⟩
  | .pv x :: r, k, j + 1, y, q, h => by
    obtain ⟨z, h1, h2⟩ := cellsAg_get b r (k + 1) j y q (by simpa [cellsAg] using h)
    exact ⟨z, by simpa using h1, by rwa [show k + 1 + j = k + (j + 1) by omega] at h2⟩
  | .own a e rows :: r, k, 0, y, q, h => by simp [cellsAg] at h; exact ⟨_, rfl, .inr ⟨h.1.symm, h.2.symm⟩⟩
  | .own a e rows :: r, k, j + 1, y, q, h => by
    obtain ⟨z, h1, h2⟩ := cellsAg_get b r (k + 1) j y q (by simpa [cellsAg] using h)
    exact ⟨z, by simpa using h1, by rwa [show k + 1 + j = k + (j + 1) by omega] at h2⟩
  | .omap a e :: r, k, 0, y, q, h => by simp [cellsAg] at h; exact ⟨_, rfl, .inr ⟨h.1.symm, h.2.symm⟩⟩
  | .omap a e :: r, k, j + 1, y, q, h => by
    obtain ⟨z, h1, h2⟩ := cellsAg_get b r (k + 1) j y q (by simpa [cellsAg] using h)
    exact ⟨z, by simpa using h1, by rwa [show k + 1 + j = k + (j + 1) by omega] at h2⟩
  | .al p :: r, k, 0, y, q, h => by simp [cellsAg] at h; exact ⟨_, rfl, .inr ⟨h.1.symm, h.2.symm⟩⟩
  | .al p :: r, k, j + 1, y, q, h => by
    obtain ⟨z, h1, h2⟩ := cellsAg_get b r (k + 1) j y q (by simpa [cellsAg] using h)
    exact ⟨z, by simpa using h1, by rwa [show k + 1 + j = k + (j + 1) by omega] at h2⟩
  | .loc p l m :: r, k, 0, y, q, h => by simp [cellsAg] at h; exact ⟨_, rfl, .inr ⟨h.1.symm, h.2.symm⟩⟩
  | .loc p l m :: r, k, j + 1, y, q, h => by
    obtain ⟨z, h1, h2⟩ := cellsAg_get b r (k + 1) j y q (by simpa [cellsAg] using h)
    exact ⟨z, by simpa using h1, by rwa [show k + 1 + j = k + (j + 1) by omega] at h2⟩
  | .sptr p l m :: r, k, 0, y, q, h => by simp [cellsAg] at h; exact ⟨_, rfl, .inr ⟨h.1.symm, h.2.symm⟩⟩
  | .sptr p l m :: r, k, j + 1, y, q, h => by
    obtain ⟨z, h1, h2⟩ := cellsAg_get b r (k + 1) j y q (by simpa [cellsAg] using h)
    exact ⟨z, by simpa using h1, by rwa [show k + 1 + j = k + (j + 1) by omega] at h2⟩
  | .agl p :: r, k, 0, y, q, h => by simp [cellsAg] at h; exact ⟨_, rfl, .inr ⟨h.1.symm, h.2.symm⟩⟩
  | .agl p :: r, k, j + 1, y, q, h => by
    obtain ⟨z, h1, h2⟩ := cellsAg_get b r (k + 1) j y q (by simpa [cellsAg] using h)
    exact ⟨z, by simpa using h1, by rwa [show k + 1 + j = k + (j + 1) by omega] at h2⟩
  | .opt c p :: r, k, 0, y, q, h => by simp [cellsAg] at h; exact ⟨_, rfl, .inr ⟨h.1.symm, h.2.symm⟩⟩
  | .opt c p :: r, k, j + 1, y, q, h => by
    obtain ⟨z, h1, h2⟩ := cellsAg_get b r (k + 1) j y q (by simpa [cellsAg] using h)
    exact ⟨z, by simpa using h1, by rwa [show k + 1 + j = k + (j + 1) by omega] at h2⟩
theorem cellsAg_fit {g : Gh} {w : World} {b : Nat} {bl : Nat → Option Nat} : ∀ (l : List SV) (k : Nat) (vs : List Value), vs.length = l.length → (∀ j x, l[j]? = some x → SFit g w x (vs.getD j undef) (bl j)) → FitL g ((cellsAg b k l).map (·.1)) vs
  | [], k, vs, h, _ => List.eq_nil_of_length_eq_zero (by simpa using h)
  | x :: r, k, [], h, _ => by simp at h
  | x :: r, k, v :: vs, h, hf => by
    have ih := cellsAg_fit (g := g) (w := w) (b := b) (bl := fun j => bl (j + 1)) r (k + 1) vs (by simpa using h) (fun j y hj => by have := hf (j + 1) y (by simpa using hj); simpa using this)
    have h0 := hf 0 x rfl
    cases x with
    | pv y => exact ⟨v, vs, rfl, h0.2, ih⟩
    | _ => exact ⟨v, vs, rfl, trivial, ih⟩

def retAg (P : Program) (t : Nat) (T : TypeId) (R : SV → List (List SV) → Prop) (st : St) : Prop :=
  match look st.t t with
  | .pv (.ptr b 0) => ldInfo P T = some (true, (st.h.getD b []).length) ∧ R (.agl (cellsAg b 0 (st.h.getD b []))) st.h
  | _ => False

theorem retAg_fin {P : Program} {fn : Func} {R : SV → List (List SV) → Prop} {t : Nat} {T : TypeId} (hr : fn.results = #[.cell t T]) {g : Gh} {st : St} {a : Act} {w : World} (hs : Sim g st a w) {bl : Pos → Option Nat} (hbl : Owns g st a w bl) {st' : St} {g' : Gh} {a' : Act} {w' : World} (t' : (gIn g w bl fn.ntmps).to g') (s' : Sim g' st' a' w') :
    retAg P t T R st' → a'.defers = [] ∧ ∃ v, (results fn a'.tmps).run P w' = .ok v w' ∧ ∃ v' r h' g', Ending.returned v = .returned v' ∧ R r h' ∧ g.to g' ∧ ∀ d, dstOk g.N d → Sim g' (putR d r ⟨killL qCell st.t, h'⟩) (a.put d v') w' := fun hk => by
    unfold retAg at hk
    split at hk
    · rename_i b hlk
      obtain ⟨hl, hR⟩ := hk
      obtain ⟨bl2, h4⟩ := s'.own
      have hval := h4.slots t
      rw [hlk] at hval
      obtain ⟨_, hbn, hval⟩ := hval
      have hbl2 : b < st'.h.length := by rw [← s'.n]; exact hbn
      have hbe : st'.h[b]? = some (st'.h.getD b []) := by simp [List.getD, List.getElem?_eq_getElem hbl2]
      obtain ⟨arr, T2, a1, ⟨a2, _⟩, a3⟩ := h4.blocks b _ hbe
      have hload : (loadVar T ⟨g'.μ b, 0, none⟩).run P w' = .ok (.agg arr) w' := by
        have := run_loadVar (P := P) (t := T) w' ⟨g'.μ b, 0, none⟩ arr.toList hl (by rw [Array.length_toList, a2]) (fun j v hj => by
          rw [Addr.add_lit, Nat.zero_add, cell_of a1, ← Array.getElem?_toList]; exact hj)
        simpa using this
      have hres : (results fn a'.tmps).run P w' = .ok (.agg arr) w' := by
        have hm : results fn a'.tmps = (do let vs ← fn.results.mapM (oneRes a'.tmps); pure (if h : vs.size = 1 then vs[0] else .tuple vs)) := by
          unfold results
          congr 1
        rw [hm, hr]
        have h1 : (oneRes a'.tmps (.cell t T)).run P w' = .ok (.agg arr) w' := by
          show (asAddr (a'.tmps.getD t undef) >>= loadVar T).run P w' = _
          rw [hval]
          simp only [asAddr, Sem.run_bind, Sem.run_pure, Result.andThen_ok, hload]
        simp [h1, List.mapM_toArray]
      obtain ⟨so, oo⟩ := sim_out hs hbl t' s' h4
      have hle2 : g'.le (gOut g g') := ⟨fun _ _ h => h, Nat.le_refl _, Nat.le_refl _, fun _ _ => rfl⟩
      refine ⟨s'.defs, .agg arr, hres, .agg arr, _, st'.h, gOut g g', rfl, hR, to_out hs hbl t', fun d hd => ?_⟩
      cases d with
      | none => exact so
      | some d =>
        refine so.put hd ⟨rfl, arr, rfl, ?_⟩ ?_ rfl
        · refine cellsAg_fit (w := w') (bl := fun j => bl2 (.cell b j)) (st'.h.getD b []) 0 arr.toList (by rw [Array.length_toList, a2]) fun j x hj => ?_
          have := (a3 j x hj).2
          have h5 : arr.toList.getD j undef = arr.getD j undef := by
            rw [List.getD_eq_getElem?_getD, Array.getElem?_toList, Array.getD_eq_getD_getElem?]
          rw [h5]
          exact SFit.frame hle2 (fun _ _ => rfl) this
        · intro k x p hk hown
          obtain ⟨z, h1, h2⟩ := cellsAg_get b _ 0 k x (some p) hk
          rcases h2 with ⟨_, h2⟩ | ⟨_, h2⟩
          · cases h2
          · cases h2
            refine ⟨arr, rfl, ?_⟩
            have hk2 : k < arr.size := by rw [a2]; exact (List.getElem?_eq_some_iff.1 h1).1
            rw [Array.getElem?_eq_getElem hk2, Nat.zero_add]
            congr 1
            have hμ : (gOut g g').μ b = g'.μ b := rfl
            simp only [posVal, hμ, a1]
            rw [Array.getD_eq_getD_getElem?, Array.getElem?_eq_getElem hk2]; rfl
    · exact hk.elim

theorem amutAg {P : Program} {f : FuncId} {fn : Func} {c : Code} {args : List PV} {h : List (List SV)} {R : SV → List (List SV) → Prop} {t : Nat} {T : TypeId} (hmo : P.follows .mixedOrders = true) (hf : P.funcs[f]? = some fn) (hcall : callable P f = true) (hb : fn.body = some c) (hr : fn.results = #[.cell t T])
    (hok : okC fn.ntmps [] c = true) (hn : args.length ≤ fn.ntmps) (hA : AC P h.length [] c (endQ (retAg P t T R)) ⟨argT 0 args, h⟩) : AMut P f args h R := by
  refine ⟨hcall, fun g st a w vs hs hh hv => ?_⟩
  refine calls_of_wp hf hb ?_
  obtain ⟨bl, hbl⟩ := hs.own
  have hsi := sim_in hs hbl (N := fn.ntmps) hv hn
  rw [hh] at hsi
  refine AC_wp hmo c hA (g := gIn g w bl fn.ntmps) ⟨hok, by show g.n ≤ h.length; rw [hs.n, hh]; exact Nat.le_refl _⟩ hsi fun e st' g' a' w' hq t' s' => ?_
  have fin := retAg_fin (P := P) (R := R) hr hs hbl t' s'
  cases e with
  | normal => exact fin hq
  | ret => exact fin hq
  | _ => exact hq.elim

/-- All that a region makes is taken for boxed: structs keep what they are made of. -/
def boxes : List Oper → List Oper
  | [] => []
  | o :: r => match o.dst with
    | some d => { dst := none, op := .box 0 (.tmp d), type := 0, pos := "", after := #[], guard := none } :: boxes r
    | none => boxes r
theorem boxes_dst : ∀ (l : List Oper) (j : Nat) (o : Oper), (boxes l)[j]? = some o → o.dst = none
  | [], j, o, h => by simp [boxes] at h
  | x :: r, j, o, h => by
    unfold boxes at h
    split at h
    · cases j with
      | zero => simp at h; rw [← h]
      | succ j => exact boxes_dst r j o (by simpa using h)
    · exact boxes_dst r j o h
theorem gslot_boxes (l : List Oper) (j d : Nat) (h : gslot (l ++ boxes l) j = some d) : gslot l j = some d := by
  unfold gslot at h ⊢
  rcases Nat.lt_or_ge j l.length with c | c
  · rwa [List.getElem?_append_left c] at h
  · rw [List.getElem?_append_right c] at h
    cases hq : (boxes l)[j - l.length]? with
    | none => rw [hq] at h; cases h
    | some o => rw [hq] at h; simp only [Option.bind_some] at h; rw [boxes_dst l _ o hq] at h; cases h

/-- .. whose last region makes the struct and stores it. -/
theorem amutAg2 {P : Program} {f : FuncId} {fn : Func} {c0 : Code} {id : Nat} {ops : Array Oper} {args : List PV} {h : List (List SV)} {R : SV → List (List SV) → Prop} {t : Nat} {T : TypeId} (hmo : P.follows .mixedOrders = true) (hf : P.funcs[f]? = some fn) (hcall : callable P f = true) (hb : fn.body = some (.seq c0 (.seq (.region id ops false) .ret))) (hr : fn.results = #[.cell t T])
    (hok : okC fn.ntmps [] (.seq c0 (.seq (.region id ops false) .ret)) = true) (hn : args.length ≤ fn.ntmps) (hA : AC P h.length [] c0 (fun e st => e = .normal ∧ AOps P (ops.toList ++ boxes ops.toList) (retAg P t T R) ops.toList st) ⟨argT 0 args, h⟩) : AMut P f args h R := by
  refine ⟨hcall, fun g st a w vs hs hh hv => ?_⟩
  refine calls_of_wp hf hb ?_
  obtain ⟨bl, hbl⟩ := hs.own
  have hsi := sim_in hs hbl (N := fn.ntmps) hv hn
  rw [hh] at hsi
  simp only [okC, Bool.and_eq_true] at hok
  refine wp_seq (AC_wp hmo c0 hA (g := gIn g w bl fn.ntmps) ⟨hok.1, by show g.n ≤ h.length; rw [hs.n, hh]; exact Nat.le_refl _⟩ hsi fun e st1 g1 a1 w1 hq t1 s1 => ?_)
  obtain ⟨rfl, hq⟩ := hq
  refine wp_seq (wp_region_list (AOps_wpL (gslot_boxes ops.toList) ops.toList hq s1 (by rw [t1.N]; exact hok.2.1.1) fun st' g' a' w' hk t2 s' => ?_))
  refine wp_ret ?_
  exact retAg_fin (P := P) (R := R) hr hs hbl (t1.trans t2) s' hk

attribute [simp] cellsAg retAg boxes
end Go.AX

namespace Go.AX

def retLoc (t : Nat) (R : SV → List (List SV) → Prop) (st : St) : Prop :=
  match look st.t t with
  | .loc (.cell b k) lo hi => R (.loc (.cell b k) lo hi) st.h
  | _ => False

theorem amutLoc {P : Program} {f : FuncId} {fn : Func} {c : Code} {args : List PV} {h : List (List SV)} {R : SV → List (List SV) → Prop} {t : Nat} (hmo : P.follows .mixedOrders = true) (hf : P.funcs[f]? = some fn) (hcall : callable P f = true) (hb : fn.body = some c) (hr : fn.results = #[.tmp t])
    (hok : okC fn.ntmps [] c = true) (hn : args.length ≤ fn.ntmps) (hA : AC P h.length [] c (endQ (retLoc t R)) ⟨argT 0 args, h⟩) : AMut P f args h R := by
  refine ⟨hcall, fun g st a w vs hs hh hv => ?_⟩
  refine calls_of_wp hf hb ?_
  obtain ⟨bl, hbl⟩ := hs.own
  have hsi := sim_in hs hbl (N := fn.ntmps) hv hn
  rw [hh] at hsi
  refine AC_wp hmo c hA (g := gIn g w bl fn.ntmps) ⟨hok, by show g.n ≤ h.length; rw [hs.n, hh]; exact Nat.le_refl _⟩ hsi fun e st' g' a' w' hq t' s' => ?_
  have fin : retLoc t R st' → a'.defers = [] ∧ ∃ v, (results fn a'.tmps).run P w' = .ok v w' ∧ ∃ v' r h' g', Ending.returned v = .returned v' ∧ R r h' ∧ g.to g' ∧ ∀ d, dstOk g.N d → Sim g' (putR d r ⟨killL qCell st.t, h'⟩) (a.put d v') w' := fun hk => by
    unfold retLoc at hk
    split at hk
    · rename_i b k lo hi hlk
      obtain ⟨bl2, h4⟩ := s'.own
      have hal := s'.al t
      rw [hlk] at hal
      obtain ⟨so, oo⟩ := sim_out hs hbl t' s' h4
      refine ⟨s'.defs, a'.tmps.getD t undef, results_tmp hr _ _ _, a'.tmps.getD t undef, _, st'.h, gOut g g', rfl, hk, to_out hs hbl t', fun d hd => ?_⟩
      cases d with
      | none => exact so
      | some d =>
        refine so.put hd rfl ?_ rfl
        intro nw e rows hp
        exact hal nw e rows hp
    · exact hk.elim
  cases e with
  | normal => exact fin hq
  | ret => exact fin hq
  | _ => exact hq.elim

attribute [simp] retLoc
end Go.AX
