/-
  AX: what is told may be told as less: new memory as any, nil as a row of nothing.
  AX, part BL: a function that is walked with a part of a block writes a slice of the caller's own in place.
  AX, part IS: slices.Insert of one number at the front of a part of a slice that has room, from the library's contract: in place.
-/
import Derived.Test.YthfhellfmbllhaaAxX
import Derived.Shelf.Spec.SlicesInsert
namespace Go.AX

mutual
def wkP : PV → PV → Prop
  | .agg xs, .agg ys => wkPL xs ys
  | .tup xs, .tup ys => wkPL xs ys
  | .seq nw e rows, .seq nw' e' rows' => (nw' = true → nw = true) ∧ e = e' ∧ rows = rows'
  | .lit v, .seq _ _ rows => isNilSl v = true ∧ rows = []
  | x, y => x = y
def wkPL : List PV → List PV → Prop
  | [], [] => True
  | x :: xs, y :: ys => wkP x y ∧ wkPL xs ys
  | _, _ => False
end

mutual
theorem wkP_ok {g : Gh} : ∀ (x y : PV) (v : Value), wkP x y → Fit g x v → Fit g y v
  | .agg xs, .agg ys, _, h, ⟨vs, h1, h2⟩ => ⟨vs, h1, wkPL_ok xs ys _ (by simpa only [wkP] using h) h2⟩
  | .tup xs, .tup ys, _, h, ⟨vs, h1, h2⟩ => ⟨vs, h1, wkPL_ok xs ys _ (by simpa only [wkP] using h) h2⟩
  | .seq nw e rows, .seq nw' e' rows', v, h, ⟨p, cap, h1, hc, h2⟩ => by
    simp only [wkP] at h
    obtain ⟨hn, rfl, rfl⟩ := h
    exact ⟨p, cap, h1, hc, h2.imp id fun ⟨c, off, arr, T, fz, vs, a, b, n, r, q⟩ => ⟨c, off, arr, T, fz, vs, a, b, fun hh => n (hn hh), r, q⟩⟩
  | .lit u, .seq nw e rows, v, h, hf => by
    simp only [wkP] at h
    obtain ⟨hn, rfl⟩ := h
    have hv : v = u := hf
    rw [hv, isNilSl_eq hn]
    exact ⟨none, 0, rfl, Nat.le_refl _, .inl rfl⟩
  | .bot, y, v, h, hf => by cases y <;> first | exact hf | (simp only [wkP] at h; cases h)
  | .iptr _ _ _ _, y, v, h, hf => by cases y <;> simp only [wkP] at h <;> first | (cases h; exact hf) | cases h
  | .ptr _ _, y, v, h, hf => by cases y <;> simp only [wkP] at h <;> first | (cases h; exact hf) | cases h
  | .bsl _ _ _ _ _, y, v, h, hf => by cases y <;> simp only [wkP] at h <;> first | (cases h; exact hf) | cases h
  | .fn _ _ _, y, v, h, hf => by cases y <;> simp only [wkP] at h <;> first | (cases h; exact hf) | cases h
  | .amap _ _, y, v, h, hf => by cases y <;> simp only [wkP] at h <;> first | (cases h; exact hf) | cases h
  | .ifc _ _, y, v, h, hf => by cases y <;> simp only [wkP] at h <;> first | (cases h; exact hf) | cases h
  | .lit u, .bot, v, h, hf => trivial
  | .lit u, .lit u', v, h, hf => by simp only [wkP] at h; cases h; exact hf
  | .lit u, .agg _, v, h, hf => by simp only [wkP] at h; cases h
  | .lit u, .tup _, v, h, hf => by simp only [wkP] at h; cases h
  | .lit u, .iptr _ _ _ _, v, h, hf => by simp only [wkP] at h; cases h
  | .lit u, .ptr _ _, v, h, hf => by simp only [wkP] at h; cases h
  | .lit u, .bsl _ _ _ _ _, v, h, hf => by simp only [wkP] at h; cases h
  | .lit u, .fn _ _ _, v, h, hf => by simp only [wkP] at h; cases h
  | .lit u, .amap _ _, v, h, hf => by simp only [wkP] at h; cases h
  | .lit u, .ifc _ _, v, h, hf => by simp only [wkP] at h; cases h
  | .agg xs, .bot, v, h, hf => trivial
  | .agg xs, .lit _, v, h, hf => by simp only [wkP] at h; cases h
  | .agg xs, .tup _, v, h, hf => by simp only [wkP] at h; cases h
  | .agg xs, .seq _ _ _, v, h, hf => by simp only [wkP] at h; cases h
  | .agg xs, .iptr _ _ _ _, v, h, hf => by simp only [wkP] at h; cases h
  | .agg xs, .ptr _ _, v, h, hf => by simp only [wkP] at h; cases h
  | .agg xs, .bsl _ _ _ _ _, v, h, hf => by simp only [wkP] at h; cases h
  | .agg xs, .fn _ _ _, v, h, hf => by simp only [wkP] at h; cases h
  | .agg xs, .amap _ _, v, h, hf => by simp only [wkP] at h; cases h
  | .agg xs, .ifc _ _, v, h, hf => by simp only [wkP] at h; cases h
  | .tup xs, .bot, v, h, hf => trivial
  | .tup xs, .lit _, v, h, hf => by simp only [wkP] at h; cases h
  | .tup xs, .agg _, v, h, hf => by simp only [wkP] at h; cases h
  | .tup xs, .seq _ _ _, v, h, hf => by simp only [wkP] at h; cases h
  | .tup xs, .iptr _ _ _ _, v, h, hf => by simp only [wkP] at h; cases h
  | .tup xs, .ptr _ _, v, h, hf => by simp only [wkP] at h; cases h
  | .tup xs, .bsl _ _ _ _ _, v, h, hf => by simp only [wkP] at h; cases h
  | .tup xs, .fn _ _ _, v, h, hf => by simp only [wkP] at h; cases h
  | .tup xs, .amap _ _, v, h, hf => by simp only [wkP] at h; cases h
  | .tup xs, .ifc _ _, v, h, hf => by simp only [wkP] at h; cases h
  | .seq _ _ _, .bot, v, h, hf => trivial
  | .seq _ _ _, .lit _, v, h, hf => by simp only [wkP] at h; cases h
  | .seq _ _ _, .agg _, v, h, hf => by simp only [wkP] at h; cases h
  | .seq _ _ _, .tup _, v, h, hf => by simp only [wkP] at h; cases h
  | .seq _ _ _, .iptr _ _ _ _, v, h, hf => by simp only [wkP] at h; cases h
  | .seq _ _ _, .ptr _ _, v, h, hf => by simp only [wkP] at h; cases h
  | .seq _ _ _, .bsl _ _ _ _ _, v, h, hf => by simp only [wkP] at h; cases h
  | .seq _ _ _, .fn _ _ _, v, h, hf => by simp only [wkP] at h; cases h
  | .seq _ _ _, .amap _ _, v, h, hf => by simp only [wkP] at h; cases h
  | .seq _ _ _, .ifc _ _, v, h, hf => by simp only [wkP] at h; cases h
theorem wkPL_ok {g : Gh} : ∀ (xs ys : List PV) (vs : List Value), wkPL xs ys → FitL g xs vs → FitL g ys vs
  | [], [], _, _, h => h
  | [], _ :: _, _, h, _ => by simp only [wkPL] at h
  | _ :: _, [], _, h, _ => by simp only [wkPL] at h
  | x :: xs, y :: ys, _, h, ⟨v, r, h1, h2, h3⟩ => by
    simp only [wkPL] at h
    exact ⟨v, r, h1, wkP_ok x y v h.1 h2, wkPL_ok xs ys r h.2 h3⟩
end

def wkS : SV → SV → Prop
  | .pv x, .pv y => y = .bot ∨ wkP x y
  | .own nw e rows, .own nw' e' rows' => (nw' = true → nw = true) ∧ e = e' ∧ rows = rows'
  | x, y => y = x ∨ y = .pv .bot

theorem wkS_cases {x y : SV} (h : wkS x y) : y = x ∨ y = .pv .bot ∨ (∃ a b, x = .pv a ∧ y = .pv b ∧ wkP a b) ∨ (∃ nw nw' e rows, x = .own nw e rows ∧ y = .own nw' e rows ∧ (nw' = true → nw = true)) := by
  unfold wkS at h
  split at h
  · rename_i a b
    rcases h with rfl | h
    · exact .inr (.inl rfl)
    · exact .inr (.inr (.inl ⟨a, b, rfl, rfl, h⟩))
  · obtain ⟨h1, rfl, rfl⟩ := h
    exact .inr (.inr (.inr ⟨_, _, _, _, rfl, rfl, h1⟩))
  · exact h.imp id .inl

theorem wkS_own {x y : SV} (h : wkS x y) (ho : y.isOwn = true) : x.isOwn = true ∧ (y = x ∨ ∃ nw nw' e rows, x = .own nw e rows ∧ y = .own nw' e rows ∧ (nw' = true → nw = true)) := by
  rcases wkS_cases h with rfl | rfl | ⟨a, b, rfl, rfl, _⟩ | ⟨nw, nw', e, rows, rfl, rfl, h1⟩
  · exact ⟨ho, .inl rfl⟩
  · cases ho
  · cases ho
  · exact ⟨rfl, .inr ⟨_, _, _, _, rfl, rfl, h1⟩⟩

theorem wkS_fit {g : Gh} {w : World} {x y : SV} {v : Value} {o : Option Nat} (h : wkS x y) (hf : SFit g w x v o) : SFit g w y v (if y.isOwn = true then o else none) := by
  rcases wkS_cases h with rfl | rfl | ⟨a, b, rfl, rfl, h1⟩ | ⟨nw, nw', e, rows, rfl, rfl, h1⟩
  · cases y with
    | own _ _ _ => exact hf
    | omap _ _ => exact hf
    | pv _ => exact ⟨rfl, hf.2⟩
    | opt _ _ => exact ⟨rfl, hf.2⟩
    | agl _ => exact ⟨rfl, hf.2⟩
    | _ => rfl
  · exact ⟨rfl, trivial⟩
  · exact ⟨rfl, wkP_ok a b v h1 hf.2⟩
  · exact hf.imp id fun ⟨c, e1, cap, arr, T, vs, a1, a2, a3, a4, a5, a6, a7⟩ => ⟨c, e1, cap, arr, T, vs, a1, a2, a3, a4, a5, a6, fun hh => a7 (h1 hh)⟩

theorem Sim.le {g : Gh} {st st' : St} {a : Act} {w : World} (h : Sim g st a w) (hp : ∀ p, wkS (posGet st p) (posGet st' p)) (hl : st'.h.length = st.h.length) (hb : ∀ b, (st'.h.getD b []).length = (st.h.getD b []).length) : Sim g st' a w := by
  obtain ⟨bl, ho⟩ := h.own
  have hget : ∀ (b : Nat) (xs' : List SV), st'.h[b]? = some xs' → ∃ xs : List SV, st.h[b]? = some xs ∧ xs'.length = xs.length := fun b xs' hx => by
    have hlt : b < st.h.length := by rw [← hl]; exact (List.getElem?_eq_some_iff.1 hx).1
    refine ⟨st.h[b], List.getElem?_eq_getElem hlt, ?_⟩
    have := hb b
    rw [List.getD_eq_getElem?_getD, List.getD_eq_getElem?_getD, hx, List.getElem?_eq_getElem hlt] at this
    simpa using this
  have hal : ∀ {sv : SV} {v : Value}, AlOk g st a w sv v → AlOk g st' a w sv v := by
    intro sv
    induction sv with
    | al p => intro v hv ho'; exact hv (wkS_own (hp p) ho').1
    | loc p lo hi =>
      intro v hv nw e rows he
      rcases (wkS_own (hp p) (by rw [he]; rfl)).2 with e1 | ⟨nw1, nw2, e1, rows1, e2, e3, _⟩
      · exact hv nw e rows (by rw [← e1]; exact he)
      · rw [he] at e3; cases e3; exact hv _ _ _ e2
    | sptr p i k =>
      intro v hv nw e rows he
      rcases (wkS_own (hp p) (by rw [he]; rfl)).2 with e1 | ⟨nw1, nw2, e1, rows1, e2, e3, _⟩
      · exact hv nw e rows (by rw [← e1]; exact he)
      · rw [he] at e3; cases e3; exact hv _ _ _ e2
    | agl xs => intro v hv k x p hk ho'; exact hv k x p hk (wkS_own (hp p) ho').1
    | opt c x ih => intro v hv hc; exact ih (hv hc)
    | _ => intro v _; trivial
  refine { size := h.size, defs := h.defs, env := h.env, n := by rw [hl]; exact h.n, n0 := h.n0, B := h.B, I := h.I, F := h.F, μI := h.μI, μinj := h.μinj,
           own := ⟨fun p => if (posGet st' p).isOwn = true then bl p else none, ?_⟩, al := fun s => ?_ }
  · have hsub : ∀ p c, (if (posGet st' p).isOwn = true then bl p else none) = some c → bl p = some c := fun p c hc => by
      split at hc
      · exact hc
      · cases hc
    refine { slots := fun s => wkS_fit (hp (.slot s)) (ho.slots s), blocks := fun b xs' hx => ?_, inj := fun p q c h1 h2 => ho.inj p q c (hsub p c h1) (hsub q c h2), free := fun p c h1 => ho.free p c (hsub p c h1) }
    obtain ⟨xs, hx2, hlen⟩ := hget b xs' hx
    obtain ⟨arr, T, e1, e2, e3⟩ := ho.blocks b xs hx2
    refine ⟨arr, T, e1, ⟨by rw [hlen]; exact e2.1, e2.2⟩, fun k x hk => ?_⟩
    have hkl : k < xs.length := by rw [← hlen]; exact (List.getElem?_eq_some_iff.1 hk).1
    have g1 : posGet st' (.cell b k) = x := by simp only [posGet, List.getD_eq_getElem?_getD, hx, Option.getD_some, hk]
    have g2 : posGet st (.cell b k) = xs[k] := by simp only [posGet, List.getD_eq_getElem?_getD, hx2, Option.getD_some, List.getElem?_eq_getElem hkl]
    have h4 := hp (.cell b k)
    rw [g1, g2] at h4
    obtain ⟨c1, c2⟩ := e3 k xs[k] (List.getElem?_eq_getElem hkl)
    rw [g1]
    refine ⟨?_, wkS_fit h4 c2⟩
    rcases wkS_cases h4 with e | e | ⟨a1, b1, _, e, _⟩ | ⟨_, _, _, _, _, e, _⟩
    · rw [e]; exact c1
    · rw [e]; rfl
    · rw [e]; rfl
    · rw [e]; rfl
  · have h4 := hp (.slot s)
    simp only [posGet] at h4
    have h5 := h.al s
    rcases wkS_cases h4 with e | e | ⟨a1, b1, _, e, _⟩ | ⟨_, _, _, _, _, e, _⟩
    · rw [e]; exact hal h5
    · rw [e]; trivial
    · rw [e]; trivial
    · rw [e]; trivial

def wkLs (t : List (Nat × SV)) : List (Nat × SV) → Prop
  | [] => True
  | (s, v) :: r => wkS (look t s) v ∧ wkLs t r
def wkCs : List SV → List SV → Prop
  | [], [] => True
  | x :: xs, y :: ys => wkS x y ∧ wkCs xs ys
  | _, _ => False
def wkHs : List (List SV) → List (List SV) → Prop
  | [], [] => True
  | x :: xs, y :: ys => wkCs x y ∧ wkHs xs ys
  | _, _ => False
theorem wkS_bot (x : SV) : wkS x (.pv .bot) := by cases x <;> simp [wkS]
mutual
theorem wkP_refl : ∀ x : PV, wkP x x
  | .agg xs => by simp only [wkP]; exact wkPL_refl xs
  | .tup xs => by simp only [wkP]; exact wkPL_refl xs
  | .seq _ _ _ => by simp [wkP]
  | .bot => by simp [wkP]
  | .lit _ => by simp [wkP]
  | .iptr _ _ _ _ => by simp [wkP]
  | .ptr _ _ => by simp [wkP]
  | .bsl _ _ _ _ _ => by simp [wkP]
  | .fn _ _ _ => by simp [wkP]
  | .amap _ _ => by simp [wkP]
  | .ifc _ _ => by simp [wkP]
theorem wkPL_refl : ∀ xs : List PV, wkPL xs xs
  | [] => by simp [wkPL]
  | x :: xs => by simp only [wkPL]; exact ⟨wkP_refl x, wkPL_refl xs⟩
end
theorem wkS_refl (x : SV) : wkS x x := by
  cases x with
  | pv x => exact .inr (wkP_refl x)
  | own _ _ _ => exact ⟨id, rfl, rfl⟩
  | _ => exact .inl rfl
theorem wkLs_ok {t : List (Nat × SV)} : ∀ {t1 : List (Nat × SV)}, wkLs t t1 → ∀ s, wkS (look t s) (look t1 s)
  | [], _, s => wkS_bot _
  | (j, v) :: r, h, s => by
    simp only [look]
    by_cases e : j = s
    · subst e; rw [if_pos rfl]; exact h.1
    · rw [if_neg e]; exact wkLs_ok h.2 s
theorem wkCs_ok : ∀ {xs ys : List SV}, wkCs xs ys → ys.length = xs.length ∧ ∀ k, wkS (xs.getD k (.pv .bot)) (ys.getD k (.pv .bot))
  | [], [], _ => ⟨rfl, fun k => by simp; exact wkS_bot _⟩
  | [], _ :: _, h => by simp only [wkCs] at h
  | _ :: _, [], h => by simp only [wkCs] at h
  | x :: xs, y :: ys, h => by
    simp only [wkCs] at h
    obtain ⟨h1, h2⟩ := wkCs_ok h.2
    refine ⟨by simp [h1], fun k => ?_⟩
    cases k with
    | zero => exact h.1
    | succ k => simpa using h2 k
theorem wkHs_ok : ∀ {xs ys : List (List SV)}, wkHs xs ys → ys.length = xs.length ∧ ∀ b, (ys.getD b []).length = (xs.getD b []).length ∧ ∀ k, wkS ((xs.getD b []).getD k (.pv .bot)) ((ys.getD b []).getD k (.pv .bot))
  | [], [], _ => ⟨rfl, fun b => ⟨rfl, fun k => by simp; exact wkS_bot _⟩⟩
  | [], _ :: _, h => by simp only [wkHs] at h
  | _ :: _, [], h => by simp only [wkHs] at h
  | x :: xs, y :: ys, h => by
    simp only [wkHs] at h
    obtain ⟨h1, h2⟩ := wkHs_ok h.2
    refine ⟨by simp [h1], fun b => ?_⟩
    cases b with
    | zero => exact wkCs_ok h.1
    | succ b => simpa using h2 b
theorem Weak.le {k0 : Nat} {st : St} {t1 : List (Nat × SV)} {h1 : List (List SV)} (ht : wkLs st.t t1) (hh : wkHs st.h h1) : Weak k0 st ⟨t1, h1⟩ := fun g _ _ _ hs => by
  obtain ⟨hl, hk⟩ := wkHs_ok hh
  refine ⟨g, hs.refl_to, hs.le (fun p => ?_) hl fun b => (hk b).1⟩
  cases p with
  | slot s => exact wkLs_ok ht s
  | cell b k => exact (hk b).2 k
/-! ### Calls -/
theorem AMut.args {P : Program} {f : FuncId} {xs ys : List PV} {h : List (List SV)} {R : SV → List (List SV) → Prop} (hm : AMut P f ys h R) (hw : wkPL xs ys) : AMut P f xs h R :=
  ⟨hm.1, fun g st a w vs hs hh hv => hm.2 g st a w vs hs hh (wkPL_ok _ _ _ hw hv)⟩
theorem AMut.res {P : Program} {f : FuncId} {args : List PV} {h : List (List SV)} {R R' : SV → List (List SV) → Prop} (hm : AMut P f args h R) (hr : ∀ r h', R r h' → ∃ x y, r = .pv x ∧ wkP x y ∧ R' (.pv y) h') : AMut P f args h R' :=
  ⟨hm.1, fun g st a w vs hs hh hv => (hm.2 g st a w vs hs hh hv).mono fun e w' ⟨v, r, h', g', e1, e2, e3, e4⟩ => by
    obtain ⟨x, y, rfl, hw, hR⟩ := hr r h' e2
    refine ⟨v, .pv y, h', g', e1, hR, e3, fun d hd => (e4 d hd).le (fun p => ?_) ?_ ?_⟩
    · cases d with
      | none => exact wkS_refl _
      | some d =>
        cases p with
        | cell b k => exact wkS_refl _
        | slot s =>
          simp only [posGet, putR, putD, St.put, look]
          split
          · exact .inr hw
          · exact wkS_refl _
    · cases d <;> rfl
    · intro b; cases d <;> rfl⟩

/-! ### What fits names only blocks that there are -/
section
variable {g : Gh}
mutual
theorem Fit.bel : ∀ (x : PV) (v : Value), Fit g x v → x.bel g.n
  | .bot, _, _ => trivial
  | .lit _, _, _ => trivial
  | .agg xs, _, ⟨vs, _, h2⟩ => FitL.bel xs _ h2
  | .tup xs, _, ⟨vs, _, h2⟩ => FitL.bel xs _ h2
  | .seq _ e [], _, _ => trivial
  | .seq _ e (r :: rows), _, ⟨p, cap, _, _, h2⟩ => by
    rcases h2 with h2 | ⟨c, off, arr, T, fz, vs, a, b, n, q, _⟩
    · cases h2
    · exact FitR.bel e (r :: rows) vs q
  | .iptr e rows _ _, _, ⟨c, off, arr, T, fz, vs, _, _, q, _⟩ => FitR.bel e rows vs q
  | .ptr b _, _, ⟨h1, _⟩ => h1
  | .bsl b _ _ _ _, _, ⟨h1, _⟩ => h1
  | .fn _ first cap, _, ⟨a, b, _, h2, h3⟩ => ⟨FitL.bel first _ h2, FitL.bel cap _ h3⟩
  | .amap _ es, _, ⟨r, en, ck, _, _, _, q⟩ => FitE.bel es _ q.1
  | .ifc _ x, _, ⟨y, _, h2⟩ => Fit.bel x y h2
theorem FitL.bel : ∀ (xs : List PV) (vs : List Value), FitL g xs vs → belowL g.n xs
  | [], _, _ => trivial
  | x :: xs, _, ⟨v, r, _, h2, h3⟩ => ⟨Fit.bel x v h2, FitL.bel xs r h3⟩
theorem FitR.bel (e : Nat) : ∀ (rows : List (List PV)) (vs : List Value), FitR g e rows vs → belowR g.n rows
  | [], _, _ => trivial
  | row :: rows, _, ⟨v1, v2, _, _, h3, h4⟩ => ⟨FitL.bel row v1 h3, FitR.bel e rows v2 h4⟩
theorem FitE.bel : ∀ (es : List (Int × PV)) (en : List MapEntry), FitE g es en → belowE g.n es
  | [], _, _ => trivial
  | (_, x) :: es, _, ⟨m, r, _, _, h3, h4⟩ => ⟨Fit.bel x m.val h3, FitE.bel es r h4⟩
end
end
theorem SFit.bel {g : Gh} {w : World} {x : SV} {v : Value} {o : Option Nat} (hc : x.inCell = true) (h : SFit g w x v o) : x.bel g.n := by
  cases x with
  | pv x => exact Fit.bel x v h.2
  | own nw e rows =>
    rcases h with ⟨_, rfl, _⟩ | ⟨c, _, cap, arr, T, vs, _, _, _, _, q, _⟩
    · trivial
    · exact FitR.bel e rows vs q
  | omap nw es => obtain ⟨c, _, en, ck, _, _, q, _⟩ := h; exact FitE.bel es _ q
  | _ => cases hc
theorem belowC_of {k : Nat} : ∀ {l : List SV}, (∀ x ∈ l, x.bel k) → belowC k l
  | [], _ => trivial
  | x :: l, h => ⟨h x (List.mem_cons_self), belowC_of fun y hy => h y (List.mem_cons_of_mem _ hy)⟩
theorem belowH_of {k : Nat} : ∀ {l : List (List SV)}, (∀ xs ∈ l, ∀ x ∈ xs, x.bel k) → belowH k l
  | [], _ => trivial
  | x :: l, h => ⟨belowC_of (h x (List.mem_cons_self)), belowH_of fun y hy => h y (List.mem_cons_of_mem _ hy)⟩
theorem Sim.belH {g : Gh} {st : St} {a : Act} {w : World} (h : Sim g st a w) : belowH g.n st.h := by
  obtain ⟨bl, hb⟩ := h.own
  refine belowH_of fun xs hxs x hx => ?_
  obtain ⟨b, hb1⟩ := List.mem_iff_getElem?.1 hxs
  obtain ⟨k, hk⟩ := List.mem_iff_getElem?.1 hx
  obtain ⟨arr, T, _, _, e3⟩ := hb.blocks b xs hb1
  obtain ⟨c1, c2⟩ := e3 k x hk
  exact c2.bel c1

def retXP (P : Program) (rs : List ResultVar) (h : List (List SV)) (R : SV → Prop) (st : St) : Prop :=
  (resL P st rs).2.2 ∧ (resL P st rs).2.1.h.take h.length = h ∧ (resOut (resL P st rs).1).bel h.length ∧ R (.pv (resOut (resL P st rs).1))
theorem amutXP {P : Program} (bad : List Nat) {f : FuncId} {fn : Func} {c : Code} {args : List PV} {h : List (List SV)} {R : SV → Prop} (rs : List ResultVar) (hmo : P.follows .mixedOrders = true) (hf : P.funcs[f]? = some fn) (hcall : callable P f = true) (hb : fn.body = some c)
    (hr : fn.results = rs.toArray) (hok : okC fn.ntmps bad c = true) (hn : args.length ≤ fn.ntmps) (hA : AC P h.length bad c (endQ (retXP P rs h R)) ⟨argT 0 args, h⟩) : AMut P f args h (fun r h' => h' = h ∧ R r) := by
  refine ⟨hcall, fun g st a w vs hs hh hv => ?_⟩
  have hbel : belowH h.length h := by have := hs.belH; rwa [hs.n, hh] at this
  have key := amut_of (R := fun r h' => h' = h ∧ R r) hmo hf hcall hb hok hn hA fun g' st' a' w' hk hn0 s' => ?_
  · exact key.2 g st a w vs hs hh hv
  · obtain ⟨k1, k2, k3, k4⟩ := hk
    obtain ⟨g2, t2, l2, n2, s2, vs2, e2, f2⟩ := resL_ok rs s' k1
    obtain ⟨v, e3, f3⟩ := results_run hr (resL_len rs st') e2 f2
    have s3 := s2.weak (st' := ⟨[], (resL P st' rs).2.1.h⟩) rfl fun s => .inr rfl
    obtain ⟨t4, s4⟩ := Sim.dropB (st := ⟨[], (resL P st' rs).2.1.h⟩) (h1 := h) k2 (ht := trivial) hbel (hs := s3) (h0 := by rw [t2.n0]; exact hn0)
    obtain ⟨bl4, hb4⟩ := s4.own
    exact ⟨v, _, _, _, bl4, none, e3, t2.trans t4, s4, hb4, ⟨rfl, k4⟩, ⟨rfl, Fit.below _ _ k3 f3⟩, rfl, fun c hc => by cases hc⟩

theorem amutXW {P : Program} (bad : List Nat) {f : FuncId} {fn : Func} {c : Code} {args : List PV} {h : List (List SV)} {y : PV} (rs : List ResultVar) (hmo : P.follows .mixedOrders = true) (hf : P.funcs[f]? = some fn) (hcall : callable P f = true) (hb : fn.body = some c)
    (hr : fn.results = rs.toArray) (hok : okC fn.ntmps bad c = true) (hn : args.length ≤ fn.ntmps) (hA : AC P h.length bad c (endQ (retXP P rs h (fun r => ∃ x, r = .pv x ∧ wkP x y))) ⟨argT 0 args, h⟩) : AMut P f args h (fun r h' => h' = h ∧ r = .pv y) :=
  (amutXP bad rs hmo hf hcall hb hr hok hn hA).res fun r h' ⟨h1, x, h2, h3⟩ => ⟨x, y, h2, h3, h1, rfl⟩

attribute [simp] wkP wkPL wkS wkLs wkCs wkHs retXP
end Go.AX

namespace Go.AX

def blk (pre : List Value) (zs : List Int) (suf : List Value) : List SV := pre.map (fun v => .pv (.lit v)) ++ (zs.map (fun z => .pv (.lit (.int .i64 z))) ++ suf.map fun v => .pv (.lit v))
theorem blk_length (pre : List Value) (zs : List Int) (suf : List Value) : (blk pre zs suf).length = pre.length + zs.length + suf.length := by
  unfold blk; simp only [List.length_append, List.length_map]; omega
theorem blk_get (pre : List Value) (zs : List Int) (suf : List Value) {i : Nat} (h : i < zs.length) : (blk pre zs suf)[pre.length + i]? = some (.pv (.lit (.int .i64 zs[i]))) := by
  unfold blk
  rw [List.getElem?_append_right (by simp), List.length_map, Nat.add_sub_cancel_left, List.getElem?_append_left (by simpa using h), List.getElem?_map, List.getElem?_eq_getElem h]
  rfl
theorem blk_splice (pre : List Value) (zs : List Int) (suf : List Value) {i : Nat} {ys : List Int} (h : i + ys.length ≤ zs.length) :
    List.take (pre.length + i) (blk pre zs suf) ++ (ys.map (fun z => SV.pv (.lit (.int .i64 z))) ++ List.drop (pre.length + i + ys.length) (blk pre zs suf)) = blk pre (zs.take i ++ ys ++ zs.drop (i + ys.length)) suf := by
  unfold blk
  have e1 : pre.length = (pre.map (fun v => SV.pv (PV.lit v))).length := by simp
  rw [show List.take (pre.length + i) (pre.map (fun v => SV.pv (PV.lit v)) ++ (zs.map (fun z => SV.pv (.lit (.int .i64 z))) ++ suf.map fun v => .pv (.lit v))) = pre.map (fun v => SV.pv (PV.lit v)) ++ (zs.map (fun z => SV.pv (.lit (.int .i64 z)))).take i by
      rw [e1, List.take_length_add_append]; congr 1; rw [List.take_append_of_le_length (by simp; omega)],
    show List.drop (pre.length + i + ys.length) (pre.map (fun v => SV.pv (PV.lit v)) ++ (zs.map (fun z => SV.pv (.lit (.int .i64 z))) ++ suf.map fun v => .pv (.lit v))) = (zs.map (fun z => SV.pv (.lit (.int .i64 z)))).drop (i + ys.length) ++ suf.map fun v => .pv (.lit v) by
      rw [Nat.add_assoc, e1, List.drop_length_add_append, List.drop_append_of_le_length (by simp; omega)]]
  simp only [List.map_append, List.map_take, List.map_drop, List.append_assoc]
theorem blk_set (pre : List Value) (zs : List Int) (suf : List Value) {i : Nat} (y : Int) (h : i < zs.length) :
    List.take (pre.length + i) (blk pre zs suf) ++ SV.pv (.lit (.int .i64 y)) :: List.drop (pre.length + i + 1) (blk pre zs suf) = blk pre (zs.set i y) suf := by
  have := blk_splice pre zs suf (i := i) (ys := [y]) (by simp; omega)
  simp only [List.map_cons, List.map_nil, List.length_singleton, List.cons_append, List.nil_append] at this
  rw [this]
  congr 1
  rw [List.set_eq_take_append_cons_drop, if_pos h]
  simp

theorem frzB_blk (pre : List Value) (zs : List Int) (suf : List Value) (t : List (List SV)) (n : Nat) : frzB (frzP (blk pre zs suf :: t) (n + 1) 0 pre.length) 1 zs.length = .seq false 1 (zs.map fun z => [.lit (.int .i64 z)]) := by
  have hl := blk_length pre zs suf
  have e : (blk pre zs suf :: t).getD 0 [] = blk pre zs suf := rfl
  simp only [frzP, frzB, e, List.length_map]
  rw [if_pos ⟨trivial, by omega⟩]
  congr 1
  unfold blk
  simp only [List.map_append, List.map_map]
  rw [List.drop_left' (by simp), List.take_left' (by simp), List.map_map]
  rfl

theorem blk_below (k : Nat) (pre : List Value) (zs : List Int) (suf : List Value) : belowC k (blk pre zs suf) := by
  refine belowC_of fun x hx => ?_
  unfold blk at hx
  simp only [List.mem_append, List.mem_map] at hx
  rcases hx with ⟨_, _, rfl⟩ | ⟨_, _, rfl⟩ | ⟨_, _, rfl⟩ <;> trivial
theorem blk_fill (pre : List Value) (zs : List Int) (suf : List Value) {i n : Nat} (y : Int) (h : i + n ≤ zs.length) :
    List.take (pre.length + i) (blk pre zs suf) ++ (List.replicate n (SV.pv (.lit (.int .i64 y))) ++ List.drop (pre.length + i + n) (blk pre zs suf)) = blk pre (zs.take i ++ List.replicate n y ++ zs.drop (i + n)) suf := by
  have := blk_splice pre zs suf (i := i) (ys := List.replicate n y) (by simpa using h)
  simpa only [List.map_replicate, List.length_replicate] using this

theorem cells_lits {g : Gh} {w : World} {arr : Array Value} {bl : Nat → Option Nat} {vs : List Value} (hs : arr.size = vs.length) (h : ∀ k x, (vs.map (fun v => SV.pv (.lit v)))[k]? = some x → SFit g w x (arr.getD k undef) (bl k)) : arr = vs.toArray := by
  apply Array.ext
  · simpa using hs
  · intro i h1 h2
    have := h i (.pv (.lit (vs[i]'(by omega)))) (by rw [List.getElem?_map, List.getElem?_eq_getElem (by omega)]; rfl)
    have h3 : arr.getD i undef = vs[i]'(by omega) := this.2
    simpa [Array.getD, h1] using h3

def intsB (zs : List Int) : List (List PV) := zs.map fun z => [.lit (.int .i64 z)]
theorem fitR_intsB (G : Gh) : ∀ zs : List Int, FitR G 1 (intsB zs) (zs.map (Value.int .i64))
  | [] => rfl
  | z :: zs => ⟨[.int .i64 z], zs.map (Value.int .i64), rfl, ⟨rfl, fun v hv => by simp at hv; subst hv; rfl⟩, ⟨_, _, rfl, rfl, rfl⟩, fitR_intsB G zs⟩
theorem fitR_intsB_eq {G : Gh} : ∀ {zs : List Int} {vs : List Value}, FitR G 1 (intsB zs) vs → vs = zs.map (Value.int .i64)
  | [], _, h => h
  | z :: zs, _, ⟨v1, v2, h1, _, h3, h4⟩ => by
    obtain ⟨v, r, rfl, h5, h6⟩ := h3
    have h5' : v = .int .i64 z := h5
    have h6' : r = [] := h6
    subst h5' h6'
    rw [h1, fitR_intsB_eq h4]; rfl

def resB (k : Option Nat) (off cap : Nat) : SV := match k with
  | none => .pv (.tup [])
  | some m => .pv (.bsl 0 1 off m cap)
def resN (k : Option Nat) (p : Option Addr) (cap : Nat) : SV := match k with
  | none => .pv (.tup [])
  | some m => .pv (.lit (.slice p m cap))

theorem AIn.ofInts {P : Program} {f : FuncId} {zs : List Int} {args : List PV} {R : Option Nat → List (List PV) → Prop} (hc : callable P f = true) (ho : oldL args) (hb : belowL 0 args)
    (h : zs ≠ [] → ∀ (pre suf : List Value) (cap : Nat), zs.length ≤ cap → zs.length ≤ maxLen → AMut P f (.bsl 0 1 pre.length zs.length cap :: args) [blk pre zs suf]
      (fun r h' => ∃ k zs', R k (intsB zs') ∧ zs'.length = zs.length ∧ (∀ m, k = some m → m ≤ zs.length) ∧ r = resB k pre.length cap ∧ h' = [blk pre zs' suf]))
    (h0 : zs = [] → ∀ (p : Option Addr) (cap : Nat), APure P f (.lit (.slice p 0 cap) :: args) (fun r => ∃ k, R k [] ∧ (k = none ∨ k = some 0) ∧ r = resN k p cap)) :
    AIn P f 1 (intsB zs) args R := by
  refine ⟨hc, fun hne w c cap arr T pre vs suf us h1 h2 h3 h4 h5 h6 hvals => ?_, fun he w p cap us h1 => ?_⟩
  · have hz : zs ≠ [] := fun e => hne (by rw [e]; rfl)
    have hlen : (intsB zs).length = zs.length := by unfold intsB; simp
    have hvs := fitR_intsB_eq h5
    subst hvs
    rw [hlen] at h3 h4 ⊢
    have hcs : c < w.heap.size := (Array.getElem?_eq_some_iff.1 h1).1
    obtain ⟨G, hG⟩ : ∃ G : Gh, G = { I := fun k => if k = c then none else w.heap[k]?, F := fun _ => none, B := 0, μ := fun _ => c, n := 1, n0 := 1, N := 1, env := envOf w } := ⟨_, rfl⟩
    have hsim : Sim G ⟨[], [blk pre zs suf]⟩ ⟨#[undef], []⟩ w := by
      subst hG
      refine { size := rfl, defs := rfl, env := rfl, n := rfl, n0 := Nat.le_refl _, B := Nat.zero_le _, I := fun k o hk => ?_, F := fun k o hk => (by cases hk), μI := fun b hb => ⟨by simp, rfl⟩, μinj := fun b b' hb hb' _ => ?_, own := ⟨fun _ => none, ?_⟩, al := fun s => trivial }
      · by_cases e : k = c
        · subst e; simp at hk
        · simpa [e] using hk
      · dsimp only at hb hb'; omega
      · refine { slots := fun s => ⟨rfl, trivial⟩, blocks := fun b xs hx => ?_, inj := fun p q k hk => (by cases hk), free := fun p k hk => (by cases hk) }
        cases b with
        | succ b => simp at hx
        | zero =>
          simp only [List.getElem?_cons_zero, Option.some.injEq] at hx
          subst hx
          have hsz : arr.size = (blk pre zs suf).length := by rw [blk_length, ← Array.length_toList, h2]; simp only [List.length_append, List.length_map]
          refine ⟨arr, T, h1, ⟨hsz, hvals⟩, fun k x hk => ?_⟩
          have hb2 : blk pre zs suf = arr.toList.map (fun v => .pv (.lit v)) := by
            rw [h2]; unfold blk; simp only [List.map_append, List.map_map, List.append_assoc]; rfl
          rw [hb2, List.getElem?_map] at hk
          cases hk2 : arr.toList[k]? with
          | none => rw [hk2] at hk; cases hk
          | some u =>
            rw [hk2] at hk
            simp only [Option.map_some, Option.some.injEq] at hk
            subst hk
            refine ⟨rfl, rfl, ?_⟩
            show arr.getD k undef = u
            have : arr[k]? = some u := by rw [← Array.getElem?_toList]; exact hk2
            rw [Array.getD_eq_getD_getElem?, this]; rfl
    have hfit : FitL G (.bsl 0 1 pre.length zs.length cap :: args) (.slice (some ⟨c, pre.length, none⟩) zs.length cap :: us) := by
      refine ⟨_, _, rfl, ?_, ?_⟩
      · subst hG; exact ⟨Nat.zero_lt_one, h3, rfl⟩
      · refine FitL.monoC ⟨fun k arr' T' fz hk => ?_, fun k en ck hk => ?_⟩ _ _ (.inr ho) (.inl rfl) h6
        · obtain ⟨a1, a2⟩ := hide_C hk
          subst hG; simpa [a1] using a2
        · obtain ⟨a1, a2⟩ := hide_M hk
          subst hG; simpa [a1] using a2
    refine ((h hz pre suf cap h3 h4).2 G _ _ w _ hsim rfl hfit).mono fun e w' ⟨v, r, h', g', he, ⟨k, zs', r1, r2, r3, r4, r5⟩, t', hs'⟩ => ?_
    subst r4 r5
    have hs1 := hs' (some 0) (by subst hG; exact Nat.zero_lt_one)
    have hμ : g'.μ 0 = c := by rw [t'.μ 0 (by subst hG; exact Nat.zero_lt_one)]; subst hG; rfl
    obtain ⟨bl, hb'⟩ := hs1.own
    have hkeep : ∀ k, k < w.heap.size → k ≠ c → w'.heap[k]? = w.heap[k]? := fun k hk hkc => by
      have hI : G.I k = some w.heap[k] := by subst hG; simp [hkc]
      rw [hs1.I _ _ (t'.I _ _ hI), Array.getElem?_eq_getElem hk]
    refine ⟨k, intsB zs', zs'.map (Value.int .i64), r1, by unfold intsB; simpa using r2, r3, ?_, ?_, ?_, hkeep, ?_, fun G _ => fitR_intsB G zs'⟩
    · rw [he]
      have h0 := hb'.slots 0
      cases k with
      | none =>
        have h7 : SFit g' w' (.pv (.tup [])) v (bl (.slot 0)) := h0
        obtain ⟨_, vs, rfl, h8⟩ := h7
        have h8' : vs.toList = [] := h8
        have : vs = #[] := Array.ext' h8'
        rw [this]
      | some m =>
        have h7 : SFit g' w' (.pv (.bsl 0 1 pre.length m cap)) v (bl (.slot 0)) := h0
        obtain ⟨_, _, _, rfl⟩ := h7
        rw [hμ]
    · rw [hs1.env, t'.env]; subst hG; rfl
    · apply Nat.le_of_not_lt
      intro hlt
      have hc' : w'.heap[c]? ≠ none := by
        obtain ⟨arr', T', b1, _⟩ := hb'.blocks 0 (blk pre zs' suf) (by cases k <;> rfl)
        rw [hμ] at b1; rw [b1]; simp
      have h9 : w'.heap[w'.heap.size]? = none := by simp
      by_cases e : w'.heap.size = c
      · rw [e] at h9; exact hc' h9
      · rw [hkeep _ hlt e, Array.getElem?_eq_getElem hlt] at h9; cases h9
    · obtain ⟨arr', T', b1, ⟨b2, _⟩, b3⟩ := hb'.blocks 0 (blk pre zs' suf) (by cases k <;> rfl)
      rw [hμ] at b1
      refine ⟨T', ?_⟩
      rw [b1]
      have hb2 : blk pre zs' suf = (pre ++ zs'.map (Value.int .i64) ++ suf).map (fun v => .pv (.lit v)) := by
        unfold blk; simp only [List.map_append, List.map_map, List.append_assoc]; rfl
      rw [hb2, List.length_map] at b2
      rw [cells_lits (bl := fun k => bl (.cell 0 k)) b2 fun k x hk => (b3 k x (by rw [hb2]; exact hk)).2]
  · have hz : zs = [] := by
      cases zs with
      | nil => rfl
      | cons _ _ => unfold intsB at he; cases he
    subst hz
    have hfit : FitL (snap w) (.lit (.slice p 0 cap) :: args) (.slice p 0 cap :: us) := ⟨_, _, rfl, rfl, h1⟩
    refine ((h0 rfl p cap).2 w _ hfit).mono fun e w' ⟨v, r, g', o, he, ⟨k, r1, r2, r3⟩, hE, hF, _, _⟩ => ?_
    subst r3
    refine ⟨k, r1, r2, ?_, hE.env, hE.size, fun k hk => hE.keep k hk⟩
    rw [he]
    cases k with
    | none =>
      have h7 : SFit g' w' (.pv (.tup [])) v o := hF
      obtain ⟨_, vs, rfl, h8⟩ := h7
      have h8' : vs.toList = [] := h8
      have : vs = #[] := Array.ext' h8'
      rw [this]
    | some m =>
      have h7 : v = .slice p m cap := hF.2
      rw [h7]

end Go.AX

namespace Go.AX
open Go.Proofs Go.Shelf

theorem intsB_len' (l : List Int) : (intsB l).length = l.length := by unfold intsB; simp
end Go.AX
