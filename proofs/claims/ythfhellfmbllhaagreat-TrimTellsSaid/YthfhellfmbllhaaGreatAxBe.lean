/-
  AX, part XD: a call that leaves certain blocks; its own are let go.
  AX, part Be: what names blocks below a number only.
-/
import Derived.Test.YthfhellfmbllhaaGreatAxBL
namespace Go.AX
theorem amutXD {P : Program} (bad : List Nat) {f : FuncId} {fn : Func} {c : Code} {args : List PV} {h : List (List SV)} {R : SV → Prop} (rs : List ResultVar) (h1 : List (List SV)) (hl : h.length ≤ h1.length) (hbl : belowH h.length h → belowH h1.length h1) (hmo : P.follows .mixedOrders = true) (hf : P.funcs[f]? = some fn) (hcall : callable P f = true) (hb : fn.body = some c)
    (hr : fn.results = rs.toArray) (hok : okC fn.ntmps bad c = true) (hn : args.length ≤ fn.ntmps) (hA : AC P h.length bad c (endQ (retXP P rs h1 R)) ⟨argT 0 args, h⟩) : AMut P f args h (fun r h' => h' = h1 ∧ R r) := by
  refine ⟨hcall, fun g st a w vs hs hh hv => ?_⟩
  have hbel : belowH h1.length h1 := hbl (by have := hs.belH; rwa [hs.n, hh] at this)
  have key := amut_of (R := fun r h' => h' = h1 ∧ R r) hmo hf hcall hb hok hn hA fun g' st' a' w' hk hn0 s' => ?_
  · exact key.2 g st a w vs hs hh hv
  · obtain ⟨k1, k2, k3, k4⟩ := hk
    obtain ⟨g2, t2, l2, n2, s2, vs2, e2, f2⟩ := resL_ok rs s' k1
    obtain ⟨v, e3, f3⟩ := results_run hr (resL_len rs st') e2 f2
    have s3 := s2.weak (st' := ⟨[], (resL P st' rs).2.1.h⟩) rfl fun s => .inr rfl
    obtain ⟨t4, s4⟩ := Sim.dropB (st := ⟨[], (resL P st' rs).2.1.h⟩) (h1 := h1) k2 (ht := trivial) hbel (hs := s3) (h0 := by rw [t2.n0]; exact Nat.le_trans hn0 hl)
    obtain ⟨bl4, hb4⟩ := s4.own
    exact ⟨v, _, _, _, bl4, none, e3, t2.trans t4, s4, hb4, ⟨rfl, k4⟩, ⟨rfl, Fit.below _ _ k3 f3⟩, rfl, fun c hc => by cases hc⟩
theorem Weak.keep {k0 : Nat} {st : St} {t1 : List (Nat × SV)} {h1 : List (List SV)} (h : wkL st.t t1) (hh : st.h = h1) : Weak k0 st ⟨t1, h1⟩ := hh ▸ Weak.slots h
theorem Weak.nilCell {k0 : Nat} {st : St} {b k : Nat} {xs : List SV} (e : Nat) (nw : Bool) (hx : st.h[b]? = some xs) (hk : xs[k]? = some (.pv (.lit (.slice none 0 0)))) : Weak k0 st ⟨killL (qCells b k 1) st.t, st.h.set b (xs.set k (.own nw e []))⟩ := fun g a w _ hs => by
  obtain ⟨bl, hb⟩ := hs.own
  have hkl : k < xs.length := (List.getElem?_eq_some_iff.1 hk).1
  obtain ⟨arr, T, e1, e2, e3⟩ := hb.blocks b xs hx
  have h4 := (e3 k _ hk).2
  have hv : posVal g a w (.cell b k) = .slice none 0 0 := by
    simp only [posVal, e1]; exact h4.2
  exact ⟨g, hs.refl_to, (hs.adopt hb hx hkl (sv := .own nw e []) (o := none) (.inl ⟨rfl, rfl, hv⟩) rfl (fun c hc => by cases hc)).1⟩
end Go.AX

namespace Go.AX
theorem AMut.below {P : Program} {f : FuncId} {args : List PV} {h : List (List SV)} {R : SV → List (List SV) → Prop} (hc : callable P f = true) (hb : belowH h.length h → AMut P f args h R) : AMut P f args h R :=
  ⟨hc, fun g st a w vs hs hh hv => (hb (by have := hs.belH; rwa [hs.n, hh] at this)).2 g st a w vs hs hh hv⟩
def wkRR : List (List PV) → List (List PV) → Prop
  | [], [] => True
  | x :: xs, y :: ys => wkPL x y ∧ wkRR xs ys
  | _, _ => False
theorem wkPL_len : ∀ {a b : List PV}, wkPL a b → a.length = b.length
  | [], [], _ => rfl
  | [], _ :: _, h => by simp [wkPL] at h
  | _ :: _, [], h => by simp [wkPL] at h
  | x :: a, y :: b, h => by
    simp only [wkPL] at h
    rw [List.length_cons, List.length_cons, wkPL_len h.2]
theorem wkRR_len : ∀ {a b : List (List PV)}, wkRR a b → a.length = b.length
  | [], [], _ => rfl
  | [], _ :: _, h => h.elim
  | _ :: _, [], h => h.elim
  | x :: a, y :: b, h => by rw [List.length_cons, List.length_cons, wkRR_len h.2]
theorem FitR.wk {g : Gh} {e : Nat} : ∀ {a b : List (List PV)} {vs : List Value}, wkRR a b → FitR g e a vs → FitR g e b vs
  | [], [], _, _, h => h
  | [], _ :: _, _, h, _ => h.elim
  | _ :: _, [], _, h, _ => h.elim
  | x :: a, y :: b, _, h, ⟨v1, v2, h1, ⟨h2, h2'⟩, h3, h4⟩ => ⟨v1, v2, h1, ⟨by rw [← wkPL_len h.1]; exact h2, h2'⟩, wkPL_ok _ _ _ h.1 h3, FitR.wk h.2 h4⟩
def wkA : PV → PV → Prop
  | .seq nw e rows, .seq nw' e' rows' => (nw' = true → nw = true) ∧ e = e' ∧ wkRR rows rows'
  | x, y => wkP x y
theorem wkA_ok {g : Gh} {x y : PV} {v : Value} (h : wkA x y) (hf : Fit g x v) : Fit g y v := by
  unfold wkA at h
  split at h
  · rename_i nw e rows nw' e' rows'
    obtain ⟨hn, rfl, hr⟩ := h
    obtain ⟨p, cap, h1, hc, h2⟩ := hf
    refine ⟨p, cap, by rw [← wkRR_len hr]; exact h1, by rw [← wkRR_len hr]; exact hc, ?_⟩
    rcases h2 with h2 | ⟨c, off, arr, T, fz, vs, a, b, n, r, q⟩
    · subst h2
      cases rows' with
      | nil => exact .inl rfl
      | cons _ _ => exact hr.elim
    · exact .inr ⟨c, off, arr, T, fz, vs, a, b, fun hh => n (hn hh), FitR.wk hr r, q⟩
  · exact wkP_ok _ _ _ h hf
def wkAL : List PV → List PV → Prop
  | [], [] => True
  | x :: xs, y :: ys => wkA x y ∧ wkAL xs ys
  | _, _ => False
theorem wkAL_ok {g : Gh} : ∀ {xs ys : List PV} {vs : List Value}, wkAL xs ys → FitL g xs vs → FitL g ys vs
  | [], [], _, _, h => h
  | [], _ :: _, _, h, _ => h.elim
  | _ :: _, [], _, h, _ => h.elim
  | _ :: _, _ :: _, _, h, ⟨v, r, h1, h2, h3⟩ => ⟨v, r, h1, wkA_ok h.1 h2, wkAL_ok h.2 h3⟩
theorem AMut.argsA {P : Program} {f : FuncId} {xs ys : List PV} {h : List (List SV)} {R : SV → List (List SV) → Prop} (hm : AMut P f ys h R) (hw : wkAL xs ys) : AMut P f xs h R :=
  ⟨hm.1, fun g st a w vs hs hh hv => hm.2 g st a w vs hs hh (wkAL_ok hw hv)⟩
theorem CallK.introE {P : Program} {st : St} {ok : Prop} {f k : FuncId} {pa p q pa1 : List PV} {h1 : List (List SV)} {d : Option Tmp} {K : St → Prop} {x : Operand} {args : Array Operand} {R : SV → List (List SV) → Prop}
    (hA : AMut P f pa1 h1 R) (hg : gc st x) (hc : calleeOf st x = some (f, p, q)) (hv : (embL st args.toList).2.2) (hh : (embL st args.toList).2.1.h = h1) (hw : wkAL (p ++ ((embL st args.toList).1 ++ q)) pa1)
    (hK : ∀ r h', R r h' → K (putR d r ⟨killL qCell (embL st args.toList).2.1.t, h'⟩)) : CallK P st ok k pa d K x args := by
  subst hh
  exact CallK.introX fun o tys ho hd g a w hs hN K' Q hK' => mut_wp hs o x args tys f p q ho hg hc hv (hd ▸ hN) (hd ▸ ⟨R, hA.argsA hw, hK⟩) hK'
theorem APure.wk {P : Program} {f : FuncId} {args : List PV} {R R' : SV → Prop} (h : APure P f args R) (hr : ∀ r, R r → ∃ x y, r = .pv x ∧ wkP x y ∧ R' (.pv y)) : APure P f args R' :=
  ⟨h.1, fun w vs hv => (h.2 w vs hv).mono fun e w' ⟨v, r, g', o, h1, h2, h3, h4, h5, h6⟩ => by
    obtain ⟨x, y, rfl, hw, hR⟩ := hr r h2
    exact ⟨v, .pv y, g', o, h1, hR, h3, ⟨h4.1, wkP_ok x y v hw h4.2⟩, rfl, h6⟩⟩
end Go.AX
