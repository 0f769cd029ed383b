/-
  AX, part Fz: a call's own blocks, let go, are read from then on and written no more.
-/
import Derived.Test.YthfhellfmbllhaaGreatAxBe
namespace Go.AX
def icells (l : List Int) : List SV := l.map fun x => .pv (.lit (.int .i64 x))
def irows (l : List Int) : List (List PV) := l.map fun x => [.lit (.int .i64 x)]
mutual
def frzQ (h : List (List SV)) (k : Nat) : PV → PV → Prop
  | .bsl b e off n _, y => e = 1 ∧ k ≤ b ∧ ∃ l pre suf, y = .seq false 1 (irows l) ∧ n = l.length ∧ h[b]? = some (pre ++ icells l ++ suf) ∧ pre.length = off
  | .tup xs, y => ∃ ys, y = .tup ys ∧ frzQL h k xs ys
  | .seq nw e rows, y => ∃ rows', y = .seq nw e rows' ∧ frzQR h k rows rows'
  | .bot, y => y = .bot
  | .lit v, y => y = .lit v
  | .agg xs, y => y = .agg xs ∧ belowL k xs
  | .iptr e rows i j, y => y = .iptr e rows i j ∧ belowR k rows
  | .ptr b off, y => y = .ptr b off ∧ b < k
  | .fn f xs ys, y => y = .fn f xs ys ∧ belowL k xs ∧ belowL k ys
  | .amap nw es, y => y = .amap nw es ∧ belowE k es
  | .ifc t x, y => y = .ifc t x ∧ x.bel k
def frzQL (h : List (List SV)) (k : Nat) : List PV → List PV → Prop
  | [], ys => ys = []
  | x :: xs, ys => ∃ y r, ys = y :: r ∧ frzQ h k x y ∧ frzQL h k xs r
def frzQR (h : List (List SV)) (k : Nat) : List (List PV) → List (List PV) → Prop
  | [], rs => rs = []
  | x :: xs, rs => ∃ y r, rs = y :: r ∧ frzQL h k x y ∧ frzQR h k xs r
end
theorem frzQR_irows (h : List (List SV)) (k : Nat) : ∀ l : List Int, frzQR h k (irows l) (irows l)
  | [] => rfl
  | x :: l => ⟨_, _, rfl, ⟨_, _, rfl, rfl, rfl⟩, frzQR_irows h k l⟩
theorem fitR_irows (G : Gh) : ∀ l : List Int, FitR G 1 (irows l) (l.map fun x => .int .i64 x)
  | [] => rfl
  | z :: zs => ⟨[.int .i64 z], zs.map fun x => .int .i64 x, rfl, ⟨rfl, fun v hv => by simp at hv; subst hv; rfl⟩, ⟨_, _, rfl, rfl, rfl⟩, fitR_irows G zs⟩
section
variable {g g2 : Gh} {w : World} {h : List (List SV)} {k : Nat}
mutual
theorem Fit.frzQ (hle : Gh.le { g with n := k } g2) (hB : ∀ b, k ≤ b → b < g.n → g2.I (g.μ b) = w.heap[g.μ b]?)
    (hblk : ∀ b xs, h[b]? = some xs → ∃ arr T, w.heap[g.μ b]? = some (.cells arr T (0, 0)) ∧ arr.size = xs.length ∧ ∀ (j : Nat) x, xs[j]? = some (.pv x) → Fit g x (arr.getD j undef)) : ∀ (x y : PV) (v : Value), frzQ h k x y → Fit g x v → Fit g2 y v
  | .bsl b e off n cap, y, v, ⟨he, hk, l, pre, suf, hy, hn, hb, ho⟩, ⟨h1, h2, h3⟩ => by
    subst he hy hn ho
    obtain ⟨arr, T, a1, a2, a3⟩ := hblk b _ hb
    have hel : ∀ i (_ : i < l.length), arr.toList[pre.length + i]? = some (.int .i64 (l[i])) := fun i hi => by
      have hx : (pre ++ icells l ++ suf)[pre.length + i]? = some (.pv (.lit (.int .i64 l[i]))) := by
        rw [List.append_assoc, List.getElem?_append_right (by omega), Nat.add_sub_cancel_left, List.getElem?_append_left (by unfold icells; simpa using hi)]
        unfold icells
        rw [List.getElem?_map, List.getElem?_eq_getElem hi]
        rfl
      have hf : arr.getD (pre.length + i) undef = .int .i64 l[i] := a3 _ _ hx
      have hlt : pre.length + i < arr.size := by
        rw [a2]; exact (List.getElem?_eq_some_iff.1 hx).1
      rw [Array.getElem?_toList, Array.getElem?_eq_getElem hlt, ← hf]
      simp [Array.getD, hlt]
    refine ⟨_, cap, by rw [h3]; simp [irows], by simpa [irows] using h2, .inr ⟨g.μ b, pre.length, arr, T, (0, 0), l.map fun x => .int .i64 x, rfl, by rw [hB b hk h1, a1], fun hh => (by cases hh), fitR_irows g2 l, ?_⟩⟩
    have htk : (l.map fun x => Value.int .i64 x) = (arr.toList.drop pre.length).take l.length := by
      apply List.ext_getElem?
      intro i
      rw [List.getElem?_take, List.getElem?_drop, List.getElem?_map]
      by_cases hi : i < l.length
      · rw [if_pos hi, hel i hi, List.getElem?_eq_getElem hi]; rfl
      · rw [if_neg hi, List.getElem?_eq_none (by omega)]; rfl
    rw [htk]
    exact List.take_prefix _ _
  | .tup xs, y, v, ⟨ys, hy, hq⟩, ⟨vs, h1, h2⟩ => by
    subst hy
    exact ⟨vs, h1, FitL.frzQ hle hB hblk xs ys _ hq h2⟩
  | .seq nw e rows, y, v, ⟨rows', hy, hq⟩, ⟨p, cap, h1, hc, h2⟩ => by
    subst hy
    have hlen := frzQR_len rows rows' hq
    refine ⟨p, cap, by rw [hlen]; exact h1, by rw [hlen]; exact hc, ?_⟩
    rcases h2 with rfl | ⟨c, off, arr, T, fz, vs, a, b, n, r, q⟩
    · exact .inl hq
    · exact .inr ⟨c, off, arr, T, fz, vs, a, hle.I _ _ b, fun hn => Nat.le_trans hle.B (n hn), FitR.frzQ hle hB hblk e rows rows' vs hq r, q⟩
  | .bot, y, v, hq, _ => by
    have : y = .bot := hq
    subst this; trivial
  | .lit u, y, v, hq, h => by
    have : y = .lit u := hq
    subst this; exact h
  | .agg xs, y, v, ⟨hy, hb⟩, h => by
    subst hy
    exact Fit.mono hle _ _ (Fit.below (.agg xs) v hb h)
  | .iptr e rows i j, y, v, ⟨hy, hb⟩, h => by
    subst hy
    exact Fit.mono hle _ _ (Fit.below (.iptr e rows i j) v hb h)
  | .ptr b off, y, v, ⟨hy, hb⟩, h => by
    subst hy
    exact Fit.mono hle _ _ (Fit.below (.ptr b off) v hb h)
  | .fn f xs ys, y, v, ⟨hy, hb⟩, h => by
    subst hy
    exact Fit.mono hle _ _ (Fit.below (.fn f xs ys) v hb h)
  | .amap nw es, y, v, ⟨hy, hb⟩, h => by
    subst hy
    exact Fit.mono hle _ _ (Fit.below (.amap nw es) v hb h)
  | .ifc t x, y, v, ⟨hy, hb⟩, h => by
    subst hy
    exact Fit.mono hle _ _ (Fit.below (.ifc t x) v hb h)
theorem FitL.frzQ (hle : Gh.le { g with n := k } g2) (hB : ∀ b, k ≤ b → b < g.n → g2.I (g.μ b) = w.heap[g.μ b]?)
    (hblk : ∀ b xs, h[b]? = some xs → ∃ arr T, w.heap[g.μ b]? = some (.cells arr T (0, 0)) ∧ arr.size = xs.length ∧ ∀ (j : Nat) x, xs[j]? = some (.pv x) → Fit g x (arr.getD j undef)) : ∀ (xs ys : List PV) (vs : List Value), frzQL h k xs ys → FitL g xs vs → FitL g2 ys vs
  | [], ys, vs, hq, h => by
    have : ys = [] := hq
    subst this; exact h
  | x :: xs, ys, vs, ⟨y, r, hy, hq, hr⟩, ⟨v, r', h1, h2, h3⟩ => by
    subst hy
    exact ⟨v, r', h1, Fit.frzQ hle hB hblk x y v hq h2, FitL.frzQ hle hB hblk xs r r' hr h3⟩
theorem FitR.frzQ (hle : Gh.le { g with n := k } g2) (hB : ∀ b, k ≤ b → b < g.n → g2.I (g.μ b) = w.heap[g.μ b]?)
    (hblk : ∀ b xs, h[b]? = some xs → ∃ arr T, w.heap[g.μ b]? = some (.cells arr T (0, 0)) ∧ arr.size = xs.length ∧ ∀ (j : Nat) x, xs[j]? = some (.pv x) → Fit g x (arr.getD j undef)) (e : Nat) : ∀ (xs ys : List (List PV)) (vs : List Value), frzQR h k xs ys → FitR g e xs vs → FitR g2 e ys vs
  | [], ys, vs, hq, h => by
    have : ys = [] := hq
    subst this; exact h
  | x :: xs, ys, vs, ⟨y, r, hy, hq, hr⟩, ⟨v1, v2, h1, h2, h3, h4⟩ => by
    subst hy
    exact ⟨v1, v2, h1, ⟨(frzQL_len x y hq).trans h2.1, h2.2⟩, FitL.frzQ hle hB hblk x y v1 hq h3, FitR.frzQ hle hB hblk e xs r v2 hr h4⟩
theorem frzQL_len : ∀ (xs ys : List PV), frzQL h k xs ys → ys.length = xs.length
  | [], ys, hq => by
    have : ys = [] := hq
    subst this; rfl
  | x :: xs, ys, ⟨y, r, hy, hq, hr⟩ => by
    subst hy
    rw [List.length_cons, List.length_cons, frzQL_len xs r hr]
theorem frzQR_len : ∀ (xs ys : List (List PV)), frzQR h k xs ys → ys.length = xs.length
  | [], ys, hq => by
    have : ys = [] := hq
    subst this; rfl
  | x :: xs, ys, ⟨y, r, hy, hq, hr⟩ => by
    subst hy
    rw [List.length_cons, List.length_cons, frzQR_len xs r hr]
end
end
theorem Sim.moreI {g : Gh} {st : St} {a : Act} {w : World} (hs : Sim g st a w) (D : Nat → Prop) [DecidablePred D] (hF : ∀ c, D c → g.F c = none) (hμ : ∀ b, b < g.n → ¬ D (g.μ b)) {bl : Pos → Option Nat} (hb : Owns g st a w bl) (hO : ∀ p c, bl p = some c → ¬ D c) :
    g.to { g with I := fun c => if D c then w.heap[c]? else g.I c } ∧ Sim { g with I := fun c => if D c then w.heap[c]? else g.I c } st a w := by
  have hle : g.le { g with I := fun c => if D c then w.heap[c]? else g.I c } := ⟨fun c o hc => by
    show (if D c then w.heap[c]? else g.I c) = some o
    split
    · exact hs.I c o hc
    · exact hc, Nat.le_refl _, Nat.le_refl _, fun _ _ => rfl⟩
  have hpos : ∀ p, (posGet st p).isOwn = true → posGet st p = posGet st p ∧ posVal { g with I := fun c => if D c then w.heap[c]? else g.I c } a w p = posVal g a w p := fun p _ => ⟨rfl, rfl⟩
  refine ⟨⟨hle.I, rfl, rfl, rfl, rfl, rfl, hs.n0, fun _ _ => rfl, fun c hc hI => ?_⟩, ?_⟩
  · show (if D c then w.heap[c]? else g.I c) = none
    split
    · rename_i hd; exact absurd (hF c hd) hc
    · exact hI
  · refine { size := hs.size, defs := hs.defs, env := hs.env, n := hs.n, n0 := hs.n0, B := hs.B, I := fun c o hc => ?_, F := hs.F, μI := fun b hbn => ⟨?_, (hs.μI b hbn).2⟩, μinj := hs.μinj, own := ⟨bl, ?_⟩, al := fun s => AlOk.congr hpos (hs.al s) }
    · change (if D c then w.heap[c]? else g.I c) = some o at hc
      split at hc
      · exact hc
      · exact hs.I c o hc
    · show (if D (g.μ b) then w.heap[g.μ b]? else g.I (g.μ b)) = none
      rw [if_neg (hμ b hbn)]; exact (hs.μI b hbn).1
    · refine { slots := fun s => SFit.frame hle (fun _ _ => rfl) (hb.slots s), blocks := fun b xs hx => ?_, inj := hb.inj, free := fun p c hp => ?_ }
      · obtain ⟨arr, T, e1, e2, e3⟩ := hb.blocks b xs hx
        exact ⟨arr, T, e1, e2, fun j x hj => ⟨(e3 j x hj).1, SFit.frame hle (fun _ _ => rfl) (e3 j x hj).2⟩⟩
      · obtain ⟨f1, f2, f3, f4⟩ := hb.free p c hp
        refine ⟨?_, f2, f3, f4⟩
        show (if D c then w.heap[c]? else g.I c) = none
        rw [if_neg (hO p c hp)]; exact f1
theorem Owns.dropB {st : St} {h1 : List (List SV)} (hh : st.h.take h1.length = h1) (ht : belowT h1.length st.t) (hb : belowH h1.length h1) {g : Gh} {a : Act} {w : World} (hs : Sim g st a w) {bl : Pos → Option Nat} (hbl : Owns g st a w bl) : ∃ bl', Owns { g with n := h1.length } ⟨st.t, h1⟩ a w bl' ∧ ∀ p c, bl' p = some c → bl p = some c := by
  have hle : h1.length ≤ g.n := by rw [hs.n, ← hh, List.length_take]; exact Nat.min_le_right _ _
  have hget : ∀ b xs, h1[b]? = some xs → st.h[b]? = some xs := fun b xs hx => by
    have hlt := (List.getElem?_eq_some_iff.1 hx).1
    rw [← hh, List.getElem?_take, if_pos (by exact hlt)] at hx
    exact hx
  have hsub : ∀ p c, (match p with | .slot s => bl (.slot s) | .cell b k => if b < h1.length then bl (.cell b k) else none) = some c → bl p = some c := by
    intro p c hp
    cases p with
    | slot s => exact hp
    | cell b k =>
      simp only at hp
      split at hp
      · exact hp
      · cases hp
  refine ⟨fun p => match p with | .slot s => bl (.slot s) | .cell b k => if b < h1.length then bl (.cell b k) else none, { slots := fun s => SFit.below (belowT_look ht s) (hbl.slots s), blocks := fun b xs hx => ?_, inj := fun p q c hp hq => hbl.inj p q c (hsub p c hp) (hsub q c hq), free := fun p c hp => ?_ }, hsub⟩
  · obtain ⟨arr, T, e1, e2, e3⟩ := hbl.blocks b xs (hget b xs hx)
    refine ⟨arr, T, e1, e2, fun k x hk' => ?_⟩
    simp only [if_pos (List.getElem?_eq_some_iff.1 hx).1]
    exact ⟨(e3 k x hk').1, SFit.below (belowC_get (belowH_get hb b xs hx) k x hk') (e3 k x hk').2⟩
  · obtain ⟨f1, f2, f3, f4⟩ := hbl.free p c (hsub p c hp)
    exact ⟨f1, f2, f3, fun b hb' => f4 b (Nat.lt_of_lt_of_le hb' hle)⟩
def retXF (P : Program) (rs : List ResultVar) (h : List (List SV)) (R : SV → Prop) (st : St) : Prop :=
  (resL P st rs).2.2 ∧ (resL P st rs).2.1.h.take h.length = h ∧ ∃ y, frzQ (resL P st rs).2.1.h h.length (resOut (resL P st rs).1) y ∧ R (.pv y)
theorem amutXF {P : Program} (bad : List Nat) {f : FuncId} {fn : Func} {c : Code} {args : List PV} {h : List (List SV)} {R : SV → Prop} (rs : List ResultVar) (hmo : P.follows .mixedOrders = true) (hf : P.funcs[f]? = some fn) (hcall : callable P f = true) (hb : fn.body = some c)
    (hr : fn.results = rs.toArray) (hok : okC fn.ntmps bad c = true) (hn : args.length ≤ fn.ntmps) (hA : AC P h.length bad c (endQ (retXF P rs h R)) ⟨argT 0 args, h⟩) : AMut P f args h (fun r h' => h' = h ∧ R r) := by
  refine ⟨hcall, fun g st a w vs hs hh hv => ?_⟩
  have hbel : belowH h.length h := by have := hs.belH; rwa [hs.n, hh] at this
  have key := amut_of (R := fun r h' => h' = h ∧ R r) hmo hf hcall hb hok hn hA fun g' st' a' w' hk hn0 s' => ?_
  · exact key.2 g st a w vs hs hh hv
  · obtain ⟨k1, k2, y, k3, k4⟩ := hk
    obtain ⟨g2, t2, l2, n2, s2, vs2, e2, f2⟩ := resL_ok rs s' k1
    obtain ⟨v, e3, f3⟩ := results_run hr (resL_len rs st') e2 f2
    have s3 := s2.weak (st' := ⟨[], (resL P st' rs).2.1.h⟩) rfl fun s => .inr rfl
    obtain ⟨t4, s4⟩ := Sim.dropB (st := ⟨[], (resL P st' rs).2.1.h⟩) (h1 := h) k2 (ht := trivial) hbel (hs := s3) (h0 := by rw [t2.n0]; exact hn0)
    have hkn : h.length ≤ g2.n := by rw [s3.n, ← k2, List.length_take]; exact Nat.min_le_right _ _
    obtain ⟨bl3, hb3⟩ := s3.own
    obtain ⟨bl4, hb4, hsub⟩ := Owns.dropB (st := ⟨[], (resL P st' rs).2.1.h⟩) (h1 := h) k2 (ht := trivial) hbel s3 hb3
    obtain ⟨D, hD⟩ : ∃ D : Nat → Prop, ∀ c, D c ↔ ∃ b, h.length ≤ b ∧ b < g2.n ∧ g2.μ b = c := ⟨_, fun _ => Iff.rfl⟩
    have : DecidablePred D := fun _ => Classical.propDecidable _
    obtain ⟨t5, s5⟩ := s4.moreI D
      (fun c hc => by
        obtain ⟨b, h1, h2, h3⟩ := (hD c).1 hc
        subst h3
        exact (s3.μI b h2).2)
      (fun b hb hc => by
        obtain ⟨b', h1, h2, h3⟩ := (hD _).1 hc
        have := s3.μinj b' b h2 (Nat.lt_of_lt_of_le hb hkn) h3
        subst this
        exact absurd hb (Nat.not_lt.2 h1)) hb4
      (fun p c hp hc => by
        obtain ⟨b', h1, h2, h3⟩ := (hD _).1 hc
        exact (hb3.free p c (hsub p c hp)).2.2.2 b' h2 h3)
    obtain ⟨bl5, hb5⟩ := s5.own
    refine ⟨v, _, _, _, bl5, none, e3, (t2.trans t4).trans t5, s5, hb5, ⟨rfl, k4⟩, ⟨rfl, ?_⟩, rfl, fun c hc => by cases hc⟩
    refine Fit.frzQ (g := g2) (g2 := { { g2 with n := h.length } with I := fun c => if D c then w'.heap[c]? else g2.I c }) (w := w') (k := h.length) (h := (resL P st' rs).2.1.h) ⟨fun c o hc => ?_, Nat.le_refl _, Nat.le_refl _, fun _ _ => rfl⟩ (fun b h1 h2 => ?_) (fun b xs hx => ?_) _ y v k3 f3
    · show (if D c then w'.heap[c]? else g2.I c) = some o
      split
      · exact s3.I c o hc
      · exact hc
    · show (if D (g2.μ b) then w'.heap[g2.μ b]? else g2.I (g2.μ b)) = _
      rw [if_pos ((hD _).2 ⟨b, h1, h2, rfl⟩)]
    · obtain ⟨arr, T, e1, e2, e3⟩ := hb3.blocks b xs hx
      exact ⟨arr, T, e1, e2.1, fun j x hj => (e3 j _ hj).2.2⟩
attribute [simp] retXF
end Go.AX
