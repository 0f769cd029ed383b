/-
  AX, part I: calls of functions that change nothing.
-/
import Derived.Test.YtipaihpchnlkfaaAxH
namespace Go.AX

/-! ### Views -/
mutual
def frzW (r : Nat → Nat → PV) : PV → PV
  | .bot => .bot
  | .lit v => .lit v
  | .agg xs => .agg (frzL r xs)
  | .tup xs => .tup (frzL r xs)
  | .seq _ e rows => .seq false e (frzR r rows)
  | .iptr e rows i k => .iptr e (frzR r rows) i k
  | .ptr b off => r b off
  | .fn f first cap => .fn f (frzL r first) (frzL r cap)
  | .amap _ es => .amap false (frzE r es)
  | .ifc t x => .ifc t (frzW r x)
def frzL (r : Nat → Nat → PV) : List PV → List PV
  | [] => []
  | x :: xs => frzW r x :: frzL r xs
def frzR (r : Nat → Nat → PV) : List (List PV) → List (List PV)
  | [] => []
  | x :: xs => frzL r x :: frzR r xs
def frzE (r : Nat → Nat → PV) : List (Int × PV) → List (Int × PV)
  | [] => []
  | (k, x) :: xs => (k, frzW r x) :: frzE r xs
end

theorem frzL_map (r : Nat → Nat → PV) : ∀ xs : List PV, frzL r xs = xs.map (frzW r)
  | [] => rfl
  | x :: xs => by simp [frzL, frzL_map r xs]
theorem frzR_map (r : Nat → Nat → PV) : ∀ xs : List (List PV), frzR r xs = xs.map (List.map (frzW r))
  | [] => rfl
  | x :: xs => by simp [frzR, frzR_map r xs, frzL_map]
theorem frzE_map (r : Nat → Nat → PV) : ∀ xs : List (Int × PV), frzE r xs = xs.map (fun p => (p.1, frzW r p.2))
  | [] => rfl
  | (k, x) :: xs => by simp [frzE, frzE_map r xs]

/-- A cell as it reads while nothing is written. -/
def frzC (r : Nat → Nat → PV) : SV → PV
  | .pv x => frzW r x
  | .own _ e rows => .seq false e (frzR r rows)
  | .omap _ es => .amap false (frzE r es)
  | _ => .bot

def frzP (h : List (List SV)) : Nat → Nat → Nat → PV
  | 0, _, _ => .bot
  | n + 1, b, off => .iptr (h.getD b []).length [(h.getD b []).map (frzC (frzP h n))] 0 off

/-- All of memory, as it stands. -/
def snap (w : World) : Gh := { I := fun c => w.heap[c]?, F := fun _ => none, B := w.heap.size, μ := fun _ => 0, n := 0, n0 := 0, N := 0, env := envOf w }

section
variable {g : Gh} {w : World} {r : Nat → Nat → PV}
mutual
theorem Fit.frz (hI : ∀ c o, g.I c = some o → w.heap[c]? = some o) (hr : ∀ b off, b < g.n → Fit (snap w) (r b off) (.pointer (some ⟨g.μ b, off, none⟩))) :
    ∀ (x : PV) (v : Value), Fit g x v → Fit (snap w) (frzW r x) v
  | .bot, _, _ => trivial
  | .lit _, _, h => h
  | .agg xs, v, ⟨vs, h1, h2⟩ => ⟨vs, h1, FitL.frz hI hr xs _ h2⟩
  | .tup xs, v, ⟨vs, h1, h2⟩ => ⟨vs, h1, FitL.frz hI hr xs _ h2⟩
  | .seq nw e rows, v, ⟨p, cap, h1, hc, h2⟩ => ⟨p, cap, by rw [h1, frzR_map, List.length_map], by rw [frzR_map, List.length_map]; exact hc, h2.imp (fun h => by rw [h]; rfl)
      fun ⟨c, off, arr, T, fz, vs, a, b, _, q1, q2⟩ => ⟨c, off, arr, T, fz, vs, a, hI _ _ b, fun hn => (by cases hn), FitR.frz hI hr e rows vs q1, q2⟩⟩
  | .iptr e rows i k, v, ⟨c, off, arr, T, fz, vs, a, b, q1, q2⟩ => ⟨c, off, arr, T, fz, vs, a, hI _ _ b, FitR.frz hI hr e rows vs q1, q2⟩
  | .ptr b off, v, ⟨h1, h2⟩ => by rw [h2]; exact hr b off h1
  | .fn f first cap, v, ⟨a, b, h1, h2, h3⟩ => ⟨a, b, h1, FitL.frz hI hr first _ h2, FitL.frz hI hr cap _ h3⟩
  | .amap nw es, v, h => h.imp (fun ⟨h1, h2⟩ => ⟨by rw [h1]; rfl, h2⟩) fun ⟨c, en, ck, a, b, _, q⟩ => ⟨c, en, ck, a, hI _ _ b, fun hn => (by cases hn), FitE.frz hI hr es _ q⟩
  | .ifc t x, v, ⟨y, h1, h2⟩ => ⟨y, h1, Fit.frz hI hr x y h2⟩
theorem FitL.frz (hI : ∀ c o, g.I c = some o → w.heap[c]? = some o) (hr : ∀ b off, b < g.n → Fit (snap w) (r b off) (.pointer (some ⟨g.μ b, off, none⟩))) :
    ∀ (xs : List PV) (vs : List Value), FitL g xs vs → FitL (snap w) (frzL r xs) vs
  | [], _, h => h
  | x :: xs, vs, ⟨v, r', h1, h2, h3⟩ => ⟨v, r', h1, Fit.frz hI hr x v h2, FitL.frz hI hr xs r' h3⟩
theorem FitR.frz (hI : ∀ c o, g.I c = some o → w.heap[c]? = some o) (hr : ∀ b off, b < g.n → Fit (snap w) (r b off) (.pointer (some ⟨g.μ b, off, none⟩))) (e : Nat) :
    ∀ (rows : List (List PV)) (vs : List Value), FitR g e rows vs → FitR (snap w) e (frzR r rows) vs
  | [], _, h => h
  | row :: rows, vs, ⟨v1, v2, h1, h2, h3, h4⟩ => ⟨v1, v2, h1, ⟨by rw [frzL_map, List.length_map]; exact h2.1, h2.2⟩, FitL.frz hI hr row v1 h3, FitR.frz hI hr e rows v2 h4⟩
theorem FitE.frz (hI : ∀ c o, g.I c = some o → w.heap[c]? = some o) (hr : ∀ b off, b < g.n → Fit (snap w) (r b off) (.pointer (some ⟨g.μ b, off, none⟩))) :
    ∀ (es : List (Int × PV)) (en : List MapEntry), FitE g es en → FitE (snap w) (frzE r es) en
  | [], _, h => h
  | (k, x) :: es, en, ⟨m, r', h1, h2, h3, h4⟩ => ⟨m, r', h1, h2, Fit.frz hI hr x m.val h3, FitE.frz hI hr es r' h4⟩
end
end

theorem SFit.frz {g : Gh} {w : World} {r : Nat → Nat → PV} (hI : ∀ c o, g.I c = some o → w.heap[c]? = some o) (hr : ∀ b off, b < g.n → Fit (snap w) (r b off) (.pointer (some ⟨g.μ b, off, none⟩)))
    {x : SV} {v : Value} {b : Option Nat} (h : SFit g w x v b) (hc : x.inCell = true) : Fit (snap w) (frzC r x) v := by
  cases x with
  | pv y => exact Fit.frz hI hr y v h.2
  | own nw e rows =>
    rcases h with ⟨_, rfl, rfl⟩ | ⟨c, _, cap, arr, T, vs, rfl, e2, e3, e4, e5, e6, e7⟩
    · exact ⟨none, 0, rfl, Nat.le_refl _, .inl rfl⟩
    · exact ⟨_, cap, by rw [frzR_map, List.length_map], by rw [frzR_map, List.length_map]; exact e4.1, .inr ⟨c, 0, arr, T, (0, 0), vs, rfl, e2, fun hn => (by cases hn), FitR.frz hI hr e rows vs e5, by simpa using e6⟩⟩
  | omap nw es =>
    obtain ⟨c, _, en, ck, rfl, e2, e3, e4⟩ := h
    exact .inr ⟨c, en, ck, rfl, e2, fun hn => (by cases hn), FitE.frz hI hr es _ e3⟩
  | _ => cases hc

theorem frzP_ok {g : Gh} {st : St} {a : Act} {w : World} (h : Sim g st a w) : ∀ (n b off : Nat), b < g.n → Fit (snap w) (frzP st.h n b off) (.pointer (some ⟨g.μ b, off, none⟩))
  | 0, _, _, _ => trivial
  | n + 1, b, off, hb => by
    obtain ⟨bl, hbo⟩ := h.own
    have hl : b < st.h.length := h.n ▸ hb
    have hbe : st.h[b]? = some (st.h.getD b []) := by simp [List.getD, List.getElem?_eq_getElem hl]
    obtain ⟨arr, T, h1, ⟨h2, h2c⟩, h3⟩ := hbo.blocks b _ hbe
    have ih := fun b' off' => frzP_ok h n b' off'
    simp only [frzP]
    generalize st.h.getD b [] = xs at *
    have key : ∀ (ys : List SV) (us : List Value), ys.length = us.length → (∀ (j : Nat) (x : SV) (u : Value), ys[j]? = some x → us[j]? = some u → x.inCell = true ∧ ∃ b' : Option Nat, SFit g w x u b') → FitL (snap w) (ys.map (frzC (frzP st.h n))) us := by
      intro ys
      induction ys with
      | nil => intro us hu _; cases us with
        | nil => rfl
        | cons _ _ => simp at hu
      | cons y ys ih2 =>
        intro us hu hs
        cases us with
        | nil => simp at hu
        | cons u us =>
          obtain ⟨h5, b', h6⟩ := hs 0 y u rfl rfl
          exact ⟨u, us, rfl, SFit.frz h.I ih h6 h5, ih2 us (by simpa using hu) (fun j x v hx hv => hs (j + 1) x v (by simpa using hx) (by simpa using hv))⟩
    have hL := key xs arr.toList (by simpa using h2.symm) (fun j x u hx hu => by
      have := h3 j x hx
      refine ⟨this.1, bl (.cell b j), ?_⟩
      have e : arr.getD j undef = u := by rw [Array.getElem?_toList] at hu; simp [Array.getD_eq_getD_getElem?, hu]
      rw [← e]; exact this.2)
    refine ⟨g.μ b, 0, arr, T, (0, 0), arr.toList, by simp, h1, ⟨arr.toList, [], by simp, ⟨by simp, h2c⟩, hL, rfl⟩, by simp⟩

/-- An operand as it reads while nothing is written. -/
def vw (n : Nat) (st : St) (x : Operand) : PV :=
  match mv st x with
  | .pv y => frzW (frzP st.h n) y
  | .al p => frzC (frzP st.h n) (posGet st p)
  | .loc p lo hi => match posGet st p with
    | .own _ e rows => .seq false e (frzR (frzP st.h n) ((rows.take hi).drop lo))
    | _ => .bot
  | _ => .bot

def vwOk (st : St) (x : Operand) : Prop :=
  gc st x ∧ match mv st x with
  | .al p => (posGet st p).isOwn = true
  | _ => True

theorem vw_ok {g : Gh} {st : St} {a : Act} {w : World} (h : Sim g st a w) (n : Nat) (x : Operand) (hd : vwOk st x) : Fit (snap w) (vw n st x) (a.eval x) := by
  obtain ⟨hg, hd⟩ := hd
  obtain ⟨hf, ha⟩ := mv_ok h x hg
  have hr := frzP_ok h n
  obtain ⟨bl, hb⟩ := h.own
  unfold vw
  split
  · rename_i y hm; rw [hm] at hf; exact Fit.frz h.I hr y _ hf.2
  · rename_i p hm
    rw [hm] at ha hd
    rw [ha hd]
    exact SFit.frz h.I hr (pos_fit hb hd) (by cases hp : posGet st p <;> simp only [hp] at hd <;> first | rfl | cases hd)
  · rename_i p lo hi hm
    rw [hm] at ha
    split
    · rename_i nw e rows hp
      obtain ⟨j1, j2, q, cap, hv, jc, hq⟩ := ha _ _ _ hp
      have hfp := pos_fit hb (p := p) (by rw [hp]; rfl)
      rw [hp] at hfp
      refine ⟨q, cap, by rw [hv, frzR_map, List.length_map, List.length_drop, List.length_take]; congr 1; omega, by rw [frzR_map]; simp; omega, ?_⟩
      by_cases hlh : lo = hi
      · left; subst hlh; rw [frzR_map]; simp
      · right
        rcases hq with hq | ⟨c, n', cp, hpv, rfl⟩
        · exact absurd hq hlh
        · rcases hfp with ⟨_, rfl, e1⟩ | ⟨c', _, cap', arr, T, vs, e1, e2, e3, e4, e5, e6, e7⟩
          · simp at j2; omega
          · rw [e1] at hpv; cases hpv
            refine ⟨_, lo * e, arr, T, (0, 0), (vs.take (hi * e)).drop (lo * e), rfl, e2, fun hn => (by cases hn), FitR.frz h.I hr e _ _ (e5.cut lo hi j1 j2), cut_prefix e6 _ _⟩
    · trivial
  · trivial

/-! ### Values that lie in new memory -/
mutual
def PV.nw : PV → Prop
  | .bot => True
  | .lit _ => True
  | .agg xs => nwL xs
  | .tup xs => nwL xs
  | .seq n _ rows => (rows = [] ∨ n = true) ∧ nwR rows
  | .iptr _ _ _ _ => False
  | .ptr _ _ => False
  | .fn _ first cap => nwL first ∧ nwL cap
  | .amap n es => n = true ∧ nwE es
  | .ifc _ x => x.nw
def nwL : List PV → Prop
  | [] => True
  | x :: xs => x.nw ∧ nwL xs
def nwR : List (List PV) → Prop
  | [] => True
  | x :: xs => nwL x ∧ nwR xs
def nwE : List (Int × PV) → Prop
  | [] => True
  | (_, x) :: xs => x.nw ∧ nwE xs
end

theorem nwL_iff : ∀ xs : List PV, nwL xs ↔ ∀ x ∈ xs, x.nw
  | [] => by simp [nwL]
  | x :: xs => by simp [nwL, nwL_iff xs]
theorem nwR_iff : ∀ xs : List (List PV), nwR xs ↔ ∀ r ∈ xs, nwL r
  | [] => by simp [nwR]
  | x :: xs => by simp [nwR, nwR_iff xs]
theorem nwE_iff : ∀ xs : List (Int × PV), nwE xs ↔ ∀ r ∈ xs, r.2.nw
  | [] => by simp [nwE]
  | (k, x) :: xs => by simp [nwE, nwE_iff xs]

section
variable {g g2 : Gh}
mutual
theorem Fit.new (hI : ∀ c o, g.I c = some o → g.B ≤ c → g2.I c = some o) (hB : g2.B ≤ g.B) : ∀ (x : PV) (v : Value), x.nw → Fit g x v → Fit g2 x v
  | .bot, _, _, _ => trivial
  | .lit _, _, _, h => h
  | .agg xs, v, hn, ⟨vs, h1, h2⟩ => ⟨vs, h1, FitL.new hI hB xs _ hn h2⟩
  | .tup xs, v, hn, ⟨vs, h1, h2⟩ => ⟨vs, h1, FitL.new hI hB xs _ hn h2⟩
  | .seq nw e rows, v, ⟨hn1, hn2⟩, ⟨p, cap, h1, hc, h2⟩ => ⟨p, cap, h1, hc, hn1.elim .inl fun hnw => h2.imp id
      fun ⟨c, off, arr, T, fz, vs, a, b, n, q1, q2⟩ => ⟨c, off, arr, T, fz, vs, a, hI _ _ b (n hnw), fun hn => Nat.le_trans hB (n hn), FitR.new hI hB e rows vs hn2 q1, q2⟩⟩
  | .iptr _ _ _ _, _, hn, _ => hn.elim
  | .ptr _ _, _, hn, _ => hn.elim
  | .fn f first cap, v, ⟨n1, n2⟩, ⟨a, b, h1, h2, h3⟩ => ⟨a, b, h1, FitL.new hI hB first _ n1 h2, FitL.new hI hB cap _ n2 h3⟩
  | .amap nw es, v, ⟨hn1, hn2⟩, h => by
    rcases h with h | ⟨c, en, ck, a, b, n, q⟩
    · exact .inl h
    · exact .inr ⟨c, en, ck, a, hI _ _ b (n hn1), fun hn => Nat.le_trans hB (n hn), FitE.new hI hB es _ hn2 q⟩
  | .ifc t x, v, hn, ⟨y, h1, h2⟩ => ⟨y, h1, Fit.new hI hB x y hn h2⟩
theorem FitL.new (hI : ∀ c o, g.I c = some o → g.B ≤ c → g2.I c = some o) (hB : g2.B ≤ g.B) : ∀ (xs : List PV) (vs : List Value), nwL xs → FitL g xs vs → FitL g2 xs vs
  | [], _, _, h => h
  | x :: xs, vs, ⟨n1, n2⟩, ⟨v, r', h1, h2, h3⟩ => ⟨v, r', h1, Fit.new hI hB x v n1 h2, FitL.new hI hB xs r' n2 h3⟩
theorem FitR.new (hI : ∀ c o, g.I c = some o → g.B ≤ c → g2.I c = some o) (hB : g2.B ≤ g.B) (e : Nat) : ∀ (rows : List (List PV)) (vs : List Value), nwR rows → FitR g e rows vs → FitR g2 e rows vs
  | [], _, _, h => h
  | row :: rows, vs, ⟨n1, n2⟩, ⟨v1, v2, h1, h2, h3, h4⟩ => ⟨v1, v2, h1, h2, FitL.new hI hB row v1 n1 h3, FitR.new hI hB e rows v2 n2 h4⟩
theorem FitE.new (hI : ∀ c o, g.I c = some o → g.B ≤ c → g2.I c = some o) (hB : g2.B ≤ g.B) : ∀ (es : List (Int × PV)) (en : List MapEntry), nwE es → FitE g es en → FitE g2 es en
  | [], _, _, h => h
  | (k, x) :: es, en, ⟨n1, n2⟩, ⟨m, r', h1, h2, h3, h4⟩ => ⟨m, r', h1, h2, Fit.new hI hB x m.val n1 h3, FitE.new hI hB es r' n2 h4⟩
end
end

end Go.AX
