/-
  AX, part O: a body, walked of plain data; a call of a function.
-/
import Derived.Test.YtipaihpchnlkfaaAxN
namespace Go.AX

/-- What is known may be told in other words, or less (k0: how many blocks are another's). -/
def Weak (k0 : Nat) (st st1 : St) : Prop := ∀ g a w, g.n0 ≤ k0 → Sim g st a w → ∃ g', g.to g' ∧ Sim g' st1 a w

theorem Weak.refl (k0 : Nat) (st : St) : Weak k0 st st := fun g _ _ _ h => ⟨g, h.refl_to, h⟩
theorem Weak.trans {k0 : Nat} {a b c : St} (h : Weak k0 a b) (h' : Weak k0 b c) : Weak k0 a c := fun g ac w h0 hs => by
  obtain ⟨g1, t1, s1⟩ := h g ac w h0 hs
  obtain ⟨g2, t2, s2⟩ := h' g1 ac w (by rw [t1.n0]; exact h0) s1
  exact ⟨g2, t1.trans t2, s2⟩

/-- One slot's word may stand for another's. -/
def wkv (v v1 : SV) : Prop := v1 = v ∨ v1 = .pv .bot

def wkL (t : List (Nat × SV)) : List (Nat × SV) → Prop
  | [] => True
  | (s, v) :: r => wkv (look t s) v ∧ wkL t r

theorem wkL_ok {t : List (Nat × SV)} : ∀ {t1 : List (Nat × SV)}, wkL t t1 → ∀ s, look t1 s = look t s ∨ look t1 s = .pv .bot
  | [], _, s => .inr rfl
  | (j, v) :: r, h, s => by
    simp only [look]
    by_cases e : j = s
    · subst e; rw [if_pos rfl]; exact h.1
    · rw [if_neg e]; exact wkL_ok h.2 s

/-! ### Blocks are let go -/
section
variable {g : Gh} {k : Nat}
mutual
theorem Fit.below : ∀ (x : PV) (v : Value), x.bel k → Fit g x v → Fit { g with n := k } x v
  | .bot, _, _, _ => trivial
  | .lit _, _, _, h => h
  | .agg xs, _, hn, ⟨vs, h1, h2⟩ => ⟨vs, h1, FitL.below xs _ hn h2⟩
  | .tup xs, _, hn, ⟨vs, h1, h2⟩ => ⟨vs, h1, FitL.below xs _ hn h2⟩
  | .seq _ e rows, _, hn, ⟨p, cap, h1, hc, h2⟩ => ⟨p, cap, h1, hc, h2.imp id fun ⟨c, off, arr, T, fz, vs, a, b, n, q1, q2⟩ => ⟨c, off, arr, T, fz, vs, a, b, n, FitR.below e rows vs hn q1, q2⟩⟩
  | .iptr e rows _ _, _, hn, ⟨c, off, arr, T, fz, vs, a, b, q1, q2⟩ => ⟨c, off, arr, T, fz, vs, a, b, FitR.below e rows vs hn q1, q2⟩
  | .ptr _ _, _, hn, ⟨_, h2⟩ => ⟨hn, h2⟩
  | .fn _ first cap, _, ⟨n1, n2⟩, ⟨a, b, h1, h2, h3⟩ => ⟨a, b, h1, FitL.below first _ n1 h2, FitL.below cap _ n2 h3⟩
  | .amap _ es, _, hn, h => h.imp id fun ⟨c, en, ck, a, b, n, q⟩ => ⟨c, en, ck, a, b, n, FitE.below es _ hn q⟩
  | .ifc _ x, _, hn, ⟨y, h1, h2⟩ => ⟨y, h1, Fit.below x y hn h2⟩
theorem FitL.below : ∀ (xs : List PV) (vs : List Value), belowL k xs → FitL g xs vs → FitL { g with n := k } xs vs
  | [], _, _, h => h
  | x :: xs, _, ⟨n1, n2⟩, ⟨v, r', h1, h2, h3⟩ => ⟨v, r', h1, Fit.below x v n1 h2, FitL.below xs r' n2 h3⟩
theorem FitR.below (e : Nat) : ∀ (rows : List (List PV)) (vs : List Value), belowR k rows → FitR g e rows vs → FitR { g with n := k } e rows vs
  | [], _, _, h => h
  | row :: rows, _, ⟨n1, n2⟩, ⟨v1, v2, h1, h2, h3, h4⟩ => ⟨v1, v2, h1, h2, FitL.below row v1 n1 h3, FitR.below e rows v2 n2 h4⟩
theorem FitE.below : ∀ (es : List (Int × PV)) (en : List MapEntry), belowE k es → FitE g es en → FitE { g with n := k } es en
  | [], _, _, h => h
  | (_, x) :: es, _, ⟨n1, n2⟩, ⟨m, r', h1, h2, h3, h4⟩ => ⟨m, r', h1, h2, Fit.below x m.val n1 h3, FitE.below es r' n2 h4⟩
end
end

def SV.bel (k : Nat) : SV → Prop
  | .pv x => x.bel k
  | .own _ _ rows => belowR k rows
  | .omap _ es => belowE k es
  | .opt _ x => x.bel k
  | _ => True

theorem SFit.below {g : Gh} {w : World} {k : Nat} : ∀ {x : SV} {v : Value} {b : Option Nat}, x.bel k → SFit g w x v b → SFit { g with n := k } w x v b
  | .pv x, _, _, hn, h => ⟨h.1, Fit.below x _ hn h.2⟩
  | .own _ e rows, _, _, hn, h => h.imp id fun ⟨c, h1, cap, arr, T, vs, a1, a2, a3, a4, a5, a6, a7⟩ => ⟨c, h1, cap, arr, T, vs, a1, a2, a3, a4, FitR.below e rows vs hn a5, a6, a7⟩
  | .omap _ es, _, _, hn, ⟨c, h1, en, ck, a1, a2, a3, a4⟩ => ⟨c, h1, en, ck, a1, a2, FitE.below es _ hn a3, a4⟩
  | .opt _ _, _, _, hn, h => ⟨h.1, h.2.1, fun hc => SFit.below hn (h.2.2 hc)⟩
  | .al _, _, _, _, h => h
  | .loc _ _ _, _, _, _, h => h
  | .sptr _ _ _, _, _, _, h => h

def belowT (k : Nat) : List (Nat × SV) → Prop
  | [] => True
  | (_, v) :: r => v.bel k ∧ belowT k r
def belowC (k : Nat) : List SV → Prop
  | [] => True
  | v :: r => v.bel k ∧ belowC k r
def belowH (k : Nat) : List (List SV) → Prop
  | [] => True
  | v :: r => belowC k v ∧ belowH k r

theorem belowT_look {k : Nat} : ∀ {t : List (Nat × SV)}, belowT k t → ∀ s, (look t s).bel k
  | [], _, s => trivial
  | (j, v) :: r, h, s => by
    simp only [look]
    split
    · exact h.1
    · exact belowT_look h.2 s
theorem belowC_get {k : Nat} : ∀ {l : List SV}, belowC k l → ∀ (i : Nat) (x : SV), l[i]? = some x → x.bel k
  | [], _, i, x, h => by simp at h
  | v :: r, hl, 0, x, h => by simp at h; subst h; exact hl.1
  | v :: r, hl, i + 1, x, h => belowC_get hl.2 i x (by simpa using h)
theorem belowH_get {k : Nat} : ∀ {l : List (List SV)}, belowH k l → ∀ (i : Nat) (x : List SV), l[i]? = some x → belowC k x
  | [], _, i, x, h => by simp at h
  | v :: r, hl, 0, x, h => by simp at h; subst h; exact hl.1
  | v :: r, hl, i + 1, x, h => belowH_get hl.2 i x (by simpa using h)

theorem Weak.drop {k0 : Nat} {st : St} {h1 : List (List SV)} (hh : st.h.take h1.length = h1) (hk : k0 ≤ h1.length) (ht : belowT h1.length st.t) (hb : belowH h1.length h1) : Weak k0 st ⟨st.t, h1⟩ := by
  intro g a w h0 hs
  obtain ⟨bl, hbl⟩ := hs.own
  have hle : h1.length ≤ g.n := by rw [hs.n, ← hh, List.length_take]; exact Nat.min_le_right _ _
  have hget : ∀ b xs, h1[b]? = some xs → st.h[b]? = some xs := fun b xs hx => by
    have hlt := (List.getElem?_eq_some_iff.1 hx).1
    rw [← hh, List.getElem?_take, if_pos (by exact hlt)] at hx
    exact hx
  have hpos : ∀ p, (posGet ⟨st.t, h1⟩ p).isOwn = true → posGet ⟨st.t, h1⟩ p = posGet st p ∧ posVal { g with n := h1.length } a w p = posVal g a w p := by
    intro p hp
    refine ⟨?_, rfl⟩
    cases p with
    | slot s => rfl
    | cell b k =>
      simp only [posGet] at hp ⊢
      cases hx : h1[b]? with
      | none => simp [List.getD, hx, SV.isOwn] at hp
      | some xs => simp only [List.getD_eq_getElem?_getD, hx, hget b xs hx]
  refine ⟨{ g with n := h1.length }, ⟨fun _ _ h => h, rfl, rfl, rfl, rfl, rfl, Nat.le_trans h0 hk, fun _ _ => rfl, fun _ _ h => h⟩, ?_⟩
  refine { size := hs.size, defs := hs.defs, env := hs.env, n := rfl, n0 := Nat.le_trans h0 hk, B := hs.B, I := hs.I, F := hs.F, μI := fun b hb' => hs.μI b (Nat.lt_of_lt_of_le hb' hle), μinj := fun b b' h2 h3 => hs.μinj b b' (Nat.lt_of_lt_of_le h2 hle) (Nat.lt_of_lt_of_le h3 hle),
           own := ⟨fun p => match p with | .slot s => bl (.slot s) | .cell b k => if b < h1.length then bl (.cell b k) else none, ?_⟩, al := fun s => AlOk.congr hpos (hs.al s) }
  have hsub : ∀ p c, (match p with | .slot s => bl (.slot s) | .cell b k => if b < h1.length then bl (.cell b k) else none) = some c → bl p = some c := by
    intro p c hp
    cases p with
    | slot s => exact hp
    | cell b k =>
      simp only at hp
      split at hp
      · exact hp
      · cases hp
  refine { slots := fun s => SFit.below (belowT_look ht s) (hbl.slots s), blocks := fun b xs hx => ?_, inj := fun p q c hp hq => hbl.inj p q c (hsub p c hp) (hsub q c hq), free := fun p c hp => ?_ }
  · obtain ⟨arr, T, e1, e2, e3⟩ := hbl.blocks b xs (hget b xs hx)
    refine ⟨arr, T, e1, e2, fun k x hk' => ?_⟩
    simp only [if_pos (List.getElem?_eq_some_iff.1 hx).1]
    exact ⟨(e3 k x hk').1, SFit.below (belowC_get (belowH_get hb b xs hx) k x hk') (e3 k x hk').2⟩
  · obtain ⟨f1, f2, f3, f4⟩ := hbl.free p c (hsub p c hp)
    exact ⟨f1, f2, f3, fun b hb' => f4 b (Nat.lt_of_lt_of_le hb' hle)⟩

theorem Weak.slots {k0 : Nat} {st : St} {t1 : List (Nat × SV)} (h : wkL st.t t1) : Weak k0 st ⟨t1, st.h⟩ := fun g _ _ _ hs => ⟨g, hs.refl_to, hs.weak rfl (wkL_ok h)⟩

/-- Slots are forgotten; so are the last blocks. -/
theorem Weak.to {k0 : Nat} {st : St} {t1 : List (Nat × SV)} {h1 : List (List SV)} (h : wkL st.t t1) (hh : st.h.take h1.length = h1) (hk : k0 ≤ h1.length) (ht : belowT h1.length t1) (hb : belowH h1.length h1) : Weak k0 st ⟨t1, h1⟩ :=
  (Weak.slots h).trans (Weak.drop (st := ⟨t1, st.h⟩) hh hk ht hb)

/-- nil, taken for a slice of one's own. -/
theorem Weak.nilOwn {k0 : Nat} {st : St} {s : Nat} (e : Nat) (nw : Bool) (h : look st.t s = .pv (.lit (.slice none 0 0))) : Weak k0 st ⟨(s, .own nw e []) :: killL (qSlot s) st.t, st.h⟩ := fun g a w _ hs => by
  obtain ⟨bl, hb⟩ := hs.own
  have hval : a.tmps.getD s undef = .slice none 0 0 := by have := hb.slots s; rw [h] at this; exact this.2
  have hlt : s < a.tmps.size := by
    apply Nat.lt_of_not_le
    intro hle
    rw [Array.getD_eq_getD_getElem?, Array.getElem?_eq_none hle] at hval
    cases hval
  have := hs.putOwn hb (d := s) (sv := .own nw e []) (v := a.tmps.getD s undef) (o := none) (w' := w) (by rw [← hs.size]; exact hlt) rfl (Nat.le_refl _) (fun _ _ _ => rfl) (.inl ⟨rfl, rfl, hval⟩) rfl (fun c hc => by cases hc)
  rw [put_self hlt] at this
  exact ⟨g, hs.refl_to, this⟩

/-- A slice of one's own, told of as old. -/
theorem Weak.ownOld {k0 : Nat} {st : St} {s e : Nat} {nw : Bool} {rows : List (List PV)} (h : look st.t s = .own nw e rows) : Weak k0 st ⟨(s, .own false e rows) :: killL (qSlot s) st.t, st.h⟩ := fun g a w _ hs => by
  obtain ⟨bl, hb⟩ := hs.own
  have hfit := hb.slots s
  rw [h] at hfit
  have hlt : s < a.tmps.size := by
    apply Nat.lt_of_not_le
    intro hle
    have hu : a.tmps.getD s undef = undef := by rw [Array.getD_eq_getD_getElem?, Array.getElem?_eq_none hle]; rfl
    rw [hu] at hfit
    rcases hfit with ⟨_, _, e1⟩ | ⟨_, _, _, _, _, _, e1, _⟩ <;> cases e1
  obtain ⟨h1, bl', hb', h2, h3, h4⟩ := hs.drop hb (.slot s)
  have hfit' : SFit g w (.own false e rows) (a.tmps.getD s undef) (bl (.slot s)) := hfit.imp id fun ⟨c, e1, cap, arr, T, vs, a1, a2, a3, a4, a5, a6, a7⟩ => ⟨c, e1, cap, arr, T, vs, a1, a2, a3, a4, a5, a6, fun hh => by cases hh⟩
  have h5 := h1.putOwn hb' (d := s) (w' := w) (by rw [← hs.size]; exact hlt) rfl (Nat.le_refl _) (fun _ _ _ => rfl) hfit' rfl (fun c hc => ⟨(hb.free _ c hc).2.2.1, h4 c hc⟩)
  rw [put_self hlt] at h5
  refine ⟨g, hs.refl_to, h5.weak rfl fun k => ?_⟩
  left
  simp only [look, look_kill, setPos]
  split <;> rfl

/-! ### Ways on -/
def seqQ (K : St → Prop) (Q : Exit → St → Prop) (e : Exit) (st : St) : Prop :=
  match e with
  | .normal => K st
  | e => Q e st

def blockQ (id : Nat) (Q : Exit → St → Prop) (e : Exit) (st : St) : Prop :=
  match e with
  | .exit i => if i = id then Q .normal st else Q (.exit i) st
  | e => Q e st

/-- A loop: what is so at each round's beginning. -/
def ALoop (k0 : Nat) (body : (Exit → St → Prop) → St → Prop) (Q : Exit → St → Prop) (st : St) : Prop :=
  ∃ I : Nat → St → Prop, (∃ n st1, Weak k0 st st1 ∧ I n st1) ∧ ∀ n st, I n st → body (seqQ (fun st' => ∃ m st2, m < n ∧ Weak k0 st' st2 ∧ I m st2) Q) st

/-- Another round. -/
def Again {α : Type} (S : α → St) (J : α → Prop) (μ : α → Nat) (k0 n : Nat) (st : St) : Prop := ∃ y, μ y < n ∧ J y ∧ Weak k0 st (S y)

def AC (P : Program) (k0 : Nat) : Code → (Exit → St → Prop) → St → Prop
  | .skip, Q, st => Q .normal st
  | .region _ ops draw, Q, st => if draw = true then ADraw P ops.toList (Q .normal) st else AOps P ops.toList (Q .normal) ops.toList st
  | .seq x y, Q, st => AC P k0 x (seqQ (AC P k0 y Q) Q) st
  | .cond c x y, Q, st => gc st c ∧ isB (mv st c) ∧ (asB (mv st c) = true → AC P k0 x Q st) ∧ (asB (mv st c) = false → AC P k0 y Q st)
  | .block id x, Q, st => AC P k0 x (blockQ id Q) st
  | .exit id, Q, st => Q (.exit id) st
  | .ret, Q, st => Q .ret st
  | .loop x, Q, st => ALoop k0 (AC P k0 x) Q st
  | _, _, _ => False

theorem ALoop.intro {α : Type} {P : Program} {k0 : Nat} {x : Code} {Q : Exit → St → Prop} {st : St} (S : α → St) (J : α → Prop) (μ : α → Nat) (x0 : α) (hw : Weak k0 st (S x0)) (hJ : J x0)
    (hr : ∀ y, J y → AC P k0 x (seqQ (Again S J μ k0 (μ y)) Q) (S y)) : ALoop k0 (AC P k0 x) Q st := by
  refine ⟨fun n st => ∃ y, n = μ y ∧ J y ∧ st = S y, ⟨μ x0, S x0, hw, x0, rfl, hJ, rfl⟩, fun n st ⟨y, hn, hy, hs⟩ => ?_⟩
  subst hn; subst hs
  have : (fun st' => ∃ m st2, m < μ y ∧ Weak k0 st' st2 ∧ ∃ z, m = μ z ∧ J z ∧ st2 = S z) = Again S J μ k0 (μ y) := by
    funext st'
    apply propext
    constructor
    · rintro ⟨m, st2, h1, h2, z, rfl, h3, rfl⟩; exact ⟨z, h1, h3, h2⟩
    · rintro ⟨z, h1, h2, h3⟩; exact ⟨_, _, h1, h3, z, rfl, h2, rfl⟩
  rw [this]
  exact hr y hy

def okC (N : Nat) : Code → Bool
  | .region _ ops draw => dstsOk N ops.toList && (!draw || drawB ops.toList (preLen ops.toList))
  | .seq x y => okC N x && okC N y
  | .cond _ x y => okC N x && okC N y
  | .block _ x => okC N x
  | .loop x => okC N x
  | _ => true

theorem wp_loop_rel {P : Program} {c : Code} {Q : Exit → Act → World → Prop} (I : Nat → Act → World → Prop) (round : ∀ n a w, I n a w → c.wp P (Exit.then (fun a' w' => ∃ m, m < n ∧ I m a' w') Q) a w) {n : Nat} {a : Act} {w : World} (h₀ : I n a w) : (Code.loop c).wp P Q a w := by
  intro b k cs
  have key : ∀ n a w, I n a w → ∃ e a' w', Q e a' w' ∧ Arrives P (lone (b.at a (.code c :: .inLoop c :: k)) cs w) b k cs e a' w' := by
    intro n
    induction n using Nat.strongRecOn with
    | _ n ih =>
      intro a w hI
      obtain ⟨e, a₁, w₁, hq, harr⟩ := round n a w hI b (.inLoop c :: k) cs
      cases e with
      | normal =>
        obtain ⟨m, hlt, hI₁⟩ := hq
        obtain ⟨e₂, a₂, w₂, hq₂, harr₂⟩ := ih m hlt a₁ w₁ hI₁
        exact ⟨e₂, a₂, w₂, hq₂, .of_steps (Steps.trans harr (.one step_inLoop)) harr₂⟩
      | exit id => exact ⟨_, a₁, w₁, hq, .pass (x := .inLoop c) rfl (fun _ _ => .inl (by simp)) harr⟩
      | goto l => exact ⟨_, a₁, w₁, hq, .pass (x := .inLoop c) rfl (fun _ _ => .inl (by simp)) harr⟩
      | ret => exact ⟨_, a₁, w₁, hq, .pass (x := .inLoop c) rfl (fun _ _ => .inl (by simp)) harr⟩
      | panic ch => exact ⟨_, a₁, w₁, hq, .pass (x := .inLoop c) rfl (fun _ _ => .inl (by simp)) harr⟩
      | outgrown => exact ⟨_, a₁, w₁, hq, .pass (x := .inLoop c) rfl (fun _ _ => .inl (by simp)) harr⟩
  obtain ⟨e, a', w', hq, harr⟩ := key _ a w h₀
  exact ⟨e, a', w', hq, .of_steps (.one step_loop) harr⟩

theorem AC_wp {P : Program} {k0 : Nat} (hmo : P.follows .mixedOrders = true) : ∀ (c : Code) {Q : Exit → St → Prop} {st : St} (_ : AC P k0 c Q st) {g : Gh} {a : Act} {w : World} (_ : okC g.N c = true ∧ g.n0 ≤ k0) (_ : Sim g st a w) {Q' : Exit → Act → World → Prop}
    (_ : ∀ e st' g' a' w', Q e st' → g.to g' → Sim g' st' a' w' → Q' e a' w'), c.wp P Q' a w
  | .skip, Q, st, h, g, a, w, ⟨ho, h0⟩, hs, Q', hQ => wp_skip (hQ _ _ g _ _ h hs.refl_to hs)
  | .exit id, Q, st, h, g, a, w, ⟨ho, h0⟩, hs, Q', hQ => wp_exit (hQ _ _ g _ _ h hs.refl_to hs)
  | .ret, Q, st, h, g, a, w, ⟨ho, h0⟩, hs, Q', hQ => wp_ret (hQ _ _ g _ _ h hs.refl_to hs)
  | .region id ops draw, Q, st, h, g, a, w, ⟨ho, h0⟩, hs, Q', hQ => by
    simp only [okC, Bool.and_eq_true, Bool.or_eq_true, Bool.not_eq_true'] at ho
    simp only [AC] at h
    cases draw with
    | false =>
      rw [if_neg (by simp)] at h
      exact wp_region_list (AOps_wp ops.toList h hs ho.1 fun st' g' a' w' => hQ _ st' g' a' w')
    | true =>
      rw [if_pos rfl] at h
      refine ADraw_wp hmo (ho.2.resolve_left (by simp)) h hs ho.1 fun st' g' a' w' => hQ _ st' g' a' w'
  | .seq x y, Q, st, h, g, a, w, ⟨ho, h0⟩, hs, Q', hQ => by
    simp only [okC, Bool.and_eq_true] at ho
    simp only [AC] at h
    refine wp_seq (AC_wp hmo x h ⟨ho.1, h0⟩ hs fun e st' g' a' w' hq t' s' => ?_)
    cases e with
    | normal => exact AC_wp hmo y hq ⟨by rw [t'.N]; exact ho.2, by rw [t'.n0]; exact h0⟩ s' fun e2 st2 g2 a2 w2 q2 t2 s2 => hQ e2 st2 g2 a2 w2 q2 (t'.trans t2) s2
    | exit id => exact hQ _ st' g' a' w' hq t' s'
    | goto l => exact hQ _ st' g' a' w' hq t' s'
    | ret => exact hQ _ st' g' a' w' hq t' s'
    | panic ch => exact hQ _ st' g' a' w' hq t' s'
    | outgrown => exact hQ _ st' g' a' w' hq t' s'
  | .cond c x y, Q, st, h, g, a, w, ⟨ho, h0⟩, hs, Q', hQ => by
    simp only [okC, Bool.and_eq_true] at ho
    simp only [AC] at h
    obtain ⟨h1, h2, h3, h4⟩ := h
    exact wp_cond_split (bool_ok hs h1 h2) (fun ht => AC_wp hmo x (h3 ht) ⟨ho.1, h0⟩ hs hQ) (fun hf => AC_wp hmo y (h4 hf) ⟨ho.2, h0⟩ hs hQ)
  | .block id x, Q, st, h, g, a, w, ⟨ho, h0⟩, hs, Q', hQ => by
    simp only [okC] at ho
    simp only [AC] at h
    refine wp_block (AC_wp hmo x h ⟨ho, h0⟩ hs fun e st' g' a' w' hq t' s' => ?_)
    cases e with
    | exit i =>
      simp only [blockQ] at hq
      simp only [Exit.inBlock]
      split
      · rename_i e1; rw [if_pos e1] at hq; exact hQ _ st' g' a' w' hq t' s'
      · rename_i e1; rw [if_neg e1] at hq; exact hQ _ st' g' a' w' hq t' s'
    | normal => exact hQ _ st' g' a' w' hq t' s'
    | goto l => exact hQ _ st' g' a' w' hq t' s'
    | ret => exact hQ _ st' g' a' w' hq t' s'
    | panic ch => exact hQ _ st' g' a' w' hq t' s'
    | outgrown => exact hQ _ st' g' a' w' hq t' s'
  | .loop x, Q, st, h, g, a, w, ⟨ho, h0⟩, hs, Q', hQ => by
    simp only [okC] at ho
    simp only [AC] at h
    unfold ALoop at h
    obtain ⟨I, ⟨n, st1, hw, hI⟩, hr⟩ := h
    obtain ⟨g1, t1, s1⟩ := hw g a w h0 hs
    refine wp_loop_rel (fun n a w => ∃ st g', I n st ∧ g.to g' ∧ Sim g' st a w) (fun n a w ⟨st, g', h1, h2, h3⟩ => ?_) (n := n) ⟨st1, g1, hI, t1, s1⟩
    refine AC_wp hmo x (hr n st h1) ⟨by rw [h2.N]; exact ho, by rw [h2.n0]; exact h0⟩ h3 fun e st' g2 a' w' hq t' s' => ?_
    cases e with
    | normal =>
      obtain ⟨m, st2, hlt, hwk, hI2⟩ := hq
      obtain ⟨g3, t3, s3⟩ := hwk g2 a' w' (by rw [t'.n0, h2.n0]; exact h0) s'
      exact ⟨m, hlt, st2, g3, hI2, (h2.trans t').trans t3, s3⟩
    | exit id => exact hQ _ st' g2 a' w' hq (h2.trans t') s'
    | goto l => exact hQ _ st' g2 a' w' hq (h2.trans t') s'
    | ret => exact hQ _ st' g2 a' w' hq (h2.trans t') s'
    | panic ch => exact hQ _ st' g2 a' w' hq (h2.trans t') s'
    | outgrown => exact hQ _ st' g2 a' w' hq (h2.trans t') s'
  | .rangeFunc .., _, _, h, _, _, _, _, _, _, _ => by simp only [AC] at h
  | .scope _, _, _, h, _, _, _, _, _, _, _ => by simp only [AC] at h
  | .label _, _, _, h, _, _, _, _, _, _, _ => by simp only [AC] at h
  | .goto _, _, _, h, _, _, _, _, _, _, _ => by simp only [AC] at h
  | .refuse _, _, _, h, _, _, _, _, _, _, _ => by simp only [AC] at h

end Go.AX
