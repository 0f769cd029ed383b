/-
  AX, part E: what changes a walk's state.
-/
import Derived.Test.YtipaihpchnlkfaaAxD
namespace Go.AX

theorem SFit.frame {g g' : Gh} {w w' : World} (hl : g.le g') : ∀ {sv : SV} {v : Value} {b : Option Nat}, (∀ c, b = some c → w'.heap[c]? = w.heap[c]?) → SFit g w sv v b → SFit g' w' sv v b
  | .pv _, _, _, _, h => ⟨h.1, Fit.mono hl _ _ h.2⟩
  | .own _ _ _, _, _, hw, h => h.imp id fun ⟨c, h1, cap, arr, T, vs, a1, a2, a3, a4, a5, a6, a7⟩ =>
    ⟨c, h1, cap, arr, T, vs, a1, by rw [hw c h1]; exact a2, a3, a4, FitR.mono hl _ _ _ a5, a6, fun hn => Nat.le_trans hl.B (a7 hn)⟩
  | .omap _ _, _, _, hw, ⟨c, h1, en, ck, a1, a2, a3, a4⟩ => ⟨c, h1, en, ck, a1, by rw [hw c h1]; exact a2, FitE.mono hl _ _ a3, fun hn => Nat.le_trans hl.B (a4 hn)⟩
  | .opt _ _, _, _, _, h => ⟨h.1, h.2.1, fun hc => SFit.frame hl (fun _ hb => by cases hb) (h.2.2 hc)⟩
  | .al _, _, _, _, h => h
  | .loc _ _ _, _, _, _, h => h
  | .sptr _ _ _, _, _, _, h => h

theorem AlOk.congr {g g' : Gh} {st st' : St} {a a' : Act} {w w' : World} (hp : ∀ p, (posGet st' p).isOwn = true → posGet st' p = posGet st p ∧ posVal g' a' w' p = posVal g a w p) :
    ∀ {sv : SV} {v : Value}, AlOk g st a w sv v → AlOk g' st' a' w' sv v
  | .pv _, _, _ => trivial
  | .own _ _ _, _, _ => trivial
  | .omap _ _, _, _ => trivial
  | .al p, v, h => fun ho => by obtain ⟨h1, h2⟩ := hp p ho; rw [h2]; exact h (by rw [← h1]; exact ho)
  | .loc p lo hi, v, h => fun nw e rows he => by
    obtain ⟨h1, h2⟩ := hp p (by rw [he]; rfl)
    rw [h2]; exact h nw e rows (by rw [← h1]; exact he)
  | .sptr p i k, v, h => fun nw e rows he => by
    obtain ⟨h1, h2⟩ := hp p (by rw [he]; rfl)
    rw [h2]; exact h nw e rows (by rw [← h1]; exact he)
  | .opt c x, v, h => fun hc => AlOk.congr hp (h hc)

theorem getD_put {a : Act} {d : Nat} {v : Value} (hd : d < a.tmps.size) (s : Nat) : (a.put (some d) v).tmps.getD s undef = if d = s then v else a.tmps.getD s undef := by
  simp only [Act.put, Array.getD_eq_getD_getElem?]
  by_cases h : d = s
  · subst h; simp [hd]
  · simp [h]

def St.put (st : St) (d : Nat) (sv : SV) : St := ⟨(d, sv) :: st.t, st.h⟩

theorem look_put (st : St) (d : Nat) (sv : SV) (s : Nat) : look (st.put d sv).t s = if d = s then sv else look st.t s := rfl

theorem Sim.put {g : Gh} {st : St} {a : Act} {w : World} (h : Sim g st a w) {d : Nat} (hd : d < g.N) {sv : SV} {v : Value} (hs : SFit g w sv v none) (ha : AlOk g st a w sv v) (ho : sv.isOwn = false) :
    Sim g (st.put d sv) (a.put (some d) v) w := by
  have hd' : d < a.tmps.size := by rw [h.size]; exact hd
  obtain ⟨bl, hb⟩ := h.own
  have hpos : ∀ p, (posGet (st.put d sv) p).isOwn = true → posGet (st.put d sv) p = posGet st p ∧ posVal g (a.put (some d) v) w p = posVal g a w p := by
    intro p hp
    cases p with
    | cell b k => exact ⟨rfl, rfl⟩
    | slot s =>
      simp only [posGet, look_put] at hp ⊢
      split at hp
      · rw [ho] at hp; cases hp
      · rename_i hne
        simp only [if_neg hne, posVal, getD_put hd', true_and]
  refine { size := ?_, defs := h.defs, env := h.env, n := h.n, n0 := h.n0, B := h.B, I := h.I, F := h.F, μI := h.μI, μinj := h.μinj, own := ⟨fun p => if p = .slot d then none else bl p, ?_⟩, al := fun s => ?_ }
  · simp [Act.put, h.size]
  · refine { slots := fun s => ?_, blocks := fun b xs hx => ?_, inj := fun p q c hp hq => ?_, free := fun p c hp => ?_ }
    · rw [look_put, getD_put hd']
      by_cases he : d = s
      · subst he; simpa using hs
      · simp only [if_neg he]
        rw [if_neg (by intro e; cases e; exact he rfl)]
        exact hb.slots s
    · obtain ⟨arr, T, h1, h2, h3⟩ := hb.blocks b xs hx
      refine ⟨arr, T, h1, h2, fun k x hk => ?_⟩
      rw [if_neg (by intro e; cases e)]
      exact h3 k x hk
    · split at hp
      · cases hp
      · split at hq
        · cases hq
        · exact hb.inj p q c hp hq
    · split at hp
      · cases hp
      · exact hb.free p c hp
  · rw [look_put, getD_put hd']
    by_cases he : d = s
    · simp only [if_pos he]; exact AlOk.congr hpos ha
    · simp only [if_neg he]; exact AlOk.congr hpos (h.al s)

/-- Names for what is, or may be, elsewhere no more. -/
def killS (q : Pos → Bool) : SV → SV
  | .al p => if q p = true then .pv .bot else .al p
  | .loc p lo hi => if q p = true then .pv .bot else .loc p lo hi
  | .sptr p i k => if q p = true then .pv .bot else .sptr p i k
  | .opt c x => match killS q x with
    | .pv .bot => .pv .bot
    | y => .opt c y
  | .pv x => .pv x
  | .own a b c => .own a b c
  | .omap a b => .omap a b

def killL (q : Pos → Bool) (t : List (Nat × SV)) : List (Nat × SV) := t.map fun p => (p.1, killS q p.2)

theorem look_kill (q : Pos → Bool) : ∀ (t : List (Nat × SV)) (s : Nat), look (killL q t) s = killS q (look t s)
  | [], _ => rfl
  | (j, v) :: r, s => by
    simp only [killL, List.map_cons, look]
    split
    · rfl
    · exact look_kill q r s

/-- Names other than those of q. -/
def SV.avoids (q : Pos → Bool) : SV → Prop
  | .al p => q p = false
  | .loc p _ _ => q p = false
  | .sptr p _ _ => q p = false
  | .opt _ x => x.avoids q
  | _ => True

theorem killS_cases (q : Pos → Bool) : ∀ x : SV, killS q x = .pv .bot ∨ (killS q x = x ∧ x.avoids q)
  | .pv _ => .inr ⟨rfl, trivial⟩
  | .own _ _ _ => .inr ⟨rfl, trivial⟩
  | .omap _ _ => .inr ⟨rfl, trivial⟩
  | .al p => by cases h : q p <;> simp [killS, h, SV.avoids]
  | .loc p lo hi => by cases h : q p <;> simp [killS, h, SV.avoids]
  | .sptr p lo hi => by cases h : q p <;> simp [killS, h, SV.avoids]
  | .opt c x => by
    rcases killS_cases q x with h | ⟨h1, h2⟩
    · left; simp [killS, h]
    · rw [killS, h1]
      cases x with
      | pv y => cases y <;> first | (left; rfl) | (right; exact ⟨rfl, h2⟩)
      | _ => right; exact ⟨rfl, h2⟩

theorem AlOk.congrA {g g' : Gh} {st st' : St} {a a' : Act} {w w' : World} {q : Pos → Bool} (hp : ∀ p, q p = false → (posGet st' p).isOwn = true → posGet st' p = posGet st p ∧ posVal g' a' w' p = posVal g a w p) :
    ∀ {sv : SV} {v : Value}, sv.avoids q → AlOk g st a w sv v → AlOk g' st' a' w' sv v
  | .pv _, _, _, _ => trivial
  | .own _ _ _, _, _, _ => trivial
  | .omap _ _, _, _, _ => trivial
  | .al p, v, hq, h => fun ho => by obtain ⟨h1, h2⟩ := hp p hq ho; rw [h2]; exact h (by rw [← h1]; exact ho)
  | .loc p lo hi, v, hq, h => fun nw e rows he => by
    obtain ⟨h1, h2⟩ := hp p hq (by rw [he]; rfl)
    rw [h2]; exact h nw e rows (by rw [← h1]; exact he)
  | .sptr p i k, v, hq, h => fun nw e rows he => by
    obtain ⟨h1, h2⟩ := hp p hq (by rw [he]; rfl)
    rw [h2]; exact h nw e rows (by rw [← h1]; exact he)
  | .opt c x, v, hq, h => fun hc => AlOk.congrA hp hq (h hc)

theorem killS_own {q : Pos → Bool} : ∀ {x : SV}, (killS q x).isOwn = true → killS q x = x
  | .pv _, _ => rfl
  | .own _ _ _, _ => rfl
  | .omap _ _, _ => rfl
  | .al p, h => by simp only [killS] at h; split at h <;> cases h
  | .loc p _ _, h => by simp only [killS] at h; split at h <;> cases h
  | .sptr p _ _, h => by simp only [killS] at h; split at h <;> cases h
  | .opt c x, h => by simp only [killS] at h; split at h <;> cases h

theorem SFit.kill {g : Gh} {w : World} (q : Pos → Bool) {x : SV} {v : Value} {b : Option Nat} (h : SFit g w x v b) : SFit g w (killS q x) v b := by
  rcases killS_cases q x with e | ⟨e, _⟩
  · rw [e]
    cases x with
    | pv y => simp only [killS] at e; cases e; exact h
    | own _ _ _ => cases e
    | omap _ _ => cases e
    | al _ => exact ⟨h, trivial⟩
    | loc _ _ _ => exact ⟨h, trivial⟩
    | sptr _ _ _ => exact ⟨h, trivial⟩
    | opt _ _ => exact ⟨h.1, trivial⟩
  · rw [e]; exact h

/-- What a free block is: nobody's. -/
structure FreeAt (g : Gh) (bl : Pos → Option Nat) (c : Nat) : Prop where
  I : g.I c = none
  F : g.F c = none
  μ : ∀ b, b < g.n → g.μ b ≠ c
  own : ∀ p, bl p ≠ some c

theorem Sim.fresh {g : Gh} {st : St} {a : Act} {w : World} (h : Sim g st a w) {bl : Pos → Option Nat} (hb : Owns g st a w bl) {c : Nat} (hc : w.heap.size ≤ c) : FreeAt g bl c := by
  have hn : w.heap[c]? = none := Array.getElem?_eq_none hc
  refine ⟨?_, ?_, fun b hbn e => ?_, fun p hp => ?_⟩
  · cases hh : g.I c with
    | none => rfl
    | some ob => have := h.I c ob hh; rw [hn] at this; cases this
  · cases hh : g.F c with
    | none => rfl
    | some ob => have := h.F c ob hh; rw [hn] at this; cases this
  · have hbl : b < st.h.length := h.n ▸ hbn
    obtain ⟨arr, T, h3, _⟩ := hb.blocks b _ (List.getElem?_eq_getElem hbl)
    rw [e, hn] at h3; cases h3
  · have := (hb.free p c hp).2.2.1; omega

def qSlot (d : Nat) : Pos → Bool
  | .slot s => d == s
  | .cell _ _ => false

/-- Something owned comes into a slot: a block that is nobody's; nothing else has turned. -/
theorem Sim.putOwn {g : Gh} {st : St} {a : Act} {w w' : World} (h : Sim g st a w) {bl : Pos → Option Nat} (hb : Owns g st a w bl) {d : Nat} (hd : d < g.N) {sv : SV} {v : Value} {o : Option Nat}
    (hen : envOf w' = envOf w) (hsz : w.heap.size ≤ w'.heap.size) (hw : ∀ c, c < w.heap.size → o ≠ some c → w'.heap[c]? = w.heap[c]?) (hs : SFit g w' sv v o) (ho : sv.isOwn = true) (hc : ∀ c, o = some c → c < w'.heap.size ∧ FreeAt g bl c) :
    Sim g ⟨(d, sv) :: killL (qSlot d) st.t, st.h⟩ (a.put (some d) v) w' := by
  have hd' : d < a.tmps.size := by rw [h.size]; exact hd
  have hlt : ∀ {c o}, w.heap[c]? = some o → c < w.heap.size := fun hh => (Array.getElem?_eq_some_iff.1 hh).1
  have hfr : ∀ {b : Option Nat} {p}, bl p = b → ∀ c, b = some c → w'.heap[c]? = w.heap[c]? := fun {b p} hp c hcb =>
    hw c (hb.free _ c (hp.trans hcb)).2.2.1 (fun e => (hc c e).2.own p (hp.trans hcb))
  have hblk : ∀ b, b < g.n → ∀ ob, w.heap[g.μ b]? = some ob → w'.heap[g.μ b]? = w.heap[g.μ b]? := fun b hbn ob hh => hw _ (hlt hh) (fun e => (hc _ e).2.μ b hbn rfl)
  have hbn : ∀ {b xs}, st.h[b]? = some xs → b < g.n := fun hx => by rw [h.n]; exact (List.getElem?_eq_some_iff.1 hx).1
  have hpos : ∀ p, qSlot d p = false → (posGet ⟨(d, sv) :: killL (qSlot d) st.t, st.h⟩ p).isOwn = true → posGet ⟨(d, sv) :: killL (qSlot d) st.t, st.h⟩ p = posGet st p ∧ posVal g (a.put (some d) v) w' p = posVal g a w p := by
    intro p hqp hp
    cases p with
    | cell b k =>
      refine ⟨rfl, ?_⟩
      simp only [posGet] at hp
      cases hx : st.h[b]? with
      | none => simp [List.getD, hx, SV.isOwn] at hp
      | some xs =>
        obtain ⟨arr, T, h1, h2, h3⟩ := hb.blocks b xs hx
        simp only [posVal, hblk b (hbn hx) _ h1]
    | slot s =>
      have hne : d ≠ s := by simpa [qSlot] using hqp
      simp only [posGet, look, if_neg hne, look_kill] at hp ⊢
      refine ⟨killS_own hp, ?_⟩
      simp only [posVal, getD_put hd', if_neg hne]
  refine { size := ?_, defs := h.defs, env := hen.trans h.env, n := h.n, n0 := h.n0, B := Nat.le_trans h.B hsz, I := fun c o' hc' => ?_, F := fun c o' hc' => ?_, μI := h.μI, μinj := h.μinj, own := ⟨fun p => if p = .slot d then o else bl p, ?_⟩, al := fun s => ?_ }
  · simp [Act.put, h.size]
  · have := h.I c o' hc'; rw [hw c (hlt this) (fun e => by have := (hc c e).2.I; rw [hc'] at this; cases this)]; exact this
  · have := h.F c o' hc'; rw [hw c (hlt this) (fun e => by have := (hc c e).2.F; rw [hc'] at this; cases this)]; exact this
  · refine { slots := fun s => ?_, blocks := fun b xs hx => ?_, inj := fun p r c hp hr => ?_, free := fun p c hp => ?_ }
    · simp only [look, look_kill]
      rw [getD_put hd']
      by_cases he : d = s
      · subst he; simpa using hs
      · simp only [if_neg he]
        rw [if_neg (by intro e; cases e; exact he rfl)]
        exact SFit.frame (Gh.le.refl g) (hfr rfl) (SFit.kill _ (hb.slots s))
    · obtain ⟨arr, T, h1, h2, h3⟩ := hb.blocks b xs hx
      refine ⟨arr, T, by rw [hblk b (hbn hx) _ h1]; exact h1, h2, fun k x hk => ?_⟩
      rw [if_neg (by intro e; cases e)]
      exact ⟨(h3 k x hk).1, SFit.frame (Gh.le.refl g) (hfr rfl) (h3 k x hk).2⟩
    · split at hp
      · rename_i e1
        split at hr
        · rename_i e2; rw [e1, e2]
        · exact absurd hr ((hc c hp).2.own r)
      · split at hr
        · exact absurd hp ((hc c hr).2.own p)
        · exact hb.inj p r c hp hr
    · split at hp
      · obtain ⟨h1, h2⟩ := hc c hp
        exact ⟨h2.I, h2.F, h1, h2.μ⟩
      · obtain ⟨h1, h2, h3, h4⟩ := hb.free p c hp
        exact ⟨h1, h2, by omega, h4⟩
  · simp only [look, look_kill]
    rw [getD_put hd']
    by_cases he : d = s
    · simp only [if_pos he]
      cases sv <;> first | trivial | cases ho
    · simp only [if_neg he]
      rcases killS_cases (qSlot d) (look st.t s) with e | ⟨e, hav⟩
      · rw [e]; trivial
      · rw [e]; exact AlOk.congrA hpos hav (h.al s)

/-! ### A place is set anew -/
def setPos (st : St) (p : Pos) (sv : SV) : St :=
  match p with
  | .slot s => ⟨(s, sv) :: st.t, st.h⟩
  | .cell b k => ⟨st.t, st.h.set b ((st.h.getD b []).set k sv)⟩

theorem posGet_setPos_ne (st : St) (p r : Pos) (sv : SV) (h : p ≠ r) : posGet (setPos st p sv) r = posGet st r := by
  cases p with
  | slot s =>
    cases r with
    | slot u => simp only [setPos, posGet, look]; rw [if_neg (fun e => h (by rw [e]))]
    | cell b k => rfl
  | cell b k =>
    cases r with
    | slot u => rfl
    | cell b' k' =>
      simp only [setPos, posGet]
      by_cases hb : b = b'
      · subst hb
        have hk : k ≠ k' := fun e => h (by rw [e])
        simp only [List.getD_eq_getElem?_getD]
        by_cases hl : b < st.h.length
        · simp [hl, hk]
        · rw [List.set_eq_of_length_le (Nat.le_of_not_lt hl)]
      · simp [List.getD_eq_getElem?_getD, hb]

/-- A place is let go: what it held is nobody's. -/
theorem Sim.drop {g : Gh} {st : St} {a : Act} {w : World} (h : Sim g st a w) {bl : Pos → Option Nat} (hb : Owns g st a w bl) (p : Pos) :
    Sim g (setPos st p (.pv .bot)) a w ∧ ∃ bl', Owns g (setPos st p (.pv .bot)) a w bl' ∧ (∀ r, r ≠ p → bl' r = bl r) ∧ bl' p = none ∧ ∀ c, bl p = some c → FreeAt g bl' c := by
  have hown : Owns g (setPos st p (.pv .bot)) a w (fun r => if r = p then none else bl r) := by
    refine { slots := fun s => ?_, blocks := fun b xs hx => ?_, inj := fun r q c hr hq => ?_, free := fun r c hr => ?_ }
    · by_cases he : (.slot s : Pos) = p
      · subst he; simp only [setPos, look, if_true]; exact ⟨rfl, trivial⟩
      · rw [if_neg he]
        have := posGet_setPos_ne st p (.slot s) (.pv .bot) (Ne.symm he)
        simp only [posGet] at this
        rw [this]; exact hb.slots s
    · cases p with
      | slot s =>
        obtain ⟨arr, T, h1, h2, h3⟩ := hb.blocks b xs hx
        refine ⟨arr, T, h1, h2, fun k x hk => ?_⟩
        rw [if_neg (by intro e; cases e)]; exact h3 k x hk
      | cell b0 k0 =>
        simp only [setPos] at hx
        rw [List.getElem?_set] at hx
        split at hx
        · rename_i hbb
          subst hbb
          split at hx
          · rename_i hlt
            simp only [Option.some.injEq] at hx
            subst hx
            simp only [List.getD_eq_getElem?_getD, List.getElem?_eq_getElem hlt, Option.getD_some]
            obtain ⟨arr, T, h1, h2, h3⟩ := hb.blocks b0 _ (List.getElem?_eq_getElem hlt)
            refine ⟨arr, T, h1, ⟨by simpa using h2.1, h2.2⟩, fun k x hk => ?_⟩
            rw [List.getElem?_set] at hk
            split at hk
            · rename_i hkk
              subst hkk
              split at hk
              · cases hk; rw [if_pos rfl]; exact ⟨rfl, rfl, trivial⟩
              · cases hk
            · rename_i hkk
              rw [if_neg (by intro e; cases e; exact hkk rfl)]
              exact h3 k x hk
          · cases hx
        · rename_i hbb
          obtain ⟨arr, T, h1, h2, h3⟩ := hb.blocks b xs hx
          refine ⟨arr, T, h1, h2, fun k x hk => ?_⟩
          rw [if_neg (by intro e; cases e; exact hbb rfl)]
          exact h3 k x hk
    · split at hr
      · cases hr
      · split at hq
        · cases hq
        · exact hb.inj r q c hr hq
    · split at hr
      · cases hr
      · exact hb.free r c hr
  refine ⟨{ size := h.size, defs := h.defs, env := h.env, n := ?_, n0 := h.n0, B := h.B, I := h.I, F := h.F, μI := h.μI, μinj := h.μinj, own := ⟨_, hown⟩, al := fun s => ?_ }, _, hown, fun r hr => if_neg hr, if_pos rfl, fun c hc => ?_⟩
  · cases p with
    | slot s => exact h.n
    | cell b k => simp only [setPos, List.length_set]; exact h.n
  · have hpos : ∀ r, (posGet (setPos st p (.pv .bot)) r).isOwn = true → posGet (setPos st p (.pv .bot)) r = posGet st r ∧ posVal g a w r = posVal g a w r := by
      intro r hr
      by_cases he : p = r
      · subst he
        exfalso
        cases p with
        | slot u => simp [setPos, posGet, look, SV.isOwn] at hr
        | cell b k =>
          simp only [setPos, posGet, List.getD_eq_getElem?_getD] at hr
          by_cases hl : b < st.h.length
          · simp only [List.getElem?_set, hl, if_true, Option.getD_some] at hr
            by_cases hk : k < (st.h[b]?.getD []).length
            · simp [hk, SV.isOwn] at hr
            · simp [hk, SV.isOwn] at hr
          · rw [List.set_eq_of_length_le (Nat.le_of_not_lt hl), List.getElem?_eq_none (Nat.le_of_not_lt hl)] at hr
            simp [SV.isOwn] at hr
      · exact ⟨posGet_setPos_ne st p r _ he, rfl⟩
    by_cases he : (.slot s : Pos) = p
    · subst he; simp only [setPos, look, if_true]; trivial
    · have := posGet_setPos_ne st p (.slot s) (.pv .bot) (Ne.symm he)
      simp only [posGet] at this
      rw [this]; exact AlOk.congr hpos (h.al s)
  · obtain ⟨h1, h2, h3, h4⟩ := hb.free p c hc
    refine ⟨h1, h2, h4, fun r hr => ?_⟩
    split at hr
    · cases hr
    · rename_i hne; exact hne (hb.inj r p c hr hc)

theorem posGet_setPos_same {st : St} {p : Pos} {sv : SV} (h : (posGet st p).isOwn = true) : posGet (setPos st p sv) p = sv := by
  cases p with
  | slot s => simp [setPos, posGet, look]
  | cell b k =>
    simp only [posGet, List.getD_eq_getElem?_getD] at h
    by_cases hl : b < st.h.length
    · by_cases hk : k < (st.h[b]?.getD []).length
      · simp only [setPos, posGet, List.getD_eq_getElem?_getD, List.getElem?_set, hl, if_true, Option.getD_some, hk]
      · rw [List.getElem?_eq_none (Nat.le_of_not_lt hk)] at h; cases h
    · rw [List.getElem?_eq_none (Nat.le_of_not_lt hl)] at h; cases h

theorem AlOk.write {g : Gh} {st st' : St} {a : Act} {w w' : World} {p : Pos} {sv' : SV} (hne : ∀ r, r ≠ p → posGet st' r = posGet st r) (hp : posGet st' p = sv') (hown : (posGet st p).isOwn = true)
    (hv : ∀ r, (posGet st r).isOwn = true → posVal g a w' r = posVal g a w r) (hsame : ∀ nw' e' rows', sv' = .own nw' e' rows' → ∃ nw rows, posGet st p = .own nw e' rows ∧ rows.length = rows'.length) :
    ∀ {sv : SV} {v : Value}, AlOk g st a w sv v → AlOk g st' a w' sv v
  | .pv _, _, _ => trivial
  | .own _ _ _, _, _ => trivial
  | .omap _ _, _, _ => trivial
  | .al r, v, h => fun ho => by
    by_cases hr : r = p
    · subst hr; rw [hv r hown]; exact h hown
    · rw [hne r hr] at ho; rw [hv r ho]; exact h ho
  | .loc r lo hi, v, h => fun nw e rows he => by
    by_cases hr : r = p
    · subst hr
      obtain ⟨nw2, rows2, h1, h2⟩ := hsame nw e rows (by rw [← hp, he])
      rw [hv r hown]
      obtain ⟨a1, a2, a3⟩ := h nw2 e rows2 h1
      exact ⟨a1, by omega, a3⟩
    · rw [hne r hr] at he; rw [hv r (by rw [he]; rfl)]; exact h nw e rows he
  | .sptr r i k, v, h => fun nw e rows he => by
    by_cases hr : r = p
    · subst hr
      obtain ⟨nw2, rows2, h1, h2⟩ := hsame nw e rows (by rw [← hp, he])
      rw [hv r hown]
      exact h nw2 e rows2 h1
    · rw [hne r hr] at he; rw [hv r (by rw [he]; rfl)]; exact h nw e rows he
  | .opt c x, v, h => fun hc => AlOk.write hne hp hown hv hsame (h hc)

/-- What a place owns is written, in place. -/
theorem Sim.ownWrite {g : Gh} {st : St} {a : Act} {w w' : World} (h : Sim g st a w) {bl : Pos → Option Nat} (hb : Owns g st a w bl) {p : Pos} {sv' : SV} {c : Nat} (hown : (posGet st p).isOwn = true) (hc : bl p = some c)
    (hen : envOf w' = envOf w) (hsz : w'.heap.size = w.heap.size) (hw : ∀ k, k ≠ c → w'.heap[k]? = w.heap[k]?) (hs : SFit g w' sv' (posVal g a w p) (some c)) (ho : sv'.isOwn = true)
    (hsame : ∀ nw' e' rows', sv' = .own nw' e' rows' → ∃ nw rows, posGet st p = .own nw e' rows ∧ rows.length = rows'.length) :
    Sim g (setPos st p sv') a w' := by
  obtain ⟨f1, f2, f3, f4⟩ := hb.free p c hc
  have hblk : ∀ b, b < g.n → w'.heap[g.μ b]? = w.heap[g.μ b]? := fun b hbn => hw _ (f4 b hbn)
  have hbn : ∀ {b : Nat} {xs : List SV}, st.h[b]? = some xs → b < g.n := fun hx => by rw [h.n]; exact (List.getElem?_eq_some_iff.1 hx).1
  have hfr : ∀ r, r ≠ p → ∀ k, bl r = some k → w'.heap[k]? = w.heap[k]? := fun r hr k hk => hw k (fun e => hr (hb.inj r p c (by rw [hk, e]) hc))
  have hpv : ∀ r, (posGet st r).isOwn = true → posVal g a w' r = posVal g a w r := by
    intro r hr
    cases r with
    | slot s => rfl
    | cell b k =>
      simp only [posGet] at hr
      cases hx : st.h[b]? with
      | none => simp [List.getD, hx, SV.isOwn] at hr
      | some xs => simp only [posVal, hblk b (hbn hx)]
  have hne := fun r (hr : r ≠ p) => posGet_setPos_ne st p r sv' (Ne.symm hr)
  have hsame' := posGet_setPos_same (sv := sv') hown
  refine { size := h.size, defs := h.defs, env := hen.trans h.env, n := ?_, n0 := h.n0, B := by rw [hsz]; exact h.B, I := fun k o hk => ?_, F := fun k o hk => ?_, μI := h.μI, μinj := h.μinj, own := ⟨bl, ?_⟩, al := fun s => ?_ }
  · cases p with
    | slot s => exact h.n
    | cell b k => simp only [setPos, List.length_set]; exact h.n
  · rw [hw k (fun e => by rw [e, f1] at hk; cases hk)]; exact h.I k o hk
  · rw [hw k (fun e => by rw [e, f2] at hk; cases hk)]; exact h.F k o hk
  · refine { slots := fun s => ?_, blocks := fun b xs hx => ?_, inj := hb.inj, free := fun r k hr => ?_ }
    · by_cases he : (.slot s : Pos) = p
      · subst he
        simp only [posGet] at hsame'
        rw [hsame', hc]; exact hs
      · have := hne _ he
        simp only [posGet] at this
        rw [this]; exact SFit.frame (Gh.le.refl g) (hfr _ he) (hb.slots s)
    · cases p with
      | slot s =>
        obtain ⟨arr, T, h1, h2, h3⟩ := hb.blocks b xs hx
        exact ⟨arr, T, by rw [hblk b (hbn (show st.h[b]? = some xs from hx))]; exact h1, h2, fun k x hk => ⟨(h3 k x hk).1, SFit.frame (Gh.le.refl g) (hfr _ (by intro e; cases e)) (h3 k x hk).2⟩⟩
      | cell b0 k0 =>
        simp only [setPos] at hx
        rw [List.getElem?_set] at hx
        split at hx
        · rename_i hbb
          subst hbb
          split at hx
          · rename_i hlt
            simp only [Option.some.injEq] at hx
            subst hx
            simp only [List.getD_eq_getElem?_getD, List.getElem?_eq_getElem hlt, Option.getD_some]
            obtain ⟨arr, T, h1, h2, h3⟩ := hb.blocks b0 _ (List.getElem?_eq_getElem hlt)
            refine ⟨arr, T, by rw [hblk b0 (hbn (List.getElem?_eq_getElem hlt))]; exact h1, ⟨by simpa using h2.1, h2.2⟩, fun k x hk => ?_⟩
            rw [List.getElem?_set] at hk
            split at hk
            · rename_i hkk
              subst hkk
              split at hk
              · cases hk
                refine ⟨(by cases sv' <;> first | rfl | cases ho), ?_⟩
                rw [hc]
                simpa [posVal, h1] using hs
              · cases hk
            · rename_i hkk
              exact ⟨(h3 k x hk).1, SFit.frame (Gh.le.refl g) (hfr _ (by intro e; cases e; exact hkk rfl)) (h3 k x hk).2⟩
          · cases hx
        · rename_i hbb
          obtain ⟨arr, T, h1, h2, h3⟩ := hb.blocks b xs hx
          exact ⟨arr, T, by rw [hblk b (hbn hx)]; exact h1, h2, fun k x hk => ⟨(h3 k x hk).1, SFit.frame (Gh.le.refl g) (hfr _ (by intro e; cases e; exact hbb rfl)) (h3 k x hk).2⟩⟩
    · obtain ⟨a1, a2, a3, a4⟩ := hb.free r k hr
      exact ⟨a1, a2, by rw [hsz]; exact a3, a4⟩
  · by_cases he : (.slot s : Pos) = p
    · subst he
      simp only [posGet] at hsame'
      rw [hsame']
      cases sv' <;> first | trivial | cases ho
    · have := hne _ he
      simp only [posGet] at this
      rw [this]; exact AlOk.write hne hsame' hown hpv hsame (h.al s)

/-! ### A new block of the walk's own -/
def St.grow (st : St) (xs : List SV) : St := ⟨st.t, st.h ++ [xs]⟩

theorem Sim.blockNew {g : Gh} {st : St} {a : Act} {w : World} (h : Sim g st a w) (xs : List PV) (arr : Array Value) (T : TypeId) (hf : FitL g xs arr.toList) (h1c : ∀ v ∈ arr.toList, v.oneCell' = true) :
    ∃ g', g.to g' ∧ g.le g' ∧ g'.n = g.n + 1 ∧ g'.μ g.n = w.heap.size ∧ Sim g' (st.grow (xs.map .pv)) a (w.alloc (.cells arr T)) := by
  obtain ⟨bl, hb⟩ := h.own
  have hlt : ∀ {c o}, w.heap[c]? = some o → c < w.heap.size := fun hh => (Array.getElem?_eq_some_iff.1 hh).1
  have hnew : (w.alloc (.cells arr T)).heap[w.heap.size]? = some (.cells arr T (0, 0)) := heap_alloc_new w _
  have hold : ∀ k, k < w.heap.size → (w.alloc (.cells arr T)).heap[k]? = w.heap[k]? := fun k hk => heap_alloc_old w _ hk
  have hμ : ∀ b, b < g.n → g.μ b < w.heap.size := fun b hbn => by
    obtain ⟨_, _, h3, _⟩ := hb.blocks b _ (List.getElem?_eq_getElem (h.n ▸ hbn))
    exact hlt h3
  let g' : Gh := { g with n := g.n + 1, μ := fun b => if b = g.n then w.heap.size else g.μ b }
  have hle : g.le g' := ⟨fun _ _ h => h, Nat.le_refl _, Nat.le_succ _, fun b hbn => by show (if b = g.n then _ else _) = _; rw [if_neg (by omega)]⟩
  have hIn : g.I w.heap.size = none := (h.fresh hb (Nat.le_refl _)).I
  have hFn : g.F w.heap.size = none := (h.fresh hb (Nat.le_refl _)).F
  refine ⟨g', ⟨fun _ _ h => h, rfl, rfl, rfl, rfl, rfl, Nat.le_trans h.n0 (Nat.le_succ _), fun b hbn => hle.μ b (Nat.lt_of_lt_of_le hbn h.n0), fun _ _ h => h⟩, hle, rfl, by show (if g.n = g.n then _ else _) = _; rw [if_pos rfl], ?_⟩
  have hfr : ∀ p c, bl p = some c → (w.alloc (.cells arr T)).heap[c]? = w.heap[c]? := fun p c hc => hold c (hb.free p c hc).2.2.1
  have hpg : ∀ p, (posGet (st.grow (xs.map .pv)) p).isOwn = true → posGet (st.grow (xs.map .pv)) p = posGet st p ∧ posVal g' a (w.alloc (.cells arr T)) p = posVal g a w p := by
    intro p hp
    cases p with
    | slot s => exact ⟨rfl, rfl⟩
    | cell b k =>
      simp only [posGet, St.grow, List.getD_eq_getElem?_getD] at hp ⊢
      rcases Nat.lt_trichotomy b st.h.length with hl | hl | hl
      · rw [List.getElem?_append_left hl] at hp ⊢
        refine ⟨rfl, ?_⟩
        have hbn : b < g.n := by rw [h.n]; exact hl
        simp only [posVal]
        rw [hle.μ b hbn, hold _ (hμ b hbn)]
      · exfalso
        rw [hl, List.getElem?_append_right (Nat.le_refl _)] at hp
        simp only [Nat.sub_self, List.getElem?_cons_zero, Option.getD_some, List.getElem?_map] at hp
        cases hx : xs[k]? with
        | none => simp [hx, SV.isOwn] at hp
        | some y => simp [hx, SV.isOwn] at hp
      · exfalso
        have hz : (st.h ++ [xs.map SV.pv])[b]? = none := List.getElem?_eq_none (by simp only [List.length_append, List.length_cons, List.length_nil]; omega)
        rw [hz] at hp
        simp [SV.isOwn] at hp
  have hbl' : ∀ p c, (match p with | .cell b _ => if b = g.n then none else bl p | .slot _ => bl p) = some c → bl p = some c := by
    intro p c hp
    cases p with
    | slot s => exact hp
    | cell b k =>
      have hp2 : (if b = g.n then none else bl (.cell b k)) = some c := hp
      split at hp2
      · cases hp2
      · exact hp2
  refine { size := h.size, defs := h.defs, env := h.env, n := ?_, n0 := Nat.le_trans h.n0 (Nat.le_succ _), B := ?_, I := fun c o hc => ?_, F := fun c o hc => ?_, μI := fun b hbn => ?_, μinj := fun b b' hbn hbn' he => ?_, own := ⟨fun p => match p with | .cell b _ => if b = g.n then none else bl p | .slot _ => bl p, ?_⟩, al := fun s => AlOk.congr hpg (h.al s) }
  · show g.n + 1 = _; rw [h.n]; simp [St.grow]
  · have := h.B; simp only [World.size_alloc]; exact Nat.le_succ_of_le this
  · have := h.I c o hc; rw [hold c (hlt this)]; exact this
  · have := h.F c o hc; rw [hold c (hlt this)]; exact this
  · by_cases hbe : b = g.n
    · show g.I (if b = g.n then _ else _) = none ∧ g.F (if b = g.n then _ else _) = none
      rw [if_pos hbe]; exact ⟨hIn, hFn⟩
    · show g.I (if b = g.n then _ else _) = none ∧ g.F (if b = g.n then _ else _) = none
      rw [if_neg hbe]; exact h.μI b (by have : b < g.n + 1 := hbn; omega)
  · change (if b = g.n then w.heap.size else g.μ b) = (if b' = g.n then w.heap.size else g.μ b') at he
    have h1 : b < g.n + 1 := hbn
    have h2 : b' < g.n + 1 := hbn'
    by_cases e1 : b = g.n
    · by_cases e2 : b' = g.n
      · omega
      · rw [if_pos e1, if_neg e2] at he; have := hμ b' (by omega); omega
    · by_cases e2 : b' = g.n
      · rw [if_neg e1, if_pos e2] at he; have := hμ b (by omega); omega
      · rw [if_neg e1, if_neg e2] at he; exact h.μinj b b' (by omega) (by omega) he
  · refine { slots := fun s => SFit.frame hle (hfr (.slot s)) (hb.slots s), blocks := fun b ys hy => ?_, inj := fun p q c hp hq => hb.inj p q c (hbl' p c hp) (hbl' q c hq), free := fun p c hp => ?_ }
    · simp only [St.grow] at hy
      by_cases hl : b < st.h.length
      · rw [List.getElem?_append_left hl] at hy
        have hbn : b < g.n := by rw [h.n]; exact hl
        obtain ⟨arr', T', h1, h2, h3⟩ := hb.blocks b ys hy
        refine ⟨arr', T', by rw [hle.μ b hbn, hold _ (hμ b hbn)]; exact h1, h2, fun k x hk => ?_⟩
        simp only [if_neg (Nat.ne_of_lt hbn)]
        exact ⟨(h3 k x hk).1, SFit.frame hle (hfr (.cell b k)) (h3 k x hk).2⟩
      · have hbe : b = st.h.length := by
          have := (List.getElem?_eq_some_iff.1 hy).1
          simp at this; omega
        rw [hbe, List.getElem?_append_right (Nat.le_refl _)] at hy
        simp only [Nat.sub_self, List.getElem?_cons_zero, Option.some.injEq] at hy
        subst hy
        have hbn : b = g.n := by rw [hbe, h.n]
        refine ⟨arr, T, by show (w.alloc _).heap[if b = g.n then _ else _]? = _; rw [if_pos hbn]; exact hnew, ⟨by have := hf.length; simpa using this, h1c⟩, fun k x hk => ?_⟩
        rw [List.getElem?_map, Option.map_eq_some_iff] at hk
        obtain ⟨y, hy, rfl⟩ := hk
        obtain ⟨v, hv, hfv⟩ := hf.get k y hy
        simp only [if_pos hbn]
        refine ⟨rfl, rfl, ?_⟩
        have : arr.getD k undef = v := by
          rw [Array.getElem?_toList] at hv
          simp [Array.getD_eq_getD_getElem?, hv]
        rw [this]; exact Fit.mono hle _ _ hfv
    · have hp' := hbl' p c hp
      obtain ⟨a1, a2, a3, a4⟩ := hb.free p c hp'
      refine ⟨a1, a2, by simp only [World.size_alloc]; omega, fun b hbn => ?_⟩
      show (if b = g.n then w.heap.size else g.μ b) ≠ c
      by_cases hbe : b = g.n
      · rw [if_pos hbe]; omega
      · rw [if_neg hbe]; exact a4 b (by have : b < g.n + 1 := hbn; omega)

end Go.AX
namespace Go.AX

def splice {α : Type} (xs : List α) (k : Nat) (ys : List α) : List α := xs.take k ++ ys ++ xs.drop (k + ys.length)

theorem splice_length {α : Type} {xs : List α} {k : Nat} {ys : List α} (h : k + ys.length ≤ xs.length) : (splice xs k ys).length = xs.length := by
  simp [splice]; omega

theorem splice_get {α : Type} {xs : List α} {k : Nat} {ys : List α} (h : k + ys.length ≤ xs.length) (i : Nat) :
    (splice xs k ys)[i]? = if k ≤ i ∧ i < k + ys.length then ys[i - k]? else xs[i]? := by
  unfold splice
  by_cases h1 : i < k
  · rw [if_neg (by omega), List.append_assoc, List.getElem?_append_left (by simp; omega), List.getElem?_take, if_pos h1]
  · by_cases h2 : i < k + ys.length
    · rw [if_pos ⟨by omega, h2⟩, List.append_assoc, List.getElem?_append_right (by simp; omega), List.getElem?_append_left (by simp; omega)]
      congr 1; simp; omega
    · rw [if_neg (by omega), List.getElem?_append_right (by simp; omega), List.getElem?_drop]
      congr 1; simp; omega

def qCells (b k n : Nat) : Pos → Bool
  | .slot _ => false
  | .cell b' k' => b == b' && decide (k ≤ k') && decide (k' < k + n)

/-- Cells of a block of the walk's own are written. -/
theorem Sim.blockWrite {g : Gh} {st : St} {a : Act} {w w' : World} (h : Sim g st a w) {b k0 : Nat} {xs : List SV} {arr arr' : Array Value} {T : TypeId} {ys : List PV} {vs : List Value}
    (hx : st.h[b]? = some xs) (hk : k0 + ys.length ≤ xs.length) (ha : w.heap[g.μ b]? = some (.cells arr T (0, 0))) (hf : FitL g ys vs) (h1c : ∀ v ∈ vs, v.oneCell' = true)
    (hen : envOf w' = envOf w) (hsz : w'.heap.size = w.heap.size) (hw : ∀ c, c ≠ g.μ b → w'.heap[c]? = w.heap[c]?) (hb' : ∃ T', w'.heap[g.μ b]? = some (.cells arr' T' (0, 0))) (harr : arr'.toList = splice arr.toList k0 vs) :
    Sim g ⟨killL (qCells b k0 ys.length) st.t, st.h.set b (splice xs k0 (ys.map .pv))⟩ a w' := by
  obtain ⟨bl, hb⟩ := h.own
  obtain ⟨T', hb'⟩ := hb'
  have hbn : b < g.n := by rw [h.n]; exact (List.getElem?_eq_some_iff.1 hx).1
  have hbl : b < st.h.length := (List.getElem?_eq_some_iff.1 hx).1
  obtain ⟨arr0, T0, b1, b2, b3⟩ := hb.blocks b xs hx
  rw [ha] at b1; cases b1
  obtain ⟨b2, b2c⟩ := b2
  have hvl : vs.length = ys.length := hf.length
  have hvk : k0 + vs.length ≤ arr.toList.length := by simp [b2, hvl]; exact hk
  have hbn' : ∀ {b' : Nat} {xs' : List SV}, st.h[b']? = some xs' → b' < g.n := fun hx' => by rw [h.n]; exact (List.getElem?_eq_some_iff.1 hx').1
  have hoth : ∀ b', b' < g.n → b' ≠ b → w'.heap[g.μ b']? = w.heap[g.μ b']? := fun b' hn hne => hw _ (fun e => hne (h.μinj b' b hn hbn e))
  have hfr : ∀ p c, bl p = some c → w'.heap[c]? = w.heap[c]? := fun p c hc => hw c (fun e => (hb.free p c hc).2.2.2 b hbn e.symm)
  have hnew : ∀ k, arr'.getD k undef = if k0 ≤ k ∧ k < k0 + ys.length then (vs[k - k0]?).getD undef else arr.getD k undef := fun k => by
    rw [Array.getD_eq_getD_getElem?, ← Array.getElem?_toList, harr, splice_get hvk, hvl]
    split
    · rfl
    · rw [Array.getD_eq_getD_getElem?, Array.getElem?_toList]
  have hxk : k0 + (ys.map SV.pv).length ≤ xs.length := by simpa using hk
  have hget : ∀ k, (splice xs k0 (ys.map SV.pv))[k]? = if k0 ≤ k ∧ k < k0 + ys.length then (ys[k - k0]?).map SV.pv else xs[k]? := fun k => by
    rw [splice_get hxk]; simp only [List.length_map, List.getElem?_map]
  have hpos : ∀ p, qCells b k0 ys.length p = false → (posGet ⟨killL (qCells b k0 ys.length) st.t, st.h.set b (splice xs k0 (ys.map .pv))⟩ p).isOwn = true →
      posGet ⟨killL (qCells b k0 ys.length) st.t, st.h.set b (splice xs k0 (ys.map .pv))⟩ p = posGet st p ∧ posVal g a w' p = posVal g a w p := by
    intro p hqp hp
    cases p with
    | slot s => simp only [posGet, look_kill] at hp ⊢; exact ⟨killS_own hp, by first | rfl | trivial⟩
    | cell b' k =>
      by_cases hbb : b' = b
      · subst hbb
        have hnr : ¬ (k0 ≤ k ∧ k < k0 + ys.length) := by
          intro hh; simp [qCells, hh.1, hh.2] at hqp
        refine ⟨?_, ?_⟩
        · simp only [posGet, List.getD_eq_getElem?_getD, List.getElem?_set, hbl, if_true, Option.getD_some, hget, if_neg hnr, hx]
        · simp only [posVal, hb', ha, hnew, if_neg hnr]
      · simp only [posGet, List.getD_eq_getElem?_getD, List.getElem?_set, if_neg (Ne.symm hbb)] at hp ⊢
        refine ⟨by first | rfl | trivial, ?_⟩
        cases hy : st.h[b']? with
        | none => simp [hy, SV.isOwn] at hp
        | some xs' => simp only [posVal, hoth b' (hbn' hy) hbb]
  refine { size := h.size, defs := h.defs, env := hen.trans h.env, n := by simp only [List.length_set]; exact h.n, n0 := h.n0, B := by rw [hsz]; exact h.B, I := fun c o hc => ?_, F := fun c o hc => ?_, μI := h.μI, μinj := h.μinj, own := ⟨fun p => if qCells b k0 ys.length p = true then none else bl p, ?_⟩, al := fun s => ?_ }
  · rw [hw c (fun e => by have := (h.μI b hbn).1; rw [← e, hc] at this; cases this)]; exact h.I c o hc
  · rw [hw c (fun e => by have := (h.μI b hbn).2; rw [← e, hc] at this; cases this)]; exact h.F c o hc
  · refine { slots := fun s => ?_, blocks := fun b' xs' hx' => ?_, inj := fun p q c hp hq => ?_, free := fun p c hp => ?_ }
    · rw [if_neg (by simp [qCells]), look_kill]
      exact SFit.frame (Gh.le.refl g) (hfr _) (SFit.kill _ (hb.slots s))
    · rw [List.getElem?_set] at hx'
      split at hx'
      · rename_i hbb
        subst hbb
        try rw [if_pos hbl] at hx'
        cases hx'
        refine ⟨arr', T', hb', ⟨?_, fun v hv => ?_⟩, fun k x hk' => ?_⟩
        · rw [← Array.length_toList, harr, splice_length hvk, splice_length hxk, Array.length_toList]; exact b2
        · rw [harr] at hv
          simp only [splice, List.mem_append] at hv
          rcases hv with (hv | hv) | hv
          · exact b2c v (List.mem_of_mem_take hv)
          · exact h1c v hv
          · exact b2c v (List.mem_of_mem_drop hv)
        · rw [hget] at hk'
          split at hk'
          · rename_i hin
            rw [Option.map_eq_some_iff] at hk'
            obtain ⟨y, hy, rfl⟩ := hk'
            obtain ⟨v, hv, hfv⟩ := hf.get _ y hy
            rw [if_pos (by simp [qCells, hin.1, hin.2]), hnew, if_pos hin, hv]
            exact ⟨rfl, rfl, hfv⟩
          · rename_i hin
            rw [if_neg (by simp [qCells]; intro h1; omega), hnew, if_neg hin]
            exact ⟨(b3 k x hk').1, SFit.frame (Gh.le.refl g) (hfr _) (b3 k x hk').2⟩
      · rename_i hbb
        obtain ⟨arr1, T1, c1, c2, c3⟩ := hb.blocks b' xs' hx'
        refine ⟨arr1, T1, by rw [hoth b' (hbn' hx') (Ne.symm hbb)]; exact c1, c2, fun k x hk' => ?_⟩
        rw [if_neg (by simp [qCells, hbb])]
        exact ⟨(c3 k x hk').1, SFit.frame (Gh.le.refl g) (hfr _) (c3 k x hk').2⟩
    · split at hp
      · cases hp
      · split at hq
        · cases hq
        · exact hb.inj p q c hp hq
    · split at hp
      · cases hp
      · obtain ⟨f1, f2, f3, f4⟩ := hb.free p c hp
        exact ⟨f1, f2, by rw [hsz]; exact f3, f4⟩
  · rw [look_kill]
    rcases killS_cases (qCells b k0 ys.length) (look st.t s) with e | ⟨e, hav⟩
    · rw [e]; trivial
    · rw [e]; exact AlOk.congrA hpos hav (h.al s)

/-! ### Freezing -/
def frozenOf : SV → PV
  | .own nw e rows => .seq nw e rows
  | .omap nw es => .amap nw es
  | .pv x => x
  | _ => .bot

/-- What a place owns is written no more. -/
theorem Sim.freeze {g : Gh} {st : St} {a : Act} {w : World} (h : Sim g st a w) {p : Pos} (hown : (posGet st p).isOwn = true) :
    ∃ g', g.to g' ∧ g.le g' ∧ g'.n = g.n ∧ Fit g' (frozenOf (posGet st p)) (posVal g a w p) ∧ Sim g' (setPos st p (.pv (frozenOf (posGet st p)))) a w ∧ ∀ r, posVal g' a w r = posVal g a w r := by
  obtain ⟨bl, hb⟩ := h.own
  have hfit := pos_fit hb hown
  let g' : Gh := { g with I := fun c => if bl p = some c then w.heap[c]? else g.I c }
  have hle : g.le g' := ⟨fun c o hc => by
    show (if bl p = some c then w.heap[c]? else g.I c) = some o
    split
    · rename_i e; rw [(hb.free p c e).1] at hc; cases hc
    · exact hc, Nat.le_refl _, Nat.le_refl _, fun _ _ => rfl⟩
  have hto : g.to g' := ⟨hle.I, rfl, rfl, rfl, rfl, rfl, h.n0, fun _ _ => rfl, fun c hF hI => by
    show (if bl p = some c then w.heap[c]? else g.I c) = none
    rw [if_neg (fun e => hF (hb.free p c e).2.1)]; exact hI⟩
  have hff : Fit g' (frozenOf (posGet st p)) (posVal g a w p) := by
    cases hs : posGet st p with
    | own nw e rows =>
      rw [hs] at hfit
      rcases hfit with ⟨_, rfl, e1⟩ | ⟨c, hc, cap, arr, T, vs, e1, e2, e3, e4, e5, e6, e7⟩
      · exact ⟨none, 0, e1, Nat.le_refl _, .inl rfl⟩
      · exact ⟨_, cap, e1, e4.1, .inr ⟨c, 0, arr, T, (0, 0), vs, rfl, by show (if bl p = some c then w.heap[c]? else g.I c) = _; rw [if_pos hc]; exact e2, e7, FitR.mono hle _ _ _ e5, by simpa using e6⟩⟩
    | omap nw es =>
      rw [hs] at hfit
      obtain ⟨c, hc, en, ck, e1, e2, e3, e4⟩ := hfit
      exact .inr ⟨c, en, ck, e1, by show (if bl p = some c then w.heap[c]? else g.I c) = _; rw [if_pos hc]; exact e2, e4, FitE.mono hle _ _ e3⟩
    | _ => rw [hs] at hown; cases hown
  generalize frozenOf (posGet st p) = fz at *
  refine ⟨g', hto, hle, rfl, hff, ?_, fun r => rfl⟩
  obtain ⟨_, bl', hb', h1, h2, h3⟩ := h.drop hb p
  have hne := fun r (hr : r ≠ p) => posGet_setPos_ne st p r (.pv fz) (Ne.symm hr)
  have hsame := posGet_setPos_same (sv := .pv fz) hown
  have hposA : ∀ r, (posGet (setPos st p (.pv fz)) r).isOwn = true → posGet (setPos st p (.pv fz)) r = posGet st r ∧ posVal g' a w r = posVal g a w r := by
    intro r hr
    by_cases he : r = p
    · subst he; rw [hsame] at hr; cases hr
    · exact ⟨hne r he, rfl⟩
  refine { size := h.size, defs := h.defs, env := h.env, n := ?_, n0 := h.n0, B := h.B, I := fun c o hc => ?_, F := h.F, μI := fun b hbn => ?_, μinj := h.μinj, own := ⟨fun r => if r = p then none else bl r, ?_⟩, al := fun s => ?_ }
  · cases p with
    | slot s => exact h.n
    | cell b k => simp only [setPos, List.length_set]; exact h.n
  · change (if bl p = some c then w.heap[c]? else g.I c) = some o at hc
    split at hc
    · exact hc
    · exact h.I c o hc
  · refine ⟨?_, (h.μI b hbn).2⟩
    show (if bl p = some (g.μ b) then w.heap[g.μ b]? else g.I (g.μ b)) = none
    rw [if_neg (fun e => (hb.free p _ e).2.2.2 b hbn rfl)]; exact (h.μI b hbn).1
  · refine { slots := fun s => ?_, blocks := fun b xs hx => ?_, inj := fun r q c hr hq => ?_, free := fun r c hr => ?_ }
    · by_cases he : (.slot s : Pos) = p
      · subst he
        rw [if_pos rfl]
        simp only [posGet] at hsame
        rw [hsame]; exact ⟨rfl, hff⟩
      · rw [if_neg he]
        have := hne _ he
        simp only [posGet] at this
        rw [this]; exact SFit.frame hle (fun _ _ => rfl) (hb.slots s)
    · cases p with
      | slot s =>
        obtain ⟨arr, T, c1, c2, c3⟩ := hb.blocks b xs hx
        refine ⟨arr, T, c1, c2, fun k x hk => ?_⟩
        rw [if_neg (by intro e; cases e)]
        exact ⟨(c3 k x hk).1, SFit.frame hle (fun _ _ => rfl) (c3 k x hk).2⟩
      | cell b0 k0 =>
        simp only [setPos] at hx
        rw [List.getElem?_set] at hx
        split at hx
        · rename_i hbb
          subst hbb
          split at hx
          · rename_i hlt
            simp only [Option.some.injEq] at hx
            subst hx
            obtain ⟨arr, T, c1, c2, c3⟩ := hb.blocks b0 _ (List.getElem?_eq_getElem hlt)
            simp only [List.getD_eq_getElem?_getD, List.getElem?_eq_getElem hlt, Option.getD_some]
            refine ⟨arr, T, c1, ⟨by simpa using c2.1, c2.2⟩, fun k x hk => ?_⟩
            rw [List.getElem?_set] at hk
            split at hk
            · rename_i hkk
              subst hkk
              split at hk
              · cases hk
                rw [if_pos rfl]
                refine ⟨rfl, rfl, ?_⟩
                have : posVal g a w (.cell b0 k0) = arr.getD k0 undef := by simp [posVal, c1]
                rw [← this]; exact hff
              · cases hk
            · rename_i hkk
              rw [if_neg (by intro e; cases e; exact hkk rfl)]
              exact ⟨(c3 k x hk).1, SFit.frame hle (fun _ _ => rfl) (c3 k x hk).2⟩
          · cases hx
        · rename_i hbb
          obtain ⟨arr, T, c1, c2, c3⟩ := hb.blocks b xs hx
          refine ⟨arr, T, c1, c2, fun k x hk => ?_⟩
          rw [if_neg (by intro e; cases e; exact hbb rfl)]
          exact ⟨(c3 k x hk).1, SFit.frame hle (fun _ _ => rfl) (c3 k x hk).2⟩
    · split at hr
      · cases hr
      · split at hq
        · cases hq
        · exact hb.inj r q c hr hq
    · split at hr
      · cases hr
      · rename_i hne'
        obtain ⟨f1, f2, f3, f4⟩ := hb.free r c hr
        refine ⟨?_, f2, f3, f4⟩
        show (if bl p = some c then w.heap[c]? else g.I c) = none
        rw [if_neg (fun e => hne' (hb.inj r p c hr e))]; exact f1
  · by_cases he : (.slot s : Pos) = p
    · subst he
      simp only [posGet] at hsame
      rw [hsame]; trivial
    · have := hne _ he
      simp only [posGet] at this
      rw [this]; exact AlOk.congr hposA (h.al s)

end Go.AX
