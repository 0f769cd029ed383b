/-
  AX, part Y: new blocks that are made in any order among operations that change nothing.
-/
import Derived.Test.YtipaihpchnlkfaaAxL
namespace Go.AX

theorem put_self {a : Act} {s : Nat} (h : s < a.tmps.size) : a.put (some s) (a.tmps.getD s undef) = a := by
  cases a with
  | mk t d =>
    simp only at h
    simp only [Act.put, Act.mk.injEq, and_true]
    apply Array.ext_getElem?
    intro i
    rw [Array.getElem?_setIfInBounds]
    split
    · rename_i e; subst e; simp [h]
    · rfl

/-- A block is made, and kept as it is for now. -/
theorem Sim.allocF {g : Gh} {st : St} {a : Act} {w : World} (h : Sim g st a w) (arr : Array Value) (T : TypeId) :
    g.F w.heap.size = none ∧ g.I w.heap.size = none ∧ Sim { g with F := fun c => if c = w.heap.size then some (.cells arr T (0, 0)) else g.F c } st a (w.alloc (.cells arr T)) := by
  obtain ⟨bl, hb⟩ := h.own
  have hlt : ∀ {c o}, w.heap[c]? = some o → c < w.heap.size := fun hh => (Array.getElem?_eq_some_iff.1 hh).1
  have hnew : (w.alloc (.cells arr T)).heap[w.heap.size]? = some (.cells arr T (0, 0)) := heap_alloc_new w _
  have hold : ∀ k, k < w.heap.size → (w.alloc (.cells arr T)).heap[k]? = w.heap[k]? := fun k hk => heap_alloc_old w _ hk
  have hμ : ∀ b, b < g.n → g.μ b < w.heap.size := fun b hbn => by
    obtain ⟨_, _, h3, _⟩ := hb.blocks b _ (List.getElem?_eq_getElem (h.n ▸ hbn))
    exact hlt h3
  have hIn : g.I w.heap.size = none := (h.fresh hb (Nat.le_refl _)).I
  have hFn : g.F w.heap.size = none := (h.fresh hb (Nat.le_refl _)).F
  refine ⟨hFn, hIn, ?_⟩
  let g' : Gh := { g with F := fun c => if c = w.heap.size then some (.cells arr T (0, 0)) else g.F c }
  have hle : g.le g' := ⟨fun _ _ h => h, Nat.le_refl _, Nat.le_refl _, fun _ _ => rfl⟩
  have hfr : ∀ p c, bl p = some c → (w.alloc (.cells arr T)).heap[c]? = w.heap[c]? := fun p c hc => hold c (hb.free p c hc).2.2.1
  have hblk : ∀ b k, (posGet st (.cell b k)).isOwn = true → b < g.n := by
    intro b k hp
    rw [h.n]
    apply Nat.lt_of_not_le
    intro hle2
    simp only [posGet, List.getD_eq_getElem?_getD, List.getElem?_eq_none hle2] at hp
    simp [SV.isOwn] at hp
  have hpg : ∀ p, (posGet st p).isOwn = true → posGet st p = posGet st p ∧ posVal g' a (w.alloc (.cells arr T)) p = posVal g a w p := by
    intro p hp
    refine ⟨rfl, ?_⟩
    cases p with
    | slot s => rfl
    | cell b k => simp only [posVal]; rw [hold _ (hμ b (hblk b k hp))]
  refine { size := h.size, defs := h.defs, env := h.env, n := h.n, n0 := h.n0, B := ?_, I := fun c o hc => ?_, F := fun c o hc => ?_, μI := fun b hbn => ⟨(h.μI b hbn).1, ?_⟩, μinj := h.μinj, own := ⟨bl, ?_⟩, al := fun s => AlOk.congr hpg (h.al s) }
  · have := h.B; simp only [World.size_alloc]; exact Nat.le_succ_of_le this
  · have := h.I c o hc; rw [hold c (hlt this)]; exact this
  · change (if c = w.heap.size then some (.cells arr T (0, 0)) else g.F c) = some o at hc
    split at hc
    · rename_i e; subst e; rw [hnew]; exact hc
    · have := h.F c o hc; rw [hold c (hlt this)]; exact this
  · show (if g.μ b = w.heap.size then _ else _) = none
    have := hμ b hbn
    rw [if_neg (by omega)]
    exact (h.μI b hbn).2
  · refine { slots := fun s => SFit.frame hle (hfr (.slot s)) (hb.slots s), blocks := fun b ys hy => ?_, inj := hb.inj, free := fun p c hp => ?_ }
    · obtain ⟨arr', T', h1, h2, h3⟩ := hb.blocks b ys hy
      have hbn : b < g.n := by rw [h.n]; exact (List.getElem?_eq_some_iff.1 hy).1
      exact ⟨arr', T', by show (w.alloc _).heap[g.μ b]? = _; rw [hold _ (hμ b hbn)]; exact h1, h2, fun k x hk => ⟨(h3 k x hk).1, SFit.frame hle (hfr (.cell b k)) (h3 k x hk).2⟩⟩
    · obtain ⟨a1, a2, a3, a4⟩ := hb.free p c hp
      refine ⟨a1, ?_, by simp only [World.size_alloc]; omega, a4⟩
      show (if c = w.heap.size then _ else _) = none
      rw [if_neg (by omega)]; exact a2

/-- A block that was kept becomes a block of the walk's own. -/
theorem Sim.takeF {g : Gh} {st : St} {a : Act} {w : World} (h : Sim g st a w) (xs : List PV) (arr : Array Value) (T : TypeId) (c : Nat) (hc : g.F c = some (.cells arr T (0, 0))) (hcI : g.I c = none) (hf : FitL g xs arr.toList) (h1c : ∀ v ∈ arr.toList, v.oneCell' = true) {d : Nat} (hd : d < g.N) (hv : a.tmps.getD d undef = .pointer (some ⟨c, 0, none⟩)) :
    Sim { g with F := fun c' => if c' = c then none else g.F c', n := g.n + 1, μ := fun b => if b = g.n then c else g.μ b } ((st.grow (xs.map .pv)).put d (.pv (.ptr st.h.length 0))) a w := by
  obtain ⟨bl, hb⟩ := h.own
  have hwc : w.heap[c]? = some (.cells arr T (0, 0)) := h.F _ _ hc
  let g' : Gh := { g with F := fun c' => if c' = c then none else g.F c', n := g.n + 1, μ := fun b => if b = g.n then c else g.μ b }
  have hle : g.le g' := ⟨fun _ _ h => h, Nat.le_refl _, Nat.le_succ _, fun b hbn => by show (if b = g.n then _ else _) = _; rw [if_neg (by omega)]⟩
  have hμc : ∀ b, b < g.n → g.μ b ≠ c := fun b hbn e => by have := (h.μI b hbn).2; rw [e, hc] at this; cases this
  have hpg : ∀ p, (posGet (st.grow (xs.map .pv)) p).isOwn = true → posGet (st.grow (xs.map .pv)) p = posGet st p ∧ posVal g' a w p = posVal g a w p := by
    intro p hp
    cases p with
    | slot s => exact ⟨rfl, rfl⟩
    | cell b k =>
      simp only [posGet, St.grow, List.getD_eq_getElem?_getD] at hp ⊢
      rcases Nat.lt_trichotomy b st.h.length with hl | hl | hl
      · rw [List.getElem?_append_left hl] at hp ⊢
        refine ⟨rfl, ?_⟩
        have hbn : b < g.n := by rw [h.n]; exact hl
        simp only [posVal]
        rw [hle.μ b hbn]
      · exfalso
        rw [hl, List.getElem?_append_right (Nat.le_refl _)] at hp
        simp only [Nat.sub_self, List.getElem?_cons_zero, Option.getD_some, List.getElem?_map] at hp
        cases hx : xs[k]? with
        | none => simp [hx, SV.isOwn] at hp
        | some y => simp [hx, SV.isOwn] at hp
      · exfalso
        have hz : (st.h ++ [xs.map SV.pv])[b]? = none := List.getElem?_eq_none (by simp only [List.length_append, List.length_cons, List.length_nil]; omega)
        rw [hz] at hp
        simp [SV.isOwn] at hp
  have hbl' : ∀ p c, (match p with | .cell b _ => if b = g.n then none else bl p | .slot _ => bl p) = some c → bl p = some c := by
    intro p c hp
    cases p with
    | slot s => exact hp
    | cell b k =>
      have hp2 : (if b = g.n then none else bl (.cell b k)) = some c := hp
      split at hp2
      · cases hp2
      · exact hp2
  have hs : Sim g' (st.grow (xs.map .pv)) a w := by
    refine { size := h.size, defs := h.defs, env := h.env, n := ?_, n0 := Nat.le_trans h.n0 (Nat.le_succ _), B := h.B, I := h.I, F := fun c' o hc' => ?_, μI := fun b hbn => ?_, μinj := fun b b' hbn hbn' he => ?_, own := ⟨fun p => match p with | .cell b _ => if b = g.n then none else bl p | .slot _ => bl p, ?_⟩, al := fun s => AlOk.congr hpg (h.al s) }
    · show g.n + 1 = _; rw [h.n]; simp [St.grow]
    · change (if c' = c then none else g.F c') = some o at hc'
      split at hc'
      · cases hc'
      · exact h.F c' o hc'
    · show g.I (if b = g.n then _ else _) = none ∧ (if (if b = g.n then _ else _) = c then none else g.F (if b = g.n then _ else _)) = none
      by_cases hbe : b = g.n
      · rw [if_pos hbe, if_pos rfl]; exact ⟨hcI, rfl⟩
      · have hbn' : b < g.n := by have : b < g.n + 1 := hbn; omega
        rw [if_neg hbe, if_neg (hμc b hbn')]; exact h.μI b hbn'
    · change (if b = g.n then c else g.μ b) = (if b' = g.n then c else g.μ b') at he
      have h1 : b < g.n + 1 := hbn
      have h2 : b' < g.n + 1 := hbn'
      by_cases e1 : b = g.n
      · by_cases e2 : b' = g.n
        · omega
        · rw [if_pos e1, if_neg e2] at he; exact absurd he.symm (hμc b' (by omega))
      · by_cases e2 : b' = g.n
        · rw [if_neg e1, if_pos e2] at he; exact absurd he (hμc b (by omega))
        · rw [if_neg e1, if_neg e2] at he; exact h.μinj b b' (by omega) (by omega) he
    · refine { slots := fun s => SFit.frame hle (fun _ _ => rfl) (hb.slots s), blocks := fun b ys hy => ?_, inj := fun p q c hp hq => hb.inj p q c (hbl' p c hp) (hbl' q c hq), free := fun p c' hp => ?_ }
      · simp only [St.grow] at hy
        by_cases hl : b < st.h.length
        · rw [List.getElem?_append_left hl] at hy
          have hbn : b < g.n := by rw [h.n]; exact hl
          obtain ⟨arr', T', h1, h2, h3⟩ := hb.blocks b ys hy
          refine ⟨arr', T', by rw [hle.μ b hbn]; exact h1, h2, fun k x hk => ?_⟩
          simp only [if_neg (Nat.ne_of_lt hbn)]
          exact ⟨(h3 k x hk).1, SFit.frame hle (fun _ _ => rfl) (h3 k x hk).2⟩
        · have hbe : b = st.h.length := by
            have := (List.getElem?_eq_some_iff.1 hy).1
            simp at this; omega
          rw [hbe, List.getElem?_append_right (Nat.le_refl _)] at hy
          simp only [Nat.sub_self, List.getElem?_cons_zero, Option.some.injEq] at hy
          subst hy
          have hbn : b = g.n := by rw [hbe, h.n]
          refine ⟨arr, T, by show w.heap[if b = g.n then _ else _]? = _; rw [if_pos hbn]; exact hwc, ⟨by have := hf.length; simpa using this, h1c⟩, fun k x hk => ?_⟩
          rw [List.getElem?_map, Option.map_eq_some_iff] at hk
          obtain ⟨y, hy, rfl⟩ := hk
          obtain ⟨v, hv, hfv⟩ := hf.get k y hy
          simp only [if_pos hbn]
          refine ⟨rfl, rfl, ?_⟩
          have : arr.getD k undef = v := by
            rw [Array.getElem?_toList] at hv
            simp [Array.getD_eq_getD_getElem?, hv]
          rw [this]; exact Fit.mono hle _ _ hfv
      · have hp' := hbl' p c' hp
        obtain ⟨a1, a2, a3, a4⟩ := hb.free p c' hp'
        have hne : c' ≠ c := fun e => by rw [e, hc] at a2; cases a2
        refine ⟨a1, ?_, a3, fun b hbn => ?_⟩
        · show (if c' = c then none else g.F c') = none
          rw [if_neg hne]; exact a2
        · show (if b = g.n then c else g.μ b) ≠ c'
          by_cases hbe : b = g.n
          · rw [if_pos hbe]; exact fun e => hne e.symm
          · rw [if_neg hbe]; exact a4 b (by have : b < g.n + 1 := hbn; omega)
  have hds : d < a.tmps.size := by rw [h.size]; exact hd
  have := hs.put (d := d) (sv := .pv (.ptr st.h.length 0)) (v := a.tmps.getD d undef) hd ⟨rfl, by show st.h.length < g.n + 1; rw [h.n]; omega, by rw [hv]; show _ = Value.pointer (some ⟨if st.h.length = g.n then c else g.μ _, 0, none⟩); rw [if_pos h.n.symm]⟩ trivial rfl
  rw [put_self hds] at this
  exact this

/-! ### The blocks that are out -/
/-- The type of a block that an operation makes, and its slot. -/
def alOf (o : Oper) : Option (Nat × TypeId) :=
  match o.op, o.dst with
  | .alloc t, some d => some (d, t)
  | _, _ => none

theorem alOf_dst {o : Oper} {d : Nat} {t : TypeId} (h : alOf o = some (d, t)) : o.dst = some d := by
  unfold alOf at h
  split at h
  · rename_i h1 h2; cases h; exact h2
  · cases h

def alK (P : Program) (K : St → Prop) : List Oper → St → Prop
  | [], st => K st
  | o :: r, st => match alOf o with
    | some (d, t) => match zeroL P t with
      | some zs => allOne zs = true ∧ alK P K r ((st.grow (zs.map .pv)).put d (.pv (.ptr st.h.length 0)))
      | none => False
    | none => alK P K r st

/-- The value of a block that is made. -/
def zeroOf (P : Program) (t : TypeId) (z : Array Value) : Prop := ∃ i v, P.info? t = some i ∧ i.zero = some v ∧ z = v.cells

theorem zeroOf_list {P : Program} {t : TypeId} {z : Array Value} (h : zeroOf P t z) {zs : List PV} (hz : zeroL P t = some zs) : zs = z.toList.map PV.lit := by
  obtain ⟨i, v, h1, h2, rfl⟩ := h
  unfold zeroL at hz
  rw [h1] at hz
  simp only [h2, Option.map_some, Option.some.injEq] at hz
  exact hz.symm

/-- What is out: by slots. -/
structure Out (g0 g : Gh) (a : Act) (cf : Nat → Option (Nat × Array Value × TypeId)) : Prop where
  on : ∀ d c z T, cf d = some (c, z, T) → g.F c = some (.cells z T (0, 0)) ∧ g.I c = none ∧ g0.F c = none ∧ a.tmps.getD d undef = .pointer (some ⟨c, 0, none⟩)
  off : ∀ c, (∀ d z T, cf d ≠ some (c, z, T)) → g.F c = g0.F c
  inj : ∀ d d' c z T z' T', cf d = some (c, z, T) → cf d' = some (c, z', T') → d = d'
  to : g0.to { g with F := g0.F }

theorem Out.start {g : Gh} {st : St} {a : Act} {w : World} (hs : Sim g st a w) : Out g g a (fun _ => none) :=
  ⟨fun _ _ _ _ h => (by cases h), fun _ _ => rfl, fun _ _ _ _ _ _ _ h => (by cases h), ⟨fun _ _ h => h, rfl, rfl, rfl, rfl, rfl, hs.n0, fun _ _ => rfl, fun _ _ h => h⟩⟩

theorem Out.sub {g0 g : Gh} {a : Act} {cf : Nat → Option (Nat × Array Value × TypeId)} (h : Out g0 g a cf) {c : Nat} (hc : g0.F c ≠ none) : g.F c = g0.F c :=
  h.off c fun d z T e => hc (h.on d c z T e).2.2.1

/-- A step that makes no block. -/
theorem Out.step {g0 g : Gh} {a a' : Act} {cf : Nat → Option (Nat × Array Value × TypeId)} (h : Out g0 g a cf) {J : Nat → Option Obj} (ht : g.to { g with I := J }) (ha : ∀ d, cf d ≠ none → a'.tmps.getD d undef = a.tmps.getD d undef) : Out g0 { g with I := J } a' cf := by
  refine ⟨fun d c z T e => ?_, h.off, h.inj, ?_⟩
  · obtain ⟨h1, h2, h3, h4⟩ := h.on d c z T e
    exact ⟨h1, ht.FI c (by rw [h1]; exact fun hh => by cases hh) h2, h3, by rw [ha d (by rw [e]; exact fun hh => by cases hh)]; exact h4⟩
  · exact ⟨fun c o hc => ht.I c o (h.to.I c o hc), rfl, h.to.B, h.to.n0, h.to.N, h.to.env, h.to.n, h.to.μ, fun c hF hI => ht.FI c (by rw [h.sub hF]; exact hF) (h.to.FI c hF hI)⟩

/-- A block is made. -/
theorem Out.alloc {g0 g : Gh} {st : St} {a a' : Act} {w : World} {cf : Nat → Option (Nat × Array Value × TypeId)} (h : Out g0 g a cf) (hs : Sim g st a w) (z : Array Value) (T : TypeId) {d : Nat} (hd : cf d = none)
    (hv : a'.tmps.getD d undef = .pointer (some ⟨w.heap.size, 0, none⟩)) (ha : ∀ d', d' ≠ d → a'.tmps.getD d' undef = a.tmps.getD d' undef) :
    Out g0 { g with F := fun c => if c = w.heap.size then some (.cells z T (0, 0)) else g.F c } a' (fun x => if x = d then some (w.heap.size, z, T) else cf x) := by
  obtain ⟨hF, hI, _⟩ := hs.allocF z T
  have h0 : g0.F w.heap.size = none := by
    cases hc : g0.F w.heap.size with
    | none => rfl
    | some o => have := h.sub (c := w.heap.size) (by rw [hc]; exact fun hh => by cases hh); rw [hF, hc] at this; cases this
  have hcf : ∀ x c z T, cf x = some (c, z, T) → c ≠ w.heap.size := fun x c z T e hc => by
    have := (h.on x c z T e).1; rw [hc, hF] at this; cases this
  refine ⟨fun x c z' T' e => ?_, fun c hc => ?_, fun x x' c z1 T1 z2 T2 e e' => ?_, ?_⟩
  · skip
    split at e
    · rename_i hx; subst hx; cases e
      exact ⟨if_pos rfl, hI, h0, hv⟩
    · rename_i hx
      obtain ⟨h1, h2, h3, h4⟩ := h.on x c z' T' e
      exact ⟨(if_neg (hcf x c z' T' e)).trans h1, h2, h3, by rw [ha x hx]; exact h4⟩
  · have hne : c ≠ w.heap.size := fun e => hc d z T (by rw [if_pos rfl, e])
    show (if c = w.heap.size then _ else _) = _
    rw [if_neg hne]
    refine h.off c fun x z' T' e => ?_
    by_cases hx : x = d
    · rw [hx, hd] at e; cases e
    · exact hc x z' T' (by rw [if_neg hx]; exact e)
  · skip
    split at e
    · rename_i hx; cases e
      split at e'
      · rename_i hx'; rw [hx, hx']
      · exact absurd rfl (hcf x' _ _ _ e')
    · split at e'
      · cases e'; exact absurd rfl (hcf x _ _ _ e)
      · exact h.inj x x' c _ _ _ _ e e'
  · exact ⟨h.to.I, rfl, h.to.B, h.to.n0, h.to.N, h.to.env, h.to.n, h.to.μ, h.to.FI⟩

/-- All that is out is taken in. -/
theorem alK_ok {P : Program} {K : St → Prop} {g0 : Gh} {a : Act} {w : World} : ∀ (l : List Oper) (st : St) (g : Gh) (cf : Nat → Option (Nat × Array Value × TypeId)), Out g0 g a cf → Sim g st a w →
    (∀ o ∈ l, ∀ d t, alOf o = some (d, t) → d < g.N ∧ ∃ c z, cf d = some (c, z, t) ∧ zeroOf P t z) → (∀ d, cf d ≠ none → ∃ o ∈ l, ∃ t, alOf o = some (d, t)) → ((l.filterMap alOf).map (·.1)).Nodup → alK P K l st →
    ∃ g' st', K st' ∧ g0.to g' ∧ Sim g' st' a w
  | [], st, g, cf, ho, hs, _, hc, _, hk => by
    have hn : ∀ d, cf d = none := fun d => by
      cases h : cf d with
      | none => rfl
      | some x => obtain ⟨o, h1, _⟩ := hc d (by rw [h]; exact fun hh => by cases hh); cases h1
    have hF : g.F = g0.F := funext fun c => ho.off c fun d z T e => by rw [hn d] at e; cases e
    have ht := ho.to
    rw [← hF] at ht
    exact ⟨g, st, hk, ht, hs⟩
  | o :: r, st, g, cf, ho, hs, hon, hc, hnd, hk => by
    unfold alK at hk
    split at hk
    · rename_i d t hal
      split at hk
      · rename_i zs hz
        obtain ⟨hone, hk⟩ := hk
        obtain ⟨hdN, c, z, hcf, hzo⟩ := hon o (List.mem_cons_self) d t hal
        obtain ⟨h1, h2, h3, h4⟩ := ho.on d c z t hcf
        have hzs := zeroOf_list hzo hz
        subst hzs
        have hfit := fitL_lits g z.toList
        have hs2 := hs.takeF (z.toList.map PV.lit) z t c h1 h2 hfit (allOne_ok hone hfit) hdN h4
        simp only [List.filterMap_cons, hal, List.map_cons, List.nodup_cons] at hnd
        have hcne : ∀ x c' z' T', x ≠ d → cf x = some (c', z', T') → c' ≠ c := fun x c' z' T' hx e hcc => hx (ho.inj x d c z' T' z t (by rw [← hcc]; exact e) hcf)
        refine alK_ok r _ _ (fun x => if x = d then none else cf x) ⟨fun x c' z' T' e => ?_, fun c' hc' => ?_, fun x x' c' z1 T1 z2 T2 e e' => ?_, ?_⟩ hs2 (fun o' ho' d' t' hal' => ?_) (fun x hx => ?_) hnd.2 hk
        · skip
          split at e
          · cases e
          · rename_i hx
            obtain ⟨k1, k2, k3, k4⟩ := ho.on x c' z' T' e
            exact ⟨(if_neg (hcne x c' z' T' hx e)).trans k1, k2, k3, k4⟩
        · show (if c' = c then none else g.F c') = g0.F c'
          split
          · rename_i e; rw [e, h3]
          · rename_i hne
            refine ho.off c' fun x z' T' e => ?_
            by_cases hx : x = d
            · rw [hx, hcf] at e; cases e; exact hne rfl
            · exact hc' x z' T' (by rw [if_neg hx]; exact e)
        · skip
          split at e
          · cases e
          · split at e'
            · cases e'
            · exact ho.inj x x' c' _ _ _ _ e e'
        · have hn0 : g0.n0 ≤ g.n := ho.to.n
          refine ⟨ho.to.I, rfl, ho.to.B, ho.to.n0, ho.to.N, ho.to.env, Nat.le_trans hn0 (Nat.le_succ _), fun b hb => ?_, ho.to.FI⟩
          show (if b = g.n then c else g.μ b) = g0.μ b
          rw [if_neg (by omega)]
          exact ho.to.μ b hb
        · obtain ⟨k1, c', z', k2, k3⟩ := hon o' (List.mem_cons_of_mem _ ho') d' t' hal'
          refine ⟨k1, c', z', ?_, k3⟩
          have : d' ≠ d := fun e => hnd.1 (by rw [← e]; exact List.mem_map.2 ⟨(d', t'), List.mem_filterMap.2 ⟨o', ho', hal'⟩, rfl⟩)
          simp only [if_neg this]; exact k2
        · skip
          split at hx
          · exact absurd rfl hx
          · rename_i hxd
            obtain ⟨o', h5, t', h6⟩ := hc x hx
            rcases List.mem_cons.1 h5 with e | e
            · subst e; rw [hal] at h6; cases h6; exact absurd rfl hxd
            · exact ⟨o', e, t', h6⟩
      · exact hk.elim
    · rename_i hal
      refine alK_ok r st g cf ho hs (fun o' ho' => hon o' (List.mem_cons_of_mem _ ho')) (fun d hd => ?_) (by simpa [List.filterMap_cons, hal] using hnd) hk
      obtain ⟨o', h5, t', h6⟩ := hc d hd
      rcases List.mem_cons.1 h5 with e | e
      · subst e; rw [hal] at h6; cases h6
      · exact ⟨o', e, t', h6⟩

theorem alK_zero {P : Program} {K : St → Prop} : ∀ (l : List Oper) (st : St), alK P K l st → ∀ o ∈ l, ∀ d t, alOf o = some (d, t) → ∃ zs, zeroL P t = some zs
  | [], _, _, o, ho, _, _, _ => by cases ho
  | o1 :: r, st, hk, o, ho, d, t, hal => by
    unfold alK at hk
    split at hk
    · rename_i d1 t1 hal1
      split at hk
      · rename_i zs hz
        rcases List.mem_cons.1 ho with e | e
        · subst e; rw [hal] at hal1; cases hal1; exact ⟨_, hz⟩
        · exact alK_zero r _ hk.2 o e d t hal
      · exact hk.elim
    · rename_i hal1
      rcases List.mem_cons.1 ho with e | e
      · subst e; rw [hal] at hal1; cases hal1
      · exact alK_zero r _ hk o e d t hal

/-- The block's making, run. -/
theorem alloc_run {P : Program} {o : Oper} {d : Nat} {t : TypeId} {zs : List PV} (ho : alOf o = some (d, t)) (hz : zeroL P t = some zs) : o.dst = some d ∧ ∃ z, zeroOf P t z ∧ ∀ (a : Act) (w : World), (execOp a.eval o).run P w = .ok (.value (.pointer (some ⟨w.heap.size, 0, none⟩))) (w.alloc (.cells z t)) := by
  unfold alOf at ho
  split at ho
  · rename_i t' d' hop hd
    cases ho
    refine ⟨hd, ?_⟩
    unfold zeroL at hz
    split at hz
    · rename_i i hi
      simp only [Option.map_eq_some_iff] at hz
      obtain ⟨v, hv, _⟩ := hz
      refine ⟨v.cells, ⟨i, v, hi, hv, rfl⟩, fun a w => ?_⟩
      simp only [execOp, hop, Instr.alloc, zeroValue, typeInfo, Sem.run_bind, run_program, Result.andThen_ok, hi, Sem.run_pure, hv]
      simp [newVar, newRow]
    · cases hz
  · cases ho

end Go.AX
