/-
  The plain law of MovesPlay: plays are rows, steps are clauses.
-/
import Derived.Test.YtklaffmpfmpffaaGreatDoorS10AxDeQ
namespace Go.AX
open Go.Proofs

def stepR (o : Obj) (ops : List Op5) (order : List Int) (inn : List Bool) (row : List Int) (k : Nat) : Prop :=
  (inn.getD (order.getD k 0).toNat false = true → mayS o (ops.getD (order.getD k 0).toNat default) (row.getD k 0) = some (row.getD (k + 1) 0)) ∧
  (inn.getD (order.getD k 0).toNat false = false → row.getD (k + 1) 0 = row.getD k 0)
theorem take_lastD {row : List Int} {k : Nat} (h : k < row.length) : (row.take (k + 1)).getLastD 0 = row.getD k 0 := by
  rw [List.getLastD_eq_getLast?, List.getLast?_eq_getElem?, List.length_take, Nat.min_eq_left (by omega)]
  simp [List.getElem?_take]
theorem take_grow {row : List Int} {k : Nat} (h : k + 1 < row.length) : row.take (k + 1) ++ [row.getD (k + 1) 0] = row.take (k + 2) := by
  rw [List.take_succ_eq_append_getElem h]; simp [h]
theorem playTo_take {o : Obj} {ops : List Op5} {order : List Int} {inn : List Bool} {row : List Int} {N : Nat} (hl : row.length = N + 1) (hh : row.head? = some o.ini) (hs : ∀ k, k < N → stepR o ops order inn row k) : ∀ k, k ≤ N → playTo o ops order inn k = some (row.take (k + 1))
  | 0, _ => by
    cases row with
    | nil => cases hh
    | cons x xs => simp at hh; simp [playTo, hh]
  | k + 1, hk => by
    have ih := playTo_take hl hh hs k (by omega)
    obtain ⟨h1, h2⟩ := hs k (by omega)
    simp only [playTo, ih, Option.bind_some, playStep]
    rw [take_lastD (by omega)]
    cases hi : inn.getD (order.getD k 0).toNat false with
    | true => rw [if_pos rfl, h1 hi]; simp only [Option.map_some]; rw [take_grow (by omega)]
    | false => rw [if_neg (by simp), ← h2 hi, take_grow (by omega)]
theorem playTo_pre {o : Obj} {ops : List Op5} {order : List Int} {inn : List Bool} : ∀ {N : Nat} {row : List Int}, playTo o ops order inn N = some row → (∀ k, k ≤ N → playTo o ops order inn k = some (row.take (k + 1))) ∧ ∀ k, k < N → stepR o ops order inn row k
  | 0, row, h => by
    have hl := playTo_length h
    refine ⟨fun k hk => ?_, fun k hk => by omega⟩
    have : k = 0 := by omega
    subst this
    rw [List.take_of_length_le (by omega)]; exact h
  | N + 1, row, h => by
    have hl := playTo_length h
    have h0 := h
    simp only [playTo, Option.bind_eq_some_iff] at h
    obtain ⟨out, hout, h⟩ := h
    have hlo := playTo_length hout
    have ih := playTo_pre hout
    obtain ⟨y, hy, hst⟩ : ∃ y, row = out ++ [y] ∧ ((inn.getD (order.getD N 0).toNat false = true → mayS o (ops.getD (order.getD N 0).toNat default) (out.getLastD 0) = some y) ∧ (inn.getD (order.getD N 0).toNat false = false → y = out.getLastD 0)) := by
      unfold playStep at h
      split at h
      · rename_i c
        simp only [Option.map_eq_some_iff] at h
        obtain ⟨y, hy, rfl⟩ := h
        exact ⟨y, rfl, fun _ => hy, fun c2 => by rw [c] at c2; cases c2⟩
      · rename_i c
        injection h with h
        exact ⟨out.getLastD 0, h.symm, fun c2 => absurd c2 c, fun _ => rfl⟩
    subst hy
    have hg : ∀ k, k < N + 1 → (out ++ [y]).getD k 0 = out.getD k 0 := fun k hk => by
      rw [List.getD_eq_getElem?_getD, List.getElem?_append_left (by omega), ← List.getD_eq_getElem?_getD]
    have hlast : out.getLastD 0 = out.getD N 0 := by
      have := take_lastD (row := out) (k := N) (by omega)
      rwa [List.take_of_length_le (by omega)] at this
    have hgy : (out ++ [y]).getD (N + 1) 0 = y := by
      rw [List.getD_eq_getElem?_getD, List.getElem?_append_right (by omega)]; simp [hlo]
    refine ⟨fun k hk => ?_, fun k hk => ?_⟩
    · by_cases e : k = N + 1
      · subst e; rw [List.take_of_length_le (by simp; omega)]; exact h0
      · rw [ih.1 k (by omega), List.take_append_of_le_length (by omega)]
    · by_cases e : k = N
      · subst e
        unfold stepR
        rw [hg k (by omega), hgy, ← hlast]; exact hst
      · have := ih.2 k (by omega)
        unfold stepR at this ⊢
        rw [hg k (by omega), hg (k + 1) (by omega)]; exact this

theorem litS_zero (T : List Bool) : litS T 0 = false := by
  have : splitS 0 = (0, false) := by decide
  rw [litS, this]; simp

theorem mem_movTo {o : Obj} {n m : Int} {N M : Nat} {ops : List Op5} {i : Nat} {c : List Int} : c ∈ movTo o n m N M ops i ↔ ∃ j, j < i ∧ (c ∈ movH n m (ops.getD j default) j ∨ ∃ k, k < N ∧ ∃ b, b < M ∧ c ∈ movB o n m (ops.getD j default) j k b) := by
  simp only [movTo, movI, movK, List.mem_flatMap, List.mem_append, List.mem_range]

theorem getD_range (l : List Int) (k : Nat) (h : k < l.length) : l.getD k 0 ∈ l := by
  simp [List.getD_eq_getElem?_getD, h]

theorem movesPlay_plain (o : Obj) (ops : List Op5) (order : List Int) (inn : List Bool) (row : List Int)
    (V1 V2 : List Bool) (h1 : plS (sizeP o ops).1 (sizeP o ops).2 order = some V1) (h2 : stS (sizeP o ops).1 (sizeP o ops).2 row = some V2) (hin : inn.length = ops.length) (hh : row.head? = some o.ini) (hc : sizeOk (sizeP o ops).1 (sizeP o ops).2 = true) :
    firstS (movesC o ops) (allM (sizeP o ops).1 (sizeP o ops).2 order row inn ops.length) < 0 ↔ playS o ops order inn = some row := by
  obtain ⟨k1, k2, hP, h64, hm1, hm2⟩ := sizeP_all hc
  have e1 : (sizeP o ops).1 = ops.length := by rw [hP]
  have e2 : (sizeP o ops).2 = o.st := by rw [hP]
  have hC : movesC o ops = movTo o ops.length o.st ops.length o.st.toNat ops ops.length := by
    rw [movesC, if_pos hc, hP]; simp
  rw [hC]
  rw [hP] at h1 h2 hc ⊢
  dsimp only at h1 h2 hc ⊢
  unfold plS at h1
  split at h1
  rotate_left
  · cases h1
  rename_i hp1
  obtain ⟨_, hp2, hp3⟩ := hp1
  unfold stS at h2
  split at h2
  rotate_left
  · cases h2
  rename_i hs1
  obtain ⟨_, hs2, hs3⟩ := hs1
  have g : Good ops.length o.st order row inn := ⟨hc, by omega, fun k hk => hp3 k (by omega), by omega, fun k hk => hs3 k (by omega), hin⟩
  have ol := g.ol
  have rl := g.rl
  generalize hT : allM ops.length o.st order row inn ops.length = T
  have hlen : T.length = (varsN ops.length o.st).toNat := hT ▸ g.len
  have hplay : playS o ops order inn = some row ↔ ((∀ i, i < ops.length → (ops.getD i default).e ≠ -1 → inn.getD i false = true) ∧ ∀ k, k < ops.length → stepR o ops order inn row k) := by
    unfold playS
    rw [e1, e2]
    constructor
    · intro h
      split at h
      · rename_i q
        exact ⟨fun i hi => ((playOk_iff.1 q.2).2.2 i hi).2, (playTo_pre h).2⟩
      · cases h
    · rintro ⟨q1, q2⟩
      rw [if_pos ⟨hc, playOk_iff.2 ⟨ol, hin, fun i hi => ⟨g.all i hi, q1 i hi⟩⟩⟩, playTo_take rl hh q2 _ (Nat.le_refl _), List.take_of_length_le (by omega)]
  rw [hplay, firstS_neg]
  -- what the literals say
  have p1 : ∀ (a b : Nat), a < ops.length → b < ops.length → litS T (w64 (-varS ops.length o.st 1 a b)) = !decide (order.getD b 0 = (a : Int)) := by
    intro a b ha hb
    rw [lit_neg (g.ok1 ⟨by omega, by omega⟩ hb) T hlen, ← hT, g.t1 ⟨by omega, by omega⟩ hb]
  have p2 : ∀ a : Nat, a < ops.length → litS T (varS ops.length o.st 2 a 0) = inn.getD a false := by
    intro a ha
    rw [lit_pos (g.ok2 ha) T hlen, ← hT, g.t2 ha]
  have p2n : ∀ a : Nat, a < ops.length → litS T (w64 (-varS ops.length o.st 2 a 0)) = !inn.getD a false := by
    intro a ha
    rw [lit_neg (g.ok2 ha) T hlen, ← hT, g.t2 ha]
  have p3 : ∀ (a : Nat) (b : Int), a ≤ ops.length → 0 ≤ b ∧ b < o.st → litS T (varS ops.length o.st 3 a b) = decide (row.getD a 0 = b) := by
    intro a b ha hb
    rw [lit_pos (g.ok3 ha hb) T hlen, ← hT, g.t3 ha hb]
  have p3n : ∀ (a : Nat) (b : Int), a ≤ ops.length → 0 ≤ b ∧ b < o.st → litS T (w64 (-varS ops.length o.st 3 a b)) = !decide (row.getD a 0 = b) := by
    intro a b ha hb
    rw [lit_neg (g.ok3 ha hb) T hlen, ← hT, g.t3 ha hb]
  have p3o : ∀ (a : Nat) (b : Int), ¬ (0 ≤ b ∧ b < o.st) → litS T (varS ops.length o.st 3 a b) = false := by
    intro a b hb
    have : varS ops.length o.st 3 a b = 0 := by
      rw [varS, if_neg]
      intro q
      obtain ⟨_, _, _, _, _, q6, q7⟩ := varOk_iff.1 q
      simp [blockWide] at q7
      exact hb ⟨q6, q7⟩
    rw [this, litS_zero]
  have cast1 : ∀ k : Nat, ((k : Int) + 1) = ((k + 1 : Nat) : Int) := fun k => by omega
  constructor
  · intro hall
    have hH : ∀ i, i < ops.length → (ops.getD i default).e ≠ -1 → inn.getD i false = true := by
      intro i hi he
      have := hall [varS ops.length o.st 2 i 0] (mem_movTo.2 ⟨i, hi, .inl (by rw [movH, if_neg he]; simp)⟩)
      simp only [holdsS, List.any_cons, List.any_nil, Bool.or_false] at this
      rw [p2 i hi] at this; exact this
    refine ⟨hH, fun k hk => ?_⟩
    have hop := g.op k hk
    obtain ⟨ho1, ho2, _⟩ := hop
    have hrp := g.rp k (by omega)
    obtain ⟨hr1, hr2⟩ := hrp
    have hrp2 := g.rp (k + 1) (by omega)
    have hbs : (row.getD k 0).toNat < o.st.toNat := by omega
    have hbc : (((row.getD k 0).toNat : Nat) : Int) = row.getD k 0 := by omega
    have hic : (((order.getD k 0).toNat : Nat) : Int) = order.getD k 0 := by omega
    have hil : (order.getD k 0).toNat < ops.length := by omega
    have hA := hall _ (mem_movTo.2 ⟨_, hil, .inr ⟨k, hk, _, hbs, List.mem_cons_self⟩⟩)
    have hB := fun he => hall [w64 (-varS ops.length o.st 1 (order.getD k 0).toNat k), varS ops.length o.st 2 (order.getD k 0).toNat 0, w64 (-varS ops.length o.st 3 k (row.getD k 0).toNat), varS ops.length o.st 3 ((k : Int) + 1) (row.getD k 0).toNat] (mem_movTo.2 ⟨_, hil, .inr ⟨k, hk, _, hbs, by unfold movB; rw [if_pos he]; simp⟩⟩)
    have q1 := p1 _ k hil hk
    rw [hic, decide_eq_true rfl] at q1
    have q2 := p2 _ hil
    have q2n := p2n _ hil
    rw [hic] at q2 q2n
    have q3n := p3n k (row.getD k 0).toNat (by omega) (by omega)
    rw [hbc, decide_eq_true rfl] at q3n
    have q3 := p3 (k + 1) (row.getD k 0).toNat (by omega) (by omega)
    rw [hbc] at q3
    simp only [holdsS, List.any_append, List.any_cons, List.any_nil, Bool.or_false, q2, q2n, hbc, hic, q1, q3n, Bool.not_true, Bool.false_or] at hA hB
    rw [cast1, q3] at hB
    constructor
    · intro hi
      rw [hi] at hA
      cases hm : mayS o (ops.getD (order.getD k 0).toNat default) (row.getD k 0) with
      | none => rw [hm] at hA; simp [optL] at hA
      | some y =>
        rw [hm] at hA
        simp only [optL, List.any_cons, List.any_nil, Bool.or_false, Bool.not_true, Bool.false_or] at hA
        rw [cast1] at hA
        by_cases hy : 0 ≤ y ∧ y < o.st
        · rw [p3 _ _ (by omega) hy, decide_eq_true_eq] at hA; rw [hA]
        · rw [p3o _ _ hy] at hA; cases hA
    · intro hi
      have he : (ops.getD (order.getD k 0).toNat default).e = -1 := by
        apply Classical.byContradiction
        intro he
        rw [hH _ hil he] at hi; cases hi
      have := hB he
      rw [hi] at this
      simpa using this
  · rintro ⟨hH, hS⟩ c hcm
    obtain ⟨i, hi, hcm⟩ := mem_movTo.1 hcm
    rcases hcm with hcm | ⟨k, hk, b, hb, hcm⟩
    · unfold movH at hcm
      split at hcm
      · cases hcm
      · rename_i he
        simp only [List.mem_singleton] at hcm
        subst hcm
        simp only [holdsS, List.any_cons, List.any_nil, Bool.or_false]
        rw [p2 i hi]; exact hH i hi he
    · have hop := g.op k hk
      obtain ⟨ho1, ho2, _⟩ := hop
      have hrp2 := g.rp (k + 1) (by omega)
      obtain ⟨ha, hna⟩ := hS k hk
      have hbo : 0 ≤ (b : Int) ∧ (b : Int) < o.st := by omega
      by_cases e1 : order.getD k 0 = (i : Int)
      rotate_left
      · have q1 := p1 i k hi hk
        rw [decide_eq_false e1] at q1
        unfold movB at hcm
        rcases List.mem_cons.1 hcm with rfl | hcm
        · simp [holdsS, q1]
        · split at hcm
          · simp only [List.mem_singleton] at hcm
            subst hcm
            simp [holdsS, q1]
          · cases hcm
      by_cases e2 : row.getD k 0 = (b : Int)
      rotate_left
      · have q3 := p3n k b (by omega) hbo
        rw [decide_eq_false e2] at q3
        unfold movB at hcm
        rcases List.mem_cons.1 hcm with rfl | hcm
        · simp [holdsS, q3]
        · split at hcm
          · simp only [List.mem_singleton] at hcm
            subst hcm
            simp [holdsS, q3]
          · cases hcm
      have e3 : (order.getD k 0).toNat = i := by omega
      rw [e3, e2] at ha hna
      unfold movB at hcm
      rcases List.mem_cons.1 hcm with rfl | hcm
      · cases hv : inn.getD i false with
        | true =>
          rw [ha hv]
          have := p3 (k + 1) (row.getD (k + 1) 0) (by omega) hrp2
          simp only [holdsS, List.any_append, optL, List.any_cons]
          rw [cast1, this]; simp
        | false =>
          simp only [holdsS, List.any_append, List.any_cons, p2n i hi, hv]; simp
      · split at hcm
        · simp only [List.mem_singleton] at hcm
          subst hcm
          cases hv : inn.getD i false with
          | true =>
            simp only [holdsS, List.any_cons, p2 i hi, hv]; simp
          | false =>
            have := p3 (k + 1) b (by omega) hbo
            rw [hna hv, decide_eq_true rfl] at this
            simp only [holdsS, List.any_cons]
            rw [cast1, this]; simp
        · cases hcm

end Go.AX
