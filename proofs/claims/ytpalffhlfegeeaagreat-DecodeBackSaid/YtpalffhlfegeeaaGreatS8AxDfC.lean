/-
  What is decoded is a linearization; each linearization comes back (plain law).
  Each linearization comes back of its truths (plain law).
-/
import Derived.Test.YtpalffhlfegeeaaGreatS8AxDfA
import Derived.Test.YtpalffhlfegeeaaGreatS8AxDeT
namespace Go.AX
open Go.Proofs

theorem runGo_snoc {o : Obj} {ops : List Op5} : ∀ (ps : List (Int × Int)) {u : List Int} {i : Nat} {s : Int} {p : Int × Int}, (runGo o ops u i s ps).2.2 = 0 → (pickS o ops (u ++ tops ps) (runGo o ops u i s ps).1 p).2 = 0 →
    (runGo o ops u i s (ps ++ [p])).2.2 = 0 ∧ (runGo o ops u i s (ps ++ [p])).1 = (pickS o ops (u ++ tops ps) (runGo o ops u i s ps).1 p).1
  | [], u, i, s, p, _, h => by
    have e : u ++ tops [] = u := by simp [tops]
    rw [e] at h ⊢
    have h : (pickS o ops u s p).2 = 0 := h
    have e2 : runGo o ops u i s [p] = ((pickS o ops u s p).1, ((i + 1 : Nat) : Int), 0) := by rw [runGo, if_pos h, runGo]
    rw [List.nil_append, e2]
    exact ⟨rfl, rfl⟩
  | q :: r, u, i, s, p, h, hp => by
    obtain ⟨h1, h2⟩ := runGo_zero h
    rw [h2] at h hp ⊢
    have e : u ++ tops (q :: r) = u ++ [q.1] ++ tops r := by simp [tops]
    rw [e] at hp ⊢
    have := runGo_snoc r (p := p) h hp
    rw [List.cons_append, runGo, if_pos h1]
    exact this
theorem ordGo_snoc {ops : List Op5} : ∀ (ps : List (Int × Int)) {u : List Int} {i : Nat} {p : Int × Int}, ordGo ops u i ps < 0 → badT ops (u ++ tops ps) p = false → ordGo ops u i (ps ++ [p]) < 0
  | [], u, i, p, _, h => by
    have e : u ++ tops [] = u := by simp [tops]
    rw [e] at h
    rw [List.nil_append, ordGo, if_neg (by simp [h])]
    show (-1 : Int) < 0
    decide
  | q :: r, u, i, p, h, hp => by
    rw [ordGo] at h
    split at h
    · omega
    · rename_i c
      have e : u ++ tops (q :: r) = u ++ [q.1] ++ tops r := by simp [tops]
      rw [e] at hp
      rw [List.cons_append, ordGo, if_neg c]
      exact ordGo_snoc r h hp
theorem ordGo_no {ops : List Op5} : ∀ (ps : List (Int × Int)) {u : List Int} {i : Nat}, ordGo ops u i ps < 0 → ∀ j (hj : j < ps.length), badT ops (u ++ tops (ps.take j)) ps[j] = false
  | [], _, _, _, j, hj => absurd hj (Nat.not_lt_zero _)
  | q :: r, u, i, h, j, hj => by
    rw [ordGo] at h
    split at h
    · omega
    · rename_i c
      cases j with
      | zero => simpa [tops] using c
      | succ j =>
        have := ordGo_no r h j (by simpa using hj)
        simpa [tops] using this
theorem pickS_good {o : Obj} {ops : List Op5} {u : List Int} {s n : Int} {p : Int × Int} (h1 : 0 ≤ p.1 ∧ p.1 < ops.length) (h2 : p.1 ∉ u) (h3 : 0 ≤ s ∧ s < o.st) (h4 : moveS o s (ops.getD p.1.toNat default).k = some (n, p.2)) (h5 : (ops.getD p.1.toNat default).e = -1 ∨ (ops.getD p.1.toNat default).r = p.2) : pickS o ops u s p = (n, 0) := by
  have hst : stepS o s (ops.getD p.1.toNat default).k p.2 = (n, 0) := by
    unfold stepS
    rw [if_neg (by omega), h4]
    dsimp only
    rw [if_pos rfl]
  unfold pickS
  rw [if_neg (by omega), if_neg h2, hst, if_neg (by simp), if_neg]
  rintro ⟨e1, e2⟩
  rcases h5 with e | e
  · exact e1 e
  · exact e2 e
theorem may_move {o : Obj} {x : Op5} {s n : Int} (h : mayS o x s = some n) : ∃ r, moveS o s x.k = some (n, r) ∧ moveR o s x.k = r ∧ (x.e = -1 ∨ x.r = r) := by
  unfold mayS at h
  cases hm : moveS o s x.k with
  | none => rw [hm] at h; cases h
  | some q =>
    obtain ⟨a, b⟩ := q
    rw [hm] at h
    dsimp only at h
    split at h
    · cases h
    · rename_i c
      cases h
      refine ⟨b, rfl, by unfold moveR; rw [hm], ?_⟩
      by_cases e : x.e = -1
      · exact .inl e
      · exact .inr (Decidable.of_not_not fun hh => c ⟨e, hh⟩)
theorem mem_pairs {ops : List Op5} {a b : Nat} (ha : a < ops.length) (hb : b < ops.length) (h : aheadS ops[a] ops[b] = true) : ((a : Int), (b : Int)) ∈ pairsTo ops ops.length := by
  unfold pairsTo pairsRow
  refine List.mem_flatMap.2 ⟨a, List.mem_range.2 ha, List.mem_map.2 ⟨b, List.mem_filter.2 ⟨List.mem_range.2 hb, ?_⟩, rfl⟩⟩
  simpa [ha, hb] using h
theorem pairs_ahead {ops : List Op5} {p : Int × Int} (h : p ∈ pairsTo ops ops.length) : ∃ a b : Nat, ∃ ha : a < ops.length, ∃ hb : b < ops.length, p = ((a : Int), (b : Int)) ∧ aheadS ops[a] ops[b] = true := by
  simp only [pairsTo, pairsRow, List.mem_flatMap, List.mem_map, List.mem_filter, List.mem_range] at h
  obtain ⟨a, ha, b, ⟨hb, hah⟩, rfl⟩ := h
  exact ⟨a, b, ha, hb, rfl, by simpa [ha, hb] using hah⟩
theorem ahead_end {a b : Op5} (h : aheadS a b = true) : 0 ≤ a.e ∧ a.e < b.s := by
  unfold aheadS at h
  simp only [Bool.and_eq_true, decide_eq_true_eq] at h
  exact ⟨by omega, h.2⟩
theorem ahead_irr {ops : List Op5} (hok : okTo ops ops.length) {a : Nat} (ha : a < ops.length) : aheadS ops[a] ops[a] = false := by
  cases h : aheadS ops[a] ops[a]
  · rfl
  · obtain ⟨h1, h2⟩ := ahead_end h
    have := alone_facts (okTo_fine hok (Nat.le_refl _) ha).al
    omega
/-- All that is so of what is played, up to a place. -/
structure DecSo (o : Obj) (ops : List Op5) (order row : List Int) (inn : List Bool) (k : Nat) : Prop where
  run : (runGo o ops [] 0 o.ini (decTo o ops order row inn k)).2.2 = 0
  at' : (runGo o ops [] 0 o.ini (decTo o ops order row inn k)).1 = row.getD k 0
  ord : ordW ops (decTo o ops order row inn k) < 0
  mem : ∀ x, x ∈ tops (decTo o ops order row inn k) ↔ ∃ j, j < k ∧ x = order.getD j 0 ∧ inn.getD (order.getD j 0).toNat false = true
theorem dec_so {o : Obj} {ops : List Op5} {f : Nat → Nat → Bool} {order row : List Int} {inn : List Bool} (hobj : (objChk o).2 = 0) (hok : okTo ops ops.length) (hio : IsOrd f ops.length order) (hini : 0 ≤ o.ini ∧ o.ini < o.st)
    (hst : ∀ k, k < ops.length → stepR o ops order inn row k) (h0 : row.getD 0 0 = o.ini) (hrow : ∀ k, k < ops.length + 1 → 0 ≤ row.getD k 0 ∧ row.getD k 0 < o.st)
    (hen : ∀ i (hi : i < ops.length), ops[i].e ≠ -1 → inn.getD i false = true) (hag : (agS order (pairsTo ops ops.length)).2 = true) : ∀ k, k ≤ ops.length → DecSo o ops order row inn k
  | 0, _ => ⟨rfl, h0.symm, by unfold ordW; rw [decTo, ordGo]; decide, fun x => by
      constructor
      · intro h; simp [decTo, tops] at h
      · rintro ⟨j, hj, _⟩; omega⟩
  | k + 1, hk => by
    obtain ⟨i1, i2, i3, i4⟩ := dec_so hobj hok hio hini hst h0 hrow hen hag k (by omega)
    have hkn : k < ops.length := by omega
    obtain ⟨ha, hna⟩ := hst k hkn
    obtain ⟨q1, q2⟩ := hio.2.2.1 k hkn
    have hol := hio.1
    have hmem : ∀ (P : Prop), (P ↔ inn.getD (order.getD k 0).toNat false = true) → ∀ x, ((∃ j, j < k ∧ x = order.getD j 0 ∧ inn.getD (order.getD j 0).toNat false = true) ∨ (P ∧ x = order.getD k 0)) ↔ ∃ j, j < k + 1 ∧ x = order.getD j 0 ∧ inn.getD (order.getD j 0).toNat false = true := fun P hP x => by
      constructor
      · rintro (⟨j, hj, h⟩ | ⟨hp, rfl⟩)
        · exact ⟨j, by omega, h⟩
        · exact ⟨k, by omega, rfl, hP.1 hp⟩
      · rintro ⟨j, hj, h1, h2⟩
        by_cases e : j = k
        · subst e; exact .inr ⟨hP.2 h2, h1⟩
        · exact .inl ⟨j, by omega, h1, h2⟩
    cases hin : inn.getD (order.getD k 0).toNat false with
    | false =>
      have hD : decTo o ops order row inn (k + 1) = decTo o ops order row inn k := by rw [decTo, hin, if_neg (by simp), List.append_nil]
      rw [← hna hin] at i2
      refine ⟨by rw [hD]; exact i1, by rw [hD]; exact i2, by rw [hD]; exact i3, fun x => ?_⟩
      rw [hD, i4]
      rw [← hmem False (by rw [hin]; simp) x]
      simp
    | true =>
      obtain ⟨r, m1, m2, m3⟩ := may_move (ha hin)
      have hD : decTo o ops order row inn (k + 1) = decTo o ops order row inn k ++ [(order.getD k 0, r)] := by
        rw [decTo, hin, if_pos rfl, pickAt, m2]
      have hnot : order.getD k 0 ∉ tops (decTo o ops order row inn k) := fun hm => by
        obtain ⟨j, hj, e, _⟩ := (i4 _).1 hm
        have := nodup_getD hio.2.2.2 (j := k) (k := j) (by omega) (by omega) e
        omega
      have hp := pickS_good (o := o) (ops := ops) (u := [] ++ tops (decTo o ops order row inn k)) (s := (runGo o ops [] 0 o.ini (decTo o ops order row inn k)).1) (n := row.getD (k + 1) 0) (p := (order.getD k 0, r)) ⟨q1, q2⟩ (by simpa using hnot) (by rw [i2]; exact hrow k (by omega)) (by rw [i2]; exact m1) m3
      have hsn := runGo_snoc (decTo o ops order row inn k) (p := (order.getD k 0, r)) i1 (by rw [hp])
      rw [hp] at hsn
      have hbad : badT ops ([] ++ tops (decTo o ops order row inn k)) (order.getD k 0, r) = false := by
        obtain ⟨x, hx⟩ := Int.eq_ofNat_of_zero_le q1
        have hx' : order.getD k 0 = (x : Int) := hx
        have hxl : x < ops.length := by omega
        rw [hx', List.nil_append]
        refine badT_no hxl fun b hb hab => ?_
        obtain ⟨e1, e2⟩ := ahead_end hab
        have hib := hen b hb (by omega)
        obtain ⟨j, hj, ej, _, _⟩ := hio.place hb
        refine (i4 _).2 ⟨j, ?_, ej.symm, by rw [ej, Int.toNat_natCast]; exact hib⟩
        have hagp := agS_iff.1 hag _ (mem_pairs hb hxl hab)
        have g1 : order[j]'(by omega) = (b : Int) := by
          rw [List.getD_eq_getElem?_getD, List.getElem?_eq_getElem (by omega)] at ej
          exact ej
        have g2 : order[k]'(by omega) = (x : Int) := by
          rw [List.getD_eq_getElem?_getD, List.getElem?_eq_getElem (by omega)] at hx'
          exact hx'
        have p1 := posS_at hio.2.2.2 (k := j) (by omega)
        have p2 := posS_at hio.2.2.2 (k := k) (by omega)
        rw [g1] at p1
        rw [g2] at p2
        unfold agB at hagp
        dsimp only at hagp
        rw [p1, p2, decide_eq_true (by omega), Bool.true_and, decide_eq_false_iff_not] at hagp
        by_cases ejk : j = k
        · subst ejk
          have : b = x := by rw [g1] at g2; omega
          subst this
          rw [ahead_irr hok hb] at hab
          cases hab
        · omega
      refine ⟨by rw [hD]; exact hsn.1, by rw [hD]; exact hsn.2, by rw [hD]; exact ordGo_snoc _ i3 hbad, fun x => ?_⟩
      rw [hD, ← hmem True (by rw [hin]; simp) x, ← i4]
      simp [tops]
/-- What is decoded is a linearization. -/
theorem says_wit {o : Obj} {ops : List Op5} {T : List Bool} (hr : objR o) (hs : saysS o ops T = true) : WitOk o ops (decL o ops T) := by
  obtain ⟨hf, order, row, ho, hw, hag, hplay⟩ := says_some hs
  obtain ⟨g1, g2, h64, hP, _, hc⟩ := failE_zero hr hf
  obtain ⟨o1, o2, o3, o4⟩ := obj_good hr g1
  obtain ⟨_, hok⟩ := chk_zero g2
  obtain ⟨_, hlen, hio⟩ := ordS_ok ho
  obtain ⟨_, _, hir⟩ := rowQ_ok hw
  have hio' : IsOrd (fP ops.length o.st T) ops.length order := hio
  have hL : decL o ops T = decTo o ops order row (insS ops.length o.st ops.length T) ops.length := by
    unfold decL
    rw [ho, hw]
    dsimp only
    rw [hio'.1]
  have hpo : playOk ops order (insS ops.length o.st ops.length T) = true ∧ playTo o ops order (insS ops.length o.st ops.length T) ops.length = some row := by
    have h := hplay
    unfold playS at h
    split at h
    · rename_i c; exact ⟨c.2, h⟩
    · cases h
  have hpre := playTo_pre hpo.2
  have h0 : row.getD 0 0 = o.ini := by
    have := hpre.1 0 (Nat.zero_le _)
    cases row with
    | nil => simp [playTo] at this
    | cons x r =>
      simp only [playTo, Nat.zero_add, List.take_succ_cons, List.take_zero, Option.some.injEq, List.cons.injEq] at this
      rw [this.1]
      rfl
  have hen : ∀ i (hi : i < ops.length), ops[i].e ≠ -1 → (insS ops.length o.st ops.length T).getD i false = true := fun i hi he => by
    refine ((playOk_iff.1 hpo.1).2.2 i hi).2 ?_
    simpa [List.getD_eq_getElem?_getD, List.getElem?_eq_getElem hi] using he
  have hrow : ∀ k, k < ops.length + 1 → 0 ≤ row.getD k 0 ∧ row.getD k 0 < o.st := fun k hk => by
    have := hir.2.2 k (by simpa using hk)
    omega
  have hD := dec_so g1 hok hio' ⟨o3, o4⟩ hpre.2 h0 hrow hen hag ops.length (Nat.le_refl _)
  rw [hL]
  refine ⟨g1, g2, ⟨o3, o4⟩, hD.run, hD.ord, ?_⟩
  unfold missTo
  rw [List.map_eq_nil_iff, List.filter_eq_nil_iff]
  intro i hi
  have hi := List.mem_range.1 hi
  have hg : ops.getD i default = ops[i] := by rw [List.getD_eq_getElem?_getD, List.getElem?_eq_getElem hi]; rfl
  rw [hg]
  by_cases e : ops[i].e = -1
  · simp [e]
  · obtain ⟨j, hj, ej, _, _⟩ := hio'.place hi
    have : (i : Int) ∈ tops (decTo o ops order row (insS ops.length o.st ops.length T) ops.length) := (hD.mem _).2 ⟨j, hj, ej.symm, by rw [ej, Int.toNat_natCast]; exact hen i hi e⟩
    simp [this]
theorem wit_chk {o : Obj} {ops : List Op5} {ps : List (Int × Int)} (h : WitOk o ops ps) : (chkW o ops ps).2 = 0 := by
  have hf : fromS o ops o.ini ps = runGo o ops [] 0 o.ini ps := by
    unfold fromS
    have := h.ini
    rw [if_neg (fun hh => hh h.obj), if_neg (by omega)]
  unfold chkW
  rw [if_neg (by rintro (e | e); exact e h.obj; exact e h.opr), if_neg (by rw [hf]; exact fun e => e h.run), if_neg (by have := h.ord; omega), if_neg (by rw [h.mis]; simp)]
end Go.AX

namespace Go.AX
open Go.Proofs

theorem mix_len (N M : Nat) (order row : List Int) (among : List Bool) : (mixL N M order row among).length = varC N M := by simp [mixL]
theorem mix_get {N M : Nat} {order row : List Int} {among : List Bool} {j : Nat} (h : j < varC N M) : (mixL N M order row among).getD j false = mixF N M order row among j := by
  simp [mixL, h]
theorem mix1 {N M : Nat} {order row : List Int} {among : List Bool} (hc : sizeOk N M = true) {a k : Nat} (ha : a < N) (hk : k < N) : fP N M (mixL N M order row among) a k = decide (order.getD k 0 = (a : Int)) := by
  have hlm := lt_mul ha hk
  have hV : varC N M = N * N + N + (N + 1) * M := rfl
  unfold fP
  rw [mark1 hc ha hk, mix_get (by omega)]
  unfold mixF
  rw [if_pos hlm]
  unfold plF
  obtain ⟨d1, d2⟩ := divmod (a := a) hk
  rw [decide_eq_true hlm, Bool.true_and, d1, d2]
theorem mix2 {N M : Nat} {order row : List Int} {among : List Bool} (hc : sizeOk N M = true) {a : Nat} (ha : a < N) : (mixL N M order row among).getD (markAt N M 2 a 0) false = among.getD a false := by
  have hV : varC N M = N * N + N + (N + 1) * M := rfl
  rw [mark2 hc ha, mix_get (by omega)]
  unfold mixF
  rw [if_neg (by omega), if_pos (by omega), show N * N + a - N * N = a by omega]
theorem mix3 {N M : Nat} {order row : List Int} {among : List Bool} (hc : sizeOk N M = true) {a b : Nat} (ha : a < N + 1) (hb : b < M) : fS N M (mixL N M order row among) a b = decide (row.getD a 0 = (b : Int)) := by
  have hlm := lt_mul ha hb
  have hV : varC N M = N * N + N + (N + 1) * M := rfl
  unfold fS
  rw [mark3 hc (by omega) hb, mix_get (by omega)]
  unfold mixF
  rw [if_neg (by omega), if_neg (by omega)]
  unfold stF
  obtain ⟨d1, d2⟩ := divmod (a := a) hb
  rw [decide_eq_true (by omega), Bool.true_and, show N * N + N + a * M + b - (N * N + N) = a * M + b by omega, d1, d2]
theorem run_dec {o : Obj} {ops : List Op5} {order row : List Int} {inn : List Bool} : ∀ (ps : List (Int × Int)) {u : List Int} {i : Nat} {s : Int}, (runGo o ops u i s ps).2.2 = 0 →
    (∀ j (hj : j < ps.length), order.getD (i + j) 0 = ps[j].1) → (∀ x ∈ tops ps, inn.getD x.toNat false = true) → row.getD i 0 = s → (∀ j, j < ps.length → stepR o ops order inn row (i + j)) →
    decTo o ops order row inn (i + ps.length) = decTo o ops order row inn i ++ ps
  | [], _, _, _, _, _, _, _, _ => by simp
  | p :: r, u, i, s, h, ho, hi, hs, hst => by
    obtain ⟨h1, h2⟩ := runGo_zero h
    obtain ⟨q1, q2, q3, n, q4, q5, q6⟩ := pickS_zero h1
    rw [h2] at h
    rw [q6] at h
    have ho0 : order.getD i 0 = p.1 := ho 0 (by simp)
    have hin : inn.getD p.1.toNat false = true := hi p.1 (by simp [tops])
    have hst0 : stepR o ops order inn row i := hst 0 (by simp)
    have hmay : mayS o (ops.getD p.1.toNat default) s = some n := by
      unfold mayS
      rw [q4]
      dsimp only
      rw [if_neg]
      rintro ⟨e1, e2⟩
      rcases q5 with e | e
      · exact e1 e
      · exact e2 e
    have hnx : row.getD (i + 1) 0 = n := by
      have := hst0.1 (by rw [ho0]; exact hin)
      rw [ho0, hs, hmay] at this
      exact (Option.some.inj this).symm
    have hd1 : decTo o ops order row inn (i + 1) = decTo o ops order row inn i ++ [p] := by
      rw [decTo, ho0, hin, if_pos rfl, pickAt, ho0, hs]
      have : moveR o s (ops.getD p.1.toNat default).k = p.2 := by unfold moveR; rw [q4]
      rw [this]
    have := run_dec r (u := u ++ [p.1]) (i := i + 1) (s := n) (order := order) (row := row) (inn := inn) h (fun j hj => by
      have := ho (j + 1) (by simp; omega)
      rw [show i + 1 + j = i + (j + 1) by omega, this]
      rfl) (fun x hx => hi x (by simp [tops] at hx ⊢; exact .inr hx)) hnx (fun j hj => by
      have := hst (j + 1) (by simp; omega)
      rw [show i + 1 + j = i + (j + 1) by omega]
      exact this)
    rw [show i + (p :: r).length = i + 1 + r.length by simp; omega, this, hd1]
    simp
theorem stay_dec {o : Obj} {ops : List Op5} {order row : List Int} {inn : List Bool} {k : Nat} : ∀ d, (∀ j, k ≤ j → j < k + d → inn.getD (order.getD j 0).toNat false = false) → decTo o ops order row inn (k + d) = decTo o ops order row inn k
  | 0, _ => rfl
  | d + 1, h => by
    rw [show k + (d + 1) = (k + d) + 1 by omega, decTo, stay_dec d fun j hj hjd => h j hj (by omega), if_neg (by rw [h (k + d) (by omega) (by omega)]; simp), List.append_nil]
/-- What an order of picks is. -/
structure Front (N : Nat) (ps : List (Int × Int)) : Prop where
  le : ps.length ≤ N
  at' : ∀ j (hj : j < ps.length), (orderS N ps).getD j 0 = ps[j].1
  yes : ∀ x ∈ tops ps, (amongS N ps).getD x.toNat false = true
  no : ∀ j, ps.length ≤ j → j < N → (orderS N ps).getD j 0 ∉ tops ps ∧ (amongS N ps).getD ((orderS N ps).getD j 0).toNat false = false
theorem front_of {o : Obj} {ops : List Op5} {ps : List (Int × Int)} (hw : WitOk o ops ps) : Front ops.length ps := by
  obtain ⟨nd, rng⟩ := run_nodup ps hw.run List.nodup_nil
  rw [List.nil_append] at nd
  obtain ⟨ext, hext⟩ := order_front rng nd
  obtain ⟨of1, of2, of3⟩ := orderS_facts ops.length ps
  have oln := orderS_length ops.length ps
  have htl : (tops ps).length = ps.length := by simp [tops]
  refine ⟨by rw [hext, List.length_append, htl] at oln; omega, fun j hj => ?_, fun x hx => ?_, fun j hj hjn => ?_⟩
  · rw [hext, List.getD_eq_getElem?_getD, List.getElem?_append_left (by omega)]
    simp [tops, hj]
  · obtain ⟨r1, r2⟩ := rng x hx
    rw [among_at (by omega)]
    refine decide_eq_true ?_
    rw [Int.toNat_of_nonneg r1]
    exact hx
  · have hjl : j < (orderS ops.length ps).length := by omega
    have hg : (orderS ops.length ps).getD j 0 = (orderS ops.length ps)[j] := by rw [List.getD_eq_getElem?_getD, List.getElem?_eq_getElem hjl]; rfl
    obtain ⟨r1, r2⟩ := of1 _ (List.getElem_mem hjl)
    have hnm : (orderS ops.length ps)[j] ∉ tops ps := fun hm => by
      obtain ⟨y, hy, e⟩ := List.getElem_of_mem hm
      have hy2 : (orderS ops.length ps)[y]'(by omega) = (orderS ops.length ps)[j] := by
        rw [← e]
        have : (orderS ops.length ps)[y]? = (tops ps)[y]? := by rw [hext, List.getElem?_append_left hy]
        rw [List.getElem?_eq_getElem (by omega), List.getElem?_eq_getElem hy] at this
        exact Option.some.inj this
      have := (List.getElem_inj of2).1 hy2
      omega
    rw [hg]
    refine ⟨hnm, ?_⟩
    rw [among_at (by omega)]
    refine decide_eq_false fun hm => hnm ?_
    rw [Int.toNat_of_nonneg r1] at hm
    exact hm
theorem back_says {o : Obj} {ops : List Op5} {ps : List (Int × Int)} (hr : objR o) (hf : failE o ops = 0) (hw : (chkW o ops ps).2 = 0) : saysS o ops (truL o ops ps) = true ∧ decL o ops (truL o ops ps) = ps := by
  obtain ⟨row, hT⟩ := truOk_of hr hf hw
  have hW := chkW_zero hw
  have hF := front_of hW
  obtain ⟨g1, g2, h64, hP, _, hc⟩ := failE_zero hr hf
  obtain ⟨o1, o2, o3, o4⟩ := obj_good hr g1
  obtain ⟨_, hok⟩ := chk_zero g2
  have hL : truL o ops ps = mixL ops.length o.st.toNat (orderS ops.length ps) row (amongS ops.length ps) := by unfold truL; rw [hT.play]; rfl
  obtain ⟨M, hM⟩ := Int.eq_ofNat_of_zero_le (show 0 ≤ o.st by omega)
  have hM' : o.st = (M : Int) := hM
  have hMn : o.st.toNat = M := by omega
  have hoa := orderS_all ops.length ps
  have hcM : sizeOk ops.length M = true := by rw [← hM']; exact hc
  have hio : IsOrd (fP ops.length o.st (truL o ops ps)) ops.length (orderS ops.length ps) := by
    rw [hL, hMn, hM']
    exact ⟨hoa.len, fun k hk a ha => mix1 hcM ha hk, fun k hk => hoa.at' hk, hoa.nd⟩
  have hir : IsRow (fS ops.length o.st (truL o ops ps)) (ops.length + 1) M row := by
    rw [hL, hMn, hM']
    refine ⟨hT.len, fun a ha b hb => mix3 hcM ha hb, fun a ha => ?_⟩
    have hal : a < row.length := by rw [hT.len]; exact ha
    rw [List.getD_eq_getElem?_getD, List.getElem?_eq_getElem hal]
    have := hT.rng _ (List.getElem_mem hal)
    exact ⟨this.1, by have := this.2; simp only [Option.getD_some]; omega⟩
  have hlen : ((truL o ops ps).length : Int) = varsN ops.length o.st := by
    rw [hL, mix_len, hMn, hM']
    exact (varC_eq hcM).1.symm
  have hins : insS ops.length o.st ops.length (truL o ops ps) = amongS ops.length ps := by
    unfold insS
    apply List.ext_getElem
    · simp
    · intro j h1 h2
      have hj : j < ops.length := by simpa using h1
      rw [List.getElem_map, List.getElem_range, hL, hMn, hM', mix2 hcM hj, List.getD_eq_getElem?_getD, List.getElem?_eq_getElem h2]
      rfl
  have hord : ordS ops.length o.st (truL o ops ps) = some (orderS ops.length ps) := by
    unfold ordS
    rw [if_pos (truOk_iff.2 ⟨hc, hlen⟩)]
    exact ordO_of hio
  have hrow : rowQ ops.length o.st (truL o ops ps) = some row := by
    unfold rowQ
    rw [if_pos (truOk_iff.2 ⟨hc, hlen⟩), hMn]
    exact rowO_of hir
  have hag : (agS (orderS ops.length ps) (pairsTo ops ops.length)).2 = true := by
    refine agS_iff.2 fun p hp => ?_
    obtain ⟨a, b, ha, hb, rfl, hah⟩ := pairs_ahead hp
    obtain ⟨ka, hka, ea, _, _⟩ := hio.place ha
    obtain ⟨kb, hkb, eb, _, _⟩ := hio.place hb
    have hol := hoa.len
    have g1 : (orderS ops.length ps)[ka]'(by omega) = (a : Int) := by
      rw [List.getD_eq_getElem?_getD, List.getElem?_eq_getElem (by omega)] at ea
      exact ea
    have g2 : (orderS ops.length ps)[kb]'(by omega) = (b : Int) := by
      rw [List.getD_eq_getElem?_getD, List.getElem?_eq_getElem (by omega)] at eb
      exact eb
    have p1 := posS_at hoa.nd (k := ka) (by omega)
    have p2 := posS_at hoa.nd (k := kb) (by omega)
    rw [g1] at p1
    rw [g2] at p2
    unfold agB
    dsimp only
    rw [p1, p2, decide_eq_true (by omega), Bool.true_and, decide_eq_false_iff_not]
    intro hlt
    obtain ⟨e1, _⟩ := ahead_end hah
    by_cases cb : kb < ps.length
    · have hb1 := hF.at' kb cb
      rw [eb] at hb1
      have hbad := ordGo_no ps hW.ord kb cb
      rw [List.nil_append] at hbad
      obtain ⟨⟨z, q⟩, hz⟩ : ∃ z, ps[kb] = z := ⟨_, rfl⟩
      rw [hz] at hb1 hbad
      dsimp only at hb1
      subst hb1
      have hin : (a : Int) ∈ tops (ps.take kb) := by
        apply Classical.byContradiction
        intro hn
        rw [badT_yes hb ha hah hn] at hbad
        cases hbad
      rw [tops_takeC] at hin
      obtain ⟨y, hy, e⟩ := List.mem_take_iff_getElem.1 hin
      have hyl : y < ps.length := by simp [tops] at hy; omega
      have hya := hF.at' y hyl
      have e2 : ps[y].1 = (a : Int) := by simpa [tops] using e
      rw [e2, ← ea] at hya
      have := nodup_getD hoa.nd (j := y) (k := ka) (by omega) (by omega) hya
      omega
    · have hne : ops[a].e ≠ -1 := by omega
      have hma := miss_no hW.mis ha hne
      by_cases ca : ka < ps.length
      · omega
      · have := (hF.no ka (by omega) hka).1
        rw [ea] at this
        exact this hma
  have hsays : saysS o ops (truL o ops ps) = true := by
    unfold saysS
    rw [decide_eq_true hf, Bool.true_and, hord, hrow]
    unfold saysQ
    dsimp only
    rw [hag, Bool.true_and, hins, hT.play]
    exact decide_eq_true rfl
  refine ⟨hsays, ?_⟩
  have hst : ∀ k, k < ops.length → stepR o ops (orderS ops.length ps) (amongS ops.length ps) row k := by
    have h := hT.play
    unfold playS at h
    split at h
    · exact (playTo_pre h).2
    · cases h
  have h0 : row.getD 0 0 = o.ini := by
    have h := hT.play
    unfold playS at h
    split at h
    · have := (playTo_pre h).1 0 (Nat.zero_le _)
      cases hrw : row with
      | nil => rw [hrw] at this; simp [playTo] at this
      | cons x r =>
        rw [hrw] at this
        simp only [playTo, Nat.zero_add, List.take_succ_cons, List.take_zero, Option.some.injEq, List.cons.injEq] at this
        rw [this.1]
        rfl
    · cases h
  have hle := hF.le
  have hdec := run_dec ps (u := []) (i := 0) (s := o.ini) (order := orderS ops.length ps) (row := row) (inn := amongS ops.length ps) hW.run (fun j hj => by rw [Nat.zero_add]; exact hF.at' j hj) hF.yes h0 (fun j hj => by rw [Nat.zero_add]; exact hst j (by omega))
  rw [Nat.zero_add] at hdec
  have hstay := stay_dec (o := o) (ops := ops) (order := orderS ops.length ps) (row := row) (inn := amongS ops.length ps) (k := ps.length) (ops.length - ps.length) fun j hj hjd => (hF.no j hj (by omega)).2
  rw [show ps.length + (ops.length - ps.length) = ops.length by omega, hdec] at hstay
  unfold decL
  rw [hord, hrow]
  dsimp only
  rw [hins, hoa.len, hstay]
  rfl
end Go.AX
