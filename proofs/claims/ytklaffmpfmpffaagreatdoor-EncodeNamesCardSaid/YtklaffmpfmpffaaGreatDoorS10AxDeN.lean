/-
  What a linearization plays (plain law).
  Contracts: the truths of an order, and of a row, by the document.
-/
import Derived.Test.YtklaffmpfmpffaaGreatDoorS10AxDeL
import Derived.Test.YtklaffmpfmpffaaGreatDoorS10AxMovS
import Derived.Test.YtklaffmpfmpffaaGreatDoorS10AxMovW
namespace Go.AX
open Go.Proofs

theorem pickS_zero {o : Obj} {ops : List Op5} {u : List Int} {s : Int} {p : Int × Int} (h : (pickS o ops u s p).2 = 0) :
    (0 ≤ p.1 ∧ p.1 < ops.length) ∧ p.1 ∉ u ∧ (0 ≤ s ∧ s < o.st) ∧ ∃ n, moveS o s (ops.getD p.1.toNat default).k = some (n, p.2) ∧ ((ops.getD p.1.toNat default).e = -1 ∨ (ops.getD p.1.toNat default).r = p.2) ∧ (pickS o ops u s p).1 = n := by
  unfold pickS at h ⊢
  split at h
  · cases h
  rename_i c1
  split at h
  · cases h
  rename_i c2
  rw [if_neg c1, if_neg c2]
  split at h
  · rename_i c3; exact absurd h c3
  rename_i c3
  rw [if_neg c3]
  split at h
  · cases h
  rename_i c4
  rw [if_neg c4]
  have c3' : (stepS o s (ops.getD p.1.toNat default).k p.2).2 = 0 := Decidable.of_not_not c3
  unfold stepS at c3' ⊢
  split at c3'
  · cases c3'
  rename_i c5
  rw [if_neg c5]
  cases hm : moveS o s (ops.getD p.1.toNat default).k with
  | none => rw [hm] at c3'; cases c3'
  | some q =>
    rw [hm] at c3'
    dsimp only at c3' ⊢
    split at c3'
    · rename_i c6
      rw [if_pos c6]
      refine ⟨by omega, c2, by omega, q.1, by rw [← c6], ?_, rfl⟩
      by_cases e : (ops.getD p.1.toNat default).e = -1
      · exact .inl e
      · exact .inr (Decidable.of_not_not fun hh => c4 ⟨e, hh⟩)
    · cases c3'
theorem runGo_zero {o : Obj} {ops : List Op5} {u : List Int} {i : Nat} {s : Int} {p : Int × Int} {r : List (Int × Int)} (h : (runGo o ops u i s (p :: r)).2.2 = 0) :
    (pickS o ops u s p).2 = 0 ∧ runGo o ops u i s (p :: r) = runGo o ops (u ++ [p.1]) (i + 1) (pickS o ops u s p).1 r := by
  rw [runGo] at h ⊢
  split at h
  · rename_i c; exact ⟨c, by rw [if_pos c]⟩
  · rename_i c; exact absurd h c
theorem run_nodup {o : Obj} {ops : List Op5} : ∀ (ps : List (Int × Int)) {u : List Int} {i : Nat} {s : Int}, (runGo o ops u i s ps).2.2 = 0 → u.Nodup → (u ++ tops ps).Nodup ∧ ∀ x ∈ tops ps, 0 ≤ x ∧ x < ops.length
  | [], u, _, _, _, hu => ⟨by simpa [tops] using hu, by simp [tops]⟩
  | p :: r, u, i, s, h, hu => by
    obtain ⟨h1, h2⟩ := runGo_zero h
    obtain ⟨q1, q2, _⟩ := pickS_zero h1
    rw [h2] at h
    have hu' : (u ++ [p.1]).Nodup := by
      rw [List.nodup_append]
      exact ⟨hu, List.nodup_cons.2 ⟨by simp, List.nodup_nil⟩, fun a ha b hb => by cases List.mem_singleton.1 hb; rintro rfl; exact q2 ha⟩
    obtain ⟨g1, g2⟩ := run_nodup r h hu'
    refine ⟨by simpa [tops, List.append_assoc] using g1, fun x hx => ?_⟩
    have hx' : x = p.1 ∨ x ∈ tops r := by simpa [tops] using hx
    rcases hx' with rfl | hx'
    · exact q1
    · exact g2 x hx'
theorem getLastD_snoc (out : List Int) (y : Int) : (out ++ [y]).getLastD 0 = y := by simp
theorem run_play {o : Obj} {ops : List Op5} {order : List Int} {inn : List Bool} : ∀ (ps : List (Int × Int)) {u : List Int} {i : Nat} {s : Int} {out : List Int}, (runGo o ops u i s ps).2.2 = 0 →
    (∀ j (hj : j < ps.length), order.getD (i + j) 0 = ps[j].1) → (∀ x ∈ tops ps, inn.getD x.toNat false = true) → playTo o ops order inn i = some out → out.getLastD 0 = s →
    ∃ out', playTo o ops order inn (i + ps.length) = some out' ∧ out'.getLastD 0 = (runGo o ops u i s ps).1
  | [], _, _, _, out, _, _, _, hp, hl => ⟨out, hp, hl⟩
  | p :: r, u, i, s, out, h, ho, hi, hp, hl => by
    obtain ⟨h1, h2⟩ := runGo_zero h
    obtain ⟨q1, q2, q3, n, q4, q5, q6⟩ := pickS_zero h1
    rw [h2] at h ⊢
    rw [q6] at h ⊢
    have ho0 := ho 0 (by simp)
    have hstep : playTo o ops order inn (i + 1) = some (out ++ [n]) := by
      have hin : inn.getD p.1.toNat false = true := hi p.1 (by simp [tops])
      have hm : mayS o (ops.getD p.1.toNat default) s = some n := by
        unfold mayS
        rw [q4]
        dsimp only
        rw [if_neg]
        rintro ⟨e1, e2⟩
        rcases q5 with e | e
        · exact e1 e
        · exact e2 e
      have ho1 : order.getD i 0 = p.1 := ho0
      rw [playTo, hp]
      simp only [Option.bind_some, playStep]
      rw [ho1, if_pos hin, hl, hm]
      rfl
    have := run_play r (u := u ++ [p.1]) (i := i + 1) (s := n) (out := out ++ [n]) h (fun j hj => by
      have := ho (j + 1) (by simp; omega)
      rw [show i + 1 + j = i + (j + 1) by omega, this]
      rfl) (fun x hx => hi x (by simp [tops] at hx ⊢; exact .inr hx)) hstep (getLastD_snoc out n)
    rw [show i + (p :: r).length = i + 1 + r.length by simp; omega]
    exact this
theorem stay_play {o : Obj} {ops : List Op5} {order : List Int} {inn : List Bool} {k : Nat} {out : List Int} (h0 : playTo o ops order inn k = some out) : ∀ d, (∀ j, k ≤ j → j < k + d → inn.getD (order.getD j 0).toNat false = false) → ∃ out', playTo o ops order inn (k + d) = some out' ∧ out'.getLastD 0 = out.getLastD 0
  | 0, _ => ⟨out, h0, rfl⟩
  | d + 1, h => by
    obtain ⟨out', h1, h2⟩ := stay_play h0 d fun j hj hjd => h j hj (by omega)
    refine ⟨out' ++ [out'.getLastD 0], ?_, by rw [getLastD_snoc]; exact h2⟩
    rw [show k + (d + 1) = (k + d) + 1 by omega, playTo, h1]
    simp only [Option.bind_some, playStep]
    rw [if_neg (by rw [h (k + d) (by omega) (by omega)]; simp)]
theorem orderTo_ext {N : Nat} : ∀ (l : List Int) {out : List Int}, ∃ ext, orderTo N out l = out ++ ext
  | [], out => ⟨[], by simp [orderTo]⟩
  | x :: l, out => by
    obtain ⟨e, he⟩ := orderTo_ext l (out := putO N out x) (N := N)
    show ∃ ext, orderTo N (putO N out x) l = out ++ ext
    rw [he]
    unfold putO
    split
    · exact ⟨x :: e, by simp⟩
    · exact ⟨e, rfl⟩
theorem orderTo_all {N : Nat} : ∀ (l : List Int) {out : List Int}, (∀ x ∈ l, 0 ≤ x ∧ x < N) → (out ++ l).Nodup → orderTo N out l = out ++ l
  | [], out, _, _ => by simp [orderTo]
  | x :: l, out, h, hn => by
    have hx : x ∉ out := fun hm => by
      rw [List.nodup_append] at hn
      exact hn.2.2 x hm x List.mem_cons_self rfl
    show orderTo N (putO N out x) l = _
    rw [putO_yes (h x List.mem_cons_self) hx, orderTo_all l (fun y hy => h y (List.mem_cons_of_mem _ hy)) (by simpa using hn)]
    simp
/-- Of a linearization: its order begins with the picks, and all others are behind. -/
theorem order_front {N : Nat} {ps : List (Int × Int)} (h : ∀ x ∈ tops ps, 0 ≤ x ∧ x < N) (hn : (tops ps).Nodup) : ∃ ext, orderS N ps = tops ps ++ ext := by
  unfold orderS
  rw [orderTo_all (tops ps) (out := []) h (by simpa using hn), List.nil_append]
  exact orderTo_ext _
structure WitOk (o : Obj) (ops : List Op5) (ps : List (Int × Int)) : Prop where
  obj : (objChk o).2 = 0
  opr : (chk ops).2 = 0
  ini : 0 ≤ o.ini ∧ o.ini < o.st
  run : (runGo o ops [] 0 o.ini ps).2.2 = 0
  ord : ordW ops ps < 0
  mis : missTo ops ps false ops.length = []
theorem chkW_zero {o : Obj} {ops : List Op5} {ps : List (Int × Int)} (h : (chkW o ops ps).2 = 0) : WitOk o ops ps := by
  unfold chkW at h
  split at h
  · cases h
  rename_i c1
  split at h
  · rename_i c2; exact absurd h c2
  rename_i c2
  split at h
  · cases h
  rename_i c3
  split at h
  · cases h
  rename_i c4
  have h1 : (objChk o).2 = 0 := Decidable.of_not_not fun hh => c1 (.inl hh)
  have h2 : (chk ops).2 = 0 := Decidable.of_not_not fun hh => c1 (.inr hh)
  have c2' : (fromS o ops o.ini ps).2.2 = 0 := Decidable.of_not_not c2
  unfold fromS at c2'
  rw [if_neg (fun hh => hh h1)] at c2'
  split at c2'
  · cases c2'
  rename_i c5
  exact ⟨h1, h2, by omega, c2', by omega, List.eq_nil_of_length_eq_zero (by omega)⟩
theorem miss_no {ops : List Op5} {ps : List (Int × Int)} (h : missTo ops ps false ops.length = []) {i : Nat} (hi : i < ops.length) (he : ops[i].e ≠ -1) : (i : Int) ∈ tops ps := by
  apply Classical.byContradiction
  intro hc
  have : (i : Int) ∈ missTo ops ps false ops.length := by
    unfold missTo
    refine List.mem_map.2 ⟨i, List.mem_filter.2 ⟨List.mem_range.2 hi, ?_⟩, rfl⟩
    simp [hi, he, hc]
  rw [h] at this
  cases this
theorem among_at {N : Nat} {ps : List (Int × Int)} {i : Nat} (h : i < N) : (amongS N ps).getD i false = decide ((i : Int) ∈ tops ps) := by simp [amongS, h]
@[simp] theorem amongS_length (N : Nat) (ps : List (Int × Int)) : (amongS N ps).length = N := by simp [amongS]
/-- A linearization plays. -/
theorem wit_plays {o : Obj} {ops : List Op5} {ps : List (Int × Int)} (hw : WitOk o ops ps) (hc : sizeOk (sizeP o ops).1 (sizeP o ops).2 = true) : ∃ row, playS o ops (orderS ops.length ps) (amongS ops.length ps) = some row := by
  obtain ⟨nd, rng⟩ := run_nodup ps hw.run List.nodup_nil
  rw [List.nil_append] at nd
  obtain ⟨ext, hext⟩ := order_front rng nd
  obtain ⟨of1, of2, of3⟩ := orderS_facts ops.length ps
  have oln := orderS_length ops.length ps
  have htl : (tops ps).length = ps.length := by simp [tops]
  have hps : ps.length ≤ ops.length := by
    rw [hext, List.length_append, htl] at oln
    omega
  have hpo : playOk ops (orderS ops.length ps) (amongS ops.length ps) = true := playOk_iff.2 ⟨oln, by simp, fun i hi => ⟨of3 i hi, fun he => by
    rw [among_at hi]
    refine decide_eq_true (miss_no hw.mis hi ?_)
    simpa [List.getD_eq_getElem?_getD, List.getElem?_eq_getElem hi] using he⟩⟩
  have hfr : ∀ j (hj : j < ps.length), (orderS ops.length ps).getD (0 + j) 0 = ps[j].1 := fun j hj => by
    rw [hext, Nat.zero_add, List.getD_eq_getElem?_getD, List.getElem?_append_left (by omega)]
    simp [tops, hj]
  have ham : ∀ x ∈ tops ps, (amongS ops.length ps).getD x.toNat false = true := fun x hx => by
    obtain ⟨r1, r2⟩ := rng x hx
    rw [among_at (by omega)]
    refine decide_eq_true ?_
    rw [Int.toNat_of_nonneg r1]
    exact hx
  obtain ⟨out, h1, h2⟩ := run_play ps (u := []) (i := 0) (s := o.ini) (out := [o.ini]) hw.run hfr ham rfl rfl
  rw [Nat.zero_add] at h1
  obtain ⟨out', h3, _⟩ := stay_play h1 (ops.length - ps.length) fun j hj hjd => by
    have hjl : j < (orderS ops.length ps).length := by omega
    have hg : (orderS ops.length ps).getD j 0 = (orderS ops.length ps)[j] := by rw [List.getD_eq_getElem?_getD, List.getElem?_eq_getElem hjl]; rfl
    obtain ⟨r1, r2⟩ := of1 _ (List.getElem_mem hjl)
    rw [hg, among_at (by omega)]
    refine decide_eq_false fun hm => ?_
    rw [Int.toNat_of_nonneg r1] at hm
    obtain ⟨y, hy, e⟩ := List.getElem_of_mem hm
    have hy2 : (orderS ops.length ps)[y]'(by omega) = (orderS ops.length ps)[j] := by
      rw [← e]
      have : (orderS ops.length ps)[y]? = (tops ps)[y]? := by rw [hext, List.getElem?_append_left hy]
      rw [List.getElem?_eq_getElem (by omega), List.getElem?_eq_getElem hy] at this
      exact Option.some.inj this
    have := (List.getElem_inj of2).1 hy2
    omega
  rw [show ps.length + (ops.length - ps.length) = ops.length by omega] at h3
  exact ⟨out', by unfold playS; rw [if_pos ⟨hc, hpo⟩]; exact h3⟩
/-- What is played stays among the states. -/
theorem playTo_in {o : Obj} {ops : List Op5} {order : List Int} {inn : List Bool} (ho : (objChk o).2 = 0) (hi : 0 ≤ o.ini ∧ o.ini < o.st) : ∀ {k : Nat} {out : List Int}, playTo o ops order inn k = some out → ∀ x ∈ out, 0 ≤ x ∧ x < o.st
  | 0, out, h, x, hx => by
    cases h
    cases List.mem_singleton.1 hx
    exact hi
  | k + 1, out, h, x, hx => by
    simp only [playTo, Option.bind_eq_some_iff] at h
    obtain ⟨p, hp, h⟩ := h
    have hpl := playTo_length hp
    have ih := playTo_in ho hi hp
    have hlast : 0 ≤ p.getLastD 0 ∧ p.getLastD 0 < o.st := by
      have : p ≠ [] := fun e => by rw [e] at hpl; simp at hpl
      rw [List.getLastD_eq_getLast?, List.getLast?_eq_some_getLast this]
      exact ih _ (List.getLast_mem this)
    unfold playStep at h
    split at h
    · simp only [Option.map_eq_some_iff] at h
      obtain ⟨y, hy, rfl⟩ := h
      rcases List.mem_append.1 hx with hx | hx
      · exact ih x hx
      · cases List.mem_singleton.1 hx
        exact mayS_in ho hy
    · cases h
      rcases List.mem_append.1 hx with hx | hx
      · exact ih x hx
      · cases List.mem_singleton.1 hx
        exact hlast
end Go.AX

namespace Go.AX
open Go.Proofs
set_option linter.unusedSimpArgs false

theorem mark1 {N : Nat} {m : Int} {a k : Nat} (hc : sizeOk N m = true) (ha : a < N) (hk : k < N) : markAt N m 1 a k = a * N + k := by
  have hvo : varOk N m 1 a k = true := varOk_iff.2 ⟨hc, by decide, by decide, by omega, by simp [blockTall]; omega, by omega, by simp [blockWide]; omega⟩
  unfold markAt varS
  rw [if_pos hvo]
  have : blockFrom (N : Int) 1 + (a : Int) * blockWide (N : Int) m 1 + (k : Int) + 1 - 1 = ((a * N + k : Nat) : Int) := by
    simp [blockFrom, blockWide]
  rw [this]
  rfl
theorem mark2 {N : Nat} {m : Int} {a : Nat} (hc : sizeOk N m = true) (ha : a < N) : markAt N m 2 a 0 = N * N + a := by
  have hvo : varOk N m 2 a 0 = true := varOk_iff.2 ⟨hc, by decide, by decide, by omega, by simp [blockTall]; omega, by omega, by simp [blockWide]⟩
  unfold markAt varS
  rw [if_pos hvo]
  have : blockFrom (N : Int) 2 + (a : Int) * blockWide (N : Int) m 2 + 0 + 1 - 1 = ((N * N + a : Nat) : Int) := by
    simp [blockFrom, blockWide]
  rw [this]
  rfl
theorem mark3 {N M : Nat} {a b : Nat} (hc : sizeOk N M = true) (ha : a ≤ N) (hb : b < M) : markAt N M 3 a b = N * N + N + a * M + b := by
  have hvo : varOk N M 3 a b = true := varOk_iff.2 ⟨hc, by decide, by decide, by omega, by simp [blockTall]; omega, by omega, by simp [blockWide]; omega⟩
  unfold markAt varS
  rw [if_pos hvo]
  have : blockFrom (N : Int) 3 + (a : Int) * blockWide (N : Int) (M : Int) 3 + (b : Int) + 1 - 1 = ((N * N + N + a * M + b : Nat) : Int) := by
    simp [blockFrom, blockWide]
  rw [this]
  rfl
/-- How many variables there are. -/
def varC (N M : Nat) : Nat := N * N + N + (N + 1) * M
theorem varC_eq {N M : Nat} (hc : sizeOk N M = true) : varsN N M = (varC N M : Nat) ∧ (varsN N M).toNat = varC N M ∧ N ≤ 64 ∧ M ≤ 32 ∧ N * N ≤ 4096 ∧ (N + 1) * M ≤ 2080 := by
  obtain ⟨v1, _⟩ := varsN_eq hc
  have hs := sizeOk_iff.1 hc
  have e : varsN N M = (varC N M : Nat) := by rw [v1]; unfold varC; simp
  have q1 : N ≤ 64 := by omega
  have q2 : M ≤ 32 := by omega
  exact ⟨e, by omega, q1, q2, Nat.mul_le_mul q1 q1, Nat.mul_le_mul (show N + 1 ≤ 65 by omega) q2⟩
def plF (N : Nat) (order : List Int) (j : Nat) : Bool := decide (j < N * N) && decide (order.getD (j % N) 0 = ((j / N : Nat) : Int))
def stF (N M : Nat) (row : List Int) (j : Nat) : Bool := decide (N * N + N ≤ j) && decide (row.getD ((j - (N * N + N)) / M) 0 = (((j - (N * N + N)) % M : Nat) : Int))
def plL (N M : Nat) (order : List Int) : List Bool := (List.range (varC N M)).map (plF N order)
def stL (N M : Nat) (row : List Int) : List Bool := (List.range (varC N M)).map (stF N M row)
theorem divmod {N a k : Nat} (hk : k < N) : (a * N + k) % N = k ∧ (a * N + k) / N = a := by
  constructor
  · rw [Nat.add_comm, Nat.add_mul_mod_self_right, Nat.mod_eq_of_lt hk]
  · rw [Nat.add_comm, Nat.add_mul_div_right _ _ (by omega), Nat.div_eq_of_lt hk, Nat.zero_add]
theorem lt_mul {N M a b : Nat} (ha : a < N) (hb : b < M) : a * M + b < N * M := by
  have : (a + 1) * M ≤ N * M := Nat.mul_le_mul (by omega) (Nat.le_refl _)
  rw [Nat.succ_mul] at this
  omega
theorem plL_marks {N M : Nat} {order : List Int} (hc : sizeOk N M = true) (hl : order.length = N) (hin : ∀ k, k < N → 0 ≤ order.getD k 0 ∧ order.getD k 0 < N) : marks (varsN N M).toNat (plIdx N M order order.length) = plL N M order := by
  obtain ⟨_, e, _⟩ := varC_eq hc
  rw [e]
  unfold marks plL
  apply List.map_congr_left
  intro j hj
  rw [Bool.eq_iff_iff, decide_eq_true_iff, mem_plIdx]
  unfold plF
  rw [Bool.and_eq_true, decide_eq_true_iff, decide_eq_true_iff, hl]
  constructor
  · rintro ⟨k, hk, rfl⟩
    obtain ⟨h0, h1⟩ := hin k hk
    obtain ⟨a, ha⟩ := Int.eq_ofNat_of_zero_le h0
    have han : a < N := by omega
    have ha' : order.getD k 0 = (a : Int) := ha
    rw [ha', mark1 hc han hk]
    obtain ⟨d1, d2⟩ := divmod (a := a) hk
    rw [d1, d2]
    exact ⟨lt_mul han hk, ha'⟩
  · rintro ⟨h1, h2⟩
    have hN : 0 < N := by
      apply Nat.pos_of_ne_zero
      rintro rfl
      simp at h1
    have hk : j % N < N := Nat.mod_lt _ hN
    have ha : j / N < N := Nat.div_lt_of_lt_mul h1
    refine ⟨j % N, hk, ?_⟩
    rw [h2, mark1 hc ha hk, Nat.mul_comm, Nat.div_add_mod]
theorem stL_marks {N M : Nat} {row : List Int} (hc : sizeOk N M = true) (hl : row.length = N + 1) (hin : ∀ k, k < N + 1 → 0 ≤ row.getD k 0 ∧ row.getD k 0 < M) : marks (varsN N M).toNat (stIdx N M row row.length) = stL N M row := by
  obtain ⟨_, e, _⟩ := varC_eq hc
  have hs := sizeOk_iff.1 hc
  rw [e]
  unfold marks stL
  apply List.map_congr_left
  intro j hj
  have hj := List.mem_range.1 hj
  rw [Bool.eq_iff_iff, decide_eq_true_iff, mem_stIdx]
  unfold stF
  rw [Bool.and_eq_true, decide_eq_true_iff, decide_eq_true_iff, hl]
  constructor
  · rintro ⟨k, hk, rfl⟩
    obtain ⟨h0, h1⟩ := hin k hk
    obtain ⟨b, hb⟩ := Int.eq_ofNat_of_zero_le h0
    have hbm : b < M := by omega
    have hb' : row.getD k 0 = (b : Int) := hb
    rw [hb', mark3 hc (by omega) hbm]
    obtain ⟨d1, d2⟩ := divmod (a := k) hbm
    rw [show N * N + N + k * M + b - (N * N + N) = k * M + b by omega, d1, d2]
    exact ⟨by omega, hb'⟩
  · rintro ⟨h1, h2⟩
    have hM : 0 < M := by omega
    have hb : (j - (N * N + N)) % M < M := Nat.mod_lt _ hM
    have hk : (j - (N * N + N)) / M < N + 1 := Nat.div_lt_of_lt_mul (by have e : M * (N + 1) = (N + 1) * M := Nat.mul_comm _ _; unfold varC at hj; omega)
    refine ⟨(j - (N * N + N)) / M, hk, ?_⟩
    rw [h2, mark3 hc (by omega) hb]
    have := Nat.div_add_mod (j - (N * N + N)) M
    rw [Nat.mul_comm] at this
    omega
theorem plL_len (N M : Nat) (order : List Int) : (plL N M order).length = varC N M := by simp [plL]
theorem stL_len (N M : Nat) (row : List Int) : (stL N M row).length = varC N M := by simp [stL]
theorem plL_take {N M : Nat} {order : List Int} {j : Nat} (h : j < varC N M) : (plL N M order).take (j + 1) = (plL N M order).take j ++ [plF N order j] := by
  rw [← List.take_append_getElem (by rw [plL_len]; exact h)]
  simp [plL]
theorem stL_take {N M : Nat} {row : List Int} {j : Nat} (h : j < varC N M) : (stL N M row).take (j + 1) = (stL N M row).take j ++ [stF N M row j] := by
  rw [← List.take_append_getElem (by rw [stL_len]; exact h)]
  simp [stL]
/-- An order of all. -/
structure OrdAll (N : Nat) (order : List Int) : Prop where
  len : order.length = N
  rng : ∀ x ∈ order, 0 ≤ x ∧ x < N
  nd : order.Nodup
theorem OrdAll.at' {N : Nat} {order : List Int} (h : OrdAll N order) {k : Nat} (hk : k < N) : 0 ≤ order.getD k 0 ∧ order.getD k 0 < N := by
  have hk' : k < order.length := by rw [h.len]; exact hk
  rw [List.getD_eq_getElem?_getD, List.getElem?_eq_getElem hk']
  exact h.rng _ (List.getElem_mem hk')
theorem OrdAll.place {N : Nat} {order : List Int} (h : OrdAll N order) {a : Nat} (ha : a < N) : ∃ k, ∃ hk : k < order.length, order[k] = (a : Int) ∧ ∀ j (hj : j < order.length), order[j] = (a : Int) → j = k := by
  obtain ⟨k, hk, e⟩ := List.getElem_of_mem (nodup_all h.len h.rng h.nd a ha)
  exact ⟨k, hk, e, fun j hj e2 => (List.getElem_inj h.nd).1 (e2.trans e.symm)⟩
end Go.AX
