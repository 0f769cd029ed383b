/-
  What a linearization plays (plain law).
  Contracts: the truths of an order, and of a row, by the document.
  Contracts: the truths of picks.
  The probe of layer 38.
  The law's contract: DecodeTells.
-/
import Derived.Test.YtpalffhlfegeeaaGreatS8AxDeL
import Derived.Test.YtpalffhlfegeeaaGreatS8AxMovS
import Derived.Test.YtpalffhlfegeeaaGreatS8AxMovW
import Derived.Test.YtpalffhlfegeeaaGreatAxX
import Derived.Test.YtpalffhlfegeeaaGreatS8AxMovO
namespace Go.AX
open Go.Proofs

theorem pickS_zero {o : Obj} {ops : List Op5} {u : List Int} {s : Int} {p : Int × Int} (h : (pickS o ops u s p).2 = 0) :
    (0 ≤ p.1 ∧ p.1 < ops.length) ∧ p.1 ∉ u ∧ (0 ≤ s ∧ s < o.st) ∧ ∃ n, moveS o s (ops.getD p.1.toNat default).k = some (n, p.2) ∧ ((ops.getD p.1.toNat default).e = -1 ∨ (ops.getD p.1.toNat default).r = p.2) ∧ (pickS o ops u s p).1 = n := by
  unfold pickS at h ⊢
  split at h
  · cases h
  rename_i c1
  split at h
  · cases h
  rename_i c2
  rw [if_neg c1, if_neg c2]
  split at h
  · rename_i c3; exact absurd h c3
  rename_i c3
  rw [if_neg c3]
  split at h
  · cases h
  rename_i c4
  rw [if_neg c4]
  have c3' : (stepS o s (ops.getD p.1.toNat default).k p.2).2 = 0 := Decidable.of_not_not c3
  unfold stepS at c3' ⊢
  split at c3'
  · cases c3'
  rename_i c5
  rw [if_neg c5]
  cases hm : moveS o s (ops.getD p.1.toNat default).k with
  | none => rw [hm] at c3'; cases c3'
  | some q =>
    rw [hm] at c3'
    dsimp only at c3' ⊢
    split at c3'
    · rename_i c6
      rw [if_pos c6]
      refine ⟨by omega, c2, by omega, q.1, by rw [← c6], ?_, rfl⟩
      by_cases e : (ops.getD p.1.toNat default).e = -1
      · exact .inl e
      · exact .inr (Decidable.of_not_not fun hh => c4 ⟨e, hh⟩)
    · cases c3'
theorem runGo_zero {o : Obj} {ops : List Op5} {u : List Int} {i : Nat} {s : Int} {p : Int × Int} {r : List (Int × Int)} (h : (runGo o ops u i s (p :: r)).2.2 = 0) :
    (pickS o ops u s p).2 = 0 ∧ runGo o ops u i s (p :: r) = runGo o ops (u ++ [p.1]) (i + 1) (pickS o ops u s p).1 r := by
  rw [runGo] at h ⊢
  split at h
  · rename_i c; exact ⟨c, by rw [if_pos c]⟩
  · rename_i c; exact absurd h c
theorem run_nodup {o : Obj} {ops : List Op5} : ∀ (ps : List (Int × Int)) {u : List Int} {i : Nat} {s : Int}, (runGo o ops u i s ps).2.2 = 0 → u.Nodup → (u ++ tops ps).Nodup ∧ ∀ x ∈ tops ps, 0 ≤ x ∧ x < ops.length
  | [], u, _, _, _, hu => ⟨by simpa [tops] using hu, by simp [tops]⟩
  | p :: r, u, i, s, h, hu => by
    obtain ⟨h1, h2⟩ := runGo_zero h
    obtain ⟨q1, q2, _⟩ := pickS_zero h1
    rw [h2] at h
    have hu' : (u ++ [p.1]).Nodup := by
      rw [List.nodup_append]
      exact ⟨hu, List.nodup_cons.2 ⟨by simp, List.nodup_nil⟩, fun a ha b hb => by cases List.mem_singleton.1 hb; rintro rfl; exact q2 ha⟩
    obtain ⟨g1, g2⟩ := run_nodup r h hu'
    refine ⟨by simpa [tops, List.append_assoc] using g1, fun x hx => ?_⟩
    have hx' : x = p.1 ∨ x ∈ tops r := by simpa [tops] using hx
    rcases hx' with rfl | hx'
    · exact q1
    · exact g2 x hx'
theorem getLastD_snoc (out : List Int) (y : Int) : (out ++ [y]).getLastD 0 = y := by simp
theorem run_play {o : Obj} {ops : List Op5} {order : List Int} {inn : List Bool} : ∀ (ps : List (Int × Int)) {u : List Int} {i : Nat} {s : Int} {out : List Int}, (runGo o ops u i s ps).2.2 = 0 →
    (∀ j (hj : j < ps.length), order.getD (i + j) 0 = ps[j].1) → (∀ x ∈ tops ps, inn.getD x.toNat false = true) → playTo o ops order inn i = some out → out.getLastD 0 = s →
    ∃ out', playTo o ops order inn (i + ps.length) = some out' ∧ out'.getLastD 0 = (runGo o ops u i s ps).1
  | [], _, _, _, out, _, _, _, hp, hl => ⟨out, hp, hl⟩
  | p :: r, u, i, s, out, h, ho, hi, hp, hl => by
    obtain ⟨h1, h2⟩ := runGo_zero h
    obtain ⟨q1, q2, q3, n, q4, q5, q6⟩ := pickS_zero h1
    rw [h2] at h ⊢
    rw [q6] at h ⊢
    have ho0 := ho 0 (by simp)
    have hstep : playTo o ops order inn (i + 1) = some (out ++ [n]) := by
      have hin : inn.getD p.1.toNat false = true := hi p.1 (by simp [tops])
      have hm : mayS o (ops.getD p.1.toNat default) s = some n := by
        unfold mayS
        rw [q4]
        dsimp only
        rw [if_neg]
        rintro ⟨e1, e2⟩
        rcases q5 with e | e
        · exact e1 e
        · exact e2 e
      have ho1 : order.getD i 0 = p.1 := ho0
      rw [playTo, hp]
      simp only [Option.bind_some, playStep]
      rw [ho1, if_pos hin, hl, hm]
      rfl
    have := run_play r (u := u ++ [p.1]) (i := i + 1) (s := n) (out := out ++ [n]) h (fun j hj => by
      have := ho (j + 1) (by simp; omega)
      rw [show i + 1 + j = i + (j + 1) by omega, this]
      rfl) (fun x hx => hi x (by simp [tops] at hx ⊢; exact .inr hx)) hstep (getLastD_snoc out n)
    rw [show i + (p :: r).length = i + 1 + r.length by simp; omega]
    exact this
theorem stay_play {o : Obj} {ops : List Op5} {order : List Int} {inn : List Bool} {k : Nat} {out : List Int} (h0 : playTo o ops order inn k = some out) : ∀ d, (∀ j, k ≤ j → j < k + d → inn.getD (order.getD j 0).toNat false = false) → ∃ out', playTo o ops order inn (k + d) = some out' ∧ out'.getLastD 0 = out.getLastD 0
  | 0, _ => ⟨out, h0, rfl⟩
  | d + 1, h => by
    obtain ⟨out', h1, h2⟩ := stay_play h0 d fun j hj hjd => h j hj (by omega)
    refine ⟨out' ++ [out'.getLastD 0], ?_, by rw [getLastD_snoc]; exact h2⟩
    rw [show k + (d + 1) = (k + d) + 1 by omega, playTo, h1]
    simp only [Option.bind_some, playStep]
    rw [if_neg (by rw [h (k + d) (by omega) (by omega)]; simp)]
theorem orderTo_ext {N : Nat} : ∀ (l : List Int) {out : List Int}, ∃ ext, orderTo N out l = out ++ ext
  | [], out => ⟨[], by simp [orderTo]⟩
  | x :: l, out => by
    obtain ⟨e, he⟩ := orderTo_ext l (out := putO N out x) (N := N)
    show ∃ ext, orderTo N (putO N out x) l = out ++ ext
    rw [he]
    unfold putO
    split
    · exact ⟨x :: e, by simp⟩
    · exact ⟨e, rfl⟩
theorem orderTo_all {N : Nat} : ∀ (l : List Int) {out : List Int}, (∀ x ∈ l, 0 ≤ x ∧ x < N) → (out ++ l).Nodup → orderTo N out l = out ++ l
  | [], out, _, _ => by simp [orderTo]
  | x :: l, out, h, hn => by
    have hx : x ∉ out := fun hm => by
      rw [List.nodup_append] at hn
      exact hn.2.2 x hm x List.mem_cons_self rfl
    show orderTo N (putO N out x) l = _
    rw [putO_yes (h x List.mem_cons_self) hx, orderTo_all l (fun y hy => h y (List.mem_cons_of_mem _ hy)) (by simpa using hn)]
    simp
/-- Of a linearization: its order begins with the picks, and all others are behind. -/
theorem order_front {N : Nat} {ps : List (Int × Int)} (h : ∀ x ∈ tops ps, 0 ≤ x ∧ x < N) (hn : (tops ps).Nodup) : ∃ ext, orderS N ps = tops ps ++ ext := by
  unfold orderS
  rw [orderTo_all (tops ps) (out := []) h (by simpa using hn), List.nil_append]
  exact orderTo_ext _
structure WitOk (o : Obj) (ops : List Op5) (ps : List (Int × Int)) : Prop where
  obj : (objChk o).2 = 0
  opr : (chk ops).2 = 0
  ini : 0 ≤ o.ini ∧ o.ini < o.st
  run : (runGo o ops [] 0 o.ini ps).2.2 = 0
  ord : ordW ops ps < 0
  mis : missTo ops ps false ops.length = []
theorem chkW_zero {o : Obj} {ops : List Op5} {ps : List (Int × Int)} (h : (chkW o ops ps).2 = 0) : WitOk o ops ps := by
  unfold chkW at h
  split at h
  · cases h
  rename_i c1
  split at h
  · rename_i c2; exact absurd h c2
  rename_i c2
  split at h
  · cases h
  rename_i c3
  split at h
  · cases h
  rename_i c4
  have h1 : (objChk o).2 = 0 := Decidable.of_not_not fun hh => c1 (.inl hh)
  have h2 : (chk ops).2 = 0 := Decidable.of_not_not fun hh => c1 (.inr hh)
  have c2' : (fromS o ops o.ini ps).2.2 = 0 := Decidable.of_not_not c2
  unfold fromS at c2'
  rw [if_neg (fun hh => hh h1)] at c2'
  split at c2'
  · cases c2'
  rename_i c5
  exact ⟨h1, h2, by omega, c2', by omega, List.eq_nil_of_length_eq_zero (by omega)⟩
theorem miss_no {ops : List Op5} {ps : List (Int × Int)} (h : missTo ops ps false ops.length = []) {i : Nat} (hi : i < ops.length) (he : ops[i].e ≠ -1) : (i : Int) ∈ tops ps := by
  apply Classical.byContradiction
  intro hc
  have : (i : Int) ∈ missTo ops ps false ops.length := by
    unfold missTo
    refine List.mem_map.2 ⟨i, List.mem_filter.2 ⟨List.mem_range.2 hi, ?_⟩, rfl⟩
    simp [hi, he, hc]
  rw [h] at this
  cases this
theorem among_at {N : Nat} {ps : List (Int × Int)} {i : Nat} (h : i < N) : (amongS N ps).getD i false = decide ((i : Int) ∈ tops ps) := by simp [amongS, h]
@[simp] theorem amongS_length (N : Nat) (ps : List (Int × Int)) : (amongS N ps).length = N := by simp [amongS]
/-- A linearization plays. -/
theorem wit_plays {o : Obj} {ops : List Op5} {ps : List (Int × Int)} (hw : WitOk o ops ps) (hc : sizeOk (sizeP o ops).1 (sizeP o ops).2 = true) : ∃ row, playS o ops (orderS ops.length ps) (amongS ops.length ps) = some row := by
  obtain ⟨nd, rng⟩ := run_nodup ps hw.run List.nodup_nil
  rw [List.nil_append] at nd
  obtain ⟨ext, hext⟩ := order_front rng nd
  obtain ⟨of1, of2, of3⟩ := orderS_facts ops.length ps
  have oln := orderS_length ops.length ps
  have htl : (tops ps).length = ps.length := by simp [tops]
  have hps : ps.length ≤ ops.length := by
    rw [hext, List.length_append, htl] at oln
    omega
  have hpo : playOk ops (orderS ops.length ps) (amongS ops.length ps) = true := playOk_iff.2 ⟨oln, by simp, fun i hi => ⟨of3 i hi, fun he => by
    rw [among_at hi]
    refine decide_eq_true (miss_no hw.mis hi ?_)
    simpa [List.getD_eq_getElem?_getD, List.getElem?_eq_getElem hi] using he⟩⟩
  have hfr : ∀ j (hj : j < ps.length), (orderS ops.length ps).getD (0 + j) 0 = ps[j].1 := fun j hj => by
    rw [hext, Nat.zero_add, List.getD_eq_getElem?_getD, List.getElem?_append_left (by omega)]
    simp [tops, hj]
  have ham : ∀ x ∈ tops ps, (amongS ops.length ps).getD x.toNat false = true := fun x hx => by
    obtain ⟨r1, r2⟩ := rng x hx
    rw [among_at (by omega)]
    refine decide_eq_true ?_
    rw [Int.toNat_of_nonneg r1]
    exact hx
  obtain ⟨out, h1, h2⟩ := run_play ps (u := []) (i := 0) (s := o.ini) (out := [o.ini]) hw.run hfr ham rfl rfl
  rw [Nat.zero_add] at h1
  obtain ⟨out', h3, _⟩ := stay_play h1 (ops.length - ps.length) fun j hj hjd => by
    have hjl : j < (orderS ops.length ps).length := by omega
    have hg : (orderS ops.length ps).getD j 0 = (orderS ops.length ps)[j] := by rw [List.getD_eq_getElem?_getD, List.getElem?_eq_getElem hjl]; rfl
    obtain ⟨r1, r2⟩ := of1 _ (List.getElem_mem hjl)
    rw [hg, among_at (by omega)]
    refine decide_eq_false fun hm => ?_
    rw [Int.toNat_of_nonneg r1] at hm
    obtain ⟨y, hy, e⟩ := List.getElem_of_mem hm
    have hy2 : (orderS ops.length ps)[y]'(by omega) = (orderS ops.length ps)[j] := by
      rw [← e]
      have : (orderS ops.length ps)[y]? = (tops ps)[y]? := by rw [hext, List.getElem?_append_left hy]
      rw [List.getElem?_eq_getElem (by omega), List.getElem?_eq_getElem hy] at this
      exact Option.some.inj this
    have := (List.getElem_inj of2).1 hy2
    omega
  rw [show ps.length + (ops.length - ps.length) = ops.length by omega] at h3
  exact ⟨out', by unfold playS; rw [if_pos ⟨hc, hpo⟩]; exact h3⟩
/-- What is played stays among the states. -/
theorem playTo_in {o : Obj} {ops : List Op5} {order : List Int} {inn : List Bool} (ho : (objChk o).2 = 0) (hi : 0 ≤ o.ini ∧ o.ini < o.st) : ∀ {k : Nat} {out : List Int}, playTo o ops order inn k = some out → ∀ x ∈ out, 0 ≤ x ∧ x < o.st
  | 0, out, h, x, hx => by
    cases h
    cases List.mem_singleton.1 hx
    exact hi
  | k + 1, out, h, x, hx => by
    simp only [playTo, Option.bind_eq_some_iff] at h
    obtain ⟨p, hp, h⟩ := h
    have hpl := playTo_length hp
    have ih := playTo_in ho hi hp
    have hlast : 0 ≤ p.getLastD 0 ∧ p.getLastD 0 < o.st := by
      have : p ≠ [] := fun e => by rw [e] at hpl; simp at hpl
      rw [List.getLastD_eq_getLast?, List.getLast?_eq_some_getLast this]
      exact ih _ (List.getLast_mem this)
    unfold playStep at h
    split at h
    · simp only [Option.map_eq_some_iff] at h
      obtain ⟨y, hy, rfl⟩ := h
      rcases List.mem_append.1 hx with hx | hx
      · exact ih x hx
      · cases List.mem_singleton.1 hx
        exact mayS_in ho hy
    · cases h
      rcases List.mem_append.1 hx with hx | hx
      · exact ih x hx
      · cases List.mem_singleton.1 hx
        exact hlast
end Go.AX

namespace Go.AX
open Go.Proofs
set_option linter.unusedSimpArgs false

theorem mark1 {N : Nat} {m : Int} {a k : Nat} (hc : sizeOk N m = true) (ha : a < N) (hk : k < N) : markAt N m 1 a k = a * N + k := by
  have hvo : varOk N m 1 a k = true := varOk_iff.2 ⟨hc, by decide, by decide, by omega, by simp [blockTall]; omega, by omega, by simp [blockWide]; omega⟩
  unfold markAt varS
  rw [if_pos hvo]
  have : blockFrom (N : Int) 1 + (a : Int) * blockWide (N : Int) m 1 + (k : Int) + 1 - 1 = ((a * N + k : Nat) : Int) := by
    simp [blockFrom, blockWide]
  rw [this]
  rfl
theorem mark2 {N : Nat} {m : Int} {a : Nat} (hc : sizeOk N m = true) (ha : a < N) : markAt N m 2 a 0 = N * N + a := by
  have hvo : varOk N m 2 a 0 = true := varOk_iff.2 ⟨hc, by decide, by decide, by omega, by simp [blockTall]; omega, by omega, by simp [blockWide]⟩
  unfold markAt varS
  rw [if_pos hvo]
  have : blockFrom (N : Int) 2 + (a : Int) * blockWide (N : Int) m 2 + 0 + 1 - 1 = ((N * N + a : Nat) : Int) := by
    simp [blockFrom, blockWide]
  rw [this]
  rfl
theorem mark3 {N M : Nat} {a b : Nat} (hc : sizeOk N M = true) (ha : a ≤ N) (hb : b < M) : markAt N M 3 a b = N * N + N + a * M + b := by
  have hvo : varOk N M 3 a b = true := varOk_iff.2 ⟨hc, by decide, by decide, by omega, by simp [blockTall]; omega, by omega, by simp [blockWide]; omega⟩
  unfold markAt varS
  rw [if_pos hvo]
  have : blockFrom (N : Int) 3 + (a : Int) * blockWide (N : Int) (M : Int) 3 + (b : Int) + 1 - 1 = ((N * N + N + a * M + b : Nat) : Int) := by
    simp [blockFrom, blockWide]
  rw [this]
  rfl
/-- How many variables there are. -/
def varC (N M : Nat) : Nat := N * N + N + (N + 1) * M
theorem varC_eq {N M : Nat} (hc : sizeOk N M = true) : varsN N M = (varC N M : Nat) ∧ (varsN N M).toNat = varC N M ∧ N ≤ 64 ∧ M ≤ 32 ∧ N * N ≤ 4096 ∧ (N + 1) * M ≤ 2080 := by
  obtain ⟨v1, _⟩ := varsN_eq hc
  have hs := sizeOk_iff.1 hc
  have e : varsN N M = (varC N M : Nat) := by rw [v1]; unfold varC; simp
  have q1 : N ≤ 64 := by omega
  have q2 : M ≤ 32 := by omega
  exact ⟨e, by omega, q1, q2, Nat.mul_le_mul q1 q1, Nat.mul_le_mul (show N + 1 ≤ 65 by omega) q2⟩
def plF (N : Nat) (order : List Int) (j : Nat) : Bool := decide (j < N * N) && decide (order.getD (j % N) 0 = ((j / N : Nat) : Int))
def stF (N M : Nat) (row : List Int) (j : Nat) : Bool := decide (N * N + N ≤ j) && decide (row.getD ((j - (N * N + N)) / M) 0 = (((j - (N * N + N)) % M : Nat) : Int))
def plL (N M : Nat) (order : List Int) : List Bool := (List.range (varC N M)).map (plF N order)
def stL (N M : Nat) (row : List Int) : List Bool := (List.range (varC N M)).map (stF N M row)
theorem divmod {N a k : Nat} (hk : k < N) : (a * N + k) % N = k ∧ (a * N + k) / N = a := by
  constructor
  · rw [Nat.add_comm, Nat.add_mul_mod_self_right, Nat.mod_eq_of_lt hk]
  · rw [Nat.add_comm, Nat.add_mul_div_right _ _ (by omega), Nat.div_eq_of_lt hk, Nat.zero_add]
theorem lt_mul {N M a b : Nat} (ha : a < N) (hb : b < M) : a * M + b < N * M := by
  have : (a + 1) * M ≤ N * M := Nat.mul_le_mul (by omega) (Nat.le_refl _)
  rw [Nat.succ_mul] at this
  omega
theorem plL_marks {N M : Nat} {order : List Int} (hc : sizeOk N M = true) (hl : order.length = N) (hin : ∀ k, k < N → 0 ≤ order.getD k 0 ∧ order.getD k 0 < N) : marks (varsN N M).toNat (plIdx N M order order.length) = plL N M order := by
  obtain ⟨_, e, _⟩ := varC_eq hc
  rw [e]
  unfold marks plL
  apply List.map_congr_left
  intro j hj
  rw [Bool.eq_iff_iff, decide_eq_true_iff, mem_plIdx]
  unfold plF
  rw [Bool.and_eq_true, decide_eq_true_iff, decide_eq_true_iff, hl]
  constructor
  · rintro ⟨k, hk, rfl⟩
    obtain ⟨h0, h1⟩ := hin k hk
    obtain ⟨a, ha⟩ := Int.eq_ofNat_of_zero_le h0
    have han : a < N := by omega
    have ha' : order.getD k 0 = (a : Int) := ha
    rw [ha', mark1 hc han hk]
    obtain ⟨d1, d2⟩ := divmod (a := a) hk
    rw [d1, d2]
    exact ⟨lt_mul han hk, ha'⟩
  · rintro ⟨h1, h2⟩
    have hN : 0 < N := by
      apply Nat.pos_of_ne_zero
      rintro rfl
      simp at h1
    have hk : j % N < N := Nat.mod_lt _ hN
    have ha : j / N < N := Nat.div_lt_of_lt_mul h1
    refine ⟨j % N, hk, ?_⟩
    rw [h2, mark1 hc ha hk, Nat.mul_comm, Nat.div_add_mod]
theorem stL_marks {N M : Nat} {row : List Int} (hc : sizeOk N M = true) (hl : row.length = N + 1) (hin : ∀ k, k < N + 1 → 0 ≤ row.getD k 0 ∧ row.getD k 0 < M) : marks (varsN N M).toNat (stIdx N M row row.length) = stL N M row := by
  obtain ⟨_, e, _⟩ := varC_eq hc
  have hs := sizeOk_iff.1 hc
  rw [e]
  unfold marks stL
  apply List.map_congr_left
  intro j hj
  have hj := List.mem_range.1 hj
  rw [Bool.eq_iff_iff, decide_eq_true_iff, mem_stIdx]
  unfold stF
  rw [Bool.and_eq_true, decide_eq_true_iff, decide_eq_true_iff, hl]
  constructor
  · rintro ⟨k, hk, rfl⟩
    obtain ⟨h0, h1⟩ := hin k hk
    obtain ⟨b, hb⟩ := Int.eq_ofNat_of_zero_le h0
    have hbm : b < M := by omega
    have hb' : row.getD k 0 = (b : Int) := hb
    rw [hb', mark3 hc (by omega) hbm]
    obtain ⟨d1, d2⟩ := divmod (a := k) hbm
    rw [show N * N + N + k * M + b - (N * N + N) = k * M + b by omega, d1, d2]
    exact ⟨by omega, hb'⟩
  · rintro ⟨h1, h2⟩
    have hM : 0 < M := by omega
    have hb : (j - (N * N + N)) % M < M := Nat.mod_lt _ hM
    have hk : (j - (N * N + N)) / M < N + 1 := Nat.div_lt_of_lt_mul (by have e : M * (N + 1) = (N + 1) * M := Nat.mul_comm _ _; unfold varC at hj; omega)
    refine ⟨(j - (N * N + N)) / M, hk, ?_⟩
    rw [h2, mark3 hc (by omega) hb]
    have := Nat.div_add_mod (j - (N * N + N)) M
    rw [Nat.mul_comm] at this
    omega
theorem plL_len (N M : Nat) (order : List Int) : (plL N M order).length = varC N M := by simp [plL]
theorem stL_len (N M : Nat) (row : List Int) : (stL N M row).length = varC N M := by simp [stL]
theorem plL_take {N M : Nat} {order : List Int} {j : Nat} (h : j < varC N M) : (plL N M order).take (j + 1) = (plL N M order).take j ++ [plF N order j] := by
  rw [← List.take_append_getElem (by rw [plL_len]; exact h)]
  simp [plL]
theorem stL_take {N M : Nat} {row : List Int} {j : Nat} (h : j < varC N M) : (stL N M row).take (j + 1) = (stL N M row).take j ++ [stF N M row j] := by
  rw [← List.take_append_getElem (by rw [stL_len]; exact h)]
  simp [stL]
/-- An order of all. -/
structure OrdAll (N : Nat) (order : List Int) : Prop where
  len : order.length = N
  rng : ∀ x ∈ order, 0 ≤ x ∧ x < N
  nd : order.Nodup
theorem OrdAll.at' {N : Nat} {order : List Int} (h : OrdAll N order) {k : Nat} (hk : k < N) : 0 ≤ order.getD k 0 ∧ order.getD k 0 < N := by
  have hk' : k < order.length := by rw [h.len]; exact hk
  rw [List.getD_eq_getElem?_getD, List.getElem?_eq_getElem hk']
  exact h.rng _ (List.getElem_mem hk')
theorem OrdAll.place {N : Nat} {order : List Int} (h : OrdAll N order) {a : Nat} (ha : a < N) : ∃ k, ∃ hk : k < order.length, order[k] = (a : Int) ∧ ∀ j (hj : j < order.length), order[j] = (a : Int) → j = k := by
  obtain ⟨k, hk, e⟩ := List.getElem_of_mem (nodup_all h.len h.rng h.nd a ha)
  exact ⟨k, hk, e, fun j hj e2 => (List.getElem_inj h.nd).1 (e2.trans e.symm)⟩
set_option maxRecDepth 16000 in
theorem refPl_ok (N M : Nat) (order : List Int) (hc : sizeOk N M = true) (ho : OrdAll N order) : APure Tryz.prog 42 [I64 N, I64 M, .seq false 1 (irow order)] (fun r => r = .pv (.tup [.seq true 1 (brow (plL N M order)), BL true])) := by
  refine apureN [6, 7] hmo Tryz.func42 (by kernel_rfl) rfl (fun _ _ => results_tmp2 rfl _ _ _) (by kernel_rfl) (Nat.le_of_ble_eq_true rfl) ?_
  obtain ⟨_, _, n1, n2, n3, n4⟩ := varC_eq hc
  have hV : varC N M = N * N + N + (N + 1) * M := rfl
  have hol : (order.length : Int) = (N : Int) := by rw [ho.len]
  have holn := ho.len
  have hpl := plL_len N M order
  simp
  refine CallK.intro (refCheck_ok _ _) (by simp) ?_
  simp [hc, hol]
  refine ALoop.intro (S := fun (a : Nat) => ⟨[(0, .pv (I64 N)), (1, .pv (I64 M)), (2, .pv (.seq false 1 (irow order))), (8, .own true 1 (brow ((plL N M order).take (a * N)))), (9, .pv (I64 a))], []⟩) (fun a => a ≤ N) (fun a => N - a) 0 ?_ (Nat.zero_le _) ?_
  · exact (Weak.nilOwn (s := 8) 1 true (by simp)).trans (Weak.to (by simp [brow]) (by simp) (by simp) (by simp) (by simp))
  intro a ha
  by_cases hlt : a < N
  · have hw : w64 ((a : Int) + 1) = ((a + 1 : Nat) : Int) := by rw [w64_id (by omega) (by omega)]; omega
    obtain ⟨p, hp, hpe, hpu⟩ := ho.place hlt
    simp [hlt]
    refine ALoop.intro (S := fun (k : Nat) => ⟨[(0, .pv (I64 N)), (1, .pv (I64 M)), (2, .pv (.seq false 1 (irow order))), (8, .own true 1 (brow ((plL N M order).take (a * N)))), (9, .pv (I64 a)), (10, .pv (I64 (if p < k then (p : Int) else -1))), (11, .pv (I64 k))], []⟩) (fun k => k ≤ N) (fun k => N - k) 0 ?_ (Nat.zero_le _) ?_
    · exact Weak.to (by simp) (by simp) (by simp) (by simp) (by simp)
    intro k hk
    by_cases hkl : k < N
    · have hw1 : w64 ((k : Int) + 1) = ((k + 1 : Nat) : Int) := by rw [w64_id (by omega) (by omega)]; omega
      have hko : k < order.length := by omega
      by_cases e : order[k] = (a : Int)
      · have hkp := hpu k hko e
        subst hkp
        simp [hkl, hko, e]
        exact ⟨k + 1, by (try dsimp only); omega, by (try dsimp only); omega, Weak.to (by simp [hw1]) (by simp) (by simp) (by simp) (by simp)⟩
      · have hkp : ¬ k = p := fun h => e (by subst h; exact hpe)
        have hif : (if p < k + 1 then (p : Int) else -1) = if p < k then (p : Int) else -1 := by
          by_cases c : p < k
          · rw [if_pos c, if_pos (by omega)]
          · rw [if_neg c, if_neg (by omega)]
        simp [hkl, hko, e]
        exact ⟨k + 1, by (try dsimp only); omega, by (try dsimp only); omega, Weak.to (by simp [hw1, hif]) (by simp) (by simp) (by simp) (by simp)⟩
    have hke : k = N := by omega
    subst hke
    have hpk : p < k := by omega
    have hp0 : ¬ (p : Int) < 0 := by omega
    simp [hpk, hp0]
    refine ALoop.intro (S := fun (j : Nat) => ⟨[(0, .pv (I64 k)), (1, .pv (I64 M)), (2, .pv (.seq false 1 (irow order))), (8, .own true 1 (brow ((plL k M order).take (a * k + j)))), (9, .pv (I64 a)), (10, .pv (I64 p)), (12, .pv (I64 j))], []⟩) (fun j => j ≤ k) (fun j => k - j) 0 ?_ (Nat.zero_le _) ?_
    · exact Weak.to (by simp) (by simp) (by simp) (by simp) (by simp)
    intro j hj
    by_cases hjk : j < k
    · have hw2 : w64 ((j : Int) + 1) = ((j + 1 : Nat) : Int) := by rw [w64_id (by omega) (by omega)]; omega
      have hlm := lt_mul hlt hjk
      have htk := plL_take (N := k) (M := M) (order := order) (j := a * k + j) (by omega)
      have hjo : j < order.length := by omega
      have hgj : order.getD j 0 = order[j] := by rw [List.getD_eq_getElem?_getD, List.getElem?_eq_getElem hjo]; rfl
      have hF : plF k order (a * k + j) = decide (j = p) := by
        obtain ⟨d1, d2⟩ := divmod (a := a) hjk
        unfold plF
        rw [decide_eq_true hlm, Bool.true_and, d1, d2, hgj, Bool.eq_iff_iff, decide_eq_true_iff, decide_eq_true_iff]
        exact ⟨hpu j hjo, fun h => by subst h; exact hpe⟩
      rw [hF] at htk
      have hmin : min (a * k + j) (plL k M order).length = a * k + j := by omega
      simp [hjk, hmin]
      refine ⟨by omega, j + 1, by (try dsimp only); omega, by (try dsimp only); omega, Weak.to ?_ (by simp) (by simp) (by simp) (by simp)⟩
      simp [hw2]
      rw [← Nat.add_assoc, htk]
      simp [brow]
      try omega
    · have hje : j = k := by omega
      subst hje
      simp
      exact ⟨a + 1, by (try dsimp only); omega, by (try dsimp only); omega, Weak.to (by simp [hw, Nat.succ_mul]) (by simp) (by simp) (by simp) (by simp)⟩
  have hae : a = N := by omega
  subst hae
  have w1 : w64 ((a : Int) + 1) = (a : Int) + 1 := w64_id (by omega) (by omega)
  have hcast : (((a + 1) * M : Nat) : Int) = ((a : Int) + 1) * (M : Int) := by simp
  have w2 : w64 (((a : Int) + 1) * (M : Int)) = ((a + 1) * M : Nat) := by rw [← hcast, w64_id (by omega) (by omega)]
  have w3 : w64 ((a : Int) + ((a + 1) * M : Nat)) = ((a + (a + 1) * M : Nat) : Int) := by rw [w64_id (by omega) (by omega)]; omega
  simp
  refine ALoop.intro (S := fun (i : Nat) => ⟨[(0, .pv (I64 a)), (1, .pv (I64 M)), (2, .pv (.seq false 1 (irow order))), (8, .own true 1 (brow ((plL a M order).take (a * a + i)))), (13, .pv (I64 i))], []⟩) (fun i => i ≤ a + (a + 1) * M) (fun i => a + (a + 1) * M - i) 0 ?_ (Nat.zero_le _) ?_
  · exact Weak.to (by simp) (by simp) (by simp) (by simp) (by simp)
  intro i hi
  by_cases hil : i < a + (a + 1) * M
  · have hw2 : w64 ((i : Int) + 1) = ((i + 1 : Nat) : Int) := by rw [w64_id (by omega) (by omega)]; omega
    have htk := plL_take (N := a) (M := M) (order := order) (j := a * a + i) (by omega)
    have hF : plF a order (a * a + i) = false := by
      unfold plF
      rw [decide_eq_false (by omega), Bool.false_and]
    rw [hF] at htk
    have hmin : min (a * a + i) (plL a M order).length = a * a + i := by omega
    have hil' : (i : Int) < ((a + (a + 1) * M : Nat) : Int) := by omega
    simp only [hcast, Int.natCast_add] at w2 w3 hil'
    simp [w1, w2, w3, hil, hil', hmin]
    refine ⟨by omega, i + 1, by (try dsimp only); omega, by (try dsimp only); omega, Weak.to ?_ (by simp) (by simp) (by simp) (by simp)⟩
    simp [hw2]
    rw [← Nat.add_assoc, htk]
    simp [brow]
  · have hie : i = a + (a + 1) * M := by omega
    subst hie
    have hfull : (plL a M order).take (a * a + (a + (a + 1) * M)) = plL a M order := List.take_of_length_le (by omega)
    simp only [hcast, Int.natCast_add] at w2 w3
    simp [w1, w2, w3, hfull]
set_option maxRecDepth 16000 in
theorem refSt_ok (N M : Nat) (row : List Int) (hc : sizeOk N M = true) (hl : row.length = N + 1) (hin : ∀ x ∈ row, 0 ≤ x ∧ x < (M : Int)) : APure Tryz.prog 43 [I64 N, I64 M, .seq false 1 (irow row)] (fun r => r = .pv (.tup [.seq true 1 (brow (stL N M row)), BL true])) := by
  refine apureN [6, 7] hmo Tryz.func43 (by kernel_rfl) rfl (fun _ _ => results_tmp2 rfl _ _ _) (by kernel_rfl) (Nat.le_of_ble_eq_true rfl) ?_
  obtain ⟨_, _, n1, n2, n3, n4⟩ := varC_eq hc
  have hV : varC N M = N * N + N + (N + 1) * M := rfl
  have hsl := stL_len N M row
  have w1 : w64 ((N : Int) + 1) = (N : Int) + 1 := w64_id (by omega) (by omega)
  have hrl : (row.length : Int) = (N : Int) + 1 := by omega
  have hcm : ((N * N : Nat) : Int) = (N : Int) * (N : Int) := by simp
  have w2 : w64 ((N : Int) * (N : Int)) = (N : Int) * (N : Int) := by rw [← hcm]; exact w64_id (by omega) (by omega)
  have w3 : w64 ((N : Int) * (N : Int) + (N : Int)) = (N : Int) * (N : Int) + (N : Int) := by rw [← hcm]; exact w64_id (by omega) (by omega)
  have hst0 : ∀ j, j ≤ N * N + N → (stL N M row).take j = List.replicate j false := fun j hj => by
    apply List.ext_getElem
    · simp [hsl]; omega
    · intro i h1 h2
      simp at h2
      simp [stL, stF]
      omega
  simp
  refine CallK.intro (refCheck_ok _ _) (by simp) ?_
  simp [hc, w1, hrl, w2, w3]
  refine ⟨by omega, by omega, ?_⟩
  refine ALoop.intro (S := fun (a : Nat) => ⟨[(0, .pv (I64 N)), (1, .pv (I64 M)), (2, .pv (.seq false 1 (irow row))), (8, .own true 1 (brow ((stL N M row).take (N * N + N + a * M)))), (9, .pv (I64 a))], []⟩) (fun a => a ≤ N + 1) (fun a => N + 1 - a) 0 ?_ (Nat.zero_le _) ?_
  · have hz := hst0 (N * N + N) (Nat.le_refl _)
    have htn : ((N : Int) * (N : Int) + (N : Int)).toNat = N * N + N := by rw [← hcm]; omega
    exact Weak.to (by simp [hz, htn]; simp [brow]) (by simp) (by simp) (by simp) (by simp)
  intro a ha
  by_cases hlt : a ≤ N
  rotate_left
  · have hae : a = N + 1 := by omega
    subst hae
    have hfull : (stL N M row).take (N * N + N + (N + 1) * M) = stL N M row := List.take_of_length_le (by omega)
    have h0 : ¬ (N : Int) + 1 ≤ (N : Int) := by omega
    simp [h0, hfull]
  have hw : w64 ((a : Int) + 1) = ((a + 1 : Nat) : Int) := by rw [w64_id (by omega) (by omega)]; omega
  have hal : a < row.length := by omega
  obtain ⟨q1, q2⟩ := hin row[a] (List.getElem_mem hal)
  have q3 : ¬ row[a] < 0 := by omega
  have q4 : ¬ (M : Int) ≤ row[a] := by omega
  have hga : row.getD a 0 = row[a] := by rw [List.getD_eq_getElem?_getD, List.getElem?_eq_getElem hal]; rfl
  simp [hlt, hal, q3, q4]
  refine ALoop.intro (S := fun (b : Nat) => ⟨[(0, .pv (I64 N)), (1, .pv (I64 M)), (2, .pv (.seq false 1 (irow row))), (8, .own true 1 (brow ((stL N M row).take (N * N + N + a * M + b)))), (9, .pv (I64 a)), (10, .pv (I64 b))], []⟩) (fun b => b ≤ M) (fun b => M - b) 0 ?_ (Nat.zero_le _) ?_
  · exact Weak.to (by simp) (by simp) (by simp) (by simp) (by simp)
  intro b hb
  by_cases hbl : b < M
  · have hw2 : w64 ((b : Int) + 1) = ((b + 1 : Nat) : Int) := by rw [w64_id (by omega) (by omega)]; omega
    have hlm := lt_mul (show a < N + 1 by omega) hbl
    have htk := stL_take (N := N) (M := M) (row := row) (j := N * N + N + a * M + b) (by omega)
    have hF : stF N M row (N * N + N + a * M + b) = decide ((b : Int) = row[a]) := by
      obtain ⟨d1, d2⟩ := divmod (a := a) hbl
      unfold stF
      rw [decide_eq_true (by omega), Bool.true_and, show N * N + N + a * M + b - (N * N + N) = a * M + b by omega, d1, d2, hga, Bool.eq_iff_iff, decide_eq_true_iff, decide_eq_true_iff]
      exact ⟨fun h => h.symm, fun h => h.symm⟩
    rw [hF] at htk
    have hmin : min (N * N + N + a * M + b) (stL N M row).length = N * N + N + a * M + b := by omega
    simp [hbl, hal, hmin]
    refine ⟨by omega, b + 1, by (try dsimp only); omega, by (try dsimp only); omega, Weak.to ?_ (by simp) (by simp) (by simp) (by simp)⟩
    simp [hw2]
    rw [← Nat.add_assoc, htk]
    simp [brow]
  · have hbe : b = M := by omega
    subst hbe
    simp
    exact ⟨a + 1, by (try dsimp only); omega, by (try dsimp only); omega, Weak.to (by simp [hw, Nat.succ_mul, Nat.add_assoc]) (by simp) (by simp) (by simp) (by simp)⟩
end Go.AX

namespace Go.AX
open Go.Proofs
set_option linter.unusedSimpArgs false

def mixF (N M : Nat) (order row : List Int) (among : List Bool) (j : Nat) : Bool := if j < N * N then plF N order j else if j < N * N + N then among.getD (j - N * N) false else stF N M row j
def mixL (N M : Nat) (order row : List Int) (among : List Bool) : List Bool := (List.range (varC N M)).map (mixF N M order row among)
def truE (o : Obj) (ops : List Op5) (ps : List (Int × Int)) : Int := if failE o ops ≠ 0 then failE o ops else (chkW o ops ps).2
def truL (o : Obj) (ops : List Op5) (ps : List (Int × Int)) : List Bool := mixL ops.length o.st.toNat (orderS ops.length ps) ((playS o ops (orderS ops.length ps) (amongS ops.length ps)).getD []) (amongS ops.length ps)
def truPV (o : Obj) (ops : List Op5) (ps : List (Int × Int)) : PV := .tup [if truE o ops ps = 0 then .seq true 1 (brow (truL o ops ps)) else .lit (.slice none 0 0), I64 (truE o ops ps)]
theorem amongS_thr (N : Nat) (ps : List (Int × Int)) : amongS N ps = thr N (tops ps) := rfl
theorem mix_parts {N M : Nat} {order row : List Int} {among : List Bool} (ha : among.length = N) : mixL N M order row among = (plL N M order).take (N * N) ++ (among ++ (stL N M row).drop (N * N + N)) := by
  have hV : varC N M = N * N + N + (N + 1) * M := rfl
  apply List.ext_getElem
  · simp [mixL, plL, stL, ha]; omega
  · intro j h1 h2
    have hj : j < varC N M := by simpa [mixL] using h1
    have e1 : (mixL N M order row among)[j] = mixF N M order row among j := by simp [mixL]
    rw [e1]
    unfold mixF
    have hpl : ((plL N M order).take (N * N)).length = N * N := by simp [plL]; omega
    by_cases c1 : j < N * N
    · rw [if_pos c1, List.getElem_append_left (by omega)]
      simp [plL]
    · rw [if_neg c1, List.getElem_append_right (by omega)]
      by_cases c2 : j < N * N + N
      · have hjl : j - N * N < among.length := by omega
        rw [if_pos c2, List.getElem_append_left (by omega)]
        simp only [hpl]
        rw [List.getD_eq_getElem?_getD, List.getElem?_eq_getElem hjl]
        rfl
      · rw [if_neg c2, List.getElem_append_right (by omega)]
        simp only [hpl, ha, List.getElem_drop]
        simp only [stL, List.getElem_map, List.getElem_range]
        congr 1
        try omega
theorem orderS_all (N : Nat) (ps : List (Int × Int)) : OrdAll N (orderS N ps) := by
  obtain ⟨h1, h2, _⟩ := orderS_facts N ps
  exact ⟨orderS_length N ps, h1, h2⟩
/-- All that is so of picks that are a linearization. -/
structure TruOk (o : Obj) (ops : List Op5) (ps : List (Int × Int)) (row : List Int) : Prop where
  play : playS o ops (orderS ops.length ps) (amongS ops.length ps) = some row
  pl : plS ops.length o.st (orderS ops.length ps) = some (plL ops.length o.st.toNat (orderS ops.length ps))
  st : stS ops.length o.st row = some (stL ops.length o.st.toNat row)
  len : row.length = ops.length + 1
  rng : ∀ x ∈ row, 0 ≤ x ∧ x < o.st
theorem truOk_of {o : Obj} {ops : List Op5} {ps : List (Int × Int)} (hr : objR o) (hf : failE o ops = 0) (hw : (chkW o ops ps).2 = 0) : ∃ row, TruOk o ops ps row := by
  obtain ⟨g1, g2, h64, hP, _, hc⟩ := failE_zero hr hf
  have hW := chkW_zero hw
  have hc2 : sizeOk (sizeP o ops).1 (sizeP o ops).2 = true := by rw [hP]; exact hc
  obtain ⟨row, hrow⟩ := wit_plays hW hc2
  have hlen := playTo_len_ok hrow
  have hrng : ∀ x ∈ row, 0 ≤ x ∧ x < o.st := by
    have h := hrow
    unfold playS at h
    split at h
    · exact playTo_in hW.obj hW.ini h
    · cases h
  have hs := sizeOk_iff.1 hc
  obtain ⟨M, hM⟩ := Int.eq_ofNat_of_zero_le (show 0 ≤ o.st by omega)
  have hM' : o.st = (M : Int) := hM
  have hoa := orderS_all ops.length ps
  have hat : ∀ k, k < ops.length + 1 → 0 ≤ row.getD k 0 ∧ row.getD k 0 < o.st := fun k hk => by
    rw [List.getD_eq_getElem?_getD, List.getElem?_eq_getElem (by omega)]
    exact hrng _ (List.getElem_mem _)
  have hplat : ∀ k, k < (orderS ops.length ps).length → plAt ops.length (orderS ops.length ps) k := fun k hk => by
    have hkn : k < ops.length := by rw [← hoa.len]; exact hk
    obtain ⟨a1, a2⟩ := hoa.at' hkn
    refine ⟨a1, a2, fun hm => ?_⟩
    obtain ⟨y, hy, e⟩ := List.mem_take_iff_getElem.1 hm
    have hgk : (orderS ops.length ps).getD k 0 = (orderS ops.length ps)[k] := by rw [List.getD_eq_getElem?_getD, List.getElem?_eq_getElem hk]; rfl
    rw [hgk] at e
    have := (List.getElem_inj hoa.nd).1 e
    omega
  refine ⟨row, hrow, ?_, ?_, hlen, hrng⟩
  · unfold plS
    rw [if_pos ⟨hc, by rw [hoa.len], hplat⟩]
    rw [hM'] at hc ⊢
    rw [plL_marks hc hoa.len fun k hk => hoa.at' hk]
    try rfl
  · unfold stS
    rw [if_pos ⟨hc, by omega, fun k hk => hat k (by omega)⟩]
    rw [hM'] at hc hat ⊢
    rw [stL_marks hc hlen hat]
    try rfl
def cpSch : Sch := .take 0 (.take 1 (.take 2 (.take 3 (.take 4 (.take 5 (.fork [(6, .done)]))))))
set_option maxRecDepth 16000 in
theorem tru_ok (o : Obj) (ops : List Op5) (ps : List (Int × Int)) (hr : objR o) (hl : o.rows.length ≤ 140737488355328) (hl2 : ops.length ≤ 1000000) (hp : ps.length ≤ 1000000) : APure Tryz.prog 10 [robj o, ovec ops, .seq false 2 (ps.map prow)] (fun r => r = .pv (truPV o ops ps)) := by
  refine apureNB [21] [6, 7] hmo Tryz.func10 (by kernel_rfl) rfl (fun _ _ => results_tmp2 rfl _ _ _) (by kernel_rfl) (Nat.le_of_ble_eq_true rfl) ?_
  have h1 := fails_ok o ops hl (by omega)
  have h2 := chkW_ok o ops ps hl hl2 hp
  have h3 := size_ok o ops hl (by omega)
  have h4 := decOrder_ok ops ps hl2 hp
  have h5 := fun order inn => playM_ok o ops order inn hl (by omega)
  simp only [robj, ovec] at h1 h2 h3 h4 h5
  simp [robj, ovec]
  refine CallK.intro h1 (by simp) ?_
  by_cases c : failE o ops = 0
  rotate_left
  · have hE : truE o ops ps = failE o ops := by unfold truE; rw [if_pos c]
    simp [c, truPV, hE]
  have hE : truE o ops ps = (chkW o ops ps).2 := by unfold truE; rw [if_neg (by omega)]
  simp [c]
  refine CallK.intro h2 (by simp) ?_
  by_cases c2 : (chkW o ops ps).2 = 0
  rotate_left
  · simp [c2, truPV, hE]
  obtain ⟨row, hT⟩ := truOk_of hr c c2
  obtain ⟨_, _, h64, hP, _, hc⟩ := failE_zero hr c
  obtain ⟨nd, rng⟩ := run_nodup ps (chkW_zero c2).run List.nodup_nil
  have hL : truL o ops ps = mixL ops.length o.st.toNat (orderS ops.length ps) row (amongS ops.length ps) := by unfold truL; rw [hT.play]; rfl
  have hs := sizeOk_iff.1 hc
  obtain ⟨M, hM⟩ := Int.eq_ofNat_of_zero_le (show 0 ≤ o.st by omega)
  have hM' : o.st = (M : Int) := hM
  have h6 := plTruths_ok ops.length o.st (orderS ops.length ps) (by rw [orderS_length]; omega)
  have h7 := stTruths_ok ops.length o.st row (by have := hT.len; omega)
  have h8 := h5 (orderS ops.length ps) (amongS ops.length ps)
  rw [hP] at h3
  rw [hT.pl] at h6
  rw [hT.st] at h7
  rw [hT.play] at h8
  simp only [truthsPV, playPV] at h6 h7 h8
  rw [truPV, hE, c2, hL]
  simp [c2]
  refine CallK.intro h3 (by simp) ?_
  simp
  refine CallK.intro h4 (by simp) ?_
  simp
  refine ⟨by omega, ?_⟩
  refine ALoop.intro (S := fun (i : Nat) => ⟨[(1, .pv (.seq false 5 (ops.map orow))), (3, .pv (.ptr 0 0)), (11, .pv (.ptr 1 0)), (12, .own true 1 (irow (orderS ops.length ps))), (13, .own true 1 (brow (thr ops.length (tops (ps.take i))))), (49, .pv (.seq false 2 (ps.map prow))), (50, .pv (I64 ps.length)), (51, .pv (I64 i))], [[.pv (I64 o.st), .pv (I64 o.kd), .pv (I64 o.ini), .pv (.seq false 4 (o.rows.map rrow))], [.pv (I64 ops.length), .pv (I64 o.st)]]⟩) (fun i => i ≤ ps.length) (fun i => ps.length - i) 0 ?_ (Nat.zero_le _) ?_
  · exact Weak.to (by simp [tops, thr_nil]) (by simp) (by simp) (by simp) (by simp)
  intro i hi
  by_cases h : i < ps.length
  · have hw : w64 ((i : Int) + 1) = ((i + 1 : Nat) : Int) := by rw [w64_id (by omega) (by omega)]; omega
    obtain ⟨q1, q2⟩ := rng ps[i].1 (List.mem_map.2 ⟨ps[i], List.getElem_mem h, rfl⟩)
    obtain ⟨x, hx⟩ := Int.eq_ofNat_of_zero_le q1
    have hx' : ps[i].1 = (x : Int) := hx
    have hxl : x < ops.length := by omega
    have hset := thr_set (tops (ps.take i)) hxl
    have htk := tops_take ps h
    rw [hx'] at htk
    rw [← htk] at hset
    simp [h, prow, hx', hxl]
    exact ⟨i + 1, by (try dsimp only); omega, by (try dsimp only); omega, Weak.to (by simp [hw, brow_set, ← hset]) (by simp) (by simp) (by simp) (by simp)⟩
  have hie : i = ps.length := by omega
  subst hie
  have htt : thr ops.length (tops (ps.take ps.length)) = amongS ops.length ps := by rw [List.take_length]; rfl
  rw [htt]
  simp
  have hpar := mix_parts (N := ops.length) (M := o.st.toNat) (order := orderS ops.length ps) (row := row) (among := amongS ops.length ps) (by simp)
  have hA := plL_len ops.length o.st.toNat (orderS ops.length ps)
  have hB := stL_len ops.length o.st.toNat row
  have ham : (amongS ops.length ps).length = ops.length := by simp
  have hcM : sizeOk ops.length ((o.st.toNat : Nat) : Int) = true := by rw [hM'] at hc ⊢; exact hc
  obtain ⟨_, _, n1, n2, n3, n4⟩ := varC_eq hcM
  have hV : varC ops.length o.st.toNat = ops.length * ops.length + ops.length + (ops.length + 1) * o.st.toNat := rfl
  have hcast : ((ops.length * ops.length : Nat) : Int) = (ops.length : Int) * (ops.length : Int) := by simp
  have hwm : w64 ((ops.length : Int) * (ops.length : Int)) = ((ops.length * ops.length : Nat) : Int) := by rw [← hcast]; exact w64_id (by omega) (by omega)
  generalize mixL ops.length o.st.toNat (orderS ops.length ps) row (amongS ops.length ps) = mix at *
  generalize plL ops.length o.st.toNat (orderS ops.length ps) = A at *
  generalize stL ops.length o.st.toNat row = B at *
  generalize varC ops.length o.st.toNat = V at *
  generalize amongS ops.length ps = am at *
  generalize hQ : ops.length * ops.length = Q at *
  generalize hN : ops.length = N at *
  refine CallK.intro h8 (by simp) ?_
  simp
  refine CallK.intro h6 (by simp) ?_
  simp
  refine CallK.intro h7 (by simp) ?_
  have m1 : min Q V = Q := by omega
  have m2 : min N (V - Q) = N := by omega
  have m3 : Q ≤ V := by omega
  have hw2 : w64 ((Q : Int) + (N : Int)) = ((Q + N : Nat) : Int) := by rw [w64_id (by omega) (by omega)]; omega
  have m4 : Q + N ≤ V := by omega
  have m5 : min (V - (Q + N)) (V - (Q + N)) = V - (Q + N) := by omega
  have m6 : Q + N + (V - (Q + N)) = V := by omega
  simp [hwm, hA, hB, ham, m1, m2, m3, hw2]
  refine ⟨by omega, ?_⟩
  refine AAnyD.one cpSch (by kernel_rfl) ?_
  simp [cpSch, hwm, hA, hB, ham, m1, m2, m3, m4, m5, m6, hw2]
  have t1 : ((Q : Int) + (N : Int)).toNat = Q + N := by omega
  have t2 : ((Q : Int) + ((N : Int) + ((V - (Q + N) : Nat) : Int))).toNat = V := by omega
  rw [t1, t2, m5, m6]
  refine ⟨by omega, by omega, ?_⟩
  have hmx : brow mix = (brow A).take Q ++ (brow am ++ (brow B).drop (Q + N)) := by
    rw [hpar]
    simp [brow, List.map_take, List.map_drop]
  rw [hmx]
  have x1 : ((brow A).take Q).length = Q := by rw [List.length_take, brow_length]; omega
  have y1 : (brow am).length = N := by simp [ham]
  have z1 : (brow B).length = V := by simp [hB]
  generalize (brow A).take Q = X at *
  generalize brow am = Y at *
  generalize brow B = Z at *
  rw [List.take_of_length_le (l := X) (by omega), List.take_of_length_le (l := Y) (by omega), List.take_of_length_le (l := Z) (by omega), List.take_of_length_le (l := Z.drop (Q + N)) (by rw [List.length_drop]; omega)]
  have hw3 : (X ++ (Y ++ (X ++ List.replicate (V - Q) [PV.lit (Value.bool false)]).drop (Q + N))).length = V := by
    simp [x1, y1]
    omega
  rw [List.drop_of_length_le (i := V) (by omega), List.append_nil, ← List.append_assoc X Y, List.take_left' (by rw [List.length_append]; omega), List.append_assoc]
set_option maxRecDepth 16000 in
theorem refTru_ok (o : Obj) (ops : List Op5) (ps : List (Int × Int)) (hr : objR o) (hl : o.rows.length ≤ 140737488355328) (hl2 : ops.length ≤ 1000000) (hp : ps.length ≤ 1000000) : APure Tryz.prog 11 [robj o, ovec ops, .seq false 2 (ps.map prow)] (fun r => r = .pv (truPV o ops ps)) := by
  refine apureN [6, 7] hmo Tryz.func11 (by kernel_rfl) rfl (fun _ _ => results_tmp2 rfl _ _ _) (by kernel_rfl) (Nat.le_of_ble_eq_true rfl) ?_
  have h1 := refErr_ok o ops hr hl (by omega)
  have h2 := refChkW_ok o ops ps hr hl hl2 hp
  have h4 := refOrder_ok ops ps hl2 hp
  have h5 := fun order inn => refPlayM_ok o ops order inn hr hl (by omega)
  simp only [robj, ovec] at h1 h2 h4 h5
  simp [robj, ovec]
  refine CallK.intro h1 (by simp) ?_
  by_cases c : failE o ops = 0
  rotate_left
  · have hE : truE o ops ps = failE o ops := by unfold truE; rw [if_pos c]
    simp [c, truPV, hE]
  have hE : truE o ops ps = (chkW o ops ps).2 := by unfold truE; rw [if_neg (by omega)]
  simp [c]
  refine CallK.intro h2 (by simp) ?_
  by_cases c2 : (chkW o ops ps).2 = 0
  rotate_left
  · simp [c2, truPV, hE]
  obtain ⟨row, hT⟩ := truOk_of hr c c2
  obtain ⟨_, _, h64, hP, _, hc⟩ := failE_zero hr c
  have hL : truL o ops ps = mixL ops.length o.st.toNat (orderS ops.length ps) row (amongS ops.length ps) := by unfold truL; rw [hT.play]; rfl
  have hs := sizeOk_iff.1 hc
  obtain ⟨M, hM⟩ := Int.eq_ofNat_of_zero_le (show 0 ≤ o.st by omega)
  have hM' : o.st = (M : Int) := hM
  have hMn : o.st.toNat = M := by omega
  rw [truPV, hE, c2, hL, hMn]
  rw [hM'] at hc
  have h6 := refPl_ok ops.length M (orderS ops.length ps) hc (orderS_all ops.length ps)
  have h7 := refSt_ok ops.length M row hc hT.len (fun x hx => by have := hT.rng x hx; omega)
  have h8 := h5 (orderS ops.length ps) (amongS ops.length ps)
  rw [hT.play] at h8
  rw [hM'] at h8
  simp only [playPV] at h8
  rw [hM']
  simp [c2]
  refine CallK.intro h4 (by simp) ?_
  simp
  have ham : (amongS ops.length ps).length = ops.length := by simp
  refine ALoop.intro (S := fun (i : Nat) => ⟨[(1, .pv (.seq false 5 (ops.map orow))), (2, .pv (.seq false 2 (ps.map prow))), (3, .pv (.ptr 0 0)), (9, .own true 1 (irow (orderS ops.length ps))), (10, .own true 1 (brow ((amongS ops.length ps).take i))), (11, .pv (I64 i))], [[.pv (I64 M), .pv (I64 o.kd), .pv (I64 o.ini), .pv (.seq false 4 (o.rows.map rrow))]]⟩) (fun i => i ≤ ops.length) (fun i => ops.length - i) 0 ?_ (Nat.zero_le _) ?_
  · exact (Weak.nilOwn (s := 10) 1 true (by simp)).trans (Weak.to (by simp [brow]) (by simp) (by simp) (by simp) (by simp))
  intro i hi
  by_cases h : i < ops.length
  · have hw : w64 ((i : Int) + 1) = ((i + 1 : Nat) : Int) := by rw [w64_id (by omega) (by omega)]; omega
    have hpl := placeP_ok ps i (by omega)
    have hnn := posS_nn (tops ps) i
    have hia : i < (amongS ops.length ps).length := by omega
    have hgi : (amongS ops.length ps)[i] = decide ((i : Int) ∈ tops ps) := by simp [amongS]
    have htk : (amongS ops.length ps).take (i + 1) = (amongS ops.length ps).take i ++ [decide ((i : Int) ∈ tops ps)] := by rw [← List.take_append_getElem hia, hgi]
    have hmin : min i (amongS ops.length ps).length = i := by omega
    generalize posS (tops ps) (i : Int) = p at *
    have hde : decide (0 ≤ p) = decide ((i : Int) ∈ tops ps) := by rw [Bool.eq_iff_iff, decide_eq_true_iff, decide_eq_true_iff]; exact hnn
    simp [h]
    refine CallK.intro hpl (by simp) ?_
    simp [h, hmin, hi]
    refine ⟨by omega, i + 1, by (try dsimp only); omega, by (try dsimp only); omega, Weak.to ?_ (by simp) (by simp) (by simp) (by simp)⟩
    simp [hw, htk, hde]
    simp [brow]
  have hie : i = ops.length := by omega
  subst hie
  have hta : (amongS ops.length ps).take ops.length = amongS ops.length ps := List.take_of_length_le (by omega)
  rw [hta]
  simp
  refine CallK.intro h8 (by simp) ?_
  simp
  refine CallK.intro h6 (by simp) ?_
  simp
  refine CallK.intro h7 (by simp) ?_
  simp
  have hA := plL_len ops.length M (orderS ops.length ps)
  have hB := stL_len ops.length M row
  obtain ⟨_, _, n1, n2, n3, n4⟩ := varC_eq hc
  have hV : varC ops.length M = ops.length * ops.length + ops.length + (ops.length + 1) * M := rfl
  have hcast : ((ops.length * ops.length : Nat) : Int) = (ops.length : Int) * (ops.length : Int) := by simp
  have hwm : w64 ((ops.length : Int) * (ops.length : Int)) = ((ops.length * ops.length : Nat) : Int) := by rw [← hcast]; exact w64_id (by omega) (by omega)
  have hml : (mixL ops.length M (orderS ops.length ps) row (amongS ops.length ps)).length = varC ops.length M := by simp [mixL]
  have hmk : ∀ j, j < varC ops.length M → (mixL ops.length M (orderS ops.length ps) row (amongS ops.length ps)).take (j + 1) = (mixL ops.length M (orderS ops.length ps) row (amongS ops.length ps)).take j ++ [mixF ops.length M (orderS ops.length ps) row (amongS ops.length ps) j] := fun j hj => by
    rw [← List.take_append_getElem (by rw [hml]; exact hj)]
    simp [mixL]
  have hAg : ∀ j (hj : j < varC ops.length M), (plL ops.length M (orderS ops.length ps))[j]'(by omega) = plF ops.length (orderS ops.length ps) j := fun j hj => by simp [plL]
  have hBg : ∀ j (hj : j < varC ops.length M), (stL ops.length M row)[j]'(by omega) = stF ops.length M row j := fun j hj => by simp [stL]
  refine ALoop.intro (S := fun (i : Nat) => ⟨[(1, .pv (.seq false 5 (ops.map orow))), (10, .own true 1 (brow (amongS ops.length ps))), (14, .pv (.seq true 1 (brow (plL ops.length M (orderS ops.length ps))))), (16, .pv (.seq true 1 (brow (stL ops.length M row)))), (18, .own true 1 (brow ((mixL ops.length M (orderS ops.length ps) row (amongS ops.length ps)).take i))), (19, .pv (I64 i))], [[.pv (I64 M), .pv (I64 o.kd), .pv (I64 o.ini), .pv (.seq false 4 (o.rows.map rrow))]]⟩) (fun i => i ≤ varC ops.length M) (fun i => varC ops.length M - i) 0 ?_ (Nat.zero_le _) ?_
  · exact (Weak.nilOwn (s := 18) 1 true (by simp)).trans (Weak.to (by simp [brow]) (by simp) (by simp) (by simp) (by simp))
  intro i hi
  by_cases hil : i < varC ops.length M
  rotate_left
  · have hie : i = varC ops.length M := by omega
    subst hie
    have hfull : (mixL ops.length M (orderS ops.length ps) row (amongS ops.length ps)).take (varC ops.length M) = mixL ops.length M (orderS ops.length ps) row (amongS ops.length ps) := List.take_of_length_le (by omega)
    simp [hA, hfull]
  have hw : w64 ((i : Int) + 1) = ((i + 1 : Nat) : Int) := by rw [w64_id (by omega) (by omega)]; omega
  have hm := hmk i hil
  have hAi := hAg i hil
  have hBi := hBg i hil
  have hwk : w64 ((i : Int) - ((ops.length * ops.length : Nat) : Int)) = (i : Int) - ((ops.length * ops.length : Nat) : Int) := w64_id (by omega) (by omega)
  have hmin : min i (mixL ops.length M (orderS ops.length ps) row (amongS ops.length ps)).length = i := by omega
  have hiA : i < (plL ops.length M (orderS ops.length ps)).length := by omega
  have hiB : i < (stL ops.length M row).length := by omega
  have hval : mixF ops.length M (orderS ops.length ps) row (amongS ops.length ps) i = if i < ops.length * ops.length then plF ops.length (orderS ops.length ps) i else if i < ops.length * ops.length + ops.length then (amongS ops.length ps).getD (i - ops.length * ops.length) false else stF ops.length M row i := rfl
  have hpf : ¬ i < ops.length * ops.length → plF ops.length (orderS ops.length ps) i = false := fun h => by unfold plF; rw [decide_eq_false h, Bool.false_and]
  have hsf : ¬ ops.length * ops.length + ops.length ≤ i → stF ops.length M row i = false := fun h => by unfold stF; rw [decide_eq_false h, Bool.false_and]
  generalize mixF ops.length M (orderS ops.length ps) row (amongS ops.length ps) i = mv at *
  generalize plF ops.length (orderS ops.length ps) i = pv at *
  generalize stF ops.length M row i = sv at *
  have fin : ∀ b : Bool, mv = b → (mixL ops.length M (orderS ops.length ps) row (amongS ops.length ps)).take (i + 1) = (mixL ops.length M (orderS ops.length ps) row (amongS ops.length ps)).take i ++ [b] := fun b hb => by rw [hm, hb]
  generalize hQ : ops.length * ops.length = Q at *
  by_cases c1 : i < Q
  · rw [if_pos c1] at hval
    have hsv := hsf (by omega)
    have fn := fin pv hval
    rw [hsv] at hBi
    have k0 : ¬ Q ≤ i := by omega
    cases pv
    · simp [hA, hB, hil, hAi, hBi, hwm, hwk, k0, hmin]
      refine ⟨by omega, i + 1, by (try dsimp only); omega, by (try dsimp only); omega, Weak.to ?_ (by simp) (by simp) (by simp) (by simp)⟩
      simp [hw, fn]
      simp [brow]
    · simp [hA, hB, hil, hAi, hBi, hwm, hwk, k0, hmin]
      refine ⟨by omega, i + 1, by (try dsimp only); omega, by (try dsimp only); omega, Weak.to ?_ (by simp) (by simp) (by simp) (by simp)⟩
      simp [hw, fn]
      simp [brow]
  rw [if_neg c1] at hval
  have hpv := hpf c1
  rw [hpv] at hAi
  obtain ⟨d, hd⟩ : ∃ d : Nat, i = Q + d := ⟨i - Q, by omega⟩
  have hdk : (i : Int) - (Q : Int) = (d : Int) := by omega
  replace hwk := hwk.trans hdk
  by_cases c2 : i < Q + ops.length
  · rw [if_pos c2, show i - Q = d by omega] at hval
    have hsv := hsf (by omega)
    rw [hsv] at hBi
    have hdl : d < ops.length := by omega
    have hda : d < (amongS ops.length ps).length := by omega
    have hgd : (amongS ops.length ps).getD d false = (amongS ops.length ps)[d] := by rw [List.getD_eq_getElem?_getD, List.getElem?_eq_getElem hda]; rfl
    rw [hgd] at hval
    have fn := fin _ hval
    simp [hA, hB, hil, hAi, hBi, hwm, hwk, hdl, hda, hmin]
    refine ⟨by omega, i + 1, by (try dsimp only); omega, by (try dsimp only); omega, Weak.to ?_ (by simp) (by simp) (by simp) (by simp)⟩
    simp [hw, fn]
    simp [brow]
  · rw [if_neg c2] at hval
    have hdl : ¬ d < ops.length := by omega
    have fn := fin sv hval
    cases sv
    · simp [hA, hB, hil, hAi, hBi, hwm, hwk, hdl, hmin]
      refine ⟨by omega, i + 1, by (try dsimp only); omega, by (try dsimp only); omega, Weak.to ?_ (by simp) (by simp) (by simp) (by simp)⟩
      simp [hw, fn]
      simp [brow]
    · simp [hA, hB, hil, hAi, hBi, hwm, hwk, hdl, hmin]
      refine ⟨by omega, i + 1, by (try dsimp only); omega, by (try dsimp only); omega, Weak.to ?_ (by simp) (by simp) (by simp) (by simp)⟩
      simp [hw, fn]
      simp [brow]
end Go.AX

namespace Go.AX
open Go.Proofs
set_option linter.unusedSimpArgs false

theorem one38_ok : APure Tryz.prog 21 [] (fun r => r = .pv (.agg [I64 1, I64 1, I64 0, .seq true 4 [[I64 0, I64 0, I64 0, I64 7]]])) := by
  refine apureC hmo Tryz.func21 (by kernel_rfl) rfl rfl (by kernel_rfl) (Nat.le_of_ble_eq_true rfl) ?_
  simp
theorem decPV_at {o : Obj} {ops : List Op5} {T : List Bool} {E : Int} {L : List (Int × Int)} (h1 : decE o ops T = E) (h2 : decL o ops T = L) : decPV o ops T = .tup [if E = 0 then .seq true 2 (L.map prow) else .lit (.slice none 0 0), I64 E] := by
  unfold decPV; rw [h1, h2]
theorem truPV_at {o : Obj} {ops : List Op5} {ps : List (Int × Int)} {E : Int} {L : List Bool} (h1 : truE o ops ps = E) (h2 : truL o ops ps = L) : truPV o ops ps = .tup [if E = 0 then .seq true 1 (brow L) else .lit (.slice none 0 0), I64 E] := by
  unfold truPV; rw [h1, h2]
theorem one_objR : objR oneO := ⟨⟨by decide, by decide⟩, ⟨by decide, by decide⟩⟩
theorem zero_objR : objR ⟨0, 0, 0, []⟩ := ⟨⟨by decide, by decide⟩, ⟨by decide, by decide⟩⟩
def aOps : List Op5 := [⟨1, 0, 0, 1, 7⟩]
theorem aw1 : decE oneO aOps [true, true, true, true] = 0 := by kernel_rfl
theorem aw2 : decL oneO aOps [true, true, true, true] = [(0, 7)] := by kernel_rfl
theorem aw3 : decE oneO aOps [true, true, true, false] = 5 := by kernel_rfl
theorem aw4 : truE oneO aOps [(0, 7)] = 0 := by kernel_rfl
theorem aw5 : truL oneO aOps [(0, 7)] = [true, true, true, true] := by kernel_rfl
theorem aw6 : truE oneO aOps [] = 41 := by kernel_rfl
theorem aw7 : decE ⟨0, 0, 0, []⟩ [] [] = 2 := by kernel_rfl
theorem aw8 : orderS 3 [(2, 0), (9, 0), (2, 0)] = [2, 0, 1] := by kernel_rfl
set_option maxRecDepth 16000 in
theorem awakeD_ok : APure Tryz.prog 7 [] (fun r => r = .pv (BL true)) := by
  refine apure1 hmo Tryz.func7 (by kernel_rfl) rfl rfl (by kernel_rfl) (Nat.le_of_ble_eq_true rfl) ?_
  have c1 := dec_ok oneO aOps [true, true, true, true] one_objR (by decide) (by decide) (by decide)
  rw [decPV_at aw1 aw2] at c1
  have c2 := dec_ok oneO aOps [true, true, true, false] one_objR (by decide) (by decide) (by decide)
  rw [decPV_at aw3 rfl] at c2
  have c3 := tru_ok oneO aOps [(0, 7)] one_objR (by decide) (by decide) (by decide)
  rw [truPV_at aw4 aw5] at c3
  have c4 := tru_ok oneO aOps [] one_objR (by decide) (by decide) (by decide)
  rw [truPV_at aw6 rfl] at c4
  have c5 := dec_ok ⟨0, 0, 0, []⟩ [] [] zero_objR (by decide) (by decide) (by decide)
  rw [decPV_at aw7 rfl] at c5
  have c6 := decOrder_ok [⟨0, 0, 0, 0, 0⟩, ⟨0, 0, 0, 0, 0⟩, ⟨0, 0, 0, 0, 0⟩] [(2, 0), (9, 0), (2, 0)] (by decide) (by decide)
  rw [show ([⟨0, 0, 0, 0, 0⟩, ⟨0, 0, 0, 0, 0⟩, ⟨0, 0, 0, 0, 0⟩] : List Op5).length = 3 from rfl, aw8] at c6
  have s1 := samePicks_ok [(0, 7)] [(0, 7)] (by decide)
  have s2 := sameBools_ok [true, true, true, true] [true, true, true, true] (by decide)
  have s3 := sameInts_ok [2, 0, 1] [2, 0, 1] (by decide)
  simp only [robj, oneO, ovec, aOps, List.map, orow, rrow, prow, brow, irow, reduceIte, Int.reduceEq, decide_true] at c1 c2 c3 c4 c5 c6 s1 s2 s3
  replace c4 := c4.conv (xs := [.agg [I64 1, I64 1, I64 0, .seq false 4 [[I64 0, I64 0, I64 0, I64 7]]], .seq false 5 [[I64 1, I64 0, I64 0, I64 1, I64 7]], .lit (.slice none 0 0)]) ⟨_, _, rfl, PV.as.refl _, _, _, rfl, PV.as.refl _, _, _, rfl, PV.as_nil 2, rfl⟩
  replace c5 := c5.conv (xs := [.agg [I64 0, I64 0, I64 0, .lit (.slice none 0 0)], .lit (.slice none 0 0), .lit (.slice none 0 0)]) ⟨_, _, rfl, PV.as_agg ⟨_, _, rfl, PV.as.refl _, _, _, rfl, PV.as.refl _, _, _, rfl, PV.as.refl _, _, _, rfl, PV.as_nil 4, rfl⟩, _, _, rfl, PV.as_nil 5, _, _, rfl, PV.as_nil 1, rfl⟩
  simp
  refine CallK.intro one38_ok (by simp) ?_
  simp
  refine CallK.intro c1 (by simp) ?_
  simp
  refine CallK.intro one38_ok (by simp) ?_
  simp
  refine CallK.intro c2 (by simp) ?_
  simp
  refine CallK.intro one38_ok (by simp) ?_
  simp
  refine CallK.intro c3 (by simp) ?_
  simp
  refine CallK.intro one38_ok (by simp) ?_
  simp
  refine CallK.intro c4 (by simp) ?_
  simp
  refine CallK.intro c5 (by simp) ?_
  simp
  refine CallG.intro (fun _ => s1) (by simp) ?_
  simp
  refine CallG.intro (fun _ => s2) (by simp) ?_
  simp
  refine CallG.intro (fun _ => c6) (by simp) ?_
  simp
  refine CallG.intro (fun _ => s3) (by simp) ?_
  simp
end Go.AX

namespace Go.AX
open Go.Proofs
set_option linter.unusedSimpArgs false

def caseD (M : List Bool) (ps : List (Int × Int)) : PV := .agg [.seq false 1 (brow M), .seq false 2 (ps.map prow)]
theorem decL_len (o : Obj) (ops : List Op5) (T : List Bool) (h : ops.length ≤ 1000000) : (decL o ops T).length ≤ 1000000 := by
  unfold decL
  split
  · rename_i order row ho hw
    have := decTo_len o ops order row (insS ops.length o.st ops.length T) order.length
    have hl := (ordS_ok ho).2.2.1
    have : (ops.length : Int).toNat = ops.length := by omega
    omega
  · simp
theorem truL_len (o : Obj) (ops : List Op5) (ps : List (Int × Int)) : (truL o ops ps).length = varC ops.length o.st.toNat := by simp [truL, mixL]
theorem varC_few {o : Obj} {ops : List Op5} (hr : objR o) (hf : failE o ops = 0) : varC ops.length o.st.toNat ≤ 140737488355328 := by
  obtain ⟨_, _, _, _, _, hc⟩ := failE_zero hr hf
  have hs := sizeOk_iff.1 hc
  have hcM : sizeOk ops.length ((o.st.toNat : Nat) : Int) = true := by
    rw [show ((o.st.toNat : Nat) : Int) = o.st by omega]; exact hc
  obtain ⟨_, _, n1, n2, n3, n4⟩ := varC_eq hcM
  unfold varC
  omega
theorem nil_picks : APure Tryz.prog 12 [.lit (.slice none 0 0), .lit (.slice none 0 0)] (fun r => r = .pv (BL true)) :=
  (samePicks_ok [] [] (by decide)).conv (xs := [.lit (.slice none 0 0), .lit (.slice none 0 0)]) ⟨_, _, rfl, PV.as_nil 2, _, _, rfl, PV.as_nil 2, rfl⟩
theorem nil_bools : APure Tryz.prog 13 [.lit (.slice none 0 0), .lit (.slice none 0 0)] (fun r => r = .pv (BL true)) :=
  (sameBools_ok [] [] (by decide)).conv (xs := [.lit (.slice none 0 0), .lit (.slice none 0 0)]) ⟨_, _, rfl, PV.as_nil 1, _, _, rfl, PV.as_nil 1, rfl⟩
set_option maxRecDepth 16000 in
theorem decodeTells_ok (o : Obj) (ops : List Op5) (M : List Bool) (ps : List (Int × Int)) (hr : objR o) : APure Tryz.prog 3 [robj o, ovec ops, caseD M ps] (fun r => r = .pv (BL true)) := by
  refine apure1 hmo Tryz.func3 (by kernel_rfl) rfl rfl (by kernel_rfl) (Nat.le_of_ble_eq_true rfl) ?_
  have hfew := few_ok o
  simp only [robj] at hfew
  simp [robj, ovec, caseD]
  refine CallK.intro hfew (by simp) ?_
  by_cases c1 : (o.rows.length : Int) ≤ 300
  rotate_left
  · simp [c1]
    refine CallK.intro awakeD_ok (by simp) ?_
    simp
  by_cases c2 : (10 : Int) < (ops.length : Int)
  · simp [c1, c2]
    refine CallK.intro awakeD_ok (by simp) ?_
    simp
  by_cases c3 : (1000 : Int) < (M.length : Int)
  · simp [c1, c2, c3]
    refine CallK.intro awakeD_ok (by simp) ?_
    simp
  by_cases c4 : (40 : Int) < (ps.length : Int)
  · simp [c1, c2, c3, c4]
    refine CallK.intro awakeD_ok (by simp) ?_
    simp
  have hl : o.rows.length ≤ 140737488355328 := by omega
  have hl2 : ops.length ≤ 1000000 := by omega
  have hM : M.length ≤ 1000000 := by omega
  have hp : ps.length ≤ 1000000 := by omega
  have d1 := dec_ok o ops M hr hl hl2 hM
  have d2 := refDec_ok o ops M hr hl hl2 hM
  have t1 := tru_ok o ops ps hr hl hl2 hp
  have t2 := refTru_ok o ops ps hr hl hl2 hp
  have o1 := decOrder_ok ops ps hl2 hp
  have o2 := refOrder_ok ops ps hl2 hp
  have s3 := sameInts_ok (orderS ops.length ps) (orderS ops.length ps) (by rw [orderS_length]; omega)
  have s1 := samePicks_ok (decL o ops M) (decL o ops M) (by have := decL_len o ops M hl2; omega)
  have hs2 := sizeOk_iff (a := ops.length) (b := o.st)
  simp only [robj, ovec] at d1 d2 t1 t2 o1 o2
  simp [c1, c2, c3, c4]
  by_cases e1 : decE o ops M = 0 <;> by_cases e2 : truE o ops ps = 0
  · have q1 : decPV o ops M = .tup [.seq true 2 ((decL o ops M).map prow), I64 (decE o ops M)] := by unfold decPV; rw [if_pos e1]
    have q2 : truPV o ops ps = .tup [.seq true 1 (brow (truL o ops ps)), I64 (truE o ops ps)] := by unfold truPV; rw [if_pos e2]
    rw [q1] at d1 d2
    rw [q2] at t1 t2
    have hf0 : failE o ops = 0 := Decidable.of_not_not fun hh => by unfold truE at e2; rw [if_pos hh] at e2; exact hh e2
    have s2 := sameBools_ok (truL o ops ps) (truL o ops ps) (by rw [truL_len]; exact varC_few hr hf0)
    refine CallK.intro d1 (by simp) ?_
    simp
    refine CallK.intro d2 (by simp) ?_
    simp
    refine CallK.intro t1 (by simp) ?_
    simp
    refine CallK.intro t2 (by simp) ?_
    simp
    refine CallQ0.intro s1 (by simp) ?_
    simp
    refine CallQ.intro (fun _ => s2) (by simp) ?_
    simp
    refine CallQ.intro (fun _ => o1) (by simp) ?_
    simp
    refine CallQ.intro (fun _ => o2) (by simp) ?_
    simp
    refine CallQ.intro (fun _ => s3) (by simp) ?_
    simp
    refine CallQ.intro (fun _ => awakeD_ok) (by simp) ?_
    simp
  · have q1 : decPV o ops M = .tup [.seq true 2 ((decL o ops M).map prow), I64 (decE o ops M)] := by unfold decPV; rw [if_pos e1]
    have q2 : truPV o ops ps = .tup [.lit (.slice none 0 0), I64 (truE o ops ps)] := by unfold truPV; rw [if_neg e2]
    rw [q1] at d1 d2
    rw [q2] at t1 t2
    refine CallK.intro d1 (by simp) ?_
    simp
    refine CallK.intro d2 (by simp) ?_
    simp
    refine CallK.intro t1 (by simp) ?_
    simp
    refine CallK.intro t2 (by simp) ?_
    simp
    refine CallQ0.intro s1 (by simp) ?_
    simp
    refine CallQ.intro (fun _ => nil_bools) (by simp) ?_
    simp
    refine CallQ.intro (fun _ => o1) (by simp) ?_
    simp
    refine CallQ.intro (fun _ => o2) (by simp) ?_
    simp
    refine CallQ.intro (fun _ => s3) (by simp) ?_
    simp
    refine CallQ.intro (fun _ => awakeD_ok) (by simp) ?_
    simp
  · have q1 : decPV o ops M = .tup [.lit (.slice none 0 0), I64 (decE o ops M)] := by unfold decPV; rw [if_neg e1]
    have q2 : truPV o ops ps = .tup [.seq true 1 (brow (truL o ops ps)), I64 (truE o ops ps)] := by unfold truPV; rw [if_pos e2]
    rw [q1] at d1 d2
    rw [q2] at t1 t2
    have hf0 : failE o ops = 0 := Decidable.of_not_not fun hh => by unfold truE at e2; rw [if_pos hh] at e2; exact hh e2
    have s2 := sameBools_ok (truL o ops ps) (truL o ops ps) (by rw [truL_len]; exact varC_few hr hf0)
    refine CallK.intro d1 (by simp) ?_
    simp
    refine CallK.intro d2 (by simp) ?_
    simp
    refine CallK.intro t1 (by simp) ?_
    simp
    refine CallK.intro t2 (by simp) ?_
    simp
    refine CallQ0.intro nil_picks (by simp) ?_
    simp
    refine CallQ.intro (fun _ => s2) (by simp) ?_
    simp
    refine CallQ.intro (fun _ => o1) (by simp) ?_
    simp
    refine CallQ.intro (fun _ => o2) (by simp) ?_
    simp
    refine CallQ.intro (fun _ => s3) (by simp) ?_
    simp
    refine CallQ.intro (fun _ => awakeD_ok) (by simp) ?_
    simp
  · have q1 : decPV o ops M = .tup [.lit (.slice none 0 0), I64 (decE o ops M)] := by unfold decPV; rw [if_neg e1]
    have q2 : truPV o ops ps = .tup [.lit (.slice none 0 0), I64 (truE o ops ps)] := by unfold truPV; rw [if_neg e2]
    rw [q1] at d1 d2
    rw [q2] at t1 t2
    refine CallK.intro d1 (by simp) ?_
    simp
    refine CallK.intro d2 (by simp) ?_
    simp
    refine CallK.intro t1 (by simp) ?_
    simp
    refine CallK.intro t2 (by simp) ?_
    simp
    refine CallQ0.intro nil_picks (by simp) ?_
    simp
    refine CallQ.intro (fun _ => nil_bools) (by simp) ?_
    simp
    refine CallQ.intro (fun _ => o1) (by simp) ?_
    simp
    refine CallQ.intro (fun _ => o2) (by simp) ?_
    simp
    refine CallQ.intro (fun _ => s3) (by simp) ?_
    simp
    refine CallQ.intro (fun _ => awakeD_ok) (by simp) ?_
    simp
end Go.AX
