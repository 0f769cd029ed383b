/-
  Plain laws: how many clauses there are.
-/
import Derived.Test.YtklaffmpfmpffaaGreatDoorS10AxMovS
import Derived.Test.YtklaffmpfmpffaaGreatDoorS10AxCntL
namespace Go.AX
open Go.Proofs

theorem mostTo_len (vs : List Int) : ∀ i, i ≤ vs.length → 2 * (mostTo vs i).length = i * (2 * vs.length - 1 - i)
  | 0, _ => by simp [mostTo]
  | i + 1, h => by
    have ih := mostTo_len vs i (by omega)
    rw [mostTo_succ vs (show i < vs.length by omega), List.length_append]
    obtain ⟨d, hd⟩ : ∃ d, vs.length = i + 1 + d := ⟨vs.length - (i + 1), by omega⟩
    have e4 : (mostRow vs[i] (vs.drop (i + 1))).length = d := by simp [mostRow]; omega
    rw [e4]
    rw [hd] at ih ⊢
    have e1 : 2 * (i + 1 + d) - 1 - i = i + 1 + 2 * d := by omega
    have e2 : 2 * (i + 1 + d) - 1 - (i + 1) = i + 2 * d := by omega
    rw [e1] at ih; rw [e2]
    have : (i + 1) * (i + 2 * d) = i * (i + 1 + 2 * d) + 2 * d := by grind
    omega
theorem mostS_len (vs : List Int) : 2 * (mostS vs).length + vs.length = vs.length * vs.length := by
  have := mostTo_len vs vs.length (Nat.le_refl _)
  unfold mostS
  rw [this]
  cases h : vs.length with
  | zero => rfl
  | succ n =>
    have : 2 * (n + 1) - 1 - (n + 1) = n := by omega
    rw [this]; grind
theorem pairC_len (n m : Int) (p : Int × Int) : ∀ a, 2 * (pairC n m p a).length + a = a * a
  | 0 => by simp [pairC]
  | a + 1 => by
    have ih := pairC_len n m p a
    have hr : (pairR n m p a a).length = a := by simp [pairR]
    have : (a + 1) * (a + 1) = a * a + 2 * a + 1 := by grind
    rw [pairC_succ, List.length_append, hr]; omega
theorem partA_len (n m : Int) {N t : Nat} (ht : 2 * t + N = N * N) : ∀ i, (partA n m N i).length = i * (1 + t)
  | 0 => by simp [partA]
  | i + 1 => by
    have ih := partA_len n m ht i
    have := mostS_len (rowA n m N i)
    simp only [rowA_length] at this
    rw [partA_succ, List.length_append, Nat.succ_mul, ih]; simp; omega
theorem partB_len (n m : Int) {N t : Nat} (ht : 2 * t + N = N * N) : ∀ i, (partB n m N i).length = i * t
  | 0 => by simp [partB]
  | i + 1 => by
    have ih := partB_len n m ht i
    have := mostS_len (rowB n m N i)
    simp only [rowB_length] at this
    rw [partB_succ, List.length_append, Nat.succ_mul, ih]; omega
theorem partS_len (n m : Int) {M t : Nat} (ht : 2 * t + M = M * M) : ∀ i, (partS n m M i).length = i * (1 + t)
  | 0 => by simp [partS]
  | i + 1 => by
    have ih := partS_len n m ht i
    have := mostS_len (rowS n m M i)
    simp only [rowS_length] at this
    rw [partS_succ, List.length_append, Nat.succ_mul, ih]; simp; omega
theorem exists_tri (N : Nat) : ∃ t, 2 * t + N = N * N := by
  induction N with
  | zero => exact ⟨0, rfl⟩
  | succ n ih => obtain ⟨t, ht⟩ := ih; exact ⟨t + n, by rw [show (n + 1) * (n + 1) = n * n + 2 * n + 1 by grind]; omega⟩
theorem tri_choose {N t : Nat} (h : N ≤ 64) (ht : 2 * t + N = N * N) : chooseS (N : Int) = (t : Int) := by
  have := chooseS_two (a := (N : Int)) (by omega) (by omega)
  have h2 : ((N * N : Nat) : Int) = (N : Int) * N := by simp
  have h3 : (N : Int) * ((N : Int) - 1) = (N : Int) * N - N := by grind
  omega

theorem placesC_len {N : Nat} {m : Int} (h : sizeOk N m = true) : ((placesC N m).length : Int) = placesN N m := by
  have hs := sizeOk_iff.1 h
  obtain ⟨t, ht⟩ := exists_tri N
  have hp := place_facts hs.1 hs.2.1
  rw [placesC, if_pos h, placesN, if_pos h, w64_id (by omega) (by omega), List.length_append]
  simp only [Int.toNat_natCast]
  rw [partA_len _ _ ht, partB_len _ _ ht]
  have h0 : ((N * N : Nat) : Int) = (N : Int) * N := by simp
  have h2 : (2 * t : Int) = (N : Int) * N - N := by omega
  have h3 : ((N * (1 + t) + N * t : Nat) : Int) = N + N * (2 * t) := by push_cast; grind
  rw [h3, h2]; grind

theorem statesC_len {N M : Nat} {i : Int} (h : sizeOk N M = true) (hi : 0 ≤ i ∧ i < M) : ((statesC N M i).length : Int) = statesN N M := by
  have hs := sizeOk_iff.1 h
  obtain ⟨t, ht⟩ := exists_tri M
  have hc := tri_choose (N := M) (by omega) ht
  have c2 := choose_facts (show 0 ≤ (M : Int) by omega) (show (M : Int) ≤ 64 by omega)
  have s0 : 0 ≤ ((N : Int) + 1) * (1 + chooseS M) := Int.mul_nonneg (by omega) (by omega)
  have s1 : ((N : Int) + 1) * (1 + chooseS M) ≤ 65 * 2017 := mulle (by omega) (by omega) (by omega) (by omega)
  rw [statesC, if_pos (by simp [h, hi.1, hi.2]), statesN, if_pos h, w64_id (by omega) (by omega)]
  simp only [Int.toNat_natCast, List.length_cons]
  rw [partS_len _ _ ht, hc]
  push_cast; grind

theorem timesTo_len {N t : Nat} {m : Int} (ht : 2 * t + N = N * N) (ps : List (Int × Int)) (hp : ∀ p ∈ ps, properS p N = true) : ∀ i, i ≤ ps.length → (timesTo N m N ps i).length = i * t
  | 0, _ => by simp [timesTo]
  | i + 1, h => by
    have ih := timesTo_len (m := m) ht ps hp i (by omega)
    have h1 := pairC_len N m ps[i] N
    rw [timesTo_succ _ _ _ _ (show i < ps.length by omega), List.length_append, if_pos (hp _ (List.getElem_mem _)), Nat.succ_mul, ih]
    omega

theorem pairs_proper {ops : List Op5} (ho : okTo ops ops.length) : ∀ p ∈ pairsTo ops ops.length, properS p (ops.length : Int) = true := by
  intro p hp
  simp only [pairsTo, pairsRow, List.mem_flatMap, List.mem_map, List.mem_filter, List.mem_range] at hp
  obtain ⟨a, ha, b, ⟨hb, hah⟩, rfl⟩ := hp
  simp only [List.getD_eq_getElem?_getD, List.getElem?_eq_getElem ha, List.getElem?_eq_getElem hb, Option.getD_some] at hah
  have := ahead_lt ho ha hb hah
  have h1 : ¬ (b : Int) < (a : Int) := by omega
  have h2 : (a : Int) < (b : Int) := by omega
  simp only [properS, if_neg h1, if_pos h2]
  simp; omega

theorem timesC_len {ops : List Op5} {m : Int} (h : sizeOk ops.length m = true) (ho : okTo ops ops.length) (hl : (pairsTo ops ops.length).length ≤ 2016) : ((timesC ops.length m (pairsTo ops ops.length)).length : Int) = timesN ops.length m (pairsTo ops ops.length).length := by
  have hs := sizeOk_iff.1 h
  obtain ⟨t, ht⟩ := exists_tri ops.length
  have hc := tri_choose (N := ops.length) (by omega) ht
  have c1 := choose_facts hs.1 hs.2.1
  have htk : timesOk ops.length m ((pairsTo ops ops.length).length : Nat) = true := timesOk_iff.2 ⟨h, by omega, by omega⟩
  have t0 : 0 ≤ ((pairsTo ops ops.length).length : Int) * chooseS ops.length := Int.mul_nonneg (by omega) c1.1
  have t1 : ((pairsTo ops ops.length).length : Int) * chooseS ops.length ≤ 2016 * 2016 := mulle (by omega) c1.2.1 c1.1 (by omega)
  rw [timesC, if_pos h, timesN, if_pos htk, w64_id (by omega) (by omega)]
  simp only [Int.toNat_natCast]
  rw [timesTo_len ht _ (pairs_proper ho) _ (Nat.le_refl _), hc]; push_cast; rfl

theorem movI_len (o : Obj) (n m : Int) (x : Op5) (M i : Nat) : ∀ k, (movI o n m x M i k).length = k * (M * (if x.e = -1 then 2 else 1))
  | 0 => by simp [movI]
  | k + 1 => by
    have ih := movI_len o n m x M i k
    have hk : ∀ b, (movK o n m x i k b).length = b * (if x.e = -1 then 2 else 1) := by
      intro b
      induction b with
      | zero => simp [movK]
      | succ b ihb => rw [movK_succ, List.length_append, ihb, Nat.succ_mul]; unfold movB; split <;> simp
    rw [movI_succ, List.length_append, ih, hk, Nat.succ_mul]

theorem movTo_len (o : Obj) (n m : Int) (N M : Nat) (ops : List Op5) : ∀ i, i ≤ ops.length → (movTo o n m N M ops i).length = (pendTo ops i).length * (N * (M * 2)) + (i - (pendTo ops i).length) * (1 + N * M)
  | 0, _ => by simp [movTo, pendTo]
  | i + 1, h => by
    have ih := movTo_len o n m N M ops i (by omega)
    have hi : i < ops.length := by omega
    have hpl := pendTo_length ops i
    rw [movTo_succ _ _ _ _ _ hi, pendTo_succ ops hi, List.length_append, List.length_append, movI_len, ih]
    unfold movH
    split
    · rw [List.length_append]
      have e : i + 1 - ((pendTo ops i).length + [(i : Int)].length) = i - (pendTo ops i).length := by simp
      rw [e]
      simp [Nat.add_mul]; omega
    · have e : i + 1 - (pendTo ops i).length = (i - (pendTo ops i).length) + 1 := by omega
      rw [e, Nat.add_mul]; simp; omega

theorem movesC_len {o : Obj} {ops : List Op5} {m : Int} (hP : sizeP o ops = ((ops.length : Int), m)) (h : sizeOk ops.length m = true) : ((movesC o ops).length : Int) = movesN ops.length m (ops.length - (pendTo ops ops.length).length) := by
  have hs := sizeOk_iff.1 h
  obtain ⟨M, hM⟩ := Int.eq_ofNat_of_zero_le (show 0 ≤ m by omega)
  have hM' : m = (M : Int) := hM
  subst hM'
  have hpl := pendTo_length ops ops.length
  have hok : movesOk ops.length M ((ops.length : Int) - (pendTo ops ops.length).length) = true := movesOk_iff.2 ⟨h, by omega, by omega⟩
  rw [movesC, hP, movesN, if_pos hok]
  simp only
  rw [if_pos h]
  simp only [Int.toNat_natCast]
  rw [movTo_len _ _ _ _ _ _ _ (Nat.le_refl _)]
  generalize hp : (pendTo ops ops.length).length = q at hpl ⊢
  generalize hn : ops.length = N at *
  have nm0 : 0 ≤ (N : Int) * M := Int.mul_nonneg (by omega) (by omega)
  have nm1 : (N : Int) * M ≤ 64 * 32 := mulle hs.2.1 hs.2.2.2 (by omega) (by omega)
  have m0 : 0 ≤ ((N : Int) - q) * (1 + (N : Int) * M) := Int.mul_nonneg (by omega) (by omega)
  have m1 : ((N : Int) - q) * (1 + (N : Int) * M) ≤ 64 * 2049 := mulle (by omega) (by omega) (by omega) (by omega)
  have hq : (N : Int) - ((N : Int) - q) = q := by omega
  have nm2 : 2 * (N : Int) * M = 2 * ((N : Int) * M) := Int.mul_assoc 2 _ _
  have m2 : 0 ≤ (q : Int) * (2 * ((N : Int) * M)) := Int.mul_nonneg (by omega) (by omega)
  have m3 : (q : Int) * (2 * ((N : Int) * M)) ≤ 64 * 4096 := mulle (by omega) (by omega) (by omega) (by omega)
  rw [hq, nm2, w64_id (by omega) (by omega)]
  have hc : ((N - q : Nat) : Int) = (N : Int) - q := by omega
  push_cast [hc]
  grind

end Go.AX
