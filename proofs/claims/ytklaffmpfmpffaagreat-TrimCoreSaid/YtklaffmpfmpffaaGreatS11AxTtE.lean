/-
  TrimCore: the walk.
-/
import Derived.Test.YtklaffmpfmpffaaGreatS11AxTtD
import Derived.Test.YtklaffmpfmpffaaGreatS11AxTsC
namespace Go.AX
open Go.Proofs
set_option linter.unusedSimpArgs false

theorem core_all {v : Int} {L : List (List Int)} {ss : List Stp} (b1 : L.length ≤ 60) (b2 : ss.length ≤ 60) (b3 : ∀ c ∈ L, c.length ≤ 50) (b4 : ∀ s ∈ ss, s.lits.length ≤ 60 ∧ s.hints.length ≤ 200) (hn : 1 + hintN ss ≤ 1000000) (h : (chkS v L ss).2 = 0) :
    ∃ G R, renR v L ss = .tup [.agg [I64 v, .seq true 1 (G.map crow)], .seq true 4 (R.map stpT), I64 0] ∧ chkS v G R = ((R.length : Int), 0) ∧ G.length ≤ 60 ∧ (∀ c ∈ G, c.length ≤ 50) ∧ R.length ≤ 60 ∧ (∀ s ∈ R, s.lits.length ≤ 60 ∧ s.hints.length ≤ 200) ∧ (plnS v L ss = true → G = (corS v L ss).map (rnRow L)) ∧ (plnS v L ss = false → G = L) := by
  have hN := need_ok (by omega) (by omega) hn h
  obtain ⟨c1, c2, c3⟩ := cor_ok hN
  unfold renR
  rw [if_neg (by simp [h])]
  cases hp : plnS v L ss
  · rw [if_pos rfl]
    refine ⟨L, ss, rfl, ?_, b1, b3, b2, b4, fun e => (by cases e), fun _ => rfl⟩
    obtain ⟨h1, h2⟩ := chkS_zero h
    rw [h2] at h ⊢
    have := chkGo_at ss (newC L) 0 h
    rw [Nat.zero_add] at this
    exact Prod.ext this h
  · rw [if_neg (by simp)]
    have hS := core_stays (v := v) (by omega) (by omega) hn h hp
    have hTl : (trmS v L ss).length ≤ ss.length := List.length_filter_le _ _
    refine ⟨(corS v L ss).map (rnRow L), renS (corS v L ss) (trmS v L ss) (trmS v L ss).length, by rw [List.map_map]; rfl, hS, ?_, ?_, by rw [renS_len _ _ _ (Nat.le_refl _)]; omega, ?_, fun _ => rfl, fun e => (by cases e)⟩
    · rw [List.length_map]
      rcases rise_len _ 1 L.length c1 c3 with h | h
      · omega
      · rw [h]; exact Nat.zero_le _
    · intro c hc
      obtain ⟨x, hx, rfl⟩ := List.mem_map.1 hc
      have := c3 x hx
      unfold rnRow
      rw [List.getD_eq_getElem?_getD, List.getElem?_eq_getElem (show (x - 1).toNat < L.length by omega)]
      exact b3 _ (List.getElem_mem _)
    · intro s hs
      rw [renS_all] at hs
      obtain ⟨t, ht, _, e1, e2⟩ := renGo_mem _ _ _ s hs
      rw [e1, e2]
      exact b4 t (List.mem_filter.1 ht).1
theorem subS_self (c : List Int) : subS c c = true := by
  unfold subS
  rw [List.all_eq_true]
  intro x hx
  unfold hasS
  rw [decide_eq_true hx]
  cases okL x <;> rfl
theorem cor_err {v : Int} {L : List (List Int)} {ss : List Stp} (h : (chkS v L ss).2 ≠ 0) : corS v L ss = [] ∧ renR v L ss = .tup [.agg [I64 0, .lit (.slice none 0 0)], .lit (.slice none 0 0), I64 (chkS v L ss).2] := by
  constructor
  · unfold corS nedS
    rw [if_pos h]; rfl
  · unfold renR
    rw [if_pos h]
set_option maxRecDepth 16000 in
theorem trimCore_ok (v : Int) (L : List (List Int)) (ss : List Stp) (m : List Bool) : APure Tryz.prog 5 [.agg [I64 v, .seq false 1 (L.map crowF)], .seq false 4 (ss.map stpR), .seq false 1 (brow m)] (fun r => r = .pv (BL true)) := by
  refine apure1 hmo Tryz.func5 (by kernel_rfl) rfl rfl (by kernel_rfl) (Nat.le_of_ble_eq_true rfl) ?_
  have kF := few43_ok v L ss
  cases hF : few43B L ss
  · rw [hF] at kF
    simp
    refine CallK.intro kF (by simp) ?_
    simp
    refine CallK.intro awake43_ok (by simp) ?_
    simp
  rw [hF] at kF
  by_cases hm : 200 < m.length
  · have hm' : (200 : Int) < m.length := by omega
    simp
    refine CallK.intro kF (by simp) ?_
    simp [hm, hm']
    refine CallK.intro awake43_ok (by simp) ?_
    simp
  have hm' : ¬ (200 : Int) < m.length := by omega
  obtain ⟨b1, b2, b3, b4⟩ := few43_le hF
  have hN : 1 + hintN ss ≤ 1000000 := by
    have := hintN_le (b := 200) (ss := ss) (fun s hs => (b4 s hs).2)
    have : ss.length * 200 ≤ 60 * 200 := Nat.mul_le_mul_right _ b2
    omega
  have hNeed : (chkS v L ss).2 = 0 → NeedOk v L ss := need_ok (by omega) (by omega) hN
  have hk : (chkS v L ss).2 = 0 → (∀ q ∈ neeM v L ss, wfI q.1) ∧ (neeM v L ss).length ≤ 1000000 ∧ nedS v L ss ≠ [] ∧ (nedS v L ss).length ≤ 1000000 := fun h => ⟨(hNeed h).w, (hNeed h).n, (hNeed h).ne, (hNeed h).len⟩
  have hCor : (chkS v L ss).2 = 0 → (corS v L ss).Pairwise (· < ·) ∧ ∀ x ∈ corS v L ss, 1 ≤ x ∧ x ≤ L.length := fun h => ⟨(cor_ok (hNeed h)).1, (cor_ok (hNeed h)).2.2⟩
  have kC := Core_ok v L ss (by omega) (fun c hc => by have := b3 c hc; omega) (fun s hs => by have := b4 s hs; omega) hk
  have kR := Renumber_ok v L ss (by omega) (fun c hc => by have := b3 c hc; omega) (fun s hs => by have := b4 s hs; omega) hk (fun h _ => (hCor h).2)
  have kP := plain_ok v L ss (by omega) (fun c hc => by have := b3 c hc; omega) (fun s hs => by have := b4 s hs; omega)
  have hAll := fun h => core_all (v := v) b1 b2 b3 b4 hN h
  have hErr := fun h => cor_err (v := v) (L := L) (ss := ss) h
  have hUn : ∀ G R, chkS v G R = ((R.length : Int), 0) → G.length ≤ 60 → (∀ c ∈ G, c.length ≤ 50) → (∀ s ∈ R, s.lits.length ≤ 60 ∧ s.hints.length ≤ 200) → ¬ firstS G m < 0 := fun G R h1 h2 h3 h4 => chk_first (by omega) (fun c hc => by have := h3 c hc; omega) (fun s hs => by have := h4 s hs; omega) (by rw [h1]) m
  generalize corS v L ss = C at *
  generalize plnS v L ss = P at *
  generalize renR v L ss = RR at *
  clear hNeed hk
  generalize chkS v L ss = E at *
  obtain ⟨c1, c2⟩ := E
  simp only at *
  simp
  refine CallK.intro kF (by simp) ?_
  simp [hm, hm']
  refine CallK.introX (CallX.pureM (p := []) (q := []) (zs := [.agg [I64 v, .seq false 1 (L.map crowF)], .seq false 4 (ss.map stpR)]) (y := .tup [.seq false 1 (irow C), I64 c2]) (kC.mono fun r h' ⟨_, e⟩ => e) (by simp) rfl (by simp [argsPv]) (by simp) (by simp) ?_)
  simp
  by_cases c : c2 = 0
  rotate_left
  · obtain ⟨e1, e2⟩ := hErr c
    subst e1 e2
    refine CallK.intro kR (by simp) ?_
    simp [c]
    refine CallG.intro (fun _ => awake43_ok) (by simp) ?_
    simp
  subst c
  obtain ⟨G, R, rfl, g1, g2, g3, g4, g5, g6, g7⟩ := hAll rfl
  obtain ⟨r1, r2⟩ := hCor rfl
  have hUn := hUn G R g1 g2 g3 g5
  have kC2 := lcheck_ok v G R (by omega) (fun c hc => by have := g3 c hc; omega) (fun s hs => by have := g5 s hs; omega)
  have kFi := refFirst_ok v G m (by omega) (fun c hc => by have := g3 c hc; omega)
  rw [g1] at kC2
  simp only at kC2
  refine CallK.intro kR (by simp [nwR_stpT]) ?_
  simp
  refine CallK.intro kC2 (by simp) ?_
  simp
  have hGC : P = true → G.length = C.length := fun e => by rw [g6 e, List.length_map]
  have kS : ∀ c ∈ G, APure Tryz.prog 25 [.seq false 1 (irow c), .seq false 1 (irow c)] (fun r => r = .pv (BL true)) := fun c hc => by
    have := refSubset_ok c c (by have := g3 c hc; omega) (by have := g3 c hc; omega)
    rwa [subS_self] at this
  refine CallG.intro (fun _ => kP) (by simp) ?_
  have hq : ¬ (¬ G.length = C.length ∧ P = true) := fun h => h.1 (hGC h.2)
  simp [hq]
  refine ⟨fun e => ?_, fun _ => ?_⟩
  · cases P
    · rfl
    · exact absurd (by rw [hGC rfl]) e
  refine ALoop.intro (S := fun (i : Nat) => ⟨[(1, .pv (.seq false 4 (ss.map stpR))), (2, .pv (.seq false 1 (brow m))), (3, .pv (.ptr 0 0)), (7, .pv (.seq false 1 (irow C))), (9, .pv (.ptr 1 0)), (14, .pv (I64 i))], [[.pv (I64 v), .pv (.seq false 1 (L.map crowF))], [.pv (I64 v), .pv (.seq true 1 (G.map crow))]]⟩) (fun i => i ≤ C.length) (fun i => C.length - i) 0 ?_ (Nat.zero_le _) ?_
  · exact Weak.keep (by simp) (by simp)
  intro i hi
  have hCl : C.length ≤ 60 := by
    rcases rise_len _ 1 L.length r1 r2 with h | h
    · omega
    · rw [h]; exact Nat.zero_le _
  by_cases d : i < C.length
  rotate_left
  · have : i = C.length := by omega
    subst this
    simp
    refine CallK.intro kFi (by simp) ?_
    simp [hUn]
    refine CallG.intro (fun _ => awake43_ok) (by simp) ?_
    simp
    omega
  have hw : w64 ((i : Int) + 1) = ((i + 1 : Nat) : Int) := by rw [w64_id (by omega) (by omega)]; omega
  have hq : C[i]? = some C[i] := List.getElem?_eq_getElem d
  obtain ⟨x1, x2⟩ := r2 _ (List.getElem_mem d)
  have x1' : ¬ C[i] < 1 := by omega
  have x2' : ¬ (L.length : Int) < C[i] := by omega
  obtain ⟨e, he⟩ : ∃ e : Nat, C[i] = ((e + 1 : Nat) : Int) := ⟨C[i].toNat - 1, by omega⟩
  have hid : w64 (C[i] - 1) = (e : Int) := by rw [w64_id (by omega) (by omega)]; omega
  have hlt : e < L.length := by omega
  have hqe : L[e]? = some L[e] := List.getElem?_eq_getElem hlt
  have hiG : i < G.length := by
    cases P
    · rw [g7 rfl]
      rcases rise_len _ 1 L.length r1 r2 with h | h
      · omega
      · rw [h] at d; exact absurd d (Nat.not_lt_zero _)
    · rw [hGC rfl]; exact d
  have hqg : G[i]? = some G[i] := List.getElem?_eq_getElem hiG
  have hkG := kS _ (List.getElem_mem hiG)
  have hLG : P = true → L[e] = G[i] := fun h => by
    have h1 : G[i]? = (C.map (rnRow L))[i]? := by rw [g6 h]
    rw [hqg, List.getElem?_map, hq] at h1
    injection h1 with h1
    rw [h1, he]
    unfold rnRow
    rw [List.getD_eq_getElem?_getD, show (((e + 1 : Nat) : Int) - 1).toNat = e by omega, hqe]
    rfl
  cases P
  · skip
    by_cases i0 : i = 0
    · subst i0
      simp [d, hq, x1', x2']
      refine CallQ0.intro kP (by simp) ?_
      simp [d, hq, x1', x2', hqg, crow, crowF, hid, hlt, hqe, hiG]
      refine CallQ.intro (fun h : False => h.elim) (r := .pv (BL true)) (by simp) ?_
      simp [d, hq, x1', x2', hqg, crow, crowF, hid, hlt, hqe, hiG]
      refine CallQ.intro (fun h : False => h.elim) (r := .pv (BL true)) (by simp) ?_
      simp
      exact ⟨1, by (try dsimp only); omega, by (try dsimp only); omega, Weak.keep (by simp [show w64 1 = 1 from w64_id (by omega) (by omega)]) (by simp [crow])⟩
    · obtain ⟨k, rfl⟩ : ∃ k, i = k + 1 := ⟨i - 1, by omega⟩
      have hk : k < C.length := by omega
      have hqk : C[k]? = some C[k] := List.getElem?_eq_getElem hk
      have x3 : ¬ C[k + 1] ≤ C[k] := by
        have := List.pairwise_iff_getElem.1 r1 k (k + 1) (by omega) d (by omega)
        omega
      have hwk : w64 (k : Int) = (k : Int) := w64_id (by omega) (by omega)
      have d' : (k : Int) + 1 < (C.length : Int) := by omega
      have d2 : (k : Int) + 1 < (G.length : Int) := by omega
      have d3 : 0 ≤ (k : Int) + 1 := by omega
      have hw' : w64 ((k : Int) + 1 + 1) = (k : Int) + 1 + 1 := w64_id (by omega) (by omega)
      simp [d, d', d3, hk, hq, hqk, x1', x2', x3, hwk]
      refine CallQ0.intro kP (by simp) ?_
      simp [d, d', d2, d3, hq, x1', x2', hqg, crow, crowF, hid, hlt, hqe, hiG]
      refine CallQ.intro (fun h : False => h.elim) (r := .pv (BL true)) (by simp) ?_
      simp [d, d', d2, d3, hq, x1', x2', hqg, crow, crowF, hid, hlt, hqe, hiG]
      refine CallQ.intro (fun h : False => h.elim) (r := .pv (BL true)) (by simp) ?_
      simp
      exact ⟨k + 1 + 1, by (try dsimp only); omega, by (try dsimp only); omega, Weak.keep (by simp [hw']) (by simp [crow])⟩
  · have hk1 : APure Tryz.prog 25 [.seq false 1 (irow G[i]), .seq false 1 (irow L[e])] (fun r => r = .pv (BL true)) := by rw [hLG rfl]; exact hkG
    have hk2 : APure Tryz.prog 25 [.seq false 1 (irow L[e]), .seq false 1 (irow G[i])] (fun r => r = .pv (BL true)) := by rw [hLG rfl]; exact hkG
    by_cases i0 : i = 0
    · subst i0
      simp [d, hq, x1', x2']
      refine CallQ0.intro kP (by simp) ?_
      simp [d, hq, x1', x2', hqg, crow, crowF, hid, hlt, hqe, hiG]
      refine CallQ.intro (fun _ => hk1) (by simp) ?_
      simp [d, hq, x1', x2', hqg, crow, crowF, hid, hlt, hqe, hiG]
      refine CallQ.intro (fun _ => hk2) (by simp) ?_
      simp
      exact ⟨1, by (try dsimp only); omega, by (try dsimp only); omega, Weak.keep (by simp [show w64 1 = 1 from w64_id (by omega) (by omega)]) (by simp [crow])⟩
    · obtain ⟨k, rfl⟩ : ∃ k, i = k + 1 := ⟨i - 1, by omega⟩
      have hk : k < C.length := by omega
      have hqk : C[k]? = some C[k] := List.getElem?_eq_getElem hk
      have x3 : ¬ C[k + 1] ≤ C[k] := by
        have := List.pairwise_iff_getElem.1 r1 k (k + 1) (by omega) d (by omega)
        omega
      have hwk : w64 (k : Int) = (k : Int) := w64_id (by omega) (by omega)
      have d' : (k : Int) + 1 < (C.length : Int) := by omega
      have d2 : (k : Int) + 1 < (G.length : Int) := by omega
      have d3 : 0 ≤ (k : Int) + 1 := by omega
      have hw' : w64 ((k : Int) + 1 + 1) = (k : Int) + 1 + 1 := w64_id (by omega) (by omega)
      simp [d, d', d3, hk, hq, hqk, x1', x2', x3, hwk]
      refine CallQ0.intro kP (by simp) ?_
      simp [d, d', d2, d3, hq, x1', x2', hqg, crow, crowF, hid, hlt, hqe, hiG]
      refine CallQ.intro (fun _ => hk1) (by simp) ?_
      simp [d, d', d2, d3, hq, x1', x2', hqg, crow, crowF, hid, hlt, hqe, hiG]
      refine CallQ.intro (fun _ => hk2) (by simp) ?_
      simp
      exact ⟨k + 1 + 1, by (try dsimp only); omega, by (try dsimp only); omega, Weak.keep (by simp [hw']) (by simp [crow])⟩
end Go.AX
