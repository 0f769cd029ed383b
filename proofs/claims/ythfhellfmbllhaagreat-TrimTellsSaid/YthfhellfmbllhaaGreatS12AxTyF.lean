/-
  TrimTells: the walk.
-/
import Derived.Test.YthfhellfmbllhaaGreatS12AxTyE
import Derived.Test.YthfhellfmbllhaaGreatS12AxTsC
namespace Go.AX
open Go.Proofs
set_option linter.unusedSimpArgs false
theorem PV.as_agg43 {xs ys : List PV} (hc : asL xs ys) : PV.as (.agg xs) (.agg ys) := fun w v h => by
  obtain ⟨a, rfl, hf⟩ := h
  exact ⟨a, rfl, asL_fit hc hf⟩
theorem refSame4_ok (v1 v2 : Int) (a b : List (List Int)) (hl : a.length ≤ 140737488355328) (hr : ∀ x ∈ a, x.length ≤ 140737488355328) : APure Tryz.prog 26 [.agg [I64 v1, .seq false 1 (a.map crowF)], .agg [I64 v2, .seq false 1 (b.map crowF)]] (fun r => r = .pv (BL (decide (v1 = v2) && decide (a = b)))) := by
  refine apure1 hmo Tryz.func26 (by kernel_rfl) rfl rfl (by kernel_rfl) (Nat.le_of_ble_eq_true rfl) ?_
  have h := sameRows_ok a b hl hr
  simp
  refine CallG.intro (fun _ => h) (by simp) ?_
  simp
theorem needD_same {v : Int} {L : List (List Int)} {ss : List Stp} (hL : L.length ≤ 100000) (hs : ss.length ≤ 100000) (hn : 1 + hintN ss ≤ 1000000) : NeedD v L ss (nedS v L ss) := by
  have hc := chk_same v hL ss
  have hp := pln_same v hL ss
  refine ⟨fun h => ?_, fun h h2 => ?_, fun h h2 => ?_, ?_⟩
  · rw [hc] at h; unfold nedS; rw [if_pos h]
  · rw [hc] at h; rw [hp] at h2; exact all_need hL h h2
  · rw [hc] at h; rw [hp] at h2; exact (need_least hL hs hn h h2).1
  · by_cases h : (chkS v L ss).2 = 0
    · exact (need_ok hL hs hn h).len
    · unfold nedS; rw [if_pos h]; exact Nat.zero_le _
set_option maxRecDepth 16000 in
theorem trimTells_ok (v : Int) (L : List (List Int)) (ss : List Stp) : APure Tryz.prog 5 [.agg [I64 v, .seq false 1 (L.map crowF)], .seq false 4 (ss.map stpR)] (fun r => r = .pv (BL true)) := by
  refine apure1 hmo Tryz.func5 (by kernel_rfl) rfl rfl (by kernel_rfl) (Nat.le_of_ble_eq_true rfl) ?_
  have kF := few43_ok v L ss
  cases hF : few43B L ss
  · rw [hF] at kF
    simp
    refine CallK.intro kF (by simp) ?_
    simp
    refine CallK.intro awake43_ok (by simp) ?_
    simp
  rw [hF] at kF
  obtain ⟨b1, b2, b3, b4⟩ := few43_le hF
  have q3 : ∀ c ∈ L, c.length ≤ 100000 := fun c hc => by have := b3 c hc; omega
  have q4 : ∀ s ∈ ss, s.lits.length ≤ 100000 ∧ s.hints.length ≤ 1000 := fun s hs => by have := b4 s hs; omega
  have q5 : ∀ s ∈ ss, s.lits.length ≤ 100000 ∧ s.hints.length ≤ 100000 := fun s hs => by have := b4 s hs; omega
  have hN : 1 + hintN ss ≤ 1000000 := by
    have := hintN_le (b := 200) (ss := ss) (fun s hs => (b4 s hs).2)
    have : ss.length * 200 ≤ 60 * 200 := Nat.mul_le_mul_right _ b2
    omega
  have hL1 : L.length ≤ 100000 := by omega
  have hS1 : ss.length ≤ 100000 := by omega
  have hNeed : (chkS v L ss).2 = 0 → NeedOk v L ss := need_ok hL1 hS1 hN
  have hk : (chkS v L ss).2 = 0 → (∀ q ∈ neeM v L ss, wfI q.1) ∧ (neeM v L ss).length ≤ 1000000 ∧ nedS v L ss ≠ [] ∧ (nedS v L ss).length ≤ 1000000 := fun h => ⟨(hNeed h).w, (hNeed h).n, (hNeed h).ne, (hNeed h).len⟩
  have hCor : (chkS v L ss).2 = 0 → (corS v L ss).Pairwise (· < ·) ∧ ∀ x ∈ corS v L ss, 1 ≤ x ∧ x ≤ L.length := fun h => ⟨(cor_ok (hNeed h)).1, (cor_ok (hNeed h)).2.2⟩
  have kN := Needed_ok v L ss (by omega) q3 q5 (fun h => ⟨(hk h).1, (hk h).2.1⟩)
  have kT := Trim_ok v L ss (by omega) q3 q5
  have kC := Core_ok v L ss (by omega) q3 q5 hk
  have kR := Renumber_ok v L ss (by omega) q3 q5 hk (fun h _ => (hCor h).2)
  have kP := plain_ok v L ss (by omega) q3 q5
  have hD := needD_same (v := v) hL1 hS1 hN
  have hNp : ∀ x ∈ nedS v L ss, 1 ≤ x := fun x hx => by
    by_cases h : (chkS v L ss).2 = 0
    · exact ((hNeed h).one x hx).1
    · unfold nedS at hx; rw [if_pos h] at hx; exact absurd hx List.not_mem_nil
  have dN := r43Needed_ok v L ss (by omega) (by omega) q3 q4 _ hD.bad hD.all hD.one hD.len
  have dT := r43Trim_ok v L ss (by omega) (by omega) q3 q4 _ hD
  have dC := r43Core_ok v L ss (by omega) (by omega) q3 q4 _ hD
  have dR := r43Renumber_ok v L ss (by omega) (by omega) q3 q4 _ hD hNp
  have dP := rplain_ok v L ss (by omega) (by omega) q3 q4
  have hcs : delS (fun id => decide ((L.length : Int) < id)) (nedS v L ss) = corS v L ss := rfl
  unfold renD at dR
  rw [chk_same v hL1] at dN dT dC dR
  rw [pln_same v hL1] at dT dR dP
  rw [hcs] at dC dR
  have hNl : (nedS v L ss).length ≤ 1000000 := hD.len
  have hCl : (corS v L ss).length ≤ 1000000 := Nat.le_trans (delS_len _ _) hNl
  have hts := fun h => trm_same (v := v) hL1 hS1 hN h
  have hrs := fun h hp => ren_same (v := v) hL1 hS1 hN h hp
  have hne : (chkS v L ss).2 ≠ 0 → nedS v L ss = [] := fun h => by unfold nedS; rw [if_pos h]
  have hTl : (trmS v L ss).length ≤ ss.length := List.length_filter_le _ _
  have hTs : ∀ s ∈ trmS v L ss, s.lits.length ≤ 60 ∧ s.hints.length ≤ 200 := fun s h => b4 s (List.mem_filter.1 h).1
  have hRw : ∀ id, (rnRow L id).length ≤ 50 := fun id => by
    unfold rnRow
    rw [List.getD_eq_getElem?_getD]
    cases e : L[(id - 1).toNat]? with
    | none => exact Nat.zero_le _
    | some x => exact b3 x (List.mem_of_getElem? e)
  have nl1 := sameInts_ok (nedS v L ss) (nedS v L ss) (by omega)
  have nl2 := sameInts_ok (corS v L ss) (corS v L ss) (by omega)
  rw [decide_eq_true rfl] at nl1 nl2
  have hcE : (chkS v L ss).2 ≠ 0 → corS v L ss = [] := fun h => by unfold corS; rw [hne h]; rfl
  unfold renR at kR
  have kA := awake43_ok
  clear hNeed hk hCor hD hNp hcs
  generalize nedS v L ss = N at *
  generalize corS v L ss = C at *
  generalize trmS v L ss = T at *
  generalize plnS v L ss = P at *
  generalize chkS v L ss = E at *
  obtain ⟨e1, e2⟩ := E
  simp only at *
  simp
  refine CallK.intro kF (by simp) ?_
  simp
  refine CallK.intro kN (by simp) ?_
  simp
  refine CallK.introX (CallX.pureM (p := []) (q := []) (zs := [.agg [I64 v, .seq false 1 (L.map crowF)], .seq false 4 (ss.map stpR)]) (y := .tup [.seq false 1 (irow N), I64 e2]) (dN.mono fun r h' ⟨_, e⟩ => e) (by simp) rfl (by simp [argsPv]) (by simp) (by simp) ?_)
  simp
  by_cases c : e2 = 0
  rotate_left
  · rw [if_pos c] at kT kR dT dR
    have h1 := hne c
    have h2 := hcE c
    subst h1 h2
    have s1 : APure Tryz.prog 26 [.agg [I64 0, .lit (.slice none 0 0)], .agg [I64 0, .lit (.slice none 0 0)]] (fun r => r = .pv (BL true)) := (show APure Tryz.prog 26 [.agg [I64 0, .seq false 1 (([] : List (List Int)).map crowF)], .agg [I64 0, .seq false 1 (([] : List (List Int)).map crowF)]] (fun r => r = .pv (BL true)) from refSame4_ok 0 0 [] [] (by decide) (by decide)).conv ⟨_, _, rfl, PV.as_agg43 ⟨_, _, rfl, PV.as.refl _, _, _, rfl, PV.as_nil 1, rfl⟩, _, _, rfl, PV.as_agg43 ⟨_, _, rfl, PV.as.refl _, _, _, rfl, PV.as_nil 1, rfl⟩, rfl⟩
    have s2 : APure Tryz.prog 25 [.lit (.slice none 0 0), .lit (.slice none 0 0)] (fun r => r = .pv (BL true)) := (show APure Tryz.prog 25 [.seq false 4 (([] : List Stp).map stpR), .seq false 4 (([] : List Stp).map stpR)] (fun r => r = .pv (BL true)) from sameSt_ok [] [] (by decide) (by simp)).conv ⟨_, _, rfl, PV.as_nil 4, _, _, rfl, PV.as_nil 4, rfl⟩
    refine CallK.intro kT (by simp) ?_
    simp
    refine CallK.introX (CallX.pureM (p := []) (q := []) (zs := [.agg [I64 v, .seq false 1 (L.map crowF)], .seq false 4 (ss.map stpR)]) (y := .tup [.lit (.slice none 0 0), I64 e2]) (dT.mono fun r h' ⟨_, e⟩ => e) (by simp) rfl (by simp [argsPv]) (by simp) (by simp) ?_)
    simp
    refine CallK.introX (CallX.pureM (p := []) (q := []) (zs := [.agg [I64 v, .seq false 1 (L.map crowF)], .seq false 4 (ss.map stpR)]) (y := .tup [.seq false 1 (irow []), I64 e2]) (kC.mono fun r h' ⟨_, e⟩ => e) (by simp) rfl (by simp [argsPv]) (by simp) (by simp) ?_)
    simp
    refine CallK.introX (CallX.pureM (p := []) (q := []) (zs := [.agg [I64 v, .seq false 1 (L.map crowF)], .seq false 4 (ss.map stpR)]) (y := .tup [.seq false 1 (irow []), I64 e2]) (dC.mono fun r h' ⟨_, e⟩ => e) (by simp) rfl (by simp [argsPv]) (by simp) (by simp) ?_)
    simp
    refine CallK.intro kR (by simp) ?_
    simp
    refine CallK.introX (CallX.pureM (p := []) (q := []) (zs := [.agg [I64 v, .seq false 1 (L.map crowF)], .seq false 4 (ss.map stpR)]) (y := .tup [.agg [I64 0, .lit (.slice none 0 0)], .lit (.slice none 0 0), I64 e2]) (dR.mono fun r h' ⟨_, e⟩ => e) (by simp) rfl (by simp [argsPv]) (by simp) (by simp) ?_)
    simp
    refine CallQ0.intro kP (by simp) ?_
    simp
    refine CallQ0.intro dP (by simp) ?_
    simp
    refine CallQ.intro (fun _ => nl1) (by simp) ?_
    simp
    refine CallQ.intro (fun _ => s2) (by simp) ?_
    simp
    refine CallQ.intro (fun _ => nl2) (by simp) ?_
    simp
    refine CallQ.intro (fun _ => s1) (by simp) ?_
    simp
    refine CallQ.intro (fun _ => s2) (by simp) ?_
    simp
    refine CallQ.intro (fun _ => kA) (by simp) ?_
    simp
  subst c
  have hts := hts rfl
  rw [if_neg (by simp)] at kT kR dT dR
  rw [hts] at dT
  have key : ∃ (G : List (List Int)) (R : List Stp), APure Tryz.prog 21 [.agg [I64 v, .seq false 1 (L.map crowF)], .seq false 4 (ss.map stpR)] (fun r => r = .pv (.tup [.agg [I64 v, .seq true 1 (G.map crow)], .seq true 4 (R.map stpT), I64 0])) ∧
      (∃ rows, (∀ q, frzR q rows = R.map stpR) ∧ (∀ k, belowR k rows) ∧ AMut Tryz.prog 22 [.agg [I64 v, .seq false 1 (L.map crowF)], .seq false 4 (ss.map stpR)] [] (fun r g' => r = .pv (.tup [.agg [I64 v, .seq false 1 (G.map crowF)], .seq false 4 rows, I64 0]))) ∧
      G.length ≤ 1000000 ∧ (∀ x ∈ G, x.length ≤ 50) ∧ R.length ≤ 60 ∧ ∀ s ∈ R, s.lits.length ≤ 60 ∧ s.hints.length ≤ 200 := by
    cases P
    · rw [if_pos rfl] at kR dR
      exact ⟨L, ss, kR, ⟨_, fun q => frzR_stpR q _, fun k => belowR_stpR k _, dR.mono fun _ _ h => h.2⟩, by omega, b3, b2, b4⟩
    · rw [if_neg (by simp)] at kR dR
      rw [hrs rfl rfl] at kR
      rw [hts] at dR
      refine ⟨C.map (rnRow L), T.map (stpAt N), ?_, ?_, by simpa using hCl, fun x hx => ?_, by rw [List.length_map]; omega, fun s hs => ?_⟩
      · rw [List.map_map]; exact kR
      · refine ⟨(T.map (stpAt N)).map stpM, fun q => by rw [frzR_stpM], fun k => belowR_stpM k _, ?_⟩
        rw [List.map_map, List.map_map]; exact dR.mono fun _ _ h => h.2
      · obtain ⟨id, _, rfl⟩ := List.mem_map.1 hx; exact hRw id
      · obtain ⟨t, ht, rfl⟩ := List.mem_map.1 hs
        have := hTs t ht
        exact ⟨this.1, by show (t.hints.map _).length ≤ _; rw [List.length_map]; exact this.2⟩
  obtain ⟨G, R, kR', ⟨rows, fr, fb, dR'⟩, g1, g2, g3, g4⟩ := key
  have s1 := refSame4_ok v v G G (by omega) (fun x hx => by have := g2 x hx; omega)
  have s2 := sameSt_ok T T (by omega) (fun s hs => by have := hTs s hs; omega)
  have s3 := sameSt_ok R R (by omega) (fun s hs => by have := g4 s hs; omega)
  rw [decide_eq_true rfl] at s2 s3
  rw [decide_eq_true rfl, decide_eq_true rfl, Bool.and_self] at s1
  refine CallK.intro kT (by simp [nwR_stpT]) ?_
  simp
  refine CallK.introX (CallX.pureM (p := []) (q := []) (zs := [.agg [I64 v, .seq false 1 (L.map crowF)], .seq false 4 (ss.map stpR)]) (y := .tup [.seq false 4 (T.map stpR), I64 0]) (dT.mono fun r h' ⟨_, e⟩ => e) (by simp) rfl (by simp [argsPv]) (by simp) (by simp) ?_)
  simp
  refine CallK.introX (CallX.pureM (p := []) (q := []) (zs := [.agg [I64 v, .seq false 1 (L.map crowF)], .seq false 4 (ss.map stpR)]) (y := .tup [.seq false 1 (irow C), I64 0]) (kC.mono fun r h' ⟨_, e⟩ => e) (by simp) rfl (by simp [argsPv]) (by simp) (by simp) ?_)
  simp
  refine CallK.introX (CallX.pureM (p := []) (q := []) (zs := [.agg [I64 v, .seq false 1 (L.map crowF)], .seq false 4 (ss.map stpR)]) (y := .tup [.seq false 1 (irow C), I64 0]) (dC.mono fun r h' ⟨_, e⟩ => e) (by simp) rfl (by simp [argsPv]) (by simp) (by simp) ?_)
  simp
  refine CallK.intro kR' (by simp [nwR_stpT]) ?_
  simp
  refine CallK.introX (CallX.pureM (p := []) (q := []) (zs := [.agg [I64 v, .seq false 1 (L.map crowF)], .seq false 4 (ss.map stpR)]) dR' (by simp) rfl (by simp [argsPv]) (by simp [fb]) (by simp [fb]) ?_)
  simp
  refine CallQ0.intro kP (by simp) ?_
  simp
  refine CallQ0.intro dP (by simp) ?_
  simp
  refine CallQ.intro (fun _ => nl1) (by simp) ?_
  simp
  refine CallQ.intro (fun _ => s2) (by simp) ?_
  simp
  refine CallQ.intro (fun _ => nl2) (by simp) ?_
  simp
  refine CallQ.intro (fun _ => s1) (by simp) ?_
  simp [fr]
  refine CallQ.intro (fun _ => s3) (by simp) ?_
  simp
  refine CallQ.intro (fun _ => kA) (by simp) ?_
  simp
end Go.AX
