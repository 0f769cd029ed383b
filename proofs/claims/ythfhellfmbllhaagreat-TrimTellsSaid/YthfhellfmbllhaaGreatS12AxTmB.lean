/-
  Contracts: rup: what follows by a chain of hints.
-/
import Derived.Test.YthfhellfmbllhaaGreatS12AxTmA
import Derived.Test.YthfhellfmbllhaaGreatAxAf
namespace Go.AX
open Go.Proofs
set_option linter.unusedSimpArgs false
theorem Weak.frz {k0 : Nat} {st : St} {s e : Nat} {nw : Bool} {rows : List (List PV)} (h : look st.t s = .own nw e rows) : Weak k0 st ⟨(s, .pv (.seq nw e rows)) :: st.t, st.h⟩ := fun g a w _ hs => by
  have h1 : mv st (.tmp s) = .al (.slot s) := by simp [mv, mvS, ev, h]
  have h2 : posGet st (.slot s) = .own nw e rows := h
  have hd : (emb st (.tmp s)).2.2 := by
    unfold emb
    rw [h1]
    simp [embPos, h2, gc, gcS, ev, h]
  obtain ⟨g', t, _, _, s', _⟩ := emb_ok hs (.tmp s) hd
  refine ⟨g', t, ?_⟩
  have he : (emb st (.tmp s)).2.1 = ⟨(s, .pv (.seq nw e rows)) :: st.t, st.h⟩ := by
    unfold emb
    rw [h1]
    simp only [embPos]
    rw [h2]
    rfl
  rw [← he]
  exact s'
set_option maxRecDepth 16000 in
theorem rStep_ok (g : List (List SV)) (l h : List Int) (hl : l.length ≤ 1000000) (hh : h.length ≤ 1000000) : AMut Tryz.prog 187 [.seq false 1 (irow l), .seq false 1 (irow h)] g (fun r g' => g' = g ∧ r = .pv (.tup [.seq true 1 (irow (stpS l h).1), BL (stpS l h).2.1, I64 (stpS l h).2.2])) := by
  refine amutXW [6] [.tmp 4, .tmp 5, .tmp 6] hmo Tryz.func187 (by kernel_rfl) rfl rfl (by kernel_rfl) (Nat.le_of_ble_eq_true rfl) ?_
  have hC := aClause_ok l h hl hh
  have hU := aUnit_ok l h hl hh
  have hcl := clone_ok l hl
  unfold stpS
  have hm1 : clS l h = -1 ↔ clS l h < 0 := by
    have := (cl_gen l h (-1) (by omega)).1
    unfold clS
    omega
  simp
  refine CallK.intro hC (by simp) ?_
  by_cases c1 : clS l h < 0
  · rw [if_pos (hm1.2 c1)]
    have c1' : ¬ 0 ≤ clS l h := by omega
    simp [c1, c1']
    refine CallK.intro hcl (by simp) ?_
    simp [wkP, wkPL]
  rw [if_neg (fun e => c1 (hm1.1 e))]
  have c1' : 0 ≤ clS l h := by omega
  simp [c1, c1']
  refine CallK.intro hU (by simp) ?_
  cases c2 : (unitS l h).2
  · simp [c2, wkP, wkPL, irow]
  · simp
    refine ASem.full ?_
    simp [wkP, wkPL, irow]
    omega
set_option maxRecDepth 16000 in
theorem rChain_ok (g : List (List SV)) (l : List Int) (hs : List (List Int)) (hl : l.length + hs.length ≤ 1000000) (hh : ∀ h ∈ hs, h.length ≤ 1000000) : AMut Tryz.prog 153 [.seq false 1 (irow l), .seq false 1 (hs.map crowF)] g (fun r g' => g' = g ∧ r = .pv (.tup [.seq true 1 (irow (chnF l hs 0).1), I64 (chnF l hs 0).2.1, I64 (chnF l hs 0).2.2])) := by
  refine amutXW [] [.tmp 4, .tmp 5, .tmp 6] hmo Tryz.func153 (by kernel_rfl) rfl rfl (by kernel_rfl) (Nat.le_of_ble_eq_true rfl) ?_
  generalize hF : chnF l hs 0 = F
  have hcl := clone_ok l (by omega)
  simp
  refine CallK.intro hcl (by simp) ?_
  simp
  refine ALoop.intro (S := fun (x : Nat × List Int) => ⟨[(1, .pv (.seq false 1 (hs.map crowF))), (4, .pv (.seq true 1 (irow x.2))), (14, .pv (.seq false 1 (hs.map crowF))), (15, .pv (I64 hs.length)), (16, .pv (I64 x.1))], g⟩) (fun x => x.1 ≤ hs.length ∧ x.2.length ≤ l.length + x.1 ∧ F = chnF x.2 (hs.drop x.1) x.1) (fun x => hs.length - x.1) (0, l) ?_ ⟨Nat.zero_le _, Nat.le_refl _, hF.symm⟩ ?_
  · exact (Weak.frz (s := 4) (e := 1) (nw := true) (rows := irow l) (by simp)).trans (Weak.keep (by simp) rfl)
  clear hF
  rintro ⟨i, l1⟩ ⟨hi, hl1, hF⟩
  dsimp only at hi hl1 hF
  by_cases h : i < hs.length
  rotate_left
  · have hie : i = hs.length := by omega
    subst hie
    rw [List.drop_eq_nil_of_le (Nat.le_refl _), chnF] at hF
    subst hF
    simp [wkP, wkPL]
  have hw : w64 ((i : Int) + 1) = ((i + 1 : Nat) : Int) := by rw [w64_id (by omega) (by omega)]; omega
  have hdr : hs.drop i = hs[i] :: hs.drop (i + 1) := List.drop_eq_getElem_cons h
  rw [hdr, chnF] at hF
  have hst := fun g => rStep_ok g l1 hs[i] (by omega) (hh _ (List.getElem_mem h))
  have hrow := crowF_at hs h
  generalize hs[i] = c at *
  have hS : stpS l1 c = if clS l1 c = -1 then (l1, true, 0) else if (unitS l1 c).2 = true then (l1 ++ [(unitS l1 c).1], false, 0) else ([], false, 22) := rfl
  generalize stpS l1 c = s at *
  simp [h, hrow]
  refine CallK.introM (hst _) (by simp) ?_
  rintro _ _ ⟨rfl, rfl⟩
  by_cases c1 : clS l1 c = -1
  · rw [if_pos c1] at hF hS
    subst hF hS
    simp [wkP, wkPL, hw]
  rw [if_neg c1] at hF hS
  by_cases c2 : (unitS l1 c).2 = true
  · rw [if_pos c2] at hF hS
    subst hS
    simp
    refine ⟨(i + 1, l1 ++ [(unitS l1 c).1]), by (try dsimp only); omega, ⟨by (try dsimp only); omega, by simp; omega, hF⟩, Weak.keep (by simp [hw]) (by simp)⟩
  · rw [if_neg c2] at hF hS
    subst hF hS
    simp [wkP, wkPL, irow]
set_option maxRecDepth 16000 in
theorem rStart_ok (g : List (List SV)) (c : List Int) (hl : c.length ≤ 1000000) : AMut Tryz.prog 152 [.seq false 1 (irow c)] g (fun r g' => g' = g ∧ r = .pv (.tup [.seq true 1 (irow (staR c)), I64 (staE c)])) := by
  refine amutXW [] [.tmp 2, .tmp 3] hmo Tryz.func152 (by kernel_rfl) rfl rfl (by kernel_rfl) (Nat.le_of_ble_eq_true rfl) ?_
  have hE : staE c = if badL c = true then 10 else if tautS c = true then 11 else 0 := rfl
  have hR : staR c = if staE c = 0 then staL c else [] := rfl
  have hT := taut_ok c hl
  generalize staR c = R at *
  generalize staE c = E at *
  simp
  refine ALoop.intro (S := fun (i : Nat) => ⟨[(0, .pv (.seq false 1 (irow c))), (4, .own true 1 (irow (staTo c i))), (8, .pv (.seq false 1 (irow c))), (9, .pv (I64 c.length)), (10, .pv (I64 i))], g⟩) (fun i => i ≤ c.length ∧ ∀ j (h : j < c.length), j < i → 0 ≤ litX c[j]) (fun i => c.length - i) 0 ?_ ⟨Nat.zero_le _, fun j _ h => by omega⟩ ?_
  · exact (Weak.nilOwn (s := 4) 1 true (by simp)).trans (Weak.keep (by simp [staTo, irow]) rfl)
  rintro i ⟨hi, ho⟩
  have hle := staTo_le c i
  by_cases h : i < c.length
  · have hw : w64 ((i : Int) + 1) = ((i + 1 : Nat) : Int) := by rw [w64_id (by omega) (by omega)]; omega
    have hg : c.getD i 0 = c[i] := by rw [List.getD_eq_getElem?_getD, List.getElem?_eq_getElem h]; rfl
    have hsu : staTo c (i + 1) = if c[i] ∈ c.take i then staTo c i else staTo c i ++ [w64 (-c[i])] := by rw [staTo, hg]
    simp [h]
    refine CallK.intro (litNeg_ok c[i]) (by simp) ?_
    cases ho1 : okL c[i]
    · have hn : litN c[i] = 0 := by unfold litN; rw [if_neg (by simp [ho1])]
      have hx : litX c[i] < 0 := by rw [litX_neg]; exact ho1
      have hb : badL c = true := List.any_eq_true.2 ⟨_, List.getElem_mem h, by simpa using hx⟩
      rw [if_pos hb] at hE
      subst hE
      rw [if_neg (by omega)] at hR
      subst hR
      simp [hn, wkP, wkPL, irow]
    · have hr := (okL_iff c[i]).1 ho1
      have hn : litN c[i] = -c[i] := by unfold litN; rw [if_pos ho1]
      have hn0 : litN c[i] ≠ 0 := by omega
      have hx : 0 ≤ litX c[i] := by rw [litX_nn]; exact ho1
      have hwn : w64 (-c[i]) = -c[i] := w64_id (by omega) (by omega)
      rw [hwn] at hsu
      have hmem : (-c[i] ∈ staTo c i) ↔ c[i] ∈ c.take i := by
        rw [staTo_mem c _ i (by omega)]
        constructor
        · rintro ⟨y, hy, e⟩
          obtain ⟨j, hj, e2⟩ := List.getElem_of_mem hy
          rw [List.length_take] at hj
          rw [List.getElem_take] at e2
          have h0 := ho j (by omega) (by omega)
          rw [e2, litX_nn] at h0
          have hry := (okL_iff y).1 h0
          rw [w64_id (by omega) (by omega)] at e
          have : c[i] = y := by omega
          rw [this]; exact hy
        · intro hm
          exact ⟨_, hm, hwn.symm⟩
      have hC := contains_ok (staTo c i) (-c[i]) (by omega)
      have hnn : ¬ c[i] = 0 := hr.1
      simp [hn, hnn]
      refine CallK.intro hC (by simp) ?_
      have hstep : ∀ j (hj : j < c.length), j < i + 1 → 0 ≤ litX c[j] := fun j hj hji => by
        by_cases e : j = i
        · subst e; exact hx
        · exact ho j hj (by omega)
      by_cases d : c[i] ∈ c.take i
      · rw [if_pos d] at hsu
        have d2 := hmem.2 d
        simp [d2]
        exact ⟨i + 1, by (try dsimp only); omega, ⟨by (try dsimp only); omega, hstep⟩, Weak.keep (by simp [hw, hsu]) (by simp)⟩
      · rw [if_neg d] at hsu
        have d2 : -c[i] ∉ staTo c i := fun e => d (hmem.1 e)
        simp [d2]
        exact ⟨by omega, i + 1, by (try dsimp only); omega, ⟨by (try dsimp only); omega, hstep⟩, Weak.keep (by simp [hw, hsu, irow]) (by simp)⟩
  have hie : i = c.length := by omega
  subst hie
  have hb : badL c = false := List.any_eq_false.2 fun x hx => by
    obtain ⟨j, hj, rfl⟩ := List.getElem_of_mem hx
    have := ho j hj hj
    simp; omega
  rw [if_neg (by simp [hb])] at hE
  simp
  refine CallK.intro hT (by simp) ?_
  cases c2 : tautS c
  rotate_left
  · rw [if_pos c2] at hE
    subst hE
    rw [if_neg (by omega)] at hR
    subst hR
    simp [wkP, wkPL, irow]
  rw [if_neg (by simp [c2])] at hE
  subst hE
  rw [if_pos rfl] at hR
  subst hR
  simp [wkP, wkPL, staL]
set_option maxRecDepth 16000 in
theorem rShow_ok (g : List (List SV)) (c : List Int) (hs : List (List Int)) (hl : c.length + hs.length ≤ 1000000) (hh : ∀ h ∈ hs, h.length ≤ 1000000) : AMut Tryz.prog 119 [.seq false 1 (irow c), .seq false 1 (hs.map crowF)] g (fun r g' => g' = g ∧ r = .pv (.tup [I64 (shwS c hs).1, I64 (shwS c hs).2])) := by
  refine amutXW [] [.tmp 4, .tmp 5] hmo Tryz.func119 (by kernel_rfl) rfl rfl (by kernel_rfl) (Nat.le_of_ble_eq_true rfl) ?_
  have hS := fun g => rStart_ok g c (by omega)
  have hle := staTo_le c c.length
  have hC := fun g => rChain_ok g (staL c) hs (by unfold staL; omega) hh
  unfold shwS
  have hR : staR c = if staE c = 0 then staL c else [] := rfl
  simp
  refine CallK.introM (hS _) (by simp) ?_
  rintro _ _ ⟨rfl, rfl⟩
  by_cases c1 : staE c = 0
  · rw [if_pos c1] at hR
    rw [hR]
    simp [c1]
    refine CallK.introM (hC _) (by simp) ?_
    rintro _ _ ⟨rfl, rfl⟩
    simp [wkP, wkPL]
  · simp [c1, wkP, wkPL]
end Go.AX
