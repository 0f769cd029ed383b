/-
  Contracts: ShortenShown.
-/
import Derived.Test.YtklaffmpfmpffaaGreatS11AxRnU
import Derived.Test.YtklaffmpfmpffaaGreatS11AxRnX
namespace Go.AX
open Go.Proofs
set_option linter.unusedSimpArgs false

structure ShoOk (D : DK) (L S : List Int) : Prop where
  sub : ∀ y ∈ S, y ∈ L
  neg : AllNeg D S
  len : S.length ≤ 7
  yes : (hinS D.A D.T S D.con).2 = true
  some : (L = [] ∧ S = []) ∨ ∃ u r r', L = u :: r ∧ S = u :: r' ∧ asrS D.T S = true
  lev : backS D.T S ≤ backS D.T L
  subs : subS S L = true
theorem sho_ok {cs : List (List Int)} {ats : List Int} {D : DK} (h : DeskI cs ats D) (hC : Conf D D.con) {L : List Int} (hL : Learnt D L) (hk : ∀ y ∈ litsA D.A D.con, HOk D.A D.T L y) : ShoOk D L (shoS D.A D.T L) := by
  have hT := h.ok.rel.1
  have hd := hT.dep
  have hN := learnt_neg hL
  have hsub : ∀ y ∈ shoS D.A D.T L, y ∈ L := fun y hy => (sho_sub D.A D.T L).subset hy
  have hll := learn_len h.toDeskT hL
  have hv : ∀ y ∈ L, valT D.T y = -1 := fun y hy => by
    obtain ⟨_, j, hj, e, _⟩ := hL.neg y hy
    exact val_of h.toDeskT hj e
  have hp : ∀ y ∈ L, 0 < lvl D.T y := fun y hy => by
    obtain ⟨_, j, hj, e, e2⟩ := hL.neg y hy
    rw [lvl_at hT h.facts hj e]
    exact e2
  have hne : L ≠ [] → ∃ u r, L = u :: r ∧ lvl D.T u = D.t.dep ∧ ∀ y ∈ r, lvl D.T y < D.t.dep := fun hh => by
    refine hL.top ?_
    have := h.facts.dep
    rcases Int.lt_or_le 0 D.t.dep with c | c
    · exact c
    · exact absurd (hL.nil (by omega)) hh
  refine ⟨hsub, fun y hy => hN y (hsub y hy), by have := (sho_sub D.A D.T L).length_le; omega, hints_yes h hC fun y hy => hok_trans (sho_hok h.toDeskT hN) (hk y hy), ?_, ?_, ?_⟩
  · by_cases c : L = []
    · subst c
      exact .inl ⟨rfl, rfl⟩
    · obtain ⟨u, r, e, e1, e2⟩ := hne c
      subst e
      obtain ⟨r', e3, e4⟩ := sho_cons D.A D.T u r
      refine .inr ⟨u, r, r', rfl, e3, ?_⟩
      rw [e3] at hsub ⊢
      exact asr_is rfl (fun y hy => hv y (hsub y hy)) (by omega) (fun y hy => by have := e2 y (e4 y hy); omega)
  · by_cases c : L = []
    · subst c
      exact Int.le_refl _
    · obtain ⟨u, r, e, e1, e2⟩ := hne c
      subst e
      obtain ⟨r', e3, e4⟩ := sho_cons D.A D.T u r
      rw [e3]
      exact back_sub e4 (fun y hy => by rw [hv y hy]; decide) hp (fun y hy => by have := e2 y hy; omega)
  · unfold subS
    rw [List.all_eq_true]
    intro x hx
    unfold hasS
    cases okL x
    · rfl
    · simpa using hsub x hx
theorem sho_sound {cs : List (List Int)} {ats : List Int} {D : DK} (h : DeskI cs ats D) (hC : Conf D D.con) {S : List Int} (hS : AllNeg D S) (hy : (hinS D.A D.T S D.con).2 = true) (hr : D.A.row.length ≤ 100000) :
    (shwS S ((hinS D.A D.T S D.con).1.map (litsA D.A))).2 = 0 ∧ ∀ m : List Bool, firstS ((hinS D.A D.T S D.con).1.map (litsA D.A)) m < 0 → holdsS S m = true := by
  obtain ⟨_, _, h3, _⟩ := hints_shn h hC hS hy
  unfold shnS at h3
  rw [Bool.and_eq_true, decide_eq_true_eq, decide_eq_true_eq] at h3
  refine ⟨h3.1, fun m hm => ?_⟩
  have h4 := h3.1
  unfold shwS at h4
  rw [if_pos (allNeg_sta h.toDeskT hS)] at h4
  refine show_sound (fun y hy => (hS y hy).1) (fun c hc => ?_) h4 ((firstS_neg _ m).1 hm)
  obtain ⟨q, _, rfl⟩ := List.mem_map.1 hc
  have := litsA_len D.A (fun q hq => by obtain ⟨x, hx, e⟩ := h.ok.relA.is q hq; obtain ⟨p, e1, e2, _⟩ := h.ok.relA.rows x hx; exact ⟨p, _, by rw [← e, e1], e2⟩) q
  omega
theorem find_at {A : Ar} {a : RA} (h : RelA A a) {q : Int} (hq : isA A q = true) : ∃ k, ∃ hk : k < a.rows.length, findA a q = (k : Int) ∧ a.rows[k].lits = litsA A q := by
  obtain ⟨f1, f2⟩ := (findA_is h q).1 hq
  unfold litsD at f2
  unfold findA idxS at f1 f2 ⊢
  split at f1
  · rename_i j hj
    rw [hj] at f2
    rw [List.findIdx?_eq_some_iff_getElem] at hj
    obtain ⟨h1, _⟩ := hj
    refine ⟨j, h1, rfl, ?_⟩
    simp only [Int.toNat_natCast, List.getD_eq_getElem?_getD, List.getElem?_eq_getElem h1, Option.getD_some] at f2
    exact f2
  · omega
theorem wkRR_refl : ∀ l : List (List PV), wkRR l l
  | [] => trivial
  | x :: l => ⟨wkPL_refl x, wkRR_refl l⟩
set_option maxRecDepth 16000 in
theorem refShow8M_ok (g : List (List SV)) (c : List Int) (hs : List (List Int)) (hl : c.length + hs.length ≤ 1000000) (hh : ∀ h ∈ hs, h.length ≤ 1000000) : AMut Tryz.prog 45 [.seq false 1 (irow c), .seq false 1 (hs.map crowF)] g (fun r g' => g' = g ∧ r = .pv (.tup [I64 (shwS c hs).1, I64 (shwS c hs).2])) := by
  refine amutXW [] [.tmp 4, .tmp 5] hmo Tryz.func45 (by kernel_rfl) rfl rfl (by kernel_rfl) (Nat.le_of_ble_eq_true rfl) ?_
  have hS := refStart8_ok c (by omega)
  have hle := staTo_le c c.length
  have hC := fun g => refChain8_ok g (staL c) hs (by unfold staL; omega) hh
  unfold shwS
  have hR : staR c = if staE c = 0 then staL c else [] := rfl
  simp
  refine CallK.intro hS (by simp) ?_
  by_cases c1 : staE c = 0
  · rw [if_pos c1] at hR
    rw [hR]
    simp [c1]
    refine CallK.introM (hC _) (by simp) ?_
    rintro _ _ ⟨rfl, rfl⟩
    simp [wkP, wkPL]
  · simp [c1, wkP, wkPL]
theorem few16N_ok (cs : List (List Int)) (l : List Int) : APure Tryz.prog 41 [.seq false 1 (cs.map crowF), .seq false 1 (irow l), .lit (.slice none 0 0)] (fun r => r = .pv (BL (few16 cs l []))) := by
  refine apure1 hmo Tryz.func41 (by kernel_rfl) rfl rfl (by kernel_rfl) (Nat.le_of_ble_eq_true rfl) ?_
  simp
  refine CallK.intro (few8_ok cs l) (by simp) ?_
  unfold few16
  cases e : few8 cs l
  · simp
  · by_cases c1 : cs.length ≤ 40
    · have c1' : (cs.length : Int) ≤ 40 := by omega
      simp [c1, c1']
    · have c1' : ¬ (cs.length : Int) ≤ 40 := by omega
      simp [c1, c1']
set_option maxRecDepth 16000 in
theorem shortenShown_ok (cs : List (List Int)) (l : List Int) (m : List Bool) : APure Tryz.prog 8 [.seq false 1 (cs.map crowF), .seq false 1 (irow l), .seq false 1 (brow m)] (fun r => r = .pv (BL true)) := by
  refine apure1 hmo Tryz.func8 (by kernel_rfl) rfl rfl (by kernel_rfl) (Nat.le_of_ble_eq_true rfl) ?_
  have haw := shAwake_ok
  have hfw := few16N_ok cs l
  simp
  refine CallK.intro hfw (by simp) ?_
  cases c1 : few16 cs l []
  · simp
    refine CallK.intro haw (by simp) ?_
    simp
  by_cases c2 : (200 : Int) < m.length
  · simp [c2]
    refine CallK.intro haw (by simp) ?_
    simp
  obtain ⟨f1, f2, _⟩ := few16_few c1
  have f3 := few16_40 c1
  have hset := fun h => dset_ok h cs l f1 (by omega)
  have hI := setS_I f1 l
  obtain ⟨r1, r2⟩ := rows_len f1 f3 l
  generalize setS cs l = D at *
  have hs := hI.ok.sh (c := []) (by decide)
  simp [c2]
  refine CallK.introM (hset _) (by simp) ?_
  rintro _ _ ⟨rfl, rfl⟩
  by_cases c3 : D.con < 0
  · have c3' : ¬ 0 ≤ D.con := by omega
    simp [dkA, dkB, c3, c3']
    refine CallK.intro haw (by simp) ?_
    simp
  have hC := conf_of hI.toDeskT (by omega)
  have h0 := isA_hd hC.is
  obtain ⟨t1, t2⟩ := learn_is hI.toDeskT hC
  have hf7 := rows_few hI.toDeskT
  have lE := conf_fails hI hC
  have lR : learnR D.A D.T D.con = learnS D.A D.T D.con := by unfold learnR; rw [if_pos lE]
  have g1 := rlearn_ok D.A D.T D.con hs.tr h0 hs.ar r1 hf7
  rw [lE, lR] at g1
  have n6 := learn_len hI.toDeskT t1
  have hO := sho_ok hI hC t1 t2
  generalize learnS D.A D.T D.con = L at *
  have g2 := shorten_ok D.A D.T L (hI.ok.sh (by omega)) (by omega)
  generalize shoS D.A D.T L = S at *
  have hsl := hO.len
  have hyes := hO.yes
  have hneg := hO.neg
  have g3 := hints_ok D.A D.T S D.con (ahead_ok hI.toDeskT h0) (pla_lt hI.toDeskT) (by omega) (by omega)
  obtain ⟨n1, n2, n3, n4⟩ := hints_shn hI hC hneg hyes
  obtain ⟨m1, m2⟩ := sho_sound hI hC hneg hyes r1
  rw [hyes] at g3
  generalize (hinS D.A D.T S D.con).1 = H at *
  have g4 := level_ok D.T L hs.tr (by omega)
  have g5 := level_ok D.T S hs.tr (by omega)
  have g6 := refSubset_ok S L (by omega) (by omega)
  rw [hO.subs] at g6
  have hlv : ¬ backS D.T L < backS D.T S := by have := hO.lev; omega
  have hf : ∀ a b c d, frzP [a, b, c, trB D.T, d] 3 3 0 = trP D.T := fun a b c d => frz_tr0 rfl 2
  have hfa : ∀ a b c d, frzP [a, arB D.A, b, c, d] 3 1 0 = arP D.A := fun a b c d => frz_ar0 rfl 2
  have c3' : 0 ≤ D.con := by omega
  simp [dkA, dkB, c3, c3']
  rw [hf, hfa]
  refine CallB.introP g1 (by simp) (by simp) ?_
  simp
  rw [hf, hfa]
  refine CallB.introP g2 (by simp) (by simp) ?_
  simp
  rw [hf, hfa]
  refine CallB.introP g3 (by simp) (by simp) ?_
  obtain ⟨C, hCe⟩ : ∃ C, C = H.map (litsA D.A) := ⟨_, rfl⟩
  have hCl : C.length = H.length := by rw [hCe, List.length_map]
  obtain ⟨Q, hQ⟩ : ∃ Q : Nat → List (List Int), ∀ i, Q i = C.take i := ⟨_, fun _ => rfl⟩
  have hQl : ∀ i, (Q i).length ≤ i := fun i => by rw [hQ, List.length_take]; omega
  have hCa : ∀ i (c : i < H.length), C[i]? = some (litsA D.A H[i]) := fun i c => by rw [hCe, List.getElem?_map, List.getElem?_eq_getElem c]; rfl
  have hCb : ∀ x ∈ C, x.length ≤ 1000000 := fun x hx => by
    rw [hCe] at hx
    obtain ⟨q, _, rfl⟩ := List.mem_map.1 hx
    have := litsA_len D.A hs.ar q
    omega
  have hS8 := fun g => refShow8M_ok g S C (by omega) hCb
  rw [← hCe] at m1 m2
  simp only [m1] at hS8
  have hFi := refFirst_ok 0 C m (by omega) (fun x hx => by have := hCb x hx; omega)
  have hHo := refHolds_ok S m (by omega)
  rcases hO.some with ⟨e1, e2⟩ | ⟨u, r, r', e1, e2, e3⟩
  · subst e1 e2
    simp
    refine CallQ.intro (fun h : False => h.elim) (r := .pv (BL true)) (by simp) ?_
    simp
    refine CallQ.intro (fun _ => g6) (by simp) ?_
    simp
    rw [hf]
    refine CallQ.intro (fun _ => g5) (by simp) ?_
    simp
    rw [hf]
    refine CallQ.intro (fun _ => g4) (by simp) ?_
    simp
    refine ALoop.intro (S := fun (i : Nat) => ⟨[(2, .pv (.seq false 1 (brow m))), (7, .pv (.ptr 4 0)), (11, .own true 1 (irow ([]))), (12, .pv (.seq true 1 (irow H))), (14, .own true 1 ((Q i).map crowF)), (15, .pv (I64 i))], dkBs D⟩) (fun i => i ≤ H.length) (fun i => H.length - i) 0 ?_ (Nat.zero_le _) ?_
    · exact (Weak.nilOwn (s := 14) 1 true (by simp)).trans (Weak.keep (by simp [hQ, irow]) (by simp [dkBs]))
    intro i hi
    by_cases c : i < H.length
    · have hw1 : w64 ((i : Int) + 1) = ((i + 1 : Nat) : Int) := by rw [w64_id (by omega) (by omega)]; omega
      obtain ⟨k, hk, k1, k2⟩ := find_at hI.ok.relA (n2 _ (List.getElem_mem c))
      have hF := refFind_ok D.a H[i] (by omega)
      rw [k1] at hF
      have hk0 : ¬ (k : Int) < 0 := by omega
      have hCt : Q (i + 1) = Q i ++ [D.a.rows[k].lits] := by
        have hil : i < C.length := by omega
        have hx := hCa i c
        rw [List.getElem?_eq_getElem hil] at hx
        rw [k2, ← Option.some.inj hx, hQ, hQ, List.take_succ_eq_append_getElem hil]
      have hQi := hQl i
      simp [c, dkBs]
      refine CallQ0.intro hF (by simp) ?_
      simp [hk0, hk, roR]
      exact ⟨by omega, i + 1, by (try dsimp only); omega, by (try dsimp only); omega, Weak.keep (by simp [hw1, hCt, crowF]) (by simp)⟩
    have hie : i = H.length := by omega
    subst hie
    have hQe : Q H.length = C := by rw [hQ]; exact List.take_of_length_le (by omega)
    simp [dkBs, hQe]
    refine CallK.introE (hS8 (dkBs D)) (by simp) rfl (by simp) (by simp [dkBs]) (by simp [wkAL, wkA, wkRR_refl]) ?_
    rintro _ _ ⟨rfl, rfl⟩
    simp [dkBs]
    refine CallK.intro hFi (by simp) ?_
    by_cases d1 : firstS C m < 0
    · have d1' : ¬ 0 ≤ firstS C m := by omega
      rw [m2 m d1] at hHo
      simp [d1, d1']
      refine CallG.intro (fun _ => hHo) (by simp) ?_
      simp
      refine CallK.intro haw (by simp) ?_
      simp
    · have d1' : 0 ≤ firstS C m := by omega
      simp [d1, d1']
      refine CallG.intro (fun h : False => h.elim) (r := .pv (BL true)) (by simp) ?_
      simp
      refine CallK.intro haw (by simp) ?_
      simp
  · subst e1 e2
    have hr1 : ¬ ((r'.length : Int) + 1 = 0) := by omega
    have g7 := asserts_ok D.T (u :: r') hs.tr (by omega)
    rw [e3] at g7
    simp [irow]
    rw [hf]
    refine CallQ.intro (fun _ => g7) (by simp) ?_
    simp
    refine CallQ.intro (fun _ => g6) (by simp) ?_
    simp
    rw [hf]
    refine CallQ.intro (fun _ => g5) (by simp) ?_
    simp
    rw [hf]
    refine CallQ.intro (fun _ => g4) (by simp) ?_
    simp [hlv, hr1]
    refine ALoop.intro (S := fun (i : Nat) => ⟨[(2, .pv (.seq false 1 (brow m))), (7, .pv (.ptr 4 0)), (11, .own true 1 (irow (u :: r'))), (12, .pv (.seq true 1 (irow H))), (14, .own true 1 ((Q i).map crowF)), (15, .pv (I64 i))], dkBs D⟩) (fun i => i ≤ H.length) (fun i => H.length - i) 0 ?_ (Nat.zero_le _) ?_
    · exact (Weak.nilOwn (s := 14) 1 true (by simp)).trans (Weak.keep (by simp [hQ, irow]) (by simp [dkBs]))
    intro i hi
    by_cases c : i < H.length
    · have hw1 : w64 ((i : Int) + 1) = ((i + 1 : Nat) : Int) := by rw [w64_id (by omega) (by omega)]; omega
      obtain ⟨k, hk, k1, k2⟩ := find_at hI.ok.relA (n2 _ (List.getElem_mem c))
      have hF := refFind_ok D.a H[i] (by omega)
      rw [k1] at hF
      have hk0 : ¬ (k : Int) < 0 := by omega
      have hCt : Q (i + 1) = Q i ++ [D.a.rows[k].lits] := by
        have hil : i < C.length := by omega
        have hx := hCa i c
        rw [List.getElem?_eq_getElem hil] at hx
        rw [k2, ← Option.some.inj hx, hQ, hQ, List.take_succ_eq_append_getElem hil]
      have hQi := hQl i
      simp [c, dkBs]
      refine CallQ0.intro hF (by simp) ?_
      simp [hk0, hk, roR]
      exact ⟨by omega, i + 1, by (try dsimp only); omega, by (try dsimp only); omega, Weak.keep (by simp [hw1, hCt, crowF]) (by simp)⟩
    have hie : i = H.length := by omega
    subst hie
    have hQe : Q H.length = C := by rw [hQ]; exact List.take_of_length_le (by omega)
    simp [dkBs, hQe]
    refine CallK.introE (hS8 (dkBs D)) (by simp) rfl (by simp) (by simp [dkBs]) (by simp [wkAL, wkA, wkRR_refl]) ?_
    rintro _ _ ⟨rfl, rfl⟩
    simp [dkBs]
    refine CallK.intro hFi (by simp) ?_
    by_cases d1 : firstS C m < 0
    · have d1' : ¬ 0 ≤ firstS C m := by omega
      rw [m2 m d1] at hHo
      simp [d1, d1']
      refine CallG.intro (fun _ => hHo) (by simp) ?_
      simp
      refine CallK.intro haw (by simp) ?_
      simp
    · have d1' : 0 ≤ firstS C m := by omega
      simp [d1, d1']
      refine CallG.intro (fun h : False => h.elim) (r := .pv (BL true)) (by simp) ?_
      simp
      refine CallK.intro haw (by simp) ?_
      simp
end Go.AX
