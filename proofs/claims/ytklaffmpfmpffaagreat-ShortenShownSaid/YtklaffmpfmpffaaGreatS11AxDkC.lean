/-
  Contracts: a desk is set.
-/
import Derived.Test.YtklaffmpfmpffaaGreatS11AxDkB
import Derived.Test.YtklaffmpfmpffaaGreatAxBe
namespace Go.AX
open Go.Proofs
set_option linter.unusedSimpArgs false

def set12Sch : Sch :=
  let C : Sch := .fork [(8, .take 9 (.take 10 (.take 11 (.take 12 (.take 13 .done)))))]
  .take 0 (.take 2 (.take 3 (.take 4 (.take 5 (.take 6 (.fork [(1, .fork [(7, C)]), (7, .fork [(1, C)])]))))))
def set13Sch : Sch :=
  let D : Sch := .fork [(14, .take 15 (.take 16 .done))]
  let P1 : Sch := .take 9 (.take 10 (.take 11 (.take 12 D)))
  let P0 : Sch := .take 9 (.take 10 (.take 11 (.take 12 (.fork [(13, D)]))))
  let S3 : Sch := .fork [(8, P1)]
  let S17 : Sch := .fork [(8, P0), (13, S3)]
  .take 0 (.take 2 (.take 3 (.take 4 (.take 5 (.take 6 (.fork [(1, .fork [(7, S17), (13, .fork [(7, S3)])]), (7, .fork [(1, S17), (13, .fork [(1, S3)])]), (13, .fork [(1, .fork [(7, S3)]), (7, .fork [(1, S3)])])]))))))
def zB : List SV := [.pv (.lit (.pointer none)), .pv (.lit (.pointer none)), .pv (.lit (.slice none 0 0)), .pv (.lit (.int .i64 0)), .pv (.lit (.int .i64 0)), .pv (.lit (.slice none 0 0)), .pv (.lit (.int .i64 0)), .pv (.lit (.int .i64 0))]
def setH (h : List (List SV)) (D : DK) : List (List SV) := h ++ [zB, arB D.A, dkB (.ptr (h.length + 1) 0) (.ptr (h.length + 3) 0) D, trB D.T]
def setT1 (h : List (List SV)) (cs : List (List Int)) (lits : List Int) (x : PK) (y : Nat) : List (Nat × SV) :=
  [(0, .pv (.seq false 1 (cs.map crowF))), (1, .pv (.seq false 1 (irow lits))), (4, .pv (.ptr h.length 0)), (6, .pv (.ptr (h.length + 2) 0)), (7, .pv (.ptr (h.length + 3) 0)), (9, .own true 1 (x.rows.map crowF)), (10, .own true 1 (irow x.ats)), (11, .pv (I64 y))]
def dkA (p q : PV) (D : DK) : PV := .agg [p, q, .seq false 5 (D.a.rows.map roR), I64 D.a.size, I64 D.t.vars, .seq false 3 (D.t.rows.map enR), I64 D.t.dep, I64 D.con]
theorem belowH_setH {h : List (List SV)} (hh : belowH h.length h) (D : DK) : belowH (h.length + 4) (setH h D) :=
  belowH_app (belowH_up (by omega) _ hh) ⟨⟨trivial, trivial, trivial, trivial, trivial, trivial, trivial, trivial, trivial⟩, belowC_arB _ _, ⟨by show _ < _; omega, by show _ < _; omega, belowR_roR _ _, trivial, trivial, belowR_enR _ _, trivial, trivial, trivial⟩, belowC_trB _ _, trivial⟩
theorem setH_len (h : List (List SV)) (D : DK) : (setH h D).length = h.length + 4 := by simp [setH]
theorem Weak.set4 {k0 : Nat} {t t1 : List (Nat × SV)} {h : List (List SV)} {a b c d e : List SV} {D : DK} (hh : belowH h.length h) (hk : k0 ≤ h.length) (ht : wkL t t1) (hd : [a, b, c, d] = [zB, arB D.A, dkB (.ptr (h.length + 1) 0) (.ptr (h.length + 3) 0) D, trB D.T]) (hb : belowT (h.length + 4) t1) : Weak k0 ⟨t, h ++ [a, b, c, d, e]⟩ ⟨t1, setH h D⟩ := by
  refine Weak.to ht ?_ (by rw [setH_len]; omega) (by rw [setH_len]; exact hb) (by rw [setH_len]; exact belowH_setH hh D)
  rw [setH_len, setH, ← hd, List.take_append, List.take_of_length_le (by omega)]
  have : h.length + 4 - h.length = 4 := by omega
  rw [this]; rfl
theorem belowT_set1 (h : List (List SV)) (cs : List (List Int)) (lits : List Int) (x : PK) (y : Nat) : belowT (h.length + 4) (setT1 h cs lits x y) := by
  refine ⟨?_, belowR_irow _ _, ?_, ?_, ?_, ?_, belowR_irow _ _, trivial, trivial⟩
  · exact belowR_crowF _ _
  · show _ < _; omega
  · show _ < _; omega
  · show _ < _; omega
  · exact belowR_crowF _ _
theorem setH_d (h : List (List SV)) (D : DK) : (setH h D)[h.length + 2]? = some (dkB (.ptr (h.length + 1) 0) (.ptr (h.length + 3) 0) D) := by simp [setH]
theorem setH_t (h : List (List SV)) (D : DK) : (setH h D)[h.length + 3]? = some (trB D.T) := by simp [setH]
theorem setH_dkH (h : List (List SV)) {D E : DK} (hA : E.A = D.A) : dkH (setH h D) (h.length + 2) (h.length + 3) (h.length + 1) E = setH h E := by
  unfold dkH setH
  rw [hA, List.set_append_right _ _ (by omega), List.set_append_right _ _ (by omega)]
  simp
theorem setL_stop (cs : List (List Int)) (ats lits : List Int) (D : DK) {y : Nat} (h : 0 ≤ (setL cs ats lits D y).con) : ∀ k, setL cs ats lits D (y + k) = setL cs ats lits D y
  | 0 => rfl
  | k + 1 => by
    have ih := setL_stop cs ats lits D h k
    rw [← Nat.add_assoc, setL, ih, if_pos h]
theorem setL_next (cs : List (List Int)) (ats lits : List Int) (D : DK) {y : Nat} (h : ¬ 0 ≤ (setL cs ats lits D y).con) : setL cs ats lits D (y + 1) = if mayK (setL cs ats lits D y) (lits.getD y 0) = true then folS cs ats (addS (setL cs ats lits D y) (lits.getD y 0) (-1)) else setL cs ats lits D y := by
  rw [setL, if_neg h]
def set25Sch : Sch :=
  let E : Sch := .fork [(13, .take 14 (.take 15 .done))]
  .take 0 (.take 1 (.take 2 (.fork [(3, .fork [(4, .take 5 (.take 6 (.take 7 (.take 9 (.take 10 (.take 11 (.fork [(8, .fork [(12, E)]), (12, .fork [(8, E)])])))))))])])))
def setT2 (h : List (List SV)) (lits : List Int) (x : PK) (y : Nat) : List (Nat × SV) :=
  [(1, .pv (.seq false 1 (irow lits))), (4, .pv (.ptr h.length 0)), (6, .pv (.ptr (h.length + 2) 0)), (9, .pv (.seq true 1 (x.rows.map crowF))), (10, .pv (.seq true 1 (irow x.ats))), (17, .pv (I64 y))]
set_option maxRecDepth 16000 in
set_option maxHeartbeats 400000 in
theorem dset_ok (h : List (List SV)) (cs : List (List Int)) (lits : List Int) (hc : fewC cs) (hl : lits.length ≤ 1000) :
    AMut Tryz.prog 29 [.seq false 1 (cs.map crowF), .seq false 1 (irow lits)] h (fun r h' => h' = h ++ [dkB (.ptr (h.length + 1) 0) (.ptr (h.length + 3) 0) (setS cs lits), arB (setS cs lits).A, dkB (.ptr (h.length + 1) 0) (.ptr (h.length + 3) 0) (setS cs lits), trB (setS cs lits).T] ∧
      r = .pv (.tup [dkA (.ptr (h.length + 1) 0) (.ptr (h.length + 3) 0) (setS cs lits), BL true])) := by
  refine AMut.below (by kernel_rfl) fun hh => ?_
  refine amutX [12, 13, 25] [.cell 4 _, .tmp 5] hmo Tryz.func29 (by kernel_rfl) rfl rfl (by kernel_rfl) (Nat.le_of_ble_eq_true rfl) ?_
  simp
  refine CallK.introM (anew_ok _) (by simp) ?_
  rintro _ _ ⟨rfl, rfl⟩
  simp
  refine CallK.introM (tnew_ok _ 6 (by omega)) (by simp) ?_
  rintro _ _ ⟨rfl, rfl⟩
  simp
  refine CallK.introM (rfNew_ok _) (by simp) ?_
  rintro _ _ ⟨rfl, rfl⟩
  simp [rtV]
  refine ALoop.intro (S := fun (y : Nat) => ⟨setT1 h cs lits (putL cs y) y, setH h (begD (putL cs y))⟩) (fun y => y ≤ cs.length) (fun y => cs.length - y) 0 ?_ (Nat.zero_le _) ?_
  · refine (Weak.keep (t1 := [(0, .pv (.seq false 1 (cs.map crowF))), (1, .pv (.seq false 1 (irow lits))), (4, .pv (.ptr h.length 0)), (6, .pv (.ptr (h.length + 2) 0)), (7, .pv (.ptr (h.length + 3) 0)), (9, .pv (.lit (.slice none 0 0))), (10, .pv (.lit (.slice none 0 0))), (11, .pv (I64 0))]) (by simp) rfl).trans ?_
    refine (Weak.nilOwn (s := 9) 1 true (by simp)).trans ((Weak.nilOwn (s := 10) 1 true (by simp)).trans ?_)
    refine (Weak.nilCell (b := h.length + 1) (k := 0) (xs := arZ) 1 true (by simp) (by simp [arZ])).trans ?_
    refine (Weak.nilCell (b := h.length + 3) (k := 1) (xs := [.own true 4 (List.map mkR (newT 6).marks), .pv (.lit (.slice none 0 0)), .pv (.lit (.slice none 0 0)), .pv (BL true)]) 1 true (by simp) (by simp)).trans ?_
    refine (Weak.nilCell (b := h.length + 3) (k := 2) (xs := [.own true 4 (List.map mkR (newT 6).marks), .own true 1 [], .pv (.lit (.slice none 0 0)), .pv (BL true)]) 1 true (by simp) (by simp)).trans ?_
    refine Weak.le ?_ ?_
    · simp [setT1, putL, irow]
    · simp [setH, arZ]
      refine wkHs_app h ?_
      simp [zB, dkB, arB, trB, begD, putL, irow, newT, mapE]
  intro y hy
  by_cases c : y < cs.length
  · have hok := putL_ok hc y hy
    have hok' := putL_ok hc (y + 1) (by omega)
    have hcl := hc.2 _ (List.getElem_mem c)
    have hc1 := hc.1
    have hce : cs.getD y [] = cs[y] := by rw [List.getD_eq_getElem?_getD, List.getElem?_eq_getElem (by omega)]; rfl
    have hnx : putL cs (y + 1) = putK (putL cs y) cs[y] ((y + 1 : Nat) : Int) := by rw [← hce]; rfl
    have hw : w64 ((y : Int) + 1) = ((y + 1 : Nat) : Int) := by rw [w64_id (by omega) (by omega)]; omega
    have hlen := hok.len
    have hrl := hok.rlen
    have hsz := hok.rel.size
    have hsl := hok.sl
    have hal := hok.al
    have hid : ((y + 1 : Nat) : Int) = (y : Int) + 1 := by omega
    rw [hid] at hnx
    have hap := fun h' b hb => aput_ok h' b (putL cs y).A hb ((y : Int) + 1) cs[y] (by omega) (by omega)
    have hrp := fun h' => raPut_ok h' (putL cs y).a ((y : Int) + 1) cs[y] (by omega) (by omega)
    have hrc := refClCheck_ok cs[y] 6 (by omega)
    generalize putL cs y = x at *
    generalize hcc : cs[y] = cy at *
    obtain ⟨E, hE⟩ : ∃ E, putEA ((y : Int) + 1) cy = E := ⟨_, rfl⟩
    simp [setT1, c]
    refine AAnyD.meet set12Sch ⟨[(0, .pv (.seq false 1 (cs.map crowF))), (1, .pv (.seq false 1 (irow lits))), (4, .pv (.ptr h.length 0)), (6, .pv (.ptr (h.length + 2) 0)), (7, .pv (.ptr (h.length + 3) 0)), (9, .own true 1 (x.rows.map crowF)), (10, .own true 1 (irow x.ats)), (11, .pv (I64 y)), (12, .pv (I64 (if E = 0 then x.A.row.length else 0))), (13, .pv (I64 E))], setH h ⟨putAr x.A ((y : Int) + 1) cy, newT 6, x.a, ⟨6, [], 0⟩, -1⟩⟩ (by kernel_rfl) ?_ ?_
    · simp [set12Sch, setH, dkB, c, crowF, hcc, hw, begD]
      have hb0 : (setH h (begD x))[h.length + 1]? = some (arB x.A) := by simp [setH, begD]
      have ha := hap _ _ hb0
      simp [setH, dkB, begD] at ha
      and_intros
      all_goals
        refine CallB.intro ha (by trivial) ?_
        rintro _ _ ⟨rfl, rfl⟩
        simp [hE]
        exact Weak.keep (by simp) rfl
    · simp [setH, dkB]
      refine AAnyD.meet set13Sch ⟨[(0, .pv (.seq false 1 (cs.map crowF))), (1, .pv (.seq false 1 (irow lits))), (4, .pv (.ptr h.length 0)), (6, .pv (.ptr (h.length + 2) 0)), (7, .pv (.ptr (h.length + 3) 0)), (9, .own true 1 (x.rows.map crowF)), (10, .own true 1 (irow x.ats)), (11, .pv (I64 y)), (12, .pv (I64 (if E = 0 then x.A.row.length else 0))), (13, .pv (I64 E)), (14, .pv (.ptr (h.length + 4) 0)), (15, .pv (I64 (putQA x.a ((y : Int) + 1) cy))), (16, .pv (I64 E))], setH h ⟨putAr x.A ((y : Int) + 1) cy, newT 6, x.a, ⟨6, [], 0⟩, -1⟩ ++ [[.pv (.seq false 5 ((putRA x.a ((y : Int) + 1) cy).rows.map roR)), .pv (I64 (putRA x.a ((y : Int) + 1) cy).size)]]⟩ (by kernel_rfl) ?_ ?_
      · simp [set13Sch, setH, dkB, c, crowF, hcc, hw, begD]
        and_intros
        all_goals
          refine CallK.introM (hrp _) ?_ ?_
          · simp
          rintro _ _ ⟨rfl, rfl⟩
          simp [hE, raV]
          exact Weak.keep (by simp) rfl
      · have hq : putQA x.a ((y : Int) + 1) cy = if E = 0 then (x.A.row.length : Int) else 0 := by unfold putQA; rw [hE, hsz]
        have hnA : (putL cs (y + 1)).A = putAr x.A ((y : Int) + 1) cy := by rw [hnx]; rfl
        have hna : (putL cs (y + 1)).a = putRA x.a ((y : Int) + 1) cy := by rw [hnx]; rfl
        by_cases e0 : E = 0
        · subst e0
          rw [if_pos rfl] at hq
          simp [setH, dkB, hq, c, crowF, hcc]
          refine CallG.intro (r := .pv (I64 (chkC cy 6))) (fun _ => hrc) (by simp) ?_
          by_cases c6 : chkC cy 6 = 0
          · have hnr : (putL cs (y + 1)).rows = x.rows ++ [cy] := by rw [hnx]; exact if_pos ⟨hE, c6⟩
            have hnt : (putL cs (y + 1)).ats = x.ats ++ [(x.A.row.length : Int)] := by rw [hnx, ← hq]; exact if_pos ⟨hE, c6⟩
            simp [c, crowF, hcc, c6]
            refine ⟨by omega, by omega, ?_⟩
            exact ⟨y + 1, by dsimp only; omega, by dsimp only; omega, Weak.set4 hh (Nat.le_refl _) (by simp [setT1, hnr, hnt, hw, irow, crowF]) (by simp [dkB, begD, hnA, hna]) (belowT_set1 ..)⟩
          · have hnr : (putL cs (y + 1)).rows = x.rows := by rw [hnx]; exact if_neg (fun h => c6 h.2)
            have hnt : (putL cs (y + 1)).ats = x.ats := by rw [hnx]; exact if_neg (fun h => c6 h.2)
            simp [c, crowF, hcc, c6]
            exact ⟨y + 1, by dsimp only; omega, by dsimp only; omega, Weak.set4 hh (Nat.le_refl _) (by simp [setT1, hnr, hnt, hw]) (by simp [dkB, begD, hnA, hna]) (belowT_set1 ..)⟩
        · rw [if_neg e0] at hq
          have hnr : (putL cs (y + 1)).rows = x.rows := by rw [hnx]; exact if_neg (fun h => e0 (hE ▸ h.1))
          have hnt : (putL cs (y + 1)).ats = x.ats := by rw [hnx]; exact if_neg (fun h => e0 (hE ▸ h.1))
          simp [setH, dkB, hq, c, crowF, hcc, e0]
          refine CallG.intro (r := .pv (I64 (chkC cy 6))) (fun _ => hrc) (by simp) ?_
          simp
          exact ⟨y + 1, by dsimp only; omega, by dsimp only; omega, Weak.set4 hh (Nat.le_refl _) (by simp [setT1, hnr, hnt, hw]) (by simp [dkB, begD, hnA, hna]) (belowT_set1 ..)⟩
  · have hye : y = cs.length := by omega
    subst hye
    have hok := putL_ok hc cs.length (Nat.le_refl _)
    have hS : setS cs lits = setL (putL cs cs.length).rows (putL cs cs.length).ats lits (begD (putL cs cs.length)) lits.length := rfl
    generalize setS cs lits = F at hS ⊢
    generalize putL cs cs.length = x at *
    have hfc : fewC x.rows := ⟨by have := hok.sl; have := hc.1; omega, fun c h => hc.2 c (hok.sub c h)⟩
    have hfol := fun (D : DK) (hD : RelD D.T D.t) => dfollow_ok (setH h D) (h.length + 2) (h.length + 3) (h.length + 1) D (setH_d h D) (setH_t h D) (by omega) hD x.rows x.ats hfc hok.al
    have hfol : ∀ D : DK, RelD D.T D.t → AMut Tryz.prog 80 [.ptr (h.length + 2) 0, .seq true 1 (x.rows.map crowF), .seq true 1 (irow x.ats)] (setH h D) (fun r h' => h' = setH h (folS x.rows x.ats D) ∧ r = .pv (BL true)) := fun D hD => by
      have := (hfol D hD).args (xs := [.ptr (h.length + 2) 0, .seq true 1 (x.rows.map crowF), .seq true 1 (irow x.ats)]) (by simp [wkPL, wkP])
      rw [setH_dkH h (folS_A x.rows x.ats D).1] at this
      exact this
    simp [setT1]
    refine CallB.intro (hfol _ relD_new) (by trivial) ?_
    rintro _ _ ⟨rfl, rfl⟩
    simp
    refine ALoop.intro (S := fun (y : Nat) => ⟨setT2 h lits x y, setH h (setL x.rows x.ats lits (begD x) y)⟩) (fun y => y ≤ lits.length) (fun y => lits.length - y) 0 ?_ (Nat.zero_le _) ?_
    · exact Weak.keep (by simp [setT2]) rfl
    intro y hy
    have hEr := setL_rel x.rows x.ats lits (D := begD x) relD_new y
    have hst := fun h => setL_stop x.rows x.ats lits (begD x) (y := y) h (lits.length - y)
    rw [show y + (lits.length - y) = lits.length by omega] at hst
    have hsu := setL_next x.rows x.ats lits (begD x) (y := y)
    generalize hDy : setL x.rows x.ats lits (begD x) y = D at *
    have hgd := getElem_of (setH_d h D)
    have hHl := setH_len h D
    by_cases c : y < lits.length
    rotate_left
    · have hye : y = lits.length := by omega
      subst hye
      have hF : F = D := hS.trans hDy
      subst hF
      simp [setT2, setH, dkB, dkA, zB]
    by_cases c2 : 0 ≤ D.con
    · have hF : F = D := hS.trans (hst c2)
      subst hF
      have c3 : ¬ F.con < 0 := by omega
      simp [setT2, c, setH, dkB, c2, c3, dkA, zB]
    · have c3 : D.con < 0 := by omega
      simp [setT2, c, setH, dkB, c2, c3]
      refine AAnyD.one set25Sch (by kernel_rfl) ?_
      obtain ⟨l, hly⟩ : ∃ l, lits[y] = l := ⟨_, rfl⟩
      have hgl : lits.getD y 0 = l := by rw [List.getD_eq_getElem?_getD, List.getElem?_eq_getElem c]; exact hly
      simp [set25Sch, c, hly]
      have hsu := hsu c2
      rw [hgl] at hsu
      unfold mayK at hsu
      have hf := hEr.1.few
      have hadd := dadd_ok (setH h D) (h.length + 2) (h.length + 3) (h.length + 1) D (setH_d h D) (setH_t h D) (by omega) hEr l (-1)
      have hse : ((setH h D).set (h.length + 3) (trB (addS D l (-1)).T)).set (h.length + 2) (dkB (.ptr (h.length + 1) 0) (.ptr (h.length + 3) 0) (addS D l (-1))) = setH h (addS D l (-1)) := setH_dkH h (addS_A D l (-1))
      rw [hse] at hadd
      have hfo := hfol (addS D l (-1)) (addS_rel hEr l (-1))
      refine CallK.intro (refLitChk_ok l 6) (by simp) ?_
      have hw2 : w64 ((y : Int) + 1) = ((y + 1 : Nat) : Int) := by rw [w64_id (by omega) (by omega)]; omega
      by_cases e1 : litChk l 6 = 0
      · simp [e1, c, hly]
        and_intros
        all_goals
          refine CallG.intro (r := .pv (I64 (valR D.t l))) (fun _ => rfValue_ok D.t l (by omega)) (by simp) ?_
          by_cases e2 : valR D.t l = 0
          · have hN : setL x.rows x.ats lits (begD x) (y + 1) = folS x.rows x.ats (addS D l (-1)) := by rw [hsu, if_pos (by simp [e1, e2])]
            simp [e2, c, hly]
            refine CallB.intro hadd (by trivial) ?_
            rintro _ _ ⟨rfl, rfl⟩
            simp [setH, dkB]
            refine CallB.intro hfo (by trivial) ?_
            rintro _ _ ⟨rfl, rfl⟩
            simp
            exact ⟨y + 1, by dsimp only; omega, by dsimp only; omega, Weak.keep (by simp [hw2]) (by rw [hN]; rfl)⟩
          · have hN : setL x.rows x.ats lits (begD x) (y + 1) = D := by rw [hsu, if_neg (by simp [e2])]
            simp [e2, c, hly]
            exact ⟨y + 1, by dsimp only; omega, by dsimp only; omega, Weak.keep (by simp [hw2]) (by simp [hN])⟩
      · have hN : setL x.rows x.ats lits (begD x) (y + 1) = D := by rw [hsu, if_neg (by simp [e1])]
        simp [e1, c, hly]
        and_intros
        all_goals
          refine CallG.intro (r := .pv (I64 (valR D.t l))) (fun _ => rfValue_ok D.t l (by omega)) (by simp) ?_
          simp
          exact ⟨y + 1, by dsimp only; omega, by dsimp only; omega, Weak.keep (by simp [hw2]) (by simp [hN])⟩
end Go.AX
