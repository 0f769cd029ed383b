/-
  The walk of CountClauses.
-/
import Derived.Test.YthlemmecamlkaaaAxCntO
import Derived.Test.YthlemmecamlkaaaAxCntJ
namespace Go.AX
open Go.Proofs

theorem sizeP_ok {o : Obj} {ops : List Op5} (h : sizeOk (sizeP o ops).1 (sizeP o ops).2 = true) : (objChk o).2 = 0 ∧ (chk ops).2 = 0 ∧ sizeP o ops = ((ops.length : Int), o.st) := by
  unfold sizeP at h ⊢
  split at h
  · rename_i hc; exact ⟨hc.1, hc.2, by rw [if_pos hc]⟩
  · cases h
theorem objOk_of {o : Obj} (h : (objChk o).2 = 0) : 0 ≤ o.ini ∧ o.ini < o.st := by
  unfold objChk at h
  split at h
  · rename_i hk; exact withinS_iff.1 (objOk_iff.1 hk).2.2
  · cases h

/-- The sum of all clauses. -/
theorem all_sum {o : Obj} {ops : List Op5} (h : sizeOk ops.length o.st = true) (hP : sizeP o ops = ((ops.length : Int), o.st)) (h1 : (objChk o).2 = 0) (h2 : (chk ops).2 = 0) :
    allN ops.length o.st ops = w64 ((placesC ops.length o.st).length + (timesC ops.length o.st (pairsTo ops ops.length)).length + (statesC ops.length o.st o.ini).length + (movesC o ops).length) ∧
    ((statesC ops.length o.st o.ini).length : Int) = statesN ops.length o.st ∧ ((placesC ops.length o.st).length : Int) = placesN ops.length o.st := by
  have hs := sizeOk_iff.1 h
  have hok : allOk ops.length o.st ops = true := allOk_iff.2 ⟨h2, h, rfl⟩
  obtain ⟨_, ho⟩ := chk_zero h2
  obtain ⟨_, hp⟩ := allN_eq hok
  have hi := objOk_of h1
  obtain ⟨M, hM⟩ := Int.eq_ofNat_of_zero_le (show 0 ≤ o.st by omega)
  have hpl := pendTo_length ops ops.length
  have hw : w64 ((ops.length : Int) - ((pendTo ops ops.length).length : Nat)) = (ops.length : Int) - ((pendTo ops ops.length).length : Nat) := w64_id (by omega) (by omega)
  have l1 := placesC_len h
  have l2 := timesC_len h ho hp
  have l3 : ((statesC ops.length o.st o.ini).length : Int) = statesN ops.length o.st := by
    have hM' : o.st = (M : Int) := hM
    rw [hM'] at h hi ⊢
    exact statesC_len h hi
  have l4 := movesC_len hP h
  exact ⟨by rw [allN, if_pos hok, hw, l1, l2, l3, l4], l3, l1⟩

set_option maxRecDepth 16000 in
theorem countClauses_ok (o : Obj) (ops : List Op5) : APure Try.prog 6 [robj o, ovec ops] (fun r => r = .pv (BL true)) := by
  refine apure1 hmo Try.func6 (by kernel_rfl) rfl rfl (by kernel_rfl) (Nat.le_of_ble_eq_true rfl) ?_
  have hfew := few_ok o
  have hsz := size_ok o ops
  have hmv := movesC_ok o ops
  simp only [robj] at hfew hsz hmv
  simp [robj, ovec]
  refine CallK.intro hfew (by simp) ?_
  simp
  refine ⟨fun c => ?_, fun c1 c2 => ?_⟩
  · refine CallK.intro awake_ok (by simp) ?_
    simp
  have hl : o.rows.length ≤ 140737488355328 := by omega
  have hl2 : ops.length ≤ 140737488355328 := by omega
  replace hsz := hsz hl hl2
  replace hmv := hmv hl hl2
  have hpl := pairsTo_length ops ops.length
  have hpl2 : ops.length * ops.length ≤ 8 * 8 := Nat.mul_le_mul (by omega) (by omega)
  have htm := timesC_ok (sizeP o ops).1 (sizeP o ops).2 (pairsTo ops ops.length) (by omega)
  have hpc := placesC_ok (sizeP o ops).1 (sizeP o ops).2
  have hsc := statesC_ok (sizeP o ops).1 (sizeP o ops).2 o.ini
  cases hc : sizeOk (sizeP o ops).1 (sizeP o ops).2 with
  | false =>
    simp only [hc, Bool.false_and, Bool.false_eq_true, if_false] at hmv htm hpc hsc
    refine CallK.intro hsz (by simp) ?_
    simp
    refine CallQ0.intro hpc (by simp) ?_
    simp
    refine CallQ0.intro (pairs_ok ops (by omega)) (by simp) ?_
    simp
    refine CallQ0.intro htm (by simp) ?_
    simp
    refine CallQ0.intro hsc (by simp) ?_
    simp
    refine CallQ0.intro hmv (by simp) ?_
    simp
    have hw0 : w64 0 = 0 := by decide
    have hall : allN (sizeP o ops).1 (sizeP o ops).2 ops = 0 := by
      rw [allN, if_neg]
      intro hh
      have := (allOk_iff.1 hh).2.1
      rw [hc] at this; cases this
    refine CallK.intro (check_ok _ _) (by simp) ?_
    simp [hc, hw0]
    refine CallG.intro (r := .pv (I64 0)) (fun _ => hall ▸ all_ok _ _ ops hl2) (by simp) ?_
    simp
    refine CallG.intro (r := .pv (BL true)) (fun _ => awake_ok) (by simp) ?_
    simp
  | true =>
    obtain ⟨k1, k2, hP⟩ := sizeP_ok hc
    have hi := objOk_of k1
    rw [hP] at hsz htm hpc hsc hmv hc
    dsimp only at hsz htm hpc hsc hmv hc
    obtain ⟨hsum, hst, hpn⟩ := all_sum hc hP k1 k2
    simp only [hc, hi.1, hi.2, decide_true, Bool.true_and, Bool.and_self, if_true] at hmv htm hpc hsc
    refine CallK.intro hsz (by simp) ?_
    simp
    refine CallQ0.intro hpc (by simp) ?_
    simp
    refine CallQ0.intro (pairs_ok ops (by omega)) (by simp) ?_
    simp
    refine CallQ0.intro htm (by simp) ?_
    simp
    refine CallQ0.intro hsc (by simp) ?_
    simp
    refine CallQ0.intro hmv (by simp) ?_
    simp
    refine CallK.intro (check_ok _ _) (by simp) ?_
    simp [hc]
    refine CallQ0.intro (all_ok _ _ ops hl2) (by simp) ?_
    simp [hsum]
    refine CallQ.intro (fun _ => hsc) (by simp) ?_
    simp
    refine CallQ.intro (fun _ => states_ok _ _) (by simp) ?_
    simp [hst]
    refine CallQ.intro (fun _ => hpc) (by simp) ?_
    simp
    refine CallQ.intro (fun _ => places_ok _ _) (by simp) ?_
    simp [hpn]
    refine CallQ.intro (fun _ => awake_ok) (by simp) ?_
    simp

end Go.AX
