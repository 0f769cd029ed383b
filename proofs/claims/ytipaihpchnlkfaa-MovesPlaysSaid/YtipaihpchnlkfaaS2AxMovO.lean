/-
  Contracts: the document's plays; the walk of MovesPlays.
-/
import Derived.Test.YtipaihpchnlkfaaS2AxMovK
namespace Go.AX
open Go.Proofs
set_option linter.unusedSimpArgs false

theorem posS_neg (l : List Int) (n : Int) : posS l n < 0 ↔ ¬ n ∈ l := by rw [← Int.not_le, posS_nn]

set_option maxRecDepth 16000 in
theorem refPlayM_ok (o : Obj) (ops : List Op5) (order : List Int) (inn : List Bool) (hr : objR o) (hl : o.rows.length ≤ 140737488355328) (hl2 : ops.length ≤ 140737488355328) : APure Try.prog 24 [robj o, ovec ops, .seq false 1 (irow order), .seq false 1 (brow inn)] (fun r => r = .pv (playPV true (playS o ops order inn))) := by
  refine apureN [8, 9] hmo Try.func24 (by kernel_rfl) rfl (fun _ _ => results_tmp2 rfl _ _ _) (by kernel_rfl) (Nat.le_of_ble_eq_true rfl) ?_
  have hsz := refSize_ok o ops hr hl hl2
  simp only [robj, ovec] at hsz
  simp [robj, ovec]
  refine CallK.intro hsz (by simp) ?_
  simp
  refine CallK.intro (refCheck_ok _ _) (by simp) ?_
  cases c1 : sizeOk (sizeP o ops).1 (sizeP o ops).2
  · have : playS o ops order inn = none := by unfold playS; rw [if_neg]; simp [c1]
    simp [c1, this, playPV]
  obtain ⟨k1, k2, hP, h64, hm1, hm2⟩ := sizeP_all c1
  have e1 : (sizeP o ops).1 = ops.length := by rw [hP]
  have e2 : (sizeP o ops).2 = o.st := by rw [hP]
  simp [c1, e1, e2]
  refine ⟨fun c => ?_, fun d1 d2 => ?_⟩
  · have : playS o ops order inn = none := by
      unfold playS; rw [if_neg]; rintro ⟨_, h2⟩
      have := playOk_iff.1 h2
      omega
    simp [this, playPV]
  have hl4 : order.length = ops.length := by omega
  have hl5 : inn.length = ops.length := by omega
  refine ALoop.intro (S := fun (i : Nat) => ⟨[(1, .pv (.seq false 5 (ops.map orow))), (2, .pv (.seq false 1 (irow order))), (3, .pv (.seq false 1 (brow inn))), (4, .pv (.ptr 0 0)), (10, .pv (I64 ops.length)), (12, .pv (I64 i))], [[.pv (I64 o.st), .pv (I64 o.kd), .pv (I64 o.ini), .pv (.seq false 4 (o.rows.map rrow))]]⟩) (fun i => i ≤ ops.length ∧ ∀ j, j < i → properAt ops order inn j) (fun i => ops.length - i) 0 ?_ ?_ ?_
  · exact Weak.to (by simp) (by simp) (by simp) (by simp) (by simp)
  · exact ⟨by omega, fun j hj => by omega⟩
  · intro i ⟨hi, ho⟩
    by_cases h : i < ops.length
    · have hw : w64 ((i : Int) + 1) = ((i + 1 : Nat) : Int) := by rw [w64_id (by omega) (by omega)]; omega
      have h3 : i < inn.length := by omega
      have hg : ops.getD i default = ops[i] := by simp [h]
      have hg2 : inn.getD i false = inn[i] := by simp [h3]
      simp [h, orow]
      refine CallK.intro (refPlace_ok order i (by omega)) (by simp) ?_
      simp [h, h3, orow, posS_neg, posS_nn]
      refine ⟨fun c => ⟨c, fun c2 => ⟨c, c2⟩⟩, fun c => ?_, fun c c2 => ⟨i + 1, by dsimp only; omega, ⟨by omega, fun j hj => ?_⟩, Weak.to ?_ (by simp) (by simp) (by simp) (by simp)⟩⟩
      · have : playS o ops order inn = none := by
          unfold playS; rw [if_neg]; rintro ⟨_, h2⟩
          have := (playOk_iff.1 h2).2.2 i h
          unfold properAt at this
          rw [hg, hg2] at this
          grind
        simp [this, playPV]
      · by_cases e : j = i
        · subst e
          unfold properAt
          rw [hg, hg2]
          grind
        · exact ho j (by omega)
      · simp [hw, orow]
    · simp [h]
      have hie : i = ops.length := by omega
      have c2 : playOk ops order inn = true := playOk_iff.2 ⟨hl4, hl5, fun j hj => ho j (by omega)⟩
      have hpa := (playOk_iff.1 c2).2.2
      have hin := range_all hl4 fun i hi => (hpa i hi).1
      have hS : playS o ops order inn = playTo o ops order inn ops.length := by rw [playS, if_pos ⟨c1, c2⟩]
      rw [hS]
      clear h ho hi
      refine ALoop.intro (S := fun (i : Nat) => ⟨[(13, .own true 1 (irow ((playTo o ops order inn i).getD []))), (1, .pv (.seq false 5 (ops.map orow))), (2, .pv (.seq false 1 (irow order))), (3, .pv (.seq false 1 (brow inn))), (4, .pv (.ptr 0 0)), (10, .pv (I64 ops.length)), (14, .pv (I64 i))], [[.pv (I64 o.st), .pv (I64 o.kd), .pv (I64 o.ini), .pv (.seq false 4 (o.rows.map rrow))]]⟩) (fun i => i ≤ ops.length ∧ (playTo o ops order inn i).isSome = true) (fun i => ops.length - i) 0 ?_ ?_ ?_
      · exact Weak.to (by simp [playTo, irow]) (by simp) (by simp) (by simp) (by simp)
      · exact ⟨by omega, rfl⟩
      · intro i ⟨hi, ho⟩
        obtain ⟨out, hout⟩ := Option.isSome_iff_exists.1 ho
        have hlen := playTo_length hout
        by_cases h : i < ops.length
        · have hw : w64 ((i : Int) + 1) = ((i + 1 : Nat) : Int) := by rw [w64_id (by omega) (by omega)]; omega
          have h3 : i < order.length := by omega
          have h4 : i < out.length := by omega
          obtain ⟨j, hj⟩ := Int.eq_ofNat_of_zero_le (hin order[i] (List.getElem_mem h3)).1
          have hj' : order[i] = (j : Int) := hj
          have hjn : j < ops.length := by have := (hin order[i] (List.getElem_mem h3)).2; omega
          have hjn2 : j < inn.length := by omega
          have hlast : out.getLast?.getD 0 = out[i] := by
            rw [List.getLast?_eq_getElem?]
            simp [hlen]
          have hstep : playTo o ops order inn (i + 1) = playStep o ops inn j out := by
            simp [playTo, hout, h3, hj']
          have hmay := refMay_ok o ops[j] out[i] hl
          simp only [robj, orow] at hmay
          simp [h, h3, h4, hout, hj', hjn2]
          refine ⟨fun c => ?_, fun c => ?_⟩
          · cases hms : mayS o ops[j] out[i] with
            | none =>
              rw [hms] at hmay
              simp only [mayPV] at hmay
              simp [h3, hj', hjn, orow]
              refine CallQ0.intro hmay (by simp) ?_
              simp
              have : playTo o ops order inn ops.length = none := by
                refine playTo_none (k := i + 1) ?_ _ (by omega)
                rw [hstep]; simp [playStep, hjn, hjn2, c, hlast, hms]
              simp [this, playPV]
            | some y =>
              rw [hms] at hmay
              simp only [mayPV] at hmay
              simp [h3, hj', hjn, orow]
              refine CallQ0.intro hmay (by simp) ?_
              simp
              have : playTo o ops order inn (i + 1) = some (out ++ [y]) := by
                rw [hstep]; simp [playStep, hjn, hjn2, c, hlast, hms]
              refine ⟨by omega, i + 1, by dsimp only; omega, ⟨by omega, by rw [this]; rfl⟩, Weak.to ?_ (by simp) (by simp) (by simp) (by simp)⟩
              simp [hw, this, irow, orow]
          · have : playTo o ops order inn (i + 1) = some (out ++ [out[i]]) := by
              rw [hstep]; simp [playStep, hjn2, c, hlast]
            refine ⟨by omega, i + 1, by dsimp only; omega, ⟨by omega, by rw [this]; rfl⟩, Weak.to ?_ (by simp) (by simp) (by simp) (by simp)⟩
            simp [hw, this, irow, orow]
        · have : i = ops.length := by omega
          subst this
          simp [hout, playPV]

def caseV (order : List Int) (inn : List Bool) (row : List Int) : PV := .agg [.seq false 1 (irow order), .seq false 1 (brow inn), .seq false 1 (irow row)]

set_option maxRecDepth 16000 in
theorem movesPlays_ok (o : Obj) (ops : List Op5) (order : List Int) (inn : List Bool) (row : List Int) (hr : objR o) : APure Try.prog 4 [robj o, ovec ops, caseV order inn row] (fun r => r = .pv (BL true)) := by
  refine apure1 hmo Try.func4 (by kernel_rfl) rfl rfl (by kernel_rfl) (Nat.le_of_ble_eq_true rfl) ?_
  have hfew := few_ok o
  have h1 := playM_ok o ops order inn
  have h2 := refPlayM_ok o ops order inn hr
  simp only [robj, ovec] at hfew h1 h2
  simp [robj, ovec, caseV]
  refine CallK.intro hfew (by simp) ?_
  simp
  refine ⟨fun c => ?_, fun c1 c2 c3 c4 => ?_⟩
  · refine CallK.intro awakeM_ok (by simp) ?_
    simp
  have hl : o.rows.length ≤ 140737488355328 := by omega
  have hl2 : ops.length ≤ 140737488355328 := by omega
  replace h1 := h1 hl hl2
  replace h2 := h2 hl hl2
  have hlen : ∀ out, playS o ops order inn = some out → out.length ≤ 1000 := by
    intro out ho
    unfold playS at ho
    split at ho
    · have := playTo_length ho; omega
    · cases ho
  cases hp : playS o ops order inn with
  | none =>
    rw [hp] at h1 h2
    simp only [playPV] at h1 h2
    have hs := (sameInts_ok [] [] (by decide)).conv (xs := [.lit (.slice none 0 0), .lit (.slice none 0 0)]) ⟨_, _, rfl, PV.as_nil 1, _, _, rfl, PV.as_nil 1, rfl⟩
    refine CallK.intro h1 (by simp) ?_
    simp
    refine CallK.intro h2 (by simp) ?_
    simp
    refine CallK.intro hs (by simp) ?_
    simp
    refine CallG.intro (r := .pv (BL true)) (fun _ => awakeM_ok) (by simp) ?_
    simp
  | some out =>
    rw [hp] at h1 h2
    simp only [playPV] at h1 h2
    have hs := sameInts_ok out out (by have := hlen out hp; omega)
    refine CallK.intro h1 (by simp) ?_
    simp
    refine CallK.intro h2 (by simp) ?_
    simp
    refine CallK.intro hs (by simp) ?_
    simp
    refine CallG.intro (r := .pv (BL true)) (fun _ => awakeM_ok) (by simp) ?_
    simp

end Go.AX
