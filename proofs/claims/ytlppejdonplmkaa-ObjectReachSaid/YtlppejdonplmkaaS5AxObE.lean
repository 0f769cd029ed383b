/-
  Contracts: what is reached, step by step; what never moves.
  Contracts: which kinds never move.
-/
import Derived.Test.YtlppejdonplmkaaS5AxObB
import Derived.Test.YtlppejdonplmkaaS5AxShelf
import Derived.Test.YtlppejdonplmkaaAxSM
namespace Go.AX
open Go.Proofs Go.Shelf
set_option linter.unusedSimpArgs false

theorem intsB_irow (l : List Int) : intsB l = irow l := rfl
theorem irow_len (l : List Int) : (irow l).length = l.length := by simp [irow]
theorem belowR_intsB' (k : Nat) : ∀ l : List Int, belowR k (intsB l)
  | [] => trivial
  | _ :: l => ⟨⟨trivial, trivial⟩, belowR_intsB' k l⟩
theorem sortI_ok (l : List Int) (hl : l.length ≤ 1000000) : AIn Try.prog 29 1 (intsB l) [] (fun k rows => k = none ∧ rows = intsB (l.mergeSort fun x y => decide (x ≤ y))) :=
  sortInts_in Try.sortA l hl (by kernel_rfl)

set_option maxRecDepth 16000 in
theorem reach_ok (o : Obj) (hr : objR o) (hl : o.rows.length ≤ 1000000) : APure Try.prog 13 [robj o] (fun r => r = .own true 1 (irow (reachS o))) := by
  refine APure.own0 (R := fun r => r = .own true 1 (irow (reachS o)) ∨ (reachS o = [] ∧ r = .pv (.lit (.slice none 0 0)))) ?_ (fun r h => h.imp id fun ⟨e1, e2⟩ => ⟨e2, true, 1, by rw [e1]; rfl⟩)
  refine apure1 hmo Try.func13 (by kernel_rfl) rfl rfl (by kernel_rfl) (Nat.le_of_ble_eq_true rfl) ?_
  have hc := objChk_ok o (by omega)
  simp [robj] at hc ⊢
  refine CallK.intro hc (by simp) ?_
  simp
  refine ⟨fun c => ?_, fun c => ?_⟩
  · unfold reachS
    rw [if_neg (fun h => c (objFine_iff.2 h))]
  have hf : objFine o := objFine_iff.1 c
  refine ALoop.intro (S := fun (y : Nat × List Int) => ⟨[(1, .pv (.ptr 0 0)), (5, .own true 1 (irow y.2)), (6, .pv (I64 y.1))], [[.pv (I64 o.st), .pv (I64 o.kd), .pv (I64 o.ini), .pv (.seq false 4 (o.rows.map rrow))]]⟩)
    (fun y => y.1 ≤ y.2.length ∧ Bfs o y.2 y.1 0) (fun y => 33 - y.1) (0, [o.ini]) ?_ ⟨Nat.zero_le _, Bfs.start o⟩ ?_
  · exact Weak.to (by simp [irow]) (by simp) (by simp) (by simp) (by simp)
  rintro ⟨i, l⟩ ⟨hi, hB⟩
  dsimp only at hi hB
  have hlen := hB.len hr hf
  by_cases c1 : i < l.length
  · have hw : w64 ((i : Int) + 1) = ((i + 1 : Nat) : Int) := by rw [w64_id (by omega) (by omega)]; omega
    simp [c1]
    refine ALoop.intro (S := fun (y : Nat × List Int) => ⟨[(1, .pv (.ptr 0 0)), (5, .own true 1 (irow y.2)), (6, .pv (I64 i)), (26, .pv (.seq false 4 (o.rows.map rrow))), (27, .pv (I64 o.rows.length)), (28, .pv (I64 y.1))], [[.pv (I64 o.st), .pv (I64 o.kd), .pv (I64 o.ini), .pv (.seq false 4 (o.rows.map rrow))]]⟩)
      (fun y => y.1 ≤ o.rows.length ∧ i < y.2.length ∧ Bfs o y.2 i y.1) (fun y => o.rows.length - y.1) (0, l) ?_ ⟨Nat.zero_le _, c1, hB⟩ ?_
    · exact Weak.to (by simp) (by simp) (by simp) (by simp) (by simp)
    rintro ⟨k, l⟩ ⟨hk, hil, hB⟩
    dsimp only at hk hil hB
    have hlen := hB.len hr hf
    by_cases c2 : k < o.rows.length
    · have hw2 : w64 ((k : Int) + 1) = ((k + 1 : Nat) : Int) := by rw [w64_id (by omega) (by omega)]; omega
      simp [c2, rrow, hil]
      refine CallQ.intro (fun _ => contains_ok l o.rows[k].n (by omega)) (by simp) ?_
      simp
      have hgd : l.getD i 0 = l[i] := by rw [List.getD_eq_getElem?_getD, List.getElem?_eq_getElem hil]; rfl
      refine ⟨fun d1 d2 => ⟨by omega, (k + 1, l ++ [o.rows[k].n]), by dsimp only; omega, ⟨by dsimp only; omega, by simp; omega, hB.more hil c2 (by rw [hgd]; exact d1) d2⟩, Weak.to (by simp [hw2, rrow, irow]) (by simp) (by simp) (by simp) (by simp)⟩,
        fun d => ⟨(k + 1, l), by dsimp only; omega, ⟨by dsimp only; omega, hil, hB.skip c2 (fun e => d (by rw [← hgd]; exact e))⟩, Weak.to (by simp [hw2, rrow]) (by simp) (by simp) (by simp) (by simp)⟩⟩
    · simp [c2]
      have hke : k = o.rows.length := by omega
      subst hke
      exact ⟨(i + 1, l), by dsimp only; omega, ⟨by dsimp only; omega, hB.next⟩, Weak.to (by simp [hw]) (by simp) (by simp) (by simp) (by simp)⟩
  · simp [c1]
    have hie : i = l.length := by omega
    subst hie
    have hE := hB.ends hr hf
    have hS := sortI_ok l (by omega)
    rw [hE] at hS
    refine CallK.introX (CallX.introS (o := .slot 5) (lo := 0) (hi := l.length) hS (by simp) rfl rfl (by simp) (by simp) rfl (by simp; rw [List.take_of_length_le (by simp [irow])]; rfl) (belowR_intsB' 0 l) (by simp) (by simp) ?_)
    rintro k rows' ⟨rfl, rfl⟩ _ _
    have hd1 : List.drop l.length (irow l) = [] := List.drop_eq_nil_of_le (by simp [irow])
    simp [hd1]
    rw [reachS, if_pos hf]
    rfl

end Go.AX

namespace Go.AX
open Go.Proofs
set_option linter.unusedSimpArgs false

theorem upTo_len {n : Nat} {p : Int → Bool} : (((List.range n).map fun n : Nat => (n : Int)).filter p).length ≤ n :=
  Nat.le_trans (List.length_filter_le _ _) (by simp)
theorem reachS_len {o : Obj} (hr : objR o) : (reachS o).length ≤ 32 := by
  unfold reachS
  split
  · rename_i h
    have := objFine_st hr h
    have h2 : (reachL o).length ≤ o.st.toNat := upTo_len
    omega
  · simp
theorem dead1_ok (q : Bool) (k : Int) (l : List Int) (x : ORow) (hl : l.length ≤ 1000000) : APure Try.prog 30 [.agg (rrow x), .iptr 1 [[I64 k]] 0 0, .iptr 1 [[.seq q 1 (irow l)]] 0 0] (fun r => r = .pv (BL (decide (x.k = k) && decide (x.s ∈ l)))) := by
  refine apure1 hmo Try.func30 (by kernel_rfl) rfl rfl (by kernel_rfl) (Nat.le_of_ble_eq_true rfl) ?_
  simp [rrow]
  refine CallG.intro (fun _ => contains_ok l x.s (by omega)) (by simp) ?_
  simp
theorem containsRow_ok (rows : List ORow) (k : FuncId) (cap : List PV) (p : ORow → Bool) (hl : rows.length ≤ 140737488355328) (hc : ∀ r, frzL r cap = cap) (hb : ∀ n, belowL n cap) (hp : ptrAny cap = false) (hf : ∀ x ∈ rows, APure Try.prog k (.agg (rrow x) :: cap) (fun r => r = .pv (BL (p x)))) :
    APure Try.prog 31 [.seq false 4 (rows.map rrow), .fn (.func k) [] cap] (fun r => r = .pv (BL (rows.any p))) := by
  refine apure1 hmo Try.func31 (by kernel_rfl) rfl rfl (by kernel_rfl) (Nat.le_of_ble_eq_true rfl) ?_
  have hi := indexRow_ok rows k cap p hl hc hb hp hf
  have he : (decide (0 ≤ idxS p rows)) = rows.any p := by
    unfold idxS
    cases h : rows.findIdx? p with
    | none => rw [List.findIdx?_eq_none_iff] at h; simp; intro x hx; simpa using h x hx
    | some i => rw [List.findIdx?_eq_some_iff_getElem] at h; obtain ⟨h1, h2, _⟩ := h; simp; exact ⟨_, List.getElem_mem h1, h2⟩
  simp [hp, hc]
  refine CallK.intro hi (by simp [hc]) ?_
  simp
  rw [← he]

set_option maxRecDepth 16000 in
theorem dead_ok (o : Obj) (hr : objR o) (hl : o.rows.length ≤ 1000000) : APure Try.prog 15 [robj o] (fun r => r = .own true 1 (irow (deadS o))) := by
  refine apure1 hmo Try.func15 (by kernel_rfl) rfl rfl (by kernel_rfl) (Nat.le_of_ble_eq_true rfl) ?_
  have hc := reach_ok o hr hl
  have hrl := reachS_len hr
  have hne := fun h => reachS_ne hr (o := o) h
  have hst := fun h => objFine_st hr (o := o) h
  have hup : ∀ i, (deadTo o i).length ≤ i := fun i => upTo_len
  have hde1 : objFine o → deadS o = deadTo o o.kd.toNat := fun h => by unfold deadS; rw [if_pos h]
  have hde2 : ¬ objFine o → deadS o = [] := fun h => by unfold deadS; rw [if_neg h]
  have hre : ¬ objFine o → reachS o = [] := fun h => by unfold reachS; rw [if_neg h]
  obtain ⟨re, hre0⟩ : ∃ re, reachS o = re := ⟨_, rfl⟩
  have hdo : ∀ k : Int, deadOf o k = !(o.rows.any fun r => decide (r.k = k) && decide (r.s ∈ re)) := fun k => by rw [← hre0]; unfold deadOf; congr 1
  rw [hre0] at hc hrl hne hre
  simp [robj] at hc ⊢
  refine CallK.intro hc (by simp) ?_
  simp
  refine ALoop.intro (S := fun (i : Nat) => ⟨[(5, .pv (.ptr 2 0)), (1, .pv (.ptr 0 0)), (3, .pv (.ptr 1 0)), (4, .own true 1 (irow (deadTo o i)))], [[.pv (I64 o.st), .pv (I64 o.kd), .pv (I64 o.ini), .pv (.seq false 4 (o.rows.map rrow))], [.own true 1 (irow re)], [.pv (I64 i)]]⟩)
    (fun i => i ≤ o.kd.toNat ∧ (¬ objFine o → i = 0)) (fun i => o.kd.toNat - i) 0 ?_ ⟨Nat.zero_le _, fun _ => rfl⟩ ?_
  · exact (Weak.nilOwn (s := 4) 1 true (by simp)).trans (Weak.to (by simp [deadTo, irow]) (by simp) (by simp) (by simp) (by simp))
  rintro i ⟨hi, hf⟩
  have hu := hup i
  by_cases c1 : (i : Int) < o.kd ∧ re ≠ []
  · obtain ⟨c2, c3⟩ := c1
    have c4 : 0 < re.length := by cases re with
      | nil => exact absurd rfl c3
      | cons _ _ => simp
    have hfo : objFine o := Classical.byContradiction fun h => c3 (hre h)
    have hw : w64 ((i : Int) + 1) = ((i + 1 : Nat) : Int) := by have := hst hfo; rw [w64_id (by omega) (by omega)]; omega
    have hsu := deadTo_succ o i
    rw [hdo] at hsu
    have hkd := hst hfo
    simp [c2, c4, frzP, frzC]
    refine CallK.intro (containsRow_ok o.rows 30 [.iptr 1 [[I64 i]] 0 0, .iptr 1 [[.seq false 1 (irow re)]] 0 0] (fun r => decide (r.k = (i : Int)) && decide (r.s ∈ re)) (by omega) (fun r => by simp) (fun n => by simp) (by simp) (fun x _ => dead1_ok false i re x (by omega))) (by simp [frzP, frzC]) ?_
    generalize (o.rows.any fun r => decide (r.k = (i : Int)) && decide (r.s ∈ re)) = q at hsu ⊢
    simp
    cases q with
    | true =>
      simp at hsu ⊢
      refine ⟨i + 1, by (try dsimp only); omega, ⟨by (try dsimp only); omega, fun h => absurd hfo h⟩, ?_⟩
      refine Weak.trans ?_ (Weak.last (s0 := 5) (off := 0) (t := [(1, .pv (.ptr 0 0)), (3, .pv (.ptr 1 0)), (4, .own true 1 (irow (deadTo o (i + 1))))]) (B := [[.pv (I64 o.st), .pv (I64 o.kd), .pv (I64 o.ini), .pv (.seq false 4 (o.rows.map rrow))], [.own true 1 (irow re)]]) (x := [.pv (I64 i)]) (y := [.pv (I64 ((i + 1 : Nat) : Int))]) ?_ ?_ ?_ ?_)
      · exact Weak.to (by simp [hw, hsu]) (by simp [hw]) (by simp) (by simp) (by simp)
      · simp
      · simp
      · intro v hv; simp at hv; exact ⟨_, hv, trivial⟩
      · simp
    | false =>
      simp at hsu ⊢
      refine ⟨by omega, i + 1, by (try dsimp only); omega, ⟨by (try dsimp only); omega, fun h => absurd hfo h⟩, ?_⟩
      refine Weak.trans ?_ (Weak.last (s0 := 5) (off := 0) (t := [(1, .pv (.ptr 0 0)), (3, .pv (.ptr 1 0)), (4, .own true 1 (irow (deadTo o (i + 1))))]) (B := [[.pv (I64 o.st), .pv (I64 o.kd), .pv (I64 o.ini), .pv (.seq false 4 (o.rows.map rrow))], [.own true 1 (irow re)]]) (x := [.pv (I64 i)]) (y := [.pv (I64 ((i + 1 : Nat) : Int))]) ?_ ?_ ?_ ?_)
      · exact Weak.to (by simp [hw, hsu, irow]) (by simp [hw]) (by simp) (by simp) (by simp)
      · simp
      · simp
      · intro v hv; simp at hv; exact ⟨_, hv, trivial⟩
      · simp
  · have hend : deadTo o i = deadS o := by
      by_cases hfo : objFine o
      · rw [hde1 hfo]
        have : i = o.kd.toNat := by
          rcases Classical.not_and_iff_not_or_not.1 c1 with c | c
          · omega
          · exact absurd (Classical.not_not.1 c) (hne hfo)
        rw [this]
      · rw [hde2 hfo, hf hfo]; rfl
    by_cases c2 : (i : Int) < o.kd
    · have c3 : re = [] := Classical.byContradiction fun h => c1 ⟨c2, h⟩
      subst c3
      simp [c2, hend]
    · simp [c2, hend]

set_option maxRecDepth 16000 in
theorem refDead_ok (o : Obj) (hr : objR o) (hl : o.rows.length ≤ 1000000) : APure Try.prog 16 [robj o] (fun r => r = .own true 1 (irow (deadS o))) := by
  refine apure1 hmo Try.func16 (by kernel_rfl) rfl rfl (by kernel_rfl) (Nat.le_of_ble_eq_true rfl) ?_
  have hc := refReach_ok o hr hl
  have hrl := reachS_len hr
  have hne := fun h => reachS_ne hr (o := o) h
  have hst := fun h => objFine_st hr (o := o) h
  have hup : ∀ i, (deadTo o i).length ≤ i := fun i => upTo_len
  have hde1 : objFine o → deadS o = deadTo o o.kd.toNat := fun h => by unfold deadS; rw [if_pos h]
  have hde2 : ¬ objFine o → deadS o = [] := fun h => by unfold deadS; rw [if_neg h]
  have hre : ¬ objFine o → reachS o = [] := fun h => by unfold reachS; rw [if_neg h]
  obtain ⟨re, hre0⟩ : ∃ re, reachS o = re := ⟨_, rfl⟩
  have hdo : ∀ k : Int, deadOf o k = !(o.rows.any fun r => decide (r.k = k) && decide (r.s ∈ re)) := fun k => by rw [← hre0]; unfold deadOf; congr 1
  rw [hre0] at hc hrl hne hre
  simp [robj] at hc ⊢
  refine CallK.intro hc (by simp) ?_
  simp
  refine ALoop.intro (S := fun (i : Nat) => ⟨[(1, .pv (.ptr 0 0)), (3, .own true 1 (irow re)), (4, .own true 1 (irow (deadTo o i))), (5, .pv (I64 i))], [[.pv (I64 o.st), .pv (I64 o.kd), .pv (I64 o.ini), .pv (.seq false 4 (o.rows.map rrow))]]⟩)
    (fun i => i ≤ o.kd.toNat ∧ (¬ objFine o → i = 0)) (fun i => o.kd.toNat - i) 0 ?_ ⟨Nat.zero_le _, fun _ => rfl⟩ ?_
  · exact (Weak.nilOwn (s := 4) 1 true (by simp)).trans (Weak.to (by simp [deadTo, irow]) (by simp) (by simp) (by simp) (by simp))
  rintro i ⟨hi, hf⟩
  have hu := hup i
  by_cases c1 : (i : Int) < o.kd ∧ re ≠ []
  · obtain ⟨c2, c3⟩ := c1
    have c4 : 0 < re.length := by cases re with
      | nil => exact absurd rfl c3
      | cons _ _ => simp
    have hfo : objFine o := Classical.byContradiction fun h => c3 (hre h)
    have hw : w64 ((i : Int) + 1) = ((i + 1 : Nat) : Int) := by have := hst hfo; rw [w64_id (by omega) (by omega)]; omega
    have hsu := deadTo_succ o i
    rw [hdo] at hsu
    have hkd := hst hfo
    simp [c2, c4]
    refine ALoop.intro (S := fun (j : Nat) => ⟨[(1, .pv (.ptr 0 0)), (3, .own true 1 (irow re)), (4, .own true 1 (irow (deadTo o i))), (5, .pv (I64 i)), (6, .pv (BL ((o.rows.take j).any fun r => decide (r.k = (i : Int)) && decide (r.s ∈ re)))), (7, .pv (I64 j))], [[.pv (I64 o.st), .pv (I64 o.kd), .pv (I64 o.ini), .pv (.seq false 4 (o.rows.map rrow))]]⟩)
      (fun j => j ≤ o.rows.length) (fun j => o.rows.length - j) 0 ?_ (Nat.zero_le _) ?_
    · exact Weak.to (by simp) (by simp) (by simp) (by simp) (by simp)
    intro j hj
    by_cases c5 : j < o.rows.length
    · have hw2 : w64 ((j : Int) + 1) = ((j + 1 : Nat) : Int) := by rw [w64_id (by omega) (by omega)]; omega
      have hta : ((o.rows.take (j + 1)).any fun r => decide (r.k = (i : Int)) && decide (r.s ∈ re)) = (((o.rows.take j).any fun r => decide (r.k = (i : Int)) && decide (r.s ∈ re)) || (decide (o.rows[j].k = (i : Int)) && decide (o.rows[j].s ∈ re))) := by
        rw [← List.take_append_getElem c5, List.any_append]; simp
      generalize ((o.rows.take j).any fun r => decide (r.k = (i : Int)) && decide (r.s ∈ re)) = q at hta ⊢
      cases q with
      | true =>
        simp at hta
        simp [c5, rrow]
        refine CallG.intro (r := .pv (BL (decide (o.rows[j].s ∈ re)))) (fun _ => refHas_ok re o.rows[j].s (by omega)) (by simp) ?_
        simp
        exact ⟨j + 1, by (try dsimp only); omega, by (try dsimp only); omega, Weak.to (by simp [hw2, hta, rrow]) (by simp) (by simp) (by simp) (by simp)⟩
      | false =>
        simp only [Bool.false_or] at hta
        simp [c5, rrow]
        refine CallG.intro (r := .pv (BL (decide (o.rows[j].s ∈ re)))) (fun _ => refHas_ok re o.rows[j].s (by omega)) (by simp) ?_
        simp
        exact ⟨j + 1, by (try dsimp only); omega, by (try dsimp only); omega, Weak.to (by simp only [hta]; simp [hw2, rrow]) (by simp) (by simp) (by simp) (by simp)⟩
    · have hje : j = o.rows.length := by omega
      subst hje
      rw [List.take_length]
      generalize (o.rows.any fun r => decide (r.k = (i : Int)) && decide (r.s ∈ re)) = q at hsu ⊢
      cases q with
      | true =>
        simp at hsu ⊢
        exact ⟨i + 1, by (try dsimp only); omega, ⟨by (try dsimp only); omega, fun h => absurd hfo h⟩, Weak.to (by simp [hw, hsu]) (by simp) (by simp) (by simp) (by simp)⟩
      | false =>
        simp at hsu ⊢
        exact ⟨by omega, i + 1, by (try dsimp only); omega, ⟨by (try dsimp only); omega, fun h => absurd hfo h⟩, Weak.to (by simp [hw, hsu, irow]) (by simp) (by simp) (by simp) (by simp)⟩
  · have hend : deadTo o i = deadS o := by
      by_cases hfo : objFine o
      · rw [hde1 hfo]
        have : i = o.kd.toNat := by
          rcases Classical.not_and_iff_not_or_not.1 c1 with c | c
          · omega
          · exact absurd (Classical.not_not.1 c) (hne hfo)
        rw [this]
      · rw [hde2 hfo, hf hfo]; rfl
    by_cases c2 : (i : Int) < o.kd
    · have c3 : re = [] := Classical.byContradiction fun h => c1 ⟨c2, h⟩
      subst c3
      simp [c2, hend]
    · simp [c2, hend]

end Go.AX
