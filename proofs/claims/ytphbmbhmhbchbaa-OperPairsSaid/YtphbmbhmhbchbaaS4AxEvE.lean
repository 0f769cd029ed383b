/-
  Contracts: replevinref27.Of, OperTells.
-/
import Derived.Test.YtphbmbhmhbchbaaS4AxEvD
import Derived.Test.YtphbmbhmhbchbaaS4AxOpD
namespace Go.AX
open Go.Proofs
set_option linter.unusedSimpArgs false

def refOps (l : List Ev) (i : Nat) : List Op5 := (callsTo l i).map (opAt l l.length)
theorem refOps_succ (l : List Ev) (i : Nat) : refOps l (i + 1) = if (l.getD i default).w = 1 then refOps l i ++ [⟨(l.getD i default).p, (l.getD i default).n, (i : Int), nextTo l i l.length, resTo l i l.length⟩] else refOps l i := by
  unfold refOps
  rw [callsTo_succ]
  split
  · rw [List.map_append]; rfl
  · rfl
theorem refOps_len (l : List Ev) (i : Nat) : (refOps l i).length ≤ i := by unfold refOps; rw [List.length_map]; exact callsTo_len l i
def refOfV (l : List Ev) : PV := if (evChk l).2 = 0 then .seq true 5 ((refOps l l.length).map orow) else .lit (.slice none 0 0)
set_option maxRecDepth 16000 in
theorem refOf27_ok (l : List Ev) (hl : l.length ≤ 140737488355328) : APure Try.prog 17 [evV l] (fun r => r = .pv (.tup [refOfV l, I64 (evChk l).2])) := by
  refine apureN [2, 3] hmo Try.func17 (by kernel_rfl) rfl (fun _ _ => results_tmp2 rfl _ _ _) (by kernel_rfl) (Nat.le_of_ble_eq_true rfl) ?_
  have hc := refEvChk_ok l hl
  simp only [evV] at hc
  simp [evV]
  refine CallK.intro hc (by simp) ?_
  by_cases c : (evChk l).2 = 0
  rotate_left
  · simp [refOfV, c]
  have hc2 : l.length ≤ 10000 := by
    unfold evChk at c
    split at c
    · cases c
    · omega
  simp [refOfV, c]
  refine ALoop.intro (S := fun (i : Nat) => ⟨[(0, .pv (evV l)), (6, .own true 5 ((refOps l i).map orow)), (7, .pv (I64 i))], []⟩) (fun i => i ≤ l.length) (fun i => l.length - i) 0 ?_ (Nat.zero_le _) ?_
  · exact (Weak.nilOwn (s := 6) 5 true (by simp)).trans (Weak.to (by simp [evV, refOps, callsTo]) rfl (by simp) (by simp [evV]) (by simp))
  · intro i hi
    by_cases c1 : i < l.length
    · have hw : w64 ((i : Int) + 1) = ((i + 1 : Nat) : Int) := by rw [w64_id (by omega) (by omega)]; omega
      obtain ⟨x, hx⟩ : ∃ x, l[i] = x := ⟨_, rfl⟩
      have hgd : l.getD i default = x := by rw [← hx]; simp [c1]
      have hcs := refOps_succ l i
      rw [hgd] at hcs
      have hlen := refOps_len l i
      by_cases d : x.w = 1
      · rw [if_pos d] at hcs
        have he1 : nextTo l i (i + 1) = -1 := nextTo_early l i (i + 1) (Nat.le_refl _)
        have he2 : resTo l i (i + 1) = -1 := by unfold resTo; rw [he1]; rfl
        simp [evV, evR, c1, hx, d]
        refine ALoop.intro (S := fun (k : Nat) => ⟨[(0, .pv (evV l)), (6, .own true 5 ((refOps l i).map orow)), (7, .pv (I64 i)), (8, .pv (.ptr 0 0)), (9, .pv (I64 k))], [[.pv (I64 x.p), .pv (I64 x.n), .pv (I64 i), .pv (I64 (nextTo l i k)), .pv (I64 (resTo l i k))]]⟩) (fun k => i + 1 ≤ k ∧ k ≤ l.length) (fun k => l.length - k) (i + 1) ?_ ⟨Nat.le_refl _, by omega⟩ ?_
        · exact Weak.to (by simp [evV, hw]) (by simp [he1, he2]) (by simp) (by simp [evV]) (by simp)
        · rintro k ⟨hk1, hk⟩
          have hnl := nextTo_lt l i k
          by_cases ck : k < l.length
          · have hw2 : w64 ((k : Int) + 1) = ((k + 1 : Nat) : Int) := by rw [w64_id (by omega) (by omega)]; omega
            obtain ⟨y, hy⟩ : ∃ y, l[k] = y := ⟨_, rfl⟩
            have hgk : l.getD k default = y := by rw [← hy]; simp [ck]
            by_cases cn : 0 ≤ nextTo l i k
            · have hst := nextTo_stays l i cn l.length hk
              have hrs : resTo l i l.length = resTo l i k := by unfold resTo; rw [hst]
              simp [evV, evR, ck, cn]
              refine ⟨by omega, i + 1, by (try dsimp only); omega, by (try dsimp only); omega, Weak.to (by simp [hw, hcs, orow, evV, hst, hrs]) (by simp) (by simp) (by simp [evV]) (by simp)⟩
            · have hs : nextTo l i (k + 1) = if y.p = x.p then (k : Int) else -1 := by
                rw [nextTo, if_neg cn, hgk, hgd]
                by_cases e : y.p = x.p
                · rw [if_pos ⟨by omega, e⟩, if_pos e]
                · rw [if_neg (fun h => e h.2), if_neg e]
              have cn2 : nextTo l i k < 0 := by omega
              by_cases e : y.p = x.p
              · rw [if_pos e] at hs
                have hr : resTo l i (k + 1) = y.n := by unfold resTo; rw [hs, if_pos (by omega), Int.toNat_natCast, hgk]
                simp [evV, evR, ck, c1, hx, hy, cn2, e]
                exact ⟨k + 1, by (try dsimp only); omega, ⟨by (try dsimp only); omega, by (try dsimp only); omega⟩, Weak.to (by simp [hw2, evV]) (by simp [hs, hr]) (by simp) (by simp [evV]) (by simp)⟩
              · rw [if_neg e] at hs
                have hn1 : nextTo l i k = -1 := by omega
                have hr : resTo l i (k + 1) = resTo l i k := by unfold resTo; rw [hs, hn1]
                simp [evV, evR, ck, c1, hx, hy, cn2, e]
                exact ⟨k + 1, by (try dsimp only); omega, ⟨by (try dsimp only); omega, by (try dsimp only); omega⟩, Weak.to (by simp [hw2, evV]) (by simp [hs, hr, hn1]) (by simp) (by simp [evV]) (by simp)⟩
          · have : k = l.length := by omega
            subst this
            simp [evV]
            refine ⟨by omega, i + 1, by (try dsimp only); omega, by (try dsimp only); omega, Weak.to (by simp [hw, hcs, orow, evV]) (by simp) (by simp) (by simp [evV]) (by simp)⟩
      · rw [if_neg d] at hcs
        simp [evV, evR, c1, hx, d]
        exact ⟨i + 1, by dsimp only; omega, by dsimp only; omega, Weak.to (by simp [hw, hcs, orow, evV]) rfl (by simp) (by simp [evV]) (by simp)⟩
    · have : i = l.length := by omega
      subst this
      simp [evV]

@[simp] theorem nwR_orowE (l : List Op5) : nwR (l.map orow) := by
  rw [nwR_iff]; intro r hr
  obtain ⟨x, _, rfl⟩ := List.mem_map.1 hr
  exact ⟨trivial, trivial, trivial, trivial, trivial, trivial⟩
theorem evGo_lt {l : List Ev} : ∀ (k i : Nat), (evGo l k i).1 ≤ ((i + k : Nat) : Int)
  | 0, i => by simp [evGo]
  | k + 1, i => by
    rw [evGo]
    split
    · simp; omega
    · have := evGo_lt (l := l) k (i + 1)
      omega
set_option maxRecDepth 16000 in
theorem operTells_ok (l : List Ev) (a b : List Op5) : APure Try.prog 3 [evV l, ovec a, ovec b] (fun r => r = .pv (BL true)) := by
  refine apure1 hmo Try.func3 (by kernel_rfl) rfl rfl (by kernel_rfl) (Nat.le_of_ble_eq_true rfl) ?_
  by_cases c1 : 100 < l.length
  · have c1' : 100 < (l.length : Int) := by omega
    simp [evV, ovec, c1, c1']
    exact CallK.intro opAwake_ok (by simp) (by simp)
  have c1' : ¬ 100 < (l.length : Int) := by omega
  by_cases c2 : 60 < a.length
  · have c2' : 60 < (a.length : Int) := by omega
    simp [evV, ovec, c1, c1', c2, c2']
    exact CallK.intro opAwake_ok (by simp) (by simp)
  have c2' : ¬ 60 < (a.length : Int) := by omega
  by_cases c3 : 60 < b.length
  · have c3' : 60 < (b.length : Int) := by omega
    simp [evV, ovec, c1, c1', c2, c2', c3, c3']
    exact CallK.intro opAwake_ok (by simp) (by simp)
  have c3' : ¬ 60 < (b.length : Int) := by omega
  have k1 := of_ok l (by omega)
  have k2 := refOf27_ok l (by omega)
  have k3 := chk_okC a (by omega)
  have k4 := refChk_ok a (by omega)
  have k5 := sameOps_ok a b (by omega)
  have k6 := refSameOps_ok a b (by omega)
  by_cases c : (evChk l).2 = 0
  · have hE : ∀ j, j < l.length → evErr l j = 0 := by
      unfold evChk at c
      split at c
      · cases c
      · exact fun j hj => evGo_okI l.length 0 c j (Nat.zero_le _) (by omega)
    have ho := (of_same (l := l) l.length hE).1
    rw [ofV, if_pos c, ho, c] at k1
    rw [refOfV, if_pos c, c] at k2
    have hr : (callsTo l l.length).map (opAt l l.length) = refOps l l.length := rfl
    rw [hr] at k1
    have hl2 := refOps_len l l.length
    have k0 := refSameOps_ok (refOps l l.length) (refOps l l.length) (by omega)
    rw [decide_eq_true rfl] at k0
    generalize refOps l l.length = ro at *
    generalize chk a = ca at *
    generalize decide (a = b) = D at *
    simp only [ovec, evV] at k0 k1 k2 k3 k4 k5 k6
    simp [evV, ovec, c1, c1', c2, c2', c3, c3']
    refine CallK.intro k1 (by simp) ?_
    simp
    refine CallK.intro k2 (by simp) ?_
    simp
    refine CallK.intro k3 (by simp) ?_
    simp
    refine CallK.intro k4 (by simp) ?_
    simp
    refine CallK.intro k0 (by simp) ?_
    simp
    refine CallG.intro (fun _ => k5) (by simp) ?_
    simp
    refine CallG.intro (fun _ => k6) (by simp) ?_
    simp
    refine CallG.intro (r := .pv (BL true)) (fun _ => opAwake_ok) (by simp) ?_
    simp
  · have k0 := refSameOps_ok [] [] (by simp)
    rw [decide_eq_true rfl] at k0
    rw [ofV, if_neg c] at k1
    rw [refOfV, if_neg c] at k2
    generalize evChk l = ec at *
    generalize chk a = ca at *
    generalize decide (a = b) = D at *
    simp only [ovec, evV] at k1 k2 k3 k4 k5 k6
    simp [evV, ovec, c1, c1', c2, c2', c3, c3']
    refine CallK.intro k1 (by simp) ?_
    simp
    refine CallK.intro k2 (by simp) ?_
    simp
    refine CallK.intro k3 (by simp) ?_
    simp
    refine CallK.intro k4 (by simp) ?_
    simp
    refine CallK.intro (k0.conv ⟨_, _, rfl, PV.as_nil 5, _, _, rfl, PV.as_nil 5, rfl⟩) (by simp) ?_
    simp
    refine CallG.intro (fun _ => k5) (by simp) ?_
    simp
    refine CallG.intro (fun _ => k6) (by simp) ?_
    simp
    refine CallG.intro (r := .pv (BL true)) (fun _ => opAwake_ok) (by simp) ?_
    simp

end Go.AX
