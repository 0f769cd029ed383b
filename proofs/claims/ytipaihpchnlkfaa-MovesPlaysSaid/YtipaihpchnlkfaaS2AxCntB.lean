/-
  Contracts: operations (oper, the document's answer).
-/
import Derived.Test.YtipaihpchnlkfaaS2AxCntA
namespace Go.AX
open Go.Proofs

structure Op5 where
  p : Int
  k : Int
  s : Int
  e : Int
  r : Int
  deriving DecidableEq, Inhabited

def orow (o : Op5) : List PV := [I64 o.p, I64 o.k, I64 o.s, I64 o.e, I64 o.r]
def ovec (ops : List Op5) : PV := .seq false 5 (ops.map orow)

def aheadS (a b : Op5) : Bool := decide (a.e ≥ 0) && decide (a.e < b.s)
theorem ahead_ok (a b : Op5) : APure Try.prog 45 [.agg (orow a), .agg (orow b)] (fun r => r = .pv (BL (aheadS a b))) := by
  refine apure1 hmo Try.func45 (by kernel_rfl) rfl rfl (by kernel_rfl) (Nat.le_of_ble_eq_true rfl) ?_
  simp [orow, aheadS]
theorem refAhead_ok (a b : Op5) : APure Try.prog 84 [.agg (orow a), .agg (orow b)] (fun r => r = .pv (BL (aheadS a b))) := by
  refine apure1 hmo Try.func84 (by kernel_rfl) rfl rfl (by kernel_rfl) (Nat.le_of_ble_eq_true rfl) ?_
  simp [orow, aheadS]

def endedS (o : Op5) : Bool := if o.e = -1 then decide (o.r = -1) else decide (o.e > o.s) && decide (o.e ≤ 9999) && decide (o.r ≥ 0) && decide (o.r ≤ 1000000)
theorem ended_ok (o : Op5) : APure Try.prog 111 [.agg (orow o)] (fun r => r = .pv (BL (endedS o))) := by
  refine apure1 hmo Try.func111 (by kernel_rfl) rfl rfl (by kernel_rfl) (Nat.le_of_ble_eq_true rfl) ?_
  simp [orow, endedS]
  exact ⟨fun h h' => absurd h h', fun h h' => absurd h' h⟩

def aloneS (o : Op5) : Int := if o.p < 1 ∨ o.p > 1000 ∨ o.s < 0 ∨ o.s > 9999 then 2 else if o.k < 0 ∨ o.k ≥ 64 then 31 else if endedS o then 0 else 7
set_option maxRecDepth 4000 in
theorem alone_ok (o : Op5) : APure Try.prog 82 [.agg (orow o)] (fun r => r = .pv (I64 (aloneS o))) := by
  refine apure1 hmo Try.func82 (by kernel_rfl) rfl rfl (by kernel_rfl) (Nat.le_of_ble_eq_true rfl) ?_
  simp [orow]
  refine ⟨fun h => by rw [aloneS, if_pos (by omega)], fun h1 h2 h3 h4 => ⟨fun h => by rw [aloneS, if_neg (by omega), if_pos (by omega)], fun h5 h6 => ?_⟩⟩
  refine CallK.intro (ended_ok o) (by simp) ?_
  simp
  have : aloneS o = if endedS o = true then 0 else 7 := by rw [aloneS, if_neg (by omega), if_neg (by omega)]
  simp [this]

@[simp] theorem belowR_orow (k : Nat) (ops : List Op5) : belowR k (ops.map orow) := by
  rw [belowR_iff]; intro r hr x hx
  obtain ⟨o, _, rfl⟩ := List.mem_map.1 hr
  simp [orow] at hx
  rcases hx with rfl | rfl | rfl | rfl | rfl <;> trivial
@[simp] theorem belowR_ints (k : Nat) (l : List Int) : belowR k (l.map fun i => [I64 i]) := by
  rw [belowR_iff]; intro r hr x hx
  obtain ⟨o, _, rfl⟩ := List.mem_map.1 hr
  simp at hx; subst hx; trivial

def pendTo (ops : List Op5) (n : Nat) : List Int := ((List.range n).filter fun j => decide ((ops.getD j default).e = -1)).map Int.ofNat
theorem pendTo_succ (ops : List Op5) {n : Nat} (h : n < ops.length) : pendTo ops (n + 1) = if ops[n].e = -1 then pendTo ops n ++ [(n : Int)] else pendTo ops n := by
  unfold pendTo
  rw [List.range_succ, List.filter_append, List.map_append]
  simp only [List.filter_cons, List.filter_nil, List.getD_eq_getElem?_getD, List.getElem?_eq_getElem h, Option.getD_some]
  split <;> simp_all
theorem pendTo_length (ops : List Op5) (n : Nat) : (pendTo ops n).length ≤ n := by
  unfold pendTo
  rw [List.length_map]
  exact Nat.le_trans (List.length_filter_le _ _) (by simp)

theorem pending_ok (ops : List Op5) (hl : ops.length ≤ 1000000) : APure Try.prog 43 [ovec ops] (fun r => r = .own true 1 ((pendTo ops ops.length).map fun i => [I64 i])) := by
  refine apure1 hmo Try.func43 (by kernel_rfl) rfl rfl (by kernel_rfl) (Nat.le_of_ble_eq_true rfl) ?_
  simp [ovec]
  refine ALoop.intro (S := fun (i : Nat) => ⟨[(3, .own true 1 ((pendTo ops i).map fun i => [I64 i])), (6, .pv (ovec ops)), (7, .pv (I64 ops.length)), (8, .pv (I64 i))], []⟩) (fun i => i ≤ ops.length) (fun i => ops.length - i) 0 ?_ ?_ ?_
  · exact (Weak.nilOwn (s := 3) 1 true (by simp)).trans (Weak.to (by simp [pendTo, ovec]) rfl (by simp) (by simp [ovec]) (by simp))
  · omega
  · intro i hi
    by_cases h : i < ops.length
    · have hw : w64 ((i : Int) + 1) = ((i + 1 : Nat) : Int) := by rw [w64_id (by omega) (by omega)]; omega
      have hn := pendTo_length ops i
      simp [ovec, h, orow]
      refine ⟨fun h1 => ⟨by omega, i + 1, by dsimp only; omega, by dsimp only; omega, Weak.to ?_ rfl (by simp) (by simp) (by simp)⟩, fun h1 => ⟨i + 1, by dsimp only; omega, by dsimp only; omega, Weak.to ?_ rfl (by simp) (by simp) (by simp)⟩⟩
      · simp [pendTo_succ ops h, h1, hw]
      · simp [pendTo_succ ops h, h1, hw]
    · simp [h]
      have : i = ops.length := by omega
      rw [this]

theorem refPending_ok (ops : List Op5) (hl : ops.length ≤ 1000000) : APure Try.prog 44 [ovec ops] (fun r => r = .own true 1 ((pendTo ops ops.length).map fun i => [I64 i])) := by
  refine apure1 hmo Try.func44 (by kernel_rfl) rfl rfl (by kernel_rfl) (Nat.le_of_ble_eq_true rfl) ?_
  simp [ovec]
  refine ALoop.intro (S := fun (i : Nat) => ⟨[(3, .own true 1 ((pendTo ops i).map fun i => [I64 i])), (0, .pv (ovec ops)), (4, .pv (I64 i))], []⟩) (fun i => i ≤ ops.length) (fun i => ops.length - i) 0 ?_ ?_ ?_
  · exact (Weak.nilOwn (s := 3) 1 true (by simp)).trans (Weak.to (by simp [pendTo, ovec]) rfl (by simp) (by simp [ovec]) (by simp))
  · omega
  · intro i hi
    by_cases h : i < ops.length
    · have hw : w64 ((i : Int) + 1) = ((i + 1 : Nat) : Int) := by rw [w64_id (by omega) (by omega)]; omega
      have hn := pendTo_length ops i
      simp [ovec, h, orow]
      refine ⟨fun h1 => ⟨by omega, i + 1, by dsimp only; omega, by dsimp only; omega, Weak.to ?_ rfl (by simp) (by simp) (by simp)⟩, fun h1 => ⟨i + 1, by dsimp only; omega, by dsimp only; omega, Weak.to ?_ rfl (by simp) (by simp) (by simp)⟩⟩
      · simp [pendTo_succ ops h, h1, hw]
      · simp [pendTo_succ ops h, h1, hw]
    · simp [ovec, h]
      have : i = ops.length := by omega
      rw [this]

/-! ### Pairs -/
def prow (p : Int × Int) : List PV := [I64 p.1, I64 p.2]
@[simp] theorem belowR_prow (k : Nat) (l : List (Int × Int)) : belowR k (l.map prow) := by
  rw [belowR_iff]; intro r hr x hx
  obtain ⟨o, _, rfl⟩ := List.mem_map.1 hr
  simp [prow] at hx; rcases hx with rfl | rfl <;> trivial
def pairsRow (ops : List Op5) (i j : Nat) : List (Int × Int) := ((List.range j).filter fun b => aheadS (ops.getD i default) (ops.getD b default)).map fun (b : Nat) => ((i : Int), (b : Int))
def pairsTo (ops : List Op5) (i : Nat) : List (Int × Int) := (List.range i).flatMap fun a => pairsRow ops a ops.length
theorem pairsRow_succ (ops : List Op5) (i : Nat) {j : Nat} (hi : i < ops.length) (h : j < ops.length) : pairsRow ops i (j + 1) = if aheadS ops[i] ops[j] = true then pairsRow ops i j ++ [((i : Int), (j : Int))] else pairsRow ops i j := by
  unfold pairsRow
  rw [List.range_succ, List.filter_append, List.map_append]
  simp only [List.filter_cons, List.filter_nil, List.getD_eq_getElem?_getD, List.getElem?_eq_getElem h, List.getElem?_eq_getElem hi, Option.getD_some]
  split <;> simp_all
theorem pairsTo_succ (ops : List Op5) (i : Nat) : pairsTo ops (i + 1) = pairsTo ops i ++ pairsRow ops i ops.length := by
  unfold pairsTo
  rw [List.range_succ, List.flatMap_append]; simp
theorem pairsRow_length (ops : List Op5) (i j : Nat) : (pairsRow ops i j).length ≤ j := by
  unfold pairsRow
  rw [List.length_map]
  exact Nat.le_trans (List.length_filter_le _ _) (by simp)
theorem pairsTo_length (ops : List Op5) : ∀ i, (pairsTo ops i).length ≤ i * ops.length
  | 0 => by simp [pairsTo]
  | i + 1 => by
    rw [pairsTo_succ, List.length_append, Nat.succ_mul]
    have := pairsTo_length ops i
    have := pairsRow_length ops i ops.length
    omega

theorem pairs_ok (ops : List Op5) (hl : ops.length ≤ 1000000) : APure Try.prog 39 [ovec ops] (fun r => r = .own true 2 ((pairsTo ops ops.length).map prow)) := by
  refine apure1 hmo Try.func39 (by kernel_rfl) rfl rfl (by kernel_rfl) (Nat.le_of_ble_eq_true rfl) ?_
  simp [ovec]
  refine ALoop.intro (S := fun (i : Nat) => ⟨[(3, .own true 2 ((pairsTo ops i).map prow)), (8, .pv (ovec ops)), (9, .pv (I64 ops.length)), (10, .pv (I64 i)), (0, .pv (ovec ops))], []⟩) (fun i => i ≤ ops.length) (fun i => ops.length - i) 0 ?_ ?_ ?_
  · exact (Weak.nilOwn (s := 3) 2 true (by simp)).trans (Weak.to (by simp [pairsTo, ovec]) rfl (by simp) (by simp [ovec]) (by simp))
  · omega
  · intro i hi
    by_cases h : i < ops.length
    · have hw : w64 ((i : Int) + 1) = ((i + 1 : Nat) : Int) := by rw [w64_id (by omega) (by omega)]; omega
      have hn := pairsTo_length ops i
      have hn2 : i * ops.length ≤ 1000000 * 1000000 := Nat.mul_le_mul (by omega) hl
      simp [ovec, h, orow]
      refine ALoop.intro (S := fun (j : Nat) => ⟨[(3, .own true 2 ((pairsTo ops i ++ pairsRow ops i j).map prow)), (15, .pv (ovec ops)), (16, .pv (I64 ops.length)), (17, .pv (I64 j)), (4, .pv (I64 i)), (5, .pv (.ptr 0 0)), (8, .pv (ovec ops)), (9, .pv (I64 ops.length)), (10, .pv (I64 i)), (0, .pv (ovec ops))], [(orow ops[i]).map .pv]⟩) (fun j => j ≤ ops.length) (fun j => ops.length - j) 0 ?_ ?_ ?_
      · exact Weak.to (by simp [pairsRow, ovec]) (by simp [orow]) (by simp) (by simp [ovec]) (by simp [orow])
      · omega
      · intro j hj
        by_cases h2 : j < ops.length
        · have hw2 : w64 ((j : Int) + 1) = ((j + 1 : Nat) : Int) := by rw [w64_id (by omega) (by omega)]; omega
          have hm := pairsRow_length ops i j
          simp [ovec, h2, orow]
          refine CallK.intro (ahead_ok ops[i] ops[j]) (by simp) ?_
          simp
          refine ⟨fun h3 => ⟨by omega, j + 1, by dsimp only; omega, by dsimp only; omega, Weak.to ?_ (by simp [orow]) (by simp) (by simp [ovec]) (by simp [orow])⟩, fun h3 => ⟨j + 1, by dsimp only; omega, by dsimp only; omega, Weak.to ?_ (by simp [orow]) (by simp) (by simp [ovec]) (by simp [orow])⟩⟩
          · simp [pairsRow_succ ops i h h2, h3, hw2, ovec, prow]
          · simp [pairsRow_succ ops i h h2, h3, hw2, ovec]
        · simp [h2]
          have : j = ops.length := by omega
          refine ⟨i + 1, by dsimp only; omega, by dsimp only; omega, Weak.to ?_ rfl (by simp) (by simp [ovec]) (by simp)⟩
          simp [pairsTo_succ, this, hw, ovec]
    · simp [h]
      have : i = ops.length := by omega
      rw [this]

end Go.AX
