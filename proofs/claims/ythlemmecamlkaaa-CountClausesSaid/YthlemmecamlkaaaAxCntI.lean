/-
  Contracts: count.All, count.Fits.
-/
import Derived.Test.YthlemmecamlkaaaAxCntH
namespace Go.AX
open Go.Proofs

theorem all_ok (n m : Int) (ops : List Op5) (hl : ops.length ≤ 140737488355328) : APure Try.prog 16 [.agg [I64 n, I64 m], ovec ops] (fun r => r = .pv (I64 (allN n m ops))) := by
  refine apure1 hmo Try.func16 (by kernel_rfl) rfl rfl (by kernel_rfl) (Nat.le_of_ble_eq_true rfl) ?_
  simp [ovec]
  refine CallK.intro (chk_okC ops hl) (by simp) ?_
  simp
  refine CallG.intro (r := .pv (BL (sizeOk n m))) (fun _ => may_ok n m) (by simp) ?_
  simp
  refine ⟨fun h => ?_, fun h1 h2 h3 => ?_⟩
  · rw [allN, if_neg (fun hh => by have := allOk_iff.1 hh; simp [this.1, this.2.1, this.2.2] at h)]
  have hs := sizeOk_iff.1 h2
  have hp := pendTo_length ops ops.length
  refine CallQ0.intro (places_ok n m) (by simp) ?_
  simp
  refine CallQ0.intro (pairs_ok ops (by omega)) (by simp) ?_
  simp
  refine CallQ0.intro (times_ok n m _) (by simp) ?_
  simp
  refine CallQ0.intro (states_ok n m) (by simp) ?_
  simp
  refine CallQ0.intro (pending_ok ops (by omega)) (by simp) ?_
  simp
  refine CallQ0.intro (moves_ok n m _) (by simp) ?_
  simp
  refine ALoop.intro (S := fun (y : Int × Int) => ⟨[(51, .pv (I64 y.1)), (50, .pv (.agg [I64 (placesN n m), I64 (timesN n m ((pairsTo ops ops.length).length : Nat)), I64 (statesN n m), I64 (movesN n m (w64 (n - ((pendTo ops ops.length).length : Nat))))])), (9, .pv (.fn (.func 33) [] [.ptr 2 0])), (8, .pv (.ptr 2 0))], [[.pv (I64 n), .pv (I64 m)], [.pv (I64 (placesN n m)), .pv (I64 (timesN n m ((pairsTo ops ops.length).length : Nat))), .pv (I64 (statesN n m)), .pv (I64 (movesN n m (w64 (n - ((pendTo ops ops.length).length : Nat)))))], [.pv (I64 y.2)]]⟩)
    (fun y => (y.1 = 0 ∧ y.2 = 0) ∨ (y.1 = 1 ∧ y.2 = w64 (0 + placesN n m)) ∨ (y.1 = 2 ∧ y.2 = w64 (0 + placesN n m + timesN n m ((pairsTo ops ops.length).length : Nat))) ∨ (y.1 = 3 ∧ y.2 = w64 (0 + placesN n m + timesN n m ((pairsTo ops ops.length).length : Nat) + statesN n m)) ∨
      (y.1 = 4 ∧ y.2 = w64 (0 + placesN n m + timesN n m ((pairsTo ops ops.length).length : Nat) + statesN n m + movesN n m (w64 (n - ((pendTo ops ops.length).length : Nat)))))) (fun y => (4 - y.1).toNat) (0, 0) ?_ ?_ ?_
  · exact Weak.to (by simp) (by simp) (by simp) (by simp) (by simp)
  · exact .inl ⟨rfl, rfl⟩
  · rintro ⟨i, s⟩ hy
    have hw1 : w64 1 = 1 := by decide
    have hw2 : w64 2 = 2 := by decide
    have hw3 : w64 3 = 3 := by decide
    have hw4 : w64 4 = 4 := by decide
    rcases hy with ⟨h, h'⟩ | ⟨h, h'⟩ | ⟨h, h'⟩ | ⟨h, h'⟩ | ⟨h, h'⟩
    · dsimp only at h h'; subst h; subst h'
      simp
      refine CallB.intro (add_ok [_, _] _ _) (by simp) ?_
      rintro _ _ ⟨rfl, rfl⟩
      simp
      exact ⟨(1, w64 (placesN n m)), by simp, by simp, Weak.to (by simp [hw1]) (by simp) (by simp) (by simp) (by simp)⟩
    · dsimp only at h h'; subst h; subst h'
      simp
      refine CallB.intro (add_ok [_, _] _ _) (by simp) ?_
      rintro _ _ ⟨rfl, rfl⟩
      simp
      exact ⟨(2, w64 (placesN n m + timesN n m ((pairsTo ops ops.length).length : Nat))), by simp, by simp, Weak.to (by simp [hw2]) (by simp) (by simp) (by simp) (by simp)⟩
    · dsimp only at h h'; subst h; subst h'
      simp
      refine CallB.intro (add_ok [_, _] _ _) (by simp) ?_
      rintro _ _ ⟨rfl, rfl⟩
      simp
      exact ⟨(3, w64 (placesN n m + timesN n m ((pairsTo ops ops.length).length : Nat) + statesN n m)), by simp, by simp, Weak.to (by simp [hw3]) (by simp) (by simp) (by simp) (by simp)⟩
    · dsimp only at h h'; subst h; subst h'
      simp
      refine CallB.intro (add_ok [_, _] _ _) (by simp) ?_
      rintro _ _ ⟨rfl, rfl⟩
      simp
      exact ⟨(4, w64 (placesN n m + timesN n m ((pairsTo ops ops.length).length : Nat) + statesN n m + movesN n m (w64 (n - ((pendTo ops ops.length).length : Nat))))), by simp, by simp, Weak.to (by simp [hw4]) (by simp) (by simp) (by simp) (by simp)⟩
    · dsimp only at h h'; subst h; subst h'
      simp
      rw [allN, if_pos (allOk_iff.2 ⟨h1, h2, h3⟩)]

theorem fits_ok (n m : Int) (ops : List Op5) (hl : ops.length ≤ 140737488355328) : APure Try.prog 18 [.agg [I64 n, I64 m], ovec ops] (fun r => r = .pv (I64 (fitsN n m ops))) := by
  refine apure1 hmo Try.func18 (by kernel_rfl) rfl rfl (by kernel_rfl) (Nat.le_of_ble_eq_true rfl) ?_
  simp [ovec]
  refine CallK.intro (all_ok n m ops hl) (by simp) ?_
  simp
  refine ⟨fun h => by simp [fitsN, h], fun h => ?_⟩
  have hs : sizeOk n m = true := by
    cases hh : sizeOk n m with
    | true => rfl
    | false => exact absurd (by rw [allN, if_neg (fun hk => by have := (allOk_iff.1 hk).2.1; rw [hh] at this; cases this)]) h
  refine CallG.intro (r := .pv (I64 (varsN n m))) (fun _ => by have := vars_ok n m; rw [if_pos hs] at this; exact this) (by simp) ?_
  simp
  exact ⟨fun h2 => by rw [fitsN, if_neg h, if_pos (by omega)], fun h2 h3 => by rw [fitsN, if_neg h, if_neg (by omega)]⟩

end Go.AX
