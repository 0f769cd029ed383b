/-
  Contracts: rows put in order.
-/
import Derived.Test.YtlppejdonplmkaaS5AxObQ
import Derived.Test.YtlppejdonplmkaaS5AxObB
import Derived.Test.YtlppejdonplmkaaS5AxShelf
namespace Go.AX
open Go.Proofs Go.Shelf
set_option linter.unusedSimpArgs false

@[simp] theorem nwR_rrow (l : List ORow) : nwR (l.map rrow) := by
  rw [nwR_iff]; intro r hr
  obtain ⟨o, _, rfl⟩ := List.mem_map.1 hr
  simp [rrow]
theorem cloneR_ok (l : List ORow) (hl : l.length ≤ 1000000) : APure Try.prog 33 [.seq false 4 (l.map rrow)] (fun r => r = .own true 4 (l.map rrow)) := by
  refine APure.own0 (R := fun r => r = .own true 4 (l.map rrow) ∨ (l = [] ∧ r = .pv (.lit (.slice none 0 0)))) ?_ (fun r h => h.imp id fun ⟨e1, e2⟩ => ⟨e2, true, 4, by rw [e1]; rfl⟩)
  refine apure1 hmo Try.func33 (by kernel_rfl) rfl rfl (by kernel_rfl) (Nat.le_of_ble_eq_true rfl) ?_
  simp
  cases l with
  | nil => simp
  | cons x l => simp at hl ⊢; omega
theorem rowC_ok (a b : ORow) : APure Try.prog 35 [.agg (rrow a), .agg (rrow b)] (fun r => r = .pv (I64 (rowC a b))) := by
  refine apure1 hmo Try.func35 (by kernel_rfl) rfl rfl (by kernel_rfl) (Nat.le_of_ble_eq_true rfl) ?_
  have hp := place_ok a b
  simp only [rrow] at hp
  simp [rrow]
  refine CallQ0.intro hp (by simp) ?_
  simp
  refine CallQ0.intro (compare_ok a.n b.n) (by simp) ?_
  simp
  refine CallQ0.intro (compare_ok a.r b.r) (by simp) ?_
  simp
  refine CallQ0.intro (or_ok [placeS a b, cmpS a.n b.n, cmpS a.r b.r] (by simp)) (by simp) ?_
  simp [orS, rowC]
  split <;> simp_all
  split <;> simp_all
def rowEnc (r : ORow) : List Value := [.int .i64 r.s, .int .i64 r.k, .int .i64 r.n, .int .i64 r.r]
theorem rowsB_rows (l : List ORow) : rowsB rowEnc l = l.map rrow := rfl
theorem sortF_ok (l : List ORow) (hl : l.length ≤ 1000000) : AIn Try.prog 34 4 (l.map rrow) [.lit (.func (.func 35) #[] #[])] (fun k rows => k = none ∧ rows = (sortR l).map rrow) :=
  AIn.asFnO (sortFuncK_in Try.sortRw 4 (by decide) (fun w => rfl) (fun w => rfl) rowEnc (fun _ => rfl) (fun x v hv => by simp [rowEnc] at hv; rcases hv with rfl | rfl | rfl | rfl <;> rfl) rowC 35 l hl rowC_swo rowC_tot (enters_of Try.func35 (by kernel_rfl) rfl) (by kernel_rfl) (fun x y => rowC_ok x y))
theorem sortO_ok (l : List ORow) (hl : l.length ≤ 1000000) : APure Try.prog 20 [.seq false 4 (l.map rrow)] (fun r => r = .own true 4 ((sortR l).map rrow)) := by
  refine apure1 hmo Try.func20 (by kernel_rfl) rfl rfl (by kernel_rfl) (Nat.le_of_ble_eq_true rfl) ?_
  have hS := sortF_ok l hl
  simp
  refine CallK.intro (cloneR_ok l hl) (by simp) ?_
  simp
  refine CallK.introX (CallX.introS (o := .slot 3) (lo := 0) (hi := l.length) hS (by simp) rfl rfl (by simp) (by simp) rfl (by simp; rw [List.take_of_length_le (by simp)]) (belowR_rrow 0 l) (by simp) (by simp) ?_)
  rintro k rows' ⟨rfl, rfl⟩ _ _
  have hd1 : List.drop l.length (l.map rrow) = [] := List.drop_eq_nil_of_le (by simp)
  simp [hd1]
theorem less_ok (a b : ORow) : APure Try.prog 39 [.agg (rrow a), .agg (rrow b)] (fun r => r = .pv (BL (decide (ltP a b)))) := by
  refine apure1 hmo Try.func39 (by kernel_rfl) rfl rfl (by kernel_rfl) (Nat.le_of_ble_eq_true rfl) ?_
  simp [rrow]
  refine ⟨fun h1 => ?_, fun h1 => ⟨fun h2 => ?_, fun h2 => ⟨fun h3 => ?_, fun h3 => ?_⟩⟩⟩ <;> unfold ltP <;> omega
def rowSch : Sch :=
  let T : Sch := .fork [(10, .fork [(14, .fork [(15, .done)])])]
  let X2 : Sch := .fork [(8, .fork [(9, T)])]
  let X3 : Sch := .fork [(4, .fork [(9, T)]), (9, .fork [(4, T)])]
  let Y2 : Sch := .fork [(0, .fork [(4, T)])]
  .take 1 (.take 2 (.take 3 (.take 5 (.take 6 (.take 7 (.take 11 (.take 12 (.take 13 (.fork [(0, .fork [(4, X2), (8, X3)]), (8, .fork [(0, X3), (9, Y2)])])))))))))
set_option maxRecDepth 16000 in
theorem refSort_ok (l : List ORow) (hl : l.length ≤ 1000000) : APure Try.prog 21 [.seq false 4 (l.map rrow)] (fun r => r = .own true 4 ((sortR l).map rrow)) := by
  refine apure1B [8] hmo Try.func21 (by kernel_rfl) rfl rfl (by kernel_rfl) (Nat.le_of_ble_eq_true rfl) ?_
  simp
  refine ALoop.intro (S := fun (i : Nat) => ⟨[(0, .pv (.seq false 4 (l.map rrow))), (3, .own true 4 ((putAll l i).map rrow)), (4, .pv (I64 i))], []⟩)
    (fun i => i ≤ l.length) (fun i => l.length - i) 0 ?_ (Nat.zero_le _) ?_
  · exact (Weak.nilOwn (s := 3) 4 true (by simp)).trans (Weak.to (by simp [putAll]) rfl (by simp) (by simp) (by simp))
  intro i hi
  by_cases c1 : i < l.length
  · have hw : w64 ((i : Int) + 1) = ((i + 1 : Nat) : Int) := by rw [w64_id (by omega) (by omega)]; omega
    have hpl := putAll_len l (Nat.le_of_lt c1)
    obtain ⟨ou, hou⟩ : ∃ ou, putAll l i = ou := ⟨_, rfl⟩
    rw [hou] at hpl
    have hsucc := putAll_succ c1
    rw [hou] at hsucc
    simp [c1, hou]
    refine ALoop.intro (S := fun (k : Nat) => ⟨[(0, .pv (.seq false 4 (l.map rrow))), (3, .own true 4 (ou.map rrow)), (4, .pv (I64 i)), (5, .pv (I64 k))], []⟩)
      (fun k => k ≤ ou.length ∧ ∀ j (hj : j < ou.length), j < k → ¬ ltP l[i] ou[j]) (fun k => ou.length - k) 0 ?_ ⟨Nat.zero_le _, fun j _ hj => by omega⟩ ?_
    · exact Weak.to (by simp) rfl (by simp) (by simp) (by simp)
    rintro k ⟨hk, hn⟩
    by_cases c2 : k < ou.length
    · have hw2 : w64 ((k : Int) + 1) = ((k + 1 : Nat) : Int) := by rw [w64_id (by omega) (by omega)]; omega
      have hL := less_ok l[i] ou[k]
      simp only [rrow] at hL
      simp [c1, c2, rrow]
      refine CallQ.intro (r := .pv (BL (decide (ltP l[i] ou[k])))) (fun _ => hL) (by simp) ?_
      by_cases d : ltP l[i] ou[k]
      · have hins : insR l[i] ou = ou.take k ++ l[i] :: ou.drop k := insR_at (by omega) hn fun _ => d
        simp [d]
        have hfin : (insR l[i] ou).map rrow = List.take k (ou.map rrow) ++ rrow l[i] :: List.drop k (List.take ou.length (ou.map rrow)) := by
          rw [List.take_of_length_le (l := ou.map rrow) (i := ou.length) (by simp), hins, List.map_append, List.map_take, List.map_cons, List.map_drop]
        refine AAnyD.meet rowSch ⟨[(0, .pv (.seq false 4 (l.map rrow))), (3, .own true 4 ((insR l[i] ou).map rrow)), (4, .pv (I64 i))], []⟩ (by kernel_rfl) ?_ ?_
        · simp [rowSch, c2, c1, rrow]
          and_intros
          all_goals first
            | omega
            | exact Weak.to (by simp [hfin, rrow]) rfl (by simp) (by simp) (by simp)
        · simp
          exact ⟨i + 1, by (try dsimp only); omega, by (try dsimp only); omega, Weak.to (by simp [hw, hsucc]) rfl (by simp) (by simp) (by simp)⟩
      · simp [d]
        refine ⟨k + 1, by (try dsimp only); omega, ⟨by (try dsimp only); omega, fun j hj hjk => ?_⟩, Weak.to (by simp [hw2]) rfl (by simp) (by simp) (by simp)⟩
        by_cases e : j = k
        · subst e; exact d
        · exact hn j hj (by omega)
    · have hke : k = ou.length := by omega
      have hins : insR l[i] ou = ou.take k ++ l[i] :: ou.drop k := insR_at (by omega) hn fun h => absurd h c2
      simp [c1, c2, rrow]
      refine CallQ.intro (r := .pv (BL false)) (fun h => h.elim) (by simp) ?_
      simp
      have hfin : (insR l[i] ou).map rrow = List.take k (ou.map rrow) ++ rrow l[i] :: List.drop k (List.take ou.length (ou.map rrow)) := by
        rw [List.take_of_length_le (l := ou.map rrow) (i := ou.length) (by simp), hins, List.map_append, List.map_take, List.map_cons, List.map_drop]
      refine AAnyD.meet rowSch ⟨[(0, .pv (.seq false 4 (l.map rrow))), (3, .own true 4 ((insR l[i] ou).map rrow)), (4, .pv (I64 i))], []⟩ (by kernel_rfl) ?_ ?_
      · simp [rowSch, c2, c1, rrow]
        and_intros
        all_goals first
          | omega
          | exact Weak.to (by simp [hfin, rrow]) rfl (by simp) (by simp) (by simp)
      · simp
        exact ⟨i + 1, by (try dsimp only); omega, by (try dsimp only); omega, Weak.to (by simp [hw, hsucc]) rfl (by simp) (by simp) (by simp)⟩
  · simp [c1]
    have hie : i = l.length := by omega
    subst hie
    rw [putAll_all]

end Go.AX
