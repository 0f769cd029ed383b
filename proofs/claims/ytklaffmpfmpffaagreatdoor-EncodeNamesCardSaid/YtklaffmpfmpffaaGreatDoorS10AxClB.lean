/-
  Contracts: slices.Clone, IndexFunc, ContainsFunc, DeleteFunc of numbers.
-/
import Derived.Test.YtklaffmpfmpffaaGreatDoorS10AxClA
import Derived.Test.YtklaffmpfmpffaaGreatDoorAxLa
namespace Go.AX
open Go.Proofs
set_option linter.unusedSimpArgs false

theorem clone_ok (l : List Int) (hl : l.length ≤ 1000000) : APure Tryz.prog 25 [.seq false 1 (irow l)] (fun r => r = .own true 1 (irow l)) := by
  refine APure.own0 (R := fun r => r = .own true 1 (irow l) ∨ (l = [] ∧ r = .pv (.lit (.slice none 0 0)))) ?_ (fun r h => h.imp id fun ⟨e1, e2⟩ => ⟨e2, true, 1, by rw [e1]; rfl⟩)
  refine apure1 hmo Tryz.func25 (by kernel_rfl) rfl rfl (by kernel_rfl) (Nat.le_of_ble_eq_true rfl) ?_
  simp
  cases l with
  | nil => simp [irow]
  | cons x l => simp [irow] at hl ⊢; omega
/-- What is left when some is deleted. -/
def delS (p : Int → Bool) (l : List Int) : List Int := l.filter fun x => !p x
theorem delS_len (p : Int → Bool) (l : List Int) : (delS p l).length ≤ l.length := List.length_filter_le _ _
theorem delS_take (p : Int → Bool) (l : List Int) {j : Nat} (h : j < l.length) : delS p (l.take (j + 1)) = if p l[j] = true then delS p (l.take j) else delS p (l.take j) ++ [l[j]] := by
  unfold delS
  rw [List.take_add_one, List.getElem?_eq_getElem h, Option.toList_some, List.filter_append]
  simp only [List.filter_cons, List.filter_nil]
  cases p l[j] <;> simp
theorem delS_take_len (p : Int → Bool) (l : List Int) (j : Nat) : (delS p (l.take j)).length ≤ j := Nat.le_trans (delS_len p _) (by rw [List.length_take]; omega)
theorem delS_none (p : Int → Bool) (l : List Int) (h : ∀ x ∈ l, p x = false) : delS p l = l := List.filter_eq_self.2 fun x hx => by rw [h x hx]; rfl
def delR (p : Int → Bool) (zs : List Int) (k : Option Nat) (rows : List (List PV)) : Prop := k = some (delS p zs).length ∧ rows = intsB (delS p zs ++ List.replicate (zs.length - (delS p zs).length) 0)
end Go.AX
