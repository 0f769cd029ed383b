/-
  Contracts: slices.Clone, IndexFunc, ContainsFunc, DeleteFunc of numbers.
-/
import Derived.Test.YtpalffhlfegeeaaGreatDoorS9AxClA
import Derived.Test.YtpalffhlfegeeaaGreatDoorAxLa
namespace Go.AX
open Go.Proofs
set_option linter.unusedSimpArgs false

theorem clone_ok (l : List Int) (hl : l.length ≤ 1000000) : APure Tryz.prog 54 [.seq false 1 (irow l)] (fun r => r = .own true 1 (irow l)) := by
  refine APure.own0 (R := fun r => r = .own true 1 (irow l) ∨ (l = [] ∧ r = .pv (.lit (.slice none 0 0)))) ?_ (fun r h => h.imp id fun ⟨e1, e2⟩ => ⟨e2, true, 1, by rw [e1]; rfl⟩)
  refine apure1 hmo Tryz.func54 (by kernel_rfl) rfl rfl (by kernel_rfl) (Nat.le_of_ble_eq_true rfl) ?_
  simp
  cases l with
  | nil => simp [irow]
  | cons x l => simp [irow] at hl ⊢; omega
theorem indexF_ok (l : List Int) (hl : l.length ≤ 1000000) (g : Nat) (cap : List PV) (p : Int → Bool) (hf : ∀ r, frzL r cap = cap) (hp : ptrAny cap = false) (hb : ∀ k, belowL k cap)
    (h : ∀ x ∈ l, APure Tryz.prog g (I64 x :: cap) (fun r => r = .pv (BL (p x)))) : APure Tryz.prog 127 [.seq false 1 (irow l), .fn (.func g) [] cap] (fun r => r = .pv (I64 (idxS p l))) := by
  refine apure1 hmo Tryz.func127 (by kernel_rfl) rfl rfl (by kernel_rfl) (Nat.le_of_ble_eq_true rfl) ?_
  simp
  refine ALoop.intro (S := fun (i : Nat) => ⟨[(0, .pv (.seq false 1 (irow l))), (1, .pv (.fn (.func g) [] cap)), (7, .pv (I64 l.length)), (8, .pv (I64 i))], []⟩) (fun i => i ≤ l.length ∧ ∀ j (hj : j < l.length), j < i → p l[j] = false) (fun i => l.length - i) 0 ?_ ⟨Nat.zero_le _, fun j _ h => by omega⟩ ?_
  · exact Weak.to (by simp) rfl (by simp) (by simp [hb]) (by simp)
  · intro i ⟨hi, ho⟩
    by_cases c : i < l.length
    · have hw : w64 ((i : Int) + 1) = ((i + 1 : Nat) : Int) := by rw [w64_id (by omega) (by omega)]; omega
      have hx := h l[i] (List.getElem_mem c)
      simp [c, hp, hf]
      refine CallK.intro hx (by simp) ?_
      cases hpx : p l[i]
      · simp
        refine ⟨i + 1, by dsimp only; omega, ⟨by omega, fun j hj hji => ?_⟩, Weak.to (by simp [hw]) rfl (by simp) (by simp [hb]) (by simp)⟩
        by_cases e : j = i
        · subst e; exact hpx
        · exact ho j hj (by omega)
      · simp
        rw [idxS_at c ho hpx]
    · simp [c]
      rw [idxS_none (fun j hj => ho j hj (by omega))]
theorem containsF_ok (l : List Int) (hl : l.length ≤ 1000000) (g : Nat) (cap : List PV) (p : Int → Bool) (hf : ∀ r, frzL r cap = cap) (hp : ptrAny cap = false) (hb : ∀ k, belowL k cap)
    (h : ∀ x ∈ l, APure Tryz.prog g (I64 x :: cap) (fun r => r = .pv (BL (p x)))) : APure Tryz.prog 107 [.seq false 1 (irow l), .fn (.func g) [] cap] (fun r => r = .pv (BL (l.any p))) := by
  refine apure1 hmo Tryz.func107 (by kernel_rfl) rfl rfl (by kernel_rfl) (Nat.le_of_ble_eq_true rfl) ?_
  simp [hp, hf]
  refine CallK.intro (indexF_ok l hl g cap p hf hp hb h) (by simp) ?_
  have : decide ((0 : Int) ≤ idxS p l) = l.any p := by
    by_cases c : ∃ i, ∃ h : i < l.length, p l[i] = true ∧ ∀ j (hj : j < l.length), j < i → p l[j] = false
    · obtain ⟨i, hi, h1, h2⟩ := c
      rw [idxS_at hi h2 h1, List.any_eq_true.2 ⟨_, List.getElem_mem hi, h1⟩]
      simp
    · have hno : ∀ j (hj : j < l.length), p l[j] = false := by
        intro j
        induction j using Nat.strongRecOn with
        | ind j ih =>
          intro hj
          cases e : p l[j]
          · rfl
          · exact absurd ⟨j, hj, e, fun k hk hkj => ih k hkj hk⟩ c
      rw [idxS_none hno]
      have : l.any p = false := by
        rw [List.any_eq_false]
        intro x hx
        obtain ⟨j, hj, rfl⟩ := List.getElem_of_mem hx
        rw [hno j hj]; simp
      rw [this]; rfl
  simp [this]

/-- What is left when some is deleted. -/
def delS (p : Int → Bool) (l : List Int) : List Int := l.filter fun x => !p x
theorem delS_len (p : Int → Bool) (l : List Int) : (delS p l).length ≤ l.length := List.length_filter_le _ _
theorem delS_take (p : Int → Bool) (l : List Int) {j : Nat} (h : j < l.length) : delS p (l.take (j + 1)) = if p l[j] = true then delS p (l.take j) else delS p (l.take j) ++ [l[j]] := by
  unfold delS
  rw [List.take_add_one, List.getElem?_eq_getElem h, Option.toList_some, List.filter_append]
  simp only [List.filter_cons, List.filter_nil]
  cases p l[j] <;> simp
theorem delS_take_len (p : Int → Bool) (l : List Int) (j : Nat) : (delS p (l.take j)).length ≤ j := Nat.le_trans (delS_len p _) (by rw [List.length_take]; omega)
theorem delS_none (p : Int → Bool) (l : List Int) (h : ∀ x ∈ l, p x = false) : delS p l = l := List.filter_eq_self.2 fun x hx => by rw [h x hx]; rfl
def delR (p : Int → Bool) (zs : List Int) (k : Option Nat) (rows : List (List PV)) : Prop := k = some (delS p zs).length ∧ rows = intsB (delS p zs ++ List.replicate (zs.length - (delS p zs).length) 0)
end Go.AX
