/-
  Contracts: slices.Clone, IndexFunc, ContainsFunc, DeleteFunc of numbers.
  Contracts: trails.
-/
import Derived.Test.YthfhellfmbllhaaGreatS12AxClA
import Derived.Test.YthfhellfmbllhaaGreatAxLo
namespace Go.AX
open Go.Proofs
set_option linter.unusedSimpArgs false
theorem clone_ok (l : List Int) (hl : l.length ≤ 1000000) : APure Tryz.prog 70 [.seq false 1 (irow l)] (fun r => r = .own true 1 (irow l)) := by
  refine APure.own0 (R := fun r => r = .own true 1 (irow l) ∨ (l = [] ∧ r = .pv (.lit (.slice none 0 0)))) ?_ (fun r h => h.imp id fun ⟨e1, e2⟩ => ⟨e2, true, 1, by rw [e1]; rfl⟩)
  refine apure1 hmo Tryz.func70 (by kernel_rfl) rfl rfl (by kernel_rfl) (Nat.le_of_ble_eq_true rfl) ?_
  simp
  cases l with
  | nil => simp [irow]
  | cons x l => simp [irow] at hl ⊢; omega
theorem indexF_ok (l : List Int) (hl : l.length ≤ 1000000) (g : Nat) (cap : List PV) (p : Int → Bool) (hf : ∀ r, frzL r cap = cap) (hp : ptrAny cap = false) (hb : ∀ k, belowL k cap)
    (h : ∀ x ∈ l, APure Tryz.prog g (I64 x :: cap) (fun r => r = .pv (BL (p x)))) : APure Tryz.prog 114 [.seq false 1 (irow l), .fn (.func g) [] cap] (fun r => r = .pv (I64 (idxS p l))) := by
  refine apure1 hmo Tryz.func114 (by kernel_rfl) rfl rfl (by kernel_rfl) (Nat.le_of_ble_eq_true rfl) ?_
  simp
  refine ALoop.intro (S := fun (i : Nat) => ⟨[(0, .pv (.seq false 1 (irow l))), (1, .pv (.fn (.func g) [] cap)), (7, .pv (I64 l.length)), (8, .pv (I64 i))], []⟩) (fun i => i ≤ l.length ∧ ∀ j (hj : j < l.length), j < i → p l[j] = false) (fun i => l.length - i) 0 ?_ ⟨Nat.zero_le _, fun j _ h => by omega⟩ ?_
  · exact Weak.to (by simp) rfl (by simp) (by simp [hb]) (by simp)
  · intro i ⟨hi, ho⟩
    by_cases c : i < l.length
    · have hw : w64 ((i : Int) + 1) = ((i + 1 : Nat) : Int) := by rw [w64_id (by omega) (by omega)]; omega
      have hx := h l[i] (List.getElem_mem c)
      simp [c, hp, hf]
      refine CallK.intro hx (by simp) ?_
      cases hpx : p l[i]
      · simp
        refine ⟨i + 1, by dsimp only; omega, ⟨by omega, fun j hj hji => ?_⟩, Weak.to (by simp [hw]) rfl (by simp) (by simp [hb]) (by simp)⟩
        by_cases e : j = i
        · subst e; exact hpx
        · exact ho j hj (by omega)
      · simp
        rw [idxS_at c ho hpx]
    · simp [c]
      rw [idxS_none (fun j hj => ho j hj (by omega))]
theorem containsF_ok (l : List Int) (hl : l.length ≤ 1000000) (g : Nat) (cap : List PV) (p : Int → Bool) (hf : ∀ r, frzL r cap = cap) (hp : ptrAny cap = false) (hb : ∀ k, belowL k cap)
    (h : ∀ x ∈ l, APure Tryz.prog g (I64 x :: cap) (fun r => r = .pv (BL (p x)))) : APure Tryz.prog 85 [.seq false 1 (irow l), .fn (.func g) [] cap] (fun r => r = .pv (BL (l.any p))) := by
  refine apure1 hmo Tryz.func85 (by kernel_rfl) rfl rfl (by kernel_rfl) (Nat.le_of_ble_eq_true rfl) ?_
  simp [hp, hf]
  refine CallK.intro (indexF_ok l hl g cap p hf hp hb h) (by simp) ?_
  have : decide ((0 : Int) ≤ idxS p l) = l.any p := by
    by_cases c : ∃ i, ∃ h : i < l.length, p l[i] = true ∧ ∀ j (hj : j < l.length), j < i → p l[j] = false
    · obtain ⟨i, hi, h1, h2⟩ := c
      rw [idxS_at hi h2 h1, List.any_eq_true.2 ⟨_, List.getElem_mem hi, h1⟩]
      simp
    · have hno : ∀ j (hj : j < l.length), p l[j] = false := by
        intro j
        induction j using Nat.strongRecOn with
        | ind j ih =>
          intro hj
          cases e : p l[j]
          · rfl
          · exact absurd ⟨j, hj, e, fun k hk hkj => ih k hkj hk⟩ c
      rw [idxS_none hno]
      have : l.any p = false := by
        rw [List.any_eq_false]
        intro x hx
        obtain ⟨j, hj, rfl⟩ := List.getElem_of_mem hx
        rw [hno j hj]; simp
      rw [this]; rfl
  simp [this]
def delS (p : Int → Bool) (l : List Int) : List Int := l.filter fun x => !p x
theorem delS_len (p : Int → Bool) (l : List Int) : (delS p l).length ≤ l.length := List.length_filter_le _ _
theorem delS_take (p : Int → Bool) (l : List Int) {j : Nat} (h : j < l.length) : delS p (l.take (j + 1)) = if p l[j] = true then delS p (l.take j) else delS p (l.take j) ++ [l[j]] := by
  unfold delS
  rw [List.take_add_one, List.getElem?_eq_getElem h, Option.toList_some, List.filter_append]
  simp only [List.filter_cons, List.filter_nil]
  cases p l[j] <;> simp
theorem delS_none (p : Int → Bool) (l : List Int) (h : ∀ x ∈ l, p x = false) : delS p l = l := List.filter_eq_self.2 fun x hx => by rw [h x hx]; rfl
end Go.AX

namespace Go.AX
open Go.Proofs
set_option linter.unusedSimpArgs false
structure Mk where
  v : Int
  lev : Int
  rea : Int
  pla : Int
instance : Inhabited Mk := ⟨⟨0, 0, 0, 0⟩⟩
structure Tr where
  marks : List Mk
  lits : List Int
  beg : List Int
def mkR (x : Mk) : List PV := [I64 x.v, I64 x.lev, I64 x.rea, I64 x.pla]
def trR (T : Tr) : List PV := [.seq false 4 (T.marks.map mkR), .seq false 1 (irow T.lits), .seq false 1 (irow T.beg), BL true]
@[simp] theorem belowR_mkR (k : Nat) (l : List Mk) : belowR k (l.map mkR) := by
  induction l with
  | nil => trivial
  | cons x xs ih => exact ⟨⟨trivial, trivial, trivial, trivial, trivial⟩, ih⟩
@[simp] theorem nwR_mkR (l : List Mk) : nwR (l.map mkR) := by
  rw [nwR_iff]; intro r hr
  obtain ⟨x, _, rfl⟩ := List.mem_map.1 hr
  simp [mkR]
@[simp] theorem frzR_mkR (r : Nat → Nat → PV) (l : List Mk) : frzR r (l.map mkR) = l.map mkR := by
  rw [frzR_map, List.map_map]; congr 1
def Tr.ok (T : Tr) : Prop := 1 ≤ T.marks.length ∧ T.marks.length ≤ 100001
def mkAt (T : Tr) (i : Int) : Mk := T.marks.getD i.toNat default
theorem litChk_zero {n m : Int} (hm : 0 ≤ m ∧ m ≤ 100000) : litChk n m = 0 ↔ n ≠ 0 ∧ -m ≤ n ∧ n ≤ m := by
  unfold litChk
  rw [if_neg (by omega)]
  have : inS n m = true ↔ n ≠ 0 ∧ -m ≤ n ∧ n ≤ m := by unfold inS; simp
  split
  · rename_i h; exact ⟨fun _ => this.1 h, fun _ => rfl⟩
  · rename_i h; exact ⟨fun x => by simp at x, fun x => absurd (this.2 x) h⟩
theorem litV_in {n m : Int} (hm : 0 ≤ m ∧ m ≤ 100000) (h : litChk n m = 0) : 1 ≤ litV n ∧ litV n ≤ m ∧ okL n = true ∧ litV n = absS n := by
  obtain ⟨h1, h2, h3⟩ := (litChk_zero hm).1 h
  have hk := (okL_iff n).2 ⟨h1, by omega, by omega⟩
  have hv : litV n = absS n := by unfold litV; rw [if_pos hk]
  rw [hv]
  unfold absS
  refine ⟨?_, ?_, hk, rfl⟩ <;> split <;> omega
def ofT (T : Tr) (v : Int) : Mk × Bool := if v < 1 ∨ (T.marks.length : Int) ≤ v ∨ (mkAt T v).v = 0 then (⟨0, -1, -1, -1⟩, false) else (mkAt T v, true)
end Go.AX
