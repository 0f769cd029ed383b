/-
  Contracts: literals.
  Contracts: slices.Clone, IndexFunc, ContainsFunc, DeleteFunc of numbers.
  Contracts: slices.Compact of numbers.
-/
import Derived.Test.YtphbmbhmhbchbaaS4AxMovS
import Derived.Test.YtphbmbhmhbchbaaAxBL
namespace Go.AX
open Go.Proofs
set_option linter.unusedSimpArgs false

def inS (n m : Int) : Bool := decide (n ≠ 0) && (decide (-m ≤ n) && decide (n ≤ m))
def okL (n : Int) : Bool := inS n 100000
def absS (n : Int) : Int := if n < 0 then -n else n
def litV (n : Int) : Int := if okL n = true then absS n else 0
def litX (n : Int) : Int := if okL n = true then (if n < 0 then 2 * absS n - 1 else 2 * absS n - 2) else -1
def litN (n : Int) : Int := if okL n = true then -n else 0
theorem okL_iff (n : Int) : okL n = true ↔ n ≠ 0 ∧ -100000 ≤ n ∧ n ≤ 100000 := by unfold okL inS; simp

theorem litIn_ok (n m : Int) (h0 : 0 ≤ m) (h1 : m ≤ 100000) : APure Try.prog 151 [I64 n, I64 m] (fun r => r = .pv (BL (inS n m))) := by
  refine apure1 hmo Try.func151 (by kernel_rfl) rfl rfl (by kernel_rfl) (Nat.le_of_ble_eq_true rfl) ?_
  have hw : w64 (-m) = -m := w64_id (by omega) (by omega)
  simp [inS, hw]
  try grind
theorem litIs_ok (n : Int) : APure Try.prog 152 [I64 n] (fun r => r = .pv (BL (okL n))) := by
  refine apure1 hmo Try.func152 (by kernel_rfl) rfl rfl (by kernel_rfl) (Nat.le_of_ble_eq_true rfl) ?_
  simp
  refine CallK.intro (litIn_ok n 100000 (by omega) (by omega)) (by simp) ?_
  simp [okL]
theorem litVar_ok (n : Int) : APure Try.prog 113 [I64 n] (fun r => r = .pv (I64 (litV n))) := by
  refine apure1 hmo Try.func113 (by kernel_rfl) rfl rfl (by kernel_rfl) (Nat.le_of_ble_eq_true rfl) ?_
  simp
  refine CallK.intro (litIs_ok n) (by simp) ?_
  by_cases c : okL n = true
  · obtain ⟨h1, h2, h3⟩ := (okL_iff n).1 c
    have hw : w64 (-n) = -n := w64_id (by omega) (by omega)
    simp [litV, absS, c, hw]
    split <;> split <;> omega
  · simp [litV, c]
theorem litNeg_ok (n : Int) : APure Try.prog 124 [I64 n] (fun r => r = .pv (I64 (litN n))) := by
  refine apure1 hmo Try.func124 (by kernel_rfl) rfl rfl (by kernel_rfl) (Nat.le_of_ble_eq_true rfl) ?_
  simp
  refine CallK.intro (litIs_ok n) (by simp) ?_
  by_cases c : okL n = true
  · obtain ⟨h1, h2, h3⟩ := (okL_iff n).1 c
    have hw : w64 (-n) = -n := w64_id (by omega) (by omega)
    simp [litN, c, hw]
  · simp [litN, c]
theorem litIndex_ok (n : Int) : APure Try.prog 117 [I64 n] (fun r => r = .pv (I64 (litX n))) := by
  refine apure1 hmo Try.func117 (by kernel_rfl) rfl rfl (by kernel_rfl) (Nat.le_of_ble_eq_true rfl) ?_
  simp
  refine CallK.intro (litIs_ok n) (by simp) ?_
  by_cases c : okL n = true
  · obtain ⟨h1, h2, h3⟩ := (okL_iff n).1 c
    simp [c]
    refine CallK.intro (litVar_ok n) (by simp) ?_
    have ha : absS n ≤ 100000 ∧ 0 ≤ absS n := by unfold absS; split <;> omega
    have hv : litV n = absS n := by unfold litV; rw [if_pos c]
    have hw1 : w64 (2 * absS n) = 2 * absS n := w64_id (by omega) (by omega)
    have hw2 : w64 (2 * absS n - 2) = 2 * absS n - 2 := w64_id (by omega) (by omega)
    have hw3 : w64 (2 * absS n - 2 + 1) = 2 * absS n - 1 := by rw [w64_id (by omega) (by omega)]; omega
    by_cases d : n < 0
    · simp [litX, c, hv, hw1, hw2, hw3, d]
    · simp [litX, c, hv, hw1, hw2, hw3, d]
  · simp [litX, c]
def litChk (n m : Int) : Int := if m < 0 ∨ 100000 < m then 2 else if inS n m = true then 0 else 10
theorem litCheck_ok (n m : Int) : APure Try.prog 110 [I64 n, I64 m] (fun r => r = .pv (I64 (litChk n m))) := by
  refine apure1 hmo Try.func110 (by kernel_rfl) rfl rfl (by kernel_rfl) (Nat.le_of_ble_eq_true rfl) ?_
  by_cases c1 : m < 0
  · simp [c1, litChk]
  by_cases c2 : 100000 < m
  · simp [c1, c2, litChk]
  simp [c1, c2, litChk]
  refine CallK.intro (litIn_ok n m (by omega) (by omega)) (by simp) ?_
  cases inS n m <;> simp

theorem refSplit_ok (n : Int) : APure Try.prog 125 [I64 n] (fun r => r = .pv (.tup [I64 (litV n), BL (okL n && decide (0 < n))])) := by
  refine apureN [2, 3] hmo Try.func125 (by kernel_rfl) rfl (fun _ _ => results_tmp2 rfl _ _ _) (by kernel_rfl) (Nat.le_of_ble_eq_true rfl) ?_
  have hk := okL_iff n
  by_cases c1 : 0 < n
  · by_cases c2 : n ≤ 100000
    · have c : okL n = true := hk.2 ⟨by omega, by omega, by omega⟩
      simp [c1, c2, c, litV, absS]
      omega
    · have c : okL n = false := by rw [Bool.eq_false_iff]; intro h; exact c2 (hk.1 h).2.2
      have c3 : ¬ n < 0 := by omega
      simp [c1, c2, c, litV, absS, c3]
  · by_cases c2 : n < 0
    · by_cases c3 : -100000 ≤ n
      · have c : okL n = true := hk.2 ⟨by omega, by omega, by omega⟩
        have hw : w64 (-n) = -n := w64_id (by omega) (by omega)
        simp [c1, c2, c3, c, litV, absS, hw]
      · have c : okL n = false := by rw [Bool.eq_false_iff]; intro h; exact c3 (hk.1 h).2.1
        simp [c1, c2, c3, c, litV, absS]
    · have c : okL n = false := by rw [Bool.eq_false_iff]; intro h; have := (hk.1 h).1; omega
      simp [c1, c2, c, litV, absS]
def joinS (v : Int) (b : Bool) : Int := if v < 1 ∨ 100000 < v then 0 else if b = true then v else -v
theorem refJoin_ok (v : Int) (b : Bool) : APure Try.prog 156 [I64 v, BL b] (fun r => r = .pv (I64 (joinS v b))) := by
  refine apure1 hmo Try.func156 (by kernel_rfl) rfl rfl (by kernel_rfl) (Nat.le_of_ble_eq_true rfl) ?_
  by_cases c1 : v < 1
  · simp [c1, joinS]
  by_cases c2 : 100000 < v
  · simp [c1, c2, joinS]
  have hw : w64 (-v) = -v := w64_id (by omega) (by omega)
  cases b <;> simp [c1, c2, joinS, hw]
theorem refNeg_ok (n : Int) : APure Try.prog 121 [I64 n] (fun r => r = .pv (I64 (litN n))) := by
  refine apure1 hmo Try.func121 (by kernel_rfl) rfl rfl (by kernel_rfl) (Nat.le_of_ble_eq_true rfl) ?_
  simp
  refine CallK.intro (refSplit_ok n) (by simp) ?_
  simp
  refine CallK.intro (refJoin_ok _ _) (by simp) ?_
  simp [joinS, litN, litV, absS]
  have hk := okL_iff n
  by_cases c : okL n = true
  · obtain ⟨h1, h2, h3⟩ := hk.1 c
    by_cases d : n < 0
    · simp [c, d]; omega
    · simp [c, d]; omega
  · simp [c]
theorem refIndex_ok (n : Int) : APure Try.prog 119 [I64 n] (fun r => r = .pv (I64 (litX n))) := by
  refine apure1 hmo Try.func119 (by kernel_rfl) rfl rfl (by kernel_rfl) (Nat.le_of_ble_eq_true rfl) ?_
  simp
  refine CallK.intro (refSplit_ok n) (by simp) ?_
  have hk := okL_iff n
  by_cases c : okL n = true
  · obtain ⟨h1, h2, h3⟩ := hk.1 c
    by_cases d : n < 0
    · have e : ¬ 0 < n := by omega
      have hw1 : w64 (2 * -n) = 2 * -n := w64_id (by omega) (by omega)
      have hw2 : w64 (2 * -n - 1) = 2 * -n - 1 := w64_id (by omega) (by omega)
      simp [c, d, e, litV, absS, litX, hw1, hw2]
      try omega
    · have e : 0 < n := by omega
      have hw1 : w64 (2 * n) = 2 * n := w64_id (by omega) (by omega)
      have hw2 : w64 (2 * n - 2) = 2 * n - 2 := w64_id (by omega) (by omega)
      simp [c, d, e, litV, absS, litX, hw1, hw2]
      try omega
  · simp [c, litV, litX]
theorem refLitChk_ok (n m : Int) : APure Try.prog 82 [I64 n, I64 m] (fun r => r = .pv (I64 (litChk n m))) := by
  refine apure1 hmo Try.func82 (by kernel_rfl) rfl rfl (by kernel_rfl) (Nat.le_of_ble_eq_true rfl) ?_
  by_cases c1 : m < 0
  · simp [c1, litChk]
  by_cases c2 : 100000 < m
  · simp [c1, c2, litChk]
  simp [c1, c2, litChk]
  refine CallK.intro (refSplit_ok n) (by simp) ?_
  have hk := okL_iff n
  have hi : inS n m = true ↔ n ≠ 0 ∧ -m ≤ n ∧ n ≤ m := by unfold inS; simp
  by_cases c : okL n = true
  · obtain ⟨h1, h2, h3⟩ := hk.1 c
    have hv : litV n = absS n := by unfold litV; rw [if_pos c]
    have ha : absS n = if n < 0 then -n else n := rfl
    have ha0 : absS n ≠ 0 := by rw [ha]; split <;> omega
    by_cases d : inS n m = true
    · have := hi.1 d
      have e : ¬ m < absS n := by rw [ha]; split <;> omega
      simp [hv, ha0, d, e]
    · have : ¬ (n ≠ 0 ∧ -m ≤ n ∧ n ≤ m) := fun h => d (hi.2 h)
      have e : m < absS n := by rw [ha]; split <;> omega
      simp [hv, ha0, d, e]
  · have hv : litV n = 0 := by unfold litV; rw [if_neg c]
    have d : ¬ inS n m = true := fun h => c (hk.2 (by have := hi.1 h; omega))
    simp [hv, d]

end Go.AX

namespace Go.AX
open Go.Proofs
set_option linter.unusedSimpArgs false

/-- Nil is a row of nothing. -/
theorem APure.own0 {P : Program} {f : FuncId} {args : List PV} {R R' : SV → Prop} (h : APure P f args R) (hr : ∀ r, R r → R' r ∨ (r = .pv (.lit (.slice none 0 0)) ∧ ∃ nw e, R' (.own nw e []))) : APure P f args R' := by
  refine ⟨h.1, fun w vs hv => (h.2 w vs hv).mono fun e w' ⟨v, r, g', o, h1, h2, h3, h4, h5, h6⟩ => ?_⟩
  rcases hr r h2 with h7 | ⟨rfl, nw, e', h7⟩
  · exact ⟨v, r, g', o, h1, h7, h3, h4, h5, h6⟩
  · exact ⟨v, _, g', o, h1, h7, h3, .inl ⟨h4.1, rfl, h4.2⟩, rfl, h6⟩
theorem clone_ok (l : List Int) (hl : l.length ≤ 1000000) : APure Try.prog 94 [.seq false 1 (irow l)] (fun r => r = .own true 1 (irow l)) := by
  refine APure.own0 (R := fun r => r = .own true 1 (irow l) ∨ (l = [] ∧ r = .pv (.lit (.slice none 0 0)))) ?_ (fun r h => h.imp id fun ⟨e1, e2⟩ => ⟨e2, true, 1, by rw [e1]; rfl⟩)
  refine apure1 hmo Try.func94 (by kernel_rfl) rfl rfl (by kernel_rfl) (Nat.le_of_ble_eq_true rfl) ?_
  simp
  cases l with
  | nil => simp [irow]
  | cons x l => simp [irow] at hl ⊢; omega
theorem indexF_ok (l : List Int) (hl : l.length ≤ 1000000) (g : Nat) (cap : List PV) (p : Int → Bool) (hf : ∀ r, frzL r cap = cap) (hp : ptrAny cap = false) (hb : ∀ k, belowL k cap)
    (h : ∀ x ∈ l, APure Try.prog g (I64 x :: cap) (fun r => r = .pv (BL (p x)))) : APure Try.prog 141 [.seq false 1 (irow l), .fn (.func g) [] cap] (fun r => r = .pv (I64 (idxS p l))) := by
  refine apure1 hmo Try.func141 (by kernel_rfl) rfl rfl (by kernel_rfl) (Nat.le_of_ble_eq_true rfl) ?_
  simp
  refine ALoop.intro (S := fun (i : Nat) => ⟨[(0, .pv (.seq false 1 (irow l))), (1, .pv (.fn (.func g) [] cap)), (7, .pv (I64 l.length)), (8, .pv (I64 i))], []⟩) (fun i => i ≤ l.length ∧ ∀ j (hj : j < l.length), j < i → p l[j] = false) (fun i => l.length - i) 0 ?_ ⟨Nat.zero_le _, fun j _ h => by omega⟩ ?_
  · exact Weak.to (by simp) rfl (by simp) (by simp [hb]) (by simp)
  · intro i ⟨hi, ho⟩
    by_cases c : i < l.length
    · have hw : w64 ((i : Int) + 1) = ((i + 1 : Nat) : Int) := by rw [w64_id (by omega) (by omega)]; omega
      have hx := h l[i] (List.getElem_mem c)
      simp [c, hp, hf]
      refine CallK.intro hx (by simp) ?_
      cases hpx : p l[i]
      · simp
        refine ⟨i + 1, by dsimp only; omega, ⟨by omega, fun j hj hji => ?_⟩, Weak.to (by simp [hw]) rfl (by simp) (by simp [hb]) (by simp)⟩
        by_cases e : j = i
        · subst e; exact hpx
        · exact ho j hj (by omega)
      · simp
        rw [idxS_at c ho hpx]
    · simp [c]
      rw [idxS_none (fun j hj => ho j hj (by omega))]
theorem containsF_ok (l : List Int) (hl : l.length ≤ 1000000) (g : Nat) (cap : List PV) (p : Int → Bool) (hf : ∀ r, frzL r cap = cap) (hp : ptrAny cap = false) (hb : ∀ k, belowL k cap)
    (h : ∀ x ∈ l, APure Try.prog g (I64 x :: cap) (fun r => r = .pv (BL (p x)))) : APure Try.prog 88 [.seq false 1 (irow l), .fn (.func g) [] cap] (fun r => r = .pv (BL (l.any p))) := by
  refine apure1 hmo Try.func88 (by kernel_rfl) rfl rfl (by kernel_rfl) (Nat.le_of_ble_eq_true rfl) ?_
  simp [hp, hf]
  refine CallK.intro (indexF_ok l hl g cap p hf hp hb h) (by simp) ?_
  have : decide ((0 : Int) ≤ idxS p l) = l.any p := by
    by_cases c : ∃ i, ∃ h : i < l.length, p l[i] = true ∧ ∀ j (hj : j < l.length), j < i → p l[j] = false
    · obtain ⟨i, hi, h1, h2⟩ := c
      rw [idxS_at hi h2 h1, List.any_eq_true.2 ⟨_, List.getElem_mem hi, h1⟩]
      simp
    · have hno : ∀ j (hj : j < l.length), p l[j] = false := by
        intro j
        induction j using Nat.strongRecOn with
        | ind j ih =>
          intro hj
          cases e : p l[j]
          · rfl
          · exact absurd ⟨j, hj, e, fun k hk hkj => ih k hkj hk⟩ c
      rw [idxS_none hno]
      have : l.any p = false := by
        rw [List.any_eq_false]
        intro x hx
        obtain ⟨j, hj, rfl⟩ := List.getElem_of_mem hx
        rw [hno j hj]; simp
      rw [this]; rfl
  simp [this]

/-- What is left when some is deleted. -/
def delS (p : Int → Bool) (l : List Int) : List Int := l.filter fun x => !p x
theorem delS_len (p : Int → Bool) (l : List Int) : (delS p l).length ≤ l.length := List.length_filter_le _ _
theorem delS_take (p : Int → Bool) (l : List Int) {j : Nat} (h : j < l.length) : delS p (l.take (j + 1)) = if p l[j] = true then delS p (l.take j) else delS p (l.take j) ++ [l[j]] := by
  unfold delS
  rw [List.take_add_one, List.getElem?_eq_getElem h, Option.toList_some, List.filter_append]
  simp only [List.filter_cons, List.filter_nil]
  cases p l[j] <;> simp
theorem delS_take_len (p : Int → Bool) (l : List Int) (j : Nat) : (delS p (l.take j)).length ≤ j := Nat.le_trans (delS_len p _) (by rw [List.length_take]; omega)
theorem delS_none (p : Int → Bool) (l : List Int) (h : ∀ x ∈ l, p x = false) : delS p l = l := List.filter_eq_self.2 fun x hx => by rw [h x hx]; rfl
def delR (p : Int → Bool) (zs : List Int) (k : Option Nat) (rows : List (List PV)) : Prop := k = some (delS p zs).length ∧ rows = intsB (delS p zs ++ List.replicate (zs.length - (delS p zs).length) 0)
theorem deleteF_ok (zs : List Int) (hl : zs.length ≤ 1000000) (g : Nat) (cap : List PV) (p : Int → Bool) (hf : ∀ r, frzL r cap = cap) (hp : ptrAny cap = false) (hb : ∀ k, belowL k cap) (ho : oldL cap)
    (h : ∀ x ∈ zs, APure Try.prog g (I64 x :: cap) (fun r => r = .pv (BL (p x)))) : AIn Try.prog 95 1 (intsB zs) [.fn (.func g) [] cap] (delR p zs) := by
  have hI := indexF_ok zs hl g cap p hf hp hb h
  refine AIn.ofInts (by kernel_rfl) ⟨⟨trivial, ho⟩, trivial⟩ ⟨⟨trivial, hb 0⟩, trivial⟩ (fun hne pre suf cp hcp hmx => ?_) (fun he q cp => ?_)
  · refine amut1 hmo Try.func95 (by kernel_rfl) rfl rfl (by kernel_rfl) (Nat.le_of_ble_eq_true rfl) ?_
    simp [hp, hf, frzB_blk]
    refine CallB.introP hI (by simp) (by simp) ?_
    by_cases c : ∃ i, ∃ h : i < zs.length, p zs[i] = true ∧ ∀ j (hj : j < zs.length), j < i → p zs[j] = false
    rotate_left
    · have hno : ∀ j (hj : j < zs.length), p zs[j] = false := by
        intro j
        induction j using Nat.strongRecOn with
        | ind j ih =>
          intro hj
          cases e : p zs[j]
          · rfl
          · exact absurd ⟨j, hj, e, fun k hk hkj => ih k hkj hk⟩ c
      have hd := delS_none p zs fun x hx => by
        obtain ⟨j, hj, rfl⟩ := List.getElem_of_mem hx
        exact hno j hj
      rw [idxS_none hno]
      simp
      exact ⟨some zs.length, zs, ⟨by rw [hd], by rw [hd]; simp⟩, rfl, fun m hm => by cases hm; exact Nat.le_refl _, rfl, rfl⟩
    obtain ⟨i0, hi0, hpi, hno⟩ := c
    rw [idxS_at hi0 hno hpi]
    have hw0 : w64 ((i0 : Int) + 1) = ((i0 + 1 : Nat) : Int) := by rw [w64_id (by omega) (by omega)]; omega
    have hd0 : delS p (zs.take i0) = zs.take i0 := delS_none p _ fun x hx => by
      obtain ⟨j, hj, rfl⟩ := List.getElem_of_mem hx
      rw [List.length_take] at hj
      rw [List.getElem_take]; exact hno j (by omega) (by omega)
    simp
    refine ALoop.intro (S := fun (y : Nat × List Int) => ⟨[(0, .pv (.bsl 0 1 pre.length zs.length cp)), (1, .pv (.fn (.func g) [] cap)), (5, .pv (I64 ((delS p (zs.take y.1)).length : Nat))), (6, .pv (I64 y.1))], [blk pre y.2 suf]⟩)
      (fun y => y.1 ≤ zs.length ∧ (delS p (zs.take y.1)).length < y.1 ∧ y.2.length = zs.length ∧ y.2.take (delS p (zs.take y.1)).length = delS p (zs.take y.1) ∧ y.2.drop y.1 = zs.drop y.1) (fun y => zs.length - y.1) (i0 + 1, zs) ?_ ?_ ?_
    · refine Weak.to ?_ rfl (by simp) (by simp [hb]) (by simp [blk_below])
      have : (delS p (zs.take (i0 + 1))).length = i0 := by rw [delS_take p zs hi0, if_pos hpi, hd0, List.length_take]; omega
      simp [hw0, this]
    · have : delS p (zs.take (i0 + 1)) = zs.take i0 := by rw [delS_take p zs hi0, if_pos hpi, hd0]
      refine ⟨by dsimp only; omega, ?_, rfl, ?_, rfl⟩
      · dsimp only; rw [this, List.length_take]; omega
      · dsimp only; rw [this, List.length_take]; congr 1; omega
    · rintro ⟨j, cur⟩ ⟨h1, h2, h3, h4, h5⟩
      dsimp only at h1 h2 h3 h4 h5
      by_cases cj : j < zs.length
      · have hw : w64 ((j : Int) + 1) = ((j + 1 : Nat) : Int) := by rw [w64_id (by omega) (by omega)]; omega
        have hcj : cur[j]'(by omega) = zs[j] := by
          have := congrArg (fun l => l[0]?) h5
          simp only [List.getElem?_drop, Nat.add_zero] at this
          rw [List.getElem?_eq_getElem (by omega), List.getElem?_eq_getElem cj] at this
          exact Option.some.inj this
        have hget := blk_get pre cur suf (i := j) (by omega)
        rw [hcj] at hget
        have hlen := blk_length pre cur suf
        have hx := h zs[j] (List.getElem_mem cj)
        have hst := delS_take p zs cj
        simp [cj, hp, hf, hget, hlen]
        refine ⟨by omega, CallK.intro hx (by simp) ?_⟩
        cases hpx : p zs[j]
        · rw [hpx] at hst
          simp only [Bool.false_eq_true, if_false] at hst
          have hw2 : w64 (((delS p (zs.take j)).length : Int) + 1) = (((delS p (zs.take j)).length + 1 : Nat) : Int) := by rw [w64_id (by omega) (by omega)]; omega
          have hset := blk_set pre cur suf (i := (delS p (zs.take j)).length) zs[j] (by omega)
          simp [hlen]
          refine ⟨by omega, by omega, (j + 1, cur.set (delS p (zs.take j)).length zs[j]), by (try dsimp only); omega, ⟨by (try dsimp only); omega, ?_, by (try dsimp only); rw [List.length_set]; exact h3, ?_, ?_⟩, Weak.to ?_ (by simp [hset]) (by simp) (by simp [hb]) (by simp [blk_below])⟩
          · dsimp only; rw [hst, List.length_append, List.length_singleton]; omega
          · dsimp only
            rw [hst, List.length_append, List.length_singleton, List.take_add_one, List.take_set_of_le (Nat.le_refl _), h4, List.getElem?_set_self (by omega)]
            rfl
          · dsimp only
            rw [List.drop_set_of_lt (by omega)]
            have := congrArg (List.drop 1) h5
            rwa [List.drop_drop, List.drop_drop] at this
          · simp [hw, hw2, hst]
        · rw [hpx] at hst
          simp only [if_true] at hst
          simp
          refine ⟨(j + 1, cur), by (try dsimp only); omega, ⟨by (try dsimp only); omega, by dsimp only; rw [hst]; omega, h3, by dsimp only; rw [hst]; exact h4, ?_⟩, Weak.to (by simp [hw, hst]) rfl (by simp) (by simp [hb]) (by simp [blk_below])⟩
          dsimp only
          have := congrArg (List.drop 1) h5
          rwa [List.drop_drop, List.drop_drop] at this
      · have : j = zs.length := by omega
        subst this
        rw [List.take_length] at h2 h4
        have hlen := blk_length pre cur suf
        have hfill := blk_fill pre cur suf (i := (delS p zs).length) (n := zs.length - (delS p zs).length) 0 (by omega)
        simp [h3]
        refine ⟨⟨by omega, by omega⟩, by omega, by omega, ⟨by omega, by omega⟩, some (delS p zs).length, delS p zs ++ List.replicate (zs.length - (delS p zs).length) 0, ⟨rfl, rfl⟩, by simp; omega, fun m hm => by cases hm; omega, rfl, ?_⟩
        rw [hfill, h4, List.drop_eq_nil_of_le (by omega), List.append_nil]
  · subst he
    refine apure1 hmo Try.func95 (by kernel_rfl) rfl rfl (by kernel_rfl) (Nat.le_of_ble_eq_true rfl) ?_
    simp [hp, hf]
    refine CallK.intro (hI.conv ⟨_, _, rfl, fun w v hv => ⟨q, cp, hv, Nat.zero_le _, .inl rfl⟩, _, _, rfl, PV.as.refl _, rfl⟩) (by simp) ?_
    rw [idxS_none (fun j hj => by simp at hj)]
    simp
    exact ⟨some 0, ⟨rfl, rfl⟩, .inr rfl, rfl⟩

end Go.AX

namespace Go.AX
open Go.Proofs
set_option linter.unusedSimpArgs false

/-- What is left when each is dropped that is as the one ahead of it. -/
def compTo (zs : List Int) : Nat → List Int
  | 0 => []
  | j + 1 => if j = 0 ∨ zs.getD j 0 ≠ zs.getD (j - 1) 0 then compTo zs j ++ [zs.getD j 0] else compTo zs j
def compS (zs : List Int) : List Int := compTo zs zs.length
theorem compTo_len (zs : List Int) : ∀ j, (compTo zs j).length ≤ j
  | 0 => Nat.le_refl _
  | j + 1 => by
    have := compTo_len zs j
    rw [compTo]
    split
    · rw [List.length_append, List.length_singleton]; omega
    · omega
theorem compTo_pos (zs : List Int) : ∀ j, 0 < j → 0 < (compTo zs j).length
  | 0, h => by omega
  | 1, _ => by rw [compTo, if_pos (.inl rfl)]; simp
  | j + 2, _ => by
    have := compTo_pos zs (j + 1) (by omega)
    rw [compTo]
    split
    · rw [List.length_append]; omega
    · exact this
def cmpR (zs : List Int) (k : Option Nat) (rows : List (List PV)) : Prop := k = some (compS zs).length ∧ rows = intsB (compS zs ++ List.replicate (zs.length - (compS zs).length) 0)
theorem compact_ok (zs : List Int) (hl : zs.length ≤ 1000000) : AIn Try.prog 118 1 (intsB zs) [] (cmpR zs) := by
  refine AIn.ofInts (by kernel_rfl) trivial trivial (fun hne pre suf cp hcp hmx => ?_) (fun he q cp => ?_)
  · refine amut1 hmo Try.func118 (by kernel_rfl) rfl rfl (by kernel_rfl) (Nat.le_of_ble_eq_true rfl) ?_
    by_cases c2 : zs.length < 2
    · have c2' : (zs.length : Int) < 2 := by omega
      simp [c2, c2']
      have h1 : zs.length = 1 := by
        have := List.length_pos_iff.2 hne
        omega
      have h2 : compS zs = zs := by
        unfold compS; rw [h1, compTo, if_pos (.inl rfl), compTo, List.nil_append]
        match zs, h1 with
        | [x], _ => rfl
      exact ⟨some zs.length, zs, ⟨by rw [h2], by rw [h2]; simp⟩, rfl, fun m hm => by cases hm; exact Nat.le_refl _, rfl, rfl⟩
    have c2' : ¬ (zs.length : Int) < 2 := by omega
    simp [c2, c2']
    refine ALoop.intro (S := fun (k : Nat) => ⟨[(0, .pv (.bsl 0 1 pre.length zs.length cp)), (3, .pv (I64 k))], [blk pre zs suf]⟩) (fun k => 1 ≤ k ∧ k ≤ zs.length ∧ compTo zs k = zs.take k) (fun k => zs.length - k) 1 ?_ ⟨Nat.le_refl _, by omega, ?_⟩ ?_
    · exact Weak.to (by simp) rfl (by simp) (by simp) (by simp [blk_below])
    · rw [compTo, if_pos (.inl rfl), compTo, List.nil_append]
      match zs, hne with
      | x :: l, _ => rfl
    · rintro k ⟨h1, h2, h3⟩
      have hlen := blk_length pre zs suf
      by_cases ck : k < zs.length
      · have hw : w64 ((k : Int) + 1) = ((k + 1 : Nat) : Int) := by rw [w64_id (by omega) (by omega)]; omega
        have hw1 : w64 ((k : Int) - 1) = ((k - 1 : Nat) : Int) := by rw [w64_id (by omega) (by omega)]; omega
        have hg1 := blk_get pre zs suf (i := k) ck
        have hg2 := blk_get pre zs suf (i := k - 1) (by omega)
        have e1 : zs.getD k 0 = zs[k] := by simp [ck]
        have e2 : zs.getD (k - 1) 0 = zs[k - 1] := by simp [show k - 1 < zs.length by omega]
        have hct : compTo zs (k + 1) = if zs[k] ≠ zs[k - 1] then compTo zs k ++ [zs[k]] else compTo zs k := by
          rw [compTo, e1, e2]
          by_cases d : zs[k] ≠ zs[k - 1]
          · rw [if_pos (.inr d), if_pos d]
          · rw [if_neg (fun h => h.elim (by omega) d), if_neg d]
        simp [ck, hw1, hg1, hg2, hlen]
        refine ⟨by omega, by omega, by omega, fun d => ⟨⟨by omega, by omega⟩, ?_⟩, fun d => ⟨k + 1, by (try dsimp only); omega, ⟨by omega, by omega, ?_⟩, Weak.to (by simp [hw]) rfl (by simp) (by simp) (by simp [blk_below])⟩⟩
        rotate_left
        · rw [hct, if_pos d, h3, List.take_add_one, List.getElem?_eq_getElem ck]; rfl
        rw [if_neg (fun h => h d), h3] at hct
        refine ALoop.intro (S := fun (y : Nat × List Int) => ⟨[(0, .pv (.bsl 0 1 pre.length zs.length cp)), (3, .pv (I64 ((compTo zs (k + y.1)).length : Nat))), (4, .pv (.bsl 0 1 (pre.length + k) (zs.length - k) (cp - k))), (5, .pv (I64 y.1))], [blk pre y.2 suf]⟩)
          (fun y => 1 ≤ y.1 ∧ k + y.1 ≤ zs.length ∧ (compTo zs (k + y.1)).length < k + y.1 ∧ y.2.length = zs.length ∧ y.2.take (compTo zs (k + y.1)).length = compTo zs (k + y.1) ∧ y.2.drop (k + y.1 - 1) = zs.drop (k + y.1 - 1)) (fun y => zs.length - y.1) (1, zs) ?_ ?_ ?_
        · refine Weak.to ?_ rfl (by simp) (by simp) (by simp [blk_below])
          have : (compTo zs (k + 1)).length = k := by rw [hct, List.length_take]; omega
          simp [this]
        · have : (compTo zs (k + 1)).length = k := by rw [hct, List.length_take]; omega
          refine ⟨Nat.le_refl _, by dsimp only; omega, by dsimp only; omega, rfl, ?_, rfl⟩
          dsimp only
          rw [this, hct]
        · rintro ⟨j, cur⟩ ⟨i1, i2, i3, i4, i5, i6⟩
          dsimp only at i1 i2 i3 i4 i5 i6
          have hlen := blk_length pre cur suf
          by_cases cj : k + j < zs.length
          · have cj' : (j : Int) < ((zs.length - k : Nat) : Int) := by omega
            have hj1 : w64 ((j : Int) - 1) = ((j - 1 : Nat) : Int) := by rw [w64_id (by omega) (by omega)]; omega
            have hj2 : w64 ((j : Int) + 1) = ((j + 1 : Nat) : Int) := by rw [w64_id (by omega) (by omega)]; omega
            have hcur : ∀ i (h : i < zs.length), k + j - 1 ≤ i → cur[i]'(by omega) = zs[i] := by
              intro i h hi
              have := congrArg (fun l => l[i - (k + j - 1)]?) i6
              simp only [List.getElem?_drop] at this
              rw [show k + j - 1 + (i - (k + j - 1)) = i by omega, List.getElem?_eq_getElem (by omega), List.getElem?_eq_getElem h] at this
              exact Option.some.inj this
            have hg1 := blk_get pre cur suf (i := k + j) (by omega)
            have hg2 := blk_get pre cur suf (i := k + (j - 1)) (by omega)
            rw [hcur (k + j) cj (by omega), ← Nat.add_assoc] at hg1
            have e3 : cur[k + (j - 1)]'(by omega) = zs[k + (j - 1)] := hcur _ (by omega) (by omega)
            rw [e3, ← Nat.add_assoc] at hg2
            have e1 : zs.getD (k + j) 0 = zs[k + j] := by simp [cj]
            have e2 : zs.getD (k + j - 1) 0 = zs[k + (j - 1)] := by
              have : k + j - 1 = k + (j - 1) := by omega
              rw [this]; simp [show k + (j - 1) < zs.length by omega]
            have hcj : compTo zs (k + (j + 1)) = if zs[k + j] ≠ zs[k + (j - 1)] then compTo zs (k + j) ++ [zs[k + j]] else compTo zs (k + j) := by
              rw [← Nat.add_assoc, compTo, e1, e2]
              by_cases d : zs[k + j] ≠ zs[k + (j - 1)]
              · rw [if_pos (.inr d), if_pos d]
              · rw [if_neg (fun h => h.elim (by omega) d), if_neg d]
            have cj2 : j < zs.length - k := by omega
            have cj3 : j - 1 < zs.length - k := by omega
            simp [cj2, cj3, hj1, hg1, hg2, hlen]
            refine ⟨by omega, by omega, fun d => ?_, fun d => ?_⟩
            · rw [if_pos d] at hcj
              have hw2 : w64 (((compTo zs (k + j)).length : Int) + 1) = (((compTo zs (k + j)).length + 1 : Nat) : Int) := by rw [w64_id (by omega) (by omega)]; omega
              have hset := blk_set pre cur suf (i := (compTo zs (k + j)).length) zs[k + j] (by omega)
              refine ⟨by omega, by omega, by omega, (j + 1, cur.set (compTo zs (k + j)).length zs[k + j]), by (try dsimp only); omega, ⟨by (try dsimp only); omega, by (try dsimp only); omega, ?_, by (try dsimp only); rw [List.length_set]; exact i4, ?_, ?_⟩, Weak.to (by simp [hj2, hw2, hcj]) (by simp [hset]) (by simp) (by simp) (by simp [blk_below])⟩
              · dsimp only; rw [hcj, List.length_append, List.length_singleton]; omega
              · dsimp only
                rw [hcj, List.length_append, List.length_singleton, List.take_add_one, List.take_set_of_le (Nat.le_refl _), i5, List.getElem?_set_self (by omega)]
                rfl
              · dsimp only
                rw [List.drop_set_of_lt (by omega)]
                have := congrArg (List.drop 1) i6
                rw [List.drop_drop, List.drop_drop] at this
                rwa [show k + j - 1 + 1 = k + (j + 1) - 1 by omega] at this
            · rw [if_neg (fun h => h d)] at hcj
              exact ⟨(j + 1, cur), by (try dsimp only); omega, ⟨by (try dsimp only); omega, by (try dsimp only); omega, by (try dsimp only); rw [hcj]; omega, i4, by (try dsimp only); rw [hcj]; exact i5, by
                dsimp only
                have := congrArg (List.drop 1) i6
                rw [List.drop_drop, List.drop_drop] at this
                rwa [show k + j - 1 + 1 = k + (j + 1) - 1 by omega] at this⟩, Weak.to (by simp [hj2, hcj]) rfl (by simp) (by simp) (by simp [blk_below])⟩
          · have hj : k + j = zs.length := by omega
            have cj2 : ¬ j < zs.length - k := by omega
            rw [hj] at i3 i5
            have hpos := compTo_pos zs zs.length (by omega)
            have hfill := blk_fill pre cur suf (i := (compTo zs zs.length).length) (n := zs.length - (compTo zs zs.length).length) 0 (by omega)
            simp [cj2, hj, hlen]
            refine ⟨⟨by omega, by omega⟩, by omega, by omega, ⟨by omega, by omega⟩, some (compS zs).length, compS zs ++ List.replicate (zs.length - (compS zs).length) 0, ⟨rfl, rfl⟩, ?_, fun m hm => ?_, rfl, ?_⟩
            · unfold compS; simp; omega
            · cases hm; unfold compS; omega
            · unfold compS; rw [hfill, i5, List.drop_eq_nil_of_le (by omega), List.append_nil]
      · have : k = zs.length := by omega
        subst this
        simp
        rw [List.take_length] at h3
        exact ⟨some zs.length, zs, ⟨by unfold compS; rw [h3], by unfold compS; rw [h3]; simp⟩, rfl, fun m hm => by cases hm; exact Nat.le_refl _, rfl, rfl⟩
  · subst he
    refine apure1 hmo Try.func118 (by kernel_rfl) rfl rfl (by kernel_rfl) (Nat.le_of_ble_eq_true rfl) ?_
    simp
    exact ⟨some 0, ⟨rfl, rfl⟩, .inr rfl, rfl⟩

end Go.AX
