/-
  Contracts: what follows by units, by the document.
-/
import Derived.Test.YthfhellfmbllhaaGreatS12AxRfA
import Derived.Test.YthfhellfmbllhaaGreatS12AxClD
namespace Go.AX
open Go.Proofs
set_option linter.unusedSimpArgs false
def val3 (l : List Int) (x : Int) : Int := if litX x < 0 then 0 else if x ∈ l then 1 else if w64 (-x) ∈ l then -1 else 0
theorem rf3Value_ok (l : List Int) (x : Int) (hl : l.length ≤ 1000000) : APure Tryz.prog 103 [.seq false 1 (irow l), I64 x] (fun r => r = .pv (I64 (val3 l x))) := by
  refine apure1 hmo Tryz.func103 (by kernel_rfl) rfl rfl (by kernel_rfl) (Nat.le_of_ble_eq_true rfl) ?_
  have hV : val3 l x = if litX x < 0 then 0 else if x ∈ l then 1 else if w64 (-x) ∈ l then -1 else 0 := rfl
  generalize val3 l x = V at hV ⊢
  simp
  refine CallK.intro (refIndex_ok x) (by simp) ?_
  simp
  refine ⟨fun c => by rw [hV, if_pos c], fun c => ?_⟩
  rw [if_neg (by omega)] at hV
  refine CallK.intro (refHas_ok l x (by omega)) (by simp) ?_
  simp
  refine ⟨fun c => by rw [hV, if_pos c], fun c => ?_⟩
  rw [if_neg c] at hV
  refine CallK.intro (refHas_ok l (w64 (-x)) (by omega)) (by simp) ?_
  simp
  exact ⟨fun c => by rw [hV, if_pos c], fun c => by rw [hV, if_neg c]⟩
theorem foldl_take_succ {α β : Type} (f : β → α → β) (b : β) (c : List α) (i : Nat) (h : i < c.length) : (c.take (i + 1)).foldl f b = f ((c.take i).foldl f b) c[i] := by
  rw [← List.take_append_getElem h, List.foldl_append]; rfl
def clF (l : List Int) (n x : Int) : Int := if 0 ≤ litX x ∧ n < val3 l x then val3 l x else n
def clS (l c : List Int) : Int := c.foldl (clF l) (-1)
theorem rf3Clause_ok (l c : List Int) (hl : l.length ≤ 1000000) (hc : c.length ≤ 1000000) : APure Tryz.prog 53 [.seq false 1 (irow l), .seq false 1 (irow c)] (fun r => r = .pv (I64 (clS l c))) := by
  refine apure1 hmo Tryz.func53 (by kernel_rfl) rfl rfl (by kernel_rfl) (Nat.le_of_ble_eq_true rfl) ?_
  simp
  refine ALoop.intro (S := fun (i : Nat) => ⟨[(0, .pv (.seq false 1 (irow l))), (1, .pv (.seq false 1 (irow c))), (5, .pv (I64 ((c.take i).foldl (clF l) (-1)))), (6, .pv (I64 i))], []⟩) (fun i => i ≤ c.length) (fun i => c.length - i) 0 ?_ (Nat.zero_le _) ?_
  · exact Weak.to (by simp) rfl (by simp) (by simp) (by simp)
  intro i hi
  by_cases h : i < c.length
  · have hw : w64 ((i : Int) + 1) = ((i + 1 : Nat) : Int) := by rw [w64_id (by omega) (by omega)]; omega
    have hF := foldl_take_succ (clF l) (-1) c i h
    generalize (c.take i).foldl (clF l) (-1) = n at hF ⊢
    simp [h]
    refine CallK.intro (refIndex_ok c[i]) (by simp) ?_
    simp [h]
    refine CallG.intro (r := .pv (I64 (val3 l c[i]))) (fun _ => rf3Value_ok l c[i] hl) (by simp) ?_
    simp [h]
    refine ⟨fun c1 c2 => ?_, fun c1 => ⟨i + 1, by (try dsimp only); omega, by (try dsimp only); omega, ?_⟩⟩
    · refine CallK.intro (rf3Value_ok l c[i] hl) (by simp) ?_
      have e : clF l n c[i] = val3 l c[i] := by unfold clF; rw [if_pos ⟨c1, c2⟩]
      rw [e] at hF
      simp [h]
      exact ⟨i + 1, by (try dsimp only); omega, by (try dsimp only); omega, Weak.to (by simp [hw, hF]) rfl (by simp) (by simp) (by simp)⟩
    · have e : clF l n c[i] = n := by
        unfold clF; rw [if_neg]; rintro ⟨a1, a2⟩; have := c1 a1; omega
      rw [e] at hF
      exact Weak.to (by simp [hw, hF]) rfl (by simp) (by simp) (by simp)
  · have hie : i = c.length := by omega
    subst hie
    simp [clS]
def ctF (l : List Int) (t : Int × Int × Int) (x : Int) : Int × Int × Int :=
  if val3 l x = 1 then (w64 (t.1 + 1), t.2.1, t.2.2) else if val3 l x = -1 then (t.1, w64 (t.2.1 + 1), t.2.2) else if 0 ≤ litX x then (t.1, t.2.1, w64 (t.2.2 + 1)) else t
def ctS (l c : List Int) : Int × Int × Int := c.foldl (ctF l) (0, 0, 0)
set_option maxRecDepth 8000 in
theorem rf3Count_ok (l c : List Int) (hl : l.length ≤ 1000000) (hc : c.length ≤ 1000000) : APure Tryz.prog 183 [.seq false 1 (irow l), .seq false 1 (irow c)] (fun r => r = .pv (.agg [I64 (ctS l c).1, I64 (ctS l c).2.1, I64 (ctS l c).2.2])) := by
  refine apureC hmo Tryz.func183 (by kernel_rfl) rfl rfl (by kernel_rfl) (Nat.le_of_ble_eq_true rfl) ?_
  simp
  refine ALoop.intro (S := fun (i : Nat) => ⟨[(0, .pv (.seq false 1 (irow l))), (1, .pv (.seq false 1 (irow c))), (4, .pv (.ptr 0 0)), (5, .pv (.ptr 1 0)), (6, .pv (I64 i))], [[.pv (I64 0), .pv (I64 0), .pv (I64 0)], [.pv (I64 ((c.take i).foldl (ctF l) (0, 0, 0)).1), .pv (I64 ((c.take i).foldl (ctF l) (0, 0, 0)).2.1), .pv (I64 ((c.take i).foldl (ctF l) (0, 0, 0)).2.2)]]⟩) (fun i => i ≤ c.length) (fun i => c.length - i) 0 ?_ (Nat.zero_le _) ?_
  · exact Weak.to (by simp) (by simp) (by simp) (by simp) (by simp)
  intro i hi
  by_cases h : i < c.length
  · have hw : w64 ((i : Int) + 1) = ((i + 1 : Nat) : Int) := by rw [w64_id (by omega) (by omega)]; omega
    have hF := foldl_take_succ (ctF l) (0, 0, 0) c i h
    generalize (c.take i).foldl (ctF l) (0, 0, 0) = t at hF ⊢
    obtain ⟨x, y, z⟩ := t
    unfold ctF at hF
    simp [h]
    refine CallK.intro (rf3Value_ok l c[i] hl) (by simp) ?_
    simp [h]
    refine ⟨fun c1 => ⟨i + 1, by (try dsimp only); omega, by (try dsimp only); omega, Weak.to (by rw [if_pos c1] at hF; simp [hw]) (by rw [if_pos c1] at hF; unfold ctF; simp [hF]) (by simp) (by simp) (by simp)⟩, fun c1 => ⟨fun c2 => ⟨i + 1, by (try dsimp only); omega, by (try dsimp only); omega, Weak.to (by simp [hw]) (by rw [if_neg c1, if_pos c2] at hF; unfold ctF; simp [hF]) (by simp) (by simp) (by simp)⟩, fun c2 => ?_⟩⟩
    refine CallK.intro (refIndex_ok c[i]) (by simp) ?_
    simp
    exact ⟨fun c3 => ⟨i + 1, by (try dsimp only); omega, by (try dsimp only); omega, Weak.to (by simp [hw]) (by rw [if_neg c1, if_neg c2, if_pos c3] at hF; unfold ctF; simp [hF]) (by simp) (by simp) (by simp)⟩, fun c3 => ⟨i + 1, by (try dsimp only); omega, by (try dsimp only); omega, Weak.to (by simp [hw]) (by rw [if_neg c1, if_neg c2, if_neg (by omega)] at hF; unfold ctF; simp [hF]) (by simp) (by simp) (by simp)⟩⟩
  · have hie : i = c.length := by omega
    subst hie
    simp [ctS]
def opF (l : List Int) (n x : Int) : Int := if 0 ≤ litX x ∧ val3 l x = 0 then x else n
def unitS (l c : List Int) : Int × Bool := if (ctS l c).1 ≠ 0 ∨ (ctS l c).2.2 ≠ 1 then (0, false) else (c.foldl (opF l) 0, true)
set_option maxRecDepth 8000 in
theorem rf3Unit_ok (l c : List Int) (hl : l.length ≤ 1000000) (hc : c.length ≤ 1000000) : APure Tryz.prog 148 [.seq false 1 (irow l), .seq false 1 (irow c)] (fun r => r = .pv (.tup [I64 (unitS l c).1, BL (unitS l c).2])) := by
  refine apureN [4, 5] hmo Tryz.func148 (by kernel_rfl) rfl (fun _ _ => results_tmp2 rfl _ _ _) (by kernel_rfl) (Nat.le_of_ble_eq_true rfl) ?_
  have hU : unitS l c = if (ctS l c).1 ≠ 0 ∨ (ctS l c).2.2 ≠ 1 then (0, false) else (c.foldl (opF l) 0, true) := rfl
  have hct := rf3Count_ok l c hl hc
  generalize unitS l c = U at hU ⊢
  generalize ctS l c = t at hU hct
  obtain ⟨x, y, z⟩ := t
  dsimp only at hU hct
  simp
  refine CallK.intro hct (by simp) ?_
  by_cases c1 : x = 0
  rotate_left
  · rw [if_pos (.inl c1)] at hU
    subst hU
    simp [c1]
  by_cases c2 : z = 1
  rotate_left
  · rw [if_pos (.inr c2)] at hU
    subst hU
    simp [c1, c2]
  rw [if_neg (by omega)] at hU
  simp [c1, c2]
  refine ALoop.intro (S := fun (i : Nat) => ⟨[(0, .pv (.seq false 1 (irow l))), (1, .pv (.seq false 1 (irow c))), (7, .pv (I64 ((c.take i).foldl (opF l) 0))), (8, .pv (I64 i))], []⟩) (fun i => i ≤ c.length) (fun i => c.length - i) 0 ?_ (Nat.zero_le _) ?_
  · exact Weak.to (by simp) rfl (by simp) (by simp) (by simp)
  intro i hi
  by_cases h : i < c.length
  · have hw : w64 ((i : Int) + 1) = ((i + 1 : Nat) : Int) := by rw [w64_id (by omega) (by omega)]; omega
    have hF := foldl_take_succ (opF l) 0 c i h
    generalize (c.take i).foldl (opF l) 0 = n at hF ⊢
    unfold opF at hF
    simp [h]
    refine CallK.intro (refIndex_ok c[i]) (by simp) ?_
    simp [h]
    refine CallG.intro (r := .pv (I64 (val3 l c[i]))) (fun _ => rf3Value_ok l c[i] hl) (by simp) ?_
    simp [h]
    refine ⟨fun d1 d2 => ⟨i + 1, by (try dsimp only); omega, by (try dsimp only); omega, ?_⟩, fun d1 => ⟨i + 1, by (try dsimp only); omega, by (try dsimp only); omega, ?_⟩⟩
    · rw [if_pos ⟨d1, d2⟩] at hF
      exact Weak.to (by unfold opF; simp [hw, hF]) rfl (by simp) (by simp) (by simp)
    · rw [if_neg (fun d => d1 d.1 d.2)] at hF
      exact Weak.to (by unfold opF; simp [hw, hF]) rfl (by simp) (by simp) (by simp)
  · have hie : i = c.length := by omega
    subst hie hU
    simp
end Go.AX
