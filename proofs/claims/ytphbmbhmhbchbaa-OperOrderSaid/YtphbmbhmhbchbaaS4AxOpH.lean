/-
  The plain law of OperOrder: to be ahead is an order, and the first that is not done is free.
  Contracts: OperOrder.
-/
import Derived.Test.YtphbmbhmhbchbaaS4AxOpE
import Derived.Test.YtphbmbhmhbchbaaS4AxCntL
namespace Go.AX

theorem ahead_up {ops : List Op5} (ho : okTo ops ops.length) {i j : Nat} (hi : i < ops.length) (hj : j < ops.length) (h : aheadS ops[i] ops[j] = true) : i < j := by
  have hf := alone_facts (okTo_fine ho (Nat.le_refl _) hi).al
  rw [ahead_iff] at h
  rcases Nat.lt_or_ge i j with c | c
  · exact c
  · rcases Nat.lt_or_ge j i with c2 | c2
    · have := starts_up (Nat.le_refl _) ho hi c2; omega
    · have : i = j := by omega
      subst this; omega
theorem ahead_trans {ops : List Op5} (ho : okTo ops ops.length) {i j k : Nat} (hi : i < ops.length) (hj : j < ops.length) (hk : k < ops.length) (h : aheadS ops[i] ops[j] = true) (h2 : aheadS ops[j] ops[k] = true) : aheadS ops[i] ops[k] = true := by
  have hf := alone_facts (okTo_fine ho (Nat.le_refl _) hj).al
  rw [ahead_iff] at h h2 ⊢
  omega
def leftTo (done : List Bool) (i : Nat) : Nat := ((List.range i).filter fun k => !isD done k).length
theorem leftTo_succ (done : List Bool) (i : Nat) : leftTo done (i + 1) = leftTo done i + (if isD done i = true then 0 else 1) := by
  unfold leftTo
  rw [List.range_succ, List.filter_append, List.length_append]
  cases h : isD done i <;> simp [h]
theorem filter_pos {α : Type} {p : α → Bool} {l : List α} : 0 < (l.filter p).length ↔ ∃ x ∈ l, p x = true := by
  rw [List.length_pos_iff_exists_mem]
  simp [List.mem_filter]
theorem first_of {p : Nat → Bool} : ∀ n, (∃ k, k < n ∧ p k = true) → ∃ k, k < n ∧ p k = true ∧ ∀ j, j < k → p j = false
  | 0, ⟨k, h, _⟩ => by omega
  | n + 1, ⟨k, h, hp⟩ => by
    by_cases c : ∃ k, k < n ∧ p k = true
    · obtain ⟨k, h1, h2, h3⟩ := first_of n c
      exact ⟨k, by omega, h2, h3⟩
    · refine ⟨k, h, hp, fun j hj => ?_⟩
      cases hpj : p j with
      | false => rfl
      | true => exact absurd ⟨j, by omega, hpj⟩ c
theorem free_left {ops : List Op5} (ho : okTo ops ops.length) (done : List Bool) : 0 < (freeTo ops done ops.length).length ↔ 0 < leftTo done ops.length := by
  unfold freeTo leftTo
  rw [List.length_map, filter_pos, filter_pos]
  constructor
  · rintro ⟨i, hi, h⟩
    refine ⟨i, hi, ?_⟩
    unfold freeS at h
    rw [Bool.and_eq_true] at h
    exact h.1
  · rintro ⟨i, hi, h⟩
    rw [List.mem_range] at hi
    obtain ⟨k, h1, h2, h3⟩ := first_of (p := fun k => !isD done k) ops.length ⟨i, hi, h⟩
    refine ⟨k, List.mem_range.2 h1, ?_⟩
    unfold freeS
    rw [Bool.and_eq_true, List.all_eq_true]
    refine ⟨h2, fun j hj => ?_⟩
    rw [List.mem_range] at hj
    rw [getD_lt hj, getD_lt h1, Bool.or_eq_true]
    cases hA : aheadS ops[j] ops[k] with
    | false => exact .inr rfl
    | true =>
      have := h3 j (ahead_up ho hj h1 hA)
      simp at this
      exact .inl this

end Go.AX

namespace Go.AX
open Go.Proofs
set_option linter.unusedSimpArgs false

set_option maxRecDepth 16000 in
theorem operOrder_ok (ops : List Op5) (done : List Bool) : APure Try.prog 4 [ovec ops, .seq false 1 (brow done)] (fun r => r = .pv (BL true)) := by
  refine apure1 hmo Try.func4 (by kernel_rfl) rfl rfl (by kernel_rfl) (Nat.le_of_ble_eq_true rfl) ?_
  by_cases c1 : 20 < ops.length
  · have c1' : 20 < (ops.length : Int) := by omega
    simp [ovec, c1, c1']
    exact CallK.intro opAwake_ok (by simp) (by simp)
  have c1' : ¬ 20 < (ops.length : Int) := by omega
  by_cases c2 : 30 < done.length
  · have c2' : 30 < (done.length : Int) := by omega
    simp [ovec, c1, c1', c2, c2']
    exact CallK.intro opAwake_ok (by simp) (by simp)
  have c2' : ¬ 30 < (done.length : Int) := by omega
  have k1 := chk_okC ops (by omega)
  have k4 := free_ok ops done (by omega)
  simp only [ovec] at k1 k4
  simp [ovec, c1, c1', c2, c2']
  refine CallK.intro k1 (by simp) ?_
  by_cases c3 : (chk ops).2 = 0
  rotate_left
  · simp [c3]
    exact CallK.intro opAwake_ok (by simp) (by simp)
  obtain ⟨_, ho⟩ := chk_zero c3
  have hfl := free_left ho done
  simp [c3]
  refine ALoop.intro (S := fun (i : Nat) => ⟨[(0, .pv (ovec ops)), (1, .pv (.seq false 1 (brow done))), (7, .pv (I64 i))], []⟩) (fun i => i ≤ ops.length) (fun i => ops.length - i) 0 ?_ (Nat.zero_le _) ?_
  · exact Weak.to (by simp [ovec]) rfl (by simp) (by simp [ovec]) (by simp)
  · intro i hi
    by_cases ci : i < ops.length
    · have hw : w64 ((i : Int) + 1) = ((i + 1 : Nat) : Int) := by rw [w64_id (by omega) (by omega)]; omega
      simp [ovec, ci]
      refine ALoop.intro (S := fun (j : Nat) => ⟨[(0, .pv (ovec ops)), (1, .pv (.seq false 1 (brow done))), (7, .pv (I64 i)), (8, .pv (I64 j))], []⟩) (fun j => j ≤ ops.length) (fun j => ops.length - j) 0 ?_ (Nat.zero_le _) ?_
      · exact Weak.to (by simp [ovec]) rfl (by simp) (by simp [ovec]) (by simp)
      · intro j hj
        by_cases cj : j < ops.length
        · have hw2 : w64 ((j : Int) + 1) = ((j + 1 : Nat) : Int) := by rw [w64_id (by omega) (by omega)]; omega
          obtain ⟨A, hA⟩ : ∃ A, aheadS ops[i] ops[j] = A := ⟨_, rfl⟩
          have hup := ahead_up ho ci cj
          have htr := fun k (ck : k < ops.length) => ahead_trans ho ci cj ck
          have ha := ahead_ok ops[i] ops[j]
          rw [hA] at ha hup htr
          simp only [orow] at ha
          have hji : A = true → ¬ j ≤ i := fun h => by have := hup h; omega
          simp [ovec, ci, cj, orow]
          refine CallQ0.intro ha (by simp) ?_
          cases A
          all_goals
            simp [hji]
            refine ALoop.intro (S := fun (k : Nat) => ⟨[(0, .pv (ovec ops)), (1, .pv (.seq false 1 (brow done))), (7, .pv (I64 i)), (8, .pv (I64 j)), (9, .pv (I64 k))], []⟩) (fun k => k ≤ ops.length) (fun k => ops.length - k) 0 ?_ (Nat.zero_le _) ?_
            · exact Weak.to (by simp [ovec]) rfl (by simp) (by simp [ovec]) (by simp)
            · intro k hk
              by_cases ck : k < ops.length
              · have hw3 : w64 ((k : Int) + 1) = ((k + 1 : Nat) : Int) := by rw [w64_id (by omega) (by omega)]; omega
                obtain ⟨B, hB⟩ : ∃ B, aheadS ops[j] ops[k] = B := ⟨_, rfl⟩
                obtain ⟨C, hC⟩ : ∃ C, aheadS ops[i] ops[k] = C := ⟨_, rfl⟩
                have htk := htr k ck
                have hb := ahead_ok ops[j] ops[k]
                have hc := ahead_ok ops[i] ops[k]
                rw [hB] at hb htk
                rw [hC] at hc htk
                simp only [orow] at hb hc
                simp [ovec, ci, cj, ck, orow]
                refine CallQ0.intro ha (by simp) ?_
                simp [ovec, ci, cj, ck, orow]
                refine CallQ.intro (fun _ => hb) (by simp) ?_
                cases B <;> cases C
                all_goals
                  try simp at htk
                  try simp [ovec, ci, cj, ck, orow]
                  try refine CallQ.intro (fun _ => hc) (by simp) ?_
                  try simp
                  try refine ⟨k + 1, by (try dsimp only); omega, by (try dsimp only); omega, Weak.to (by simp [hw3, ovec]) rfl (by simp) (by simp [ovec]) (by simp)⟩
              · have : k = ops.length := by omega
                subst this
                simp [ovec]
                refine ⟨j + 1, by (try dsimp only); omega, by (try dsimp only); omega, Weak.to (by simp [hw2, ovec]) rfl (by simp) (by simp [ovec]) (by simp)⟩
        · have : j = ops.length := by omega
          subst this
          simp [ovec]
          refine ⟨i + 1, by (try dsimp only); omega, by (try dsimp only); omega, Weak.to (by simp [hw, ovec]) rfl (by simp) (by simp [ovec]) (by simp)⟩
    · have : i = ops.length := by omega
      subst this
      simp [ovec]
      refine ALoop.intro (S := fun (k : Nat) => ⟨[(0, .pv (ovec ops)), (1, .pv (.seq false 1 (brow done))), (10, .pv (I64 (leftTo done k))), (11, .pv (I64 k))], []⟩) (fun k => k ≤ ops.length ∧ leftTo done k ≤ k) (fun k => ops.length - k) 0 ?_ ⟨Nat.zero_le _, by simp [leftTo]⟩ ?_
      · exact Weak.to (by simp [ovec, leftTo]) rfl (by simp) (by simp [ovec]) (by simp)
      · rintro k ⟨hk, hlk⟩
        by_cases ck : k < ops.length
        · have hw3 : w64 ((k : Int) + 1) = ((k + 1 : Nat) : Int) := by rw [w64_id (by omega) (by omega)]; omega
          have hw4 : w64 ((leftTo done k : Int) + 1) = ((leftTo done k + 1 : Nat) : Int) := by rw [w64_id (by omega) (by omega)]; omega
          have hsu := leftTo_succ done k
          by_cases e : k < done.length
          · obtain ⟨D, hD⟩ : ∃ D, done[k] = D := ⟨_, rfl⟩
            have hiD : isD done k = D := by simp [isD, e, hD]
            rw [hiD] at hsu
            have e2 : ¬ done.length ≤ k := by omega
            cases D
            all_goals
              simp at hsu
              simp [ovec, ck, e, hD]
              refine ⟨k + 1, by (try dsimp only); omega, ⟨by (try dsimp only); omega, by (try dsimp only); omega⟩, Weak.to (by simp [hw3, hw4, hsu, ovec]) rfl (by simp) (by simp [ovec]) (by simp)⟩
          · have hiD : isD done k = false := by simp [isD, e]
            rw [hiD] at hsu
            simp at hsu
            simp [ovec, ck, e]
            refine ⟨k + 1, by (try dsimp only); omega, ⟨by (try dsimp only); omega, by (try dsimp only); omega⟩, Weak.to (by simp [hw3, hw4, hsu, ovec]) rfl (by simp) (by simp [ovec]) (by simp)⟩
        · have : k = ops.length := by omega
          subst this
          simp [ovec]
          refine CallK.intro k4 (by simp) ?_
          by_cases cl : 0 < leftTo done ops.length
          · have cf := hfl.2 cl
            have cl' : 0 < ((leftTo done ops.length : Nat) : Int) := by omega
            have cf' : 0 < (((freeTo ops done ops.length).length : Nat) : Int) := by omega
            simp [cl, cl', cf, cf']
            refine CallG.intro (r := .pv (BL true)) (fun _ => opAwake_ok) (by simp) ?_
            simp [cl, cl', cf, cf']
          · have cf : ¬ 0 < (freeTo ops done ops.length).length := fun h => cl (hfl.1 h)
            have cl' : ¬ 0 < ((leftTo done ops.length : Nat) : Int) := by omega
            have cf' : ¬ 0 < (((freeTo ops done ops.length).length : Nat) : Int) := by omega
            simp [cl, cl', cf, cf']
            refine CallG.intro (r := .pv (BL true)) (fun _ => opAwake_ok) (by simp) ?_
            simp [cl, cl', cf, cf']

end Go.AX
