/-
  Contracts: the document's names, counted one by one.
-/
import Derived.Test.YtklaffmpfmpffaaGreatDoorS10AxEnN
import Derived.Test.YtklaffmpfmpffaaGreatDoorS10AxEnJ
namespace Go.AX
open Go.Proofs Go.Shelf
set_option linter.unusedSimpArgs false

def nmR (x : Nat × Nat × Nat) : List PV := [I64 x.1, I64 x.2.1, I64 x.2.2]
@[simp] theorem belowR_nmR (k : Nat) (l : List (Nat × Nat × Nat)) : belowR k (l.map nmR) := by
  rw [belowR_iff]; intro r hr x hx
  obtain ⟨o, _, rfl⟩ := List.mem_map.1 hr
  simp [nmR] at hx
  rcases hx with rfl | rfl | rfl <;> trivial
@[simp] theorem nwR_nmR (l : List (Nat × Nat × Nat)) : nwR (l.map nmR) := by
  rw [nwR_iff]; intro r hr
  obtain ⟨o, _, rfl⟩ := List.mem_map.1 hr
  exact ⟨trivial, trivial, trivial, trivial⟩
@[simp] theorem frzR_nmR (r : Nat → Nat → PV) (l : List (Nat × Nat × Nat)) : frzR r (l.map nmR) = l.map nmR := by
  rw [frzR_map, List.map_map]; congr 1
def nmL (N M j : Nat) : List (Nat × Nat × Nat) := (List.range j).map (nmOf N M)
@[simp] theorem nmL_length (N M j : Nat) : (nmL N M j).length = j := by simp [nmL]
theorem nmL_succ (N M j : Nat) : nmL N M (j + 1) = nmL N M j ++ [nmOf N M j] := by simp [nmL, List.range_succ]
theorem mul_lt {a b N : Nat} (ha : a < N) (hb : b < N) : a * N + b < N * N := by
  have : (a + 1) * N ≤ N * N := Nat.mul_le_mul_right N ha
  rw [Nat.succ_mul] at this
  omega
theorem nmOf_1 {N M a b : Nat} (ha : a < N) (hb : b < N) : nmOf N M (a * N + b) = (1, a, b) := by
  have := mul_lt ha hb
  unfold nmOf
  rw [if_neg (by omega), if_neg (by omega), Nat.mul_comm a N, Nat.mul_add_div (by omega), Nat.div_eq_of_lt hb, Nat.mul_add_mod, Nat.mod_eq_of_lt hb]
  rfl
theorem nmOf_2 {N M a : Nat} (ha : a < N) : nmOf N M (N * N + a) = (2, a, 0) := by
  unfold nmOf
  rw [if_neg (by omega), if_pos (by omega)]
  congr 2; omega
theorem nmOf_3 {N M a b : Nat} (hb : b < M) : nmOf N M (N * N + N + (a * M + b)) = (3, a, b) := by
  unfold nmOf
  rw [if_pos (by omega), show N * N + N + (a * M + b) - (N * N + N) = a * M + b by omega, Nat.mul_comm a M, Nat.mul_add_div (by omega), Nat.div_eq_of_lt hb, Nat.mul_add_mod, Nat.mod_eq_of_lt hb]
  rfl
theorem nmL_1 {N M a b : Nat} (ha : a < N) (hb : b < N) : nmL N M (a * N + (b + 1)) = nmL N M (a * N + b) ++ [(1, a, b)] := by
  rw [← Nat.add_assoc, nmL_succ, nmOf_1 ha hb]
theorem nmL_2 {N M a : Nat} (ha : a < N) : nmL N M (N * N + (a + 1)) = nmL N M (N * N + a) ++ [(2, a, 0)] := by
  rw [← Nat.add_assoc, nmL_succ, nmOf_2 ha]
theorem nmL_3 {N M a b : Nat} (hb : b < M) : nmL N M (N * N + N + (a * M + (b + 1))) = nmL N M (N * N + N + (a * M + b)) ++ [(3, a, b)] := by
  rw [show N * N + N + (a * M + (b + 1)) = (N * N + N + (a * M + b)) + 1 by omega, nmL_succ, nmOf_3 hb]
theorem sizeN {N M : Nat} (hc : sizeOk N M = true) : N ≤ 64 ∧ M ≤ 32 ∧ N * N ≤ 4096 := by
  have hs := sizeOk_iff.1 hc
  have hNN : N ≤ 64 := by omega
  have hq : N * N ≤ 64 * 64 := Nat.mul_le_mul hNN hNN
  exact ⟨hNN, by omega, by omega⟩
set_option maxRecDepth 16000 in
theorem ref31Names_ok (N M : Nat) (hc : sizeOk N M = true) : APure Tryz.prog 22 [I64 N, I64 M] (fun r => r = .own true 3 ((nmL N M (varC N M)).map nmR)) := by
  refine apure1 hmo Tryz.func22 (by kernel_rfl) rfl rfl (by kernel_rfl) (Nat.le_of_ble_eq_true rfl) ?_
  obtain ⟨hN, hM, hNN⟩ := sizeN hc
  have hV : varC N M = N * N + N + (N + 1) * M := rfl
  rw [hV]
  simp
  refine CallK.intro (refCheck_ok _ _) (by simp) ?_
  simp [hc]
  refine ALoop.intro (S := fun (a : Nat) => ⟨[(0, .pv (I64 N)), (1, .pv (I64 M)), (5, .own true 3 ((nmL N M (a * N)).map nmR)), (6, .pv (I64 a))], []⟩) (fun a => a ≤ N) (fun a => N - a) 0 ?_ (Nat.zero_le _) ?_
  · exact (Weak.nilOwn (s := 5) 3 true (by simp)).trans (Weak.to (by simp [nmL]) (by simp) (by simp) (by simp) (by simp))
  intro a ha
  have haN : a * N ≤ N * N := Nat.mul_le_mul_right N ha
  by_cases h : a < N
  · have hw : w64 ((a : Int) + 1) = ((a + 1 : Nat) : Int) := by rw [w64_id (by omega) (by omega)]; omega
    simp [h]
    refine ALoop.intro (S := fun (b : Nat) => ⟨[(0, .pv (I64 N)), (1, .pv (I64 M)), (5, .own true 3 ((nmL N M (a * N + b)).map nmR)), (6, .pv (I64 a)), (7, .pv (I64 b))], []⟩) (fun b => b ≤ N) (fun b => N - b) 0 ?_ (Nat.zero_le _) ?_
    · exact Weak.to (by simp) (by simp) (by simp) (by simp) (by simp)
    intro b hb
    by_cases h2 : b < N
    · have hw2 : w64 ((b : Int) + 1) = ((b + 1 : Nat) : Int) := by rw [w64_id (by omega) (by omega)]; omega
      have hsu := nmL_1 (M := M) h h2
      simp [h2]
      refine ⟨by omega, b + 1, by (try dsimp only); omega, by (try dsimp only); omega, Weak.to (by simp [hw2, hsu, nmR]) (by simp) (by simp) (by simp) (by simp)⟩
    · have hbe : b = N := by omega
      subst hbe
      simp
      refine ⟨a + 1, by (try dsimp only); omega, by (try dsimp only); omega, Weak.to (by simp [hw, Nat.succ_mul]) (by simp) (by simp) (by simp) (by simp)⟩
  have hae : a = N := by omega
  subst hae
  simp
  refine ALoop.intro (S := fun (i : Nat) => ⟨[(0, .pv (I64 a)), (1, .pv (I64 M)), (5, .own true 3 ((nmL a M (a * a + i)).map nmR)), (8, .pv (I64 i))], []⟩) (fun i => i ≤ a) (fun i => a - i) 0 ?_ (Nat.zero_le _) ?_
  · exact Weak.to (by simp) (by simp) (by simp) (by simp) (by simp)
  intro i hi
  by_cases h : i < a
  · have hw : w64 ((i : Int) + 1) = ((i + 1 : Nat) : Int) := by rw [w64_id (by omega) (by omega)]; omega
    have hsu := nmL_2 (M := M) h
    simp [h]
    refine ⟨by omega, i + 1, by (try dsimp only); omega, by (try dsimp only); omega, Weak.to (by simp [hw, hsu, nmR]) (by simp) (by simp) (by simp) (by simp)⟩
  have hie : i = a := by omega
  subst hie
  simp
  refine ALoop.intro (S := fun (j : Nat) => ⟨[(0, .pv (I64 i)), (1, .pv (I64 M)), (5, .own true 3 ((nmL i M (i * i + i + j * M)).map nmR)), (9, .pv (I64 j))], []⟩) (fun j => j ≤ i + 1) (fun j => i + 1 - j) 0 ?_ (Nat.zero_le _) ?_
  · exact Weak.to (by simp) (by simp) (by simp) (by simp) (by simp)
  intro j hj
  have hjM : j * M ≤ (i + 1) * M := Nat.mul_le_mul_right M hj
  have hjM2 : (i + 1) * M ≤ 65 * 32 := Nat.mul_le_mul (by omega) hM
  by_cases h : j ≤ i
  · have hw : w64 ((j : Int) + 1) = ((j + 1 : Nat) : Int) := by rw [w64_id (by omega) (by omega)]; omega
    simp [h]
    refine ALoop.intro (S := fun (b : Nat) => ⟨[(0, .pv (I64 i)), (1, .pv (I64 M)), (5, .own true 3 ((nmL i M (i * i + i + (j * M + b))).map nmR)), (9, .pv (I64 j)), (10, .pv (I64 b))], []⟩) (fun b => b ≤ M) (fun b => M - b) 0 ?_ (Nat.zero_le _) ?_
    · exact Weak.to (by simp) (by simp) (by simp) (by simp) (by simp)
    intro b hb
    by_cases h2 : b < M
    · have hw2 : w64 ((b : Int) + 1) = ((b + 1 : Nat) : Int) := by rw [w64_id (by omega) (by omega)]; omega
      have hsu := nmL_3 (N := i) (a := j) h2
      simp [h2]
      refine ⟨by omega, b + 1, by (try dsimp only); omega, by (try dsimp only); omega, Weak.to (by simp [hw2, hsu, nmR]) (by simp) (by simp) (by simp) (by simp)⟩
    · have hbe : b = M := by omega
      subst hbe
      simp
      refine ⟨j + 1, by (try dsimp only); omega, by (try dsimp only); omega, Weak.to (by simp [hw, Nat.succ_mul]) (by simp) (by simp) (by simp) (by simp)⟩
  have hje : j = i + 1 := by omega
  subst hje
  have hle : ¬ (i : Int) + 1 ≤ (i : Int) := by omega
  simp [hle]
end Go.AX
