/-
  Contracts: the document's trails that grow, and its arenas.
  Trails: what the program keeps and what the document keeps go together (plain law).
-/
import Derived.Test.YtklaffmpfmpffaaGreatS11AxRfA
import Derived.Test.YtklaffmpfmpffaaGreatS11AxClG
import Derived.Test.YtklaffmpfmpffaaGreatAxIs
namespace Go.AX
open Go.Proofs
set_option linter.unusedSimpArgs false

theorem rfNew_ok (h : List (List SV)) : AMut Tryz.prog 77 [I64 6] h (fun r h' => h' = h ∧ r = .pv (.tup [rtV ⟨6, [], 0⟩, I64 0])) := by
  refine amutXW [] [.cell 2 _, .tmp 3] hmo Tryz.func77 (by kernel_rfl) rfl rfl (by kernel_rfl) (Nat.le_of_ble_eq_true rfl) ?_
  simp [rtV, wkPL, wkP]
def decR (t : RT) (l : Int) : RT := if mayR t l = 0 then ⟨t.vars, t.rows ++ [⟨l, w64 (t.dep + 1), -1⟩], w64 (t.dep + 1)⟩ else t
def impER (t : RT) (l rea : Int) : Int := if mayR t l ≠ 0 then mayR t l else if rea < 0 then 2 else 0
def impR (t : RT) (l rea : Int) : RT := if impER t l rea = 0 then ⟨t.vars, t.rows ++ [⟨l, t.dep, rea⟩], t.dep⟩ else t
set_option maxRecDepth 16000 in
theorem rfDecide_ok (h : List (List SV)) (t : RT) (l : Int) (hl : t.rows.length ≤ 1000000) : AMut Tryz.prog 138 [rtV t, I64 l] h (fun r h' => h' = h ∧ r = .pv (.tup [rtV (decR t l), I64 (mayR t l)])) := by
  refine amutXW [5] [.cell 4 _, .tmp 5] hmo Tryz.func138 (by kernel_rfl) rfl rfl (by kernel_rfl) (Nat.le_of_ble_eq_true rfl) ?_
  have hm := rfMay_ok t l hl
  have hD : decR t l = if mayR t l = 0 then ⟨t.vars, t.rows ++ [⟨l, w64 (t.dep + 1), -1⟩], w64 (t.dep + 1)⟩ else t := rfl
  generalize decR t l = D at hD ⊢
  generalize mayR t l = E at hD hm ⊢
  simp only [rtV] at hm
  simp [rtV]
  refine CallK.intro hm (by simp) ?_
  by_cases c : E = 0
  rotate_left
  · rw [if_neg c] at hD
    subst hD
    simp [c, wkPL, wkP]
  rw [if_pos c] at hD
  subst hD
  simp [c, wkPL, wkP, enR]
  refine AAnyD.dag 12 #[false, false, false, false, false, false, false, false, false, false, false, false] (by kernel_rfl) fun C hC => ?_
  have d0 : C 0 #[true, true, true, true, true, true, true, true, true, true, true, true] ⟨[(2, .pv (.ptr h.length 0)), (4, .pv (.ptr (h.length + 1) 0))], h ++ [[.pv (I64 t.vars), .own true 3 (t.rows.map enR ++ [[I64 l, I64 (w64 (t.dep + 1)), I64 (-1)]]), .pv (I64 (w64 (t.dep + 1)))], [.pv (.lit (.int .i64 0)), .pv (.lit (.slice none 0 0)), .pv (.lit (.int .i64 0))]]⟩ := by
    refine hC.done _ _ _ (by kernel_rfl) ?_
    simp [wkPL, wkP]
  have d1 : C 1 #[true, true, true, true, true, true, true, true, true, true, true, false] ⟨[(2, .pv (.ptr h.length 0)), (4, .pv (.ptr (h.length + 1) 0)), (27, .own true 3 (t.rows.map enR ++ [[I64 l, I64 (w64 (t.dep + 1)), I64 (-1)]])), (28, .pv (.ptr h.length 1))], h ++ [[.pv (I64 t.vars), .pv (.seq false 3 (t.rows.map enR)), .pv (I64 (w64 (t.dep + 1)))], [.pv (.lit (.int .i64 0)), .pv (.lit (.slice none 0 0)), .pv (.lit (.int .i64 0))]]⟩ := by
    refine hC.fork [(11, #[true, true, true, true, true, true, true, true, true, true, true, true])] (by kernel_rfl) ⟨?_, trivial⟩
    · simp
      try refine ⟨by omega, ?_⟩
      exact hC.weak d0 (Weak.keep (by simp) (by simp))
  have d2 : C 3 #[true, true, true, true, true, true, true, true, true, false, false, false] ⟨[(2, .pv (.ptr h.length 0)), (4, .pv (.ptr (h.length + 1) 0)), (21, .own true 3 (t.rows.map enR)), (26, .own true 3 [[I64 l, I64 (w64 (t.dep + 1)), I64 (-1)]])], h ++ [[.pv (I64 t.vars), .pv (.seq false 3 (t.rows.map enR)), .pv (I64 (w64 (t.dep + 1)))], [.pv (.lit (.int .i64 0)), .pv (.lit (.slice none 0 0)), .pv (.lit (.int .i64 0))]]⟩ := by
    refine hC.fork [(9, #[true, true, true, true, true, true, true, true, true, true, false, false])] (by kernel_rfl) ⟨?_, trivial⟩
    · simp
      try refine ⟨by omega, ?_⟩
      refine hC.take 10 #[true, true, true, true, true, true, true, true, true, true, true, false] (by kernel_rfl) ?_
      simp
      exact hC.weak d1 (Weak.keep (by simp) (by simp))
  have d3 : C 4 #[true, true, true, true, true, true, true, true, false, false, false, false] ⟨[(2, .pv (.ptr h.length 0)), (4, .pv (.ptr (h.length + 1) 0)), (21, .own true 3 (t.rows.map enR)), (25, .pv (.agg [I64 l, I64 (w64 (t.dep + 1)), I64 (-1)]))], h ++ [[.pv (I64 t.vars), .pv (.seq false 3 (t.rows.map enR)), .pv (I64 (w64 (t.dep + 1)))], [.pv (.lit (.int .i64 0)), .pv (.lit (.slice none 0 0)), .pv (.lit (.int .i64 0))]]⟩ := by
    refine hC.fork [(8, #[true, true, true, true, true, true, true, true, true, false, false, false])] (by kernel_rfl) ⟨?_, trivial⟩
    · simp
      try refine ⟨by omega, ?_⟩
      exact hC.weak d2 (Weak.keep (by simp) (by simp))
  have d4 : C 5 #[true, true, true, true, true, true, true, false, false, false, false, false] ⟨[(2, .pv (.ptr h.length 0)), (4, .pv (.ptr (h.length + 1) 0)), (21, .own true 3 (t.rows.map enR)), (22, .pv (I64 l)), (24, .pv (I64 (w64 (t.dep + 1))))], h ++ [[.pv (I64 t.vars), .pv (.seq false 3 (t.rows.map enR)), .pv (I64 (w64 (t.dep + 1)))], [.pv (.lit (.int .i64 0)), .pv (.lit (.slice none 0 0)), .pv (.lit (.int .i64 0))]]⟩ := by
    refine hC.fork [(7, #[true, true, true, true, true, true, true, true, false, false, false, false])] (by kernel_rfl) ⟨?_, trivial⟩
    · simp
      try refine ⟨by omega, ?_⟩
      exact hC.weak d3 (Weak.keep (by simp) (by simp))
  have d5 : C 6 #[true, true, true, true, true, true, false, false, false, false, false, false] ⟨[(2, .pv (.ptr h.length 0)), (4, .pv (.ptr (h.length + 1) 0)), (21, .own true 3 (t.rows.map enR)), (22, .pv (I64 l)), (23, .pv (.ptr h.length 2))], h ++ [[.pv (I64 t.vars), .pv (.seq false 3 (t.rows.map enR)), .pv (I64 (w64 (t.dep + 1)))], [.pv (.lit (.int .i64 0)), .pv (.lit (.slice none 0 0)), .pv (.lit (.int .i64 0))]]⟩ := by
    refine hC.fork [(6, #[true, true, true, true, true, true, true, false, false, false, false, false])] (by kernel_rfl) ⟨?_, trivial⟩
    · simp
      try refine ⟨by omega, ?_⟩
      exact hC.weak d4 (Weak.keep (by simp) (by simp))
  have d6 : C 4 #[true, true, true, false, true, true, true, true, true, false, false, false] ⟨[(2, .pv (.ptr h.length 0)), (4, .pv (.ptr (h.length + 1) 0)), (18, .own true 3 []), (20, .pv (.seq false 3 (t.rows.map enR))), (26, .own true 3 [[I64 l, I64 (w64 (t.dep + 1)), I64 (-1)]])], h ++ [[.pv (I64 t.vars), .pv (.seq false 3 (t.rows.map enR)), .pv (I64 (w64 (t.dep + 1)))], [.pv (.lit (.int .i64 0)), .pv (.lit (.slice none 0 0)), .pv (.lit (.int .i64 0))]]⟩ := by
    refine hC.fork [(3, #[true, true, true, true, true, true, true, true, true, false, false, false])] (by kernel_rfl) ⟨?_, trivial⟩
    · simp
      try refine ⟨by omega, ?_⟩
      exact hC.weak d2 (Weak.keep (by simp) (by simp))
  have d7 : C 5 #[true, true, true, false, true, true, true, true, false, false, false, false] ⟨[(2, .pv (.ptr h.length 0)), (4, .pv (.ptr (h.length + 1) 0)), (18, .own true 3 []), (20, .pv (.seq false 3 (t.rows.map enR))), (25, .pv (.agg [I64 l, I64 (w64 (t.dep + 1)), I64 (-1)]))], h ++ [[.pv (I64 t.vars), .pv (.seq false 3 (t.rows.map enR)), .pv (I64 (w64 (t.dep + 1)))], [.pv (.lit (.int .i64 0)), .pv (.lit (.slice none 0 0)), .pv (.lit (.int .i64 0))]]⟩ := by
    refine hC.fork [(3, #[true, true, true, true, true, true, true, true, false, false, false, false]), (8, #[true, true, true, false, true, true, true, true, true, false, false, false])] (by kernel_rfl) ⟨?_, ?_, trivial⟩
    · simp
      try refine ⟨by omega, ?_⟩
      exact hC.weak d3 (Weak.keep (by simp) (by simp))
    · simp
      try refine ⟨by omega, ?_⟩
      exact hC.weak d6 (Weak.keep (by simp) (by simp))
  have d8 : C 6 #[true, true, true, false, true, true, true, false, false, false, false, false] ⟨[(2, .pv (.ptr h.length 0)), (4, .pv (.ptr (h.length + 1) 0)), (18, .own true 3 []), (20, .pv (.seq false 3 (t.rows.map enR))), (22, .pv (I64 l)), (24, .pv (I64 (w64 (t.dep + 1))))], h ++ [[.pv (I64 t.vars), .pv (.seq false 3 (t.rows.map enR)), .pv (I64 (w64 (t.dep + 1)))], [.pv (.lit (.int .i64 0)), .pv (.lit (.slice none 0 0)), .pv (.lit (.int .i64 0))]]⟩ := by
    refine hC.fork [(3, #[true, true, true, true, true, true, true, false, false, false, false, false]), (7, #[true, true, true, false, true, true, true, true, false, false, false, false])] (by kernel_rfl) ⟨?_, ?_, trivial⟩
    · simp
      try refine ⟨by omega, ?_⟩
      exact hC.weak d4 (Weak.keep (by simp) (by simp))
    · simp
      try refine ⟨by omega, ?_⟩
      exact hC.weak d7 (Weak.keep (by simp) (by simp))
  have d9 : C 7 #[true, true, true, false, true, true, false, false, false, false, false, false] ⟨[(2, .pv (.ptr h.length 0)), (4, .pv (.ptr (h.length + 1) 0)), (18, .own true 3 []), (20, .pv (.seq false 3 (t.rows.map enR))), (22, .pv (I64 l)), (23, .pv (.ptr h.length 2))], h ++ [[.pv (I64 t.vars), .pv (.seq false 3 (t.rows.map enR)), .pv (I64 (w64 (t.dep + 1)))], [.pv (.lit (.int .i64 0)), .pv (.lit (.slice none 0 0)), .pv (.lit (.int .i64 0))]]⟩ := by
    refine hC.fork [(3, #[true, true, true, true, true, true, false, false, false, false, false, false]), (6, #[true, true, true, false, true, true, true, false, false, false, false, false])] (by kernel_rfl) ⟨?_, ?_, trivial⟩
    · simp
      try refine ⟨by omega, ?_⟩
      exact hC.weak d5 (Weak.keep (by simp) (by simp))
    · simp
      try refine ⟨by omega, ?_⟩
      exact hC.weak d8 (Weak.keep (by simp) (by simp))
  have d10 : C 5 #[true, true, false, false, true, true, true, true, true, false, false, false] ⟨[(2, .pv (.ptr h.length 0)), (4, .pv (.ptr (h.length + 1) 0)), (18, .own true 3 []), (19, .pv (.ptr h.length 1)), (26, .own true 3 [[I64 l, I64 (w64 (t.dep + 1)), I64 (-1)]])], h ++ [[.pv (I64 t.vars), .pv (.seq false 3 (t.rows.map enR)), .pv (I64 (w64 (t.dep + 1)))], [.pv (.lit (.int .i64 0)), .pv (.lit (.slice none 0 0)), .pv (.lit (.int .i64 0))]]⟩ := by
    refine hC.fork [(2, #[true, true, true, false, true, true, true, true, true, false, false, false])] (by kernel_rfl) ⟨?_, trivial⟩
    · simp
      try refine ⟨by omega, ?_⟩
      exact hC.weak d6 (Weak.keep (by simp) (by simp))
  have d11 : C 6 #[true, true, false, false, true, true, true, true, false, false, false, false] ⟨[(2, .pv (.ptr h.length 0)), (4, .pv (.ptr (h.length + 1) 0)), (18, .own true 3 []), (19, .pv (.ptr h.length 1)), (25, .pv (.agg [I64 l, I64 (w64 (t.dep + 1)), I64 (-1)]))], h ++ [[.pv (I64 t.vars), .pv (.seq false 3 (t.rows.map enR)), .pv (I64 (w64 (t.dep + 1)))], [.pv (.lit (.int .i64 0)), .pv (.lit (.slice none 0 0)), .pv (.lit (.int .i64 0))]]⟩ := by
    refine hC.fork [(2, #[true, true, true, false, true, true, true, true, false, false, false, false]), (8, #[true, true, false, false, true, true, true, true, true, false, false, false])] (by kernel_rfl) ⟨?_, ?_, trivial⟩
    · simp
      try refine ⟨by omega, ?_⟩
      exact hC.weak d7 (Weak.keep (by simp) (by simp))
    · simp
      try refine ⟨by omega, ?_⟩
      exact hC.weak d10 (Weak.keep (by simp) (by simp))
  have d12 : C 7 #[true, true, false, false, true, true, true, false, false, false, false, false] ⟨[(2, .pv (.ptr h.length 0)), (4, .pv (.ptr (h.length + 1) 0)), (18, .own true 3 []), (19, .pv (.ptr h.length 1)), (22, .pv (I64 l)), (24, .pv (I64 (w64 (t.dep + 1))))], h ++ [[.pv (I64 t.vars), .pv (.seq false 3 (t.rows.map enR)), .pv (I64 (w64 (t.dep + 1)))], [.pv (.lit (.int .i64 0)), .pv (.lit (.slice none 0 0)), .pv (.lit (.int .i64 0))]]⟩ := by
    refine hC.fork [(2, #[true, true, true, false, true, true, true, false, false, false, false, false]), (7, #[true, true, false, false, true, true, true, true, false, false, false, false])] (by kernel_rfl) ⟨?_, ?_, trivial⟩
    · simp
      try refine ⟨by omega, ?_⟩
      exact hC.weak d8 (Weak.keep (by simp) (by simp))
    · simp
      try refine ⟨by omega, ?_⟩
      exact hC.weak d11 (Weak.keep (by simp) (by simp))
  have d13 : C 8 #[true, true, false, false, true, true, false, false, false, false, false, false] ⟨[(2, .pv (.ptr h.length 0)), (4, .pv (.ptr (h.length + 1) 0)), (18, .own true 3 []), (19, .pv (.ptr h.length 1)), (22, .pv (I64 l)), (23, .pv (.ptr h.length 2))], h ++ [[.pv (I64 t.vars), .pv (.seq false 3 (t.rows.map enR)), .pv (I64 (w64 (t.dep + 1)))], [.pv (.lit (.int .i64 0)), .pv (.lit (.slice none 0 0)), .pv (.lit (.int .i64 0))]]⟩ := by
    refine hC.fork [(2, #[true, true, true, false, true, true, false, false, false, false, false, false]), (6, #[true, true, false, false, true, true, true, false, false, false, false, false])] (by kernel_rfl) ⟨?_, ?_, trivial⟩
    · simp
      try refine ⟨by omega, ?_⟩
      exact hC.weak d9 (Weak.keep (by simp) (by simp))
    · simp
      try refine ⟨by omega, ?_⟩
      exact hC.weak d12 (Weak.keep (by simp) (by simp))
  have d14 : C 5 #[false, true, true, false, true, true, true, true, true, false, false, false] ⟨[(2, .pv (.ptr h.length 0)), (4, .pv (.ptr (h.length + 1) 0)), (20, .pv (.seq false 3 (t.rows.map enR))), (26, .own true 3 [[I64 l, I64 (w64 (t.dep + 1)), I64 (-1)]])], h ++ [[.pv (I64 t.vars), .pv (.seq false 3 (t.rows.map enR)), .pv (I64 (w64 (t.dep + 1)))], [.pv (.lit (.int .i64 0)), .pv (.lit (.slice none 0 0)), .pv (.lit (.int .i64 0))]]⟩ := by
    refine hC.fork [(0, #[true, true, true, false, true, true, true, true, true, false, false, false])] (by kernel_rfl) ⟨?_, trivial⟩
    · simp
      try refine ⟨by omega, ?_⟩
      exact hC.weak d6 (Weak.keep (by simp) (by simp))
  have d15 : C 6 #[false, true, true, false, true, true, true, true, false, false, false, false] ⟨[(2, .pv (.ptr h.length 0)), (4, .pv (.ptr (h.length + 1) 0)), (20, .pv (.seq false 3 (t.rows.map enR))), (25, .pv (.agg [I64 l, I64 (w64 (t.dep + 1)), I64 (-1)]))], h ++ [[.pv (I64 t.vars), .pv (.seq false 3 (t.rows.map enR)), .pv (I64 (w64 (t.dep + 1)))], [.pv (.lit (.int .i64 0)), .pv (.lit (.slice none 0 0)), .pv (.lit (.int .i64 0))]]⟩ := by
    refine hC.fork [(0, #[true, true, true, false, true, true, true, true, false, false, false, false]), (8, #[false, true, true, false, true, true, true, true, true, false, false, false])] (by kernel_rfl) ⟨?_, ?_, trivial⟩
    · simp
      try refine ⟨by omega, ?_⟩
      exact hC.weak d7 (Weak.keep (by simp) (by simp))
    · simp
      try refine ⟨by omega, ?_⟩
      exact hC.weak d14 (Weak.keep (by simp) (by simp))
  have d16 : C 7 #[false, true, true, false, true, true, true, false, false, false, false, false] ⟨[(2, .pv (.ptr h.length 0)), (4, .pv (.ptr (h.length + 1) 0)), (20, .pv (.seq false 3 (t.rows.map enR))), (22, .pv (I64 l)), (24, .pv (I64 (w64 (t.dep + 1))))], h ++ [[.pv (I64 t.vars), .pv (.seq false 3 (t.rows.map enR)), .pv (I64 (w64 (t.dep + 1)))], [.pv (.lit (.int .i64 0)), .pv (.lit (.slice none 0 0)), .pv (.lit (.int .i64 0))]]⟩ := by
    refine hC.fork [(0, #[true, true, true, false, true, true, true, false, false, false, false, false]), (7, #[false, true, true, false, true, true, true, true, false, false, false, false])] (by kernel_rfl) ⟨?_, ?_, trivial⟩
    · simp
      try refine ⟨by omega, ?_⟩
      exact hC.weak d8 (Weak.keep (by simp) (by simp))
    · simp
      try refine ⟨by omega, ?_⟩
      exact hC.weak d15 (Weak.keep (by simp) (by simp))
  have d17 : C 8 #[false, true, true, false, true, true, false, false, false, false, false, false] ⟨[(2, .pv (.ptr h.length 0)), (4, .pv (.ptr (h.length + 1) 0)), (20, .pv (.seq false 3 (t.rows.map enR))), (22, .pv (I64 l)), (23, .pv (.ptr h.length 2))], h ++ [[.pv (I64 t.vars), .pv (.seq false 3 (t.rows.map enR)), .pv (I64 (w64 (t.dep + 1)))], [.pv (.lit (.int .i64 0)), .pv (.lit (.slice none 0 0)), .pv (.lit (.int .i64 0))]]⟩ := by
    refine hC.fork [(0, #[true, true, true, false, true, true, false, false, false, false, false, false]), (6, #[false, true, true, false, true, true, true, false, false, false, false, false])] (by kernel_rfl) ⟨?_, ?_, trivial⟩
    · simp
      try refine ⟨by omega, ?_⟩
      exact hC.weak d9 (Weak.keep (by simp) (by simp))
    · simp
      try refine ⟨by omega, ?_⟩
      exact hC.weak d16 (Weak.keep (by simp) (by simp))
  have d18 : C 6 #[false, true, false, false, true, true, true, true, true, false, false, false] ⟨[(2, .pv (.ptr h.length 0)), (4, .pv (.ptr (h.length + 1) 0)), (19, .pv (.ptr h.length 1)), (26, .own true 3 [[I64 l, I64 (w64 (t.dep + 1)), I64 (-1)]])], h ++ [[.pv (I64 t.vars), .pv (.seq false 3 (t.rows.map enR)), .pv (I64 (w64 (t.dep + 1)))], [.pv (.lit (.int .i64 0)), .pv (.lit (.slice none 0 0)), .pv (.lit (.int .i64 0))]]⟩ := by
    refine hC.fork [(0, #[true, true, false, false, true, true, true, true, true, false, false, false]), (2, #[false, true, true, false, true, true, true, true, true, false, false, false])] (by kernel_rfl) ⟨?_, ?_, trivial⟩
    · simp
      try refine ⟨by omega, ?_⟩
      exact hC.weak d10 (Weak.keep (by simp) (by simp))
    · simp
      try refine ⟨by omega, ?_⟩
      exact hC.weak d14 (Weak.keep (by simp) (by simp))
  have d19 : C 7 #[false, true, false, false, true, true, true, true, false, false, false, false] ⟨[(2, .pv (.ptr h.length 0)), (4, .pv (.ptr (h.length + 1) 0)), (19, .pv (.ptr h.length 1)), (25, .pv (.agg [I64 l, I64 (w64 (t.dep + 1)), I64 (-1)]))], h ++ [[.pv (I64 t.vars), .pv (.seq false 3 (t.rows.map enR)), .pv (I64 (w64 (t.dep + 1)))], [.pv (.lit (.int .i64 0)), .pv (.lit (.slice none 0 0)), .pv (.lit (.int .i64 0))]]⟩ := by
    refine hC.fork [(0, #[true, true, false, false, true, true, true, true, false, false, false, false]), (2, #[false, true, true, false, true, true, true, true, false, false, false, false]), (8, #[false, true, false, false, true, true, true, true, true, false, false, false])] (by kernel_rfl) ⟨?_, ?_, ?_, trivial⟩
    · simp
      try refine ⟨by omega, ?_⟩
      exact hC.weak d11 (Weak.keep (by simp) (by simp))
    · simp
      try refine ⟨by omega, ?_⟩
      exact hC.weak d15 (Weak.keep (by simp) (by simp))
    · simp
      try refine ⟨by omega, ?_⟩
      exact hC.weak d18 (Weak.keep (by simp) (by simp))
  have d20 : C 8 #[false, true, false, false, true, true, true, false, false, false, false, false] ⟨[(2, .pv (.ptr h.length 0)), (4, .pv (.ptr (h.length + 1) 0)), (19, .pv (.ptr h.length 1)), (22, .pv (I64 l)), (24, .pv (I64 (w64 (t.dep + 1))))], h ++ [[.pv (I64 t.vars), .pv (.seq false 3 (t.rows.map enR)), .pv (I64 (w64 (t.dep + 1)))], [.pv (.lit (.int .i64 0)), .pv (.lit (.slice none 0 0)), .pv (.lit (.int .i64 0))]]⟩ := by
    refine hC.fork [(0, #[true, true, false, false, true, true, true, false, false, false, false, false]), (2, #[false, true, true, false, true, true, true, false, false, false, false, false]), (7, #[false, true, false, false, true, true, true, true, false, false, false, false])] (by kernel_rfl) ⟨?_, ?_, ?_, trivial⟩
    · simp
      try refine ⟨by omega, ?_⟩
      exact hC.weak d12 (Weak.keep (by simp) (by simp))
    · simp
      try refine ⟨by omega, ?_⟩
      exact hC.weak d16 (Weak.keep (by simp) (by simp))
    · simp
      try refine ⟨by omega, ?_⟩
      exact hC.weak d19 (Weak.keep (by simp) (by simp))
  have d21 : C 9 #[false, true, false, false, true, true, false, false, false, false, false, false] ⟨[(2, .pv (.ptr h.length 0)), (4, .pv (.ptr (h.length + 1) 0)), (19, .pv (.ptr h.length 1)), (22, .pv (I64 l)), (23, .pv (.ptr h.length 2))], h ++ [[.pv (I64 t.vars), .pv (.seq false 3 (t.rows.map enR)), .pv (I64 (w64 (t.dep + 1)))], [.pv (.lit (.int .i64 0)), .pv (.lit (.slice none 0 0)), .pv (.lit (.int .i64 0))]]⟩ := by
    refine hC.fork [(0, #[true, true, false, false, true, true, false, false, false, false, false, false]), (2, #[false, true, true, false, true, true, false, false, false, false, false, false]), (6, #[false, true, false, false, true, true, true, false, false, false, false, false])] (by kernel_rfl) ⟨?_, ?_, ?_, trivial⟩
    · simp
      try refine ⟨by omega, ?_⟩
      exact hC.weak d13 (Weak.keep (by simp) (by simp))
    · simp
      try refine ⟨by omega, ?_⟩
      exact hC.weak d17 (Weak.keep (by simp) (by simp))
    · simp
      try refine ⟨by omega, ?_⟩
      exact hC.weak d20 (Weak.keep (by simp) (by simp))
  refine hC.take 1 #[false, true, false, false, false, false, false, false, false, false, false, false] (by kernel_rfl) ?_
  simp
  refine hC.take 4 #[false, true, false, false, true, false, false, false, false, false, false, false] (by kernel_rfl) ?_
  simp
  refine hC.take 5 #[false, true, false, false, true, true, false, false, false, false, false, false] (by kernel_rfl) ?_
  simp
  exact hC.weak d21 (Weak.keep (by simp) (by simp))
set_option maxRecDepth 16000 in
theorem rfImply_ok (h : List (List SV)) (t : RT) (l rea : Int) (hl : t.rows.length ≤ 1000000) : AMut Tryz.prog 140 [rtV t, I64 l, I64 rea] h (fun r h' => h' = h ∧ r = .pv (.tup [rtV (impR t l rea), I64 (impER t l rea)])) := by
  refine amutXW [6] [.cell 6 _, .tmp 7] hmo Tryz.func140 (by kernel_rfl) rfl rfl (by kernel_rfl) (Nat.le_of_ble_eq_true rfl) ?_
  have hm := rfMay_ok t l hl
  have hE : impER t l rea = if mayR t l ≠ 0 then mayR t l else if rea < 0 then 2 else 0 := rfl
  have hD : impR t l rea = if impER t l rea = 0 then ⟨t.vars, t.rows ++ [⟨l, t.dep, rea⟩], t.dep⟩ else t := rfl
  generalize impR t l rea = D at hD ⊢
  generalize impER t l rea = F at hD hE ⊢
  generalize mayR t l = E at hE hm
  simp only [rtV] at hm
  simp [rtV]
  refine CallK.intro hm (by simp) ?_
  by_cases c : E = 0
  rotate_left
  · rw [if_pos c] at hE
    subst hE
    rw [if_neg c] at hD
    subst hD
    simp [c, wkPL, wkP]
  rw [if_neg (by simpa using c)] at hE
  by_cases c2 : rea < 0
  · rw [if_pos c2] at hE
    subst hE
    rw [if_neg (by omega)] at hD
    subst hD
    simp [c, c2, wkPL, wkP]
  · rw [if_neg c2] at hE
    subst hE
    rw [if_pos rfl] at hD
    subst hD
    simp [c, c2, wkPL, wkP, enR]
    refine AAnyD.dag 13 #[false, false, false, false, false, false, false, false, false, false, false, false, false] (by kernel_rfl) fun C hC => ?_
    have d0 : C 0 #[true, true, true, true, true, true, true, true, true, true, true, true, true] ⟨[(3, .pv (.ptr h.length 0)), (6, .pv (.ptr (h.length + 1) 0))], h ++ [[.pv (I64 t.vars), .own true 3 (t.rows.map enR ++ [[I64 l, I64 t.dep, I64 rea]]), .pv (I64 t.dep)], [.pv (.lit (.int .i64 0)), .pv (.lit (.slice none 0 0)), .pv (.lit (.int .i64 0))]]⟩ := by
      refine hC.done _ _ _ (by kernel_rfl) ?_
      simp [wkPL, wkP]
    have d1 : C 1 #[true, true, true, true, true, true, true, true, true, true, true, true, false] ⟨[(3, .pv (.ptr h.length 0)), (6, .pv (.ptr (h.length + 1) 0)), (32, .own true 3 (t.rows.map enR ++ [[I64 l, I64 t.dep, I64 rea]])), (33, .pv (.ptr h.length 1))], h ++ [[.pv (I64 t.vars), .pv (.seq false 3 (t.rows.map enR)), .pv (I64 t.dep)], [.pv (.lit (.int .i64 0)), .pv (.lit (.slice none 0 0)), .pv (.lit (.int .i64 0))]]⟩ := by
      refine hC.fork [(12, #[true, true, true, true, true, true, true, true, true, true, true, true, true])] (by kernel_rfl) ⟨?_, trivial⟩
      · simp
        try refine ⟨by omega, ?_⟩
        exact hC.weak d0 (Weak.keep (by simp) (by simp))
    have d2 : C 3 #[true, true, true, true, true, true, true, true, true, true, false, false, false] ⟨[(3, .pv (.ptr h.length 0)), (6, .pv (.ptr (h.length + 1) 0)), (25, .own true 3 (t.rows.map enR)), (31, .own true 3 [[I64 l, I64 t.dep, I64 rea]])], h ++ [[.pv (I64 t.vars), .pv (.seq false 3 (t.rows.map enR)), .pv (I64 t.dep)], [.pv (.lit (.int .i64 0)), .pv (.lit (.slice none 0 0)), .pv (.lit (.int .i64 0))]]⟩ := by
      refine hC.fork [(10, #[true, true, true, true, true, true, true, true, true, true, true, false, false])] (by kernel_rfl) ⟨?_, trivial⟩
      · simp
        try refine ⟨by omega, ?_⟩
        refine hC.take 11 #[true, true, true, true, true, true, true, true, true, true, true, true, false] (by kernel_rfl) ?_
        simp
        exact hC.weak d1 (Weak.keep (by simp) (by simp))
    have d3 : C 4 #[true, true, true, true, true, true, true, true, true, false, false, false, false] ⟨[(3, .pv (.ptr h.length 0)), (6, .pv (.ptr (h.length + 1) 0)), (25, .own true 3 (t.rows.map enR)), (30, .pv (.agg [I64 l, I64 t.dep, I64 rea]))], h ++ [[.pv (I64 t.vars), .pv (.seq false 3 (t.rows.map enR)), .pv (I64 t.dep)], [.pv (.lit (.int .i64 0)), .pv (.lit (.slice none 0 0)), .pv (.lit (.int .i64 0))]]⟩ := by
      refine hC.fork [(9, #[true, true, true, true, true, true, true, true, true, true, false, false, false])] (by kernel_rfl) ⟨?_, trivial⟩
      · simp
        try refine ⟨by omega, ?_⟩
        exact hC.weak d2 (Weak.keep (by simp) (by simp))
    have d4 : C 5 #[true, true, true, true, true, true, true, true, false, false, false, false, false] ⟨[(3, .pv (.ptr h.length 0)), (6, .pv (.ptr (h.length + 1) 0)), (25, .own true 3 (t.rows.map enR)), (26, .pv (I64 l)), (28, .pv (I64 t.dep)), (29, .pv (I64 rea))], h ++ [[.pv (I64 t.vars), .pv (.seq false 3 (t.rows.map enR)), .pv (I64 t.dep)], [.pv (.lit (.int .i64 0)), .pv (.lit (.slice none 0 0)), .pv (.lit (.int .i64 0))]]⟩ := by
      refine hC.fork [(8, #[true, true, true, true, true, true, true, true, true, false, false, false, false])] (by kernel_rfl) ⟨?_, trivial⟩
      · simp
        try refine ⟨by omega, ?_⟩
        exact hC.weak d3 (Weak.keep (by simp) (by simp))
    have d5 : C 6 #[true, true, true, true, true, true, false, true, false, false, false, false, false] ⟨[(3, .pv (.ptr h.length 0)), (6, .pv (.ptr (h.length + 1) 0)), (25, .own true 3 (t.rows.map enR)), (26, .pv (I64 l)), (27, .pv (.ptr h.length 2)), (29, .pv (I64 rea))], h ++ [[.pv (I64 t.vars), .pv (.seq false 3 (t.rows.map enR)), .pv (I64 t.dep)], [.pv (.lit (.int .i64 0)), .pv (.lit (.slice none 0 0)), .pv (.lit (.int .i64 0))]]⟩ := by
      refine hC.fork [(6, #[true, true, true, true, true, true, true, true, false, false, false, false, false])] (by kernel_rfl) ⟨?_, trivial⟩
      · simp
        try refine ⟨by omega, ?_⟩
        exact hC.weak d4 (Weak.keep (by simp) (by simp))
    have d6 : C 4 #[true, true, true, false, true, true, true, true, true, true, false, false, false] ⟨[(3, .pv (.ptr h.length 0)), (6, .pv (.ptr (h.length + 1) 0)), (22, .own true 3 []), (24, .pv (.seq false 3 (t.rows.map enR))), (31, .own true 3 [[I64 l, I64 t.dep, I64 rea]])], h ++ [[.pv (I64 t.vars), .pv (.seq false 3 (t.rows.map enR)), .pv (I64 t.dep)], [.pv (.lit (.int .i64 0)), .pv (.lit (.slice none 0 0)), .pv (.lit (.int .i64 0))]]⟩ := by
      refine hC.fork [(3, #[true, true, true, true, true, true, true, true, true, true, false, false, false])] (by kernel_rfl) ⟨?_, trivial⟩
      · simp
        try refine ⟨by omega, ?_⟩
        exact hC.weak d2 (Weak.keep (by simp) (by simp))
    have d7 : C 5 #[true, true, true, false, true, true, true, true, true, false, false, false, false] ⟨[(3, .pv (.ptr h.length 0)), (6, .pv (.ptr (h.length + 1) 0)), (22, .own true 3 []), (24, .pv (.seq false 3 (t.rows.map enR))), (30, .pv (.agg [I64 l, I64 t.dep, I64 rea]))], h ++ [[.pv (I64 t.vars), .pv (.seq false 3 (t.rows.map enR)), .pv (I64 t.dep)], [.pv (.lit (.int .i64 0)), .pv (.lit (.slice none 0 0)), .pv (.lit (.int .i64 0))]]⟩ := by
      refine hC.fork [(3, #[true, true, true, true, true, true, true, true, true, false, false, false, false]), (9, #[true, true, true, false, true, true, true, true, true, true, false, false, false])] (by kernel_rfl) ⟨?_, ?_, trivial⟩
      · simp
        try refine ⟨by omega, ?_⟩
        exact hC.weak d3 (Weak.keep (by simp) (by simp))
      · simp
        try refine ⟨by omega, ?_⟩
        exact hC.weak d6 (Weak.keep (by simp) (by simp))
    have d8 : C 6 #[true, true, true, false, true, true, true, true, false, false, false, false, false] ⟨[(3, .pv (.ptr h.length 0)), (6, .pv (.ptr (h.length + 1) 0)), (22, .own true 3 []), (24, .pv (.seq false 3 (t.rows.map enR))), (26, .pv (I64 l)), (28, .pv (I64 t.dep)), (29, .pv (I64 rea))], h ++ [[.pv (I64 t.vars), .pv (.seq false 3 (t.rows.map enR)), .pv (I64 t.dep)], [.pv (.lit (.int .i64 0)), .pv (.lit (.slice none 0 0)), .pv (.lit (.int .i64 0))]]⟩ := by
      refine hC.fork [(3, #[true, true, true, true, true, true, true, true, false, false, false, false, false]), (8, #[true, true, true, false, true, true, true, true, true, false, false, false, false])] (by kernel_rfl) ⟨?_, ?_, trivial⟩
      · simp
        try refine ⟨by omega, ?_⟩
        exact hC.weak d4 (Weak.keep (by simp) (by simp))
      · simp
        try refine ⟨by omega, ?_⟩
        exact hC.weak d7 (Weak.keep (by simp) (by simp))
    have d9 : C 7 #[true, true, true, false, true, true, false, true, false, false, false, false, false] ⟨[(3, .pv (.ptr h.length 0)), (6, .pv (.ptr (h.length + 1) 0)), (22, .own true 3 []), (24, .pv (.seq false 3 (t.rows.map enR))), (26, .pv (I64 l)), (27, .pv (.ptr h.length 2)), (29, .pv (I64 rea))], h ++ [[.pv (I64 t.vars), .pv (.seq false 3 (t.rows.map enR)), .pv (I64 t.dep)], [.pv (.lit (.int .i64 0)), .pv (.lit (.slice none 0 0)), .pv (.lit (.int .i64 0))]]⟩ := by
      refine hC.fork [(3, #[true, true, true, true, true, true, false, true, false, false, false, false, false]), (6, #[true, true, true, false, true, true, true, true, false, false, false, false, false])] (by kernel_rfl) ⟨?_, ?_, trivial⟩
      · simp
        try refine ⟨by omega, ?_⟩
        exact hC.weak d5 (Weak.keep (by simp) (by simp))
      · simp
        try refine ⟨by omega, ?_⟩
        exact hC.weak d8 (Weak.keep (by simp) (by simp))
    have d10 : C 5 #[true, true, false, false, true, true, true, true, true, true, false, false, false] ⟨[(3, .pv (.ptr h.length 0)), (6, .pv (.ptr (h.length + 1) 0)), (22, .own true 3 []), (23, .pv (.ptr h.length 1)), (31, .own true 3 [[I64 l, I64 t.dep, I64 rea]])], h ++ [[.pv (I64 t.vars), .pv (.seq false 3 (t.rows.map enR)), .pv (I64 t.dep)], [.pv (.lit (.int .i64 0)), .pv (.lit (.slice none 0 0)), .pv (.lit (.int .i64 0))]]⟩ := by
      refine hC.fork [(2, #[true, true, true, false, true, true, true, true, true, true, false, false, false])] (by kernel_rfl) ⟨?_, trivial⟩
      · simp
        try refine ⟨by omega, ?_⟩
        exact hC.weak d6 (Weak.keep (by simp) (by simp))
    have d11 : C 6 #[true, true, false, false, true, true, true, true, true, false, false, false, false] ⟨[(3, .pv (.ptr h.length 0)), (6, .pv (.ptr (h.length + 1) 0)), (22, .own true 3 []), (23, .pv (.ptr h.length 1)), (30, .pv (.agg [I64 l, I64 t.dep, I64 rea]))], h ++ [[.pv (I64 t.vars), .pv (.seq false 3 (t.rows.map enR)), .pv (I64 t.dep)], [.pv (.lit (.int .i64 0)), .pv (.lit (.slice none 0 0)), .pv (.lit (.int .i64 0))]]⟩ := by
      refine hC.fork [(2, #[true, true, true, false, true, true, true, true, true, false, false, false, false]), (9, #[true, true, false, false, true, true, true, true, true, true, false, false, false])] (by kernel_rfl) ⟨?_, ?_, trivial⟩
      · simp
        try refine ⟨by omega, ?_⟩
        exact hC.weak d7 (Weak.keep (by simp) (by simp))
      · simp
        try refine ⟨by omega, ?_⟩
        exact hC.weak d10 (Weak.keep (by simp) (by simp))
    have d12 : C 7 #[true, true, false, false, true, true, true, true, false, false, false, false, false] ⟨[(3, .pv (.ptr h.length 0)), (6, .pv (.ptr (h.length + 1) 0)), (22, .own true 3 []), (23, .pv (.ptr h.length 1)), (26, .pv (I64 l)), (28, .pv (I64 t.dep)), (29, .pv (I64 rea))], h ++ [[.pv (I64 t.vars), .pv (.seq false 3 (t.rows.map enR)), .pv (I64 t.dep)], [.pv (.lit (.int .i64 0)), .pv (.lit (.slice none 0 0)), .pv (.lit (.int .i64 0))]]⟩ := by
      refine hC.fork [(2, #[true, true, true, false, true, true, true, true, false, false, false, false, false]), (8, #[true, true, false, false, true, true, true, true, true, false, false, false, false])] (by kernel_rfl) ⟨?_, ?_, trivial⟩
      · simp
        try refine ⟨by omega, ?_⟩
        exact hC.weak d8 (Weak.keep (by simp) (by simp))
      · simp
        try refine ⟨by omega, ?_⟩
        exact hC.weak d11 (Weak.keep (by simp) (by simp))
    have d13 : C 8 #[true, true, false, false, true, true, false, true, false, false, false, false, false] ⟨[(3, .pv (.ptr h.length 0)), (6, .pv (.ptr (h.length + 1) 0)), (22, .own true 3 []), (23, .pv (.ptr h.length 1)), (26, .pv (I64 l)), (27, .pv (.ptr h.length 2)), (29, .pv (I64 rea))], h ++ [[.pv (I64 t.vars), .pv (.seq false 3 (t.rows.map enR)), .pv (I64 t.dep)], [.pv (.lit (.int .i64 0)), .pv (.lit (.slice none 0 0)), .pv (.lit (.int .i64 0))]]⟩ := by
      refine hC.fork [(2, #[true, true, true, false, true, true, false, true, false, false, false, false, false]), (6, #[true, true, false, false, true, true, true, true, false, false, false, false, false])] (by kernel_rfl) ⟨?_, ?_, trivial⟩
      · simp
        try refine ⟨by omega, ?_⟩
        exact hC.weak d9 (Weak.keep (by simp) (by simp))
      · simp
        try refine ⟨by omega, ?_⟩
        exact hC.weak d12 (Weak.keep (by simp) (by simp))
    have d14 : C 5 #[false, true, true, false, true, true, true, true, true, true, false, false, false] ⟨[(3, .pv (.ptr h.length 0)), (6, .pv (.ptr (h.length + 1) 0)), (24, .pv (.seq false 3 (t.rows.map enR))), (31, .own true 3 [[I64 l, I64 t.dep, I64 rea]])], h ++ [[.pv (I64 t.vars), .pv (.seq false 3 (t.rows.map enR)), .pv (I64 t.dep)], [.pv (.lit (.int .i64 0)), .pv (.lit (.slice none 0 0)), .pv (.lit (.int .i64 0))]]⟩ := by
      refine hC.fork [(0, #[true, true, true, false, true, true, true, true, true, true, false, false, false])] (by kernel_rfl) ⟨?_, trivial⟩
      · simp
        try refine ⟨by omega, ?_⟩
        exact hC.weak d6 (Weak.keep (by simp) (by simp))
    have d15 : C 6 #[false, true, true, false, true, true, true, true, true, false, false, false, false] ⟨[(3, .pv (.ptr h.length 0)), (6, .pv (.ptr (h.length + 1) 0)), (24, .pv (.seq false 3 (t.rows.map enR))), (30, .pv (.agg [I64 l, I64 t.dep, I64 rea]))], h ++ [[.pv (I64 t.vars), .pv (.seq false 3 (t.rows.map enR)), .pv (I64 t.dep)], [.pv (.lit (.int .i64 0)), .pv (.lit (.slice none 0 0)), .pv (.lit (.int .i64 0))]]⟩ := by
      refine hC.fork [(0, #[true, true, true, false, true, true, true, true, true, false, false, false, false]), (9, #[false, true, true, false, true, true, true, true, true, true, false, false, false])] (by kernel_rfl) ⟨?_, ?_, trivial⟩
      · simp
        try refine ⟨by omega, ?_⟩
        exact hC.weak d7 (Weak.keep (by simp) (by simp))
      · simp
        try refine ⟨by omega, ?_⟩
        exact hC.weak d14 (Weak.keep (by simp) (by simp))
    have d16 : C 7 #[false, true, true, false, true, true, true, true, false, false, false, false, false] ⟨[(3, .pv (.ptr h.length 0)), (6, .pv (.ptr (h.length + 1) 0)), (24, .pv (.seq false 3 (t.rows.map enR))), (26, .pv (I64 l)), (28, .pv (I64 t.dep)), (29, .pv (I64 rea))], h ++ [[.pv (I64 t.vars), .pv (.seq false 3 (t.rows.map enR)), .pv (I64 t.dep)], [.pv (.lit (.int .i64 0)), .pv (.lit (.slice none 0 0)), .pv (.lit (.int .i64 0))]]⟩ := by
      refine hC.fork [(0, #[true, true, true, false, true, true, true, true, false, false, false, false, false]), (8, #[false, true, true, false, true, true, true, true, true, false, false, false, false])] (by kernel_rfl) ⟨?_, ?_, trivial⟩
      · simp
        try refine ⟨by omega, ?_⟩
        exact hC.weak d8 (Weak.keep (by simp) (by simp))
      · simp
        try refine ⟨by omega, ?_⟩
        exact hC.weak d15 (Weak.keep (by simp) (by simp))
    have d17 : C 8 #[false, true, true, false, true, true, false, true, false, false, false, false, false] ⟨[(3, .pv (.ptr h.length 0)), (6, .pv (.ptr (h.length + 1) 0)), (24, .pv (.seq false 3 (t.rows.map enR))), (26, .pv (I64 l)), (27, .pv (.ptr h.length 2)), (29, .pv (I64 rea))], h ++ [[.pv (I64 t.vars), .pv (.seq false 3 (t.rows.map enR)), .pv (I64 t.dep)], [.pv (.lit (.int .i64 0)), .pv (.lit (.slice none 0 0)), .pv (.lit (.int .i64 0))]]⟩ := by
      refine hC.fork [(0, #[true, true, true, false, true, true, false, true, false, false, false, false, false]), (6, #[false, true, true, false, true, true, true, true, false, false, false, false, false])] (by kernel_rfl) ⟨?_, ?_, trivial⟩
      · simp
        try refine ⟨by omega, ?_⟩
        exact hC.weak d9 (Weak.keep (by simp) (by simp))
      · simp
        try refine ⟨by omega, ?_⟩
        exact hC.weak d16 (Weak.keep (by simp) (by simp))
    have d18 : C 6 #[false, true, false, false, true, true, true, true, true, true, false, false, false] ⟨[(3, .pv (.ptr h.length 0)), (6, .pv (.ptr (h.length + 1) 0)), (23, .pv (.ptr h.length 1)), (31, .own true 3 [[I64 l, I64 t.dep, I64 rea]])], h ++ [[.pv (I64 t.vars), .pv (.seq false 3 (t.rows.map enR)), .pv (I64 t.dep)], [.pv (.lit (.int .i64 0)), .pv (.lit (.slice none 0 0)), .pv (.lit (.int .i64 0))]]⟩ := by
      refine hC.fork [(0, #[true, true, false, false, true, true, true, true, true, true, false, false, false]), (2, #[false, true, true, false, true, true, true, true, true, true, false, false, false])] (by kernel_rfl) ⟨?_, ?_, trivial⟩
      · simp
        try refine ⟨by omega, ?_⟩
        exact hC.weak d10 (Weak.keep (by simp) (by simp))
      · simp
        try refine ⟨by omega, ?_⟩
        exact hC.weak d14 (Weak.keep (by simp) (by simp))
    have d19 : C 7 #[false, true, false, false, true, true, true, true, true, false, false, false, false] ⟨[(3, .pv (.ptr h.length 0)), (6, .pv (.ptr (h.length + 1) 0)), (23, .pv (.ptr h.length 1)), (30, .pv (.agg [I64 l, I64 t.dep, I64 rea]))], h ++ [[.pv (I64 t.vars), .pv (.seq false 3 (t.rows.map enR)), .pv (I64 t.dep)], [.pv (.lit (.int .i64 0)), .pv (.lit (.slice none 0 0)), .pv (.lit (.int .i64 0))]]⟩ := by
      refine hC.fork [(0, #[true, true, false, false, true, true, true, true, true, false, false, false, false]), (2, #[false, true, true, false, true, true, true, true, true, false, false, false, false]), (9, #[false, true, false, false, true, true, true, true, true, true, false, false, false])] (by kernel_rfl) ⟨?_, ?_, ?_, trivial⟩
      · simp
        try refine ⟨by omega, ?_⟩
        exact hC.weak d11 (Weak.keep (by simp) (by simp))
      · simp
        try refine ⟨by omega, ?_⟩
        exact hC.weak d15 (Weak.keep (by simp) (by simp))
      · simp
        try refine ⟨by omega, ?_⟩
        exact hC.weak d18 (Weak.keep (by simp) (by simp))
    have d20 : C 8 #[false, true, false, false, true, true, true, true, false, false, false, false, false] ⟨[(3, .pv (.ptr h.length 0)), (6, .pv (.ptr (h.length + 1) 0)), (23, .pv (.ptr h.length 1)), (26, .pv (I64 l)), (28, .pv (I64 t.dep)), (29, .pv (I64 rea))], h ++ [[.pv (I64 t.vars), .pv (.seq false 3 (t.rows.map enR)), .pv (I64 t.dep)], [.pv (.lit (.int .i64 0)), .pv (.lit (.slice none 0 0)), .pv (.lit (.int .i64 0))]]⟩ := by
      refine hC.fork [(0, #[true, true, false, false, true, true, true, true, false, false, false, false, false]), (2, #[false, true, true, false, true, true, true, true, false, false, false, false, false]), (8, #[false, true, false, false, true, true, true, true, true, false, false, false, false])] (by kernel_rfl) ⟨?_, ?_, ?_, trivial⟩
      · simp
        try refine ⟨by omega, ?_⟩
        exact hC.weak d12 (Weak.keep (by simp) (by simp))
      · simp
        try refine ⟨by omega, ?_⟩
        exact hC.weak d16 (Weak.keep (by simp) (by simp))
      · simp
        try refine ⟨by omega, ?_⟩
        exact hC.weak d19 (Weak.keep (by simp) (by simp))
    have d21 : C 9 #[false, true, false, false, true, true, false, true, false, false, false, false, false] ⟨[(3, .pv (.ptr h.length 0)), (6, .pv (.ptr (h.length + 1) 0)), (23, .pv (.ptr h.length 1)), (26, .pv (I64 l)), (27, .pv (.ptr h.length 2)), (29, .pv (I64 rea))], h ++ [[.pv (I64 t.vars), .pv (.seq false 3 (t.rows.map enR)), .pv (I64 t.dep)], [.pv (.lit (.int .i64 0)), .pv (.lit (.slice none 0 0)), .pv (.lit (.int .i64 0))]]⟩ := by
      refine hC.fork [(0, #[true, true, false, false, true, true, false, true, false, false, false, false, false]), (2, #[false, true, true, false, true, true, false, true, false, false, false, false, false]), (6, #[false, true, false, false, true, true, true, true, false, false, false, false, false])] (by kernel_rfl) ⟨?_, ?_, ?_, trivial⟩
      · simp
        try refine ⟨by omega, ?_⟩
        exact hC.weak d13 (Weak.keep (by simp) (by simp))
      · simp
        try refine ⟨by omega, ?_⟩
        exact hC.weak d17 (Weak.keep (by simp) (by simp))
      · simp
        try refine ⟨by omega, ?_⟩
        exact hC.weak d20 (Weak.keep (by simp) (by simp))
    refine hC.take 1 #[false, true, false, false, false, false, false, false, false, false, false, false, false] (by kernel_rfl) ?_
    simp
    refine hC.take 4 #[false, true, false, false, true, false, false, false, false, false, false, false, false] (by kernel_rfl) ?_
    simp
    refine hC.take 5 #[false, true, false, false, true, true, false, false, false, false, false, false, false] (by kernel_rfl) ?_
    simp
    refine hC.take 7 #[false, true, false, false, true, true, false, true, false, false, false, false, false] (by kernel_rfl) ?_
    simp
    exact hC.weak d21 (Weak.keep (by simp) (by simp))

end Go.AX

namespace Go.AX
open Go.Proofs
set_option linter.unusedSimpArgs false

structure RelT (T : Tr) (t : RT) : Prop where
  len : T.marks.length = 7
  vars : t.vars = 6
  lits : T.lits = t.rows.map (·.l)
  dep : t.dep = (T.beg.length : Int)
  ok : ∀ x ∈ t.rows, litChk x.l 6 = 0 ∧ 0 ≤ x.lev ∧ x.lev ≤ t.dep
  free : ∀ v : Int, plR t v < 0 → (mkAt T v).v = 0
  mark : ∀ (v : Int) (i : Nat) (hi : i < t.rows.length), plR t v = (i : Int) → mkAt T v = ⟨if t.rows[i].l < 0 then -1 else 1, t.rows[i].lev, t.rows[i].rea, i⟩
  cnt : T.marks.countP (fun m => decide (m.v ≠ 0)) = t.rows.length

theorem RelT.few {T : Tr} {t : RT} (h : RelT T t) : t.rows.length ≤ 7 := by
  have := List.countP_le_length (p := fun m : Mk => decide (m.v ≠ 0)) (l := T.marks)
  rw [h.cnt, h.len] at this
  exact this
theorem RelT.okT {T : Tr} {t : RT} (h : RelT T t) : T.ok := ⟨by rw [h.len]; omega, by rw [h.len]; omega⟩
theorem relT_may {T : Tr} {t : RT} (h : RelT T t) (l : Int) : mayT T l = mayR t l := by
  unfold mayT mayR
  have e : ((T.marks.length : Nat) : Int) - 1 = 6 := by rw [h.len]; rfl
  rw [e, h.vars]
  by_cases c : litChk l 6 = 0
  · have c' : ¬ (litChk l 6 ≠ 0) := by simp [c]
    rw [if_neg c', if_neg c']
    by_cases d : 0 ≤ plR t (litV l)
    · obtain ⟨i, hi, e1, _⟩ := plR_in d
      have hm := h.mark _ i hi e1
      rw [if_pos d, if_pos]
      rw [hm]
      simp only
      split <;> omega
    · rw [if_neg d, if_neg]
      rw [h.free _ (by omega)]; simp
  · rw [if_pos c, if_pos c]
theorem litV_ok6 {l : Int} (h : litChk l 6 = 0) : 1 ≤ litV l ∧ litV l ≤ 6 ∧ l ≠ 0 ∧ -6 ≤ l ∧ l ≤ 6 ∧ litV l = absS l := by
  obtain ⟨a, b, _, d⟩ := litV_in (by omega) h
  obtain ⟨e, f, g⟩ := (litChk_zero (by omega)).1 h
  exact ⟨a, b, e, f, g, d⟩
theorem plR_app (t : RT) (x : En) (dep v : Int) : plR ⟨t.vars, t.rows ++ [x], dep⟩ v = if 0 ≤ plR t v then plR t v else if litV x.l = v then (t.rows.length : Int) else -1 := by
  unfold plR idxS
  simp only [List.findIdx?_append]
  cases h : t.rows.findIdx? (fun x => decide (litV x.l = v)) with
  | some i => simp
  | none =>
    by_cases c : litV x.l = v
    · simp [c]
    · simp [c]
theorem relT_new : RelT ⟨List.replicate 7 default, [], []⟩ ⟨6, [], 0⟩ where
  len := rfl
  vars := rfl
  lits := rfl
  dep := rfl
  ok := by simp
  free := fun v _ => by
    unfold mkAt
    rw [List.getD_eq_getElem?_getD]
    simp only [List.getElem?_replicate]
    split <;> rfl
  mark := fun v i hi => by simp at hi
  cnt := by decide
theorem relT_put {T : Tr} {t : RT} (h : RelT T t) {l : Int} (hm : mayR t l = 0) (rea : Int) : RelT (putT T l rea) ⟨t.vars, t.rows ++ [⟨l, t.dep, rea⟩], t.dep⟩ := by
  have hm' : litChk l t.vars = 0 ∧ plR t (litV l) < 0 := by
    unfold mayR at hm
    split at hm
    · cases hm
    · rename_i c1
      split at hm
      · cases hm
      · exact ⟨by simpa using c1, by omega⟩
  rw [h.vars] at hm'
  obtain ⟨m1, m2⟩ := hm'
  obtain ⟨v1, v2, l0, l1, l2, _⟩ := litV_ok6 m1
  have hlen := h.len
  have hlt : (litV l).toNat < T.marks.length := by omega
  have hd : 0 ≤ t.dep := by rw [h.dep]; omega
  have hmk : ∀ v : Int, mkAt (putT T l rea) v = if v.toNat = (litV l).toNat then ⟨if l < 0 then -1 else 1, T.beg.length, rea, T.lits.length⟩ else mkAt T v := fun v => by
    unfold mkAt putT
    simp only [List.getD_eq_getElem?_getD, List.getElem?_set]
    by_cases c : (litV l).toNat = v.toNat
    · rw [if_pos c, if_pos c.symm, if_pos (by omega)]; rfl
    · rw [if_neg c, if_neg (fun e => c e.symm)]
  have h0 : (mkAt T (litV l)).v = 0 := h.free _ m2
  refine ⟨by simp [putT, hlen], h.vars, by simp [putT, h.lits], by simp [putT, h.dep], ?_, ?_, ?_, ?_⟩
  · intro x hx
    rcases List.mem_append.1 hx with hx | hx
    · exact h.ok x hx
    · simp at hx; subst hx
      exact ⟨m1, hd, Int.le_refl _⟩
  · intro v hv
    rw [plR_app] at hv
    rw [hmk]
    split at hv
    · omega
    · rename_i c1
      split at hv
      · omega
      · rename_i c2
        by_cases c3 : v.toNat = (litV l).toNat
        · exact absurd (show litV l = v by omega) c2
        · rw [if_neg c3]; exact h.free v (by omega)
  · intro v i hi hp
    rw [plR_app] at hp
    rw [hmk]
    split at hp
    · rename_i c1
      obtain ⟨j, hj, e1, e2⟩ := plR_in c1
      have hij : i = j := by omega
      subst hij
      have hne : v.toNat ≠ (litV l).toNat := fun e => by
        have hx := (h.ok _ (List.getElem_mem hj)).1
        obtain ⟨a1, _⟩ := litV_ok6 hx
        have : v = litV l := by omega
        rw [this] at c1; omega
      rw [if_neg hne, h.mark v i hj e1]
      simp [List.getElem_append_left hj]
    · split at hp
      · rename_i c2
        have hii : i = t.rows.length := by omega
        subst hii
        rw [if_pos (by rw [← c2])]
        simp [h.dep, h.lits]
      · omega
  · unfold putT
    simp only
    rw [List.countP_set hlt, h.cnt]
    have hg : T.marks[(litV l).toNat].v = 0 := by
      rw [← h0]; unfold mkAt; rw [List.getD_eq_getElem?_getD, List.getElem?_eq_getElem hlt]; rfl
    simp only [hg, List.length_append, List.length_cons, List.length_nil]
    have : (if l < 0 then (-1 : Int) else 1) ≠ 0 := by split <;> omega
    simp [this]
theorem relT_beg {T : Tr} {t : RT} (h : RelT T t) : RelT (begT T) ⟨t.vars, t.rows, t.dep + 1⟩ where
  len := h.len
  vars := h.vars
  lits := h.lits
  dep := by simp [begT, h.dep]
  ok := fun x hx => by obtain ⟨a, b, c⟩ := h.ok x hx; exact ⟨a, b, by dsimp only; omega⟩
  free := fun v hv => h.free v hv
  mark := fun v i hi hp => h.mark v i hi hp
  cnt := h.cnt
def RelD (T : Tr) (t : RT) : Prop := RelT T t ∧ T.beg.length ≤ t.rows.length
theorem relD_dec {T : Tr} {t : RT} (h : RelD T t) (l : Int) : RelD (decT T l) (decR t l) := by
  obtain ⟨h, hb⟩ := h
  have hf := h.few
  have hd := h.dep
  unfold decT decR
  rw [relT_may h]
  split
  · rename_i c
    rw [w64_id (by omega) (by omega)]
    have hb2 := relT_beg h
    have := relT_put hb2 (l := l) (by exact c) (-1)
    refine ⟨this, ?_⟩
    simp [putT, begT]; omega
  · exact ⟨h, hb⟩
theorem relD_imp {T : Tr} {t : RT} (h : RelD T t) (l rea : Int) : RelD (impT T l rea) (impR t l rea) ∧ impE T l rea = impER t l rea := by
  obtain ⟨h, hb⟩ := h
  have e : impE T l rea = impER t l rea := by unfold impE impER; rw [relT_may h]
  refine ⟨?_, e⟩
  unfold impT impR
  rw [e]
  split
  · rename_i c
    have hm : mayR t l = 0 := by
      unfold impER at c
      split at c
      · rename_i c2; exact absurd c c2
      · rename_i c2; simpa using c2
    refine ⟨relT_put h hm rea, ?_⟩
    simp [putT]; omega
  · exact ⟨h, hb⟩
theorem relT_of {T : Tr} {t : RT} (h : RelT T t) (v : Int) : (ofT T v).1.lev = (ofR t v).1 ∧ (ofT T v).1.rea = (ofR t v).2 ∧ (ofT T v).1.pla = plR t v := by
  unfold ofT ofR
  have hl := h.len
  by_cases c : plR t v < 0
  · rw [if_pos c, if_pos]
    · refine ⟨rfl, rfl, ?_⟩
      have : plR t v = -1 := by
        unfold plR idxS at *
        split at c
        · omega
        · rfl
      rw [this]
    · exact .inr (.inr (h.free v c))
  · obtain ⟨i, hi, e1, e2⟩ := plR_in (t := t) (v := v) (by omega)
    obtain ⟨a, b, _⟩ := litV_ok6 (h.ok _ (List.getElem_mem hi)).1
    have hm := h.mark v i hi e1
    rw [if_neg c, if_neg, hm, e1]
    · simp [hi]
    · rw [hm]
      simp only
      have : (if t.rows[i].l < 0 then (-1 : Int) else 1) ≠ 0 := by split <;> omega
      simp [this]; omega
end Go.AX
