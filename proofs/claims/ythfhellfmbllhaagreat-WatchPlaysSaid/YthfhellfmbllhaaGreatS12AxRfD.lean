/-
  Contracts: the document's trails that grow, and its arenas.
-/
import Derived.Test.YthfhellfmbllhaaGreatS12AxRfA
import Derived.Test.YthfhellfmbllhaaGreatS12AxClG
import Derived.Test.YthfhellfmbllhaaGreatAxIs
namespace Go.AX
open Go.Proofs
set_option linter.unusedSimpArgs false
structure Ro where
  at' : Int
  id : Int
  lits : List Int
structure RA where
  rows : List Ro
  size : Int
def roR (x : Ro) : List PV := [I64 x.at', I64 x.id, .seq false 1 (irow x.lits), BL false, BL true]
def raV (a : RA) : PV := .agg [.seq false 5 (a.rows.map roR), I64 a.size]
@[simp] theorem belowR_roR (k : Nat) (l : List Ro) : belowR k (l.map roR) := by
  induction l with
  | nil => trivial
  | cons x xs ih => exact ⟨⟨trivial, trivial, belowR_irow k _, trivial, trivial, trivial⟩, ih⟩
@[simp] theorem frzR_roR (r : Nat → Nat → PV) (l : List Ro) : frzR r (l.map roR) = l.map roR := by
  rw [frzR_map, List.map_map]
  apply List.map_congr_left
  intro x _
  simp [roR]
theorem wkCs_refl : ∀ l : List SV, wkCs l l
  | [] => trivial
  | x :: xs => ⟨wkS_refl x, wkCs_refl xs⟩
theorem wkHs_app : ∀ (h : List (List SV)) {a b : List (List SV)}, wkHs a b → wkHs (h ++ a) (h ++ b)
  | [], _, _, h => h
  | x :: xs, _, _, h => ⟨wkCs_refl x, wkHs_app xs h⟩
def putEA (id : Int) (lits : List Int) : Int := if id < 1 ∨ 10000000 < id then 2 else chkC lits 100000
def putRA (a : RA) (id : Int) (lits : List Int) : RA := if putEA id lits = 0 then ⟨a.rows ++ [⟨a.size, id, lits⟩], w64 (w64 (a.size + 3) + lits.length)⟩ else a
def putQA (a : RA) (id : Int) (lits : List Int) : Int := if putEA id lits = 0 then a.size else 0
set_option maxHeartbeats 4000000 in
set_option maxRecDepth 16000 in
theorem raPut_ok (h : List (List SV)) (a : RA) (id : Int) (lits : List Int) (hl : a.rows.length ≤ 1000000) (hc : lits.length ≤ 1000000) : AMut Tryz.prog 39 [raV a, I64 id, .seq false 1 (irow lits), BL false] h (fun r h' => h' = h ∧ r = .pv (.tup [raV (putRA a id lits), I64 (putQA a id lits), I64 (putEA id lits)])) := by
  refine amutXW [6, 7] [.cell 8 _, .tmp 9, .tmp 10] hmo Tryz.func39 (by kernel_rfl) rfl rfl (by kernel_rfl) (Nat.le_of_ble_eq_true rfl) ?_
  have hE : putEA id lits = if id < 1 ∨ 10000000 < id then 2 else chkC lits 100000 := rfl
  have hA : putRA a id lits = if putEA id lits = 0 then ⟨a.rows ++ [⟨a.size, id, lits⟩], w64 (w64 (a.size + 3) + lits.length)⟩ else a := rfl
  have hQ : putQA a id lits = if putEA id lits = 0 then a.size else 0 := rfl
  generalize putRA a id lits = A at hA ⊢
  generalize putQA a id lits = Q at hQ ⊢
  generalize putEA id lits = E at hE hA hQ ⊢
  by_cases c1 : id < 1
  · rw [if_pos (.inl c1)] at hE
    subst hE
    rw [if_neg (by omega)] at hA hQ
    subst hA hQ
    simp [raV, c1, wkPL, wkP]
  by_cases c2 : 10000000 < id
  · rw [if_pos (.inr c2)] at hE
    subst hE
    rw [if_neg (by omega)] at hA hQ
    subst hA hQ
    simp [raV, c1, c2, wkPL, wkP]
  rw [if_neg (by omega)] at hE
  simp [raV, c1, c2]
  refine CallK.intro (refClCheck_ok lits 100000 (by omega)) (by simp) ?_
  rw [← hE]
  by_cases c3 : E = 0
  rotate_left
  · rw [if_neg c3] at hA hQ
    subst hA hQ
    simp [c3, wkPL, wkP]
  rw [if_pos c3] at hA hQ
  subst hA hQ
  simp [c3, wkPL, wkP]
  refine AAnyD.dagO 10 #[false, false, false, false, false, false, false, false, false, false] (by kernel_rfl) fun stp hstp C hC => ?_
  have e0 := hstp 0
  simp only [AStepI, AStep, AEx, gslot, boxedIn, List.getElem?_cons_zero, List.getElem?_cons_succ, Option.bind_some, Bool.or_false, Bool.false_or, Bool.or_true, Bool.true_or, Bool.false_and, Bool.true_and, Bool.false_eq_true, if_false] at e0
  have e1 := hstp 1
  simp only [AStepI, AStep, AEx, gslot, boxedIn, List.getElem?_cons_zero, List.getElem?_cons_succ, Option.bind_some, Bool.or_false, Bool.false_or, Bool.or_true, Bool.true_or, Bool.false_and, Bool.true_and, Bool.false_eq_true, if_false] at e1
  have e2 := hstp 2
  simp only [AStepI, AStep, AEx, gslot, boxedIn, List.getElem?_cons_zero, List.getElem?_cons_succ, Option.bind_some, Bool.or_false, Bool.false_or, Bool.or_true, Bool.true_or, Bool.false_and, Bool.true_and, Bool.false_eq_true, if_false] at e2
  have e3 := hstp 3
  simp only [AStepI, AStep, AEx, gslot, boxedIn, List.getElem?_cons_zero, List.getElem?_cons_succ, Option.bind_some, Bool.or_false, Bool.false_or, Bool.or_true, Bool.true_or, Bool.false_and, Bool.true_and, Bool.false_eq_true, if_false] at e3
  have e4 := hstp 4
  simp only [AStepI, AStep, AEx, gslot, boxedIn, List.getElem?_cons_zero, List.getElem?_cons_succ, Option.bind_some, Bool.or_false, Bool.false_or, Bool.or_true, Bool.true_or, Bool.false_and, Bool.true_and, Bool.false_eq_true, if_false] at e4
  have e5 := hstp 5
  simp only [AStepI, AStep, AEx, gslot, boxedIn, List.getElem?_cons_zero, List.getElem?_cons_succ, Option.bind_some, Bool.or_false, Bool.false_or, Bool.or_true, Bool.true_or, Bool.false_and, Bool.true_and, Bool.false_eq_true, if_false] at e5
  have e6 := hstp 6
  simp only [AStepI, AStep, AEx, gslot, boxedIn, List.getElem?_cons_zero, List.getElem?_cons_succ, Option.bind_some, Bool.or_false, Bool.false_or, Bool.or_true, Bool.true_or, Bool.false_and, Bool.true_and, Bool.false_eq_true, if_false] at e6
  have e7 := hstp 7
  simp only [AStepI, AStep, AEx, gslot, boxedIn, List.getElem?_cons_zero, List.getElem?_cons_succ, Option.bind_some, Bool.or_false, Bool.false_or, Bool.or_true, Bool.true_or, Bool.false_and, Bool.true_and, Bool.false_eq_true, if_false] at e7
  have e8 := hstp 8
  simp only [AStepI, AStep, AEx, gslot, boxedIn, List.getElem?_cons_zero, List.getElem?_cons_succ, Option.bind_some, Bool.or_false, Bool.false_or, Bool.or_true, Bool.true_or, Bool.false_and, Bool.true_and, Bool.false_eq_true, if_false] at e8
  have e9 := hstp 9
  simp only [AStepI, AStep, AEx, gslot, boxedIn, List.getElem?_cons_zero, List.getElem?_cons_succ, Option.bind_some, Bool.or_false, Bool.false_or, Bool.or_true, Bool.true_or, Bool.false_and, Bool.true_and, Bool.false_eq_true, if_false] at e9
  clear hstp
  have d0 : C 0 #[true, true, true, true, true, true, true, true, true, true] ⟨[(2, .pv (.seq false 1 (irow lits))), (4, .pv (.ptr h.length 0)), (8, .pv (.ptr (h.length + 1) 0)), (12, .pv (.ptr (h.length + 2) 0))], h ++ [[.pv (.seq false 5 (a.rows.map roR)), .pv (I64 a.size)], [.pv (.lit (.slice none 0 0)), .pv (.lit (.int .i64 0))], [.pv (I64 a.size), .pv (I64 id), .pv (.seq false 1 (irow lits)), .pv (BL false), .pv (BL true)]]⟩ := by
    refine hC.done _ _ _ ?_ ?_
    · kernel_rfl
    simp
    refine AAnyD.dagO 19 #[false, false, false, false, false, false, false, false, false, false, false, false, false, false, false, false, false, false, false] (by kernel_rfl) fun stp hstp C hC => ?_
    have e0 := hstp 0
    simp only [AStepI, AStep, AEx, gslot, boxedIn, List.getElem?_cons_zero, List.getElem?_cons_succ, Option.bind_some, Bool.or_false, Bool.false_or, Bool.or_true, Bool.true_or, Bool.false_and, Bool.true_and, Bool.false_eq_true, if_false] at e0
    have e1 := hstp 1
    simp only [AStepI, AStep, AEx, gslot, boxedIn, List.getElem?_cons_zero, List.getElem?_cons_succ, Option.bind_some, Bool.or_false, Bool.false_or, Bool.or_true, Bool.true_or, Bool.false_and, Bool.true_and, Bool.false_eq_true, if_false] at e1
    have e2 := hstp 2
    simp only [AStepI, AStep, AEx, gslot, boxedIn, List.getElem?_cons_zero, List.getElem?_cons_succ, Option.bind_some, Bool.or_false, Bool.false_or, Bool.or_true, Bool.true_or, Bool.false_and, Bool.true_and, Bool.false_eq_true, if_false] at e2
    have e3 := hstp 3
    simp only [AStepI, AStep, AEx, gslot, boxedIn, List.getElem?_cons_zero, List.getElem?_cons_succ, Option.bind_some, Bool.or_false, Bool.false_or, Bool.or_true, Bool.true_or, Bool.false_and, Bool.true_and, Bool.false_eq_true, if_false] at e3
    have e4 := hstp 4
    simp only [AStepI, AStep, AEx, gslot, boxedIn, List.getElem?_cons_zero, List.getElem?_cons_succ, Option.bind_some, Bool.or_false, Bool.false_or, Bool.or_true, Bool.true_or, Bool.false_and, Bool.true_and, Bool.false_eq_true, if_false] at e4
    have e5 := hstp 5
    simp only [AStepI, AStep, AEx, gslot, boxedIn, List.getElem?_cons_zero, List.getElem?_cons_succ, Option.bind_some, Bool.or_false, Bool.false_or, Bool.or_true, Bool.true_or, Bool.false_and, Bool.true_and, Bool.false_eq_true, if_false] at e5
    have e6 := hstp 6
    simp only [AStepI, AStep, AEx, gslot, boxedIn, List.getElem?_cons_zero, List.getElem?_cons_succ, Option.bind_some, Bool.or_false, Bool.false_or, Bool.or_true, Bool.true_or, Bool.false_and, Bool.true_and, Bool.false_eq_true, if_false] at e6
    have e7 := hstp 7
    simp only [AStepI, AStep, AEx, gslot, boxedIn, List.getElem?_cons_zero, List.getElem?_cons_succ, Option.bind_some, Bool.or_false, Bool.false_or, Bool.or_true, Bool.true_or, Bool.false_and, Bool.true_and, Bool.false_eq_true, if_false] at e7
    have e8 := hstp 8
    simp only [AStepI, AStep, AEx, gslot, boxedIn, List.getElem?_cons_zero, List.getElem?_cons_succ, Option.bind_some, Bool.or_false, Bool.false_or, Bool.or_true, Bool.true_or, Bool.false_and, Bool.true_and, Bool.false_eq_true, if_false] at e8
    have e9 := hstp 9
    simp only [AStepI, AStep, AEx, gslot, boxedIn, List.getElem?_cons_zero, List.getElem?_cons_succ, Option.bind_some, Bool.or_false, Bool.false_or, Bool.or_true, Bool.true_or, Bool.false_and, Bool.true_and, Bool.false_eq_true, if_false] at e9
    have e10 := hstp 10
    simp only [AStepI, AStep, AEx, gslot, boxedIn, List.getElem?_cons_zero, List.getElem?_cons_succ, Option.bind_some, Bool.or_false, Bool.false_or, Bool.or_true, Bool.true_or, Bool.false_and, Bool.true_and, Bool.false_eq_true, if_false] at e10
    have e11 := hstp 11
    simp only [AStepI, AStep, AEx, gslot, boxedIn, List.getElem?_cons_zero, List.getElem?_cons_succ, Option.bind_some, Bool.or_false, Bool.false_or, Bool.or_true, Bool.true_or, Bool.false_and, Bool.true_and, Bool.false_eq_true, if_false] at e11
    have e12 := hstp 12
    simp only [AStepI, AStep, AEx, gslot, boxedIn, List.getElem?_cons_zero, List.getElem?_cons_succ, Option.bind_some, Bool.or_false, Bool.false_or, Bool.or_true, Bool.true_or, Bool.false_and, Bool.true_and, Bool.false_eq_true, if_false] at e12
    have e13 := hstp 13
    simp only [AStepI, AStep, AEx, gslot, boxedIn, List.getElem?_cons_zero, List.getElem?_cons_succ, Option.bind_some, Bool.or_false, Bool.false_or, Bool.or_true, Bool.true_or, Bool.false_and, Bool.true_and, Bool.false_eq_true, if_false] at e13
    have e14 := hstp 14
    simp only [AStepI, AStep, AEx, gslot, boxedIn, List.getElem?_cons_zero, List.getElem?_cons_succ, Option.bind_some, Bool.or_false, Bool.false_or, Bool.or_true, Bool.true_or, Bool.false_and, Bool.true_and, Bool.false_eq_true, if_false] at e14
    have e15 := hstp 15
    simp only [AStepI, AStep, AEx, gslot, boxedIn, List.getElem?_cons_zero, List.getElem?_cons_succ, Option.bind_some, Bool.or_false, Bool.false_or, Bool.or_true, Bool.true_or, Bool.false_and, Bool.true_and, Bool.false_eq_true, if_false] at e15
    have e16 := hstp 16
    simp only [AStepI, AStep, AEx, gslot, boxedIn, List.getElem?_cons_zero, List.getElem?_cons_succ, Option.bind_some, Bool.or_false, Bool.false_or, Bool.or_true, Bool.true_or, Bool.false_and, Bool.true_and, Bool.false_eq_true, if_false] at e16
    have e17 := hstp 17
    simp only [AStepI, AStep, AEx, gslot, boxedIn, List.getElem?_cons_zero, List.getElem?_cons_succ, Option.bind_some, Bool.or_false, Bool.false_or, Bool.or_true, Bool.true_or, Bool.false_and, Bool.true_and, Bool.false_eq_true, if_false] at e17
    have e18 := hstp 18
    simp only [AStepI, AStep, AEx, gslot, boxedIn, List.getElem?_cons_zero, List.getElem?_cons_succ, Option.bind_some, Bool.or_false, Bool.false_or, Bool.or_true, Bool.true_or, Bool.false_and, Bool.true_and, Bool.false_eq_true, if_false] at e18
    clear hstp
    have d0 : C 0 #[true, true, true, true, true, true, true, true, true, true, true, true, true, true, true, true, true, true, true] ⟨[(8, .pv (.ptr (h.length + 1) 0)), (9, .pv (I64 a.size)), (10, .pv (I64 0))], h ++ [[.pv (.seq false 5 (a.rows.map roR)), .pv (I64 a.size)], [.pv (.seq true 5 (a.rows.map roR ++ [[I64 a.size, I64 id, .seq false 1 (irow lits), BL false, BL true]])), .pv (I64 (w64 (w64 (a.size + 3) + lits.length)))], [.pv (I64 a.size), .pv (I64 id), .pv (.seq false 1 (irow lits)), .pv (BL false), .pv (BL true)]]⟩ := by
      refine hC.done _ _ _ ?_ ?_
      · kernel_rfl
      simp [roR, wkPL, wkP]
    have d1 : C 3 #[true, true, true, true, true, true, true, true, true, true, true, true, true, true, true, true, false, false, false] ⟨[(8, .pv (.ptr (h.length + 1) 0)), (47, .pv (.agg [.seq true 5 (a.rows.map roR ++ [[I64 a.size, I64 id, .seq false 1 (irow lits), BL false, BL true]]), I64 (w64 (w64 (a.size + 3) + lits.length))])), (49, .pv (I64 a.size))], h ++ [[.pv (.seq false 5 (a.rows.map roR)), .pv (I64 a.size)], [.pv (.lit (.slice none 0 0)), .pv (.lit (.int .i64 0))], [.pv (I64 a.size), .pv (I64 id), .pv (.seq false 1 (irow lits)), .pv (BL false), .pv (BL true)]]⟩ := by
      refine hC.fork [(16, #[true, true, true, true, true, true, true, true, true, true, true, true, true, true, true, true, true, false, false])] ?_ ⟨?_, trivial⟩
      · kernel_rfl
      · simp [e16]
        try refine ⟨by omega, ?_⟩
        refine hC.take 17 #[true, true, true, true, true, true, true, true, true, true, true, true, true, true, true, true, true, true, false] ?_ ?_
        · kernel_rfl
        simp [e17]
        refine hC.take 18 #[true, true, true, true, true, true, true, true, true, true, true, true, true, true, true, true, true, true, true] ?_ ?_
        · kernel_rfl
        simp [e18]
        refine hC.weak d0 (Weak.keep ?_ ?_) <;> simp
    have d2 : C 3 #[true, true, true, true, true, true, true, true, true, true, true, true, true, true, true, false, true, false, false] ⟨[(8, .pv (.ptr (h.length + 1) 0)), (48, .pv (.ptr h.length 1))], h ++ [[.pv (.seq false 5 (a.rows.map roR)), .pv (I64 a.size)], [.pv (.seq true 5 (a.rows.map roR ++ [[I64 a.size, I64 id, .seq false 1 (irow lits), BL false, BL true]])), .pv (I64 (w64 (w64 (a.size + 3) + lits.length)))], [.pv (I64 a.size), .pv (I64 id), .pv (.seq false 1 (irow lits)), .pv (BL false), .pv (BL true)]]⟩ := by
      refine hC.fork [(15, #[true, true, true, true, true, true, true, true, true, true, true, true, true, true, true, true, true, false, false])] ?_ ⟨?_, trivial⟩
      · kernel_rfl
      · simp [e15]
        try refine ⟨by omega, ?_⟩
        refine hC.take 17 #[true, true, true, true, true, true, true, true, true, true, true, true, true, true, true, true, true, true, false] ?_ ?_
        · kernel_rfl
        simp [e17]
        refine hC.take 18 #[true, true, true, true, true, true, true, true, true, true, true, true, true, true, true, true, true, true, true] ?_ ?_
        · kernel_rfl
        simp [e18]
        refine hC.weak d0 (Weak.keep ?_ ?_) <;> simp
    have d3 : C 4 #[true, true, true, true, true, true, true, true, true, true, true, true, true, true, true, false, false, false, false] ⟨[(8, .pv (.ptr (h.length + 1) 0)), (47, .pv (.agg [.seq true 5 (a.rows.map roR ++ [[I64 a.size, I64 id, .seq false 1 (irow lits), BL false, BL true]]), I64 (w64 (w64 (a.size + 3) + lits.length))])), (48, .pv (.ptr h.length 1))], h ++ [[.pv (.seq false 5 (a.rows.map roR)), .pv (I64 a.size)], [.pv (.lit (.slice none 0 0)), .pv (.lit (.int .i64 0))], [.pv (I64 a.size), .pv (I64 id), .pv (.seq false 1 (irow lits)), .pv (BL false), .pv (BL true)]]⟩ := by
      refine hC.fork [(15, #[true, true, true, true, true, true, true, true, true, true, true, true, true, true, true, true, false, false, false]), (16, #[true, true, true, true, true, true, true, true, true, true, true, true, true, true, true, false, true, false, false])] ?_ ⟨?_, ?_, trivial⟩
      · kernel_rfl
      · simp [e15]
        try refine ⟨by omega, ?_⟩
        refine hC.weak d1 (Weak.keep ?_ ?_) <;> simp
      · simp [e16]
        try refine ⟨by omega, ?_⟩
        refine hC.weak d2 (Weak.keep ?_ ?_) <;> simp
    have d4 : C 4 #[true, true, true, true, true, true, true, true, true, true, true, true, true, false, true, true, false, false, false] ⟨[(8, .pv (.ptr (h.length + 1) 0)), (40, .own true 5 (a.rows.map roR ++ [[I64 a.size, I64 id, .seq false 1 (irow lits), BL false, BL true]])), (46, .pv (I64 (w64 (w64 (a.size + 3) + lits.length)))), (49, .pv (I64 a.size))], h ++ [[.pv (.seq false 5 (a.rows.map roR)), .pv (I64 a.size)], [.pv (.lit (.slice none 0 0)), .pv (.lit (.int .i64 0))], [.pv (I64 a.size), .pv (I64 id), .pv (.seq false 1 (irow lits)), .pv (BL false), .pv (BL true)]]⟩ := by
      refine hC.fork [(13, #[true, true, true, true, true, true, true, true, true, true, true, true, true, true, true, true, false, false, false])] ?_ ⟨?_, trivial⟩
      · kernel_rfl
      · simp [e13]
        try refine ⟨by omega, ?_⟩
        refine hC.weak d1 (Weak.keep ?_ ?_) <;> simp
    have d5 : C 5 #[true, true, true, true, true, true, true, true, true, true, true, true, true, false, true, false, false, false, false] ⟨[(8, .pv (.ptr (h.length + 1) 0)), (40, .own true 5 (a.rows.map roR ++ [[I64 a.size, I64 id, .seq false 1 (irow lits), BL false, BL true]])), (46, .pv (I64 (w64 (w64 (a.size + 3) + lits.length)))), (48, .pv (.ptr h.length 1))], h ++ [[.pv (.seq false 5 (a.rows.map roR)), .pv (I64 a.size)], [.pv (.lit (.slice none 0 0)), .pv (.lit (.int .i64 0))], [.pv (I64 a.size), .pv (I64 id), .pv (.seq false 1 (irow lits)), .pv (BL false), .pv (BL true)]]⟩ := by
      refine hC.fork [(13, #[true, true, true, true, true, true, true, true, true, true, true, true, true, true, true, false, false, false, false]), (15, #[true, true, true, true, true, true, true, true, true, true, true, true, true, false, true, true, false, false, false])] ?_ ⟨?_, ?_, trivial⟩
      · kernel_rfl
      · simp [e13]
        try refine ⟨by omega, ?_⟩
        refine hC.weak d3 (Weak.keep ?_ ?_) <;> simp
      · simp [e15]
        try refine ⟨by omega, ?_⟩
        refine hC.weak d4 (Weak.keep ?_ ?_) <;> simp
    have d6 : C 7 #[true, true, true, true, true, true, true, true, false, false, true, true, false, false, true, true, false, false, false] ⟨[(8, .pv (.ptr (h.length + 1) 0)), (40, .own true 5 (a.rows.map roR ++ [[I64 a.size, I64 id, .seq false 1 (irow lits), BL false, BL true]])), (41, .pv (.ptr h.length 1)), (45, .pv (I64 lits.length)), (49, .pv (I64 a.size))], h ++ [[.pv (.seq false 5 (a.rows.map roR)), .pv (I64 a.size)], [.pv (.lit (.slice none 0 0)), .pv (.lit (.int .i64 0))], [.pv (I64 a.size), .pv (I64 id), .pv (.seq false 1 (irow lits)), .pv (BL false), .pv (BL true)]]⟩ := by
      refine hC.fork [(8, #[true, true, true, true, true, true, true, true, true, false, true, true, false, false, true, true, false, false, false])] ?_ ⟨?_, trivial⟩
      · kernel_rfl
      · simp [e8]
        try refine ⟨by omega, ?_⟩
        refine hC.take 9 #[true, true, true, true, true, true, true, true, true, true, true, true, false, false, true, true, false, false, false] ?_ ?_
        · kernel_rfl
        simp [e9]
        refine hC.take 12 #[true, true, true, true, true, true, true, true, true, true, true, true, true, false, true, true, false, false, false] ?_ ?_
        · kernel_rfl
        simp [e12]
        refine hC.weak d4 (Weak.keep ?_ ?_) <;> simp
    have d7 : C 8 #[true, true, true, true, true, true, true, true, false, false, true, true, false, false, true, false, false, false, false] ⟨[(8, .pv (.ptr (h.length + 1) 0)), (40, .own true 5 (a.rows.map roR ++ [[I64 a.size, I64 id, .seq false 1 (irow lits), BL false, BL true]])), (41, .pv (.ptr h.length 1)), (45, .pv (I64 lits.length)), (48, .pv (.ptr h.length 1))], h ++ [[.pv (.seq false 5 (a.rows.map roR)), .pv (I64 a.size)], [.pv (.lit (.slice none 0 0)), .pv (.lit (.int .i64 0))], [.pv (I64 a.size), .pv (I64 id), .pv (.seq false 1 (irow lits)), .pv (BL false), .pv (BL true)]]⟩ := by
      refine hC.fork [(8, #[true, true, true, true, true, true, true, true, true, false, true, true, false, false, true, false, false, false, false]), (15, #[true, true, true, true, true, true, true, true, false, false, true, true, false, false, true, true, false, false, false])] ?_ ⟨?_, ?_, trivial⟩
      · kernel_rfl
      · simp [e8]
        try refine ⟨by omega, ?_⟩
        refine hC.take 9 #[true, true, true, true, true, true, true, true, true, true, true, true, false, false, true, false, false, false, false] ?_ ?_
        · kernel_rfl
        simp [e9]
        refine hC.take 12 #[true, true, true, true, true, true, true, true, true, true, true, true, true, false, true, false, false, false, false] ?_ ?_
        · kernel_rfl
        simp [e12]
        refine hC.weak d5 (Weak.keep ?_ ?_) <;> simp
      · simp [e15]
        try refine ⟨by omega, ?_⟩
        refine hC.weak d6 (Weak.keep ?_ ?_) <;> simp
    have d8 : C 5 #[true, true, true, true, true, true, false, true, true, true, true, true, true, false, true, true, false, false, false] ⟨[(8, .pv (.ptr (h.length + 1) 0)), (37, .own true 5 (a.rows.map roR)), (39, .own true 5 [[I64 a.size, I64 id, .seq false 1 (irow lits), BL false, BL true]]), (46, .pv (I64 (w64 (w64 (a.size + 3) + lits.length)))), (49, .pv (I64 a.size))], h ++ [[.pv (.seq false 5 (a.rows.map roR)), .pv (I64 a.size)], [.pv (.lit (.slice none 0 0)), .pv (.lit (.int .i64 0))], [.pv (I64 a.size), .pv (I64 id), .pv (.seq false 1 (irow lits)), .pv (BL false), .pv (BL true)]]⟩ := by
      refine hC.fork [(6, #[true, true, true, true, true, true, true, true, true, true, true, true, true, false, true, true, false, false, false])] ?_ ⟨?_, trivial⟩
      · kernel_rfl
      · simp [e6]
        try refine ⟨by omega, ?_⟩
        refine hC.weak d4 (Weak.keep ?_ ?_) <;> simp
    have d9 : C 6 #[true, true, true, true, true, true, false, true, true, true, true, true, true, false, true, false, false, false, false] ⟨[(8, .pv (.ptr (h.length + 1) 0)), (37, .own true 5 (a.rows.map roR)), (39, .own true 5 [[I64 a.size, I64 id, .seq false 1 (irow lits), BL false, BL true]]), (46, .pv (I64 (w64 (w64 (a.size + 3) + lits.length)))), (48, .pv (.ptr h.length 1))], h ++ [[.pv (.seq false 5 (a.rows.map roR)), .pv (I64 a.size)], [.pv (.lit (.slice none 0 0)), .pv (.lit (.int .i64 0))], [.pv (I64 a.size), .pv (I64 id), .pv (.seq false 1 (irow lits)), .pv (BL false), .pv (BL true)]]⟩ := by
      refine hC.fork [(6, #[true, true, true, true, true, true, true, true, true, true, true, true, true, false, true, false, false, false, false]), (15, #[true, true, true, true, true, true, false, true, true, true, true, true, true, false, true, true, false, false, false])] ?_ ⟨?_, ?_, trivial⟩
      · kernel_rfl
      · simp [e6]
        try refine ⟨by omega, ?_⟩
        refine hC.weak d5 (Weak.keep ?_ ?_) <;> simp
      · simp [e15]
        try refine ⟨by omega, ?_⟩
        refine hC.weak d8 (Weak.keep ?_ ?_) <;> simp
    have d10 : C 8 #[true, true, true, true, true, true, false, true, false, false, true, true, false, false, true, true, false, false, false] ⟨[(8, .pv (.ptr (h.length + 1) 0)), (37, .own true 5 (a.rows.map roR)), (39, .own true 5 [[I64 a.size, I64 id, .seq false 1 (irow lits), BL false, BL true]]), (41, .pv (.ptr h.length 1)), (45, .pv (I64 lits.length)), (49, .pv (I64 a.size))], h ++ [[.pv (.seq false 5 (a.rows.map roR)), .pv (I64 a.size)], [.pv (.lit (.slice none 0 0)), .pv (.lit (.int .i64 0))], [.pv (I64 a.size), .pv (I64 id), .pv (.seq false 1 (irow lits)), .pv (BL false), .pv (BL true)]]⟩ := by
      refine hC.fork [(6, #[true, true, true, true, true, true, true, true, false, false, true, true, false, false, true, true, false, false, false]), (8, #[true, true, true, true, true, true, false, true, true, false, true, true, false, false, true, true, false, false, false])] ?_ ⟨?_, ?_, trivial⟩
      · kernel_rfl
      · simp [e6]
        try refine ⟨by omega, ?_⟩
        refine hC.weak d6 (Weak.keep ?_ ?_) <;> simp
      · simp [e8]
        try refine ⟨by omega, ?_⟩
        refine hC.take 9 #[true, true, true, true, true, true, false, true, true, true, true, true, false, false, true, true, false, false, false] ?_ ?_
        · kernel_rfl
        simp [e9]
        refine hC.take 12 #[true, true, true, true, true, true, false, true, true, true, true, true, true, false, true, true, false, false, false] ?_ ?_
        · kernel_rfl
        simp [e12]
        refine hC.weak d8 (Weak.keep ?_ ?_) <;> simp
    have d11 : C 9 #[true, true, true, true, true, true, false, true, false, false, true, true, false, false, true, false, false, false, false] ⟨[(8, .pv (.ptr (h.length + 1) 0)), (37, .own true 5 (a.rows.map roR)), (39, .own true 5 [[I64 a.size, I64 id, .seq false 1 (irow lits), BL false, BL true]]), (41, .pv (.ptr h.length 1)), (45, .pv (I64 lits.length)), (48, .pv (.ptr h.length 1))], h ++ [[.pv (.seq false 5 (a.rows.map roR)), .pv (I64 a.size)], [.pv (.lit (.slice none 0 0)), .pv (.lit (.int .i64 0))], [.pv (I64 a.size), .pv (I64 id), .pv (.seq false 1 (irow lits)), .pv (BL false), .pv (BL true)]]⟩ := by
      refine hC.fork [(6, #[true, true, true, true, true, true, true, true, false, false, true, true, false, false, true, false, false, false, false]), (8, #[true, true, true, true, true, true, false, true, true, false, true, true, false, false, true, false, false, false, false]), (15, #[true, true, true, true, true, true, false, true, false, false, true, true, false, false, true, true, false, false, false])] ?_ ⟨?_, ?_, ?_, trivial⟩
      · kernel_rfl
      · simp [e6]
        try refine ⟨by omega, ?_⟩
        refine hC.weak d7 (Weak.keep ?_ ?_) <;> simp
      · simp [e8]
        try refine ⟨by omega, ?_⟩
        refine hC.take 9 #[true, true, true, true, true, true, false, true, true, true, true, true, false, false, true, false, false, false, false] ?_ ?_
        · kernel_rfl
        simp [e9]
        refine hC.take 12 #[true, true, true, true, true, true, false, true, true, true, true, true, true, false, true, false, false, false, false] ?_ ?_
        · kernel_rfl
        simp [e12]
        refine hC.weak d9 (Weak.keep ?_ ?_) <;> simp
      · simp [e15]
        try refine ⟨by omega, ?_⟩
        refine hC.weak d10 (Weak.keep ?_ ?_) <;> simp
    have d12 : C 6 #[true, true, true, true, true, false, false, true, true, true, true, true, true, false, true, true, false, false, false] ⟨[(8, .pv (.ptr (h.length + 1) 0)), (37, .own true 5 (a.rows.map roR)), (38, .pv (.agg [I64 a.size, I64 id, .seq false 1 (irow lits), BL false, BL true])), (46, .pv (I64 (w64 (w64 (a.size + 3) + lits.length)))), (49, .pv (I64 a.size))], h ++ [[.pv (.seq false 5 (a.rows.map roR)), .pv (I64 a.size)], [.pv (.lit (.slice none 0 0)), .pv (.lit (.int .i64 0))], [.pv (I64 a.size), .pv (I64 id), .pv (.seq false 1 (irow lits)), .pv (BL false), .pv (BL true)]]⟩ := by
      refine hC.fork [(5, #[true, true, true, true, true, true, false, true, true, true, true, true, true, false, true, true, false, false, false])] ?_ ⟨?_, trivial⟩
      · kernel_rfl
      · simp [e5]
        try refine ⟨by omega, ?_⟩
        refine hC.weak d8 (Weak.keep ?_ ?_) <;> simp
    have d13 : C 7 #[true, true, true, true, true, false, false, true, true, true, true, true, true, false, true, false, false, false, false] ⟨[(8, .pv (.ptr (h.length + 1) 0)), (37, .own true 5 (a.rows.map roR)), (38, .pv (.agg [I64 a.size, I64 id, .seq false 1 (irow lits), BL false, BL true])), (46, .pv (I64 (w64 (w64 (a.size + 3) + lits.length)))), (48, .pv (.ptr h.length 1))], h ++ [[.pv (.seq false 5 (a.rows.map roR)), .pv (I64 a.size)], [.pv (.lit (.slice none 0 0)), .pv (.lit (.int .i64 0))], [.pv (I64 a.size), .pv (I64 id), .pv (.seq false 1 (irow lits)), .pv (BL false), .pv (BL true)]]⟩ := by
      refine hC.fork [(5, #[true, true, true, true, true, true, false, true, true, true, true, true, true, false, true, false, false, false, false]), (15, #[true, true, true, true, true, false, false, true, true, true, true, true, true, false, true, true, false, false, false])] ?_ ⟨?_, ?_, trivial⟩
      · kernel_rfl
      · simp [e5]
        try refine ⟨by omega, ?_⟩
        refine hC.weak d9 (Weak.keep ?_ ?_) <;> simp
      · simp [e15]
        try refine ⟨by omega, ?_⟩
        refine hC.weak d12 (Weak.keep ?_ ?_) <;> simp
    have d14 : C 9 #[true, true, true, true, true, false, false, true, false, false, true, true, false, false, true, true, false, false, false] ⟨[(8, .pv (.ptr (h.length + 1) 0)), (37, .own true 5 (a.rows.map roR)), (38, .pv (.agg [I64 a.size, I64 id, .seq false 1 (irow lits), BL false, BL true])), (41, .pv (.ptr h.length 1)), (45, .pv (I64 lits.length)), (49, .pv (I64 a.size))], h ++ [[.pv (.seq false 5 (a.rows.map roR)), .pv (I64 a.size)], [.pv (.lit (.slice none 0 0)), .pv (.lit (.int .i64 0))], [.pv (I64 a.size), .pv (I64 id), .pv (.seq false 1 (irow lits)), .pv (BL false), .pv (BL true)]]⟩ := by
      refine hC.fork [(5, #[true, true, true, true, true, true, false, true, false, false, true, true, false, false, true, true, false, false, false]), (8, #[true, true, true, true, true, false, false, true, true, false, true, true, false, false, true, true, false, false, false])] ?_ ⟨?_, ?_, trivial⟩
      · kernel_rfl
      · simp [e5]
        try refine ⟨by omega, ?_⟩
        refine hC.weak d10 (Weak.keep ?_ ?_) <;> simp
      · simp [e8]
        try refine ⟨by omega, ?_⟩
        refine hC.take 9 #[true, true, true, true, true, false, false, true, true, true, true, true, false, false, true, true, false, false, false] ?_ ?_
        · kernel_rfl
        simp [e9]
        refine hC.take 12 #[true, true, true, true, true, false, false, true, true, true, true, true, true, false, true, true, false, false, false] ?_ ?_
        · kernel_rfl
        simp [e12]
        refine hC.weak d12 (Weak.keep ?_ ?_) <;> simp
    have d15 : C 10 #[true, true, true, true, true, false, false, true, false, false, true, true, false, false, true, false, false, false, false] ⟨[(8, .pv (.ptr (h.length + 1) 0)), (37, .own true 5 (a.rows.map roR)), (38, .pv (.agg [I64 a.size, I64 id, .seq false 1 (irow lits), BL false, BL true])), (41, .pv (.ptr h.length 1)), (45, .pv (I64 lits.length)), (48, .pv (.ptr h.length 1))], h ++ [[.pv (.seq false 5 (a.rows.map roR)), .pv (I64 a.size)], [.pv (.lit (.slice none 0 0)), .pv (.lit (.int .i64 0))], [.pv (I64 a.size), .pv (I64 id), .pv (.seq false 1 (irow lits)), .pv (BL false), .pv (BL true)]]⟩ := by
      refine hC.fork [(5, #[true, true, true, true, true, true, false, true, false, false, true, true, false, false, true, false, false, false, false]), (8, #[true, true, true, true, true, false, false, true, true, false, true, true, false, false, true, false, false, false, false]), (15, #[true, true, true, true, true, false, false, true, false, false, true, true, false, false, true, true, false, false, false])] ?_ ⟨?_, ?_, ?_, trivial⟩
      · kernel_rfl
      · simp [e5]
        try refine ⟨by omega, ?_⟩
        refine hC.weak d11 (Weak.keep ?_ ?_) <;> simp
      · simp [e8]
        try refine ⟨by omega, ?_⟩
        refine hC.take 9 #[true, true, true, true, true, false, false, true, true, true, true, true, false, false, true, false, false, false, false] ?_ ?_
        · kernel_rfl
        simp [e9]
        refine hC.take 12 #[true, true, true, true, true, false, false, true, true, true, true, true, true, false, true, false, false, false, false] ?_ ?_
        · kernel_rfl
        simp [e12]
        refine hC.weak d13 (Weak.keep ?_ ?_) <;> simp
      · simp [e15]
        try refine ⟨by omega, ?_⟩
        refine hC.weak d14 (Weak.keep ?_ ?_) <;> simp
    have d16 : C 7 #[true, true, true, true, false, false, false, true, true, true, true, true, true, false, true, true, false, false, false] ⟨[(8, .pv (.ptr (h.length + 1) 0)), (12, .pv (.ptr (h.length + 2) 0)), (37, .own true 5 (a.rows.map roR)), (46, .pv (I64 (w64 (w64 (a.size + 3) + lits.length)))), (49, .pv (I64 a.size))], h ++ [[.pv (.seq false 5 (a.rows.map roR)), .pv (I64 a.size)], [.pv (.lit (.slice none 0 0)), .pv (.lit (.int .i64 0))], [.pv (I64 a.size), .pv (I64 id), .pv (.seq false 1 (irow lits)), .pv (BL false), .pv (BL true)]]⟩ := by
      refine hC.fork [(4, #[true, true, true, true, true, false, false, true, true, true, true, true, true, false, true, true, false, false, false])] ?_ ⟨?_, trivial⟩
      · kernel_rfl
      · simp [e4]
        try refine ⟨by omega, ?_⟩
        refine hC.weak d12 (Weak.keep ?_ ?_) <;> simp
    have d17 : C 8 #[true, true, true, true, false, false, false, true, true, true, true, true, true, false, true, false, false, false, false] ⟨[(8, .pv (.ptr (h.length + 1) 0)), (12, .pv (.ptr (h.length + 2) 0)), (37, .own true 5 (a.rows.map roR)), (46, .pv (I64 (w64 (w64 (a.size + 3) + lits.length)))), (48, .pv (.ptr h.length 1))], h ++ [[.pv (.seq false 5 (a.rows.map roR)), .pv (I64 a.size)], [.pv (.lit (.slice none 0 0)), .pv (.lit (.int .i64 0))], [.pv (I64 a.size), .pv (I64 id), .pv (.seq false 1 (irow lits)), .pv (BL false), .pv (BL true)]]⟩ := by
      refine hC.fork [(4, #[true, true, true, true, true, false, false, true, true, true, true, true, true, false, true, false, false, false, false]), (15, #[true, true, true, true, false, false, false, true, true, true, true, true, true, false, true, true, false, false, false])] ?_ ⟨?_, ?_, trivial⟩
      · kernel_rfl
      · simp [e4]
        try refine ⟨by omega, ?_⟩
        refine hC.weak d13 (Weak.keep ?_ ?_) <;> simp
      · simp [e15]
        try refine ⟨by omega, ?_⟩
        refine hC.weak d16 (Weak.keep ?_ ?_) <;> simp
    have d18 : C 10 #[true, true, true, true, false, false, false, true, false, false, true, true, false, false, true, true, false, false, false] ⟨[(8, .pv (.ptr (h.length + 1) 0)), (12, .pv (.ptr (h.length + 2) 0)), (37, .own true 5 (a.rows.map roR)), (41, .pv (.ptr h.length 1)), (45, .pv (I64 lits.length)), (49, .pv (I64 a.size))], h ++ [[.pv (.seq false 5 (a.rows.map roR)), .pv (I64 a.size)], [.pv (.lit (.slice none 0 0)), .pv (.lit (.int .i64 0))], [.pv (I64 a.size), .pv (I64 id), .pv (.seq false 1 (irow lits)), .pv (BL false), .pv (BL true)]]⟩ := by
      refine hC.fork [(4, #[true, true, true, true, true, false, false, true, false, false, true, true, false, false, true, true, false, false, false]), (8, #[true, true, true, true, false, false, false, true, true, false, true, true, false, false, true, true, false, false, false])] ?_ ⟨?_, ?_, trivial⟩
      · kernel_rfl
      · simp [e4]
        try refine ⟨by omega, ?_⟩
        refine hC.weak d14 (Weak.keep ?_ ?_) <;> simp
      · simp [e8]
        try refine ⟨by omega, ?_⟩
        refine hC.take 9 #[true, true, true, true, false, false, false, true, true, true, true, true, false, false, true, true, false, false, false] ?_ ?_
        · kernel_rfl
        simp [e9]
        refine hC.take 12 #[true, true, true, true, false, false, false, true, true, true, true, true, true, false, true, true, false, false, false] ?_ ?_
        · kernel_rfl
        simp [e12]
        refine hC.weak d16 (Weak.keep ?_ ?_) <;> simp
    have d19 : C 11 #[true, true, true, true, false, false, false, true, false, false, true, true, false, false, true, false, false, false, false] ⟨[(8, .pv (.ptr (h.length + 1) 0)), (12, .pv (.ptr (h.length + 2) 0)), (37, .own true 5 (a.rows.map roR)), (41, .pv (.ptr h.length 1)), (45, .pv (I64 lits.length)), (48, .pv (.ptr h.length 1))], h ++ [[.pv (.seq false 5 (a.rows.map roR)), .pv (I64 a.size)], [.pv (.lit (.slice none 0 0)), .pv (.lit (.int .i64 0))], [.pv (I64 a.size), .pv (I64 id), .pv (.seq false 1 (irow lits)), .pv (BL false), .pv (BL true)]]⟩ := by
      refine hC.fork [(4, #[true, true, true, true, true, false, false, true, false, false, true, true, false, false, true, false, false, false, false]), (8, #[true, true, true, true, false, false, false, true, true, false, true, true, false, false, true, false, false, false, false]), (15, #[true, true, true, true, false, false, false, true, false, false, true, true, false, false, true, true, false, false, false])] ?_ ⟨?_, ?_, ?_, trivial⟩
      · kernel_rfl
      · simp [e4]
        try refine ⟨by omega, ?_⟩
        refine hC.weak d15 (Weak.keep ?_ ?_) <;> simp
      · simp [e8]
        try refine ⟨by omega, ?_⟩
        refine hC.take 9 #[true, true, true, true, false, false, false, true, true, true, true, true, false, false, true, false, false, false, false] ?_ ?_
        · kernel_rfl
        simp [e9]
        refine hC.take 12 #[true, true, true, true, false, false, false, true, true, true, true, true, true, false, true, false, false, false, false] ?_ ?_
        · kernel_rfl
        simp [e12]
        refine hC.weak d17 (Weak.keep ?_ ?_) <;> simp
      · simp [e15]
        try refine ⟨by omega, ?_⟩
        refine hC.weak d18 (Weak.keep ?_ ?_) <;> simp
    have d20 : C 6 #[true, true, true, false, true, true, false, true, true, true, true, true, true, false, true, true, false, false, false] ⟨[(8, .pv (.ptr (h.length + 1) 0)), (34, .own true 5 []), (36, .pv (.seq false 5 (a.rows.map roR))), (39, .own true 5 [[I64 a.size, I64 id, .seq false 1 (irow lits), BL false, BL true]]), (46, .pv (I64 (w64 (w64 (a.size + 3) + lits.length)))), (49, .pv (I64 a.size))], h ++ [[.pv (.seq false 5 (a.rows.map roR)), .pv (I64 a.size)], [.pv (.lit (.slice none 0 0)), .pv (.lit (.int .i64 0))], [.pv (I64 a.size), .pv (I64 id), .pv (.seq false 1 (irow lits)), .pv (BL false), .pv (BL true)]]⟩ := by
      refine hC.fork [(3, #[true, true, true, true, true, true, false, true, true, true, true, true, true, false, true, true, false, false, false])] ?_ ⟨?_, trivial⟩
      · kernel_rfl
      · simp [e3]
        try refine ⟨by omega, ?_⟩
        refine hC.weak d8 (Weak.keep ?_ ?_) <;> simp
    have d21 : C 7 #[true, true, true, false, true, true, false, true, true, true, true, true, true, false, true, false, false, false, false] ⟨[(8, .pv (.ptr (h.length + 1) 0)), (34, .own true 5 []), (36, .pv (.seq false 5 (a.rows.map roR))), (39, .own true 5 [[I64 a.size, I64 id, .seq false 1 (irow lits), BL false, BL true]]), (46, .pv (I64 (w64 (w64 (a.size + 3) + lits.length)))), (48, .pv (.ptr h.length 1))], h ++ [[.pv (.seq false 5 (a.rows.map roR)), .pv (I64 a.size)], [.pv (.lit (.slice none 0 0)), .pv (.lit (.int .i64 0))], [.pv (I64 a.size), .pv (I64 id), .pv (.seq false 1 (irow lits)), .pv (BL false), .pv (BL true)]]⟩ := by
      refine hC.fork [(3, #[true, true, true, true, true, true, false, true, true, true, true, true, true, false, true, false, false, false, false]), (15, #[true, true, true, false, true, true, false, true, true, true, true, true, true, false, true, true, false, false, false])] ?_ ⟨?_, ?_, trivial⟩
      · kernel_rfl
      · simp [e3]
        try refine ⟨by omega, ?_⟩
        refine hC.weak d9 (Weak.keep ?_ ?_) <;> simp
      · simp [e15]
        try refine ⟨by omega, ?_⟩
        refine hC.weak d20 (Weak.keep ?_ ?_) <;> simp
    have d22 : C 9 #[true, true, true, false, true, true, false, true, false, false, true, true, false, false, true, true, false, false, false] ⟨[(8, .pv (.ptr (h.length + 1) 0)), (34, .own true 5 []), (36, .pv (.seq false 5 (a.rows.map roR))), (39, .own true 5 [[I64 a.size, I64 id, .seq false 1 (irow lits), BL false, BL true]]), (41, .pv (.ptr h.length 1)), (45, .pv (I64 lits.length)), (49, .pv (I64 a.size))], h ++ [[.pv (.seq false 5 (a.rows.map roR)), .pv (I64 a.size)], [.pv (.lit (.slice none 0 0)), .pv (.lit (.int .i64 0))], [.pv (I64 a.size), .pv (I64 id), .pv (.seq false 1 (irow lits)), .pv (BL false), .pv (BL true)]]⟩ := by
      refine hC.fork [(3, #[true, true, true, true, true, true, false, true, false, false, true, true, false, false, true, true, false, false, false]), (8, #[true, true, true, false, true, true, false, true, true, false, true, true, false, false, true, true, false, false, false])] ?_ ⟨?_, ?_, trivial⟩
      · kernel_rfl
      · simp [e3]
        try refine ⟨by omega, ?_⟩
        refine hC.weak d10 (Weak.keep ?_ ?_) <;> simp
      · simp [e8]
        try refine ⟨by omega, ?_⟩
        refine hC.take 9 #[true, true, true, false, true, true, false, true, true, true, true, true, false, false, true, true, false, false, false] ?_ ?_
        · kernel_rfl
        simp [e9]
        refine hC.take 12 #[true, true, true, false, true, true, false, true, true, true, true, true, true, false, true, true, false, false, false] ?_ ?_
        · kernel_rfl
        simp [e12]
        refine hC.weak d20 (Weak.keep ?_ ?_) <;> simp
    have d23 : C 10 #[true, true, true, false, true, true, false, true, false, false, true, true, false, false, true, false, false, false, false] ⟨[(8, .pv (.ptr (h.length + 1) 0)), (34, .own true 5 []), (36, .pv (.seq false 5 (a.rows.map roR))), (39, .own true 5 [[I64 a.size, I64 id, .seq false 1 (irow lits), BL false, BL true]]), (41, .pv (.ptr h.length 1)), (45, .pv (I64 lits.length)), (48, .pv (.ptr h.length 1))], h ++ [[.pv (.seq false 5 (a.rows.map roR)), .pv (I64 a.size)], [.pv (.lit (.slice none 0 0)), .pv (.lit (.int .i64 0))], [.pv (I64 a.size), .pv (I64 id), .pv (.seq false 1 (irow lits)), .pv (BL false), .pv (BL true)]]⟩ := by
      refine hC.fork [(3, #[true, true, true, true, true, true, false, true, false, false, true, true, false, false, true, false, false, false, false]), (8, #[true, true, true, false, true, true, false, true, true, false, true, true, false, false, true, false, false, false, false]), (15, #[true, true, true, false, true, true, false, true, false, false, true, true, false, false, true, true, false, false, false])] ?_ ⟨?_, ?_, ?_, trivial⟩
      · kernel_rfl
      · simp [e3]
        try refine ⟨by omega, ?_⟩
        refine hC.weak d11 (Weak.keep ?_ ?_) <;> simp
      · simp [e8]
        try refine ⟨by omega, ?_⟩
        refine hC.take 9 #[true, true, true, false, true, true, false, true, true, true, true, true, false, false, true, false, false, false, false] ?_ ?_
        · kernel_rfl
        simp [e9]
        refine hC.take 12 #[true, true, true, false, true, true, false, true, true, true, true, true, true, false, true, false, false, false, false] ?_ ?_
        · kernel_rfl
        simp [e12]
        refine hC.weak d21 (Weak.keep ?_ ?_) <;> simp
      · simp [e15]
        try refine ⟨by omega, ?_⟩
        refine hC.weak d22 (Weak.keep ?_ ?_) <;> simp
    have d24 : C 7 #[true, true, true, false, true, false, false, true, true, true, true, true, true, false, true, true, false, false, false] ⟨[(8, .pv (.ptr (h.length + 1) 0)), (34, .own true 5 []), (36, .pv (.seq false 5 (a.rows.map roR))), (38, .pv (.agg [I64 a.size, I64 id, .seq false 1 (irow lits), BL false, BL true])), (46, .pv (I64 (w64 (w64 (a.size + 3) + lits.length)))), (49, .pv (I64 a.size))], h ++ [[.pv (.seq false 5 (a.rows.map roR)), .pv (I64 a.size)], [.pv (.lit (.slice none 0 0)), .pv (.lit (.int .i64 0))], [.pv (I64 a.size), .pv (I64 id), .pv (.seq false 1 (irow lits)), .pv (BL false), .pv (BL true)]]⟩ := by
      refine hC.fork [(3, #[true, true, true, true, true, false, false, true, true, true, true, true, true, false, true, true, false, false, false]), (5, #[true, true, true, false, true, true, false, true, true, true, true, true, true, false, true, true, false, false, false])] ?_ ⟨?_, ?_, trivial⟩
      · kernel_rfl
      · simp [e3]
        try refine ⟨by omega, ?_⟩
        refine hC.weak d12 (Weak.keep ?_ ?_) <;> simp
      · simp [e5]
        try refine ⟨by omega, ?_⟩
        refine hC.weak d20 (Weak.keep ?_ ?_) <;> simp
    have d25 : C 8 #[true, true, true, false, true, false, false, true, true, true, true, true, true, false, true, false, false, false, false] ⟨[(8, .pv (.ptr (h.length + 1) 0)), (34, .own true 5 []), (36, .pv (.seq false 5 (a.rows.map roR))), (38, .pv (.agg [I64 a.size, I64 id, .seq false 1 (irow lits), BL false, BL true])), (46, .pv (I64 (w64 (w64 (a.size + 3) + lits.length)))), (48, .pv (.ptr h.length 1))], h ++ [[.pv (.seq false 5 (a.rows.map roR)), .pv (I64 a.size)], [.pv (.lit (.slice none 0 0)), .pv (.lit (.int .i64 0))], [.pv (I64 a.size), .pv (I64 id), .pv (.seq false 1 (irow lits)), .pv (BL false), .pv (BL true)]]⟩ := by
      refine hC.fork [(3, #[true, true, true, true, true, false, false, true, true, true, true, true, true, false, true, false, false, false, false]), (5, #[true, true, true, false, true, true, false, true, true, true, true, true, true, false, true, false, false, false, false]), (15, #[true, true, true, false, true, false, false, true, true, true, true, true, true, false, true, true, false, false, false])] ?_ ⟨?_, ?_, ?_, trivial⟩
      · kernel_rfl
      · simp [e3]
        try refine ⟨by omega, ?_⟩
        refine hC.weak d13 (Weak.keep ?_ ?_) <;> simp
      · simp [e5]
        try refine ⟨by omega, ?_⟩
        refine hC.weak d21 (Weak.keep ?_ ?_) <;> simp
      · simp [e15]
        try refine ⟨by omega, ?_⟩
        refine hC.weak d24 (Weak.keep ?_ ?_) <;> simp
    have d26 : C 10 #[true, true, true, false, true, false, false, true, false, false, true, true, false, false, true, true, false, false, false] ⟨[(8, .pv (.ptr (h.length + 1) 0)), (34, .own true 5 []), (36, .pv (.seq false 5 (a.rows.map roR))), (38, .pv (.agg [I64 a.size, I64 id, .seq false 1 (irow lits), BL false, BL true])), (41, .pv (.ptr h.length 1)), (45, .pv (I64 lits.length)), (49, .pv (I64 a.size))], h ++ [[.pv (.seq false 5 (a.rows.map roR)), .pv (I64 a.size)], [.pv (.lit (.slice none 0 0)), .pv (.lit (.int .i64 0))], [.pv (I64 a.size), .pv (I64 id), .pv (.seq false 1 (irow lits)), .pv (BL false), .pv (BL true)]]⟩ := by
      refine hC.fork [(3, #[true, true, true, true, true, false, false, true, false, false, true, true, false, false, true, true, false, false, false]), (5, #[true, true, true, false, true, true, false, true, false, false, true, true, false, false, true, true, false, false, false]), (8, #[true, true, true, false, true, false, false, true, true, false, true, true, false, false, true, true, false, false, false])] ?_ ⟨?_, ?_, ?_, trivial⟩
      · kernel_rfl
      · simp [e3]
        try refine ⟨by omega, ?_⟩
        refine hC.weak d14 (Weak.keep ?_ ?_) <;> simp
      · simp [e5]
        try refine ⟨by omega, ?_⟩
        refine hC.weak d22 (Weak.keep ?_ ?_) <;> simp
      · simp [e8]
        try refine ⟨by omega, ?_⟩
        refine hC.take 9 #[true, true, true, false, true, false, false, true, true, true, true, true, false, false, true, true, false, false, false] ?_ ?_
        · kernel_rfl
        simp [e9]
        refine hC.take 12 #[true, true, true, false, true, false, false, true, true, true, true, true, true, false, true, true, false, false, false] ?_ ?_
        · kernel_rfl
        simp [e12]
        refine hC.weak d24 (Weak.keep ?_ ?_) <;> simp
    have d27 : C 11 #[true, true, true, false, true, false, false, true, false, false, true, true, false, false, true, false, false, false, false] ⟨[(8, .pv (.ptr (h.length + 1) 0)), (34, .own true 5 []), (36, .pv (.seq false 5 (a.rows.map roR))), (38, .pv (.agg [I64 a.size, I64 id, .seq false 1 (irow lits), BL false, BL true])), (41, .pv (.ptr h.length 1)), (45, .pv (I64 lits.length)), (48, .pv (.ptr h.length 1))], h ++ [[.pv (.seq false 5 (a.rows.map roR)), .pv (I64 a.size)], [.pv (.lit (.slice none 0 0)), .pv (.lit (.int .i64 0))], [.pv (I64 a.size), .pv (I64 id), .pv (.seq false 1 (irow lits)), .pv (BL false), .pv (BL true)]]⟩ := by
      refine hC.fork [(3, #[true, true, true, true, true, false, false, true, false, false, true, true, false, false, true, false, false, false, false]), (5, #[true, true, true, false, true, true, false, true, false, false, true, true, false, false, true, false, false, false, false]), (8, #[true, true, true, false, true, false, false, true, true, false, true, true, false, false, true, false, false, false, false]), (15, #[true, true, true, false, true, false, false, true, false, false, true, true, false, false, true, true, false, false, false])] ?_ ⟨?_, ?_, ?_, ?_, trivial⟩
      · kernel_rfl
      · simp [e3]
        try refine ⟨by omega, ?_⟩
        refine hC.weak d15 (Weak.keep ?_ ?_) <;> simp
      · simp [e5]
        try refine ⟨by omega, ?_⟩
        refine hC.weak d23 (Weak.keep ?_ ?_) <;> simp
      · simp [e8]
        try refine ⟨by omega, ?_⟩
        refine hC.take 9 #[true, true, true, false, true, false, false, true, true, true, true, true, false, false, true, false, false, false, false] ?_ ?_
        · kernel_rfl
        simp [e9]
        refine hC.take 12 #[true, true, true, false, true, false, false, true, true, true, true, true, true, false, true, false, false, false, false] ?_ ?_
        · kernel_rfl
        simp [e12]
        refine hC.weak d25 (Weak.keep ?_ ?_) <;> simp
      · simp [e15]
        try refine ⟨by omega, ?_⟩
        refine hC.weak d26 (Weak.keep ?_ ?_) <;> simp
    have d28 : C 8 #[true, true, true, false, false, false, false, true, true, true, true, true, true, false, true, true, false, false, false] ⟨[(8, .pv (.ptr (h.length + 1) 0)), (12, .pv (.ptr (h.length + 2) 0)), (34, .own true 5 []), (36, .pv (.seq false 5 (a.rows.map roR))), (46, .pv (I64 (w64 (w64 (a.size + 3) + lits.length)))), (49, .pv (I64 a.size))], h ++ [[.pv (.seq false 5 (a.rows.map roR)), .pv (I64 a.size)], [.pv (.lit (.slice none 0 0)), .pv (.lit (.int .i64 0))], [.pv (I64 a.size), .pv (I64 id), .pv (.seq false 1 (irow lits)), .pv (BL false), .pv (BL true)]]⟩ := by
      refine hC.fork [(3, #[true, true, true, true, false, false, false, true, true, true, true, true, true, false, true, true, false, false, false]), (4, #[true, true, true, false, true, false, false, true, true, true, true, true, true, false, true, true, false, false, false])] ?_ ⟨?_, ?_, trivial⟩
      · kernel_rfl
      · simp [e3]
        try refine ⟨by omega, ?_⟩
        refine hC.weak d16 (Weak.keep ?_ ?_) <;> simp
      · simp [e4]
        try refine ⟨by omega, ?_⟩
        refine hC.weak d24 (Weak.keep ?_ ?_) <;> simp
    have d29 : C 9 #[true, true, true, false, false, false, false, true, true, true, true, true, true, false, true, false, false, false, false] ⟨[(8, .pv (.ptr (h.length + 1) 0)), (12, .pv (.ptr (h.length + 2) 0)), (34, .own true 5 []), (36, .pv (.seq false 5 (a.rows.map roR))), (46, .pv (I64 (w64 (w64 (a.size + 3) + lits.length)))), (48, .pv (.ptr h.length 1))], h ++ [[.pv (.seq false 5 (a.rows.map roR)), .pv (I64 a.size)], [.pv (.lit (.slice none 0 0)), .pv (.lit (.int .i64 0))], [.pv (I64 a.size), .pv (I64 id), .pv (.seq false 1 (irow lits)), .pv (BL false), .pv (BL true)]]⟩ := by
      refine hC.fork [(3, #[true, true, true, true, false, false, false, true, true, true, true, true, true, false, true, false, false, false, false]), (4, #[true, true, true, false, true, false, false, true, true, true, true, true, true, false, true, false, false, false, false]), (15, #[true, true, true, false, false, false, false, true, true, true, true, true, true, false, true, true, false, false, false])] ?_ ⟨?_, ?_, ?_, trivial⟩
      · kernel_rfl
      · simp [e3]
        try refine ⟨by omega, ?_⟩
        refine hC.weak d17 (Weak.keep ?_ ?_) <;> simp
      · simp [e4]
        try refine ⟨by omega, ?_⟩
        refine hC.weak d25 (Weak.keep ?_ ?_) <;> simp
      · simp [e15]
        try refine ⟨by omega, ?_⟩
        refine hC.weak d28 (Weak.keep ?_ ?_) <;> simp
    have d30 : C 11 #[true, true, true, false, false, false, false, true, false, false, true, true, false, false, true, true, false, false, false] ⟨[(8, .pv (.ptr (h.length + 1) 0)), (12, .pv (.ptr (h.length + 2) 0)), (34, .own true 5 []), (36, .pv (.seq false 5 (a.rows.map roR))), (41, .pv (.ptr h.length 1)), (45, .pv (I64 lits.length)), (49, .pv (I64 a.size))], h ++ [[.pv (.seq false 5 (a.rows.map roR)), .pv (I64 a.size)], [.pv (.lit (.slice none 0 0)), .pv (.lit (.int .i64 0))], [.pv (I64 a.size), .pv (I64 id), .pv (.seq false 1 (irow lits)), .pv (BL false), .pv (BL true)]]⟩ := by
      refine hC.fork [(3, #[true, true, true, true, false, false, false, true, false, false, true, true, false, false, true, true, false, false, false]), (4, #[true, true, true, false, true, false, false, true, false, false, true, true, false, false, true, true, false, false, false]), (8, #[true, true, true, false, false, false, false, true, true, false, true, true, false, false, true, true, false, false, false])] ?_ ⟨?_, ?_, ?_, trivial⟩
      · kernel_rfl
      · simp [e3]
        try refine ⟨by omega, ?_⟩
        refine hC.weak d18 (Weak.keep ?_ ?_) <;> simp
      · simp [e4]
        try refine ⟨by omega, ?_⟩
        refine hC.weak d26 (Weak.keep ?_ ?_) <;> simp
      · simp [e8]
        try refine ⟨by omega, ?_⟩
        refine hC.take 9 #[true, true, true, false, false, false, false, true, true, true, true, true, false, false, true, true, false, false, false] ?_ ?_
        · kernel_rfl
        simp [e9]
        refine hC.take 12 #[true, true, true, false, false, false, false, true, true, true, true, true, true, false, true, true, false, false, false] ?_ ?_
        · kernel_rfl
        simp [e12]
        refine hC.weak d28 (Weak.keep ?_ ?_) <;> simp
    have d31 : C 12 #[true, true, true, false, false, false, false, true, false, false, true, true, false, false, true, false, false, false, false] ⟨[(8, .pv (.ptr (h.length + 1) 0)), (12, .pv (.ptr (h.length + 2) 0)), (34, .own true 5 []), (36, .pv (.seq false 5 (a.rows.map roR))), (41, .pv (.ptr h.length 1)), (45, .pv (I64 lits.length)), (48, .pv (.ptr h.length 1))], h ++ [[.pv (.seq false 5 (a.rows.map roR)), .pv (I64 a.size)], [.pv (.lit (.slice none 0 0)), .pv (.lit (.int .i64 0))], [.pv (I64 a.size), .pv (I64 id), .pv (.seq false 1 (irow lits)), .pv (BL false), .pv (BL true)]]⟩ := by
      refine hC.fork [(3, #[true, true, true, true, false, false, false, true, false, false, true, true, false, false, true, false, false, false, false]), (4, #[true, true, true, false, true, false, false, true, false, false, true, true, false, false, true, false, false, false, false]), (8, #[true, true, true, false, false, false, false, true, true, false, true, true, false, false, true, false, false, false, false]), (15, #[true, true, true, false, false, false, false, true, false, false, true, true, false, false, true, true, false, false, false])] ?_ ⟨?_, ?_, ?_, ?_, trivial⟩
      · kernel_rfl
      · simp [e3]
        try refine ⟨by omega, ?_⟩
        refine hC.weak d19 (Weak.keep ?_ ?_) <;> simp
      · simp [e4]
        try refine ⟨by omega, ?_⟩
        refine hC.weak d27 (Weak.keep ?_ ?_) <;> simp
      · simp [e8]
        try refine ⟨by omega, ?_⟩
        refine hC.take 9 #[true, true, true, false, false, false, false, true, true, true, true, true, false, false, true, false, false, false, false] ?_ ?_
        · kernel_rfl
        simp [e9]
        refine hC.take 12 #[true, true, true, false, false, false, false, true, true, true, true, true, true, false, true, false, false, false, false] ?_ ?_
        · kernel_rfl
        simp [e12]
        refine hC.weak d29 (Weak.keep ?_ ?_) <;> simp
      · simp [e15]
        try refine ⟨by omega, ?_⟩
        refine hC.weak d30 (Weak.keep ?_ ?_) <;> simp
    have d32 : C 7 #[true, true, false, false, true, true, false, true, true, true, true, true, true, false, true, true, false, false, false] ⟨[(8, .pv (.ptr (h.length + 1) 0)), (34, .own true 5 []), (35, .pv (.ptr h.length 0)), (39, .own true 5 [[I64 a.size, I64 id, .seq false 1 (irow lits), BL false, BL true]]), (46, .pv (I64 (w64 (w64 (a.size + 3) + lits.length)))), (49, .pv (I64 a.size))], h ++ [[.pv (.seq false 5 (a.rows.map roR)), .pv (I64 a.size)], [.pv (.lit (.slice none 0 0)), .pv (.lit (.int .i64 0))], [.pv (I64 a.size), .pv (I64 id), .pv (.seq false 1 (irow lits)), .pv (BL false), .pv (BL true)]]⟩ := by
      refine hC.fork [(2, #[true, true, true, false, true, true, false, true, true, true, true, true, true, false, true, true, false, false, false])] ?_ ⟨?_, trivial⟩
      · kernel_rfl
      · simp [e2]
        try refine ⟨by omega, ?_⟩
        refine hC.weak d20 (Weak.keep ?_ ?_) <;> simp
    have d33 : C 8 #[true, true, false, false, true, true, false, true, true, true, true, true, true, false, true, false, false, false, false] ⟨[(8, .pv (.ptr (h.length + 1) 0)), (34, .own true 5 []), (35, .pv (.ptr h.length 0)), (39, .own true 5 [[I64 a.size, I64 id, .seq false 1 (irow lits), BL false, BL true]]), (46, .pv (I64 (w64 (w64 (a.size + 3) + lits.length)))), (48, .pv (.ptr h.length 1))], h ++ [[.pv (.seq false 5 (a.rows.map roR)), .pv (I64 a.size)], [.pv (.lit (.slice none 0 0)), .pv (.lit (.int .i64 0))], [.pv (I64 a.size), .pv (I64 id), .pv (.seq false 1 (irow lits)), .pv (BL false), .pv (BL true)]]⟩ := by
      refine hC.fork [(2, #[true, true, true, false, true, true, false, true, true, true, true, true, true, false, true, false, false, false, false]), (15, #[true, true, false, false, true, true, false, true, true, true, true, true, true, false, true, true, false, false, false])] ?_ ⟨?_, ?_, trivial⟩
      · kernel_rfl
      · simp [e2]
        try refine ⟨by omega, ?_⟩
        refine hC.weak d21 (Weak.keep ?_ ?_) <;> simp
      · simp [e15]
        try refine ⟨by omega, ?_⟩
        refine hC.weak d32 (Weak.keep ?_ ?_) <;> simp
    have d34 : C 10 #[true, true, false, false, true, true, false, true, false, false, true, true, false, false, true, true, false, false, false] ⟨[(8, .pv (.ptr (h.length + 1) 0)), (34, .own true 5 []), (35, .pv (.ptr h.length 0)), (39, .own true 5 [[I64 a.size, I64 id, .seq false 1 (irow lits), BL false, BL true]]), (41, .pv (.ptr h.length 1)), (45, .pv (I64 lits.length)), (49, .pv (I64 a.size))], h ++ [[.pv (.seq false 5 (a.rows.map roR)), .pv (I64 a.size)], [.pv (.lit (.slice none 0 0)), .pv (.lit (.int .i64 0))], [.pv (I64 a.size), .pv (I64 id), .pv (.seq false 1 (irow lits)), .pv (BL false), .pv (BL true)]]⟩ := by
      refine hC.fork [(2, #[true, true, true, false, true, true, false, true, false, false, true, true, false, false, true, true, false, false, false]), (8, #[true, true, false, false, true, true, false, true, true, false, true, true, false, false, true, true, false, false, false])] ?_ ⟨?_, ?_, trivial⟩
      · kernel_rfl
      · simp [e2]
        try refine ⟨by omega, ?_⟩
        refine hC.weak d22 (Weak.keep ?_ ?_) <;> simp
      · simp [e8]
        try refine ⟨by omega, ?_⟩
        refine hC.take 9 #[true, true, false, false, true, true, false, true, true, true, true, true, false, false, true, true, false, false, false] ?_ ?_
        · kernel_rfl
        simp [e9]
        refine hC.take 12 #[true, true, false, false, true, true, false, true, true, true, true, true, true, false, true, true, false, false, false] ?_ ?_
        · kernel_rfl
        simp [e12]
        refine hC.weak d32 (Weak.keep ?_ ?_) <;> simp
    have d35 : C 11 #[true, true, false, false, true, true, false, true, false, false, true, true, false, false, true, false, false, false, false] ⟨[(8, .pv (.ptr (h.length + 1) 0)), (34, .own true 5 []), (35, .pv (.ptr h.length 0)), (39, .own true 5 [[I64 a.size, I64 id, .seq false 1 (irow lits), BL false, BL true]]), (41, .pv (.ptr h.length 1)), (45, .pv (I64 lits.length)), (48, .pv (.ptr h.length 1))], h ++ [[.pv (.seq false 5 (a.rows.map roR)), .pv (I64 a.size)], [.pv (.lit (.slice none 0 0)), .pv (.lit (.int .i64 0))], [.pv (I64 a.size), .pv (I64 id), .pv (.seq false 1 (irow lits)), .pv (BL false), .pv (BL true)]]⟩ := by
      refine hC.fork [(2, #[true, true, true, false, true, true, false, true, false, false, true, true, false, false, true, false, false, false, false]), (8, #[true, true, false, false, true, true, false, true, true, false, true, true, false, false, true, false, false, false, false]), (15, #[true, true, false, false, true, true, false, true, false, false, true, true, false, false, true, true, false, false, false])] ?_ ⟨?_, ?_, ?_, trivial⟩
      · kernel_rfl
      · simp [e2]
        try refine ⟨by omega, ?_⟩
        refine hC.weak d23 (Weak.keep ?_ ?_) <;> simp
      · simp [e8]
        try refine ⟨by omega, ?_⟩
        refine hC.take 9 #[true, true, false, false, true, true, false, true, true, true, true, true, false, false, true, false, false, false, false] ?_ ?_
        · kernel_rfl
        simp [e9]
        refine hC.take 12 #[true, true, false, false, true, true, false, true, true, true, true, true, true, false, true, false, false, false, false] ?_ ?_
        · kernel_rfl
        simp [e12]
        refine hC.weak d33 (Weak.keep ?_ ?_) <;> simp
      · simp [e15]
        try refine ⟨by omega, ?_⟩
        refine hC.weak d34 (Weak.keep ?_ ?_) <;> simp
    have d36 : C 8 #[true, true, false, false, true, false, false, true, true, true, true, true, true, false, true, true, false, false, false] ⟨[(8, .pv (.ptr (h.length + 1) 0)), (34, .own true 5 []), (35, .pv (.ptr h.length 0)), (38, .pv (.agg [I64 a.size, I64 id, .seq false 1 (irow lits), BL false, BL true])), (46, .pv (I64 (w64 (w64 (a.size + 3) + lits.length)))), (49, .pv (I64 a.size))], h ++ [[.pv (.seq false 5 (a.rows.map roR)), .pv (I64 a.size)], [.pv (.lit (.slice none 0 0)), .pv (.lit (.int .i64 0))], [.pv (I64 a.size), .pv (I64 id), .pv (.seq false 1 (irow lits)), .pv (BL false), .pv (BL true)]]⟩ := by
      refine hC.fork [(2, #[true, true, true, false, true, false, false, true, true, true, true, true, true, false, true, true, false, false, false]), (5, #[true, true, false, false, true, true, false, true, true, true, true, true, true, false, true, true, false, false, false])] ?_ ⟨?_, ?_, trivial⟩
      · kernel_rfl
      · simp [e2]
        try refine ⟨by omega, ?_⟩
        refine hC.weak d24 (Weak.keep ?_ ?_) <;> simp
      · simp [e5]
        try refine ⟨by omega, ?_⟩
        refine hC.weak d32 (Weak.keep ?_ ?_) <;> simp
    have d37 : C 9 #[true, true, false, false, true, false, false, true, true, true, true, true, true, false, true, false, false, false, false] ⟨[(8, .pv (.ptr (h.length + 1) 0)), (34, .own true 5 []), (35, .pv (.ptr h.length 0)), (38, .pv (.agg [I64 a.size, I64 id, .seq false 1 (irow lits), BL false, BL true])), (46, .pv (I64 (w64 (w64 (a.size + 3) + lits.length)))), (48, .pv (.ptr h.length 1))], h ++ [[.pv (.seq false 5 (a.rows.map roR)), .pv (I64 a.size)], [.pv (.lit (.slice none 0 0)), .pv (.lit (.int .i64 0))], [.pv (I64 a.size), .pv (I64 id), .pv (.seq false 1 (irow lits)), .pv (BL false), .pv (BL true)]]⟩ := by
      refine hC.fork [(2, #[true, true, true, false, true, false, false, true, true, true, true, true, true, false, true, false, false, false, false]), (5, #[true, true, false, false, true, true, false, true, true, true, true, true, true, false, true, false, false, false, false]), (15, #[true, true, false, false, true, false, false, true, true, true, true, true, true, false, true, true, false, false, false])] ?_ ⟨?_, ?_, ?_, trivial⟩
      · kernel_rfl
      · simp [e2]
        try refine ⟨by omega, ?_⟩
        refine hC.weak d25 (Weak.keep ?_ ?_) <;> simp
      · simp [e5]
        try refine ⟨by omega, ?_⟩
        refine hC.weak d33 (Weak.keep ?_ ?_) <;> simp
      · simp [e15]
        try refine ⟨by omega, ?_⟩
        refine hC.weak d36 (Weak.keep ?_ ?_) <;> simp
    have d38 : C 11 #[true, true, false, false, true, false, false, true, false, false, true, true, false, false, true, true, false, false, false] ⟨[(8, .pv (.ptr (h.length + 1) 0)), (34, .own true 5 []), (35, .pv (.ptr h.length 0)), (38, .pv (.agg [I64 a.size, I64 id, .seq false 1 (irow lits), BL false, BL true])), (41, .pv (.ptr h.length 1)), (45, .pv (I64 lits.length)), (49, .pv (I64 a.size))], h ++ [[.pv (.seq false 5 (a.rows.map roR)), .pv (I64 a.size)], [.pv (.lit (.slice none 0 0)), .pv (.lit (.int .i64 0))], [.pv (I64 a.size), .pv (I64 id), .pv (.seq false 1 (irow lits)), .pv (BL false), .pv (BL true)]]⟩ := by
      refine hC.fork [(2, #[true, true, true, false, true, false, false, true, false, false, true, true, false, false, true, true, false, false, false]), (5, #[true, true, false, false, true, true, false, true, false, false, true, true, false, false, true, true, false, false, false]), (8, #[true, true, false, false, true, false, false, true, true, false, true, true, false, false, true, true, false, false, false])] ?_ ⟨?_, ?_, ?_, trivial⟩
      · kernel_rfl
      · simp [e2]
        try refine ⟨by omega, ?_⟩
        refine hC.weak d26 (Weak.keep ?_ ?_) <;> simp
      · simp [e5]
        try refine ⟨by omega, ?_⟩
        refine hC.weak d34 (Weak.keep ?_ ?_) <;> simp
      · simp [e8]
        try refine ⟨by omega, ?_⟩
        refine hC.take 9 #[true, true, false, false, true, false, false, true, true, true, true, true, false, false, true, true, false, false, false] ?_ ?_
        · kernel_rfl
        simp [e9]
        refine hC.take 12 #[true, true, false, false, true, false, false, true, true, true, true, true, true, false, true, true, false, false, false] ?_ ?_
        · kernel_rfl
        simp [e12]
        refine hC.weak d36 (Weak.keep ?_ ?_) <;> simp
    have d39 : C 12 #[true, true, false, false, true, false, false, true, false, false, true, true, false, false, true, false, false, false, false] ⟨[(8, .pv (.ptr (h.length + 1) 0)), (34, .own true 5 []), (35, .pv (.ptr h.length 0)), (38, .pv (.agg [I64 a.size, I64 id, .seq false 1 (irow lits), BL false, BL true])), (41, .pv (.ptr h.length 1)), (45, .pv (I64 lits.length)), (48, .pv (.ptr h.length 1))], h ++ [[.pv (.seq false 5 (a.rows.map roR)), .pv (I64 a.size)], [.pv (.lit (.slice none 0 0)), .pv (.lit (.int .i64 0))], [.pv (I64 a.size), .pv (I64 id), .pv (.seq false 1 (irow lits)), .pv (BL false), .pv (BL true)]]⟩ := by
      refine hC.fork [(2, #[true, true, true, false, true, false, false, true, false, false, true, true, false, false, true, false, false, false, false]), (5, #[true, true, false, false, true, true, false, true, false, false, true, true, false, false, true, false, false, false, false]), (8, #[true, true, false, false, true, false, false, true, true, false, true, true, false, false, true, false, false, false, false]), (15, #[true, true, false, false, true, false, false, true, false, false, true, true, false, false, true, true, false, false, false])] ?_ ⟨?_, ?_, ?_, ?_, trivial⟩
      · kernel_rfl
      · simp [e2]
        try refine ⟨by omega, ?_⟩
        refine hC.weak d27 (Weak.keep ?_ ?_) <;> simp
      · simp [e5]
        try refine ⟨by omega, ?_⟩
        refine hC.weak d35 (Weak.keep ?_ ?_) <;> simp
      · simp [e8]
        try refine ⟨by omega, ?_⟩
        refine hC.take 9 #[true, true, false, false, true, false, false, true, true, true, true, true, false, false, true, false, false, false, false] ?_ ?_
        · kernel_rfl
        simp [e9]
        refine hC.take 12 #[true, true, false, false, true, false, false, true, true, true, true, true, true, false, true, false, false, false, false] ?_ ?_
        · kernel_rfl
        simp [e12]
        refine hC.weak d37 (Weak.keep ?_ ?_) <;> simp
      · simp [e15]
        try refine ⟨by omega, ?_⟩
        refine hC.weak d38 (Weak.keep ?_ ?_) <;> simp
    have d40 : C 9 #[true, true, false, false, false, false, false, true, true, true, true, true, true, false, true, true, false, false, false] ⟨[(8, .pv (.ptr (h.length + 1) 0)), (12, .pv (.ptr (h.length + 2) 0)), (34, .own true 5 []), (35, .pv (.ptr h.length 0)), (46, .pv (I64 (w64 (w64 (a.size + 3) + lits.length)))), (49, .pv (I64 a.size))], h ++ [[.pv (.seq false 5 (a.rows.map roR)), .pv (I64 a.size)], [.pv (.lit (.slice none 0 0)), .pv (.lit (.int .i64 0))], [.pv (I64 a.size), .pv (I64 id), .pv (.seq false 1 (irow lits)), .pv (BL false), .pv (BL true)]]⟩ := by
      refine hC.fork [(2, #[true, true, true, false, false, false, false, true, true, true, true, true, true, false, true, true, false, false, false]), (4, #[true, true, false, false, true, false, false, true, true, true, true, true, true, false, true, true, false, false, false])] ?_ ⟨?_, ?_, trivial⟩
      · kernel_rfl
      · simp [e2]
        try refine ⟨by omega, ?_⟩
        refine hC.weak d28 (Weak.keep ?_ ?_) <;> simp
      · simp [e4]
        try refine ⟨by omega, ?_⟩
        refine hC.weak d36 (Weak.keep ?_ ?_) <;> simp
    have d41 : C 10 #[true, true, false, false, false, false, false, true, true, true, true, true, true, false, true, false, false, false, false] ⟨[(8, .pv (.ptr (h.length + 1) 0)), (12, .pv (.ptr (h.length + 2) 0)), (34, .own true 5 []), (35, .pv (.ptr h.length 0)), (46, .pv (I64 (w64 (w64 (a.size + 3) + lits.length)))), (48, .pv (.ptr h.length 1))], h ++ [[.pv (.seq false 5 (a.rows.map roR)), .pv (I64 a.size)], [.pv (.lit (.slice none 0 0)), .pv (.lit (.int .i64 0))], [.pv (I64 a.size), .pv (I64 id), .pv (.seq false 1 (irow lits)), .pv (BL false), .pv (BL true)]]⟩ := by
      refine hC.fork [(2, #[true, true, true, false, false, false, false, true, true, true, true, true, true, false, true, false, false, false, false]), (4, #[true, true, false, false, true, false, false, true, true, true, true, true, true, false, true, false, false, false, false]), (15, #[true, true, false, false, false, false, false, true, true, true, true, true, true, false, true, true, false, false, false])] ?_ ⟨?_, ?_, ?_, trivial⟩
      · kernel_rfl
      · simp [e2]
        try refine ⟨by omega, ?_⟩
        refine hC.weak d29 (Weak.keep ?_ ?_) <;> simp
      · simp [e4]
        try refine ⟨by omega, ?_⟩
        refine hC.weak d37 (Weak.keep ?_ ?_) <;> simp
      · simp [e15]
        try refine ⟨by omega, ?_⟩
        refine hC.weak d40 (Weak.keep ?_ ?_) <;> simp
    have d42 : C 12 #[true, true, false, false, false, false, false, true, false, false, true, true, false, false, true, true, false, false, false] ⟨[(8, .pv (.ptr (h.length + 1) 0)), (12, .pv (.ptr (h.length + 2) 0)), (34, .own true 5 []), (35, .pv (.ptr h.length 0)), (41, .pv (.ptr h.length 1)), (45, .pv (I64 lits.length)), (49, .pv (I64 a.size))], h ++ [[.pv (.seq false 5 (a.rows.map roR)), .pv (I64 a.size)], [.pv (.lit (.slice none 0 0)), .pv (.lit (.int .i64 0))], [.pv (I64 a.size), .pv (I64 id), .pv (.seq false 1 (irow lits)), .pv (BL false), .pv (BL true)]]⟩ := by
      refine hC.fork [(2, #[true, true, true, false, false, false, false, true, false, false, true, true, false, false, true, true, false, false, false]), (4, #[true, true, false, false, true, false, false, true, false, false, true, true, false, false, true, true, false, false, false]), (8, #[true, true, false, false, false, false, false, true, true, false, true, true, false, false, true, true, false, false, false])] ?_ ⟨?_, ?_, ?_, trivial⟩
      · kernel_rfl
      · simp [e2]
        try refine ⟨by omega, ?_⟩
        refine hC.weak d30 (Weak.keep ?_ ?_) <;> simp
      · simp [e4]
        try refine ⟨by omega, ?_⟩
        refine hC.weak d38 (Weak.keep ?_ ?_) <;> simp
      · simp [e8]
        try refine ⟨by omega, ?_⟩
        refine hC.take 9 #[true, true, false, false, false, false, false, true, true, true, true, true, false, false, true, true, false, false, false] ?_ ?_
        · kernel_rfl
        simp [e9]
        refine hC.take 12 #[true, true, false, false, false, false, false, true, true, true, true, true, true, false, true, true, false, false, false] ?_ ?_
        · kernel_rfl
        simp [e12]
        refine hC.weak d40 (Weak.keep ?_ ?_) <;> simp
    have d43 : C 13 #[true, true, false, false, false, false, false, true, false, false, true, true, false, false, true, false, false, false, false] ⟨[(8, .pv (.ptr (h.length + 1) 0)), (12, .pv (.ptr (h.length + 2) 0)), (34, .own true 5 []), (35, .pv (.ptr h.length 0)), (41, .pv (.ptr h.length 1)), (45, .pv (I64 lits.length)), (48, .pv (.ptr h.length 1))], h ++ [[.pv (.seq false 5 (a.rows.map roR)), .pv (I64 a.size)], [.pv (.lit (.slice none 0 0)), .pv (.lit (.int .i64 0))], [.pv (I64 a.size), .pv (I64 id), .pv (.seq false 1 (irow lits)), .pv (BL false), .pv (BL true)]]⟩ := by
      refine hC.fork [(2, #[true, true, true, false, false, false, false, true, false, false, true, true, false, false, true, false, false, false, false]), (4, #[true, true, false, false, true, false, false, true, false, false, true, true, false, false, true, false, false, false, false]), (8, #[true, true, false, false, false, false, false, true, true, false, true, true, false, false, true, false, false, false, false]), (15, #[true, true, false, false, false, false, false, true, false, false, true, true, false, false, true, true, false, false, false])] ?_ ⟨?_, ?_, ?_, ?_, trivial⟩
      · kernel_rfl
      · simp [e2]
        try refine ⟨by omega, ?_⟩
        refine hC.weak d31 (Weak.keep ?_ ?_) <;> simp
      · simp [e4]
        try refine ⟨by omega, ?_⟩
        refine hC.weak d39 (Weak.keep ?_ ?_) <;> simp
      · simp [e8]
        try refine ⟨by omega, ?_⟩
        refine hC.take 9 #[true, true, false, false, false, false, false, true, true, true, true, true, false, false, true, false, false, false, false] ?_ ?_
        · kernel_rfl
        simp [e9]
        refine hC.take 12 #[true, true, false, false, false, false, false, true, true, true, true, true, true, false, true, false, false, false, false] ?_ ?_
        · kernel_rfl
        simp [e12]
        refine hC.weak d41 (Weak.keep ?_ ?_) <;> simp
      · simp [e15]
        try refine ⟨by omega, ?_⟩
        refine hC.weak d42 (Weak.keep ?_ ?_) <;> simp
    have d44 : C 7 #[false, true, true, false, true, true, false, true, true, true, true, true, true, false, true, true, false, false, false] ⟨[(8, .pv (.ptr (h.length + 1) 0)), (36, .pv (.seq false 5 (a.rows.map roR))), (39, .own true 5 [[I64 a.size, I64 id, .seq false 1 (irow lits), BL false, BL true]]), (46, .pv (I64 (w64 (w64 (a.size + 3) + lits.length)))), (49, .pv (I64 a.size))], h ++ [[.pv (.seq false 5 (a.rows.map roR)), .pv (I64 a.size)], [.pv (.lit (.slice none 0 0)), .pv (.lit (.int .i64 0))], [.pv (I64 a.size), .pv (I64 id), .pv (.seq false 1 (irow lits)), .pv (BL false), .pv (BL true)]]⟩ := by
      refine hC.fork [(0, #[true, true, true, false, true, true, false, true, true, true, true, true, true, false, true, true, false, false, false])] ?_ ⟨?_, trivial⟩
      · kernel_rfl
      · simp [e0]
        try refine ⟨by omega, ?_⟩
        refine hC.weak d20 (Weak.keep ?_ ?_) <;> simp
    have d45 : C 8 #[false, true, true, false, true, true, false, true, true, true, true, true, true, false, true, false, false, false, false] ⟨[(8, .pv (.ptr (h.length + 1) 0)), (36, .pv (.seq false 5 (a.rows.map roR))), (39, .own true 5 [[I64 a.size, I64 id, .seq false 1 (irow lits), BL false, BL true]]), (46, .pv (I64 (w64 (w64 (a.size + 3) + lits.length)))), (48, .pv (.ptr h.length 1))], h ++ [[.pv (.seq false 5 (a.rows.map roR)), .pv (I64 a.size)], [.pv (.lit (.slice none 0 0)), .pv (.lit (.int .i64 0))], [.pv (I64 a.size), .pv (I64 id), .pv (.seq false 1 (irow lits)), .pv (BL false), .pv (BL true)]]⟩ := by
      refine hC.fork [(0, #[true, true, true, false, true, true, false, true, true, true, true, true, true, false, true, false, false, false, false]), (15, #[false, true, true, false, true, true, false, true, true, true, true, true, true, false, true, true, false, false, false])] ?_ ⟨?_, ?_, trivial⟩
      · kernel_rfl
      · simp [e0]
        try refine ⟨by omega, ?_⟩
        refine hC.weak d21 (Weak.keep ?_ ?_) <;> simp
      · simp [e15]
        try refine ⟨by omega, ?_⟩
        refine hC.weak d44 (Weak.keep ?_ ?_) <;> simp
    have d46 : C 10 #[false, true, true, false, true, true, false, true, false, false, true, true, false, false, true, true, false, false, false] ⟨[(8, .pv (.ptr (h.length + 1) 0)), (36, .pv (.seq false 5 (a.rows.map roR))), (39, .own true 5 [[I64 a.size, I64 id, .seq false 1 (irow lits), BL false, BL true]]), (41, .pv (.ptr h.length 1)), (45, .pv (I64 lits.length)), (49, .pv (I64 a.size))], h ++ [[.pv (.seq false 5 (a.rows.map roR)), .pv (I64 a.size)], [.pv (.lit (.slice none 0 0)), .pv (.lit (.int .i64 0))], [.pv (I64 a.size), .pv (I64 id), .pv (.seq false 1 (irow lits)), .pv (BL false), .pv (BL true)]]⟩ := by
      refine hC.fork [(0, #[true, true, true, false, true, true, false, true, false, false, true, true, false, false, true, true, false, false, false]), (8, #[false, true, true, false, true, true, false, true, true, false, true, true, false, false, true, true, false, false, false])] ?_ ⟨?_, ?_, trivial⟩
      · kernel_rfl
      · simp [e0]
        try refine ⟨by omega, ?_⟩
        refine hC.weak d22 (Weak.keep ?_ ?_) <;> simp
      · simp [e8]
        try refine ⟨by omega, ?_⟩
        refine hC.take 9 #[false, true, true, false, true, true, false, true, true, true, true, true, false, false, true, true, false, false, false] ?_ ?_
        · kernel_rfl
        simp [e9]
        refine hC.take 12 #[false, true, true, false, true, true, false, true, true, true, true, true, true, false, true, true, false, false, false] ?_ ?_
        · kernel_rfl
        simp [e12]
        refine hC.weak d44 (Weak.keep ?_ ?_) <;> simp
    have d47 : C 11 #[false, true, true, false, true, true, false, true, false, false, true, true, false, false, true, false, false, false, false] ⟨[(8, .pv (.ptr (h.length + 1) 0)), (36, .pv (.seq false 5 (a.rows.map roR))), (39, .own true 5 [[I64 a.size, I64 id, .seq false 1 (irow lits), BL false, BL true]]), (41, .pv (.ptr h.length 1)), (45, .pv (I64 lits.length)), (48, .pv (.ptr h.length 1))], h ++ [[.pv (.seq false 5 (a.rows.map roR)), .pv (I64 a.size)], [.pv (.lit (.slice none 0 0)), .pv (.lit (.int .i64 0))], [.pv (I64 a.size), .pv (I64 id), .pv (.seq false 1 (irow lits)), .pv (BL false), .pv (BL true)]]⟩ := by
      refine hC.fork [(0, #[true, true, true, false, true, true, false, true, false, false, true, true, false, false, true, false, false, false, false]), (8, #[false, true, true, false, true, true, false, true, true, false, true, true, false, false, true, false, false, false, false]), (15, #[false, true, true, false, true, true, false, true, false, false, true, true, false, false, true, true, false, false, false])] ?_ ⟨?_, ?_, ?_, trivial⟩
      · kernel_rfl
      · simp [e0]
        try refine ⟨by omega, ?_⟩
        refine hC.weak d23 (Weak.keep ?_ ?_) <;> simp
      · simp [e8]
        try refine ⟨by omega, ?_⟩
        refine hC.take 9 #[false, true, true, false, true, true, false, true, true, true, true, true, false, false, true, false, false, false, false] ?_ ?_
        · kernel_rfl
        simp [e9]
        refine hC.take 12 #[false, true, true, false, true, true, false, true, true, true, true, true, true, false, true, false, false, false, false] ?_ ?_
        · kernel_rfl
        simp [e12]
        refine hC.weak d45 (Weak.keep ?_ ?_) <;> simp
      · simp [e15]
        try refine ⟨by omega, ?_⟩
        refine hC.weak d46 (Weak.keep ?_ ?_) <;> simp
    have d48 : C 8 #[false, true, true, false, true, false, false, true, true, true, true, true, true, false, true, true, false, false, false] ⟨[(8, .pv (.ptr (h.length + 1) 0)), (36, .pv (.seq false 5 (a.rows.map roR))), (38, .pv (.agg [I64 a.size, I64 id, .seq false 1 (irow lits), BL false, BL true])), (46, .pv (I64 (w64 (w64 (a.size + 3) + lits.length)))), (49, .pv (I64 a.size))], h ++ [[.pv (.seq false 5 (a.rows.map roR)), .pv (I64 a.size)], [.pv (.lit (.slice none 0 0)), .pv (.lit (.int .i64 0))], [.pv (I64 a.size), .pv (I64 id), .pv (.seq false 1 (irow lits)), .pv (BL false), .pv (BL true)]]⟩ := by
      refine hC.fork [(0, #[true, true, true, false, true, false, false, true, true, true, true, true, true, false, true, true, false, false, false]), (5, #[false, true, true, false, true, true, false, true, true, true, true, true, true, false, true, true, false, false, false])] ?_ ⟨?_, ?_, trivial⟩
      · kernel_rfl
      · simp [e0]
        try refine ⟨by omega, ?_⟩
        refine hC.weak d24 (Weak.keep ?_ ?_) <;> simp
      · simp [e5]
        try refine ⟨by omega, ?_⟩
        refine hC.weak d44 (Weak.keep ?_ ?_) <;> simp
    have d49 : C 9 #[false, true, true, false, true, false, false, true, true, true, true, true, true, false, true, false, false, false, false] ⟨[(8, .pv (.ptr (h.length + 1) 0)), (36, .pv (.seq false 5 (a.rows.map roR))), (38, .pv (.agg [I64 a.size, I64 id, .seq false 1 (irow lits), BL false, BL true])), (46, .pv (I64 (w64 (w64 (a.size + 3) + lits.length)))), (48, .pv (.ptr h.length 1))], h ++ [[.pv (.seq false 5 (a.rows.map roR)), .pv (I64 a.size)], [.pv (.lit (.slice none 0 0)), .pv (.lit (.int .i64 0))], [.pv (I64 a.size), .pv (I64 id), .pv (.seq false 1 (irow lits)), .pv (BL false), .pv (BL true)]]⟩ := by
      refine hC.fork [(0, #[true, true, true, false, true, false, false, true, true, true, true, true, true, false, true, false, false, false, false]), (5, #[false, true, true, false, true, true, false, true, true, true, true, true, true, false, true, false, false, false, false]), (15, #[false, true, true, false, true, false, false, true, true, true, true, true, true, false, true, true, false, false, false])] ?_ ⟨?_, ?_, ?_, trivial⟩
      · kernel_rfl
      · simp [e0]
        try refine ⟨by omega, ?_⟩
        refine hC.weak d25 (Weak.keep ?_ ?_) <;> simp
      · simp [e5]
        try refine ⟨by omega, ?_⟩
        refine hC.weak d45 (Weak.keep ?_ ?_) <;> simp
      · simp [e15]
        try refine ⟨by omega, ?_⟩
        refine hC.weak d48 (Weak.keep ?_ ?_) <;> simp
    have d50 : C 11 #[false, true, true, false, true, false, false, true, false, false, true, true, false, false, true, true, false, false, false] ⟨[(8, .pv (.ptr (h.length + 1) 0)), (36, .pv (.seq false 5 (a.rows.map roR))), (38, .pv (.agg [I64 a.size, I64 id, .seq false 1 (irow lits), BL false, BL true])), (41, .pv (.ptr h.length 1)), (45, .pv (I64 lits.length)), (49, .pv (I64 a.size))], h ++ [[.pv (.seq false 5 (a.rows.map roR)), .pv (I64 a.size)], [.pv (.lit (.slice none 0 0)), .pv (.lit (.int .i64 0))], [.pv (I64 a.size), .pv (I64 id), .pv (.seq false 1 (irow lits)), .pv (BL false), .pv (BL true)]]⟩ := by
      refine hC.fork [(0, #[true, true, true, false, true, false, false, true, false, false, true, true, false, false, true, true, false, false, false]), (5, #[false, true, true, false, true, true, false, true, false, false, true, true, false, false, true, true, false, false, false]), (8, #[false, true, true, false, true, false, false, true, true, false, true, true, false, false, true, true, false, false, false])] ?_ ⟨?_, ?_, ?_, trivial⟩
      · kernel_rfl
      · simp [e0]
        try refine ⟨by omega, ?_⟩
        refine hC.weak d26 (Weak.keep ?_ ?_) <;> simp
      · simp [e5]
        try refine ⟨by omega, ?_⟩
        refine hC.weak d46 (Weak.keep ?_ ?_) <;> simp
      · simp [e8]
        try refine ⟨by omega, ?_⟩
        refine hC.take 9 #[false, true, true, false, true, false, false, true, true, true, true, true, false, false, true, true, false, false, false] ?_ ?_
        · kernel_rfl
        simp [e9]
        refine hC.take 12 #[false, true, true, false, true, false, false, true, true, true, true, true, true, false, true, true, false, false, false] ?_ ?_
        · kernel_rfl
        simp [e12]
        refine hC.weak d48 (Weak.keep ?_ ?_) <;> simp
    have d51 : C 12 #[false, true, true, false, true, false, false, true, false, false, true, true, false, false, true, false, false, false, false] ⟨[(8, .pv (.ptr (h.length + 1) 0)), (36, .pv (.seq false 5 (a.rows.map roR))), (38, .pv (.agg [I64 a.size, I64 id, .seq false 1 (irow lits), BL false, BL true])), (41, .pv (.ptr h.length 1)), (45, .pv (I64 lits.length)), (48, .pv (.ptr h.length 1))], h ++ [[.pv (.seq false 5 (a.rows.map roR)), .pv (I64 a.size)], [.pv (.lit (.slice none 0 0)), .pv (.lit (.int .i64 0))], [.pv (I64 a.size), .pv (I64 id), .pv (.seq false 1 (irow lits)), .pv (BL false), .pv (BL true)]]⟩ := by
      refine hC.fork [(0, #[true, true, true, false, true, false, false, true, false, false, true, true, false, false, true, false, false, false, false]), (5, #[false, true, true, false, true, true, false, true, false, false, true, true, false, false, true, false, false, false, false]), (8, #[false, true, true, false, true, false, false, true, true, false, true, true, false, false, true, false, false, false, false]), (15, #[false, true, true, false, true, false, false, true, false, false, true, true, false, false, true, true, false, false, false])] ?_ ⟨?_, ?_, ?_, ?_, trivial⟩
      · kernel_rfl
      · simp [e0]
        try refine ⟨by omega, ?_⟩
        refine hC.weak d27 (Weak.keep ?_ ?_) <;> simp
      · simp [e5]
        try refine ⟨by omega, ?_⟩
        refine hC.weak d47 (Weak.keep ?_ ?_) <;> simp
      · simp [e8]
        try refine ⟨by omega, ?_⟩
        refine hC.take 9 #[false, true, true, false, true, false, false, true, true, true, true, true, false, false, true, false, false, false, false] ?_ ?_
        · kernel_rfl
        simp [e9]
        refine hC.take 12 #[false, true, true, false, true, false, false, true, true, true, true, true, true, false, true, false, false, false, false] ?_ ?_
        · kernel_rfl
        simp [e12]
        refine hC.weak d49 (Weak.keep ?_ ?_) <;> simp
      · simp [e15]
        try refine ⟨by omega, ?_⟩
        refine hC.weak d50 (Weak.keep ?_ ?_) <;> simp
    have d52 : C 9 #[false, true, true, false, false, false, false, true, true, true, true, true, true, false, true, true, false, false, false] ⟨[(8, .pv (.ptr (h.length + 1) 0)), (12, .pv (.ptr (h.length + 2) 0)), (36, .pv (.seq false 5 (a.rows.map roR))), (46, .pv (I64 (w64 (w64 (a.size + 3) + lits.length)))), (49, .pv (I64 a.size))], h ++ [[.pv (.seq false 5 (a.rows.map roR)), .pv (I64 a.size)], [.pv (.lit (.slice none 0 0)), .pv (.lit (.int .i64 0))], [.pv (I64 a.size), .pv (I64 id), .pv (.seq false 1 (irow lits)), .pv (BL false), .pv (BL true)]]⟩ := by
      refine hC.fork [(0, #[true, true, true, false, false, false, false, true, true, true, true, true, true, false, true, true, false, false, false]), (4, #[false, true, true, false, true, false, false, true, true, true, true, true, true, false, true, true, false, false, false])] ?_ ⟨?_, ?_, trivial⟩
      · kernel_rfl
      · simp [e0]
        try refine ⟨by omega, ?_⟩
        refine hC.weak d28 (Weak.keep ?_ ?_) <;> simp
      · simp [e4]
        try refine ⟨by omega, ?_⟩
        refine hC.weak d48 (Weak.keep ?_ ?_) <;> simp
    have d53 : C 10 #[false, true, true, false, false, false, false, true, true, true, true, true, true, false, true, false, false, false, false] ⟨[(8, .pv (.ptr (h.length + 1) 0)), (12, .pv (.ptr (h.length + 2) 0)), (36, .pv (.seq false 5 (a.rows.map roR))), (46, .pv (I64 (w64 (w64 (a.size + 3) + lits.length)))), (48, .pv (.ptr h.length 1))], h ++ [[.pv (.seq false 5 (a.rows.map roR)), .pv (I64 a.size)], [.pv (.lit (.slice none 0 0)), .pv (.lit (.int .i64 0))], [.pv (I64 a.size), .pv (I64 id), .pv (.seq false 1 (irow lits)), .pv (BL false), .pv (BL true)]]⟩ := by
      refine hC.fork [(0, #[true, true, true, false, false, false, false, true, true, true, true, true, true, false, true, false, false, false, false]), (4, #[false, true, true, false, true, false, false, true, true, true, true, true, true, false, true, false, false, false, false]), (15, #[false, true, true, false, false, false, false, true, true, true, true, true, true, false, true, true, false, false, false])] ?_ ⟨?_, ?_, ?_, trivial⟩
      · kernel_rfl
      · simp [e0]
        try refine ⟨by omega, ?_⟩
        refine hC.weak d29 (Weak.keep ?_ ?_) <;> simp
      · simp [e4]
        try refine ⟨by omega, ?_⟩
        refine hC.weak d49 (Weak.keep ?_ ?_) <;> simp
      · simp [e15]
        try refine ⟨by omega, ?_⟩
        refine hC.weak d52 (Weak.keep ?_ ?_) <;> simp
    have d54 : C 12 #[false, true, true, false, false, false, false, true, false, false, true, true, false, false, true, true, false, false, false] ⟨[(8, .pv (.ptr (h.length + 1) 0)), (12, .pv (.ptr (h.length + 2) 0)), (36, .pv (.seq false 5 (a.rows.map roR))), (41, .pv (.ptr h.length 1)), (45, .pv (I64 lits.length)), (49, .pv (I64 a.size))], h ++ [[.pv (.seq false 5 (a.rows.map roR)), .pv (I64 a.size)], [.pv (.lit (.slice none 0 0)), .pv (.lit (.int .i64 0))], [.pv (I64 a.size), .pv (I64 id), .pv (.seq false 1 (irow lits)), .pv (BL false), .pv (BL true)]]⟩ := by
      refine hC.fork [(0, #[true, true, true, false, false, false, false, true, false, false, true, true, false, false, true, true, false, false, false]), (4, #[false, true, true, false, true, false, false, true, false, false, true, true, false, false, true, true, false, false, false]), (8, #[false, true, true, false, false, false, false, true, true, false, true, true, false, false, true, true, false, false, false])] ?_ ⟨?_, ?_, ?_, trivial⟩
      · kernel_rfl
      · simp [e0]
        try refine ⟨by omega, ?_⟩
        refine hC.weak d30 (Weak.keep ?_ ?_) <;> simp
      · simp [e4]
        try refine ⟨by omega, ?_⟩
        refine hC.weak d50 (Weak.keep ?_ ?_) <;> simp
      · simp [e8]
        try refine ⟨by omega, ?_⟩
        refine hC.take 9 #[false, true, true, false, false, false, false, true, true, true, true, true, false, false, true, true, false, false, false] ?_ ?_
        · kernel_rfl
        simp [e9]
        refine hC.take 12 #[false, true, true, false, false, false, false, true, true, true, true, true, true, false, true, true, false, false, false] ?_ ?_
        · kernel_rfl
        simp [e12]
        refine hC.weak d52 (Weak.keep ?_ ?_) <;> simp
    have d55 : C 13 #[false, true, true, false, false, false, false, true, false, false, true, true, false, false, true, false, false, false, false] ⟨[(8, .pv (.ptr (h.length + 1) 0)), (12, .pv (.ptr (h.length + 2) 0)), (36, .pv (.seq false 5 (a.rows.map roR))), (41, .pv (.ptr h.length 1)), (45, .pv (I64 lits.length)), (48, .pv (.ptr h.length 1))], h ++ [[.pv (.seq false 5 (a.rows.map roR)), .pv (I64 a.size)], [.pv (.lit (.slice none 0 0)), .pv (.lit (.int .i64 0))], [.pv (I64 a.size), .pv (I64 id), .pv (.seq false 1 (irow lits)), .pv (BL false), .pv (BL true)]]⟩ := by
      refine hC.fork [(0, #[true, true, true, false, false, false, false, true, false, false, true, true, false, false, true, false, false, false, false]), (4, #[false, true, true, false, true, false, false, true, false, false, true, true, false, false, true, false, false, false, false]), (8, #[false, true, true, false, false, false, false, true, true, false, true, true, false, false, true, false, false, false, false]), (15, #[false, true, true, false, false, false, false, true, false, false, true, true, false, false, true, true, false, false, false])] ?_ ⟨?_, ?_, ?_, ?_, trivial⟩
      · kernel_rfl
      · simp [e0]
        try refine ⟨by omega, ?_⟩
        refine hC.weak d31 (Weak.keep ?_ ?_) <;> simp
      · simp [e4]
        try refine ⟨by omega, ?_⟩
        refine hC.weak d51 (Weak.keep ?_ ?_) <;> simp
      · simp [e8]
        try refine ⟨by omega, ?_⟩
        refine hC.take 9 #[false, true, true, false, false, false, false, true, true, true, true, true, false, false, true, false, false, false, false] ?_ ?_
        · kernel_rfl
        simp [e9]
        refine hC.take 12 #[false, true, true, false, false, false, false, true, true, true, true, true, true, false, true, false, false, false, false] ?_ ?_
        · kernel_rfl
        simp [e12]
        refine hC.weak d53 (Weak.keep ?_ ?_) <;> simp
      · simp [e15]
        try refine ⟨by omega, ?_⟩
        refine hC.weak d54 (Weak.keep ?_ ?_) <;> simp
    have d56 : C 8 #[false, true, false, false, true, true, false, true, true, true, true, true, true, false, true, true, false, false, false] ⟨[(8, .pv (.ptr (h.length + 1) 0)), (35, .pv (.ptr h.length 0)), (39, .own true 5 [[I64 a.size, I64 id, .seq false 1 (irow lits), BL false, BL true]]), (46, .pv (I64 (w64 (w64 (a.size + 3) + lits.length)))), (49, .pv (I64 a.size))], h ++ [[.pv (.seq false 5 (a.rows.map roR)), .pv (I64 a.size)], [.pv (.lit (.slice none 0 0)), .pv (.lit (.int .i64 0))], [.pv (I64 a.size), .pv (I64 id), .pv (.seq false 1 (irow lits)), .pv (BL false), .pv (BL true)]]⟩ := by
      refine hC.fork [(0, #[true, true, false, false, true, true, false, true, true, true, true, true, true, false, true, true, false, false, false]), (2, #[false, true, true, false, true, true, false, true, true, true, true, true, true, false, true, true, false, false, false])] ?_ ⟨?_, ?_, trivial⟩
      · kernel_rfl
      · simp [e0]
        try refine ⟨by omega, ?_⟩
        refine hC.weak d32 (Weak.keep ?_ ?_) <;> simp
      · simp [e2]
        try refine ⟨by omega, ?_⟩
        refine hC.weak d44 (Weak.keep ?_ ?_) <;> simp
    have d57 : C 9 #[false, true, false, false, true, true, false, true, true, true, true, true, true, false, true, false, false, false, false] ⟨[(8, .pv (.ptr (h.length + 1) 0)), (35, .pv (.ptr h.length 0)), (39, .own true 5 [[I64 a.size, I64 id, .seq false 1 (irow lits), BL false, BL true]]), (46, .pv (I64 (w64 (w64 (a.size + 3) + lits.length)))), (48, .pv (.ptr h.length 1))], h ++ [[.pv (.seq false 5 (a.rows.map roR)), .pv (I64 a.size)], [.pv (.lit (.slice none 0 0)), .pv (.lit (.int .i64 0))], [.pv (I64 a.size), .pv (I64 id), .pv (.seq false 1 (irow lits)), .pv (BL false), .pv (BL true)]]⟩ := by
      refine hC.fork [(0, #[true, true, false, false, true, true, false, true, true, true, true, true, true, false, true, false, false, false, false]), (2, #[false, true, true, false, true, true, false, true, true, true, true, true, true, false, true, false, false, false, false]), (15, #[false, true, false, false, true, true, false, true, true, true, true, true, true, false, true, true, false, false, false])] ?_ ⟨?_, ?_, ?_, trivial⟩
      · kernel_rfl
      · simp [e0]
        try refine ⟨by omega, ?_⟩
        refine hC.weak d33 (Weak.keep ?_ ?_) <;> simp
      · simp [e2]
        try refine ⟨by omega, ?_⟩
        refine hC.weak d45 (Weak.keep ?_ ?_) <;> simp
      · simp [e15]
        try refine ⟨by omega, ?_⟩
        refine hC.weak d56 (Weak.keep ?_ ?_) <;> simp
    have d58 : C 11 #[false, true, false, false, true, true, false, true, false, false, true, true, false, false, true, true, false, false, false] ⟨[(8, .pv (.ptr (h.length + 1) 0)), (35, .pv (.ptr h.length 0)), (39, .own true 5 [[I64 a.size, I64 id, .seq false 1 (irow lits), BL false, BL true]]), (41, .pv (.ptr h.length 1)), (45, .pv (I64 lits.length)), (49, .pv (I64 a.size))], h ++ [[.pv (.seq false 5 (a.rows.map roR)), .pv (I64 a.size)], [.pv (.lit (.slice none 0 0)), .pv (.lit (.int .i64 0))], [.pv (I64 a.size), .pv (I64 id), .pv (.seq false 1 (irow lits)), .pv (BL false), .pv (BL true)]]⟩ := by
      refine hC.fork [(0, #[true, true, false, false, true, true, false, true, false, false, true, true, false, false, true, true, false, false, false]), (2, #[false, true, true, false, true, true, false, true, false, false, true, true, false, false, true, true, false, false, false]), (8, #[false, true, false, false, true, true, false, true, true, false, true, true, false, false, true, true, false, false, false])] ?_ ⟨?_, ?_, ?_, trivial⟩
      · kernel_rfl
      · simp [e0]
        try refine ⟨by omega, ?_⟩
        refine hC.weak d34 (Weak.keep ?_ ?_) <;> simp
      · simp [e2]
        try refine ⟨by omega, ?_⟩
        refine hC.weak d46 (Weak.keep ?_ ?_) <;> simp
      · simp [e8]
        try refine ⟨by omega, ?_⟩
        refine hC.take 9 #[false, true, false, false, true, true, false, true, true, true, true, true, false, false, true, true, false, false, false] ?_ ?_
        · kernel_rfl
        simp [e9]
        refine hC.take 12 #[false, true, false, false, true, true, false, true, true, true, true, true, true, false, true, true, false, false, false] ?_ ?_
        · kernel_rfl
        simp [e12]
        refine hC.weak d56 (Weak.keep ?_ ?_) <;> simp
    have d59 : C 12 #[false, true, false, false, true, true, false, true, false, false, true, true, false, false, true, false, false, false, false] ⟨[(8, .pv (.ptr (h.length + 1) 0)), (35, .pv (.ptr h.length 0)), (39, .own true 5 [[I64 a.size, I64 id, .seq false 1 (irow lits), BL false, BL true]]), (41, .pv (.ptr h.length 1)), (45, .pv (I64 lits.length)), (48, .pv (.ptr h.length 1))], h ++ [[.pv (.seq false 5 (a.rows.map roR)), .pv (I64 a.size)], [.pv (.lit (.slice none 0 0)), .pv (.lit (.int .i64 0))], [.pv (I64 a.size), .pv (I64 id), .pv (.seq false 1 (irow lits)), .pv (BL false), .pv (BL true)]]⟩ := by
      refine hC.fork [(0, #[true, true, false, false, true, true, false, true, false, false, true, true, false, false, true, false, false, false, false]), (2, #[false, true, true, false, true, true, false, true, false, false, true, true, false, false, true, false, false, false, false]), (8, #[false, true, false, false, true, true, false, true, true, false, true, true, false, false, true, false, false, false, false]), (15, #[false, true, false, false, true, true, false, true, false, false, true, true, false, false, true, true, false, false, false])] ?_ ⟨?_, ?_, ?_, ?_, trivial⟩
      · kernel_rfl
      · simp [e0]
        try refine ⟨by omega, ?_⟩
        refine hC.weak d35 (Weak.keep ?_ ?_) <;> simp
      · simp [e2]
        try refine ⟨by omega, ?_⟩
        refine hC.weak d47 (Weak.keep ?_ ?_) <;> simp
      · simp [e8]
        try refine ⟨by omega, ?_⟩
        refine hC.take 9 #[false, true, false, false, true, true, false, true, true, true, true, true, false, false, true, false, false, false, false] ?_ ?_
        · kernel_rfl
        simp [e9]
        refine hC.take 12 #[false, true, false, false, true, true, false, true, true, true, true, true, true, false, true, false, false, false, false] ?_ ?_
        · kernel_rfl
        simp [e12]
        refine hC.weak d57 (Weak.keep ?_ ?_) <;> simp
      · simp [e15]
        try refine ⟨by omega, ?_⟩
        refine hC.weak d58 (Weak.keep ?_ ?_) <;> simp
    have d60 : C 9 #[false, true, false, false, true, false, false, true, true, true, true, true, true, false, true, true, false, false, false] ⟨[(8, .pv (.ptr (h.length + 1) 0)), (35, .pv (.ptr h.length 0)), (38, .pv (.agg [I64 a.size, I64 id, .seq false 1 (irow lits), BL false, BL true])), (46, .pv (I64 (w64 (w64 (a.size + 3) + lits.length)))), (49, .pv (I64 a.size))], h ++ [[.pv (.seq false 5 (a.rows.map roR)), .pv (I64 a.size)], [.pv (.lit (.slice none 0 0)), .pv (.lit (.int .i64 0))], [.pv (I64 a.size), .pv (I64 id), .pv (.seq false 1 (irow lits)), .pv (BL false), .pv (BL true)]]⟩ := by
      refine hC.fork [(0, #[true, true, false, false, true, false, false, true, true, true, true, true, true, false, true, true, false, false, false]), (2, #[false, true, true, false, true, false, false, true, true, true, true, true, true, false, true, true, false, false, false]), (5, #[false, true, false, false, true, true, false, true, true, true, true, true, true, false, true, true, false, false, false])] ?_ ⟨?_, ?_, ?_, trivial⟩
      · kernel_rfl
      · simp [e0]
        try refine ⟨by omega, ?_⟩
        refine hC.weak d36 (Weak.keep ?_ ?_) <;> simp
      · simp [e2]
        try refine ⟨by omega, ?_⟩
        refine hC.weak d48 (Weak.keep ?_ ?_) <;> simp
      · simp [e5]
        try refine ⟨by omega, ?_⟩
        refine hC.weak d56 (Weak.keep ?_ ?_) <;> simp
    have d61 : C 10 #[false, true, false, false, true, false, false, true, true, true, true, true, true, false, true, false, false, false, false] ⟨[(8, .pv (.ptr (h.length + 1) 0)), (35, .pv (.ptr h.length 0)), (38, .pv (.agg [I64 a.size, I64 id, .seq false 1 (irow lits), BL false, BL true])), (46, .pv (I64 (w64 (w64 (a.size + 3) + lits.length)))), (48, .pv (.ptr h.length 1))], h ++ [[.pv (.seq false 5 (a.rows.map roR)), .pv (I64 a.size)], [.pv (.lit (.slice none 0 0)), .pv (.lit (.int .i64 0))], [.pv (I64 a.size), .pv (I64 id), .pv (.seq false 1 (irow lits)), .pv (BL false), .pv (BL true)]]⟩ := by
      refine hC.fork [(0, #[true, true, false, false, true, false, false, true, true, true, true, true, true, false, true, false, false, false, false]), (2, #[false, true, true, false, true, false, false, true, true, true, true, true, true, false, true, false, false, false, false]), (5, #[false, true, false, false, true, true, false, true, true, true, true, true, true, false, true, false, false, false, false]), (15, #[false, true, false, false, true, false, false, true, true, true, true, true, true, false, true, true, false, false, false])] ?_ ⟨?_, ?_, ?_, ?_, trivial⟩
      · kernel_rfl
      · simp [e0]
        try refine ⟨by omega, ?_⟩
        refine hC.weak d37 (Weak.keep ?_ ?_) <;> simp
      · simp [e2]
        try refine ⟨by omega, ?_⟩
        refine hC.weak d49 (Weak.keep ?_ ?_) <;> simp
      · simp [e5]
        try refine ⟨by omega, ?_⟩
        refine hC.weak d57 (Weak.keep ?_ ?_) <;> simp
      · simp [e15]
        try refine ⟨by omega, ?_⟩
        refine hC.weak d60 (Weak.keep ?_ ?_) <;> simp
    have d62 : C 12 #[false, true, false, false, true, false, false, true, false, false, true, true, false, false, true, true, false, false, false] ⟨[(8, .pv (.ptr (h.length + 1) 0)), (35, .pv (.ptr h.length 0)), (38, .pv (.agg [I64 a.size, I64 id, .seq false 1 (irow lits), BL false, BL true])), (41, .pv (.ptr h.length 1)), (45, .pv (I64 lits.length)), (49, .pv (I64 a.size))], h ++ [[.pv (.seq false 5 (a.rows.map roR)), .pv (I64 a.size)], [.pv (.lit (.slice none 0 0)), .pv (.lit (.int .i64 0))], [.pv (I64 a.size), .pv (I64 id), .pv (.seq false 1 (irow lits)), .pv (BL false), .pv (BL true)]]⟩ := by
      refine hC.fork [(0, #[true, true, false, false, true, false, false, true, false, false, true, true, false, false, true, true, false, false, false]), (2, #[false, true, true, false, true, false, false, true, false, false, true, true, false, false, true, true, false, false, false]), (5, #[false, true, false, false, true, true, false, true, false, false, true, true, false, false, true, true, false, false, false]), (8, #[false, true, false, false, true, false, false, true, true, false, true, true, false, false, true, true, false, false, false])] ?_ ⟨?_, ?_, ?_, ?_, trivial⟩
      · kernel_rfl
      · simp [e0]
        try refine ⟨by omega, ?_⟩
        refine hC.weak d38 (Weak.keep ?_ ?_) <;> simp
      · simp [e2]
        try refine ⟨by omega, ?_⟩
        refine hC.weak d50 (Weak.keep ?_ ?_) <;> simp
      · simp [e5]
        try refine ⟨by omega, ?_⟩
        refine hC.weak d58 (Weak.keep ?_ ?_) <;> simp
      · simp [e8]
        try refine ⟨by omega, ?_⟩
        refine hC.take 9 #[false, true, false, false, true, false, false, true, true, true, true, true, false, false, true, true, false, false, false] ?_ ?_
        · kernel_rfl
        simp [e9]
        refine hC.take 12 #[false, true, false, false, true, false, false, true, true, true, true, true, true, false, true, true, false, false, false] ?_ ?_
        · kernel_rfl
        simp [e12]
        refine hC.weak d60 (Weak.keep ?_ ?_) <;> simp
    have d63 : C 13 #[false, true, false, false, true, false, false, true, false, false, true, true, false, false, true, false, false, false, false] ⟨[(8, .pv (.ptr (h.length + 1) 0)), (35, .pv (.ptr h.length 0)), (38, .pv (.agg [I64 a.size, I64 id, .seq false 1 (irow lits), BL false, BL true])), (41, .pv (.ptr h.length 1)), (45, .pv (I64 lits.length)), (48, .pv (.ptr h.length 1))], h ++ [[.pv (.seq false 5 (a.rows.map roR)), .pv (I64 a.size)], [.pv (.lit (.slice none 0 0)), .pv (.lit (.int .i64 0))], [.pv (I64 a.size), .pv (I64 id), .pv (.seq false 1 (irow lits)), .pv (BL false), .pv (BL true)]]⟩ := by
      refine hC.fork [(0, #[true, true, false, false, true, false, false, true, false, false, true, true, false, false, true, false, false, false, false]), (2, #[false, true, true, false, true, false, false, true, false, false, true, true, false, false, true, false, false, false, false]), (5, #[false, true, false, false, true, true, false, true, false, false, true, true, false, false, true, false, false, false, false]), (8, #[false, true, false, false, true, false, false, true, true, false, true, true, false, false, true, false, false, false, false]), (15, #[false, true, false, false, true, false, false, true, false, false, true, true, false, false, true, true, false, false, false])] ?_ ⟨?_, ?_, ?_, ?_, ?_, trivial⟩
      · kernel_rfl
      · simp [e0]
        try refine ⟨by omega, ?_⟩
        refine hC.weak d39 (Weak.keep ?_ ?_) <;> simp
      · simp [e2]
        try refine ⟨by omega, ?_⟩
        refine hC.weak d51 (Weak.keep ?_ ?_) <;> simp
      · simp [e5]
        try refine ⟨by omega, ?_⟩
        refine hC.weak d59 (Weak.keep ?_ ?_) <;> simp
      · simp [e8]
        try refine ⟨by omega, ?_⟩
        refine hC.take 9 #[false, true, false, false, true, false, false, true, true, true, true, true, false, false, true, false, false, false, false] ?_ ?_
        · kernel_rfl
        simp [e9]
        refine hC.take 12 #[false, true, false, false, true, false, false, true, true, true, true, true, true, false, true, false, false, false, false] ?_ ?_
        · kernel_rfl
        simp [e12]
        refine hC.weak d61 (Weak.keep ?_ ?_) <;> simp
      · simp [e15]
        try refine ⟨by omega, ?_⟩
        refine hC.weak d62 (Weak.keep ?_ ?_) <;> simp
    have d64 : C 10 #[false, true, false, false, false, false, false, true, true, true, true, true, true, false, true, true, false, false, false] ⟨[(8, .pv (.ptr (h.length + 1) 0)), (12, .pv (.ptr (h.length + 2) 0)), (35, .pv (.ptr h.length 0)), (46, .pv (I64 (w64 (w64 (a.size + 3) + lits.length)))), (49, .pv (I64 a.size))], h ++ [[.pv (.seq false 5 (a.rows.map roR)), .pv (I64 a.size)], [.pv (.lit (.slice none 0 0)), .pv (.lit (.int .i64 0))], [.pv (I64 a.size), .pv (I64 id), .pv (.seq false 1 (irow lits)), .pv (BL false), .pv (BL true)]]⟩ := by
      refine hC.fork [(0, #[true, true, false, false, false, false, false, true, true, true, true, true, true, false, true, true, false, false, false]), (2, #[false, true, true, false, false, false, false, true, true, true, true, true, true, false, true, true, false, false, false]), (4, #[false, true, false, false, true, false, false, true, true, true, true, true, true, false, true, true, false, false, false])] ?_ ⟨?_, ?_, ?_, trivial⟩
      · kernel_rfl
      · simp [e0]
        try refine ⟨by omega, ?_⟩
        refine hC.weak d40 (Weak.keep ?_ ?_) <;> simp
      · simp [e2]
        try refine ⟨by omega, ?_⟩
        refine hC.weak d52 (Weak.keep ?_ ?_) <;> simp
      · simp [e4]
        try refine ⟨by omega, ?_⟩
        refine hC.weak d60 (Weak.keep ?_ ?_) <;> simp
    have d65 : C 11 #[false, true, false, false, false, false, false, true, true, true, true, true, true, false, true, false, false, false, false] ⟨[(8, .pv (.ptr (h.length + 1) 0)), (12, .pv (.ptr (h.length + 2) 0)), (35, .pv (.ptr h.length 0)), (46, .pv (I64 (w64 (w64 (a.size + 3) + lits.length)))), (48, .pv (.ptr h.length 1))], h ++ [[.pv (.seq false 5 (a.rows.map roR)), .pv (I64 a.size)], [.pv (.lit (.slice none 0 0)), .pv (.lit (.int .i64 0))], [.pv (I64 a.size), .pv (I64 id), .pv (.seq false 1 (irow lits)), .pv (BL false), .pv (BL true)]]⟩ := by
      refine hC.fork [(0, #[true, true, false, false, false, false, false, true, true, true, true, true, true, false, true, false, false, false, false]), (2, #[false, true, true, false, false, false, false, true, true, true, true, true, true, false, true, false, false, false, false]), (4, #[false, true, false, false, true, false, false, true, true, true, true, true, true, false, true, false, false, false, false]), (15, #[false, true, false, false, false, false, false, true, true, true, true, true, true, false, true, true, false, false, false])] ?_ ⟨?_, ?_, ?_, ?_, trivial⟩
      · kernel_rfl
      · simp [e0]
        try refine ⟨by omega, ?_⟩
        refine hC.weak d41 (Weak.keep ?_ ?_) <;> simp
      · simp [e2]
        try refine ⟨by omega, ?_⟩
        refine hC.weak d53 (Weak.keep ?_ ?_) <;> simp
      · simp [e4]
        try refine ⟨by omega, ?_⟩
        refine hC.weak d61 (Weak.keep ?_ ?_) <;> simp
      · simp [e15]
        try refine ⟨by omega, ?_⟩
        refine hC.weak d64 (Weak.keep ?_ ?_) <;> simp
    have d66 : C 13 #[false, true, false, false, false, false, false, true, false, false, true, true, false, false, true, true, false, false, false] ⟨[(8, .pv (.ptr (h.length + 1) 0)), (12, .pv (.ptr (h.length + 2) 0)), (35, .pv (.ptr h.length 0)), (41, .pv (.ptr h.length 1)), (45, .pv (I64 lits.length)), (49, .pv (I64 a.size))], h ++ [[.pv (.seq false 5 (a.rows.map roR)), .pv (I64 a.size)], [.pv (.lit (.slice none 0 0)), .pv (.lit (.int .i64 0))], [.pv (I64 a.size), .pv (I64 id), .pv (.seq false 1 (irow lits)), .pv (BL false), .pv (BL true)]]⟩ := by
      refine hC.fork [(0, #[true, true, false, false, false, false, false, true, false, false, true, true, false, false, true, true, false, false, false]), (2, #[false, true, true, false, false, false, false, true, false, false, true, true, false, false, true, true, false, false, false]), (4, #[false, true, false, false, true, false, false, true, false, false, true, true, false, false, true, true, false, false, false]), (8, #[false, true, false, false, false, false, false, true, true, false, true, true, false, false, true, true, false, false, false])] ?_ ⟨?_, ?_, ?_, ?_, trivial⟩
      · kernel_rfl
      · simp [e0]
        try refine ⟨by omega, ?_⟩
        refine hC.weak d42 (Weak.keep ?_ ?_) <;> simp
      · simp [e2]
        try refine ⟨by omega, ?_⟩
        refine hC.weak d54 (Weak.keep ?_ ?_) <;> simp
      · simp [e4]
        try refine ⟨by omega, ?_⟩
        refine hC.weak d62 (Weak.keep ?_ ?_) <;> simp
      · simp [e8]
        try refine ⟨by omega, ?_⟩
        refine hC.take 9 #[false, true, false, false, false, false, false, true, true, true, true, true, false, false, true, true, false, false, false] ?_ ?_
        · kernel_rfl
        simp [e9]
        refine hC.take 12 #[false, true, false, false, false, false, false, true, true, true, true, true, true, false, true, true, false, false, false] ?_ ?_
        · kernel_rfl
        simp [e12]
        refine hC.weak d64 (Weak.keep ?_ ?_) <;> simp
    have d67 : C 14 #[false, true, false, false, false, false, false, true, false, false, true, true, false, false, true, false, false, false, false] ⟨[(8, .pv (.ptr (h.length + 1) 0)), (12, .pv (.ptr (h.length + 2) 0)), (35, .pv (.ptr h.length 0)), (41, .pv (.ptr h.length 1)), (45, .pv (I64 lits.length)), (48, .pv (.ptr h.length 1))], h ++ [[.pv (.seq false 5 (a.rows.map roR)), .pv (I64 a.size)], [.pv (.lit (.slice none 0 0)), .pv (.lit (.int .i64 0))], [.pv (I64 a.size), .pv (I64 id), .pv (.seq false 1 (irow lits)), .pv (BL false), .pv (BL true)]]⟩ := by
      refine hC.fork [(0, #[true, true, false, false, false, false, false, true, false, false, true, true, false, false, true, false, false, false, false]), (2, #[false, true, true, false, false, false, false, true, false, false, true, true, false, false, true, false, false, false, false]), (4, #[false, true, false, false, true, false, false, true, false, false, true, true, false, false, true, false, false, false, false]), (8, #[false, true, false, false, false, false, false, true, true, false, true, true, false, false, true, false, false, false, false]), (15, #[false, true, false, false, false, false, false, true, false, false, true, true, false, false, true, true, false, false, false])] ?_ ⟨?_, ?_, ?_, ?_, ?_, trivial⟩
      · kernel_rfl
      · simp [e0]
        try refine ⟨by omega, ?_⟩
        refine hC.weak d43 (Weak.keep ?_ ?_) <;> simp
      · simp [e2]
        try refine ⟨by omega, ?_⟩
        refine hC.weak d55 (Weak.keep ?_ ?_) <;> simp
      · simp [e4]
        try refine ⟨by omega, ?_⟩
        refine hC.weak d63 (Weak.keep ?_ ?_) <;> simp
      · simp [e8]
        try refine ⟨by omega, ?_⟩
        refine hC.take 9 #[false, true, false, false, false, false, false, true, true, true, true, true, false, false, true, false, false, false, false] ?_ ?_
        · kernel_rfl
        simp [e9]
        refine hC.take 12 #[false, true, false, false, false, false, false, true, true, true, true, true, true, false, true, false, false, false, false] ?_ ?_
        · kernel_rfl
        simp [e12]
        refine hC.weak d65 (Weak.keep ?_ ?_) <;> simp
      · simp [e15]
        try refine ⟨by omega, ?_⟩
        refine hC.weak d66 (Weak.keep ?_ ?_) <;> simp
    refine hC.take 1 #[false, true, false, false, false, false, false, false, false, false, false, false, false, false, false, false, false, false, false] ?_ ?_
    · kernel_rfl
    simp [e1]
    refine hC.take 7 #[false, true, false, false, false, false, false, true, false, false, false, false, false, false, false, false, false, false, false] ?_ ?_
    · kernel_rfl
    simp [e7]
    refine hC.take 10 #[false, true, false, false, false, false, false, true, false, false, true, false, false, false, false, false, false, false, false] ?_ ?_
    · kernel_rfl
    simp [e10]
    refine hC.take 11 #[false, true, false, false, false, false, false, true, false, false, true, true, false, false, false, false, false, false, false] ?_ ?_
    · kernel_rfl
    simp [e11]
    refine hC.take 14 #[false, true, false, false, false, false, false, true, false, false, true, true, false, false, true, false, false, false, false] ?_ ?_
    · kernel_rfl
    simp [e14]
    refine hC.weak d67 (Weak.keep ?_ ?_) <;> simp
  have d1 : C 1 #[true, true, true, true, true, true, true, true, true, false] ⟨[(2, .pv (.seq false 1 (irow lits))), (4, .pv (.ptr h.length 0)), (8, .pv (.ptr (h.length + 1) 0)), (33, .pv (.agg [I64 a.size, I64 id, .seq true 1 (irow lits), BL false, BL true])), (12, .pv (.ptr (h.length + 2) 0))], h ++ [[.pv (.seq false 5 (a.rows.map roR)), .pv (I64 a.size)], [.pv (.lit (.slice none 0 0)), .pv (.lit (.int .i64 0))], [.pv (.lit (.int .i64 0)), .pv (.lit (.int .i64 0)), .pv (.lit (.slice none 0 0)), .pv (.lit (.bool false)), .pv (.lit (.bool false))]]⟩ := by
    refine hC.fork [(9, #[true, true, true, true, true, true, true, true, true, true])] ?_ ⟨?_, trivial⟩
    · kernel_rfl
    · simp [e9]
      try refine ⟨by omega, ?_⟩
      exact hC.weak d0 (Weak.le (by simp [wkPL, wkP]) (wkHs_app h (by simp [wkPL, wkP])))
  have d2 : C 2 #[true, true, true, true, true, true, true, true, false, false] ⟨[(2, .pv (.seq false 1 (irow lits))), (4, .pv (.ptr h.length 0)), (8, .pv (.ptr (h.length + 1) 0)), (33, .pv (.agg [I64 a.size, I64 id, .seq true 1 (irow lits), BL false, BL true]))], h ++ [[.pv (.seq false 5 (a.rows.map roR)), .pv (I64 a.size)], [.pv (.lit (.slice none 0 0)), .pv (.lit (.int .i64 0))]]⟩ := by
    refine hC.fork [(8, #[true, true, true, true, true, true, true, true, true, false])] ?_ ⟨?_, trivial⟩
    · kernel_rfl
    · simp [e8]
      try refine ⟨by omega, ?_⟩
      refine hC.weak d1 (Weak.keep ?_ ?_) <;> simp
  have d3 : C 2 #[true, true, true, true, true, true, true, false, true, false] ⟨[(2, .pv (.seq false 1 (irow lits))), (4, .pv (.ptr h.length 0)), (8, .pv (.ptr (h.length + 1) 0)), (27, .pv (I64 a.size)), (28, .pv (I64 id)), (31, .own true 1 (irow lits)), (32, .pv (BL false)), (12, .pv (.ptr (h.length + 2) 0))], h ++ [[.pv (.seq false 5 (a.rows.map roR)), .pv (I64 a.size)], [.pv (.lit (.slice none 0 0)), .pv (.lit (.int .i64 0))], [.pv (.lit (.int .i64 0)), .pv (.lit (.int .i64 0)), .pv (.lit (.slice none 0 0)), .pv (.lit (.bool false)), .pv (.lit (.bool false))]]⟩ := by
    refine hC.fork [(7, #[true, true, true, true, true, true, true, true, true, false])] ?_ ⟨?_, trivial⟩
    · kernel_rfl
    · simp [e7]
      try refine ⟨by omega, ?_⟩
      refine hC.weak d1 (Weak.keep ?_ ?_) <;> simp
  have d4 : C 3 #[true, true, true, true, true, true, true, false, false, false] ⟨[(2, .pv (.seq false 1 (irow lits))), (4, .pv (.ptr h.length 0)), (8, .pv (.ptr (h.length + 1) 0)), (27, .pv (I64 a.size)), (28, .pv (I64 id)), (31, .own true 1 (irow lits)), (32, .pv (BL false))], h ++ [[.pv (.seq false 5 (a.rows.map roR)), .pv (I64 a.size)], [.pv (.lit (.slice none 0 0)), .pv (.lit (.int .i64 0))]]⟩ := by
    refine hC.fork [(7, #[true, true, true, true, true, true, true, true, false, false]), (8, #[true, true, true, true, true, true, true, false, true, false])] ?_ ⟨?_, ?_, trivial⟩
    · kernel_rfl
    · simp [e7]
      try refine ⟨by omega, ?_⟩
      refine hC.weak d2 (Weak.keep ?_ ?_) <;> simp
    · simp [e8]
      try refine ⟨by omega, ?_⟩
      refine hC.weak d3 (Weak.keep ?_ ?_) <;> simp
  have d5 : C 3 #[true, true, true, true, true, false, true, false, true, false] ⟨[(2, .pv (.seq false 1 (irow lits))), (4, .pv (.ptr h.length 0)), (8, .pv (.ptr (h.length + 1) 0)), (27, .pv (I64 a.size)), (28, .pv (I64 id)), (29, .own true 1 []), (30, .pv (.seq false 1 (irow lits))), (32, .pv (BL false)), (12, .pv (.ptr (h.length + 2) 0))], h ++ [[.pv (.seq false 5 (a.rows.map roR)), .pv (I64 a.size)], [.pv (.lit (.slice none 0 0)), .pv (.lit (.int .i64 0))], [.pv (.lit (.int .i64 0)), .pv (.lit (.int .i64 0)), .pv (.lit (.slice none 0 0)), .pv (.lit (.bool false)), .pv (.lit (.bool false))]]⟩ := by
    refine hC.fork [(5, #[true, true, true, true, true, true, true, false, true, false])] ?_ ⟨?_, trivial⟩
    · kernel_rfl
    · simp [e5]
      try refine ⟨by omega, ?_⟩
      refine hC.weak d3 (Weak.keep ?_ ?_) <;> simp
  have d6 : C 4 #[true, true, true, true, true, false, true, false, false, false] ⟨[(2, .pv (.seq false 1 (irow lits))), (4, .pv (.ptr h.length 0)), (8, .pv (.ptr (h.length + 1) 0)), (27, .pv (I64 a.size)), (28, .pv (I64 id)), (29, .own true 1 []), (30, .pv (.seq false 1 (irow lits))), (32, .pv (BL false))], h ++ [[.pv (.seq false 5 (a.rows.map roR)), .pv (I64 a.size)], [.pv (.lit (.slice none 0 0)), .pv (.lit (.int .i64 0))]]⟩ := by
    refine hC.fork [(5, #[true, true, true, true, true, true, true, false, false, false]), (8, #[true, true, true, true, true, false, true, false, true, false])] ?_ ⟨?_, ?_, trivial⟩
    · kernel_rfl
    · simp [e5]
      try refine ⟨by omega, ?_⟩
      refine hC.weak d4 (Weak.keep ?_ ?_) <;> simp
    · simp [e8]
      try refine ⟨by omega, ?_⟩
      refine hC.weak d5 (Weak.keep ?_ ?_) <;> simp
  have d7 : C 4 #[true, true, true, false, true, false, true, false, true, false] ⟨[(2, .pv (.seq false 1 (irow lits))), (4, .pv (.ptr h.length 0)), (8, .pv (.ptr (h.length + 1) 0)), (27, .pv (I64 a.size)), (28, .pv (I64 id)), (30, .pv (.seq false 1 (irow lits))), (32, .pv (BL false)), (12, .pv (.ptr (h.length + 2) 0))], h ++ [[.pv (.seq false 5 (a.rows.map roR)), .pv (I64 a.size)], [.pv (.lit (.slice none 0 0)), .pv (.lit (.int .i64 0))], [.pv (.lit (.int .i64 0)), .pv (.lit (.int .i64 0)), .pv (.lit (.slice none 0 0)), .pv (.lit (.bool false)), .pv (.lit (.bool false))]]⟩ := by
    refine hC.fork [(3, #[true, true, true, true, true, false, true, false, true, false])] ?_ ⟨?_, trivial⟩
    · kernel_rfl
    · simp [e3]
      try refine ⟨by omega, ?_⟩
      refine hC.weak d5 (Weak.keep ?_ ?_) <;> simp
  have d8 : C 5 #[true, true, true, false, true, false, true, false, false, false] ⟨[(2, .pv (.seq false 1 (irow lits))), (4, .pv (.ptr h.length 0)), (8, .pv (.ptr (h.length + 1) 0)), (27, .pv (I64 a.size)), (28, .pv (I64 id)), (30, .pv (.seq false 1 (irow lits))), (32, .pv (BL false))], h ++ [[.pv (.seq false 5 (a.rows.map roR)), .pv (I64 a.size)], [.pv (.lit (.slice none 0 0)), .pv (.lit (.int .i64 0))]]⟩ := by
    refine hC.fork [(3, #[true, true, true, true, true, false, true, false, false, false]), (8, #[true, true, true, false, true, false, true, false, true, false])] ?_ ⟨?_, ?_, trivial⟩
    · kernel_rfl
    · simp [e3]
      try refine ⟨by omega, ?_⟩
      refine hC.weak d6 (Weak.keep ?_ ?_) <;> simp
    · simp [e8]
      try refine ⟨by omega, ?_⟩
      refine hC.weak d7 (Weak.keep ?_ ?_) <;> simp
  have d9 : C 3 #[true, false, true, true, true, true, true, false, true, false] ⟨[(2, .pv (.seq false 1 (irow lits))), (4, .pv (.ptr h.length 0)), (8, .pv (.ptr (h.length + 1) 0)), (26, .pv (.ptr h.length 1)), (28, .pv (I64 id)), (31, .own true 1 (irow lits)), (32, .pv (BL false)), (12, .pv (.ptr (h.length + 2) 0))], h ++ [[.pv (.seq false 5 (a.rows.map roR)), .pv (I64 a.size)], [.pv (.lit (.slice none 0 0)), .pv (.lit (.int .i64 0))], [.pv (.lit (.int .i64 0)), .pv (.lit (.int .i64 0)), .pv (.lit (.slice none 0 0)), .pv (.lit (.bool false)), .pv (.lit (.bool false))]]⟩ := by
    refine hC.fork [(1, #[true, true, true, true, true, true, true, false, true, false])] ?_ ⟨?_, trivial⟩
    · kernel_rfl
    · simp [e1]
      try refine ⟨by omega, ?_⟩
      refine hC.weak d3 (Weak.keep ?_ ?_) <;> simp
  have d10 : C 4 #[true, false, true, true, true, true, true, false, false, false] ⟨[(2, .pv (.seq false 1 (irow lits))), (4, .pv (.ptr h.length 0)), (8, .pv (.ptr (h.length + 1) 0)), (26, .pv (.ptr h.length 1)), (28, .pv (I64 id)), (31, .own true 1 (irow lits)), (32, .pv (BL false))], h ++ [[.pv (.seq false 5 (a.rows.map roR)), .pv (I64 a.size)], [.pv (.lit (.slice none 0 0)), .pv (.lit (.int .i64 0))]]⟩ := by
    refine hC.fork [(1, #[true, true, true, true, true, true, true, false, false, false]), (8, #[true, false, true, true, true, true, true, false, true, false])] ?_ ⟨?_, ?_, trivial⟩
    · kernel_rfl
    · simp [e1]
      try refine ⟨by omega, ?_⟩
      refine hC.weak d4 (Weak.keep ?_ ?_) <;> simp
    · simp [e8]
      try refine ⟨by omega, ?_⟩
      refine hC.weak d9 (Weak.keep ?_ ?_) <;> simp
  have d11 : C 4 #[true, false, true, true, true, false, true, false, true, false] ⟨[(2, .pv (.seq false 1 (irow lits))), (4, .pv (.ptr h.length 0)), (8, .pv (.ptr (h.length + 1) 0)), (26, .pv (.ptr h.length 1)), (28, .pv (I64 id)), (29, .own true 1 []), (30, .pv (.seq false 1 (irow lits))), (32, .pv (BL false)), (12, .pv (.ptr (h.length + 2) 0))], h ++ [[.pv (.seq false 5 (a.rows.map roR)), .pv (I64 a.size)], [.pv (.lit (.slice none 0 0)), .pv (.lit (.int .i64 0))], [.pv (.lit (.int .i64 0)), .pv (.lit (.int .i64 0)), .pv (.lit (.slice none 0 0)), .pv (.lit (.bool false)), .pv (.lit (.bool false))]]⟩ := by
    refine hC.fork [(1, #[true, true, true, true, true, false, true, false, true, false]), (5, #[true, false, true, true, true, true, true, false, true, false])] ?_ ⟨?_, ?_, trivial⟩
    · kernel_rfl
    · simp [e1]
      try refine ⟨by omega, ?_⟩
      refine hC.weak d5 (Weak.keep ?_ ?_) <;> simp
    · simp [e5]
      try refine ⟨by omega, ?_⟩
      refine hC.weak d9 (Weak.keep ?_ ?_) <;> simp
  have d12 : C 5 #[true, false, true, true, true, false, true, false, false, false] ⟨[(2, .pv (.seq false 1 (irow lits))), (4, .pv (.ptr h.length 0)), (8, .pv (.ptr (h.length + 1) 0)), (26, .pv (.ptr h.length 1)), (28, .pv (I64 id)), (29, .own true 1 []), (30, .pv (.seq false 1 (irow lits))), (32, .pv (BL false))], h ++ [[.pv (.seq false 5 (a.rows.map roR)), .pv (I64 a.size)], [.pv (.lit (.slice none 0 0)), .pv (.lit (.int .i64 0))]]⟩ := by
    refine hC.fork [(1, #[true, true, true, true, true, false, true, false, false, false]), (5, #[true, false, true, true, true, true, true, false, false, false]), (8, #[true, false, true, true, true, false, true, false, true, false])] ?_ ⟨?_, ?_, ?_, trivial⟩
    · kernel_rfl
    · simp [e1]
      try refine ⟨by omega, ?_⟩
      refine hC.weak d6 (Weak.keep ?_ ?_) <;> simp
    · simp [e5]
      try refine ⟨by omega, ?_⟩
      refine hC.weak d10 (Weak.keep ?_ ?_) <;> simp
    · simp [e8]
      try refine ⟨by omega, ?_⟩
      refine hC.weak d11 (Weak.keep ?_ ?_) <;> simp
  have d13 : C 5 #[true, false, true, false, true, false, true, false, true, false] ⟨[(2, .pv (.seq false 1 (irow lits))), (4, .pv (.ptr h.length 0)), (8, .pv (.ptr (h.length + 1) 0)), (26, .pv (.ptr h.length 1)), (28, .pv (I64 id)), (30, .pv (.seq false 1 (irow lits))), (32, .pv (BL false)), (12, .pv (.ptr (h.length + 2) 0))], h ++ [[.pv (.seq false 5 (a.rows.map roR)), .pv (I64 a.size)], [.pv (.lit (.slice none 0 0)), .pv (.lit (.int .i64 0))], [.pv (.lit (.int .i64 0)), .pv (.lit (.int .i64 0)), .pv (.lit (.slice none 0 0)), .pv (.lit (.bool false)), .pv (.lit (.bool false))]]⟩ := by
    refine hC.fork [(1, #[true, true, true, false, true, false, true, false, true, false]), (3, #[true, false, true, true, true, false, true, false, true, false])] ?_ ⟨?_, ?_, trivial⟩
    · kernel_rfl
    · simp [e1]
      try refine ⟨by omega, ?_⟩
      refine hC.weak d7 (Weak.keep ?_ ?_) <;> simp
    · simp [e3]
      try refine ⟨by omega, ?_⟩
      refine hC.weak d11 (Weak.keep ?_ ?_) <;> simp
  have d14 : C 6 #[true, false, true, false, true, false, true, false, false, false] ⟨[(2, .pv (.seq false 1 (irow lits))), (4, .pv (.ptr h.length 0)), (8, .pv (.ptr (h.length + 1) 0)), (26, .pv (.ptr h.length 1)), (28, .pv (I64 id)), (30, .pv (.seq false 1 (irow lits))), (32, .pv (BL false))], h ++ [[.pv (.seq false 5 (a.rows.map roR)), .pv (I64 a.size)], [.pv (.lit (.slice none 0 0)), .pv (.lit (.int .i64 0))]]⟩ := by
    refine hC.fork [(1, #[true, true, true, false, true, false, true, false, false, false]), (3, #[true, false, true, true, true, false, true, false, false, false]), (8, #[true, false, true, false, true, false, true, false, true, false])] ?_ ⟨?_, ?_, ?_, trivial⟩
    · kernel_rfl
    · simp [e1]
      try refine ⟨by omega, ?_⟩
      refine hC.weak d8 (Weak.keep ?_ ?_) <;> simp
    · simp [e3]
      try refine ⟨by omega, ?_⟩
      refine hC.weak d12 (Weak.keep ?_ ?_) <;> simp
    · simp [e8]
      try refine ⟨by omega, ?_⟩
      refine hC.weak d13 (Weak.keep ?_ ?_) <;> simp
  refine hC.take 0 #[true, false, false, false, false, false, false, false, false, false] ?_ ?_
  · kernel_rfl
  simp [e0]
  refine hC.take 2 #[true, false, true, false, false, false, false, false, false, false] ?_ ?_
  · kernel_rfl
  simp [e2]
  refine hC.take 4 #[true, false, true, false, true, false, false, false, false, false] ?_ ?_
  · kernel_rfl
  simp [e4]
  refine hC.take 6 #[true, false, true, false, true, false, true, false, false, false] ?_ ?_
  · kernel_rfl
  simp [e6]
  refine hC.weak d14 (Weak.keep ?_ ?_) <;> simp
end Go.AX
