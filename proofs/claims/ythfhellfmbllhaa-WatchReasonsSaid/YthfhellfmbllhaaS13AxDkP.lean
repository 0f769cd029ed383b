/-
  Contracts: the document's trails that grow, and its arenas.
  Trails: what the program keeps and what the document keeps go together (plain law).
-/
import Derived.Test.YthfhellfmbllhaaS13AxRfA
import Derived.Test.YthfhellfmbllhaaS13AxClG
import Derived.Test.YthfhellfmbllhaaAxIs
namespace Go.AX
open Go.Proofs
set_option linter.unusedSimpArgs false

theorem rfNew_ok (h : List (List SV)) : AMut Try.prog 23 [I64 6] h (fun r h' => h' = h ∧ r = .pv (.tup [rtV ⟨6, [], 0⟩, I64 0])) := by
  refine amutXW [] [.cell 2 _, .tmp 3] hmo Try.func23 (by kernel_rfl) rfl rfl (by kernel_rfl) (Nat.le_of_ble_eq_true rfl) ?_
  simp [rtV, wkPL, wkP]

structure RelT (T : Tr) (t : RT) : Prop where
  len : T.marks.length = 7
  vars : t.vars = 6
  lits : T.lits = t.rows.map (·.l)
  dep : t.dep = (T.beg.length : Int)
  ok : ∀ x ∈ t.rows, litChk x.l 6 = 0 ∧ 0 ≤ x.lev ∧ x.lev ≤ t.dep
  free : ∀ v : Int, plR t v < 0 → (mkAt T v).v = 0
  mark : ∀ (v : Int) (i : Nat) (hi : i < t.rows.length), plR t v = (i : Int) → mkAt T v = ⟨if t.rows[i].l < 0 then -1 else 1, t.rows[i].lev, t.rows[i].rea, i⟩
  cnt : T.marks.countP (fun m => decide (m.v ≠ 0)) = t.rows.length

theorem RelT.few {T : Tr} {t : RT} (h : RelT T t) : t.rows.length ≤ 7 := by
  have := List.countP_le_length (p := fun m : Mk => decide (m.v ≠ 0)) (l := T.marks)
  rw [h.cnt, h.len] at this
  exact this
end Go.AX
