/-
  Contracts: events.
  Contracts: the operations of events.
  Contracts: the same pairs, the same operations; what is free.
  Contracts: histories (kinds, what is a process', the same).
  Contracts: histories (whether events are one; what is open; what is done).
  Contracts: histories (a process' events; what is done).
-/
import Derived.Test.YtklaffmpfmpffaaGreatS11AxCntI
import Derived.Test.YtklaffmpfmpffaaGreatS11AxMovS
namespace Go.AX
open Go.Proofs
set_option linter.unusedSimpArgs false

structure Ev where
  w : Int
  p : Int
  n : Int
instance : Inhabited Ev := ⟨⟨0, 0, 0⟩⟩
def evR (x : Ev) : List PV := [I64 x.w, I64 x.p, I64 x.n]
@[simp] theorem belowR_ev (k : Nat) (l : List Ev) : belowR k (l.map evR) := by
  induction l with
  | nil => trivial
  | cons x xs ih => exact ⟨⟨trivial, trivial, trivial, trivial⟩, ih⟩
end Go.AX

namespace Go.AX
open Go.Proofs
set_option linter.unusedSimpArgs false

@[simp] theorem frzR_ev (r : Nat → Nat → PV) (l : List Ev) : frzR r (l.map evR) = l.map evR := by
  rw [frzR_map, List.map_map]; congr 1
end Go.AX

namespace Go.AX
open Go.Proofs
set_option linter.unusedSimpArgs false

end Go.AX

namespace Go.AX
open Go.Proofs
set_option linter.unusedSimpArgs false

theorem ev_ext : ∀ x y : Ev, x.w = y.w → x.p = y.p → x.n = y.n → x = y := fun x y h1 h2 h3 => by
  cases x; cases y; simp at h1 h2 h3; subst h1 h2 h3; rfl
instance : DecidableEq Ev := fun a b => if h : a.w = b.w ∧ a.p = b.p ∧ a.n = b.n then .isTrue (ev_ext a b h.1 h.2.1 h.2.2) else .isFalse fun e => h (by subst e; exact ⟨rfl, rfl, rfl⟩)

end Go.AX

namespace Go.AX
open Go.Proofs
set_option linter.unusedSimpArgs false

@[simp] theorem frzR_ev_take (r : Nat → Nat → PV) (l : List Ev) (i : Nat) : frzR r ((l.map evR).take i) = (l.map evR).take i := by
  rw [← List.map_take, frzR_ev]
end Go.AX

namespace Go.AX
open Go.Proofs
set_option linter.unusedSimpArgs false

@[simp] theorem frzE_fI (r : Nat → Nat → PV) (l : List (Int × Int)) : frzE r (mapE fI l) = mapE fI l := by
  rw [frzE_map]; unfold mapE; rw [List.map_map]; congr 1
@[simp] theorem nwE_fI (l : List (Int × Int)) : nwE (mapE fI l) := by
  rw [nwE_iff]; intro r hr
  obtain ⟨x, _, rfl⟩ := List.mem_map.1 hr
  trivial
@[simp] theorem nwR_ev (l : List Ev) : nwR (l.map evR) := by
  rw [nwR_iff]; intro r hr
  obtain ⟨x, _, rfl⟩ := List.mem_map.1 hr
  exact ⟨trivial, trivial, trivial, trivial⟩
@[simp] theorem oldR_ev (l : List Ev) : oldR (l.map evR) := by
  induction l with
  | nil => trivial
  | cons x xs ih => exact ⟨⟨trivial, trivial, trivial, trivial⟩, ih⟩
end Go.AX
