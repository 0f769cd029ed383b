/-
  Contracts: the document's trails that grow, and its arenas.
-/
import Derived.Test.YthfhellfmbllhaaGreatS12AxRfA
import Derived.Test.YthfhellfmbllhaaGreatS12AxClG
import Derived.Test.YthfhellfmbllhaaGreatAxBL
namespace Go.AX
open Go.Proofs
set_option linter.unusedSimpArgs false
structure Ro where
  at' : Int
  id : Int
  lits : List Int
structure RA where
  rows : List Ro
  size : Int
def roR (x : Ro) : List PV := [I64 x.at', I64 x.id, .seq false 1 (irow x.lits), BL false, BL true]
@[simp] theorem belowR_roR (k : Nat) (l : List Ro) : belowR k (l.map roR) := by
  induction l with
  | nil => trivial
  | cons x xs ih => exact ⟨⟨trivial, trivial, belowR_irow k _, trivial, trivial, trivial⟩, ih⟩
@[simp] theorem frzR_roR (r : Nat → Nat → PV) (l : List Ro) : frzR r (l.map roR) = l.map roR := by
  rw [frzR_map, List.map_map]
  apply List.map_congr_left
  intro x _
  simp [roR]
end Go.AX
