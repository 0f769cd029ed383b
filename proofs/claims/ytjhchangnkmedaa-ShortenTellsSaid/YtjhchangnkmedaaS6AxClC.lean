/-
  Contracts: slices.Compact of numbers.
-/
import Derived.Test.YtjhchangnkmedaaS6AxTrA
namespace Go.AX
open Go.Proofs
set_option linter.unusedSimpArgs false

/-- What is left when each is dropped that is as the one ahead of it. -/
def compTo (zs : List Int) : Nat → List Int
  | 0 => []
  | j + 1 => if j = 0 ∨ zs.getD j 0 ≠ zs.getD (j - 1) 0 then compTo zs j ++ [zs.getD j 0] else compTo zs j
def compS (zs : List Int) : List Int := compTo zs zs.length
theorem compTo_len (zs : List Int) : ∀ j, (compTo zs j).length ≤ j
  | 0 => Nat.le_refl _
  | j + 1 => by
    have := compTo_len zs j
    rw [compTo]
    split
    · rw [List.length_append, List.length_singleton]; omega
    · omega
theorem compTo_pos (zs : List Int) : ∀ j, 0 < j → 0 < (compTo zs j).length
  | 0, h => by omega
  | 1, _ => by rw [compTo, if_pos (.inl rfl)]; simp
  | j + 2, _ => by
    have := compTo_pos zs (j + 1) (by omega)
    rw [compTo]
    split
    · rw [List.length_append]; omega
    · exact this
def cmpR (zs : List Int) (k : Option Nat) (rows : List (List PV)) : Prop := k = some (compS zs).length ∧ rows = intsB (compS zs ++ List.replicate (zs.length - (compS zs).length) 0)
end Go.AX
