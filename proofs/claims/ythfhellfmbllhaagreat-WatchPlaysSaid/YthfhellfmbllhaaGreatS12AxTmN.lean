/-
  Contracts: lrat.Checker: its numbers; what is dropped.
-/
import Derived.Test.YthfhellfmbllhaaGreatS12AxTmO
import Derived.Test.YthfhellfmbllhaaGreatAxBe
namespace Go.AX
open Go.Proofs
set_option linter.unusedSimpArgs false
def idsS (c : Ck) : List Int := sortZ (c.m.map (·.1))
def dl {α : Type} : List (Int × α) → Int → List (Int × α)
  | [], _ => []
  | (k, x) :: r, n => if k = n then r else (k, x) :: dl r n
def dropB (c : Ck) (ids : List Int) : Bool := decide ((compS (sortZ ids)).length < ids.length) || !thereS c ids
def dropTo (c : Ck) (ids : List Int) (i : Nat) : Ck := ⟨(ids.take i).foldl dl c.m, c.last, c.done⟩
def dropC (c : Ck) (ids : List Int) : Ck := if dropB c ids = true then c else dropTo c ids ids.length
def dropE (c : Ck) (ids : List Int) : Int := if dropB c ids = true then 20 else 0
end Go.AX
