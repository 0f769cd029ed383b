/-
  Contracts: arenas that are only read; what other literals a reason has.
  Contracts: the asker of what is deeply left over.
  Contracts: a clause that is made shorter.
-/
import Derived.Test.YthfhellfmbllhaaGreatS12AxDkQ
import Derived.Test.YthfhellfmbllhaaGreatS12AxGlD
import Derived.Test.YthfhellfmbllhaaGreatAxBe
import Derived.Test.YthfhellfmbllhaaGreatS12AxEvC
import Derived.Test.YthfhellfmbllhaaGreatAxIs
namespace Go.AX
open Go.Proofs
set_option linter.unusedSimpArgs false
@[simp] theorem oldR_irow : ∀ l : List Int, oldR (irow l)
  | [] => trivial
  | _ :: l => ⟨⟨trivial, trivial⟩, oldR_irow l⟩
@[simp] theorem oldR_mkR : ∀ l : List Mk, oldR (l.map mkR)
  | [] => trivial
  | _ :: l => ⟨⟨trivial, trivial, trivial, trivial, trivial⟩, oldR_mkR l⟩
@[simp] theorem mapE_cons (k v : Int) (l : List (Int × Int)) : mapE fI ((k, v) :: l) = (k, I64 v) :: mapE fI l := rfl
def litsA (A : Ar) (q : Int) : List Int := if isA A q = true then partA' A q.toNat (A.row.getD (q.toNat + 1) 0).toNat else []
def ArOk (A : Ar) : Prop := ∀ q : Int, isA A q = true → ∃ p n : Nat, q = (p : Int) ∧ AtOk A p n
theorem litsA_len (A : Ar) (hk : ArOk A) (q : Int) : (litsA A q).length ≤ A.row.length := by
  unfold litsA
  split
  · unfold partA'; rw [List.length_take, List.length_drop]; omega
  · simp
@[simp] theorem z_fn73 : zeroL Tryz.prog 73 = some [.lit .nilFunc] := by kernel_rfl
@[simp] theorem oldE_mapI : ∀ l : List (Int × Int), oldE (mapE fI l)
  | [] => trivial
  | (_, _) :: l => ⟨trivial, oldE_mapI l⟩
end Go.AX
