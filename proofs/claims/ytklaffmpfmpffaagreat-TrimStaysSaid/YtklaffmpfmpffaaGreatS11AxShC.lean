/-
  Contracts: how glued literals are; whether a clause is a reason.
  Contracts: arenas that are only read; what other literals a reason has.
  Contracts: the asker of what is deeply left over.
  Contracts: what is deeply left over; what is a part of what.
-/
import Derived.Test.YtklaffmpfmpffaaGreatS11AxDkC
import Derived.Test.YtklaffmpfmpffaaGreatS11AxGlD
import Derived.Test.YtklaffmpfmpffaaGreatAxBe
import Derived.Test.YtklaffmpfmpffaaGreatS11AxMovS
namespace Go.AX
open Go.Proofs
set_option linter.unusedSimpArgs false

end Go.AX

namespace Go.AX
open Go.Proofs
set_option linter.unusedSimpArgs false

def arR (A : Ar) : List PV := [.seq false 1 (irow A.row), .amap false (mapE fI A.hd)]
abbrev arP (A : Ar) : PV := .iptr 2 [arR A] 0 0
@[simp] theorem oldR_irow : ∀ l : List Int, oldR (irow l)
  | [] => trivial
  | _ :: l => ⟨⟨trivial, trivial⟩, oldR_irow l⟩
@[simp] theorem oldR_mkR : ∀ l : List Mk, oldR (l.map mkR)
  | [] => trivial
  | _ :: l => ⟨⟨trivial, trivial, trivial, trivial, trivial⟩, oldR_mkR l⟩
@[simp] theorem mapE_cons (k v : Int) (l : List (Int × Int)) : mapE fI ((k, v) :: l) = (k, I64 v) :: mapE fI l := rfl
def litsA (A : Ar) (q : Int) : List Int := if isA A q = true then partA' A q.toNat (A.row.getD (q.toNat + 1) 0).toNat else []
def ArOk (A : Ar) : Prop := ∀ q : Int, isA A q = true → ∃ p n : Nat, q = (p : Int) ∧ AtOk A p n
end Go.AX

namespace Go.AX
open Go.Proofs
set_option linter.unusedSimpArgs false

@[simp] theorem z_fn73 : zeroL Tryz.prog 73 = some [.lit .nilFunc] := by kernel_rfl
def askF (n : Nat) : PV := .fn (.func 161) [] [.ptr (n + 1) 0, .ptr (n + 3) 0, .ptr n 0, .ptr (n + 2) 0, .ptr (n + 4) 0]
structure AskAt (A : Ar) (T : Tr) (lits : List Int) (m : List (Int × Int)) (n : Nat) (h : List (List SV)) : Prop where
  b0 : h[n]? = some [.pv (arP A)]
  b1 : h[n + 1]? = some [.pv (trP T)]
  b2 : h[n + 2]? = some [.pv (.seq false 1 (irow lits))]
  b3 : h[n + 3]? = some [.omap true (mapE fI m)]
  b4 : h[n + 4]? = some [.pv (askF n)]
theorem AskAt.set {A : Ar} {T : Tr} {lits : List Int} {m m' : List (Int × Int)} {n : Nat} {h : List (List SV)} (a : AskAt A T lits m n h) : AskAt A T lits m' n (h.set (n + 3) [.omap true (mapE fI m')]) where
  b0 := by rw [List.getElem?_set_ne (by omega)]; exact a.b0
  b1 := by rw [List.getElem?_set_ne (by omega)]; exact a.b1
  b2 := by rw [List.getElem?_set_ne (by omega)]; exact a.b2
  b3 := by rw [List.getElem?_set_self (List.getElem?_eq_some_iff.1 a.b3).1]
  b4 := by rw [List.getElem?_set_ne (by omega)]; exact a.b4
structure ShOk (A : Ar) (T : Tr) (lits : List Int) : Prop where
  tr : T.ok
  ar : ArOk A
  len : A.row.length ≤ 1000000
  few : lits.length ≤ 1000000
  hd : ∀ v, 0 ≤ (ofT T v).1.rea → A.hd ≠ []
end Go.AX

namespace Go.AX
open Go.Proofs
set_option linter.unusedSimpArgs false

end Go.AX
