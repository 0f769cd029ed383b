/-
  Contracts: slices.Clone, IndexFunc, ContainsFunc, DeleteFunc of numbers.
-/
import Derived.Test.YtpejmhpcgpnpaaaGreatS15AxEvE
import Derived.Test.YtpejmhpcgpnpaaaGreatAxBe
namespace Go.AX
open Go.Proofs
set_option linter.unusedSimpArgs false
theorem clone_ok (l : List Int) (hl : l.length ≤ 1000000) : APure Tryz.prog 164 [.seq false 1 (irow l)] (fun r => r = .own true 1 (irow l)) := by
 refine APure.own0 (R := fun r => r = .own true 1 (irow l) ∨ (l = [] ∧ r = .pv (.lit (.slice none 0 0)))) ?_ (fun r h => h.imp id fun ⟨e1, e2⟩ => ⟨e2, true, 1, by rw [e1]; rfl⟩); refine apure1 hmo Tryz.func164 ?_; simp; cases l with
 | nil => simp [irow]
 | cons x l => simp [irow] at hl ⊢; omega
end Go.AX
