/-
  The law WatchReasons holds: whatever the input, true; the input reads as it did. No condition.
-/
import Derived.Test.YthfhellfmbllhaaS13AxWbT
import Derived.Test.YthfhellfmbllhaaAxZ
import Derived.ProofKit
namespace Go.Proofs.Ythfhellfmbllhaa
open Go.AX Go.ChangeShapes Go.WideShapes Go.ChangeAt Go.RowKit

theorem Try.own : ownKnob Try.prog.godebug = none := by kernel_rfl
theorem Try.laidOut : laidOutB Try.prog = true := by kernel_rfl

set_option maxRecDepth 100000 in
theorem watchReasons_lifted (os : Os) (started : os.Started) (H : Type) (enc : TypeId × Value → H) :
    ReturnsInHanded {} Try.checked os 3 .any (Rows.watchReasonsSpec.pre6 enc Try.prog Try.f3 Rows.watchReasonsRow.domain false) (Rows.watchReasonsSpec.post enc Try.prog Try.f3 false true false false) := by
  refine returnsInHanded_of_change (C := Try.checked) Try.own started (by kernel_rfl) Try.func3
    (ChangeSpec.witness6 (enc := enc) (C := Try.checked) false ⟨#[], #[.slice none 0 0, .slice none 0 0], []⟩ 8 (by kernel_rfl) (by kernel_rfl) (by kernel_rfl) (by kernel_rfl)) ?_
  intro W base args ds gs before hval0 hW hcnd _
  have hval : ∀ (j : Nat) t v, Try.f3.params[j]? = some t → args[j]? = some v → Value.okWide Try.prog W .any base t v := hval0
  have hW' := hW
  obtain ⟨p, q, hA0, hV, _, _, _⟩ := hW
  obtain ⟨rfl, rfl⟩ := trodVars_none hV
  obtain ⟨xs, hx, hfit, hlen⟩ := args_shown (n := 8) (ss := [(false, [.sl [.sl [.int .i64]]]), (false, [.sl [.int .i64]])]) (by kernel_rfl) hA0 (fun j t v h1 h2 => hval j t v (by simpa using h1) (by simpa using h2))
  have hlen' : ds.length = 2 := hlen
  have hA : APure Try.prog 3 xs (fun r => r = .pv (.lit (.bool true))) := by
    replace hx := argsWb2 hx
    obtain ⟨cs, l, rfl⟩ := hx
    exact watchReasons_ok cs l
  refine law_calls (f := Try.f3) Try.laidOut (by kernel_rfl) rfl (by kernel_rfl) rfl ?_ hW' hfit hA
  match ds, hlen' with
  | [_, _], _ => rfl

theorem watchReasons_holds : Rows.WatchReasonsSaid :=
  OpenClaim.holds_of_wide 3 Try.f3 rfl rfl rfl rfl rfl rfl rfl ⟨rfl, rfl, rfl, rfl, rfl⟩ rfl rfl rfl rfl rfl (by kernel_rfl) Try.func3 (by kernel_rfl)
    (of_decide_eq_true (by kernel_rfl)) (by unfold Func.isWrapper; first | (rw [if_pos (by decide +kernel)]; kernel_rfl) | (rw [if_neg (by decide +kernel)]; exact ⟨rfl, rfl⟩))
    (fun os started H enc _ => watchReasons_lifted os started H enc)

end Go.Proofs.Ythfhellfmbllhaa
