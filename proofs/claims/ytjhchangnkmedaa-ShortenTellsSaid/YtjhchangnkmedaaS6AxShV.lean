/-
  The law ShortenTells holds: whatever the input, true; the input reads as it did. No condition.
-/
import Derived.Test.YtjhchangnkmedaaS6AxShU
import Derived.Test.YtjhchangnkmedaaAxZ
import Derived.ProofKit
namespace Go.Proofs.Ytjhchangnkmedaa
open Go.AX Go.ChangeShapes Go.WideShapes Go.ChangeAt Go.RowKit

theorem Try.own : ownKnob Try.prog.godebug = none := by kernel_rfl
theorem Try.laidOut : laidOutB Try.prog = true := by kernel_rfl

set_option maxRecDepth 100000 in
theorem shortenTells_lifted (os : Os) (started : os.Started) (H : Type) (enc : TypeId × Value → H) :
    ReturnsInHanded {} Try.checked os 4 .any (Rows.shortenTellsSpec.pre6 enc Try.prog Try.f4 Rows.shortenTellsRow.domain false) (Rows.shortenTellsSpec.post enc Try.prog Try.f4 false true false false) := by
  refine returnsInHanded_of_change (C := Try.checked) Try.own started (by kernel_rfl) Try.func4
    (ChangeSpec.witness6 (enc := enc) (C := Try.checked) false ⟨#[], #[.slice none 0 0, .slice none 0 0, .slice none 0 0], []⟩ 8 (by kernel_rfl) (by kernel_rfl) (by kernel_rfl) (by kernel_rfl)) ?_
  intro W base args ds gs before hval0 hW hcnd _
  have hval : ∀ (j : Nat) t v, Try.f4.params[j]? = some t → args[j]? = some v → Value.okWide Try.prog W .any base t v := hval0
  have hW' := hW
  obtain ⟨p, q, hA0, hV, _, _, _⟩ := hW
  obtain ⟨rfl, rfl⟩ := trodVars_none hV
  obtain ⟨xs, hx, hfit, hlen⟩ := args_shown (n := 8) (ss := [(false, [.sl [.sl [.int .i64]]]), (false, [.sl [.int .i64]]), (false, [.sl [.int .i64]])]) (by kernel_rfl) hA0 (fun j t v h1 h2 => hval j t v (by simpa using h1) (by simpa using h2))
  have hlen' : ds.length = 3 := hlen
  have hA : APure Try.prog 4 xs (fun r => r = .pv (.lit (.bool true))) := by
    replace hx := argsG5 hx
    obtain ⟨cs, l, c, hc, rfl⟩ := hx
    exact shortenTells_ok cs l c hc
  refine law_calls (f := Try.f4) Try.laidOut (by kernel_rfl) rfl (by kernel_rfl) rfl ?_ hW' hfit hA
  match ds, hlen' with
  | [_, _, _], _ => rfl

theorem shortenTells_holds : Rows.ShortenTellsSaid :=
  OpenClaim.holds_of_wide 4 Try.f4 rfl rfl rfl rfl rfl rfl rfl ⟨rfl, rfl, rfl, rfl, rfl⟩ rfl rfl rfl rfl rfl (by kernel_rfl) Try.func4 (by kernel_rfl)
    (of_decide_eq_true (by kernel_rfl)) (by unfold Func.isWrapper; first | (rw [if_pos (by decide +kernel)]; kernel_rfl) | (rw [if_neg (by decide +kernel)]; exact ⟨rfl, rfl⟩))
    (fun os started H enc _ => shortenTells_lifted os started H enc)

end Go.Proofs.Ytjhchangnkmedaa
