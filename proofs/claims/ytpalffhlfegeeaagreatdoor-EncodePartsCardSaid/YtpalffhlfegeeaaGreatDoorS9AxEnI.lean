/-
  The law EncodeParts holds: whatever the input, true; the input reads as it did. No condition.
-/
import Derived.Test.YtpalffhlfegeeaaGreatDoorS9AxEnH
import Derived.Test.YtpalffhlfegeeaaGreatDoorS9AxMovM
import Derived.Test.YtpalffhlfegeeaaGreatDoorS9AxMovP
import Derived.Test.YtpalffhlfegeeaaGreatDoorS9AxCntT
import Derived.Test.YtpalffhlfegeeaaGreatDoorAxZ
import Derived.ProofKit
import Derived.Test.YtpalffhlfegeeaaGreatDoorCards
import Derived.Test.YtpalffhlfegeeaaGreatDoorTie
import Derived.LaidMore
import Derived.Lay
import Derived.SevenTiedAt
import Derived.Stop.Joined
namespace Go.Proofs.YtpalffhlfegeeaaGreatDoor
open Go.AX Go.ChangeShapes Go.WideShapes Go.ChangeAt Go.RowKit

theorem Tryz.own : ownKnob Tryz.prog.godebug = none := by kernel_rfl
theorem Tryz.laidOut : laidOutB Tryz.prog = true := by kernel_rfl

set_option maxRecDepth 100000 in
theorem encodeParts_lifted (os : Os) (started : os.Started) (H : Type) (enc : TypeId × Value → H) :
    ReturnsInHanded {} Tryz.checked os 6 .any (fun w args => (Rows.encodePartsSpec.pre enc Tryz.prog Tryz.f6 Rows.encodePartsRow.domain false w args ∧ laidMetH Tryz.prog Rows.encodePartsRow.laid w) ∧ sizedMet enc Tryz.prog Tryz.f6 (OpenSpec.ofChange Rows.encodePartsSpec) false w args)
      (Rows.encodePartsSpec.post enc Tryz.prog Tryz.f6 false true false false) := by
  refine returnsInHanded_of_change_and (C := Tryz.checked) (X := fun w _ => laidMetH Tryz.prog Rows.encodePartsRow.laid w) (fun _ _ _ hh h => h.of_heap hh) Tryz.own started (by kernel_rfl) Tryz.func6
    (ChangeSpec.witness_shaped (enc := enc) (C := Tryz.checked) (os := os) (X := fun w _ => laidMetH Tryz.prog Rows.encodePartsRow.laid w) false (World.laidAll Tryz.prog os Rows.encodePartsRow.laid) #[.agg #[.int .i64 0, .int .i64 0, .int .i64 0, .slice none 0 0], .slice none 0 0] 8 (World.laidAll_os _ _ _)
      (World.shaped_of_ZipB (by kernel_rfl) (by kernel_rfl)) (by kernel_rfl) (by kernel_rfl) (by kernel_rfl)
      (by rw [MakeChecks.laidMetH_plain _ _ _ (by kernel_rfl)]; exact laidMet_laidAll _ (by kernel_rfl) (by kernel_rfl))) ?_
  intro W base args ds gs before hval0 hW _ _ _ _
  have hval : ∀ (j : Nat) t v, Tryz.f6.params[j]? = some t → args[j]? = some v → Value.okWide Tryz.prog W .any base t v := hval0
  have hW' := hW
  obtain ⟨p, q, hA0, hV, _, _, _⟩ := hW
  obtain ⟨rfl, rfl⟩ := trodVars_none hV
  obtain ⟨xs, hx, hfit, hlen⟩ := args_shown (n := 8) (ss := [(true, [.int .i64, .int .i64, .int .i64, .sl [.int .i64, .int .i64, .int .i64, .int .i64]]), (false, [.sl [.int .i64, .int .i64, .int .i64, .int .i64, .int .i64]])]) (by kernel_rfl) hA0 (fun j t v h1 h2 => hval j t v (by simpa using h1) (by simpa using h2))
  have hlen' : ds.length = 2 := hlen
  have hA : APure Tryz.prog 6 xs (fun r => r = .pv (.lit (.bool true))) := by
    replace hx := args2 hx
    obtain ⟨_, _, rfl, h1, h2⟩ := hx
    exact by obtain ⟨o, ho, hr⟩ := sh_objR h1; obtain ⟨ops, rfl⟩ := sh_ops h2; rw [ho]; exact encodeParts_ok o ops hr
  refine law_calls (f := Tryz.f6) Tryz.laidOut (by kernel_rfl) rfl (by kernel_rfl) rfl ?_ hW' hfit hA
  match ds, hlen' with
  | [_, _], _ => rfl

theorem encodeParts_holds : Rows.EncodePartsSaid :=
  OpenClaim.holds_of_wide 6 Tryz.f6 rfl rfl rfl rfl rfl rfl rfl ⟨rfl, rfl, rfl, rfl, rfl⟩ rfl rfl rfl rfl rfl (by kernel_rfl) Tryz.func6 (by kernel_rfl)
    (of_decide_eq_true (by kernel_rfl)) (by unfold Func.isWrapper; first | (rw [if_pos (by decide +kernel)]; kernel_rfl) | (rw [if_neg (by decide +kernel)]; exact ⟨rfl, rfl⟩))
    (fun os started H enc _ => encodeParts_lifted os started H enc)

theorem encodeParts_card : Rows.EncodePartsCardSaid :=
  Claim7.holds_tied_plain_at .later [] [.data, .data, .data] true (true, "8d67438aa205880da151eaac791eb58f6410959afab53cfb2d7050585d4895c4") false encodeParts_holds (fun _ h => by cases h) (by kernel_rfl) (fun _ h => by cases h) encodeParts_row_tie rfl ⟨rfl, rfl⟩ (by kernel_rfl) rfl
    (fun f fn hf hfn => by
      obtain rfl : f = 6 := Option.some.inj ((show Tryz.prog.funcNamed "replevin/replevinlaw37.EncodeParts" = some 6 by kernel_rfl).symm.trans hf) |>.symm
      obtain rfl : fn = Tryz.f6 := (Option.some.inj (Tryz.func6.symm.trans hfn)).symm
      exact ⟨by kernel_rfl, fun j t ht => by
        have hm : t ∈ Tryz.f6.params.toList := by simpa using Array.mem_of_getElem? ht
        have hall : (Tryz.f6.params.toList.all fun u => !Tryz.prog.wantsStandIn u) = true := by kernel_rfl
        exact (show Tryz.prog.wantsStandIn t = false by simpa using List.all_eq_true.1 hall t hm)⟩)
    (by kernel_rfl)

end Go.Proofs.YtpalffhlfegeeaaGreatDoor
