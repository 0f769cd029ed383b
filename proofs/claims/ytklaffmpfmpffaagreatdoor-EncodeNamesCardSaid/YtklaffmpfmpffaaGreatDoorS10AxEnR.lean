/-
  The law EncodeNames holds: whatever the input, true; the input reads as it did. No condition.
-/
import Derived.Test.YtklaffmpfmpffaaGreatDoorS10AxEnQ
import Derived.Test.YtklaffmpfmpffaaGreatDoorS10AxEnS
import Derived.Test.YtklaffmpfmpffaaGreatDoorS10AxMovP
import Derived.Test.YtklaffmpfmpffaaGreatDoorAxZ
import Derived.ProofKit
import Derived.Test.YtklaffmpfmpffaaGreatDoorCards
import Derived.Test.YtklaffmpfmpffaaGreatDoorTie
import Derived.LaidMore
import Derived.Lay
import Derived.SevenTiedAt
import Derived.Stop.Joined
namespace Go.Proofs.YtklaffmpfmpffaaGreatDoor
open Go.AX Go.ChangeShapes Go.WideShapes Go.ChangeAt Go.RowKit

theorem Tryz.own : ownKnob Tryz.prog.godebug = none := by kernel_rfl
theorem Tryz.laidOut : laidOutB Tryz.prog = true := by kernel_rfl

set_option maxRecDepth 100000 in
theorem encodeNames_lifted (os : Os) (started : os.Started) (H : Type) (enc : TypeId × Value → H) :
    ReturnsInHanded {} Tryz.checked os 3 .any (fun w args => (Rows.encodeNamesSpec.pre enc Tryz.prog Tryz.f3 Rows.encodeNamesRow.domain false w args ∧ laidMetH Tryz.prog Rows.encodeNamesRow.laid w) ∧ sizedMet enc Tryz.prog Tryz.f3 (OpenSpec.ofChange Rows.encodeNamesSpec) false w args)
      (Rows.encodeNamesSpec.post enc Tryz.prog Tryz.f3 false true false false) := by
  refine returnsInHanded_of_change_and (C := Tryz.checked) (X := fun w _ => laidMetH Tryz.prog Rows.encodeNamesRow.laid w) (fun _ _ _ hh h => h.of_heap hh) Tryz.own started (by kernel_rfl) Tryz.func3
    (ChangeSpec.witness_shaped (enc := enc) (C := Tryz.checked) (os := os) (X := fun w _ => laidMetH Tryz.prog Rows.encodeNamesRow.laid w) false (World.laidAll Tryz.prog os Rows.encodeNamesRow.laid) #[.agg #[.int .i64 0, .int .i64 0, .int .i64 0, .slice none 0 0], .slice none 0 0, .agg #[.int .i64 0, .slice none 0 0, .int .i64 0, .slice none 0 0]] 8 (World.laidAll_os _ _ _)
      (World.shaped_of_ZipB (by kernel_rfl) (by kernel_rfl)) (by kernel_rfl) (by kernel_rfl) (by kernel_rfl)
      (by rw [MakeChecks.laidMetH_plain _ _ _ (by kernel_rfl)]; exact laidMet_laidAll _ (by kernel_rfl) (by kernel_rfl))) ?_
  intro W base args ds gs before hval0 hW _ _ _ _
  have hval : ∀ (j : Nat) t v, Tryz.f3.params[j]? = some t → args[j]? = some v → Value.okWide Tryz.prog W .any base t v := hval0
  have hW' := hW
  obtain ⟨p, q, hA0, hV, _, _, _⟩ := hW
  obtain ⟨rfl, rfl⟩ := trodVars_none hV
  obtain ⟨xs, hx, hfit, hlen⟩ := args_shown (n := 8) (ss := [(true, [.int .i64, .int .i64, .int .i64, .sl [.int .i64, .int .i64, .int .i64, .int .i64]]), (false, [.sl [.int .i64, .int .i64, .int .i64, .int .i64, .int .i64]]), (true, [.int .i64, .sl [.sl [.int .i64]], .int .i64, .sl [.sl [.int .i64]]])]) (by kernel_rfl) hA0 (fun j t v h1 h2 => hval j t v (by simpa using h1) (by simpa using h2))
  have hlen' : ds.length = 3 := hlen
  have hA : APure Tryz.prog 3 xs (fun r => r = .pv (.lit (.bool true))) := by
    replace hx := argsN3 hx
    obtain ⟨_, _, _, rfl, h1, h2, h3⟩ := hx
    exact by obtain ⟨o, ho, hr⟩ := sh_objR h1; obtain ⟨ops, rfl⟩ := sh_ops h2; obtain ⟨v0, v1, A0, A1, rfl⟩ := sh_two h3; rw [ho]; exact encodeNames_ok o ops v0 v1 A0 A1 hr
  refine law_calls (f := Tryz.f3) Tryz.laidOut (by kernel_rfl) rfl (by kernel_rfl) rfl ?_ hW' hfit hA
  match ds, hlen' with
  | [_, _, _], _ => rfl

theorem encodeNames_holds : Rows.EncodeNamesSaid :=
  OpenClaim.holds_of_wide 3 Tryz.f3 rfl rfl rfl rfl rfl rfl rfl ⟨rfl, rfl, rfl, rfl, rfl⟩ rfl rfl rfl rfl rfl (by kernel_rfl) Tryz.func3 (by kernel_rfl)
    (of_decide_eq_true (by kernel_rfl)) (by unfold Func.isWrapper; first | (rw [if_pos (by decide +kernel)]; kernel_rfl) | (rw [if_neg (by decide +kernel)]; exact ⟨rfl, rfl⟩))
    (fun os started H enc _ => encodeNames_lifted os started H enc)

theorem encodeNames_card : Rows.EncodeNamesCardSaid :=
  Claim7.holds_tied_plain_at .later [] [.data, .data, .data] true (true, "eb5065a67ac3df457a39a4f47d5c4074468e3949ef25f88ce7b15f412c00e18e") false encodeNames_holds (fun _ h => by cases h) (by kernel_rfl) (fun _ h => by cases h) encodeNames_row_tie rfl ⟨rfl, rfl⟩ (by kernel_rfl) rfl
    (fun f fn hf hfn => by
      obtain rfl : f = 3 := Option.some.inj ((show Tryz.prog.funcNamed "replevin/replevinlaw37.EncodeNames" = some 3 by kernel_rfl).symm.trans hf) |>.symm
      obtain rfl : fn = Tryz.f3 := (Option.some.inj (Tryz.func3.symm.trans hfn)).symm
      exact ⟨by kernel_rfl, fun j t ht => by
        have hm : t ∈ Tryz.f3.params.toList := by simpa using Array.mem_of_getElem? ht
        have hall : (Tryz.f3.params.toList.all fun u => !Tryz.prog.wantsStandIn u) = true := by kernel_rfl
        exact (show Tryz.prog.wantsStandIn t = false by simpa using List.all_eq_true.1 hall t hm)⟩)
    (by kernel_rfl)

end Go.Proofs.YtklaffmpfmpffaaGreatDoor
