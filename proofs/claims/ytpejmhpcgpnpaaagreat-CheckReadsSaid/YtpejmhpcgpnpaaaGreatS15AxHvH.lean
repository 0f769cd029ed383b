/-
  The law CheckReads holds: whatever the text and the number, true; the input reads as it did. No condition.
-/
import Derived.Test.YtpejmhpcgpnpaaaGreatS15AxHvG
import Derived.Test.YtpejmhpcgpnpaaaGreatS15AxExW
import Derived.Test.YtpejmhpcgpnpaaaGreatAxZ
import Derived.ProofKit
namespace Go.Proofs.YtpejmhpcgpnpaaaGreat
open Go.AX Go.ChangeShapes Go.WideShapes Go.ChangeAt Go.RowKit
theorem Tryz.own : ownKnob Tryz.prog.godebug = none := by kernel_rfl
theorem Tryz.laidOut : laidOutB Tryz.prog = true := by kernel_rfl
theorem Tryz.mapsOk : mapsRowed Tryz.prog = true := by kernel_rfl
set_option maxRecDepth 100000 in
theorem checkReads_lifted (os : Os) (started : os.Started) (H : Type) (enc : TypeId × Value → H) :
 ReturnsInHanded {} Tryz.checked os 4 .any (Rows.checkReadsSpec.pre6 enc Tryz.prog Tryz.f4 Rows.checkReadsRow.domain false) (Rows.checkReadsSpec.post enc Tryz.prog Tryz.f4 false true false false) := by
 refine returnsInHanded_of_change (C := Tryz.checked) Tryz.own started (by kernel_rfl) Tryz.func4
  (ChangeSpec.witness6 (enc := enc) (C := Tryz.checked) false ⟨#[], #[.string ByteArray.empty, .int .i64 0], []⟩ 8 (by kernel_rfl) (by kernel_rfl) (by kernel_rfl) (by kernel_rfl)) ?_
 intro W base args ds gs before hval0 hW hcnd _; have hval : ∀ (j : Nat) t v, Tryz.f4.params[j]? = some t → args[j]? = some v → Value.okWide Tryz.prog W .any base t v := hval0; have hW' := hW; obtain ⟨p, q, hA0, hV, _, _, _⟩ := hW; obtain ⟨rfl, rfl⟩ := trodVars_none hV; obtain ⟨xs, hx, hfit, hlen⟩ := args_shown (n := 8) (ss := [(false, [.str]), (false, [.int .i64])]) (by kernel_rfl) hA0 (fun j t v h1 h2 => hval j t v (by simpa using h1) (by simpa using h2)); have hlen' : ds.length = 2 := hlen; have hA : APure Tryz.prog 4 xs (fun r => r = .pv (.lit (.bool true))) := by
  replace hx := argSI hx; obtain ⟨s, n, rfl⟩ := hx; exact checkReads_ok Go.EX.awake_ok s n
 refine law_calls (f := Tryz.f4) Tryz.laidOut (by kernel_rfl) rfl (by kernel_rfl) rfl ?_ hW' hfit hA
 match ds, hlen' with
 | [_, _], _ => rfl
theorem checkReads_k1 : (Rows.checkReadsRow.inPlace == Tryz.prog.inPlace 4) = true := by kernel_rfl
theorem checkReads_k2 : (Rows.checkReadsRow.unfollowed == Tryz.prog.unfollowed 4) = true := by kernel_rfl
theorem checkReads_k3 : (Rows.checkReadsRow.recurses == Tryz.prog.recurses 4) = true := by kernel_rfl
theorem checkReads_k4 : (Rows.checkReadsRow.named == Tryz.prog.varsNamed 4) = true := by kernel_rfl
theorem checkReads_k5 : joinedFacts Tryz.prog 4 Tryz.f4 Rows.checkReadsSpec Rows.checkReadsRow = true := by
 unfold joinedFacts; rw [Tryz.laidOut, Tryz.mapsOk, checkReads_k1, checkReads_k2, checkReads_k3, checkReads_k4]
 kernel_rfl
theorem checkReads_k6 : Tryz.prog.funcNamed Rows.checkReadsRow.func = some 4 := by kernel_rfl
theorem checkReads_holds : Rows.CheckReadsSaid :=
 OpenClaim.holds_of_wide 4 Tryz.f4 rfl rfl rfl rfl rfl rfl rfl ⟨rfl, rfl, rfl, rfl, rfl⟩ rfl rfl rfl rfl rfl checkReads_k6 Tryz.func4 checkReads_k5
  (of_decide_eq_true (by kernel_rfl)) (by unfold Func.isWrapper; first | (rw [if_pos (by decide +kernel)]; kernel_rfl) | (rw [if_neg (by decide +kernel)]; exact ⟨rfl, rfl⟩))
  (fun os started H enc _ => checkReads_lifted os started H enc)
end Go.Proofs.YtpejmhpcgpnpaaaGreat
