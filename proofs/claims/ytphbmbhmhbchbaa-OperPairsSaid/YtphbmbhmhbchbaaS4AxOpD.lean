/-
  Contracts: what is awake (operations).
-/
import Derived.Test.YtphbmbhmhbchbaaS4AxEvD
import Derived.Test.YtphbmbhmhbchbaaS4AxCntJ
import Derived.Test.YtphbmbhmhbchbaaS4AxCntD
namespace Go.AX
open Go.Proofs
set_option linter.unusedSimpArgs false

def evs1 : List Ev := [⟨1, 1, 3⟩, ⟨2, 1, 9⟩, ⟨1, 2, 4⟩]
def evs2 : List Ev := [⟨0, 0, 0⟩]
def opA : Op5 := ⟨1, 3, 0, 1, 9⟩
def opB : Op5 := ⟨2, 4, 2, -1, -1⟩

set_option maxRecDepth 16000 in
theorem opAwake_ok : APure Try.prog 15 [] (fun r => r = .pv (BL true)) := by
  refine apure1 hmo Try.func15 (by kernel_rfl) rfl rfl (by kernel_rfl) (Nat.le_of_ble_eq_true rfl) ?_
  have h1 := of_ok evs1 (by decide)
  have h2 := of_ok evs2 (by decide)
  rw [show ofV evs1 = .seq true 5 [[I64 1, I64 3, I64 0, I64 1, I64 9], [I64 2, I64 4, I64 2, I64 (-1), I64 (-1)]] by kernel_rfl, show (evChk evs1).2 = 0 by kernel_rfl] at h1
  rw [show ofV evs2 = .lit (.slice none 0 0) by kernel_rfl, show (evChk evs2).2 = 8 by kernel_rfl] at h2
  simp
  refine CallK.intro h1 (by simp) ?_
  simp
  refine CallK.intro h2 (by simp) ?_
  simp
  have h3 := chk_okC [opA, opB] (by decide)
  have h4 := chk_okC [opA, opA] (by decide)
  rw [show chk [opA, opB] = (2, 0) by kernel_rfl] at h3
  rw [show chk [opA, opA] = (1, 32) by kernel_rfl] at h4
  have h5 := pairs_ok [opA, opB] (by decide)
  rw [show (pairsTo [opA, opB] [opA, opB].length).map prow = [[I64 0, I64 1]] by kernel_rfl] at h5
  refine CallK.intro h3 (by simp) ?_
  simp
  refine CallQ0.intro h4 (by simp) ?_
  simp
  first | refine CallK.intro h5 (by simp) ?_ | refine CallQ0.intro h5 (by simp) ?_
  simp
  have h6 := ahead_ok opA opB
  have h7 := ahead_ok opB opA
  rw [show aheadS opA opB = true by kernel_rfl] at h6
  rw [show aheadS opB opA = false by kernel_rfl] at h7
  first | refine CallG.intro (fun _ => h6) (by simp) ?_ | refine CallQ.intro (fun _ => h6) (by simp) ?_
  simp
  first | refine CallG.intro (fun _ => h7) (by simp) ?_ | refine CallQ.intro (fun _ => h7) (by simp) ?_
  simp
  have f1 := free_ok [opA, opB] [] (by decide)
  have f2 := free_ok [opA, opB] [true] (by decide)
  have f3 := pending_ok [opA, opB] (by decide)
  have f4 := sameOps_ok [opA, opB] [opA, opB] (by decide)
  have f5 := sameInts_ok [0] [0] (by decide)
  have f6 := sameInts_ok [1] [1] (by decide)
  rw [show freeTo [opA, opB] [] [opA, opB].length = [0] by kernel_rfl] at f1
  rw [show freeTo [opA, opB] [true] [opA, opB].length = [1] by kernel_rfl] at f2
  rw [show ((pendTo [opA, opB] [opA, opB].length).map fun i => [I64 i]) = irow [1] by kernel_rfl] at f3
  rw [decide_eq_true rfl] at f4 f5 f6
  refine CallQ.intro (fun _ => f1.conv ⟨_, _, rfl, .refl _, _, _, rfl, PV.as_nil 1, rfl⟩) (by simp) ?_
  simp
  refine CallQ.intro (fun _ => f5) (by simp) ?_
  simp
  refine CallQ.intro (fun _ => f2) (by simp) ?_
  simp
  refine CallQ.intro (fun _ => f6) (by simp) ?_
  simp
  refine CallQ.intro (fun _ => f3) (by simp) ?_
  simp
  refine CallQ.intro (fun _ => f6) (by simp) ?_
  simp
  refine CallQ.intro (fun _ => f4) (by simp) ?_
  simp

end Go.AX
