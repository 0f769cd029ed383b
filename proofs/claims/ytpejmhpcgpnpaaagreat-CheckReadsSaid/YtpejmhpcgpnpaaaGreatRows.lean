/-
  No cell of these rows narrows 'for every input' (looked for: loops, veiled, ifaces, maps, wideKeys, modest, calm, conditions, laid).
  DERIVED. THE GIVEN ROWS OF THIS SEAT. 5 by the template 'for every input the law returns true; each argument reads behind the call as it read before'; 0 by the template 'total and deterministic' (their statements: YtpejmhpcgpnpaaaGreatTotals.lean).
  GIVEN WITH THE SEED: the statements are not yours to turn. If you find one false, say at which input.
  Laid BY PROGRAM, IN A SANDBOX (cutbox-rows.mjs): the forced cells as the released guide's own fill.sh prints them over the translation 1d827006594d9357… (all of the seat's roots in one cut). By AI agents, Wed Nov 11 2026. No macro, syntax, notation, axiom, sorry.
-/
import Derived.Test.YtpejmhpcgpnpaaaGreatChecked
import GoSem.Claim
import GoSem.ClaimJoined
import GoSem.ClaimMapViews
import Derived.JoinedTies
import Derived.KernelRfl
namespace Go.Proofs.YtpejmhpcgpnpaaaGreat
/- THE CELL 'sum', in the pinned program and in every row, IS THE sha256 OF THE DUMP (.gsa) THAT YtpejmhpcgpnpaaaGreatProg.lean LOADS. Nothing in Lean hashes anything: it is a label: what it is worth is what the hold of that sum in a sandbox is worth. -/
noncomputable def Tryz.pinned : Pinned := { name := "ytpejmhpcgpnpaaagreat", sum := "1d827006594d9357908a551e5de6354c7596c18cbe6e127622747e2b4f68e366", checked := Tryz.checked }
namespace Rows
def none {H : Type} : Left H := { results := [], args := [] }

/-- 'replevinlaw40.CheckTells': WHATEVER THE INPUT: true; the input reads as it did. -/
def checkTellsSpec : ChangeSpec := { name := "checkTells", fn := fun _ => fun
  | [d1, d2, d3] => { results := [.lit (.bool true)], args := [d1, d2, d3] }
  | _ => none }
def checkTellsRow : OpenClaim := { program := "ytpejmhpcgpnpaaagreat", sum := "1d827006594d9357908a551e5de6354c7596c18cbe6e127622747e2b4f68e366", func := "replevin/replevinlaw40.CheckTells", spec := "checkTells", inPlace := ["internal/bytealg.IndexByteString", "internal/bytealg.IndexString", "slices.overlaps[int]"], unfollowed := true, recurses := true, named := ["internal/bytealg.MaxLen"], apart := false }
def CheckTellsSaid : Prop := checkTellsRow.holds Tryz.pinned (OpenSpec.ofChange checkTellsSpec)

/-- ITS FALSE NEIGHBOUR: 'it returns false'. Refute it at one input. -/
def checkTellsWrong : ChangeSpec := { name := "checkTells", fn := fun _ => fun
  | [d1, d2, d3] => { results := [.lit (.bool false)], args := [d1, d2, d3] }
  | _ => none }
def CheckTellsWrongFalsely : Prop := checkTellsRow.holds Tryz.pinned (OpenSpec.ofChange checkTellsWrong)

/-- 'replevinlaw40.CheckReads': WHATEVER THE INPUT: true; the input reads as it did. -/
def checkReadsSpec : ChangeSpec := { name := "checkReads", fn := fun _ => fun
  | [d1, d2] => { results := [.lit (.bool true)], args := [d1, d2] }
  | _ => none }
def checkReadsRow : OpenClaim := { program := "ytpejmhpcgpnpaaagreat", sum := "1d827006594d9357908a551e5de6354c7596c18cbe6e127622747e2b4f68e366", func := "replevin/replevinlaw40.CheckReads", spec := "checkReads", inPlace := ["internal/bytealg.IndexByteString", "internal/bytealg.IndexString", "slices.overlaps[int]"], unfollowed := true, recurses := true, named := ["internal/bytealg.MaxLen"], apart := false }
def CheckReadsSaid : Prop := checkReadsRow.holds Tryz.pinned (OpenSpec.ofChange checkReadsSpec)

/-- ITS FALSE NEIGHBOUR: 'it returns false'. Refute it at one input. -/
def checkReadsWrong : ChangeSpec := { name := "checkReads", fn := fun _ => fun
  | [d1, d2] => { results := [.lit (.bool false)], args := [d1, d2] }
  | _ => none }
def CheckReadsWrongFalsely : Prop := checkReadsRow.holds Tryz.pinned (OpenSpec.ofChange checkReadsWrong)

/-- 'replevinlaw40.CheckJudges': WHATEVER THE INPUT: true; the input reads as it did. -/
def checkJudgesSpec : ChangeSpec := { name := "checkJudges", fn := fun _ => fun
  | [d1, d2] => { results := [.lit (.bool true)], args := [d1, d2] }
  | _ => none }
def checkJudgesRow : OpenClaim := { program := "ytpejmhpcgpnpaaagreat", sum := "1d827006594d9357908a551e5de6354c7596c18cbe6e127622747e2b4f68e366", func := "replevin/replevinlaw40.CheckJudges", spec := "checkJudges", inPlace := ["internal/bytealg.IndexByteString", "internal/bytealg.IndexString", "slices.overlaps[int]"], unfollowed := true, recurses := true, named := ["internal/bytealg.MaxLen"], apart := false }
def CheckJudgesSaid : Prop := checkJudgesRow.holds Tryz.pinned (OpenSpec.ofChange checkJudgesSpec)

/-- ITS FALSE NEIGHBOUR: 'it returns false'. Refute it at one input. -/
def checkJudgesWrong : ChangeSpec := { name := "checkJudges", fn := fun _ => fun
  | [d1, d2] => { results := [.lit (.bool false)], args := [d1, d2] }
  | _ => none }
def CheckJudgesWrongFalsely : Prop := checkJudgesRow.holds Tryz.pinned (OpenSpec.ofChange checkJudgesWrong)

/-- 'replevinlaw40.CheckRight': WHATEVER THE INPUT: true; the input reads as it did. -/
def checkRightSpec : ChangeSpec := { name := "checkRight", fn := fun _ => fun
  | [d1, d2, d3] => { results := [.lit (.bool true)], args := [d1, d2, d3] }
  | _ => none }
def checkRightRow : OpenClaim := { program := "ytpejmhpcgpnpaaagreat", sum := "1d827006594d9357908a551e5de6354c7596c18cbe6e127622747e2b4f68e366", func := "replevin/replevinlaw40.CheckRight", spec := "checkRight", inPlace := ["internal/bytealg.IndexByteString", "internal/bytealg.IndexString", "slices.overlaps[int]"], unfollowed := true, recurses := true, named := ["internal/bytealg.MaxLen"], apart := false }
def CheckRightSaid : Prop := checkRightRow.holds Tryz.pinned (OpenSpec.ofChange checkRightSpec)

/-- ITS FALSE NEIGHBOUR: 'it returns false'. Refute it at one input. -/
def checkRightWrong : ChangeSpec := { name := "checkRight", fn := fun _ => fun
  | [d1, d2, d3] => { results := [.lit (.bool false)], args := [d1, d2, d3] }
  | _ => none }
def CheckRightWrongFalsely : Prop := checkRightRow.holds Tryz.pinned (OpenSpec.ofChange checkRightWrong)

/-- 'replevinlaw40.CheckVerifies': WHATEVER THE INPUT: true; the input reads as it did. -/
def checkVerifiesSpec : ChangeSpec := { name := "checkVerifies", fn := fun _ => fun
  | [d1, d2, d3] => { results := [.lit (.bool true)], args := [d1, d2, d3] }
  | _ => none }
def checkVerifiesRow : OpenClaim := { program := "ytpejmhpcgpnpaaagreat", sum := "1d827006594d9357908a551e5de6354c7596c18cbe6e127622747e2b4f68e366", func := "replevin/replevinlaw40.CheckVerifies", spec := "checkVerifies", inPlace := ["internal/bytealg.IndexByteString", "internal/bytealg.IndexString", "slices.overlaps[int]"], unfollowed := true, recurses := true, named := ["internal/bytealg.MaxLen"], apart := false }
def CheckVerifiesSaid : Prop := checkVerifiesRow.holds Tryz.pinned (OpenSpec.ofChange checkVerifiesSpec)

/-- ITS FALSE NEIGHBOUR: 'it returns false'. Refute it at one input. -/
def checkVerifiesWrong : ChangeSpec := { name := "checkVerifies", fn := fun _ => fun
  | [d1, d2, d3] => { results := [.lit (.bool false)], args := [d1, d2, d3] }
  | _ => none }
def CheckVerifiesWrongFalsely : Prop := checkVerifiesRow.holds Tryz.pinned (OpenSpec.ofChange checkVerifiesWrong)

/- THE SECOND FORM. 'bulk': how many values and letters a reading holds, each counted each time it is reached (what is shared counts as often as it is met; a slice's spare places count too). A statement '..UptoSaid' is the law's where the arguments, and the package variables that the reading takes, are together of bulk at most 1048576: NARROWER than '..Said'. Prove '..Said' where nothing that the law and all that it calls make is longer than what came in: it says more and counts as full. Else prove '..UptoSaid'. A law counts once. -/
mutual
def uptoBulk {H : Type} : DataW H → Nat
  | .lit (.string bytes) => bytes.length + 1
  | .lit _ => 1
  | .nil => 1
  | .ptr d => uptoBulk d + 1
  | .slice elems spare => uptoBulkAll elems + uptoBulkAll spare + 1
  | .agg parts => uptoBulkAll parts + 1
  | .iface _ d => uptoBulk d + 1
  | .map entries => uptoBulkEntries entries + 1
  | .held _ => 1
def uptoBulkAll {H : Type} : List (DataW H) → Nat
  | [] => 0
  | d :: r => uptoBulk d + uptoBulkAll r
def uptoBulkEntries {H : Type} : List (Lit × DataW H) → Nat
  | [] => 0
  | x :: r => uptoBulkEntry x + uptoBulkEntries r
def uptoBulkEntry {H : Type} : Lit × DataW H → Nat
  | (.string bytes, d) => bytes.length + uptoBulk d + 1
  | (_, d) => uptoBulk d + 1
 end
def uptoSmall : (H : Type) → List (DataW H) → Bool := fun _ ds => decide (uptoBulkAll ds ≤ 1048576)
def OpenSpec.upto (s : _root_.Go.ChangeSpec) : _root_.Go.OpenSpec := { _root_.Go.OpenSpec.ofChange s with cond := some uptoSmall }

/-- 'replevinlaw40.CheckTells', WHERE WHAT IT READS IS OF BULK AT MOST 1048576: true; the input reads as it did. -/
def checkTellsUptoRow : OpenClaim := { program := "ytpejmhpcgpnpaaagreat", sum := "1d827006594d9357908a551e5de6354c7596c18cbe6e127622747e2b4f68e366", func := "replevin/replevinlaw40.CheckTells", spec := "checkTells", inPlace := ["internal/bytealg.IndexByteString", "internal/bytealg.IndexString", "slices.overlaps[int]"], unfollowed := true, recurses := true, named := ["internal/bytealg.MaxLen"], apart := false, narrowed := true }
def CheckTellsUptoSaid : Prop := checkTellsUptoRow.holds Tryz.pinned (OpenSpec.upto checkTellsSpec)

/-- 'replevinlaw40.CheckReads', WHERE WHAT IT READS IS OF BULK AT MOST 1048576: true; the input reads as it did. -/
def checkReadsUptoRow : OpenClaim := { program := "ytpejmhpcgpnpaaagreat", sum := "1d827006594d9357908a551e5de6354c7596c18cbe6e127622747e2b4f68e366", func := "replevin/replevinlaw40.CheckReads", spec := "checkReads", inPlace := ["internal/bytealg.IndexByteString", "internal/bytealg.IndexString", "slices.overlaps[int]"], unfollowed := true, recurses := true, named := ["internal/bytealg.MaxLen"], apart := false, narrowed := true }
def CheckReadsUptoSaid : Prop := checkReadsUptoRow.holds Tryz.pinned (OpenSpec.upto checkReadsSpec)

/-- 'replevinlaw40.CheckJudges', WHERE WHAT IT READS IS OF BULK AT MOST 1048576: true; the input reads as it did. -/
def checkJudgesUptoRow : OpenClaim := { program := "ytpejmhpcgpnpaaagreat", sum := "1d827006594d9357908a551e5de6354c7596c18cbe6e127622747e2b4f68e366", func := "replevin/replevinlaw40.CheckJudges", spec := "checkJudges", inPlace := ["internal/bytealg.IndexByteString", "internal/bytealg.IndexString", "slices.overlaps[int]"], unfollowed := true, recurses := true, named := ["internal/bytealg.MaxLen"], apart := false, narrowed := true }
def CheckJudgesUptoSaid : Prop := checkJudgesUptoRow.holds Tryz.pinned (OpenSpec.upto checkJudgesSpec)

/-- 'replevinlaw40.CheckRight', WHERE WHAT IT READS IS OF BULK AT MOST 1048576: true; the input reads as it did. -/
def checkRightUptoRow : OpenClaim := { program := "ytpejmhpcgpnpaaagreat", sum := "1d827006594d9357908a551e5de6354c7596c18cbe6e127622747e2b4f68e366", func := "replevin/replevinlaw40.CheckRight", spec := "checkRight", inPlace := ["internal/bytealg.IndexByteString", "internal/bytealg.IndexString", "slices.overlaps[int]"], unfollowed := true, recurses := true, named := ["internal/bytealg.MaxLen"], apart := false, narrowed := true }
def CheckRightUptoSaid : Prop := checkRightUptoRow.holds Tryz.pinned (OpenSpec.upto checkRightSpec)

/-- 'replevinlaw40.CheckVerifies', WHERE WHAT IT READS IS OF BULK AT MOST 1048576: true; the input reads as it did. -/
def checkVerifiesUptoRow : OpenClaim := { program := "ytpejmhpcgpnpaaagreat", sum := "1d827006594d9357908a551e5de6354c7596c18cbe6e127622747e2b4f68e366", func := "replevin/replevinlaw40.CheckVerifies", spec := "checkVerifies", inPlace := ["internal/bytealg.IndexByteString", "internal/bytealg.IndexString", "slices.overlaps[int]"], unfollowed := true, recurses := true, named := ["internal/bytealg.MaxLen"], apart := false, narrowed := true }
def CheckVerifiesUptoSaid : Prop := checkVerifiesUptoRow.holds Tryz.pinned (OpenSpec.upto checkVerifiesSpec)

end Rows
end Go.Proofs.YtpejmhpcgpnpaaaGreat
