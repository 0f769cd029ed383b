/-
  No cell of these rows narrows 'for every input' (looked for: loops, veiled, ifaces, maps, wideKeys, modest, calm, conditions, laid).
  DERIVED. THE GIVEN ROWS OF THIS SEAT. 8 by the template 'for every input the law returns true; each argument reads behind the call as it read before'; 0 by the template 'total and deterministic' (their statements: YtepodadinenmnaaGreatTotals.lean).
  GIVEN WITH THE SEED: the statements are not yours to turn. If you find one false, say at which input.
  Laid BY PROGRAM, IN A SANDBOX (cutbox-rows.mjs): the forced cells as the released guide's own fill.sh prints them over the translation 55f7e2a5606491a0… (all of the seat's roots in one cut). By AI agents, Wed Nov 11 2026. No macro, syntax, notation, axiom, sorry.
-/
import Derived.Test.YtepodadinenmnaaGreatChecked
import GoSem.Claim
import GoSem.ClaimJoined
import GoSem.ClaimMapViews
import Derived.JoinedTies
import Derived.KernelRfl
namespace Go.Proofs.YtepodadinenmnaaGreat
/- THE CELL 'sum', in the pinned program and in every row, IS THE sha256 OF THE DUMP (.gsa) THAT YtepodadinenmnaaGreatProg.lean LOADS. Nothing in Lean hashes anything: it is a label: what it is worth is what the hold of that sum in a sandbox is worth. -/
noncomputable def Tryz.pinned : Pinned := { name := "ytepodadinenmnaagreat", sum := "55f7e2a5606491a0f3bf581faf39bb215278761a95f18fca2a571f5b4a994699", checked := Tryz.checked }
namespace Rows
def none {H : Type} : Left H := { results := [], args := [] }

/-- 'replevinlaw20.EnginePlays': WHATEVER THE INPUT: true; the input reads as it did. -/
def enginePlaysSpec : ChangeSpec := { name := "enginePlays", fn := fun _ => fun
  | [d1, d2, d3] => { results := [.lit (.bool true)], args := [d1, d2, d3] }
  | _ => none }
def enginePlaysRow : OpenClaim := { program := "ytepodadinenmnaagreat", sum := "55f7e2a5606491a0f3bf581faf39bb215278761a95f18fca2a571f5b4a994699", func := "replevin/replevinlaw20.EnginePlays", spec := "enginePlays", inPlace := ["slices.overlaps[int]"], unfollowed := true, recurses := true, apart := false }
def EnginePlaysSaid : Prop := enginePlaysRow.holds Tryz.pinned (OpenSpec.ofChange enginePlaysSpec)

/-- ITS FALSE NEIGHBOUR: 'it returns false'. Refute it at one input. -/
def enginePlaysWrong : ChangeSpec := { name := "enginePlays", fn := fun _ => fun
  | [d1, d2, d3] => { results := [.lit (.bool false)], args := [d1, d2, d3] }
  | _ => none }
def EnginePlaysWrongFalsely : Prop := enginePlaysRow.holds Tryz.pinned (OpenSpec.ofChange enginePlaysWrong)

/-- 'replevinlaw20.EngineModels': WHATEVER THE INPUT: true; the input reads as it did. -/
def engineModelsSpec : ChangeSpec := { name := "engineModels", fn := fun _ => fun
  | [d1, d2, d3] => { results := [.lit (.bool true)], args := [d1, d2, d3] }
  | _ => none }
def engineModelsRow : OpenClaim := { program := "ytepodadinenmnaagreat", sum := "55f7e2a5606491a0f3bf581faf39bb215278761a95f18fca2a571f5b4a994699", func := "replevin/replevinlaw20.EngineModels", spec := "engineModels", inPlace := ["slices.overlaps[int]"], unfollowed := true, recurses := true, apart := false }
def EngineModelsSaid : Prop := engineModelsRow.holds Tryz.pinned (OpenSpec.ofChange engineModelsSpec)

/-- ITS FALSE NEIGHBOUR: 'it returns false'. Refute it at one input. -/
def engineModelsWrong : ChangeSpec := { name := "engineModels", fn := fun _ => fun
  | [d1, d2, d3] => { results := [.lit (.bool false)], args := [d1, d2, d3] }
  | _ => none }
def EngineModelsWrongFalsely : Prop := engineModelsRow.holds Tryz.pinned (OpenSpec.ofChange engineModelsWrong)

/-- 'replevinlaw20.EngineAgrees': WHATEVER THE INPUT: true; the input reads as it did. -/
def engineAgreesSpec : ChangeSpec := { name := "engineAgrees", fn := fun _ => fun
  | [d1, d2, d3] => { results := [.lit (.bool true)], args := [d1, d2, d3] }
  | _ => none }
def engineAgreesRow : OpenClaim := { program := "ytepodadinenmnaagreat", sum := "55f7e2a5606491a0f3bf581faf39bb215278761a95f18fca2a571f5b4a994699", func := "replevin/replevinlaw20.EngineAgrees", spec := "engineAgrees", inPlace := ["slices.overlaps[int]"], unfollowed := true, recurses := true, apart := false }
def EngineAgreesSaid : Prop := engineAgreesRow.holds Tryz.pinned (OpenSpec.ofChange engineAgreesSpec)

/-- ITS FALSE NEIGHBOUR: 'it returns false'. Refute it at one input. -/
def engineAgreesWrong : ChangeSpec := { name := "engineAgrees", fn := fun _ => fun
  | [d1, d2, d3] => { results := [.lit (.bool false)], args := [d1, d2, d3] }
  | _ => none }
def EngineAgreesWrongFalsely : Prop := engineAgreesRow.holds Tryz.pinned (OpenSpec.ofChange engineAgreesWrong)

/-- 'replevinlaw21.SolveTells': WHATEVER THE INPUT: true; the input reads as it did. -/
def solveTellsSpec : ChangeSpec := { name := "solveTells", fn := fun _ => fun
  | [d1, d2, d3] => { results := [.lit (.bool true)], args := [d1, d2, d3] }
  | _ => none }
def solveTellsRow : OpenClaim := { program := "ytepodadinenmnaagreat", sum := "55f7e2a5606491a0f3bf581faf39bb215278761a95f18fca2a571f5b4a994699", func := "replevin/replevinlaw21.SolveTells", spec := "solveTells", inPlace := ["slices.overlaps[int]"], unfollowed := true, recurses := true, apart := false }
def SolveTellsSaid : Prop := solveTellsRow.holds Tryz.pinned (OpenSpec.ofChange solveTellsSpec)

/-- ITS FALSE NEIGHBOUR: 'it returns false'. Refute it at one input. -/
def solveTellsWrong : ChangeSpec := { name := "solveTells", fn := fun _ => fun
  | [d1, d2, d3] => { results := [.lit (.bool false)], args := [d1, d2, d3] }
  | _ => none }
def SolveTellsWrongFalsely : Prop := solveTellsRow.holds Tryz.pinned (OpenSpec.ofChange solveTellsWrong)

/-- 'replevinlaw21.SolveEnds': WHATEVER THE INPUT: true; the input reads as it did. -/
def solveEndsSpec : ChangeSpec := { name := "solveEnds", fn := fun _ => fun
  | [d1, d2, d3] => { results := [.lit (.bool true)], args := [d1, d2, d3] }
  | _ => none }
def solveEndsRow : OpenClaim := { program := "ytepodadinenmnaagreat", sum := "55f7e2a5606491a0f3bf581faf39bb215278761a95f18fca2a571f5b4a994699", func := "replevin/replevinlaw21.SolveEnds", spec := "solveEnds", inPlace := ["slices.overlaps[int]"], unfollowed := true, recurses := true, apart := false }
def SolveEndsSaid : Prop := solveEndsRow.holds Tryz.pinned (OpenSpec.ofChange solveEndsSpec)

/-- ITS FALSE NEIGHBOUR: 'it returns false'. Refute it at one input. -/
def solveEndsWrong : ChangeSpec := { name := "solveEnds", fn := fun _ => fun
  | [d1, d2, d3] => { results := [.lit (.bool false)], args := [d1, d2, d3] }
  | _ => none }
def SolveEndsWrongFalsely : Prop := solveEndsRow.holds Tryz.pinned (OpenSpec.ofChange solveEndsWrong)

/-- 'replevinlaw20.EngineShows': WHATEVER THE INPUT: true; the input reads as it did. -/
def engineShowsSpec : ChangeSpec := { name := "engineShows", fn := fun _ => fun
  | [d1, d2, d3] => { results := [.lit (.bool true)], args := [d1, d2, d3] }
  | _ => none }
def engineShowsRow : OpenClaim := { program := "ytepodadinenmnaagreat", sum := "55f7e2a5606491a0f3bf581faf39bb215278761a95f18fca2a571f5b4a994699", func := "replevin/replevinlaw20.EngineShows", spec := "engineShows", inPlace := ["slices.overlaps[int]"], unfollowed := true, recurses := true, apart := false }
def EngineShowsSaid : Prop := engineShowsRow.holds Tryz.pinned (OpenSpec.ofChange engineShowsSpec)

/-- ITS FALSE NEIGHBOUR: 'it returns false'. Refute it at one input. -/
def engineShowsWrong : ChangeSpec := { name := "engineShows", fn := fun _ => fun
  | [d1, d2, d3] => { results := [.lit (.bool false)], args := [d1, d2, d3] }
  | _ => none }
def EngineShowsWrongFalsely : Prop := engineShowsRow.holds Tryz.pinned (OpenSpec.ofChange engineShowsWrong)

/-- 'replevinlaw21.SolveRight': WHATEVER THE INPUT: true; the input reads as it did. -/
def solveRightSpec : ChangeSpec := { name := "solveRight", fn := fun _ => fun
  | [d1, d2, d3] => { results := [.lit (.bool true)], args := [d1, d2, d3] }
  | _ => none }
def solveRightRow : OpenClaim := { program := "ytepodadinenmnaagreat", sum := "55f7e2a5606491a0f3bf581faf39bb215278761a95f18fca2a571f5b4a994699", func := "replevin/replevinlaw21.SolveRight", spec := "solveRight", inPlace := ["slices.overlaps[int]"], unfollowed := true, recurses := true, apart := false }
def SolveRightSaid : Prop := solveRightRow.holds Tryz.pinned (OpenSpec.ofChange solveRightSpec)

/-- ITS FALSE NEIGHBOUR: 'it returns false'. Refute it at one input. -/
def solveRightWrong : ChangeSpec := { name := "solveRight", fn := fun _ => fun
  | [d1, d2, d3] => { results := [.lit (.bool false)], args := [d1, d2, d3] }
  | _ => none }
def SolveRightWrongFalsely : Prop := solveRightRow.holds Tryz.pinned (OpenSpec.ofChange solveRightWrong)

/-- 'replevinlaw43.TrimSolved': WHATEVER THE INPUT: true; the input reads as it did. -/
def trimSolvedSpec : ChangeSpec := { name := "trimSolved", fn := fun _ => fun
  | [d1, d2, d3] => { results := [.lit (.bool true)], args := [d1, d2, d3] }
  | _ => none }
def trimSolvedRow : OpenClaim := { program := "ytepodadinenmnaagreat", sum := "55f7e2a5606491a0f3bf581faf39bb215278761a95f18fca2a571f5b4a994699", func := "replevin/replevinlaw43.TrimSolved", spec := "trimSolved", inPlace := ["slices.overlaps[int]"], unfollowed := true, recurses := true, apart := false }
def TrimSolvedSaid : Prop := trimSolvedRow.holds Tryz.pinned (OpenSpec.ofChange trimSolvedSpec)

/-- ITS FALSE NEIGHBOUR: 'it returns false'. Refute it at one input. -/
def trimSolvedWrong : ChangeSpec := { name := "trimSolved", fn := fun _ => fun
  | [d1, d2, d3] => { results := [.lit (.bool false)], args := [d1, d2, d3] }
  | _ => none }
def TrimSolvedWrongFalsely : Prop := trimSolvedRow.holds Tryz.pinned (OpenSpec.ofChange trimSolvedWrong)

/- THE SECOND FORM. 'bulk': how many values and letters a reading holds, each counted each time it is reached (what is shared counts as often as it is met; a slice's spare places count too). A statement '..UptoSaid' is the law's where the arguments, and the package variables that the reading takes, are together of bulk at most 1048576: NARROWER than '..Said'. Prove '..Said' where nothing that the law and all that it calls make is longer than what came in: it says more and counts as full. Else prove '..UptoSaid'. A law counts once. -/
mutual
def uptoBulk {H : Type} : DataW H → Nat
  | .lit (.string bytes) => bytes.length + 1
  | .lit _ => 1
  | .nil => 1
  | .ptr d => uptoBulk d + 1
  | .slice elems spare => uptoBulkAll elems + uptoBulkAll spare + 1
  | .agg parts => uptoBulkAll parts + 1
  | .iface _ d => uptoBulk d + 1
  | .map entries => uptoBulkEntries entries + 1
  | .held _ => 1
def uptoBulkAll {H : Type} : List (DataW H) → Nat
  | [] => 0
  | d :: r => uptoBulk d + uptoBulkAll r
def uptoBulkEntries {H : Type} : List (Lit × DataW H) → Nat
  | [] => 0
  | x :: r => uptoBulkEntry x + uptoBulkEntries r
def uptoBulkEntry {H : Type} : Lit × DataW H → Nat
  | (.string bytes, d) => bytes.length + uptoBulk d + 1
  | (_, d) => uptoBulk d + 1
 end
def uptoSmall : (H : Type) → List (DataW H) → Bool := fun _ ds => decide (uptoBulkAll ds ≤ 1048576)
def OpenSpec.upto (s : _root_.Go.ChangeSpec) : _root_.Go.OpenSpec := { _root_.Go.OpenSpec.ofChange s with cond := some uptoSmall }

/-- 'replevinlaw20.EnginePlays', WHERE WHAT IT READS IS OF BULK AT MOST 1048576: true; the input reads as it did. -/
def enginePlaysUptoRow : OpenClaim := { program := "ytepodadinenmnaagreat", sum := "55f7e2a5606491a0f3bf581faf39bb215278761a95f18fca2a571f5b4a994699", func := "replevin/replevinlaw20.EnginePlays", spec := "enginePlays", inPlace := ["slices.overlaps[int]"], unfollowed := true, recurses := true, apart := false, narrowed := true }
def EnginePlaysUptoSaid : Prop := enginePlaysUptoRow.holds Tryz.pinned (OpenSpec.upto enginePlaysSpec)

/-- 'replevinlaw20.EngineModels', WHERE WHAT IT READS IS OF BULK AT MOST 1048576: true; the input reads as it did. -/
def engineModelsUptoRow : OpenClaim := { program := "ytepodadinenmnaagreat", sum := "55f7e2a5606491a0f3bf581faf39bb215278761a95f18fca2a571f5b4a994699", func := "replevin/replevinlaw20.EngineModels", spec := "engineModels", inPlace := ["slices.overlaps[int]"], unfollowed := true, recurses := true, apart := false, narrowed := true }
def EngineModelsUptoSaid : Prop := engineModelsUptoRow.holds Tryz.pinned (OpenSpec.upto engineModelsSpec)

/-- 'replevinlaw20.EngineAgrees', WHERE WHAT IT READS IS OF BULK AT MOST 1048576: true; the input reads as it did. -/
def engineAgreesUptoRow : OpenClaim := { program := "ytepodadinenmnaagreat", sum := "55f7e2a5606491a0f3bf581faf39bb215278761a95f18fca2a571f5b4a994699", func := "replevin/replevinlaw20.EngineAgrees", spec := "engineAgrees", inPlace := ["slices.overlaps[int]"], unfollowed := true, recurses := true, apart := false, narrowed := true }
def EngineAgreesUptoSaid : Prop := engineAgreesUptoRow.holds Tryz.pinned (OpenSpec.upto engineAgreesSpec)

/-- 'replevinlaw21.SolveTells', WHERE WHAT IT READS IS OF BULK AT MOST 1048576: true; the input reads as it did. -/
def solveTellsUptoRow : OpenClaim := { program := "ytepodadinenmnaagreat", sum := "55f7e2a5606491a0f3bf581faf39bb215278761a95f18fca2a571f5b4a994699", func := "replevin/replevinlaw21.SolveTells", spec := "solveTells", inPlace := ["slices.overlaps[int]"], unfollowed := true, recurses := true, apart := false, narrowed := true }
def SolveTellsUptoSaid : Prop := solveTellsUptoRow.holds Tryz.pinned (OpenSpec.upto solveTellsSpec)

/-- 'replevinlaw21.SolveEnds', WHERE WHAT IT READS IS OF BULK AT MOST 1048576: true; the input reads as it did. -/
def solveEndsUptoRow : OpenClaim := { program := "ytepodadinenmnaagreat", sum := "55f7e2a5606491a0f3bf581faf39bb215278761a95f18fca2a571f5b4a994699", func := "replevin/replevinlaw21.SolveEnds", spec := "solveEnds", inPlace := ["slices.overlaps[int]"], unfollowed := true, recurses := true, apart := false, narrowed := true }
def SolveEndsUptoSaid : Prop := solveEndsUptoRow.holds Tryz.pinned (OpenSpec.upto solveEndsSpec)

/-- 'replevinlaw20.EngineShows', WHERE WHAT IT READS IS OF BULK AT MOST 1048576: true; the input reads as it did. -/
def engineShowsUptoRow : OpenClaim := { program := "ytepodadinenmnaagreat", sum := "55f7e2a5606491a0f3bf581faf39bb215278761a95f18fca2a571f5b4a994699", func := "replevin/replevinlaw20.EngineShows", spec := "engineShows", inPlace := ["slices.overlaps[int]"], unfollowed := true, recurses := true, apart := false, narrowed := true }
def EngineShowsUptoSaid : Prop := engineShowsUptoRow.holds Tryz.pinned (OpenSpec.upto engineShowsSpec)

/-- 'replevinlaw21.SolveRight', WHERE WHAT IT READS IS OF BULK AT MOST 1048576: true; the input reads as it did. -/
def solveRightUptoRow : OpenClaim := { program := "ytepodadinenmnaagreat", sum := "55f7e2a5606491a0f3bf581faf39bb215278761a95f18fca2a571f5b4a994699", func := "replevin/replevinlaw21.SolveRight", spec := "solveRight", inPlace := ["slices.overlaps[int]"], unfollowed := true, recurses := true, apart := false, narrowed := true }
def SolveRightUptoSaid : Prop := solveRightUptoRow.holds Tryz.pinned (OpenSpec.upto solveRightSpec)

/-- 'replevinlaw43.TrimSolved', WHERE WHAT IT READS IS OF BULK AT MOST 1048576: true; the input reads as it did. -/
def trimSolvedUptoRow : OpenClaim := { program := "ytepodadinenmnaagreat", sum := "55f7e2a5606491a0f3bf581faf39bb215278761a95f18fca2a571f5b4a994699", func := "replevin/replevinlaw43.TrimSolved", spec := "trimSolved", inPlace := ["slices.overlaps[int]"], unfollowed := true, recurses := true, apart := false, narrowed := true }
def TrimSolvedUptoSaid : Prop := trimSolvedUptoRow.holds Tryz.pinned (OpenSpec.upto trimSolvedSpec)

end Rows
end Go.Proofs.YtepodadinenmnaaGreat
