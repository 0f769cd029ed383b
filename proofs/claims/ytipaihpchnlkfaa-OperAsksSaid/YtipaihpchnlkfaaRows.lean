/-
  No cell of these rows narrows 'for every input' (looked for: loops, veiled, ifaces, maps, wideKeys, modest, calm, conditions, laid).
  DERIVED. THE GIVEN ROWS OF THIS SEAT. 11 by the template 'for every input the law returns true; each argument reads behind the call as it read before'; 0 by the template 'total and deterministic' (their statements: YtipaihpchnlkfaaTotals.lean).
  GIVEN WITH THE SEED: the statements are not yours to turn. If you find one false, say at which input.
  Laid BY PROGRAM, IN A SANDBOX (cutbox-rows.mjs): the forced cells as the released guide's own fill.sh prints them over the translation bdf55db8609da5c5… (all of the seat's roots in one cut). By AI agents, Wed Nov 11 2026. No macro, syntax, notation, axiom, sorry.
-/
import Derived.Test.YtipaihpchnlkfaaChecked
import GoSem.Claim
import GoSem.ClaimJoined
import GoSem.ClaimMapViews
import Derived.JoinedTies
import Derived.KernelRfl
namespace Go.Proofs.Ytipaihpchnlkfaa
/- THE CELL 'sum', in the pinned program and in every row, IS THE sha256 OF THE DUMP (.gsa) THAT YtipaihpchnlkfaaProg.lean LOADS. Nothing in Lean hashes anything: it is a label: what it is worth is what the hold of that sum in a sandbox is worth. -/
noncomputable def Try.pinned : Pinned := { name := "ytipaihpchnlkfaa", sum := "bdf55db8609da5c5e3d0f5260431b118e54bc304ce037f8b3e51ce660fec971e", checked := Try.checked }
namespace Rows
def none {H : Type} : Left H := { results := [], args := [] }

/-- 'replevinlaw35.MovesTells': WHATEVER THE INPUT: true; the input reads as it did. -/
def movesTellsSpec : ChangeSpec := { name := "movesTells", fn := fun _ => fun
  | [d1, d2, d3] => { results := [.lit (.bool true)], args := [d1, d2, d3] }
  | _ => none }
def movesTellsRow : OpenClaim := { program := "ytipaihpchnlkfaa", sum := "bdf55db8609da5c5e3d0f5260431b118e54bc304ce037f8b3e51ce660fec971e", func := "replevin/replevinlaw35.MovesTells", spec := "movesTells", unfollowed := true, recurses := true, apart := false }
def MovesTellsSaid : Prop := movesTellsRow.holds Try.pinned (OpenSpec.ofChange movesTellsSpec)

/-- ITS FALSE NEIGHBOUR: 'it returns false'. Refute it at one input. -/
def movesTellsWrong : ChangeSpec := { name := "movesTells", fn := fun _ => fun
  | [d1, d2, d3] => { results := [.lit (.bool false)], args := [d1, d2, d3] }
  | _ => none }
def MovesTellsWrongFalsely : Prop := movesTellsRow.holds Try.pinned (OpenSpec.ofChange movesTellsWrong)

/-- 'replevinlaw35.MovesPlays': WHATEVER THE INPUT: true; the input reads as it did. -/
def movesPlaysSpec : ChangeSpec := { name := "movesPlays", fn := fun _ => fun
  | [d1, d2, d3] => { results := [.lit (.bool true)], args := [d1, d2, d3] }
  | _ => none }
def movesPlaysRow : OpenClaim := { program := "ytipaihpchnlkfaa", sum := "bdf55db8609da5c5e3d0f5260431b118e54bc304ce037f8b3e51ce660fec971e", func := "replevin/replevinlaw35.MovesPlays", spec := "movesPlays", unfollowed := true, recurses := true, apart := false }
def MovesPlaysSaid : Prop := movesPlaysRow.holds Try.pinned (OpenSpec.ofChange movesPlaysSpec)

/-- ITS FALSE NEIGHBOUR: 'it returns false'. Refute it at one input. -/
def movesPlaysWrong : ChangeSpec := { name := "movesPlays", fn := fun _ => fun
  | [d1, d2, d3] => { results := [.lit (.bool false)], args := [d1, d2, d3] }
  | _ => none }
def MovesPlaysWrongFalsely : Prop := movesPlaysRow.holds Try.pinned (OpenSpec.ofChange movesPlaysWrong)

/-- 'replevinlaw35.MovesCounts': WHATEVER THE INPUT: true; the input reads as it did. -/
def movesCountsSpec : ChangeSpec := { name := "movesCounts", fn := fun _ => fun
  | [d1, d2] => { results := [.lit (.bool true)], args := [d1, d2] }
  | _ => none }
def movesCountsRow : OpenClaim := { program := "ytipaihpchnlkfaa", sum := "bdf55db8609da5c5e3d0f5260431b118e54bc304ce037f8b3e51ce660fec971e", func := "replevin/replevinlaw35.MovesCounts", spec := "movesCounts", unfollowed := true, recurses := true, apart := false }
def MovesCountsSaid : Prop := movesCountsRow.holds Try.pinned (OpenSpec.ofChange movesCountsSpec)

/-- ITS FALSE NEIGHBOUR: 'it returns false'. Refute it at one input. -/
def movesCountsWrong : ChangeSpec := { name := "movesCounts", fn := fun _ => fun
  | [d1, d2] => { results := [.lit (.bool false)], args := [d1, d2] }
  | _ => none }
def MovesCountsWrongFalsely : Prop := movesCountsRow.holds Try.pinned (OpenSpec.ofChange movesCountsWrong)

/-- 'replevinlaw35.MovesPlay': WHATEVER THE INPUT: true; the input reads as it did. -/
def movesPlaySpec : ChangeSpec := { name := "movesPlay", fn := fun _ => fun
  | [d1, d2, d3] => { results := [.lit (.bool true)], args := [d1, d2, d3] }
  | _ => none }
def movesPlayRow : OpenClaim := { program := "ytipaihpchnlkfaa", sum := "bdf55db8609da5c5e3d0f5260431b118e54bc304ce037f8b3e51ce660fec971e", func := "replevin/replevinlaw35.MovesPlay", spec := "movesPlay", unfollowed := true, recurses := true, apart := false }
def MovesPlaySaid : Prop := movesPlayRow.holds Try.pinned (OpenSpec.ofChange movesPlaySpec)

/-- ITS FALSE NEIGHBOUR: 'it returns false'. Refute it at one input. -/
def movesPlayWrong : ChangeSpec := { name := "movesPlay", fn := fun _ => fun
  | [d1, d2, d3] => { results := [.lit (.bool false)], args := [d1, d2, d3] }
  | _ => none }
def MovesPlayWrongFalsely : Prop := movesPlayRow.holds Try.pinned (OpenSpec.ofChange movesPlayWrong)

/-- 'replevinlaw27.OperTells': WHATEVER THE INPUT: true; the input reads as it did. -/
def operTellsSpec : ChangeSpec := { name := "operTells", fn := fun _ => fun
  | [d1, d2, d3] => { results := [.lit (.bool true)], args := [d1, d2, d3] }
  | _ => none }
def operTellsRow : OpenClaim := { program := "ytipaihpchnlkfaa", sum := "bdf55db8609da5c5e3d0f5260431b118e54bc304ce037f8b3e51ce660fec971e", func := "replevin/replevinlaw27.OperTells", spec := "operTells", unfollowed := true, recurses := true, apart := false }
def OperTellsSaid : Prop := operTellsRow.holds Try.pinned (OpenSpec.ofChange operTellsSpec)

/-- ITS FALSE NEIGHBOUR: 'it returns false'. Refute it at one input. -/
def operTellsWrong : ChangeSpec := { name := "operTells", fn := fun _ => fun
  | [d1, d2, d3] => { results := [.lit (.bool false)], args := [d1, d2, d3] }
  | _ => none }
def OperTellsWrongFalsely : Prop := operTellsRow.holds Try.pinned (OpenSpec.ofChange operTellsWrong)

/-- 'replevinlaw27.OperAsks': WHATEVER THE INPUT: true; the input reads as it did. -/
def operAsksSpec : ChangeSpec := { name := "operAsks", fn := fun _ => fun
  | [d1, d2] => { results := [.lit (.bool true)], args := [d1, d2] }
  | _ => none }
def operAsksRow : OpenClaim := { program := "ytipaihpchnlkfaa", sum := "bdf55db8609da5c5e3d0f5260431b118e54bc304ce037f8b3e51ce660fec971e", func := "replevin/replevinlaw27.OperAsks", spec := "operAsks", unfollowed := true, recurses := true, apart := false }
def OperAsksSaid : Prop := operAsksRow.holds Try.pinned (OpenSpec.ofChange operAsksSpec)

/-- ITS FALSE NEIGHBOUR: 'it returns false'. Refute it at one input. -/
def operAsksWrong : ChangeSpec := { name := "operAsks", fn := fun _ => fun
  | [d1, d2] => { results := [.lit (.bool false)], args := [d1, d2] }
  | _ => none }
def OperAsksWrongFalsely : Prop := operAsksRow.holds Try.pinned (OpenSpec.ofChange operAsksWrong)

/-- 'replevinlaw27.OperOrder': WHATEVER THE INPUT: true; the input reads as it did. -/
def operOrderSpec : ChangeSpec := { name := "operOrder", fn := fun _ => fun
  | [d1, d2] => { results := [.lit (.bool true)], args := [d1, d2] }
  | _ => none }
def operOrderRow : OpenClaim := { program := "ytipaihpchnlkfaa", sum := "bdf55db8609da5c5e3d0f5260431b118e54bc304ce037f8b3e51ce660fec971e", func := "replevin/replevinlaw27.OperOrder", spec := "operOrder", unfollowed := true, recurses := true, apart := false }
def OperOrderSaid : Prop := operOrderRow.holds Try.pinned (OpenSpec.ofChange operOrderSpec)

/-- ITS FALSE NEIGHBOUR: 'it returns false'. Refute it at one input. -/
def operOrderWrong : ChangeSpec := { name := "operOrder", fn := fun _ => fun
  | [d1, d2] => { results := [.lit (.bool false)], args := [d1, d2] }
  | _ => none }
def OperOrderWrongFalsely : Prop := operOrderRow.holds Try.pinned (OpenSpec.ofChange operOrderWrong)

/-- 'replevinlaw27.OperPairs': WHATEVER THE INPUT: true; the input reads as it did. -/
def operPairsSpec : ChangeSpec := { name := "operPairs", fn := fun _ => fun
  | [d] => { results := [.lit (.bool true)], args := [d] }
  | _ => none }
def operPairsRow : OpenClaim := { program := "ytipaihpchnlkfaa", sum := "bdf55db8609da5c5e3d0f5260431b118e54bc304ce037f8b3e51ce660fec971e", func := "replevin/replevinlaw27.OperPairs", spec := "operPairs", unfollowed := true, recurses := true, apart := false }
def OperPairsSaid : Prop := operPairsRow.holds Try.pinned (OpenSpec.ofChange operPairsSpec)

/-- ITS FALSE NEIGHBOUR: 'it returns false'. Refute it at one input. -/
def operPairsWrong : ChangeSpec := { name := "operPairs", fn := fun _ => fun
  | [d] => { results := [.lit (.bool false)], args := [d] }
  | _ => none }
def OperPairsWrongFalsely : Prop := operPairsRow.holds Try.pinned (OpenSpec.ofChange operPairsWrong)

/-- 'replevinlaw17.HeapPlays': WHATEVER THE INPUT: true; the input reads as it did. -/
def heapPlaysSpec : ChangeSpec := { name := "heapPlays", fn := fun _ => fun
  | [d1, d2, d3] => { results := [.lit (.bool true)], args := [d1, d2, d3] }
  | _ => none }
def heapPlaysRow : OpenClaim := { program := "ytipaihpchnlkfaa", sum := "bdf55db8609da5c5e3d0f5260431b118e54bc304ce037f8b3e51ce660fec971e", func := "replevin/replevinlaw17.HeapPlays", spec := "heapPlays", unfollowed := true, recurses := true, apart := false }
def HeapPlaysSaid : Prop := heapPlaysRow.holds Try.pinned (OpenSpec.ofChange heapPlaysSpec)

/-- ITS FALSE NEIGHBOUR: 'it returns false'. Refute it at one input. -/
def heapPlaysWrong : ChangeSpec := { name := "heapPlays", fn := fun _ => fun
  | [d1, d2, d3] => { results := [.lit (.bool false)], args := [d1, d2, d3] }
  | _ => none }
def HeapPlaysWrongFalsely : Prop := heapPlaysRow.holds Try.pinned (OpenSpec.ofChange heapPlaysWrong)

/-- 'replevinlaw17.HeapTops': WHATEVER THE INPUT: true; the input reads as it did. -/
def heapTopsSpec : ChangeSpec := { name := "heapTops", fn := fun _ => fun
  | [d1, d2] => { results := [.lit (.bool true)], args := [d1, d2] }
  | _ => none }
def heapTopsRow : OpenClaim := { program := "ytipaihpchnlkfaa", sum := "bdf55db8609da5c5e3d0f5260431b118e54bc304ce037f8b3e51ce660fec971e", func := "replevin/replevinlaw17.HeapTops", spec := "heapTops", unfollowed := true, recurses := true, apart := false }
def HeapTopsSaid : Prop := heapTopsRow.holds Try.pinned (OpenSpec.ofChange heapTopsSpec)

/-- ITS FALSE NEIGHBOUR: 'it returns false'. Refute it at one input. -/
def heapTopsWrong : ChangeSpec := { name := "heapTops", fn := fun _ => fun
  | [d1, d2] => { results := [.lit (.bool false)], args := [d1, d2] }
  | _ => none }
def HeapTopsWrongFalsely : Prop := heapTopsRow.holds Try.pinned (OpenSpec.ofChange heapTopsWrong)

/-- 'replevinlaw17.HeapDecays': WHATEVER THE INPUT: true; the input reads as it did. -/
def heapDecaysSpec : ChangeSpec := { name := "heapDecays", fn := fun _ => fun
  | [d1, d2, d3] => { results := [.lit (.bool true)], args := [d1, d2, d3] }
  | _ => none }
def heapDecaysRow : OpenClaim := { program := "ytipaihpchnlkfaa", sum := "bdf55db8609da5c5e3d0f5260431b118e54bc304ce037f8b3e51ce660fec971e", func := "replevin/replevinlaw17.HeapDecays", spec := "heapDecays", unfollowed := true, recurses := true, apart := false }
def HeapDecaysSaid : Prop := heapDecaysRow.holds Try.pinned (OpenSpec.ofChange heapDecaysSpec)

/-- ITS FALSE NEIGHBOUR: 'it returns false'. Refute it at one input. -/
def heapDecaysWrong : ChangeSpec := { name := "heapDecays", fn := fun _ => fun
  | [d1, d2, d3] => { results := [.lit (.bool false)], args := [d1, d2, d3] }
  | _ => none }
def HeapDecaysWrongFalsely : Prop := heapDecaysRow.holds Try.pinned (OpenSpec.ofChange heapDecaysWrong)

/- THE SECOND FORM. 'bulk': how many values and letters a reading holds, each counted each time it is reached (what is shared counts as often as it is met; a slice's spare places count too). A statement '..UptoSaid' is the law's where the arguments, and the package variables that the reading takes, are together of bulk at most 1048576: NARROWER than '..Said'. Prove '..Said' where nothing that the law and all that it calls make is longer than what came in: it says more and counts as full. Else prove '..UptoSaid'. A law counts once. -/
mutual
def uptoBulk {H : Type} : DataW H → Nat
  | .lit (.string bytes) => bytes.length + 1
  | .lit _ => 1
  | .nil => 1
  | .ptr d => uptoBulk d + 1
  | .slice elems spare => uptoBulkAll elems + uptoBulkAll spare + 1
  | .agg parts => uptoBulkAll parts + 1
  | .iface _ d => uptoBulk d + 1
  | .map entries => uptoBulkEntries entries + 1
  | .held _ => 1
def uptoBulkAll {H : Type} : List (DataW H) → Nat
  | [] => 0
  | d :: r => uptoBulk d + uptoBulkAll r
def uptoBulkEntries {H : Type} : List (Lit × DataW H) → Nat
  | [] => 0
  | x :: r => uptoBulkEntry x + uptoBulkEntries r
def uptoBulkEntry {H : Type} : Lit × DataW H → Nat
  | (.string bytes, d) => bytes.length + uptoBulk d + 1
  | (_, d) => uptoBulk d + 1
 end
def uptoSmall : (H : Type) → List (DataW H) → Bool := fun _ ds => decide (uptoBulkAll ds ≤ 1048576)
def OpenSpec.upto (s : _root_.Go.ChangeSpec) : _root_.Go.OpenSpec := { _root_.Go.OpenSpec.ofChange s with cond := some uptoSmall }

/-- 'replevinlaw35.MovesTells', WHERE WHAT IT READS IS OF BULK AT MOST 1048576: true; the input reads as it did. -/
def movesTellsUptoRow : OpenClaim := { program := "ytipaihpchnlkfaa", sum := "bdf55db8609da5c5e3d0f5260431b118e54bc304ce037f8b3e51ce660fec971e", func := "replevin/replevinlaw35.MovesTells", spec := "movesTells", unfollowed := true, recurses := true, apart := false, narrowed := true }
def MovesTellsUptoSaid : Prop := movesTellsUptoRow.holds Try.pinned (OpenSpec.upto movesTellsSpec)

/-- 'replevinlaw35.MovesPlays', WHERE WHAT IT READS IS OF BULK AT MOST 1048576: true; the input reads as it did. -/
def movesPlaysUptoRow : OpenClaim := { program := "ytipaihpchnlkfaa", sum := "bdf55db8609da5c5e3d0f5260431b118e54bc304ce037f8b3e51ce660fec971e", func := "replevin/replevinlaw35.MovesPlays", spec := "movesPlays", unfollowed := true, recurses := true, apart := false, narrowed := true }
def MovesPlaysUptoSaid : Prop := movesPlaysUptoRow.holds Try.pinned (OpenSpec.upto movesPlaysSpec)

/-- 'replevinlaw35.MovesCounts', WHERE WHAT IT READS IS OF BULK AT MOST 1048576: true; the input reads as it did. -/
def movesCountsUptoRow : OpenClaim := { program := "ytipaihpchnlkfaa", sum := "bdf55db8609da5c5e3d0f5260431b118e54bc304ce037f8b3e51ce660fec971e", func := "replevin/replevinlaw35.MovesCounts", spec := "movesCounts", unfollowed := true, recurses := true, apart := false, narrowed := true }
def MovesCountsUptoSaid : Prop := movesCountsUptoRow.holds Try.pinned (OpenSpec.upto movesCountsSpec)

/-- 'replevinlaw35.MovesPlay', WHERE WHAT IT READS IS OF BULK AT MOST 1048576: true; the input reads as it did. -/
def movesPlayUptoRow : OpenClaim := { program := "ytipaihpchnlkfaa", sum := "bdf55db8609da5c5e3d0f5260431b118e54bc304ce037f8b3e51ce660fec971e", func := "replevin/replevinlaw35.MovesPlay", spec := "movesPlay", unfollowed := true, recurses := true, apart := false, narrowed := true }
def MovesPlayUptoSaid : Prop := movesPlayUptoRow.holds Try.pinned (OpenSpec.upto movesPlaySpec)

/-- 'replevinlaw27.OperTells', WHERE WHAT IT READS IS OF BULK AT MOST 1048576: true; the input reads as it did. -/
def operTellsUptoRow : OpenClaim := { program := "ytipaihpchnlkfaa", sum := "bdf55db8609da5c5e3d0f5260431b118e54bc304ce037f8b3e51ce660fec971e", func := "replevin/replevinlaw27.OperTells", spec := "operTells", unfollowed := true, recurses := true, apart := false, narrowed := true }
def OperTellsUptoSaid : Prop := operTellsUptoRow.holds Try.pinned (OpenSpec.upto operTellsSpec)

/-- 'replevinlaw27.OperAsks', WHERE WHAT IT READS IS OF BULK AT MOST 1048576: true; the input reads as it did. -/
def operAsksUptoRow : OpenClaim := { program := "ytipaihpchnlkfaa", sum := "bdf55db8609da5c5e3d0f5260431b118e54bc304ce037f8b3e51ce660fec971e", func := "replevin/replevinlaw27.OperAsks", spec := "operAsks", unfollowed := true, recurses := true, apart := false, narrowed := true }
def OperAsksUptoSaid : Prop := operAsksUptoRow.holds Try.pinned (OpenSpec.upto operAsksSpec)

/-- 'replevinlaw27.OperOrder', WHERE WHAT IT READS IS OF BULK AT MOST 1048576: true; the input reads as it did. -/
def operOrderUptoRow : OpenClaim := { program := "ytipaihpchnlkfaa", sum := "bdf55db8609da5c5e3d0f5260431b118e54bc304ce037f8b3e51ce660fec971e", func := "replevin/replevinlaw27.OperOrder", spec := "operOrder", unfollowed := true, recurses := true, apart := false, narrowed := true }
def OperOrderUptoSaid : Prop := operOrderUptoRow.holds Try.pinned (OpenSpec.upto operOrderSpec)

/-- 'replevinlaw27.OperPairs', WHERE WHAT IT READS IS OF BULK AT MOST 1048576: true; the input reads as it did. -/
def operPairsUptoRow : OpenClaim := { program := "ytipaihpchnlkfaa", sum := "bdf55db8609da5c5e3d0f5260431b118e54bc304ce037f8b3e51ce660fec971e", func := "replevin/replevinlaw27.OperPairs", spec := "operPairs", unfollowed := true, recurses := true, apart := false, narrowed := true }
def OperPairsUptoSaid : Prop := operPairsUptoRow.holds Try.pinned (OpenSpec.upto operPairsSpec)

/-- 'replevinlaw17.HeapPlays', WHERE WHAT IT READS IS OF BULK AT MOST 1048576: true; the input reads as it did. -/
def heapPlaysUptoRow : OpenClaim := { program := "ytipaihpchnlkfaa", sum := "bdf55db8609da5c5e3d0f5260431b118e54bc304ce037f8b3e51ce660fec971e", func := "replevin/replevinlaw17.HeapPlays", spec := "heapPlays", unfollowed := true, recurses := true, apart := false, narrowed := true }
def HeapPlaysUptoSaid : Prop := heapPlaysUptoRow.holds Try.pinned (OpenSpec.upto heapPlaysSpec)

/-- 'replevinlaw17.HeapTops', WHERE WHAT IT READS IS OF BULK AT MOST 1048576: true; the input reads as it did. -/
def heapTopsUptoRow : OpenClaim := { program := "ytipaihpchnlkfaa", sum := "bdf55db8609da5c5e3d0f5260431b118e54bc304ce037f8b3e51ce660fec971e", func := "replevin/replevinlaw17.HeapTops", spec := "heapTops", unfollowed := true, recurses := true, apart := false, narrowed := true }
def HeapTopsUptoSaid : Prop := heapTopsUptoRow.holds Try.pinned (OpenSpec.upto heapTopsSpec)

/-- 'replevinlaw17.HeapDecays', WHERE WHAT IT READS IS OF BULK AT MOST 1048576: true; the input reads as it did. -/
def heapDecaysUptoRow : OpenClaim := { program := "ytipaihpchnlkfaa", sum := "bdf55db8609da5c5e3d0f5260431b118e54bc304ce037f8b3e51ce660fec971e", func := "replevin/replevinlaw17.HeapDecays", spec := "heapDecays", unfollowed := true, recurses := true, apart := false, narrowed := true }
def HeapDecaysUptoSaid : Prop := heapDecaysUptoRow.holds Try.pinned (OpenSpec.upto heapDecaysSpec)

end Rows
end Go.Proofs.Ytipaihpchnlkfaa
