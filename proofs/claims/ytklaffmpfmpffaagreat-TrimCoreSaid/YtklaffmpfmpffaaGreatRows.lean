/-
  No cell of these rows narrows 'for every input' (looked for: loops, veiled, ifaces, maps, wideKeys, modest, calm, conditions, laid).
  DERIVED. THE GIVEN ROWS OF THIS SEAT. 6 by the template 'for every input the law returns true; each argument reads behind the call as it read before'; 0 by the template 'total and deterministic' (their statements: YtklaffmpfmpffaaGreatTotals.lean).
  GIVEN WITH THE SEED: the statements are not yours to turn. If you find one false, say at which input.
  Laid BY PROGRAM, IN A SANDBOX (cutbox-rows.mjs): the forced cells as the released guide's own fill.sh prints them over the translation bb29075ac3132bc2… (all of the seat's roots in one cut). By AI agents, Wed Nov 11 2026. No macro, syntax, notation, axiom, sorry.
-/
import Derived.Test.YtklaffmpfmpffaaGreatChecked
import GoSem.Claim
import GoSem.ClaimJoined
import GoSem.ClaimMapViews
import Derived.JoinedTies
import Derived.KernelRfl
namespace Go.Proofs.YtklaffmpfmpffaaGreat
/- THE CELL 'sum', in the pinned program and in every row, IS THE sha256 OF THE DUMP (.gsa) THAT YtklaffmpfmpffaaGreatProg.lean LOADS. Nothing in Lean hashes anything: it is a label: what it is worth is what the hold of that sum in a sandbox is worth. -/
noncomputable def Tryz.pinned : Pinned := { name := "ytklaffmpfmpffaagreat", sum := "bb29075ac3132bc2398dd581ca0ce778631c230551f24f0943bae2ea0ea483f7", checked := Tryz.checked }
namespace Rows
def none {H : Type} : Left H := { results := [], args := [] }

/-- 'replevinlaw43.TrimTells': WHATEVER THE INPUT: true; the input reads as it did. -/
def trimTellsSpec : ChangeSpec := { name := "trimTells", fn := fun _ => fun
  | [d1, d2] => { results := [.lit (.bool true)], args := [d1, d2] }
  | _ => none }
def trimTellsRow : OpenClaim := { program := "ytklaffmpfmpffaagreat", sum := "bb29075ac3132bc2398dd581ca0ce778631c230551f24f0943bae2ea0ea483f7", func := "replevin/replevinlaw43.TrimTells", spec := "trimTells", unfollowed := true, recurses := true, apart := false }
def TrimTellsSaid : Prop := trimTellsRow.holds Tryz.pinned (OpenSpec.ofChange trimTellsSpec)

/-- ITS FALSE NEIGHBOUR: 'it returns false'. Refute it at one input. -/
def trimTellsWrong : ChangeSpec := { name := "trimTells", fn := fun _ => fun
  | [d1, d2] => { results := [.lit (.bool false)], args := [d1, d2] }
  | _ => none }
def TrimTellsWrongFalsely : Prop := trimTellsRow.holds Tryz.pinned (OpenSpec.ofChange trimTellsWrong)

/-- 'replevinlaw43.TrimStays': WHATEVER THE INPUT: true; the input reads as it did. -/
def trimStaysSpec : ChangeSpec := { name := "trimStays", fn := fun _ => fun
  | [d1, d2] => { results := [.lit (.bool true)], args := [d1, d2] }
  | _ => none }
def trimStaysRow : OpenClaim := { program := "ytklaffmpfmpffaagreat", sum := "bb29075ac3132bc2398dd581ca0ce778631c230551f24f0943bae2ea0ea483f7", func := "replevin/replevinlaw43.TrimStays", spec := "trimStays", unfollowed := true, recurses := true, apart := false }
def TrimStaysSaid : Prop := trimStaysRow.holds Tryz.pinned (OpenSpec.ofChange trimStaysSpec)

/-- ITS FALSE NEIGHBOUR: 'it returns false'. Refute it at one input. -/
def trimStaysWrong : ChangeSpec := { name := "trimStays", fn := fun _ => fun
  | [d1, d2] => { results := [.lit (.bool false)], args := [d1, d2] }
  | _ => none }
def TrimStaysWrongFalsely : Prop := trimStaysRow.holds Tryz.pinned (OpenSpec.ofChange trimStaysWrong)

/-- 'replevinlaw43.TrimCore': WHATEVER THE INPUT: true; the input reads as it did. -/
def trimCoreSpec : ChangeSpec := { name := "trimCore", fn := fun _ => fun
  | [d1, d2, d3] => { results := [.lit (.bool true)], args := [d1, d2, d3] }
  | _ => none }
def trimCoreRow : OpenClaim := { program := "ytklaffmpfmpffaagreat", sum := "bb29075ac3132bc2398dd581ca0ce778631c230551f24f0943bae2ea0ea483f7", func := "replevin/replevinlaw43.TrimCore", spec := "trimCore", unfollowed := true, recurses := true, apart := false }
def TrimCoreSaid : Prop := trimCoreRow.holds Tryz.pinned (OpenSpec.ofChange trimCoreSpec)

/-- ITS FALSE NEIGHBOUR: 'it returns false'. Refute it at one input. -/
def trimCoreWrong : ChangeSpec := { name := "trimCore", fn := fun _ => fun
  | [d1, d2, d3] => { results := [.lit (.bool false)], args := [d1, d2, d3] }
  | _ => none }
def TrimCoreWrongFalsely : Prop := trimCoreRow.holds Tryz.pinned (OpenSpec.ofChange trimCoreWrong)

/-- 'replevinlaw15.ReasonShown': WHATEVER THE INPUT: true; the input reads as it did. -/
def reasonShownSpec : ChangeSpec := { name := "reasonShown", fn := fun _ => fun
  | [d1, d2, d3] => { results := [.lit (.bool true)], args := [d1, d2, d3] }
  | _ => none }
def reasonShownRow : OpenClaim := { program := "ytklaffmpfmpffaagreat", sum := "bb29075ac3132bc2398dd581ca0ce778631c230551f24f0943bae2ea0ea483f7", func := "replevin/replevinlaw15.ReasonShown", spec := "reasonShown", inPlace := ["slices.overlaps[int]"], unfollowed := true, recurses := true, apart := false }
def ReasonShownSaid : Prop := reasonShownRow.holds Tryz.pinned (OpenSpec.ofChange reasonShownSpec)

/-- ITS FALSE NEIGHBOUR: 'it returns false'. Refute it at one input. -/
def reasonShownWrong : ChangeSpec := { name := "reasonShown", fn := fun _ => fun
  | [d1, d2, d3] => { results := [.lit (.bool false)], args := [d1, d2, d3] }
  | _ => none }
def ReasonShownWrongFalsely : Prop := reasonShownRow.holds Tryz.pinned (OpenSpec.ofChange reasonShownWrong)

/-- 'replevinlaw15.ReasonAsserts': WHATEVER THE INPUT: true; the input reads as it did. -/
def reasonAssertsSpec : ChangeSpec := { name := "reasonAsserts", fn := fun _ => fun
  | [d1, d2] => { results := [.lit (.bool true)], args := [d1, d2] }
  | _ => none }
def reasonAssertsRow : OpenClaim := { program := "ytklaffmpfmpffaagreat", sum := "bb29075ac3132bc2398dd581ca0ce778631c230551f24f0943bae2ea0ea483f7", func := "replevin/replevinlaw15.ReasonAsserts", spec := "reasonAsserts", inPlace := ["slices.overlaps[int]"], unfollowed := true, recurses := true, apart := false }
def ReasonAssertsSaid : Prop := reasonAssertsRow.holds Tryz.pinned (OpenSpec.ofChange reasonAssertsSpec)

/-- ITS FALSE NEIGHBOUR: 'it returns false'. Refute it at one input. -/
def reasonAssertsWrong : ChangeSpec := { name := "reasonAsserts", fn := fun _ => fun
  | [d1, d2] => { results := [.lit (.bool false)], args := [d1, d2] }
  | _ => none }
def ReasonAssertsWrongFalsely : Prop := reasonAssertsRow.holds Tryz.pinned (OpenSpec.ofChange reasonAssertsWrong)

/-- 'replevinlaw16.ShortenShown': WHATEVER THE INPUT: true; the input reads as it did. -/
def shortenShownSpec : ChangeSpec := { name := "shortenShown", fn := fun _ => fun
  | [d1, d2, d3] => { results := [.lit (.bool true)], args := [d1, d2, d3] }
  | _ => none }
def shortenShownRow : OpenClaim := { program := "ytklaffmpfmpffaagreat", sum := "bb29075ac3132bc2398dd581ca0ce778631c230551f24f0943bae2ea0ea483f7", func := "replevin/replevinlaw16.ShortenShown", spec := "shortenShown", inPlace := ["slices.overlaps[int]"], unfollowed := true, recurses := true, apart := false }
def ShortenShownSaid : Prop := shortenShownRow.holds Tryz.pinned (OpenSpec.ofChange shortenShownSpec)

/-- ITS FALSE NEIGHBOUR: 'it returns false'. Refute it at one input. -/
def shortenShownWrong : ChangeSpec := { name := "shortenShown", fn := fun _ => fun
  | [d1, d2, d3] => { results := [.lit (.bool false)], args := [d1, d2, d3] }
  | _ => none }
def ShortenShownWrongFalsely : Prop := shortenShownRow.holds Tryz.pinned (OpenSpec.ofChange shortenShownWrong)

/- THE SECOND FORM. 'bulk': how many values and letters a reading holds, each counted each time it is reached (what is shared counts as often as it is met; a slice's spare places count too). A statement '..UptoSaid' is the law's where the arguments, and the package variables that the reading takes, are together of bulk at most 1048576: NARROWER than '..Said'. Prove '..Said' where nothing that the law and all that it calls make is longer than what came in: it says more and counts as full. Else prove '..UptoSaid'. A law counts once. -/
mutual
def uptoBulk {H : Type} : DataW H → Nat
  | .lit (.string bytes) => bytes.length + 1
  | .lit _ => 1
  | .nil => 1
  | .ptr d => uptoBulk d + 1
  | .slice elems spare => uptoBulkAll elems + uptoBulkAll spare + 1
  | .agg parts => uptoBulkAll parts + 1
  | .iface _ d => uptoBulk d + 1
  | .map entries => uptoBulkEntries entries + 1
  | .held _ => 1
def uptoBulkAll {H : Type} : List (DataW H) → Nat
  | [] => 0
  | d :: r => uptoBulk d + uptoBulkAll r
def uptoBulkEntries {H : Type} : List (Lit × DataW H) → Nat
  | [] => 0
  | x :: r => uptoBulkEntry x + uptoBulkEntries r
def uptoBulkEntry {H : Type} : Lit × DataW H → Nat
  | (.string bytes, d) => bytes.length + uptoBulk d + 1
  | (_, d) => uptoBulk d + 1
 end
def uptoSmall : (H : Type) → List (DataW H) → Bool := fun _ ds => decide (uptoBulkAll ds ≤ 1048576)
def OpenSpec.upto (s : _root_.Go.ChangeSpec) : _root_.Go.OpenSpec := { _root_.Go.OpenSpec.ofChange s with cond := some uptoSmall }

/-- 'replevinlaw43.TrimTells', WHERE WHAT IT READS IS OF BULK AT MOST 1048576: true; the input reads as it did. -/
def trimTellsUptoRow : OpenClaim := { program := "ytklaffmpfmpffaagreat", sum := "bb29075ac3132bc2398dd581ca0ce778631c230551f24f0943bae2ea0ea483f7", func := "replevin/replevinlaw43.TrimTells", spec := "trimTells", unfollowed := true, recurses := true, apart := false, narrowed := true }
def TrimTellsUptoSaid : Prop := trimTellsUptoRow.holds Tryz.pinned (OpenSpec.upto trimTellsSpec)

/-- 'replevinlaw43.TrimStays', WHERE WHAT IT READS IS OF BULK AT MOST 1048576: true; the input reads as it did. -/
def trimStaysUptoRow : OpenClaim := { program := "ytklaffmpfmpffaagreat", sum := "bb29075ac3132bc2398dd581ca0ce778631c230551f24f0943bae2ea0ea483f7", func := "replevin/replevinlaw43.TrimStays", spec := "trimStays", unfollowed := true, recurses := true, apart := false, narrowed := true }
def TrimStaysUptoSaid : Prop := trimStaysUptoRow.holds Tryz.pinned (OpenSpec.upto trimStaysSpec)

/-- 'replevinlaw43.TrimCore', WHERE WHAT IT READS IS OF BULK AT MOST 1048576: true; the input reads as it did. -/
def trimCoreUptoRow : OpenClaim := { program := "ytklaffmpfmpffaagreat", sum := "bb29075ac3132bc2398dd581ca0ce778631c230551f24f0943bae2ea0ea483f7", func := "replevin/replevinlaw43.TrimCore", spec := "trimCore", unfollowed := true, recurses := true, apart := false, narrowed := true }
def TrimCoreUptoSaid : Prop := trimCoreUptoRow.holds Tryz.pinned (OpenSpec.upto trimCoreSpec)

/-- 'replevinlaw15.ReasonShown', WHERE WHAT IT READS IS OF BULK AT MOST 1048576: true; the input reads as it did. -/
def reasonShownUptoRow : OpenClaim := { program := "ytklaffmpfmpffaagreat", sum := "bb29075ac3132bc2398dd581ca0ce778631c230551f24f0943bae2ea0ea483f7", func := "replevin/replevinlaw15.ReasonShown", spec := "reasonShown", inPlace := ["slices.overlaps[int]"], unfollowed := true, recurses := true, apart := false, narrowed := true }
def ReasonShownUptoSaid : Prop := reasonShownUptoRow.holds Tryz.pinned (OpenSpec.upto reasonShownSpec)

/-- 'replevinlaw15.ReasonAsserts', WHERE WHAT IT READS IS OF BULK AT MOST 1048576: true; the input reads as it did. -/
def reasonAssertsUptoRow : OpenClaim := { program := "ytklaffmpfmpffaagreat", sum := "bb29075ac3132bc2398dd581ca0ce778631c230551f24f0943bae2ea0ea483f7", func := "replevin/replevinlaw15.ReasonAsserts", spec := "reasonAsserts", inPlace := ["slices.overlaps[int]"], unfollowed := true, recurses := true, apart := false, narrowed := true }
def ReasonAssertsUptoSaid : Prop := reasonAssertsUptoRow.holds Tryz.pinned (OpenSpec.upto reasonAssertsSpec)

/-- 'replevinlaw16.ShortenShown', WHERE WHAT IT READS IS OF BULK AT MOST 1048576: true; the input reads as it did. -/
def shortenShownUptoRow : OpenClaim := { program := "ytklaffmpfmpffaagreat", sum := "bb29075ac3132bc2398dd581ca0ce778631c230551f24f0943bae2ea0ea483f7", func := "replevin/replevinlaw16.ShortenShown", spec := "shortenShown", inPlace := ["slices.overlaps[int]"], unfollowed := true, recurses := true, apart := false, narrowed := true }
def ShortenShownUptoSaid : Prop := shortenShownUptoRow.holds Tryz.pinned (OpenSpec.upto shortenShownSpec)

end Rows
end Go.Proofs.YtklaffmpfmpffaaGreat
