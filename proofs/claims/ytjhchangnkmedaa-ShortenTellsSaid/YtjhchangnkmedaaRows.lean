/-
  No cell of these rows narrows 'for every input' (looked for: loops, veiled, ifaces, maps, wideKeys, modest, calm, conditions, laid).
  DERIVED. THE GIVEN ROWS OF THIS SEAT. 5 by the template 'for every input the law returns true; each argument reads behind the call as it read before'; 0 by the template 'total and deterministic' (their statements: YtjhchangnkmedaaTotals.lean).
  GIVEN WITH THE SEED: the statements are not yours to turn. If you find one false, say at which input.
  Laid BY PROGRAM, IN A SANDBOX (cutbox-rows.mjs): the forced cells as the released guide's own fill.sh prints them over the translation 04b46b54de59db5c… (all of the seat's roots in one cut). By AI agents, Wed Nov 11 2026. No macro, syntax, notation, axiom, sorry.
-/
import Derived.Test.YtjhchangnkmedaaChecked
import GoSem.Claim
import GoSem.ClaimJoined
import GoSem.ClaimMapViews
import Derived.JoinedTies
import Derived.KernelRfl
namespace Go.Proofs.Ytjhchangnkmedaa
/- THE CELL 'sum', in the pinned program and in every row, IS THE sha256 OF THE DUMP (.gsa) THAT YtjhchangnkmedaaProg.lean LOADS. Nothing in Lean hashes anything: it is a label: what it is worth is what the hold of that sum in a sandbox is worth. -/
noncomputable def Try.pinned : Pinned := { name := "ytjhchangnkmedaa", sum := "04b46b54de59db5c6446e108ec7f0668cf7db373025ac83f3d07462906e906f6", checked := Try.checked }
namespace Rows
def none {H : Type} : Left H := { results := [], args := [] }

/-- 'replevinlaw16.ShortenMinimal': WHATEVER THE INPUT: true; the input reads as it did. -/
def shortenMinimalSpec : ChangeSpec := { name := "shortenMinimal", fn := fun _ => fun
  | [d1, d2, d3] => { results := [.lit (.bool true)], args := [d1, d2, d3] }
  | _ => none }
def shortenMinimalRow : OpenClaim := { program := "ytjhchangnkmedaa", sum := "04b46b54de59db5c6446e108ec7f0668cf7db373025ac83f3d07462906e906f6", func := "replevin/replevinlaw16.ShortenMinimal", spec := "shortenMinimal", unfollowed := true, recurses := true, apart := false }
def ShortenMinimalSaid : Prop := shortenMinimalRow.holds Try.pinned (OpenSpec.ofChange shortenMinimalSpec)

/-- ITS FALSE NEIGHBOUR: 'it returns false'. Refute it at one input. -/
def shortenMinimalWrong : ChangeSpec := { name := "shortenMinimal", fn := fun _ => fun
  | [d1, d2, d3] => { results := [.lit (.bool false)], args := [d1, d2, d3] }
  | _ => none }
def ShortenMinimalWrongFalsely : Prop := shortenMinimalRow.holds Try.pinned (OpenSpec.ofChange shortenMinimalWrong)

/-- 'replevinlaw16.ShortenTells': WHATEVER THE INPUT: true; the input reads as it did. -/
def shortenTellsSpec : ChangeSpec := { name := "shortenTells", fn := fun _ => fun
  | [d1, d2, d3] => { results := [.lit (.bool true)], args := [d1, d2, d3] }
  | _ => none }
def shortenTellsRow : OpenClaim := { program := "ytjhchangnkmedaa", sum := "04b46b54de59db5c6446e108ec7f0668cf7db373025ac83f3d07462906e906f6", func := "replevin/replevinlaw16.ShortenTells", spec := "shortenTells", unfollowed := true, recurses := true, apart := false }
def ShortenTellsSaid : Prop := shortenTellsRow.holds Try.pinned (OpenSpec.ofChange shortenTellsSpec)

/-- ITS FALSE NEIGHBOUR: 'it returns false'. Refute it at one input. -/
def shortenTellsWrong : ChangeSpec := { name := "shortenTells", fn := fun _ => fun
  | [d1, d2, d3] => { results := [.lit (.bool false)], args := [d1, d2, d3] }
  | _ => none }
def ShortenTellsWrongFalsely : Prop := shortenTellsRow.holds Try.pinned (OpenSpec.ofChange shortenTellsWrong)

/-- 'replevinlaw19.GlueCounts': WHATEVER THE INPUT: true; the input reads as it did. -/
def glueCountsSpec : ChangeSpec := { name := "glueCounts", fn := fun _ => fun
  | [d1, d2, d3] => { results := [.lit (.bool true)], args := [d1, d2, d3] }
  | _ => none }
def glueCountsRow : OpenClaim := { program := "ytjhchangnkmedaa", sum := "04b46b54de59db5c6446e108ec7f0668cf7db373025ac83f3d07462906e906f6", func := "replevin/replevinlaw19.GlueCounts", spec := "glueCounts", unfollowed := true, recurses := true, apart := false }
def GlueCountsSaid : Prop := glueCountsRow.holds Try.pinned (OpenSpec.ofChange glueCountsSpec)

/-- ITS FALSE NEIGHBOUR: 'it returns false'. Refute it at one input. -/
def glueCountsWrong : ChangeSpec := { name := "glueCounts", fn := fun _ => fun
  | [d1, d2, d3] => { results := [.lit (.bool false)], args := [d1, d2, d3] }
  | _ => none }
def GlueCountsWrongFalsely : Prop := glueCountsRow.holds Try.pinned (OpenSpec.ofChange glueCountsWrong)

/-- 'replevinlaw19.GlueForgets': WHATEVER THE INPUT: true; the input reads as it did. -/
def glueForgetsSpec : ChangeSpec := { name := "glueForgets", fn := fun _ => fun
  | [d1, d2] => { results := [.lit (.bool true)], args := [d1, d2] }
  | _ => none }
def glueForgetsRow : OpenClaim := { program := "ytjhchangnkmedaa", sum := "04b46b54de59db5c6446e108ec7f0668cf7db373025ac83f3d07462906e906f6", func := "replevin/replevinlaw19.GlueForgets", spec := "glueForgets", unfollowed := true, recurses := true, apart := false }
def GlueForgetsSaid : Prop := glueForgetsRow.holds Try.pinned (OpenSpec.ofChange glueForgetsSpec)

/-- ITS FALSE NEIGHBOUR: 'it returns false'. Refute it at one input. -/
def glueForgetsWrong : ChangeSpec := { name := "glueForgets", fn := fun _ => fun
  | [d1, d2] => { results := [.lit (.bool false)], args := [d1, d2] }
  | _ => none }
def GlueForgetsWrongFalsely : Prop := glueForgetsRow.holds Try.pinned (OpenSpec.ofChange glueForgetsWrong)

/-- 'replevinlaw19.GlueRows': WHATEVER THE INPUT: true; the input reads as it did. -/
def glueRowsSpec : ChangeSpec := { name := "glueRows", fn := fun _ => fun
  | [d1, d2] => { results := [.lit (.bool true)], args := [d1, d2] }
  | _ => none }
def glueRowsRow : OpenClaim := { program := "ytjhchangnkmedaa", sum := "04b46b54de59db5c6446e108ec7f0668cf7db373025ac83f3d07462906e906f6", func := "replevin/replevinlaw19.GlueRows", spec := "glueRows", unfollowed := true, recurses := true, apart := false }
def GlueRowsSaid : Prop := glueRowsRow.holds Try.pinned (OpenSpec.ofChange glueRowsSpec)

/-- ITS FALSE NEIGHBOUR: 'it returns false'. Refute it at one input. -/
def glueRowsWrong : ChangeSpec := { name := "glueRows", fn := fun _ => fun
  | [d1, d2] => { results := [.lit (.bool false)], args := [d1, d2] }
  | _ => none }
def GlueRowsWrongFalsely : Prop := glueRowsRow.holds Try.pinned (OpenSpec.ofChange glueRowsWrong)

/- THE SECOND FORM. 'bulk': how many values and letters a reading holds, each counted each time it is reached (what is shared counts as often as it is met; a slice's spare places count too). A statement '..UptoSaid' is the law's where the arguments, and the package variables that the reading takes, are together of bulk at most 1048576: NARROWER than '..Said'. Prove '..Said' where nothing that the law and all that it calls make is longer than what came in: it says more and counts as full. Else prove '..UptoSaid'. A law counts once. -/
mutual
def uptoBulk {H : Type} : DataW H → Nat
  | .lit (.string bytes) => bytes.length + 1
  | .lit _ => 1
  | .nil => 1
  | .ptr d => uptoBulk d + 1
  | .slice elems spare => uptoBulkAll elems + uptoBulkAll spare + 1
  | .agg parts => uptoBulkAll parts + 1
  | .iface _ d => uptoBulk d + 1
  | .map entries => uptoBulkEntries entries + 1
  | .held _ => 1
def uptoBulkAll {H : Type} : List (DataW H) → Nat
  | [] => 0
  | d :: r => uptoBulk d + uptoBulkAll r
def uptoBulkEntries {H : Type} : List (Lit × DataW H) → Nat
  | [] => 0
  | x :: r => uptoBulkEntry x + uptoBulkEntries r
def uptoBulkEntry {H : Type} : Lit × DataW H → Nat
  | (.string bytes, d) => bytes.length + uptoBulk d + 1
  | (_, d) => uptoBulk d + 1
 end
def uptoSmall : (H : Type) → List (DataW H) → Bool := fun _ ds => decide (uptoBulkAll ds ≤ 1048576)
def OpenSpec.upto (s : _root_.Go.ChangeSpec) : _root_.Go.OpenSpec := { _root_.Go.OpenSpec.ofChange s with cond := some uptoSmall }

/-- 'replevinlaw16.ShortenMinimal', WHERE WHAT IT READS IS OF BULK AT MOST 1048576: true; the input reads as it did. -/
def shortenMinimalUptoRow : OpenClaim := { program := "ytjhchangnkmedaa", sum := "04b46b54de59db5c6446e108ec7f0668cf7db373025ac83f3d07462906e906f6", func := "replevin/replevinlaw16.ShortenMinimal", spec := "shortenMinimal", unfollowed := true, recurses := true, apart := false, narrowed := true }
def ShortenMinimalUptoSaid : Prop := shortenMinimalUptoRow.holds Try.pinned (OpenSpec.upto shortenMinimalSpec)

/-- 'replevinlaw16.ShortenTells', WHERE WHAT IT READS IS OF BULK AT MOST 1048576: true; the input reads as it did. -/
def shortenTellsUptoRow : OpenClaim := { program := "ytjhchangnkmedaa", sum := "04b46b54de59db5c6446e108ec7f0668cf7db373025ac83f3d07462906e906f6", func := "replevin/replevinlaw16.ShortenTells", spec := "shortenTells", unfollowed := true, recurses := true, apart := false, narrowed := true }
def ShortenTellsUptoSaid : Prop := shortenTellsUptoRow.holds Try.pinned (OpenSpec.upto shortenTellsSpec)

/-- 'replevinlaw19.GlueCounts', WHERE WHAT IT READS IS OF BULK AT MOST 1048576: true; the input reads as it did. -/
def glueCountsUptoRow : OpenClaim := { program := "ytjhchangnkmedaa", sum := "04b46b54de59db5c6446e108ec7f0668cf7db373025ac83f3d07462906e906f6", func := "replevin/replevinlaw19.GlueCounts", spec := "glueCounts", unfollowed := true, recurses := true, apart := false, narrowed := true }
def GlueCountsUptoSaid : Prop := glueCountsUptoRow.holds Try.pinned (OpenSpec.upto glueCountsSpec)

/-- 'replevinlaw19.GlueForgets', WHERE WHAT IT READS IS OF BULK AT MOST 1048576: true; the input reads as it did. -/
def glueForgetsUptoRow : OpenClaim := { program := "ytjhchangnkmedaa", sum := "04b46b54de59db5c6446e108ec7f0668cf7db373025ac83f3d07462906e906f6", func := "replevin/replevinlaw19.GlueForgets", spec := "glueForgets", unfollowed := true, recurses := true, apart := false, narrowed := true }
def GlueForgetsUptoSaid : Prop := glueForgetsUptoRow.holds Try.pinned (OpenSpec.upto glueForgetsSpec)

/-- 'replevinlaw19.GlueRows', WHERE WHAT IT READS IS OF BULK AT MOST 1048576: true; the input reads as it did. -/
def glueRowsUptoRow : OpenClaim := { program := "ytjhchangnkmedaa", sum := "04b46b54de59db5c6446e108ec7f0668cf7db373025ac83f3d07462906e906f6", func := "replevin/replevinlaw19.GlueRows", spec := "glueRows", unfollowed := true, recurses := true, apart := false, narrowed := true }
def GlueRowsUptoSaid : Prop := glueRowsUptoRow.holds Try.pinned (OpenSpec.upto glueRowsSpec)

end Rows
end Go.Proofs.Ytjhchangnkmedaa
