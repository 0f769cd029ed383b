/-
  No cell of these rows narrows 'for every input' (looked for: loops, veiled, ifaces, maps, wideKeys, modest, calm, conditions, laid).
  DERIVED. THE GIVEN ROWS OF THIS SEAT. 12 by the template 'for every input the law returns true; each argument reads behind the call as it read before'; 0 by the template 'total and deterministic' (their statements: YtphbmbhmhbchbaaTotals.lean).
  GIVEN WITH THE SEED: the statements are not yours to turn. If you find one false, say at which input.
  Laid BY PROGRAM, IN A SANDBOX (cutbox-rows.mjs): the forced cells as the released guide's own fill.sh prints them over the translation 0944a1fe4ee8ed20… (all of the seat's roots in one cut). By AI agents, Wed Nov 11 2026. No macro, syntax, notation, axiom, sorry.
-/
import Derived.Test.YtphbmbhmhbchbaaChecked
import GoSem.Claim
import GoSem.ClaimJoined
import GoSem.ClaimMapViews
import Derived.JoinedTies
import Derived.KernelRfl
namespace Go.Proofs.Ytphbmbhmhbchbaa
/- THE CELL 'sum', in the pinned program and in every row, IS THE sha256 OF THE DUMP (.gsa) THAT YtphbmbhmhbchbaaProg.lean LOADS. Nothing in Lean hashes anything: it is a label: what it is worth is what the hold of that sum in a sandbox is worth. -/
noncomputable def Try.pinned : Pinned := { name := "ytphbmbhmhbchbaa", sum := "0944a1fe4ee8ed20905a9be3835a8f990f3687ed794b48e1d16b2ad1ac45f44c", checked := Try.checked }
namespace Rows
def none {H : Type} : Left H := { results := [], args := [] }

/-- 'replevinlaw27.OperTells': WHATEVER THE INPUT: true; the input reads as it did. -/
def operTellsSpec : ChangeSpec := { name := "operTells", fn := fun _ => fun
  | [d1, d2, d3] => { results := [.lit (.bool true)], args := [d1, d2, d3] }
  | _ => none }
def operTellsRow : OpenClaim := { program := "ytphbmbhmhbchbaa", sum := "0944a1fe4ee8ed20905a9be3835a8f990f3687ed794b48e1d16b2ad1ac45f44c", func := "replevin/replevinlaw27.OperTells", spec := "operTells", unfollowed := true, recurses := true, apart := false }
def OperTellsSaid : Prop := operTellsRow.holds Try.pinned (OpenSpec.ofChange operTellsSpec)

/-- ITS FALSE NEIGHBOUR: 'it returns false'. Refute it at one input. -/
def operTellsWrong : ChangeSpec := { name := "operTells", fn := fun _ => fun
  | [d1, d2, d3] => { results := [.lit (.bool false)], args := [d1, d2, d3] }
  | _ => none }
def OperTellsWrongFalsely : Prop := operTellsRow.holds Try.pinned (OpenSpec.ofChange operTellsWrong)

/-- 'replevinlaw27.OperOrder': WHATEVER THE INPUT: true; the input reads as it did. -/
def operOrderSpec : ChangeSpec := { name := "operOrder", fn := fun _ => fun
  | [d1, d2] => { results := [.lit (.bool true)], args := [d1, d2] }
  | _ => none }
def operOrderRow : OpenClaim := { program := "ytphbmbhmhbchbaa", sum := "0944a1fe4ee8ed20905a9be3835a8f990f3687ed794b48e1d16b2ad1ac45f44c", func := "replevin/replevinlaw27.OperOrder", spec := "operOrder", unfollowed := true, recurses := true, apart := false }
def OperOrderSaid : Prop := operOrderRow.holds Try.pinned (OpenSpec.ofChange operOrderSpec)

/-- ITS FALSE NEIGHBOUR: 'it returns false'. Refute it at one input. -/
def operOrderWrong : ChangeSpec := { name := "operOrder", fn := fun _ => fun
  | [d1, d2] => { results := [.lit (.bool false)], args := [d1, d2] }
  | _ => none }
def OperOrderWrongFalsely : Prop := operOrderRow.holds Try.pinned (OpenSpec.ofChange operOrderWrong)

/-- 'replevinlaw16.ShortenTells': WHATEVER THE INPUT: true; the input reads as it did. -/
def shortenTellsSpec : ChangeSpec := { name := "shortenTells", fn := fun _ => fun
  | [d1, d2, d3] => { results := [.lit (.bool true)], args := [d1, d2, d3] }
  | _ => none }
def shortenTellsRow : OpenClaim := { program := "ytphbmbhmhbchbaa", sum := "0944a1fe4ee8ed20905a9be3835a8f990f3687ed794b48e1d16b2ad1ac45f44c", func := "replevin/replevinlaw16.ShortenTells", spec := "shortenTells", unfollowed := true, recurses := true, apart := false }
def ShortenTellsSaid : Prop := shortenTellsRow.holds Try.pinned (OpenSpec.ofChange shortenTellsSpec)

/-- ITS FALSE NEIGHBOUR: 'it returns false'. Refute it at one input. -/
def shortenTellsWrong : ChangeSpec := { name := "shortenTells", fn := fun _ => fun
  | [d1, d2, d3] => { results := [.lit (.bool false)], args := [d1, d2, d3] }
  | _ => none }
def ShortenTellsWrongFalsely : Prop := shortenTellsRow.holds Try.pinned (OpenSpec.ofChange shortenTellsWrong)

/-- 'replevinlaw16.ShortenMinimal': WHATEVER THE INPUT: true; the input reads as it did. -/
def shortenMinimalSpec : ChangeSpec := { name := "shortenMinimal", fn := fun _ => fun
  | [d1, d2, d3] => { results := [.lit (.bool true)], args := [d1, d2, d3] }
  | _ => none }
def shortenMinimalRow : OpenClaim := { program := "ytphbmbhmhbchbaa", sum := "0944a1fe4ee8ed20905a9be3835a8f990f3687ed794b48e1d16b2ad1ac45f44c", func := "replevin/replevinlaw16.ShortenMinimal", spec := "shortenMinimal", unfollowed := true, recurses := true, apart := false }
def ShortenMinimalSaid : Prop := shortenMinimalRow.holds Try.pinned (OpenSpec.ofChange shortenMinimalSpec)

/-- ITS FALSE NEIGHBOUR: 'it returns false'. Refute it at one input. -/
def shortenMinimalWrong : ChangeSpec := { name := "shortenMinimal", fn := fun _ => fun
  | [d1, d2, d3] => { results := [.lit (.bool false)], args := [d1, d2, d3] }
  | _ => none }
def ShortenMinimalWrongFalsely : Prop := shortenMinimalRow.holds Try.pinned (OpenSpec.ofChange shortenMinimalWrong)

/-- 'replevinlaw25.EventTells': WHATEVER THE INPUT: true; the input reads as it did. -/
def eventTellsSpec : ChangeSpec := { name := "eventTells", fn := fun _ => fun
  | [d1, d2, d3] => { results := [.lit (.bool true)], args := [d1, d2, d3] }
  | _ => none }
def eventTellsRow : OpenClaim := { program := "ytphbmbhmhbchbaa", sum := "0944a1fe4ee8ed20905a9be3835a8f990f3687ed794b48e1d16b2ad1ac45f44c", func := "replevin/replevinlaw25.EventTells", spec := "eventTells", unfollowed := true, recurses := true, apart := false }
def EventTellsSaid : Prop := eventTellsRow.holds Try.pinned (OpenSpec.ofChange eventTellsSpec)

/-- ITS FALSE NEIGHBOUR: 'it returns false'. Refute it at one input. -/
def eventTellsWrong : ChangeSpec := { name := "eventTells", fn := fun _ => fun
  | [d1, d2, d3] => { results := [.lit (.bool false)], args := [d1, d2, d3] }
  | _ => none }
def EventTellsWrongFalsely : Prop := eventTellsRow.holds Try.pinned (OpenSpec.ofChange eventTellsWrong)

/-- 'replevinlaw25.EventForms': WHATEVER THE INPUT: true; the input reads as it did. -/
def eventFormsSpec : ChangeSpec := { name := "eventForms", fn := fun _ => fun
  | [d1, d2] => { results := [.lit (.bool true)], args := [d1, d2] }
  | _ => none }
def eventFormsRow : OpenClaim := { program := "ytphbmbhmhbchbaa", sum := "0944a1fe4ee8ed20905a9be3835a8f990f3687ed794b48e1d16b2ad1ac45f44c", func := "replevin/replevinlaw25.EventForms", spec := "eventForms", unfollowed := true, recurses := true, apart := false }
def EventFormsSaid : Prop := eventFormsRow.holds Try.pinned (OpenSpec.ofChange eventFormsSpec)

/-- ITS FALSE NEIGHBOUR: 'it returns false'. Refute it at one input. -/
def eventFormsWrong : ChangeSpec := { name := "eventForms", fn := fun _ => fun
  | [d1, d2] => { results := [.lit (.bool false)], args := [d1, d2] }
  | _ => none }
def EventFormsWrongFalsely : Prop := eventFormsRow.holds Try.pinned (OpenSpec.ofChange eventFormsWrong)

/-- 'replevinlaw25.EventCuts': WHATEVER THE INPUT: true; the input reads as it did. -/
def eventCutsSpec : ChangeSpec := { name := "eventCuts", fn := fun _ => fun
  | [d1, d2] => { results := [.lit (.bool true)], args := [d1, d2] }
  | _ => none }
def eventCutsRow : OpenClaim := { program := "ytphbmbhmhbchbaa", sum := "0944a1fe4ee8ed20905a9be3835a8f990f3687ed794b48e1d16b2ad1ac45f44c", func := "replevin/replevinlaw25.EventCuts", spec := "eventCuts", unfollowed := true, recurses := true, apart := false }
def EventCutsSaid : Prop := eventCutsRow.holds Try.pinned (OpenSpec.ofChange eventCutsSpec)

/-- ITS FALSE NEIGHBOUR: 'it returns false'. Refute it at one input. -/
def eventCutsWrong : ChangeSpec := { name := "eventCuts", fn := fun _ => fun
  | [d1, d2] => { results := [.lit (.bool false)], args := [d1, d2] }
  | _ => none }
def EventCutsWrongFalsely : Prop := eventCutsRow.holds Try.pinned (OpenSpec.ofChange eventCutsWrong)

/-- 'replevinlaw02.ClauseTells': WHATEVER THE INPUT: true; the input reads as it did. -/
def clauseTellsSpec : ChangeSpec := { name := "clauseTells", fn := fun _ => fun
  | [d1, d2, d3] => { results := [.lit (.bool true)], args := [d1, d2, d3] }
  | _ => none }
def clauseTellsRow : OpenClaim := { program := "ytphbmbhmhbchbaa", sum := "0944a1fe4ee8ed20905a9be3835a8f990f3687ed794b48e1d16b2ad1ac45f44c", func := "replevin/replevinlaw02.ClauseTells", spec := "clauseTells", unfollowed := true, recurses := true, apart := false }
def ClauseTellsSaid : Prop := clauseTellsRow.holds Try.pinned (OpenSpec.ofChange clauseTellsSpec)

/-- ITS FALSE NEIGHBOUR: 'it returns false'. Refute it at one input. -/
def clauseTellsWrong : ChangeSpec := { name := "clauseTells", fn := fun _ => fun
  | [d1, d2, d3] => { results := [.lit (.bool false)], args := [d1, d2, d3] }
  | _ => none }
def ClauseTellsWrongFalsely : Prop := clauseTellsRow.holds Try.pinned (OpenSpec.ofChange clauseTellsWrong)

/-- 'replevinlaw02.ClauseMeets': WHATEVER THE INPUT: true; the input reads as it did. -/
def clauseMeetsSpec : ChangeSpec := { name := "clauseMeets", fn := fun _ => fun
  | [d1, d2, d3] => { results := [.lit (.bool true)], args := [d1, d2, d3] }
  | _ => none }
def clauseMeetsRow : OpenClaim := { program := "ytphbmbhmhbchbaa", sum := "0944a1fe4ee8ed20905a9be3835a8f990f3687ed794b48e1d16b2ad1ac45f44c", func := "replevin/replevinlaw02.ClauseMeets", spec := "clauseMeets", unfollowed := true, recurses := true, apart := false }
def ClauseMeetsSaid : Prop := clauseMeetsRow.holds Try.pinned (OpenSpec.ofChange clauseMeetsSpec)

/-- ITS FALSE NEIGHBOUR: 'it returns false'. Refute it at one input. -/
def clauseMeetsWrong : ChangeSpec := { name := "clauseMeets", fn := fun _ => fun
  | [d1, d2, d3] => { results := [.lit (.bool false)], args := [d1, d2, d3] }
  | _ => none }
def ClauseMeetsWrongFalsely : Prop := clauseMeetsRow.holds Try.pinned (OpenSpec.ofChange clauseMeetsWrong)

/-- 'replevinlaw02.ClauseNorm': WHATEVER THE INPUT: true; the input reads as it did. -/
def clauseNormSpec : ChangeSpec := { name := "clauseNorm", fn := fun _ => fun
  | [d1, d2, d3] => { results := [.lit (.bool true)], args := [d1, d2, d3] }
  | _ => none }
def clauseNormRow : OpenClaim := { program := "ytphbmbhmhbchbaa", sum := "0944a1fe4ee8ed20905a9be3835a8f990f3687ed794b48e1d16b2ad1ac45f44c", func := "replevin/replevinlaw02.ClauseNorm", spec := "clauseNorm", unfollowed := true, recurses := true, apart := false }
def ClauseNormSaid : Prop := clauseNormRow.holds Try.pinned (OpenSpec.ofChange clauseNormSpec)

/-- ITS FALSE NEIGHBOUR: 'it returns false'. Refute it at one input. -/
def clauseNormWrong : ChangeSpec := { name := "clauseNorm", fn := fun _ => fun
  | [d1, d2, d3] => { results := [.lit (.bool false)], args := [d1, d2, d3] }
  | _ => none }
def ClauseNormWrongFalsely : Prop := clauseNormRow.holds Try.pinned (OpenSpec.ofChange clauseNormWrong)

/-- 'replevinlaw02.ClauseResolves': WHATEVER THE INPUT: true; the input reads as it did. -/
def clauseResolvesSpec : ChangeSpec := { name := "clauseResolves", fn := fun _ => fun
  | [d1, d2, d3] => { results := [.lit (.bool true)], args := [d1, d2, d3] }
  | _ => none }
def clauseResolvesRow : OpenClaim := { program := "ytphbmbhmhbchbaa", sum := "0944a1fe4ee8ed20905a9be3835a8f990f3687ed794b48e1d16b2ad1ac45f44c", func := "replevin/replevinlaw02.ClauseResolves", spec := "clauseResolves", unfollowed := true, recurses := true, apart := false }
def ClauseResolvesSaid : Prop := clauseResolvesRow.holds Try.pinned (OpenSpec.ofChange clauseResolvesSpec)

/-- ITS FALSE NEIGHBOUR: 'it returns false'. Refute it at one input. -/
def clauseResolvesWrong : ChangeSpec := { name := "clauseResolves", fn := fun _ => fun
  | [d1, d2, d3] => { results := [.lit (.bool false)], args := [d1, d2, d3] }
  | _ => none }
def ClauseResolvesWrongFalsely : Prop := clauseResolvesRow.holds Try.pinned (OpenSpec.ofChange clauseResolvesWrong)

/-- 'replevinlaw27.OperPairs': WHATEVER THE INPUT: true; the input reads as it did. -/
def operPairsSpec : ChangeSpec := { name := "operPairs", fn := fun _ => fun
  | [d] => { results := [.lit (.bool true)], args := [d] }
  | _ => none }
def operPairsRow : OpenClaim := { program := "ytphbmbhmhbchbaa", sum := "0944a1fe4ee8ed20905a9be3835a8f990f3687ed794b48e1d16b2ad1ac45f44c", func := "replevin/replevinlaw27.OperPairs", spec := "operPairs", unfollowed := true, recurses := true, apart := false }
def OperPairsSaid : Prop := operPairsRow.holds Try.pinned (OpenSpec.ofChange operPairsSpec)

/-- ITS FALSE NEIGHBOUR: 'it returns false'. Refute it at one input. -/
def operPairsWrong : ChangeSpec := { name := "operPairs", fn := fun _ => fun
  | [d] => { results := [.lit (.bool false)], args := [d] }
  | _ => none }
def OperPairsWrongFalsely : Prop := operPairsRow.holds Try.pinned (OpenSpec.ofChange operPairsWrong)

/- THE SECOND FORM. 'bulk': how many values and letters a reading holds, each counted each time it is reached (what is shared counts as often as it is met; a slice's spare places count too). A statement '..UptoSaid' is the law's where the arguments, and the package variables that the reading takes, are together of bulk at most 1048576: NARROWER than '..Said'. Prove '..Said' where nothing that the law and all that it calls make is longer than what came in: it says more and counts as full. Else prove '..UptoSaid'. A law counts once. -/
mutual
def uptoBulk {H : Type} : DataW H → Nat
  | .lit (.string bytes) => bytes.length + 1
  | .lit _ => 1
  | .nil => 1
  | .ptr d => uptoBulk d + 1
  | .slice elems spare => uptoBulkAll elems + uptoBulkAll spare + 1
  | .agg parts => uptoBulkAll parts + 1
  | .iface _ d => uptoBulk d + 1
  | .map entries => uptoBulkEntries entries + 1
  | .held _ => 1
def uptoBulkAll {H : Type} : List (DataW H) → Nat
  | [] => 0
  | d :: r => uptoBulk d + uptoBulkAll r
def uptoBulkEntries {H : Type} : List (Lit × DataW H) → Nat
  | [] => 0
  | x :: r => uptoBulkEntry x + uptoBulkEntries r
def uptoBulkEntry {H : Type} : Lit × DataW H → Nat
  | (.string bytes, d) => bytes.length + uptoBulk d + 1
  | (_, d) => uptoBulk d + 1
 end
def uptoSmall : (H : Type) → List (DataW H) → Bool := fun _ ds => decide (uptoBulkAll ds ≤ 1048576)
def OpenSpec.upto (s : _root_.Go.ChangeSpec) : _root_.Go.OpenSpec := { _root_.Go.OpenSpec.ofChange s with cond := some uptoSmall }

/-- 'replevinlaw27.OperTells', WHERE WHAT IT READS IS OF BULK AT MOST 1048576: true; the input reads as it did. -/
def operTellsUptoRow : OpenClaim := { program := "ytphbmbhmhbchbaa", sum := "0944a1fe4ee8ed20905a9be3835a8f990f3687ed794b48e1d16b2ad1ac45f44c", func := "replevin/replevinlaw27.OperTells", spec := "operTells", unfollowed := true, recurses := true, apart := false, narrowed := true }
def OperTellsUptoSaid : Prop := operTellsUptoRow.holds Try.pinned (OpenSpec.upto operTellsSpec)

/-- 'replevinlaw27.OperOrder', WHERE WHAT IT READS IS OF BULK AT MOST 1048576: true; the input reads as it did. -/
def operOrderUptoRow : OpenClaim := { program := "ytphbmbhmhbchbaa", sum := "0944a1fe4ee8ed20905a9be3835a8f990f3687ed794b48e1d16b2ad1ac45f44c", func := "replevin/replevinlaw27.OperOrder", spec := "operOrder", unfollowed := true, recurses := true, apart := false, narrowed := true }
def OperOrderUptoSaid : Prop := operOrderUptoRow.holds Try.pinned (OpenSpec.upto operOrderSpec)

/-- 'replevinlaw16.ShortenTells', WHERE WHAT IT READS IS OF BULK AT MOST 1048576: true; the input reads as it did. -/
def shortenTellsUptoRow : OpenClaim := { program := "ytphbmbhmhbchbaa", sum := "0944a1fe4ee8ed20905a9be3835a8f990f3687ed794b48e1d16b2ad1ac45f44c", func := "replevin/replevinlaw16.ShortenTells", spec := "shortenTells", unfollowed := true, recurses := true, apart := false, narrowed := true }
def ShortenTellsUptoSaid : Prop := shortenTellsUptoRow.holds Try.pinned (OpenSpec.upto shortenTellsSpec)

/-- 'replevinlaw16.ShortenMinimal', WHERE WHAT IT READS IS OF BULK AT MOST 1048576: true; the input reads as it did. -/
def shortenMinimalUptoRow : OpenClaim := { program := "ytphbmbhmhbchbaa", sum := "0944a1fe4ee8ed20905a9be3835a8f990f3687ed794b48e1d16b2ad1ac45f44c", func := "replevin/replevinlaw16.ShortenMinimal", spec := "shortenMinimal", unfollowed := true, recurses := true, apart := false, narrowed := true }
def ShortenMinimalUptoSaid : Prop := shortenMinimalUptoRow.holds Try.pinned (OpenSpec.upto shortenMinimalSpec)

/-- 'replevinlaw25.EventTells', WHERE WHAT IT READS IS OF BULK AT MOST 1048576: true; the input reads as it did. -/
def eventTellsUptoRow : OpenClaim := { program := "ytphbmbhmhbchbaa", sum := "0944a1fe4ee8ed20905a9be3835a8f990f3687ed794b48e1d16b2ad1ac45f44c", func := "replevin/replevinlaw25.EventTells", spec := "eventTells", unfollowed := true, recurses := true, apart := false, narrowed := true }
def EventTellsUptoSaid : Prop := eventTellsUptoRow.holds Try.pinned (OpenSpec.upto eventTellsSpec)

/-- 'replevinlaw25.EventForms', WHERE WHAT IT READS IS OF BULK AT MOST 1048576: true; the input reads as it did. -/
def eventFormsUptoRow : OpenClaim := { program := "ytphbmbhmhbchbaa", sum := "0944a1fe4ee8ed20905a9be3835a8f990f3687ed794b48e1d16b2ad1ac45f44c", func := "replevin/replevinlaw25.EventForms", spec := "eventForms", unfollowed := true, recurses := true, apart := false, narrowed := true }
def EventFormsUptoSaid : Prop := eventFormsUptoRow.holds Try.pinned (OpenSpec.upto eventFormsSpec)

/-- 'replevinlaw25.EventCuts', WHERE WHAT IT READS IS OF BULK AT MOST 1048576: true; the input reads as it did. -/
def eventCutsUptoRow : OpenClaim := { program := "ytphbmbhmhbchbaa", sum := "0944a1fe4ee8ed20905a9be3835a8f990f3687ed794b48e1d16b2ad1ac45f44c", func := "replevin/replevinlaw25.EventCuts", spec := "eventCuts", unfollowed := true, recurses := true, apart := false, narrowed := true }
def EventCutsUptoSaid : Prop := eventCutsUptoRow.holds Try.pinned (OpenSpec.upto eventCutsSpec)

/-- 'replevinlaw02.ClauseTells', WHERE WHAT IT READS IS OF BULK AT MOST 1048576: true; the input reads as it did. -/
def clauseTellsUptoRow : OpenClaim := { program := "ytphbmbhmhbchbaa", sum := "0944a1fe4ee8ed20905a9be3835a8f990f3687ed794b48e1d16b2ad1ac45f44c", func := "replevin/replevinlaw02.ClauseTells", spec := "clauseTells", unfollowed := true, recurses := true, apart := false, narrowed := true }
def ClauseTellsUptoSaid : Prop := clauseTellsUptoRow.holds Try.pinned (OpenSpec.upto clauseTellsSpec)

/-- 'replevinlaw02.ClauseMeets', WHERE WHAT IT READS IS OF BULK AT MOST 1048576: true; the input reads as it did. -/
def clauseMeetsUptoRow : OpenClaim := { program := "ytphbmbhmhbchbaa", sum := "0944a1fe4ee8ed20905a9be3835a8f990f3687ed794b48e1d16b2ad1ac45f44c", func := "replevin/replevinlaw02.ClauseMeets", spec := "clauseMeets", unfollowed := true, recurses := true, apart := false, narrowed := true }
def ClauseMeetsUptoSaid : Prop := clauseMeetsUptoRow.holds Try.pinned (OpenSpec.upto clauseMeetsSpec)

/-- 'replevinlaw02.ClauseNorm', WHERE WHAT IT READS IS OF BULK AT MOST 1048576: true; the input reads as it did. -/
def clauseNormUptoRow : OpenClaim := { program := "ytphbmbhmhbchbaa", sum := "0944a1fe4ee8ed20905a9be3835a8f990f3687ed794b48e1d16b2ad1ac45f44c", func := "replevin/replevinlaw02.ClauseNorm", spec := "clauseNorm", unfollowed := true, recurses := true, apart := false, narrowed := true }
def ClauseNormUptoSaid : Prop := clauseNormUptoRow.holds Try.pinned (OpenSpec.upto clauseNormSpec)

/-- 'replevinlaw02.ClauseResolves', WHERE WHAT IT READS IS OF BULK AT MOST 1048576: true; the input reads as it did. -/
def clauseResolvesUptoRow : OpenClaim := { program := "ytphbmbhmhbchbaa", sum := "0944a1fe4ee8ed20905a9be3835a8f990f3687ed794b48e1d16b2ad1ac45f44c", func := "replevin/replevinlaw02.ClauseResolves", spec := "clauseResolves", unfollowed := true, recurses := true, apart := false, narrowed := true }
def ClauseResolvesUptoSaid : Prop := clauseResolvesUptoRow.holds Try.pinned (OpenSpec.upto clauseResolvesSpec)

/-- 'replevinlaw27.OperPairs', WHERE WHAT IT READS IS OF BULK AT MOST 1048576: true; the input reads as it did. -/
def operPairsUptoRow : OpenClaim := { program := "ytphbmbhmhbchbaa", sum := "0944a1fe4ee8ed20905a9be3835a8f990f3687ed794b48e1d16b2ad1ac45f44c", func := "replevin/replevinlaw27.OperPairs", spec := "operPairs", unfollowed := true, recurses := true, apart := false, narrowed := true }
def OperPairsUptoSaid : Prop := operPairsUptoRow.holds Try.pinned (OpenSpec.upto operPairsSpec)

end Rows
end Go.Proofs.Ytphbmbhmhbchbaa
