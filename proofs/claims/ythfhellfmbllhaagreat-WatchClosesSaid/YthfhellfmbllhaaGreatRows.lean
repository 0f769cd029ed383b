/-
  No cell of these rows narrows 'for every input' (looked for: loops, veiled, ifaces, maps, wideKeys, modest, calm, conditions, laid).
  DERIVED. THE GIVEN ROWS OF THIS SEAT. 3 by the template 'for every input the law returns true; each argument reads behind the call as it read before'; 0 by the template 'total and deterministic' (their statements: YthfhellfmbllhaaGreatTotals.lean).
  GIVEN WITH THE SEED: the statements are not yours to turn. If you find one false, say at which input.
  Laid BY PROGRAM, IN A SANDBOX (cutbox-rows.mjs): the forced cells as the released guide's own fill.sh prints them over the translation ef212f12590c3eab… (all of the seat's roots in one cut). By AI agents, Wed Nov 11 2026. No macro, syntax, notation, axiom, sorry.
-/
import Derived.Test.YthfhellfmbllhaaGreatChecked
import GoSem.Claim
import GoSem.ClaimJoined
import GoSem.ClaimMapViews
import Derived.JoinedTies
import Derived.KernelRfl
namespace Go.Proofs.YthfhellfmbllhaaGreat
/- THE CELL 'sum', in the pinned program and in every row, IS THE sha256 OF THE DUMP (.gsa) THAT YthfhellfmbllhaaGreatProg.lean LOADS. Nothing in Lean hashes anything: it is a label: what it is worth is what the hold of that sum in a sandbox is worth. -/
noncomputable def Tryz.pinned : Pinned := { name := "ythfhellfmbllhaagreat", sum := "ef212f12590c3eabe7a8bd43caafcd743efeab5ac00f60ada3aa8d7dedc63ee2", checked := Tryz.checked }
namespace Rows
def none {H : Type} : Left H := { results := [], args := [] }

/-- 'replevinlaw14.WatchPlays': WHATEVER THE INPUT: true; the input reads as it did. -/
def watchPlaysSpec : ChangeSpec := { name := "watchPlays", fn := fun _ => fun
  | [d1, d2] => { results := [.lit (.bool true)], args := [d1, d2] }
  | _ => none }
def watchPlaysRow : OpenClaim := { program := "ythfhellfmbllhaagreat", sum := "ef212f12590c3eabe7a8bd43caafcd743efeab5ac00f60ada3aa8d7dedc63ee2", func := "replevin/replevinlaw14.WatchPlays", spec := "watchPlays", unfollowed := true, recurses := true, apart := false }
def WatchPlaysSaid : Prop := watchPlaysRow.holds Tryz.pinned (OpenSpec.ofChange watchPlaysSpec)

/-- ITS FALSE NEIGHBOUR: 'it returns false'. Refute it at one input. -/
def watchPlaysWrong : ChangeSpec := { name := "watchPlays", fn := fun _ => fun
  | [d1, d2] => { results := [.lit (.bool false)], args := [d1, d2] }
  | _ => none }
def WatchPlaysWrongFalsely : Prop := watchPlaysRow.holds Tryz.pinned (OpenSpec.ofChange watchPlaysWrong)

/-- 'replevinlaw14.WatchCloses': WHATEVER THE INPUT: true; the input reads as it did. -/
def watchClosesSpec : ChangeSpec := { name := "watchCloses", fn := fun _ => fun
  | [d1, d2] => { results := [.lit (.bool true)], args := [d1, d2] }
  | _ => none }
def watchClosesRow : OpenClaim := { program := "ythfhellfmbllhaagreat", sum := "ef212f12590c3eabe7a8bd43caafcd743efeab5ac00f60ada3aa8d7dedc63ee2", func := "replevin/replevinlaw14.WatchCloses", spec := "watchCloses", unfollowed := true, recurses := true, apart := false }
def WatchClosesSaid : Prop := watchClosesRow.holds Tryz.pinned (OpenSpec.ofChange watchClosesSpec)

/-- ITS FALSE NEIGHBOUR: 'it returns false'. Refute it at one input. -/
def watchClosesWrong : ChangeSpec := { name := "watchCloses", fn := fun _ => fun
  | [d1, d2] => { results := [.lit (.bool false)], args := [d1, d2] }
  | _ => none }
def WatchClosesWrongFalsely : Prop := watchClosesRow.holds Tryz.pinned (OpenSpec.ofChange watchClosesWrong)

/-- 'replevinlaw43.TrimTells': WHATEVER THE INPUT: true; the input reads as it did. -/
def trimTellsSpec : ChangeSpec := { name := "trimTells", fn := fun _ => fun
  | [d1, d2] => { results := [.lit (.bool true)], args := [d1, d2] }
  | _ => none }
def trimTellsRow : OpenClaim := { program := "ythfhellfmbllhaagreat", sum := "ef212f12590c3eabe7a8bd43caafcd743efeab5ac00f60ada3aa8d7dedc63ee2", func := "replevin/replevinlaw43.TrimTells", spec := "trimTells", unfollowed := true, recurses := true, apart := false }
def TrimTellsSaid : Prop := trimTellsRow.holds Tryz.pinned (OpenSpec.ofChange trimTellsSpec)

/-- ITS FALSE NEIGHBOUR: 'it returns false'. Refute it at one input. -/
def trimTellsWrong : ChangeSpec := { name := "trimTells", fn := fun _ => fun
  | [d1, d2] => { results := [.lit (.bool false)], args := [d1, d2] }
  | _ => none }
def TrimTellsWrongFalsely : Prop := trimTellsRow.holds Tryz.pinned (OpenSpec.ofChange trimTellsWrong)

/- THE SECOND FORM. 'bulk': how many values and letters a reading holds, each counted each time it is reached (what is shared counts as often as it is met; a slice's spare places count too). A statement '..UptoSaid' is the law's where the arguments, and the package variables that the reading takes, are together of bulk at most 1048576: NARROWER than '..Said'. Prove '..Said' where nothing that the law and all that it calls make is longer than what came in: it says more and counts as full. Else prove '..UptoSaid'. A law counts once. -/
mutual
def uptoBulk {H : Type} : DataW H → Nat
  | .lit (.string bytes) => bytes.length + 1
  | .lit _ => 1
  | .nil => 1
  | .ptr d => uptoBulk d + 1
  | .slice elems spare => uptoBulkAll elems + uptoBulkAll spare + 1
  | .agg parts => uptoBulkAll parts + 1
  | .iface _ d => uptoBulk d + 1
  | .map entries => uptoBulkEntries entries + 1
  | .held _ => 1
def uptoBulkAll {H : Type} : List (DataW H) → Nat
  | [] => 0
  | d :: r => uptoBulk d + uptoBulkAll r
def uptoBulkEntries {H : Type} : List (Lit × DataW H) → Nat
  | [] => 0
  | x :: r => uptoBulkEntry x + uptoBulkEntries r
def uptoBulkEntry {H : Type} : Lit × DataW H → Nat
  | (.string bytes, d) => bytes.length + uptoBulk d + 1
  | (_, d) => uptoBulk d + 1
 end
def uptoSmall : (H : Type) → List (DataW H) → Bool := fun _ ds => decide (uptoBulkAll ds ≤ 1048576)
def OpenSpec.upto (s : _root_.Go.ChangeSpec) : _root_.Go.OpenSpec := { _root_.Go.OpenSpec.ofChange s with cond := some uptoSmall }

/-- 'replevinlaw14.WatchPlays', WHERE WHAT IT READS IS OF BULK AT MOST 1048576: true; the input reads as it did. -/
def watchPlaysUptoRow : OpenClaim := { program := "ythfhellfmbllhaagreat", sum := "ef212f12590c3eabe7a8bd43caafcd743efeab5ac00f60ada3aa8d7dedc63ee2", func := "replevin/replevinlaw14.WatchPlays", spec := "watchPlays", unfollowed := true, recurses := true, apart := false, narrowed := true }
def WatchPlaysUptoSaid : Prop := watchPlaysUptoRow.holds Tryz.pinned (OpenSpec.upto watchPlaysSpec)

/-- 'replevinlaw14.WatchCloses', WHERE WHAT IT READS IS OF BULK AT MOST 1048576: true; the input reads as it did. -/
def watchClosesUptoRow : OpenClaim := { program := "ythfhellfmbllhaagreat", sum := "ef212f12590c3eabe7a8bd43caafcd743efeab5ac00f60ada3aa8d7dedc63ee2", func := "replevin/replevinlaw14.WatchCloses", spec := "watchCloses", unfollowed := true, recurses := true, apart := false, narrowed := true }
def WatchClosesUptoSaid : Prop := watchClosesUptoRow.holds Tryz.pinned (OpenSpec.upto watchClosesSpec)

/-- 'replevinlaw43.TrimTells', WHERE WHAT IT READS IS OF BULK AT MOST 1048576: true; the input reads as it did. -/
def trimTellsUptoRow : OpenClaim := { program := "ythfhellfmbllhaagreat", sum := "ef212f12590c3eabe7a8bd43caafcd743efeab5ac00f60ada3aa8d7dedc63ee2", func := "replevin/replevinlaw43.TrimTells", spec := "trimTells", unfollowed := true, recurses := true, apart := false, narrowed := true }
def TrimTellsUptoSaid : Prop := trimTellsUptoRow.holds Tryz.pinned (OpenSpec.upto trimTellsSpec)

end Rows
end Go.Proofs.YthfhellfmbllhaaGreat
