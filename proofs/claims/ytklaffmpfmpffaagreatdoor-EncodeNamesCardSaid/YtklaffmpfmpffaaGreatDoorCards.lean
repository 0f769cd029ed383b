/-
  DERIVED. GIVEN WITH THE SEED: THE CARDS: each row of YtklaffmpfmpffaaGreatDoorRows.lean that lists a variable, with what it lists TIED to the program's text (the seventh form; the later family's looks); each row that meets fmt, with fmt's text TOLD by the authors' own Lean function (tested against real Go, not proved from fmt's source: count such statements apart). THE CARD IS WHAT COUNTS. Prove the row's statement (the work); the ties are given (YtklaffmpfmpffaaGreatDoorTie.lean); close each card by the builder's one call (the guide's Derived/Test/ToyasCard.lean, 'card_holds'). Laid BY PROGRAM, IN A SANDBOX (cutbox-door.mjs). By AI agents, Wed Nov 11 2026. No macro, syntax, notation, axiom, sorry.
-/
import Derived.Test.YtklaffmpfmpffaaGreatDoorRows
import GoSem.ClaimSeven
namespace Go.Proofs.YtklaffmpfmpffaaGreatDoor
namespace Rows

/-- THE TIED CARD OF 'replevinlaw37.EncodeNames'. -/
def encodeNamesCard : Claim7 := { stood := { row := encodeNamesRow, standIns := [], harness := (true, "eb5065a67ac3df457a39a4f47d5c4074468e3949ef25f88ce7b15f412c00e18e"), looks := false }, kinds := [], alts := [], laidByText := true, laidKinds := [.data, .data, .data], laidTests := true, laidLooks := .later }
def EncodeNamesCardSaid : Prop := Claim7.holds Tryz.pinned (.plain (OpenSpec.ofChange encodeNamesSpec)) encodeNamesCard

/-- THE SECOND FORM's CARD OF 'replevinlaw37.EncodeNames'. -/
def encodeNamesUptoCard : Claim7 := { stood := { row := encodeNamesUptoRow, standIns := [], harness := (true, "eb5065a67ac3df457a39a4f47d5c4074468e3949ef25f88ce7b15f412c00e18e"), looks := false }, kinds := [], alts := [], laidByText := true, laidKinds := [.data, .data, .data], laidTests := true, laidLooks := .later }
def EncodeNamesUptoCardSaid : Prop := Claim7.holds Tryz.pinned (.plain (OpenSpec.upto encodeNamesSpec)) encodeNamesUptoCard
end Rows
end Go.Proofs.YtklaffmpfmpffaaGreatDoor
