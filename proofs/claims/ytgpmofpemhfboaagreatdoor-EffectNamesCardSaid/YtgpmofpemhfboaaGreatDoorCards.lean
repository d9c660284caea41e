/-
  DERIVED. GIVEN WITH THE SEED: THE CARDS: each row of YtgpmofpemhfboaaGreatDoorRows.lean that lists a variable, with what it lists TIED to the program's text (the seventh form; the later family's looks); each row that meets fmt, with fmt's text TOLD by the authors' own Lean function (tested against real Go, not proved from fmt's source: count such statements apart). THE CARD IS WHAT COUNTS. Prove the row's statement (the work); the ties are given (YtgpmofpemhfboaaGreatDoorTie.lean); close each card by the builder's one call (the guide's Derived/Test/ToyasCard.lean, 'card_holds'). Laid BY PROGRAM, IN A SANDBOX (cutbox-door.mjs). By AI agents, Wed Nov 11 2026. No macro, syntax, notation, axiom, sorry.
-/
import Derived.Test.YtgpmofpemhfboaaGreatDoorRows
import GoSem.ClaimSeven
namespace Go.Proofs.YtgpmofpemhfboaaGreatDoor
namespace Rows

/-- THE TIED CARD OF 'gambitlaw16.DeckKnown'. -/
def deckKnownCard : Claim7 := { stood := { row := deckKnownRow, standIns := [], harness := (true, "644f736d5e60ea3a44c74c8f967f006ef709329ddbc1c3c3d78245c8e4c2222a"), looks := true }, kinds := [], alts := [], laidByText := true, laidKinds := [.data, .data, .data, .data, .sentinel, .sentinel, .pinned], laidTests := true, laidLooks := .later }
def DeckKnownCardSaid : Prop := Claim7.holds Tryz.pinned (.plain (OpenSpec.ofChange deckKnownSpec)) deckKnownCard

/-- THE TIED CARD OF 'gambitlaw05.EffectNames'. -/
def effectNamesCard : Claim7 := { stood := { row := effectNamesRow, standIns := [], harness := (true, "644f736d5e60ea3a44c74c8f967f006ef709329ddbc1c3c3d78245c8e4c2222a"), looks := true }, kinds := [], alts := [], laidByText := true, laidKinds := [.data, .data, .data, .data, .sentinel, .sentinel, .listed, .data, .data, .pinned], laidTests := true, laidLooks := .later }
def EffectNamesCardSaid : Prop := Claim7.holds Tryz.pinned (.plain (OpenSpec.ofChange effectNamesSpec)) effectNamesCard

/-- THE TIED CARD OF 'gambitlaw06.CardNames'. -/
def cardNamesCard : Claim7 := { stood := { row := cardNamesRow, standIns := [], harness := (true, "644f736d5e60ea3a44c74c8f967f006ef709329ddbc1c3c3d78245c8e4c2222a"), looks := true }, kinds := [], alts := [], laidByText := true, laidKinds := [.data, .data, .data, .data, .sentinel, .sentinel, .listed, .data, .data, .pinned], laidTests := true, laidLooks := .later }
def CardNamesCardSaid : Prop := Claim7.holds Tryz.pinned (.plain (OpenSpec.ofChange cardNamesSpec)) cardNamesCard

/-- THE SECOND FORM's CARD OF 'gambitlaw16.DeckKnown'. -/
def deckKnownUptoCard : Claim7 := { stood := { row := deckKnownUptoRow, standIns := [], harness := (true, "644f736d5e60ea3a44c74c8f967f006ef709329ddbc1c3c3d78245c8e4c2222a"), looks := true }, kinds := [], alts := [], laidByText := true, laidKinds := [.data, .data, .data, .data, .sentinel, .sentinel, .pinned], laidTests := true, laidLooks := .later }
def DeckKnownUptoCardSaid : Prop := Claim7.holds Tryz.pinned (.plain (OpenSpec.upto deckKnownSpec)) deckKnownUptoCard

/-- THE SECOND FORM's CARD OF 'gambitlaw05.EffectNames'. -/
def effectNamesUptoCard : Claim7 := { stood := { row := effectNamesUptoRow, standIns := [], harness := (true, "644f736d5e60ea3a44c74c8f967f006ef709329ddbc1c3c3d78245c8e4c2222a"), looks := true }, kinds := [], alts := [], laidByText := true, laidKinds := [.data, .data, .data, .data, .sentinel, .sentinel, .listed, .data, .data, .pinned], laidTests := true, laidLooks := .later }
def EffectNamesUptoCardSaid : Prop := Claim7.holds Tryz.pinned (.plain (OpenSpec.upto effectNamesSpec)) effectNamesUptoCard

/-- THE SECOND FORM's CARD OF 'gambitlaw06.CardNames'. -/
def cardNamesUptoCard : Claim7 := { stood := { row := cardNamesUptoRow, standIns := [], harness := (true, "644f736d5e60ea3a44c74c8f967f006ef709329ddbc1c3c3d78245c8e4c2222a"), looks := true }, kinds := [], alts := [], laidByText := true, laidKinds := [.data, .data, .data, .data, .sentinel, .sentinel, .listed, .data, .data, .pinned], laidTests := true, laidLooks := .later }
def CardNamesUptoCardSaid : Prop := Claim7.holds Tryz.pinned (.plain (OpenSpec.upto cardNamesSpec)) cardNamesUptoCard
end Rows
end Go.Proofs.YtgpmofpemhfboaaGreatDoor
