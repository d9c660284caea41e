/-
  DERIVED. GIVEN WITH THE SEED: THE CARDS: each row of YtlppecefalblmaaGreatDoorRows.lean that lists a variable, with what it lists TIED to the program's text (the seventh form; the later family's looks); each row that meets fmt, with fmt's text TOLD by the authors' own Lean function (tested against real Go, not proved from fmt's source: count such statements apart). THE CARD IS WHAT COUNTS. Prove the row's statement (the work); the ties are given (YtlppecefalblmaaGreatDoorTie.lean); close each card by the builder's one call (the guide's Derived/Test/ToyasCard.lean, 'card_holds'). Laid BY PROGRAM, IN A SANDBOX (cutbox-door.mjs). By AI agents, Wed Nov 11 2026. No macro, syntax, notation, axiom, sorry.
-/
import Derived.Test.YtlppecefalblmaaGreatDoorRows
import GoSem.ClaimSeven
namespace Go.Proofs.YtlppecefalblmaaGreatDoor
namespace Rows

/-- THE TIED CARD OF 'gambitlaw06.CardTells'. -/
def cardTellsCard : Claim7 := { stood := { row := cardTellsRow, standIns := [], harness := (true, "54f4b8457d0f3de25e5681ce09fd86c2bab101d75289a37130bddd80a16c5b4b"), looks := true }, kinds := [], alts := [], laidByText := true, laidKinds := [.data, .data, .data, .data, .listed, .data, .data, .pinned], laidTests := true, laidLooks := .later }
def CardTellsCardSaid : Prop := Claim7.holds Tryz.pinned (.plain (OpenSpec.ofChange cardTellsSpec)) cardTellsCard

/-- THE TIED CARD OF 'gambitlaw16.DeckAll'. -/
def deckAllCard : Claim7 := { stood := { row := deckAllRow, standIns := [], harness := (true, "54f4b8457d0f3de25e5681ce09fd86c2bab101d75289a37130bddd80a16c5b4b"), looks := true }, kinds := [], alts := [], laidByText := true, laidKinds := [.data, .data, .data, .data, .sentinel, .sentinel, .pinned], laidTests := true, laidLooks := .later }
def DeckAllCardSaid : Prop := Claim7.holds Tryz.pinned (.plain (OpenSpec.ofChange deckAllSpec)) deckAllCard

/-- THE TIED CARD OF 'gambitlaw16.DeckBack'. -/
def deckBackCard : Claim7 := { stood := { row := deckBackRow, standIns := [], harness := (true, "54f4b8457d0f3de25e5681ce09fd86c2bab101d75289a37130bddd80a16c5b4b"), looks := true }, kinds := [], alts := [], laidByText := true, laidKinds := [.data, .data, .data, .data, .sentinel, .sentinel, .pinned], laidTests := true, laidLooks := .later }
def DeckBackCardSaid : Prop := Claim7.holds Tryz.pinned (.plain (OpenSpec.ofChange deckBackSpec)) deckBackCard

/-- THE TIED CARD OF 'gambitlaw16.DeckRight'. -/
def deckRightCard : Claim7 := { stood := { row := deckRightRow, standIns := [], harness := (true, "54f4b8457d0f3de25e5681ce09fd86c2bab101d75289a37130bddd80a16c5b4b"), looks := true }, kinds := [], alts := [], laidByText := true, laidKinds := [.data, .data, .data, .data, .sentinel, .sentinel, .pinned], laidTests := true, laidLooks := .later }
def DeckRightCardSaid : Prop := Claim7.holds Tryz.pinned (.plain (OpenSpec.ofChange deckRightSpec)) deckRightCard

/-- THE SECOND FORM's CARD OF 'gambitlaw06.CardTells'. -/
def cardTellsUptoCard : Claim7 := { stood := { row := cardTellsUptoRow, standIns := [], harness := (true, "54f4b8457d0f3de25e5681ce09fd86c2bab101d75289a37130bddd80a16c5b4b"), looks := true }, kinds := [], alts := [], laidByText := true, laidKinds := [.data, .data, .data, .data, .listed, .data, .data, .pinned], laidTests := true, laidLooks := .later }
def CardTellsUptoCardSaid : Prop := Claim7.holds Tryz.pinned (.plain (OpenSpec.upto cardTellsSpec)) cardTellsUptoCard

/-- THE SECOND FORM's CARD OF 'gambitlaw16.DeckAll'. -/
def deckAllUptoCard : Claim7 := { stood := { row := deckAllUptoRow, standIns := [], harness := (true, "54f4b8457d0f3de25e5681ce09fd86c2bab101d75289a37130bddd80a16c5b4b"), looks := true }, kinds := [], alts := [], laidByText := true, laidKinds := [.data, .data, .data, .data, .sentinel, .sentinel, .pinned], laidTests := true, laidLooks := .later }
def DeckAllUptoCardSaid : Prop := Claim7.holds Tryz.pinned (.plain (OpenSpec.upto deckAllSpec)) deckAllUptoCard

/-- THE SECOND FORM's CARD OF 'gambitlaw16.DeckBack'. -/
def deckBackUptoCard : Claim7 := { stood := { row := deckBackUptoRow, standIns := [], harness := (true, "54f4b8457d0f3de25e5681ce09fd86c2bab101d75289a37130bddd80a16c5b4b"), looks := true }, kinds := [], alts := [], laidByText := true, laidKinds := [.data, .data, .data, .data, .sentinel, .sentinel, .pinned], laidTests := true, laidLooks := .later }
def DeckBackUptoCardSaid : Prop := Claim7.holds Tryz.pinned (.plain (OpenSpec.upto deckBackSpec)) deckBackUptoCard

/-- THE SECOND FORM's CARD OF 'gambitlaw16.DeckRight'. -/
def deckRightUptoCard : Claim7 := { stood := { row := deckRightUptoRow, standIns := [], harness := (true, "54f4b8457d0f3de25e5681ce09fd86c2bab101d75289a37130bddd80a16c5b4b"), looks := true }, kinds := [], alts := [], laidByText := true, laidKinds := [.data, .data, .data, .data, .sentinel, .sentinel, .pinned], laidTests := true, laidLooks := .later }
def DeckRightUptoCardSaid : Prop := Claim7.holds Tryz.pinned (.plain (OpenSpec.upto deckRightSpec)) deckRightUptoCard
end Rows
end Go.Proofs.YtlppecefalblmaaGreatDoor
