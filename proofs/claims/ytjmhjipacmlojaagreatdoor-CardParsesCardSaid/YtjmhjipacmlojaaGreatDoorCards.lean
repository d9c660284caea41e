/-
  DERIVED. GIVEN WITH THE SEED: THE CARDS: each row of YtjmhjipacmlojaaGreatDoorRows.lean that lists a variable, with what it lists TIED to the program's text (the seventh form; the later family's looks); each row that meets fmt, with fmt's text TOLD by the authors' own Lean function (tested against real Go, not proved from fmt's source: count such statements apart). THE CARD IS WHAT COUNTS. Prove the row's statement (the work); the ties are given (YtjmhjipacmlojaaGreatDoorTie.lean); close each card by the builder's one call (the guide's Derived/Test/ToyasCard.lean, 'card_holds'). Laid BY PROGRAM, IN A SANDBOX (cutbox-door.mjs). By AI agents, Wed Nov 11 2026. No macro, syntax, notation, axiom, sorry.
-/
import Derived.Test.YtjmhjipacmlojaaGreatDoorRows
import GoSem.ClaimSeven
namespace Go.Proofs.YtjmhjipacmlojaaGreatDoor
namespace Rows

/-- THE TIED CARD OF 'gambitlaw06.CardTells'. -/
def cardTellsCard : Claim7 := { stood := { row := cardTellsRow, standIns := [], harness := (true, "bb313f931166b14406d38b30da0f257e5516a753adf6c7dd900d5eae366e9100"), looks := true }, kinds := [], alts := [], laidByText := true, laidKinds := [.data, .data, .data, .data, .listed, .data, .data, .pinned], laidTests := true, laidLooks := .later }
def CardTellsCardSaid : Prop := Claim7.holds Tryz.pinned (.plain (OpenSpec.ofChange cardTellsSpec)) cardTellsCard

/-- THE TIED CARD OF 'gambitlaw05.EffectParses'. -/
def effectParsesCard : Claim7 := { stood := { row := effectParsesRow, standIns := [], harness := (true, "bb313f931166b14406d38b30da0f257e5516a753adf6c7dd900d5eae366e9100"), looks := true }, kinds := [], alts := [], laidByText := true, laidKinds := [.data, .data, .data, .data, .sentinel, .sentinel, .listed, .data, .data, .pinned], laidTests := true, laidLooks := .later }
def EffectParsesCardSaid : Prop := Claim7.holds Tryz.pinned (.plain (OpenSpec.ofChange effectParsesSpec)) effectParsesCard

/-- THE TIED CARD OF 'gambitlaw05.EffectBack'. -/
def effectBackCard : Claim7 := { stood := { row := effectBackRow, standIns := [], harness := (true, "bb313f931166b14406d38b30da0f257e5516a753adf6c7dd900d5eae366e9100"), looks := true }, kinds := [], alts := [], laidByText := true, laidKinds := [.data, .data, .data, .data, .sentinel, .sentinel, .listed, .data, .data, .pinned], laidTests := true, laidLooks := .later }
def EffectBackCardSaid : Prop := Claim7.holds Tryz.pinned (.plain (OpenSpec.ofChange effectBackSpec)) effectBackCard

/-- THE TIED CARD OF 'gambitlaw06.CardParses'. -/
def cardParsesCard : Claim7 := { stood := { row := cardParsesRow, standIns := [], harness := (true, "bb313f931166b14406d38b30da0f257e5516a753adf6c7dd900d5eae366e9100"), looks := true }, kinds := [], alts := [], laidByText := true, laidKinds := [.data, .data, .data, .data, .sentinel, .sentinel, .listed, .data, .data, .pinned], laidTests := true, laidLooks := .later }
def CardParsesCardSaid : Prop := Claim7.holds Tryz.pinned (.plain (OpenSpec.ofChange cardParsesSpec)) cardParsesCard

/-- THE TIED CARD OF 'gambitlaw06.CardBack'. -/
def cardBackCard : Claim7 := { stood := { row := cardBackRow, standIns := [], harness := (true, "bb313f931166b14406d38b30da0f257e5516a753adf6c7dd900d5eae366e9100"), looks := true }, kinds := [], alts := [], laidByText := true, laidKinds := [.data, .data, .data, .data, .sentinel, .sentinel, .listed, .data, .data, .pinned], laidTests := true, laidLooks := .later }
def CardBackCardSaid : Prop := Claim7.holds Tryz.pinned (.plain (OpenSpec.ofChange cardBackSpec)) cardBackCard

/-- THE SECOND FORM's CARD OF 'gambitlaw06.CardTells'. -/
def cardTellsUptoCard : Claim7 := { stood := { row := cardTellsUptoRow, standIns := [], harness := (true, "bb313f931166b14406d38b30da0f257e5516a753adf6c7dd900d5eae366e9100"), looks := true }, kinds := [], alts := [], laidByText := true, laidKinds := [.data, .data, .data, .data, .listed, .data, .data, .pinned], laidTests := true, laidLooks := .later }
def CardTellsUptoCardSaid : Prop := Claim7.holds Tryz.pinned (.plain (OpenSpec.upto cardTellsSpec)) cardTellsUptoCard

/-- THE SECOND FORM's CARD OF 'gambitlaw05.EffectParses'. -/
def effectParsesUptoCard : Claim7 := { stood := { row := effectParsesUptoRow, standIns := [], harness := (true, "bb313f931166b14406d38b30da0f257e5516a753adf6c7dd900d5eae366e9100"), looks := true }, kinds := [], alts := [], laidByText := true, laidKinds := [.data, .data, .data, .data, .sentinel, .sentinel, .listed, .data, .data, .pinned], laidTests := true, laidLooks := .later }
def EffectParsesUptoCardSaid : Prop := Claim7.holds Tryz.pinned (.plain (OpenSpec.upto effectParsesSpec)) effectParsesUptoCard

/-- THE SECOND FORM's CARD OF 'gambitlaw05.EffectBack'. -/
def effectBackUptoCard : Claim7 := { stood := { row := effectBackUptoRow, standIns := [], harness := (true, "bb313f931166b14406d38b30da0f257e5516a753adf6c7dd900d5eae366e9100"), looks := true }, kinds := [], alts := [], laidByText := true, laidKinds := [.data, .data, .data, .data, .sentinel, .sentinel, .listed, .data, .data, .pinned], laidTests := true, laidLooks := .later }
def EffectBackUptoCardSaid : Prop := Claim7.holds Tryz.pinned (.plain (OpenSpec.upto effectBackSpec)) effectBackUptoCard

/-- THE SECOND FORM's CARD OF 'gambitlaw06.CardParses'. -/
def cardParsesUptoCard : Claim7 := { stood := { row := cardParsesUptoRow, standIns := [], harness := (true, "bb313f931166b14406d38b30da0f257e5516a753adf6c7dd900d5eae366e9100"), looks := true }, kinds := [], alts := [], laidByText := true, laidKinds := [.data, .data, .data, .data, .sentinel, .sentinel, .listed, .data, .data, .pinned], laidTests := true, laidLooks := .later }
def CardParsesUptoCardSaid : Prop := Claim7.holds Tryz.pinned (.plain (OpenSpec.upto cardParsesSpec)) cardParsesUptoCard

/-- THE SECOND FORM's CARD OF 'gambitlaw06.CardBack'. -/
def cardBackUptoCard : Claim7 := { stood := { row := cardBackUptoRow, standIns := [], harness := (true, "bb313f931166b14406d38b30da0f257e5516a753adf6c7dd900d5eae366e9100"), looks := true }, kinds := [], alts := [], laidByText := true, laidKinds := [.data, .data, .data, .data, .sentinel, .sentinel, .listed, .data, .data, .pinned], laidTests := true, laidLooks := .later }
def CardBackUptoCardSaid : Prop := Claim7.holds Tryz.pinned (.plain (OpenSpec.upto cardBackSpec)) cardBackUptoCard
end Rows
end Go.Proofs.YtjmhjipacmlojaaGreatDoor
