/-
  DERIVED. GIVEN WITH THE SEED: THE CARDS: each row of YtdehfehdaiappaaGreatDoorRows.lean that lists a variable, with what it lists TIED to the program's text (the seventh form; the later family's looks); each row that meets fmt, with fmt's text TOLD by the authors' own Lean function (tested against real Go, not proved from fmt's source: count such statements apart). THE CARD IS WHAT COUNTS. Prove the row's statement (the work); the ties are given (YtdehfehdaiappaaGreatDoorTie.lean); close each card by the builder's one call (the guide's Derived/Test/ToyasCard.lean, 'card_holds'). Laid BY PROGRAM, IN A SANDBOX (cutbox-door.mjs). By AI agents, Wed Nov 11 2026. No macro, syntax, notation, axiom, sorry.
-/
import Derived.Test.YtdehfehdaiappaaGreatDoorRows
import GoSem.ClaimSeven
namespace Go.Proofs.YtdehfehdaiappaaGreatDoor
namespace Rows

/-- THE TIED CARD OF 'gambitlaw16.DeckNone'. -/
def deckNoneCard : Claim7 := { stood := { row := deckNoneRow, standIns := [], harness := (true, "32f7d736994ab35d955e0fe48833ce20fa9b511e41617ac8723cd5db1750029d"), looks := true }, kinds := [], alts := [], laidByText := true, laidKinds := [.data, .data, .data, .data, .sentinel, .sentinel, .pinned], laidTests := true, laidLooks := .later }
def DeckNoneCardSaid : Prop := Claim7.holds Tryz.pinned (.plain (OpenSpec.ofChange deckNoneSpec)) deckNoneCard

/-- THE TIED CARD OF 'gambitlaw05.EffectCount'. -/
def effectCountCard : Claim7 := { stood := { row := effectCountRow, standIns := [], harness := (true, "32f7d736994ab35d955e0fe48833ce20fa9b511e41617ac8723cd5db1750029d"), looks := true }, kinds := [], alts := [], laidByText := true, laidKinds := [.data, .data, .data, .data, .sentinel, .sentinel, .listed, .data, .data, .pinned], laidTests := true, laidLooks := .later }
def EffectCountCardSaid : Prop := Claim7.holds Tryz.pinned (.plain (OpenSpec.ofChange effectCountSpec)) effectCountCard

/-- THE TIED CARD OF 'gambitlaw05.EffectChecks'. -/
def effectChecksCard : Claim7 := { stood := { row := effectChecksRow, standIns := [], harness := (true, "32f7d736994ab35d955e0fe48833ce20fa9b511e41617ac8723cd5db1750029d"), looks := true }, kinds := [], alts := [], laidByText := true, laidKinds := [.data, .data, .data, .data, .sentinel, .sentinel, .listed, .data, .data, .pinned], laidTests := true, laidLooks := .later }
def EffectChecksCardSaid : Prop := Claim7.holds Tryz.pinned (.plain (OpenSpec.ofChange effectChecksSpec)) effectChecksCard

/-- THE SECOND FORM's CARD OF 'gambitlaw16.DeckNone'. -/
def deckNoneUptoCard : Claim7 := { stood := { row := deckNoneUptoRow, standIns := [], harness := (true, "32f7d736994ab35d955e0fe48833ce20fa9b511e41617ac8723cd5db1750029d"), looks := true }, kinds := [], alts := [], laidByText := true, laidKinds := [.data, .data, .data, .data, .sentinel, .sentinel, .pinned], laidTests := true, laidLooks := .later }
def DeckNoneUptoCardSaid : Prop := Claim7.holds Tryz.pinned (.plain (OpenSpec.upto deckNoneSpec)) deckNoneUptoCard

/-- THE SECOND FORM's CARD OF 'gambitlaw05.EffectCount'. -/
def effectCountUptoCard : Claim7 := { stood := { row := effectCountUptoRow, standIns := [], harness := (true, "32f7d736994ab35d955e0fe48833ce20fa9b511e41617ac8723cd5db1750029d"), looks := true }, kinds := [], alts := [], laidByText := true, laidKinds := [.data, .data, .data, .data, .sentinel, .sentinel, .listed, .data, .data, .pinned], laidTests := true, laidLooks := .later }
def EffectCountUptoCardSaid : Prop := Claim7.holds Tryz.pinned (.plain (OpenSpec.upto effectCountSpec)) effectCountUptoCard

/-- THE SECOND FORM's CARD OF 'gambitlaw05.EffectChecks'. -/
def effectChecksUptoCard : Claim7 := { stood := { row := effectChecksUptoRow, standIns := [], harness := (true, "32f7d736994ab35d955e0fe48833ce20fa9b511e41617ac8723cd5db1750029d"), looks := true }, kinds := [], alts := [], laidByText := true, laidKinds := [.data, .data, .data, .data, .sentinel, .sentinel, .listed, .data, .data, .pinned], laidTests := true, laidLooks := .later }
def EffectChecksUptoCardSaid : Prop := Claim7.holds Tryz.pinned (.plain (OpenSpec.upto effectChecksSpec)) effectChecksUptoCard
end Rows
end Go.Proofs.YtdehfehdaiappaaGreatDoor
