/-
  DERIVED. GIVEN WITH THE SEED: THE CARDS: each row of YtbamnidfhccgoaaGreatDoorRows.lean that lists a variable, with what it lists TIED to the program's text (the seventh form; the later family's looks); each row that meets fmt, with fmt's text TOLD by the authors' own Lean function (tested against real Go, not proved from fmt's source: count such statements apart). THE CARD IS WHAT COUNTS. Prove the row's statement (the work); the ties are given (YtbamnidfhccgoaaGreatDoorTie.lean); close each card by the builder's one call (the guide's Derived/Test/ToyasCard.lean, 'card_holds'). Laid BY PROGRAM, IN A SANDBOX (cutbox-door.mjs). By AI agents, Wed Nov 11 2026. No macro, syntax, notation, axiom, sorry.
-/
import Derived.Test.YtbamnidfhccgoaaGreatDoorRows
import GoSem.ClaimSeven
namespace Go.Proofs.YtbamnidfhccgoaaGreatDoor
namespace Rows

/-- THE TIED CARD OF 'caliperlaw12.ShapeWords'. -/
def shapeWordsCard : Claim7 := { stood := { row := shapeWordsRow, standIns := [], harness := (true, "b1a060f637ad22bd2b58f3eb2a51dfe0c5b8006c2a96f3b4b353153c5eebf7e0"), looks := true }, kinds := [], alts := [], laidByText := true, laidKinds := [.data, .data, .data, .data, .handle, .sentinel, .sentinel, .listed, .data, .pinned], laidTests := true, laidLooks := .later }
def ShapeWordsCardSaid : Prop := Claim7.holds Tryz.pinned (.plain (OpenSpec.ofChange shapeWordsSpec)) shapeWordsCard

/-- THE SECOND FORM's CARD OF 'caliperlaw12.ShapeWords'. -/
def shapeWordsUptoCard : Claim7 := { stood := { row := shapeWordsUptoRow, standIns := [], harness := (true, "b1a060f637ad22bd2b58f3eb2a51dfe0c5b8006c2a96f3b4b353153c5eebf7e0"), looks := true }, kinds := [], alts := [], laidByText := true, laidKinds := [.data, .data, .data, .data, .handle, .sentinel, .sentinel, .listed, .data, .pinned], laidTests := true, laidLooks := .later }
def ShapeWordsUptoCardSaid : Prop := Claim7.holds Tryz.pinned (.plain (OpenSpec.upto shapeWordsSpec)) shapeWordsUptoCard
end Rows
end Go.Proofs.YtbamnidfhccgoaaGreatDoor
