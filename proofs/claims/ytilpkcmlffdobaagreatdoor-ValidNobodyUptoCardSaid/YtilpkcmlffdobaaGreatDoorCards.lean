/-
  DERIVED. GIVEN WITH THE SEED: THE CARDS: each row of YtilpkcmlffdobaaGreatDoorRows.lean that lists a variable, with what it lists TIED to the program's text (the seventh form; the later family's looks); each row that meets fmt, with fmt's text TOLD by the authors' own Lean function (tested against real Go, not proved from fmt's source: count such statements apart). THE CARD IS WHAT COUNTS. Prove the row's statement (the work); the ties are given (YtilpkcmlffdobaaGreatDoorTie.lean); close each card by the builder's one call (the guide's Derived/Test/ToyasCard.lean, 'card_holds'). Laid BY PROGRAM, IN A SANDBOX (cutbox-door.mjs). By AI agents, Wed Nov 11 2026. No macro, syntax, notation, axiom, sorry.
-/
import Derived.Test.YtilpkcmlffdobaaGreatDoorRows
import GoSem.ClaimSeven
namespace Go.Proofs.YtilpkcmlffdobaaGreatDoor
namespace Rows

/-- THE TIED CARD OF 'caliperlaw23.ValidNobody'. -/
def validNobodyCard : Claim7 := { stood := { row := validNobodyRow, standIns := [], harness := (true, "9b046b87dc7165b6bb9bc3c0193d15e3e251d85a0e82f9804264ed3d0cedb423"), looks := true }, kinds := [], alts := [], laidByText := true, laidKinds := [.handle, .pinned, .data, .data, .listed, .sentinel, .sentinel, .data, .data, .data], laidTests := true, laidLooks := .later }
def ValidNobodyCardSaid : Prop := Claim7.holds Tryz.pinned (.plain (OpenSpec.ofChange validNobodySpec)) validNobodyCard

/-- THE SECOND FORM's CARD OF 'caliperlaw23.ValidNobody'. -/
def validNobodyUptoCard : Claim7 := { stood := { row := validNobodyUptoRow, standIns := [], harness := (true, "9b046b87dc7165b6bb9bc3c0193d15e3e251d85a0e82f9804264ed3d0cedb423"), looks := true }, kinds := [], alts := [], laidByText := true, laidKinds := [.handle, .pinned, .data, .data, .listed, .sentinel, .sentinel, .data, .data, .data], laidTests := true, laidLooks := .later }
def ValidNobodyUptoCardSaid : Prop := Claim7.holds Tryz.pinned (.plain (OpenSpec.upto validNobodySpec)) validNobodyUptoCard
end Rows
end Go.Proofs.YtilpkcmlffdobaaGreatDoor
