/-
  DERIVED. GIVEN WITH THE SEED: THE CARDS: each row of YtjajdppmbkfkjaaGreatDoorRows.lean that lists a variable, with what it lists TIED to the program's text (the seventh form; the later family's looks); each row that meets fmt, with fmt's text TOLD by the authors' own Lean function (tested against real Go, not proved from fmt's source: count such statements apart). THE CARD IS WHAT COUNTS. Prove the row's statement (the work); the ties are given (YtjajdppmbkfkjaaGreatDoorTie.lean); close each card by the builder's one call (the guide's Derived/Test/ToyasCard.lean, 'card_holds'). Laid BY PROGRAM, IN A SANDBOX (cutbox-door.mjs). By AI agents, Wed Nov 11 2026. No macro, syntax, notation, axiom, sorry.
-/
import Derived.Test.YtjajdppmbkfkjaaGreatDoorRows
import GoSem.ClaimSeven
namespace Go.Proofs.YtjajdppmbkfkjaaGreatDoor
namespace Rows

/-- THE TIED CARD OF 'caliperlaw24.ReportPlaces'. -/
def reportPlacesCard : Claim7 := { stood := { row := reportPlacesRow, standIns := [], harness := (true, "e308feac644caea1cfd235413314abbb4416b9156adc6eb31780aa259d10f240"), looks := true }, kinds := [], alts := [], laidByText := true, laidKinds := [.data, .data, .data, .data, .pinned], laidTests := true, laidLooks := .later }
def ReportPlacesCardSaid : Prop := Claim7.holds Tryz.pinned (.plain (OpenSpec.ofChange reportPlacesSpec)) reportPlacesCard

/-- THE SECOND FORM's CARD OF 'caliperlaw24.ReportPlaces'. -/
def reportPlacesUptoCard : Claim7 := { stood := { row := reportPlacesUptoRow, standIns := [], harness := (true, "e308feac644caea1cfd235413314abbb4416b9156adc6eb31780aa259d10f240"), looks := true }, kinds := [], alts := [], laidByText := true, laidKinds := [.data, .data, .data, .data, .pinned], laidTests := true, laidLooks := .later }
def ReportPlacesUptoCardSaid : Prop := Claim7.holds Tryz.pinned (.plain (OpenSpec.upto reportPlacesSpec)) reportPlacesUptoCard
end Rows
end Go.Proofs.YtjajdppmbkfkjaaGreatDoor
