/-
  DERIVED. GIVEN WITH THE SEED: THE CARDS: each row of YthdnpikgnmdnnaaGreatDoorRows.lean that lists a variable, with what it lists TIED to the program's text (the seventh form; the later family's looks); each row that meets fmt, with fmt's text TOLD by the authors' own Lean function (tested against real Go, not proved from fmt's source: count such statements apart). THE CARD IS WHAT COUNTS. Prove the row's statement (the work); the ties are given (YthdnpikgnmdnnaaGreatDoorTie.lean); close each card by the builder's one call (the guide's Derived/Test/ToyasCard.lean, 'card_holds'). Laid BY PROGRAM, IN A SANDBOX (cutbox-door.mjs). By AI agents, Wed Nov 11 2026. No macro, syntax, notation, axiom, sorry.
-/
import Derived.Test.YthdnpikgnmdnnaaGreatDoorRows
import GoSem.ClaimSeven
namespace Go.Proofs.YthdnpikgnmdnnaaGreatDoor
namespace Rows

/-- THE TIED CARD OF 'caliperlaw19.SatNumbers'. -/
def satNumbersCard : Claim7 := { stood := { row := satNumbersRow, standIns := [], harness := (true, "324998f40b6f89b2405a060d6d8ffbe5adaac2d675fd192ac520d89e3d12b380"), looks := true }, kinds := [], alts := [], laidByText := true, laidKinds := [.data, .data, .data, .data, .pinned], laidTests := true, laidLooks := .later }
def SatNumbersCardSaid : Prop := Claim7.holds Tryz.pinned (.plain (OpenSpec.ofChange satNumbersSpec)) satNumbersCard

/-- THE TIED CARD OF 'caliperlaw19.SatTypes'. -/
def satTypesCard : Claim7 := { stood := { row := satTypesRow, standIns := [], harness := (true, "324998f40b6f89b2405a060d6d8ffbe5adaac2d675fd192ac520d89e3d12b380"), looks := true }, kinds := [], alts := [], laidByText := true, laidKinds := [.data, .data, .data, .data, .pinned], laidTests := true, laidLooks := .later }
def SatTypesCardSaid : Prop := Claim7.holds Tryz.pinned (.plain (OpenSpec.ofChange satTypesSpec)) satTypesCard

/-- THE SECOND FORM's CARD OF 'caliperlaw19.SatNumbers'. -/
def satNumbersUptoCard : Claim7 := { stood := { row := satNumbersUptoRow, standIns := [], harness := (true, "324998f40b6f89b2405a060d6d8ffbe5adaac2d675fd192ac520d89e3d12b380"), looks := true }, kinds := [], alts := [], laidByText := true, laidKinds := [.data, .data, .data, .data, .pinned], laidTests := true, laidLooks := .later }
def SatNumbersUptoCardSaid : Prop := Claim7.holds Tryz.pinned (.plain (OpenSpec.upto satNumbersSpec)) satNumbersUptoCard

/-- THE SECOND FORM's CARD OF 'caliperlaw19.SatTypes'. -/
def satTypesUptoCard : Claim7 := { stood := { row := satTypesUptoRow, standIns := [], harness := (true, "324998f40b6f89b2405a060d6d8ffbe5adaac2d675fd192ac520d89e3d12b380"), looks := true }, kinds := [], alts := [], laidByText := true, laidKinds := [.data, .data, .data, .data, .pinned], laidTests := true, laidLooks := .later }
def SatTypesUptoCardSaid : Prop := Claim7.holds Tryz.pinned (.plain (OpenSpec.upto satTypesSpec)) satTypesUptoCard
end Rows
end Go.Proofs.YthdnpikgnmdnnaaGreatDoor
