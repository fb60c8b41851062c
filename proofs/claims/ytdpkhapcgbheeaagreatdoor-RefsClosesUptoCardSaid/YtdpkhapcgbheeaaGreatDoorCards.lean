/-
  DERIVED. GIVEN WITH THE SEED: THE CARDS: each row of YtdpkhapcgbheeaaGreatDoorRows.lean that lists a variable, with what it lists TIED to the program's text (the seventh form; the later family's looks); each row that meets fmt, with fmt's text TOLD by the authors' own Lean function (tested against real Go, not proved from fmt's source: count such statements apart). THE CARD IS WHAT COUNTS. Prove the row's statement (the work); the ties are given (YtdpkhapcgbheeaaGreatDoorTie.lean); close each card by the builder's one call (the guide's Derived/Test/ToyasCard.lean, 'card_holds'). Laid BY PROGRAM, IN A SANDBOX (cutbox-door.mjs). By AI agents, Wed Nov 11 2026. No macro, syntax, notation, axiom, sorry.
-/
import Derived.Test.YtdpkhapcgbheeaaGreatDoorRows
import GoSem.ClaimSeven
namespace Go.Proofs.YtdpkhapcgbheeaaGreatDoor
namespace Rows

/-- THE TIED CARD OF 'caliperlaw14.RefsReach'. -/
def refsReachCard : Claim7 := { stood := { row := refsReachRow, standIns := [], harness := (true, "4bcd7a1034aac519c6e2b9535d46c567d56237c06b4808d392a2ba65ebe96068"), looks := true }, kinds := [], alts := [], laidByText := true, laidKinds := [.data, .data, .data, .data, .handle, .sentinel, .sentinel, .listed, .data, .pinned], laidTests := true, laidLooks := .later }
def RefsReachCardSaid : Prop := Claim7.holds Tryz.pinned (.plain (OpenSpec.ofChange refsReachSpec)) refsReachCard

/-- THE TIED CARD OF 'caliperlaw14.RefsCloses'. -/
def refsClosesCard : Claim7 := { stood := { row := refsClosesRow, standIns := [], harness := (true, "4bcd7a1034aac519c6e2b9535d46c567d56237c06b4808d392a2ba65ebe96068"), looks := true }, kinds := [], alts := [], laidByText := true, laidKinds := [.data, .data, .data, .data, .handle, .sentinel, .sentinel, .listed, .data, .pinned], laidTests := true, laidLooks := .later }
def RefsClosesCardSaid : Prop := Claim7.holds Tryz.pinned (.plain (OpenSpec.ofChange refsClosesSpec)) refsClosesCard

/-- THE SECOND FORM's CARD OF 'caliperlaw14.RefsReach'. -/
def refsReachUptoCard : Claim7 := { stood := { row := refsReachUptoRow, standIns := [], harness := (true, "4bcd7a1034aac519c6e2b9535d46c567d56237c06b4808d392a2ba65ebe96068"), looks := true }, kinds := [], alts := [], laidByText := true, laidKinds := [.data, .data, .data, .data, .handle, .sentinel, .sentinel, .listed, .data, .pinned], laidTests := true, laidLooks := .later }
def RefsReachUptoCardSaid : Prop := Claim7.holds Tryz.pinned (.plain (OpenSpec.upto refsReachSpec)) refsReachUptoCard

/-- THE SECOND FORM's CARD OF 'caliperlaw14.RefsCloses'. -/
def refsClosesUptoCard : Claim7 := { stood := { row := refsClosesUptoRow, standIns := [], harness := (true, "4bcd7a1034aac519c6e2b9535d46c567d56237c06b4808d392a2ba65ebe96068"), looks := true }, kinds := [], alts := [], laidByText := true, laidKinds := [.data, .data, .data, .data, .handle, .sentinel, .sentinel, .listed, .data, .pinned], laidTests := true, laidLooks := .later }
def RefsClosesUptoCardSaid : Prop := Claim7.holds Tryz.pinned (.plain (OpenSpec.upto refsClosesSpec)) refsClosesUptoCard
end Rows
end Go.Proofs.YtdpkhapcgbheeaaGreatDoor
