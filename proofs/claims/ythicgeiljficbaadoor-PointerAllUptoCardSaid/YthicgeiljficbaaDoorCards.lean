/-
  DERIVED. GIVEN WITH THE SEED: THE CARDS: each row of YthicgeiljficbaaDoorRows.lean that lists a variable, with what it lists TIED to the program's text (the seventh form; the later family's looks); each row that meets fmt, with fmt's text TOLD by the authors' own Lean function (tested against real Go, not proved from fmt's source: count such statements apart). THE CARD IS WHAT COUNTS. Prove the row's statement (the work); the ties are given (YthicgeiljficbaaDoorTie.lean); close each card by the builder's one call (the guide's Derived/Test/ToyasCard.lean, 'card_holds'). Laid BY PROGRAM, IN A SANDBOX (cutbox-door.mjs). By AI agents, Wed Nov 11 2026. No macro, syntax, notation, axiom, sorry.
-/
import Derived.Test.YthicgeiljficbaaDoorRows
import GoSem.ClaimSeven
namespace Go.Proofs.YthicgeiljficbaaDoor
namespace Rows

/-- THE TIED CARD OF 'caliperlaw07.PointerFinds'. -/
def pointerFindsCard : Claim7 := { stood := { row := pointerFindsRow, standIns := [], harness := (true, "25f23e8f190093d1071b90aad32d9f983510ba3f45f56d79a80265514fd2c603"), looks := true }, kinds := [], alts := [], laidByText := true, laidKinds := [.data, .data, .data, .data, .sentinel, .sentinel, .pinned], laidTests := true, laidLooks := .later }
def PointerFindsCardSaid : Prop := Claim7.holds Tryd.pinned (.plain (OpenSpec.ofChange pointerFindsSpec)) pointerFindsCard

/-- THE TIED CARD OF 'caliperlaw07.PointerAll'. -/
def pointerAllCard : Claim7 := { stood := { row := pointerAllRow, standIns := [], harness := (true, "25f23e8f190093d1071b90aad32d9f983510ba3f45f56d79a80265514fd2c603"), looks := true }, kinds := [], alts := [], laidByText := true, laidKinds := [.data, .data, .data, .data, .sentinel, .sentinel, .pinned], laidTests := true, laidLooks := .later }
def PointerAllCardSaid : Prop := Claim7.holds Tryd.pinned (.plain (OpenSpec.ofChange pointerAllSpec)) pointerAllCard

/-- THE TIED CARD OF 'caliperlaw07.PointerBack'. -/
def pointerBackCard : Claim7 := { stood := { row := pointerBackRow, standIns := [], harness := (true, "25f23e8f190093d1071b90aad32d9f983510ba3f45f56d79a80265514fd2c603"), looks := true }, kinds := [], alts := [], laidByText := true, laidKinds := [.data, .data, .data, .data, .sentinel, .sentinel, .pinned], laidTests := true, laidLooks := .later }
def PointerBackCardSaid : Prop := Claim7.holds Tryd.pinned (.plain (OpenSpec.ofChange pointerBackSpec)) pointerBackCard

/-- THE TIED CARD OF 'caliperlaw07.PointerSteps'. -/
def pointerStepsCard : Claim7 := { stood := { row := pointerStepsRow, standIns := [], harness := (true, "25f23e8f190093d1071b90aad32d9f983510ba3f45f56d79a80265514fd2c603"), looks := true }, kinds := [], alts := [], laidByText := true, laidKinds := [.data, .data, .data, .data, .sentinel, .sentinel, .pinned], laidTests := true, laidLooks := .later }
def PointerStepsCardSaid : Prop := Claim7.holds Tryd.pinned (.plain (OpenSpec.ofChange pointerStepsSpec)) pointerStepsCard

/-- THE TIED CARD OF 'caliperlaw07.PointerEscapes'. -/
def pointerEscapesCard : Claim7 := { stood := { row := pointerEscapesRow, standIns := [], harness := (true, "25f23e8f190093d1071b90aad32d9f983510ba3f45f56d79a80265514fd2c603"), looks := true }, kinds := [], alts := [], laidByText := true, laidKinds := [.data, .data, .data, .data, .sentinel, .sentinel, .pinned], laidTests := true, laidLooks := .later }
def PointerEscapesCardSaid : Prop := Claim7.holds Tryd.pinned (.plain (OpenSpec.ofChange pointerEscapesSpec)) pointerEscapesCard

/-- THE TIED CARD OF 'caliperlaw07.PointerParts'. -/
def pointerPartsCard : Claim7 := { stood := { row := pointerPartsRow, standIns := [], harness := (true, "25f23e8f190093d1071b90aad32d9f983510ba3f45f56d79a80265514fd2c603"), looks := true }, kinds := [], alts := [], laidByText := true, laidKinds := [.data, .data, .data, .data, .sentinel, .sentinel, .pinned], laidTests := true, laidLooks := .later }
def PointerPartsCardSaid : Prop := Claim7.holds Tryd.pinned (.plain (OpenSpec.ofChange pointerPartsSpec)) pointerPartsCard

/-- THE SECOND FORM's CARD OF 'caliperlaw07.PointerFinds'. -/
def pointerFindsUptoCard : Claim7 := { stood := { row := pointerFindsUptoRow, standIns := [], harness := (true, "25f23e8f190093d1071b90aad32d9f983510ba3f45f56d79a80265514fd2c603"), looks := true }, kinds := [], alts := [], laidByText := true, laidKinds := [.data, .data, .data, .data, .sentinel, .sentinel, .pinned], laidTests := true, laidLooks := .later }
def PointerFindsUptoCardSaid : Prop := Claim7.holds Tryd.pinned (.plain (OpenSpec.upto pointerFindsSpec)) pointerFindsUptoCard

/-- THE SECOND FORM's CARD OF 'caliperlaw07.PointerAll'. -/
def pointerAllUptoCard : Claim7 := { stood := { row := pointerAllUptoRow, standIns := [], harness := (true, "25f23e8f190093d1071b90aad32d9f983510ba3f45f56d79a80265514fd2c603"), looks := true }, kinds := [], alts := [], laidByText := true, laidKinds := [.data, .data, .data, .data, .sentinel, .sentinel, .pinned], laidTests := true, laidLooks := .later }
def PointerAllUptoCardSaid : Prop := Claim7.holds Tryd.pinned (.plain (OpenSpec.upto pointerAllSpec)) pointerAllUptoCard

/-- THE SECOND FORM's CARD OF 'caliperlaw07.PointerBack'. -/
def pointerBackUptoCard : Claim7 := { stood := { row := pointerBackUptoRow, standIns := [], harness := (true, "25f23e8f190093d1071b90aad32d9f983510ba3f45f56d79a80265514fd2c603"), looks := true }, kinds := [], alts := [], laidByText := true, laidKinds := [.data, .data, .data, .data, .sentinel, .sentinel, .pinned], laidTests := true, laidLooks := .later }
def PointerBackUptoCardSaid : Prop := Claim7.holds Tryd.pinned (.plain (OpenSpec.upto pointerBackSpec)) pointerBackUptoCard

/-- THE SECOND FORM's CARD OF 'caliperlaw07.PointerSteps'. -/
def pointerStepsUptoCard : Claim7 := { stood := { row := pointerStepsUptoRow, standIns := [], harness := (true, "25f23e8f190093d1071b90aad32d9f983510ba3f45f56d79a80265514fd2c603"), looks := true }, kinds := [], alts := [], laidByText := true, laidKinds := [.data, .data, .data, .data, .sentinel, .sentinel, .pinned], laidTests := true, laidLooks := .later }
def PointerStepsUptoCardSaid : Prop := Claim7.holds Tryd.pinned (.plain (OpenSpec.upto pointerStepsSpec)) pointerStepsUptoCard

/-- THE SECOND FORM's CARD OF 'caliperlaw07.PointerEscapes'. -/
def pointerEscapesUptoCard : Claim7 := { stood := { row := pointerEscapesUptoRow, standIns := [], harness := (true, "25f23e8f190093d1071b90aad32d9f983510ba3f45f56d79a80265514fd2c603"), looks := true }, kinds := [], alts := [], laidByText := true, laidKinds := [.data, .data, .data, .data, .sentinel, .sentinel, .pinned], laidTests := true, laidLooks := .later }
def PointerEscapesUptoCardSaid : Prop := Claim7.holds Tryd.pinned (.plain (OpenSpec.upto pointerEscapesSpec)) pointerEscapesUptoCard

/-- THE SECOND FORM's CARD OF 'caliperlaw07.PointerParts'. -/
def pointerPartsUptoCard : Claim7 := { stood := { row := pointerPartsUptoRow, standIns := [], harness := (true, "25f23e8f190093d1071b90aad32d9f983510ba3f45f56d79a80265514fd2c603"), looks := true }, kinds := [], alts := [], laidByText := true, laidKinds := [.data, .data, .data, .data, .sentinel, .sentinel, .pinned], laidTests := true, laidLooks := .later }
def PointerPartsUptoCardSaid : Prop := Claim7.holds Tryd.pinned (.plain (OpenSpec.upto pointerPartsSpec)) pointerPartsUptoCard
end Rows
end Go.Proofs.YthicgeiljficbaaDoor
