/- What the row of ValidNobody says of the program, fact by fact. -/
import Derived.Test.YtilpkcmlffdobaaGreatDoorRows
import Derived.Test.YtilpkcmlffdobaaGreatDoorCards
import Derived.JoinedCond
import Derived.ProofKit
namespace Go.Proofs.YtilpkcmlffdobaaGreatDoor
namespace validNobody
set_option linter.unusedVariables false
set_option linter.unusedSimpArgs false
theorem f_inPlace : (Rows.validNobodyUptoRow.inPlace == Tryz.prog.inPlace 3) = true := by kernel_rfl
end validNobody
end Go.Proofs.YtilpkcmlffdobaaGreatDoor
