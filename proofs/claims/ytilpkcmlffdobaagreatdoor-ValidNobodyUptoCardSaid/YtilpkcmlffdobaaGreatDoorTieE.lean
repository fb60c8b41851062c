/- The tie of the row's list to the program's text: facts, apart. Printed by a program (NOTES). -/
import Derived.Test.YtilpkcmlffdobaaGreatDoorTieM
namespace Go.Proofs.YtilpkcmlffdobaaGreatDoor
open Go
set_option maxRecDepth 100000 in
theorem tieF8p : ∀ os tape, (DataW.laidRun Tryz.prog (varsWorld Tryz.prog 400 (varsId Tryz.prog) os tape).memory 8 ((tieL.filter fun x => x.2.handleName?.isNone).map (·.1))).map (·.2) = some tiePL := fun _ _ => by kernel_rfl
end Go.Proofs.YtilpkcmlffdobaaGreatDoor
