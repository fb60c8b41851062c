/- The tie of the row's list to the program's text: facts, apart. Printed by a program (NOTES). -/
import Derived.Test.YtilpkcmlffdobaaGreatDoorTieM
namespace Go.Proofs.YtilpkcmlffdobaaGreatDoor
open Go
set_option maxRecDepth 100000 in
theorem tieR : ∀ os tape, laidRowsB Tryz.prog (varsWorld Tryz.prog 400 (varsId Tryz.prog) os tape).memory tiePL = true := fun _ _ => by kernel_rfl
end Go.Proofs.YtilpkcmlffdobaaGreatDoor
