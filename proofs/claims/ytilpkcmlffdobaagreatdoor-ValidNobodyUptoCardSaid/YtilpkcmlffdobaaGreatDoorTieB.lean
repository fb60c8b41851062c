/- The tie of the row's list to the program's text: facts, apart. Printed by gen_tie.py. -/
import Derived.Test.YtilpkcmlffdobaaGreatDoorTieL
namespace Go.Proofs.YtilpkcmlffdobaaGreatDoor
open Go
theorem tieF8 : ∀ os tape, (DataW.laidRun Tryz.prog (varsWorld Tryz.prog 400 (varsId Tryz.prog) os tape).memory 8 ((tieL.filter fun x => x.2.handleName?.isNone).map (·.1))).map (·.1) = some (tieL.filter fun x => x.2.handleName?.isNone) := fun _ _ => by kernel_rfl
end Go.Proofs.YtilpkcmlffdobaaGreatDoor
