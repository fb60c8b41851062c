/- The tie of the row's list to the program's text: facts, apart. Printed by gen_tie.py. -/
import Derived.Test.YtilpkcmlffdobaaGreatDoorTieL
namespace Go.Proofs.YtilpkcmlffdobaaGreatDoor
open Go
theorem tieF10 : ∀ os tape, (tieL.filter fun x => x.2.handleName?.isSome).all (handleAtB Tryz.prog (varsWorld Tryz.prog 400 (varsId Tryz.prog) os tape).memory) = true := fun _ _ => by kernel_rfl
end Go.Proofs.YtilpkcmlffdobaaGreatDoor
