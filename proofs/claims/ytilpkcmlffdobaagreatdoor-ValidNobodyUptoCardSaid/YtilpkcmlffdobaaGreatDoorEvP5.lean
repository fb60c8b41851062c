/- Pieces of a law's heads, checked by the kernel. Printed by gen_ev2.py. -/
import Derived.Test.YtilpkcmlffdobaaGreatDoorEvH
namespace Go.Proofs.YtilpkcmlffdobaaGreatDoor.Ev
set_option maxRecDepth 100000 in
theorem p7 : e7.chk (exec (withE T0 mo es6) 100000 (.call e7.f e7.args) e7.st) = true := by kernel_rfl
end Go.Proofs.YtilpkcmlffdobaaGreatDoor.Ev
