/- Pieces of a law's heads, checked by the kernel. Printed by gen_ev2.py. -/
import Derived.Test.YtilpkcmlffdobaaGreatDoorEvH
namespace Go.Proofs.YtilpkcmlffdobaaGreatDoor.Ev
set_option maxRecDepth 100000 in
theorem p3 : e3.chk (exec (withE T0 mo es2) 100000 (.call e3.f e3.args) e3.st) = true := by kernel_rfl
end Go.Proofs.YtilpkcmlffdobaaGreatDoor.Ev
