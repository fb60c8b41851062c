/- Pieces of a law's heads, checked by the kernel. Printed by gen_ev2.py. -/
import Derived.Test.YtilpkcmlffdobaaGreatDoorEvH
namespace Go.Proofs.YtilpkcmlffdobaaGreatDoor.Ev
set_option maxRecDepth 100000 in
theorem p11 : e11.chk (exec (withE T0 mo es10) 100000 (.call e11.f e11.args) e11.st) = true := by kernel_rfl
end Go.Proofs.YtilpkcmlffdobaaGreatDoor.Ev
