/- Pieces of a law's heads, checked by the kernel. Printed by gen_ev2.py. -/
import Derived.Test.YtilpkcmlffdobaaGreatDoorEvH
namespace Go.Proofs.YtilpkcmlffdobaaGreatDoor.Ev
set_option maxRecDepth 100000 in
theorem p4 : e4.chk (exec (withE T0 mo es3) 100000 (.call e4.f e4.args) e4.st) = true := by kernel_rfl
end Go.Proofs.YtilpkcmlffdobaaGreatDoor.Ev
