/- Pieces of a law's heads, checked by the kernel. Printed by gen_ev2.py. -/
import Derived.Test.YtilpkcmlffdobaaGreatDoorEvH
namespace Go.Proofs.YtilpkcmlffdobaaGreatDoor.Ev
set_option maxRecDepth 100000 in
theorem p8 : e8.chk (exec (withE T0 mo es7) 100000 (.call e8.f e8.args) e8.st) = true := by kernel_rfl
end Go.Proofs.YtilpkcmlffdobaaGreatDoor.Ev
