/- Pieces of law12's heads, checked by the kernel. Printed by gen12s.py. -/
import Derived.Test.YtbamnidfhccgoaaGreatDoorEvH
namespace Go.Proofs.YtbamnidfhccgoaaGreatDoor.Ev
set_option maxRecDepth 100000 in
theorem p16 : e16.chk (exec (withE T0 mo es15) 100000 (.call e16.f e16.args) e16.st) = true := by kernel_rfl
set_option maxRecDepth 100000 in
theorem p17 : e17.chk (exec (withE T0 mo es16) 100000 (.call e17.f e17.args) e17.st) = true := by kernel_rfl
end Go.Proofs.YtbamnidfhccgoaaGreatDoor.Ev
