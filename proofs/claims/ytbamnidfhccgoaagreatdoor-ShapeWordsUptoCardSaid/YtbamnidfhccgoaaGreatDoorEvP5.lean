/- Pieces of law12's heads, checked by the kernel. Printed by gen12s.py. -/
import Derived.Test.YtbamnidfhccgoaaGreatDoorEvH
namespace Go.Proofs.YtbamnidfhccgoaaGreatDoor.Ev
set_option maxRecDepth 100000 in
theorem p13 : e13.chk (exec (withE T0 mo es12) 100000 (.call e13.f e13.args) e13.st) = true := by kernel_rfl
set_option maxRecDepth 100000 in
theorem p14 : e14.chk (exec (withE T0 mo es13) 100000 (.call e14.f e14.args) e14.st) = true := by kernel_rfl
set_option maxRecDepth 100000 in
theorem p15 : e15.chk (exec (withE T0 mo es14) 100000 (.call e15.f e15.args) e15.st) = true := by kernel_rfl
end Go.Proofs.YtbamnidfhccgoaaGreatDoor.Ev
