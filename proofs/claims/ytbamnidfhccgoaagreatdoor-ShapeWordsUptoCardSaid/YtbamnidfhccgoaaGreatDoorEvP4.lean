/- Pieces of law12's heads, checked by the kernel. Printed by gen12s.py. -/
import Derived.Test.YtbamnidfhccgoaaGreatDoorEvH
namespace Go.Proofs.YtbamnidfhccgoaaGreatDoor.Ev
set_option maxRecDepth 100000 in
theorem p9 : e9.chk (exec (withE T0 mo es8) 100000 (.call e9.f e9.args) e9.st) = true := by kernel_rfl
set_option maxRecDepth 100000 in
theorem p10 : e10.chk (exec (withE T0 mo es9) 100000 (.call e10.f e10.args) e10.st) = true := by kernel_rfl
set_option maxRecDepth 100000 in
theorem p11 : e11.chk (exec (withE T0 mo es10) 100000 (.call e11.f e11.args) e11.st) = true := by kernel_rfl
set_option maxRecDepth 100000 in
theorem p12 : e12.chk (exec (withE T0 mo es11) 100000 (.call e12.f e12.args) e12.st) = true := by kernel_rfl
end Go.Proofs.YtbamnidfhccgoaaGreatDoor.Ev
