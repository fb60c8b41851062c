/- Pieces of a law's heads, checked by the kernel. Printed by gen_ev.py. -/
import Derived.Test.YthdnpikgnmdnnaaGreatDoorEvH
namespace Go.Proofs.YthdnpikgnmdnnaaGreatDoor.Ev
set_option maxRecDepth 100000 in
theorem p11 : e11.chk (exec (withE T0 mo es10) 100000 (.call e11.f e11.args) e11.st) = true := by kernel_rfl
set_option maxRecDepth 100000 in
theorem p12 : e12.chk (exec (withE T0 mo es11) 100000 (.call e12.f e12.args) e12.st) = true := by kernel_rfl
set_option maxRecDepth 100000 in
theorem p13 : e13.chk (exec (withE T0 mo es12) 100000 (.call e13.f e13.args) e13.st) = true := by kernel_rfl
set_option maxRecDepth 100000 in
theorem p14 : e14.chk (exec (withE T0 mo es13) 100000 (.call e14.f e14.args) e14.st) = true := by kernel_rfl
end Go.Proofs.YthdnpikgnmdnnaaGreatDoor.Ev
