/- Pieces of a law's heads, checked by the kernel. Printed by gen_ev.py. -/
import Derived.Test.YthdnpikgnmdnnaaGreatDoorEvH
namespace Go.Proofs.YthdnpikgnmdnnaaGreatDoor.Ev
set_option maxRecDepth 100000 in
theorem p21 : e21.chk (exec (withE T0 mo es20) 100000 (.call e21.f e21.args) e21.st) = true := by kernel_rfl
set_option maxRecDepth 100000 in
theorem p22 : e22.chk (exec (withE T0 mo es21) 100000 (.call e22.f e22.args) e22.st) = true := by kernel_rfl
set_option maxRecDepth 100000 in
theorem p23 : e23.chk (exec (withE T0 mo es22) 100000 (.call e23.f e23.args) e23.st) = true := by kernel_rfl
end Go.Proofs.YthdnpikgnmdnnaaGreatDoor.Ev
