/- Pieces of a law's heads, checked by the kernel. Printed by gen_ev.py. -/
import Derived.Test.YthdnpikgnmdnnaaGreatDoorEvH
namespace Go.Proofs.YthdnpikgnmdnnaaGreatDoor.Ev
set_option maxRecDepth 100000 in
theorem p34 : e34.chk (exec (withE T0 mo es33) 100000 (.call e34.f e34.args) e34.st) = true := by kernel_rfl
set_option maxRecDepth 100000 in
theorem p35 : e35.chk (exec (withE T0 mo es34) 100000 (.call e35.f e35.args) e35.st) = true := by kernel_rfl
end Go.Proofs.YthdnpikgnmdnnaaGreatDoor.Ev
