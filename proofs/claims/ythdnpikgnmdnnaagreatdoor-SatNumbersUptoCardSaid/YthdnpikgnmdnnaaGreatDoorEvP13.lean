/- Pieces of a law's heads, checked by the kernel. Printed by gen_ev.py. -/
import Derived.Test.YthdnpikgnmdnnaaGreatDoorEvH
namespace Go.Proofs.YthdnpikgnmdnnaaGreatDoor.Ev
set_option maxRecDepth 100000 in
theorem p29 : e29.chk (exec (withE T0 mo es28) 100000 (.call e29.f e29.args) e29.st) = true := by kernel_rfl
set_option maxRecDepth 100000 in
theorem p30 : e30.chk (exec (withE T0 mo es29) 100000 (.call e30.f e30.args) e30.st) = true := by kernel_rfl
end Go.Proofs.YthdnpikgnmdnnaaGreatDoor.Ev
