/- Pieces of a law's heads, checked by the kernel. Printed by gen_ev.py. -/
import Derived.Test.YthdnpikgnmdnnaaGreatDoorEvH
namespace Go.Proofs.YthdnpikgnmdnnaaGreatDoor.Ev
set_option maxRecDepth 100000 in
theorem p15 : e15.chk (exec (withE T0 mo es14) 100000 (.call e15.f e15.args) e15.st) = true := by kernel_rfl
set_option maxRecDepth 100000 in
theorem p16 : e16.chk (exec (withE T0 mo es15) 100000 (.call e16.f e16.args) e16.st) = true := by kernel_rfl
set_option maxRecDepth 100000 in
theorem p17 : e17.chk (exec (withE T0 mo es16) 100000 (.call e17.f e17.args) e17.st) = true := by kernel_rfl
end Go.Proofs.YthdnpikgnmdnnaaGreatDoor.Ev
