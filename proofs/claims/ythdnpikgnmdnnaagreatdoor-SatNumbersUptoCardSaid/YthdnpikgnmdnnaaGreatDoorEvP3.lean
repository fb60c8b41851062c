/- Pieces of a law's heads, checked by the kernel. Printed by gen_ev.py. -/
import Derived.Test.YthdnpikgnmdnnaaGreatDoorEvH
namespace Go.Proofs.YthdnpikgnmdnnaaGreatDoor.Ev
set_option maxRecDepth 100000 in
theorem p5 : e5.chk (exec (withE T0 mo es4) 100000 (.call e5.f e5.args) e5.st) = true := by kernel_rfl
set_option maxRecDepth 100000 in
theorem p6 : e6.chk (exec (withE T0 mo es5) 100000 (.call e6.f e6.args) e6.st) = true := by kernel_rfl
end Go.Proofs.YthdnpikgnmdnnaaGreatDoor.Ev
