/- Pieces of a law's heads, checked by the kernel. Printed by gen_ev.py. -/
import Derived.Test.YthdnpikgnmdnnaaGreatDoorEvH
namespace Go.Proofs.YthdnpikgnmdnnaaGreatDoor.Ev
set_option maxRecDepth 100000 in
theorem p7 : e7.chk (exec (withE T0 mo es6) 100000 (.call e7.f e7.args) e7.st) = true := by kernel_rfl
set_option maxRecDepth 100000 in
theorem p8 : e8.chk (exec (withE T0 mo es7) 100000 (.call e8.f e8.args) e8.st) = true := by kernel_rfl
end Go.Proofs.YthdnpikgnmdnnaaGreatDoor.Ev
