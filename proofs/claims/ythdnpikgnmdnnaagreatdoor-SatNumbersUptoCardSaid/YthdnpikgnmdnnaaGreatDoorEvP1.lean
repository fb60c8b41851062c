/- Pieces of a law's heads, checked by the kernel. Printed by gen_ev.py. -/
import Derived.Test.YthdnpikgnmdnnaaGreatDoorEvH
namespace Go.Proofs.YthdnpikgnmdnnaaGreatDoor.Ev
set_option maxRecDepth 100000 in
theorem p1 : e1.chk (exec (withE T0 mo es0) 100000 (.call e1.f e1.args) e1.st) = true := by kernel_rfl
set_option maxRecDepth 100000 in
theorem p2 : e2.chk (exec (withE T0 mo es1) 100000 (.call e2.f e2.args) e2.st) = true := by kernel_rfl
end Go.Proofs.YthdnpikgnmdnnaaGreatDoor.Ev
