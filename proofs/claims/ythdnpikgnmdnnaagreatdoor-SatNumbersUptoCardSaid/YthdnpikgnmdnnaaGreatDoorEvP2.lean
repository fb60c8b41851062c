/- Pieces of a law's heads, checked by the kernel. Printed by gen_ev.py. -/
import Derived.Test.YthdnpikgnmdnnaaGreatDoorEvH
namespace Go.Proofs.YthdnpikgnmdnnaaGreatDoor.Ev
set_option maxRecDepth 100000 in
theorem p3 : e3.chk (exec (withE T0 mo es2) 100000 (.call e3.f e3.args) e3.st) = true := by kernel_rfl
set_option maxRecDepth 100000 in
theorem p4 : e4.chk (exec (withE T0 mo es3) 100000 (.call e4.f e4.args) e4.st) = true := by kernel_rfl
end Go.Proofs.YthdnpikgnmdnnaaGreatDoor.Ev
