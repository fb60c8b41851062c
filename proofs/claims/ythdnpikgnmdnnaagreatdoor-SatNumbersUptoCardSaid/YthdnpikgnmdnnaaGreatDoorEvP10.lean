/- Pieces of a law's heads, checked by the kernel. Printed by gen_ev.py. -/
import Derived.Test.YthdnpikgnmdnnaaGreatDoorEvH
namespace Go.Proofs.YthdnpikgnmdnnaaGreatDoor.Ev
set_option maxRecDepth 100000 in
theorem p24 : e24.chk (exec (withE T0 mo es23) 100000 (.call e24.f e24.args) e24.st) = true := by kernel_rfl
set_option maxRecDepth 100000 in
theorem p25 : e25.chk (exec (withE T0 mo es24) 100000 (.call e25.f e25.args) e25.st) = true := by kernel_rfl
end Go.Proofs.YthdnpikgnmdnnaaGreatDoor.Ev
