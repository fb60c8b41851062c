/- Pieces of a law's heads, checked by the kernel. Printed by gen_ev.py. -/
import Derived.Test.YthdnpikgnmdnnaaGreatDoorEvH
namespace Go.Proofs.YthdnpikgnmdnnaaGreatDoor.Ev
set_option maxRecDepth 100000 in
theorem p27 : e27.chk (exec (withE T0 mo es26) 100000 (.call e27.f e27.args) e27.st) = true := by kernel_rfl
set_option maxRecDepth 100000 in
theorem p28 : e28.chk (exec (withE T0 mo es27) 100000 (.call e28.f e28.args) e28.st) = true := by kernel_rfl
end Go.Proofs.YthdnpikgnmdnnaaGreatDoor.Ev
