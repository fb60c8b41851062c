/- Pieces of a law's heads, checked by the kernel. Printed by gen_ev.py. -/
import Derived.Test.YthdnpikgnmdnnaaGreatDoorEvH
namespace Go.Proofs.YthdnpikgnmdnnaaGreatDoor.Ev
set_option maxRecDepth 100000 in
theorem p36 : e36.chk (exec (withE T0 mo es35) 100000 (.call e36.f e36.args) e36.st) = true := by kernel_rfl
end Go.Proofs.YthdnpikgnmdnnaaGreatDoor.Ev
