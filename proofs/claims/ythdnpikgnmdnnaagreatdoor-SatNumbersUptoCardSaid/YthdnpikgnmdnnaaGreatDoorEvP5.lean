/- Pieces of a law's heads, checked by the kernel. Printed by gen_ev.py. -/
import Derived.Test.YthdnpikgnmdnnaaGreatDoorEvH
namespace Go.Proofs.YthdnpikgnmdnnaaGreatDoor.Ev
set_option maxRecDepth 100000 in
theorem p9 : e9.chk (exec (withE T0 mo es8) 100000 (.call e9.f e9.args) e9.st) = true := by kernel_rfl
set_option maxRecDepth 100000 in
theorem p10 : e10.chk (exec (withE T0 mo es9) 100000 (.call e10.f e10.args) e10.st) = true := by kernel_rfl
end Go.Proofs.YthdnpikgnmdnnaaGreatDoor.Ev
