/- Pieces of a law's heads, checked by the kernel. Printed by gen_ev.py. -/
import Derived.Test.YthdnpikgnmdnnaaGreatDoorEvH
namespace Go.Proofs.YthdnpikgnmdnnaaGreatDoor.Ev
set_option maxRecDepth 100000 in
theorem p31 : e31.chk (exec (withE T0 mo es30) 100000 (.call e31.f e31.args) e31.st) = true := by kernel_rfl
set_option maxRecDepth 100000 in
theorem p32 : e32.chk (exec (withE T0 mo es31) 100000 (.call e32.f e32.args) e32.st) = true := by kernel_rfl
set_option maxRecDepth 100000 in
theorem p33 : e33.chk (exec (withE T0 mo es32) 100000 (.call e33.f e33.args) e33.st) = true := by kernel_rfl
end Go.Proofs.YthdnpikgnmdnnaaGreatDoor.Ev
