/- Pieces of a law's heads, checked by the kernel. Printed by gen_ev.py. -/
import Derived.Test.YthdnpikgnmdnnaaGreatDoorEvH
namespace Go.Proofs.YthdnpikgnmdnnaaGreatDoor.Ev
set_option maxRecDepth 100000 in
theorem p18 : e18.chk (exec (withE T0 mo es17) 100000 (.call e18.f e18.args) e18.st) = true := by kernel_rfl
set_option maxRecDepth 100000 in
theorem p19 : e19.chk (exec (withE T0 mo es18) 100000 (.call e19.f e19.args) e19.st) = true := by kernel_rfl
set_option maxRecDepth 100000 in
theorem p20 : e20.chk (exec (withE T0 mo es19) 100000 (.call e20.f e20.args) e20.st) = true := by kernel_rfl
end Go.Proofs.YthdnpikgnmdnnaaGreatDoor.Ev
