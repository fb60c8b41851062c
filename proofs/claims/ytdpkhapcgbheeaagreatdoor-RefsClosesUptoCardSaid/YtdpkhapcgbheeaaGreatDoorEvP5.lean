/- Pieces of a law's heads, checked by the kernel. Printed by gen_ev.py. -/
import Derived.Test.YtdpkhapcgbheeaaGreatDoorEvH
namespace Go.Proofs.YtdpkhapcgbheeaaGreatDoor.Ev
set_option maxRecDepth 100000 in
theorem p6 : e6.chk (exec (withE T0 mo es5) 100000 (.call e6.f e6.args) e6.st) = true := by kernel_rfl
end Go.Proofs.YtdpkhapcgbheeaaGreatDoor.Ev
