/- Pieces of a law's heads, checked by the kernel. Printed by gen_ev.py. -/
import Derived.Test.YtdpkhapcgbheeaaGreatDoorEvH
namespace Go.Proofs.YtdpkhapcgbheeaaGreatDoor.Ev
set_option maxRecDepth 100000 in
theorem p9 : e9.chk (exec (withE T0 mo es8) 100000 (.call e9.f e9.args) e9.st) = true := by kernel_rfl
end Go.Proofs.YtdpkhapcgbheeaaGreatDoor.Ev
