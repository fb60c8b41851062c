/- Pieces of a law's heads, checked by the kernel. Printed by gen_ev.py. -/
import Derived.Test.YtjajdppmbkfkjaaGreatDoorEvH
namespace Go.Proofs.YtjajdppmbkfkjaaGreatDoor.Ev
set_option maxRecDepth 100000 in
theorem p14 : e14.chk (exec (withE T0 mo es13) 100000 (.call e14.f e14.args) e14.st) = true := by kernel_rfl
end Go.Proofs.YtjajdppmbkfkjaaGreatDoor.Ev
