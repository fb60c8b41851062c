/- Pieces of a law's heads, checked by the kernel. Printed by gen_ev.py. -/
import Derived.Test.YtjajdppmbkfkjaaGreatDoorEvH
namespace Go.Proofs.YtjajdppmbkfkjaaGreatDoor.Ev
set_option maxRecDepth 100000 in
theorem p15 : e15.chk (exec (withE T0 mo es14) 100000 (.call e15.f e15.args) e15.st) = true := by kernel_rfl
end Go.Proofs.YtjajdppmbkfkjaaGreatDoor.Ev
