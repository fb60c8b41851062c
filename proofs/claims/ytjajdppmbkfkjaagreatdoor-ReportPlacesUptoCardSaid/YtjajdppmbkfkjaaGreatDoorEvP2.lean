/- Pieces of a law's heads, checked by the kernel. Printed by gen_ev.py. -/
import Derived.Test.YtjajdppmbkfkjaaGreatDoorEvH
namespace Go.Proofs.YtjajdppmbkfkjaaGreatDoor.Ev
set_option maxRecDepth 100000 in
theorem p4 : e4.chk (exec (withE T0 mo es3) 100000 (.call e4.f e4.args) e4.st) = true := by kernel_rfl
set_option maxRecDepth 100000 in
theorem p5 : e5.chk (exec (withE T0 mo es4) 100000 (.call e5.f e5.args) e5.st) = true := by kernel_rfl
end Go.Proofs.YtjajdppmbkfkjaaGreatDoor.Ev
