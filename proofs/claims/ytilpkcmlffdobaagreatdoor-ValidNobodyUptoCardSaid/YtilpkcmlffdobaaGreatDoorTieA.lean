/- The tie of the row's list to the program's text: facts, apart. Printed by gen_tie.py. -/
import Derived.Test.YtilpkcmlffdobaaGreatDoorTieL
namespace Go.Proofs.YtilpkcmlffdobaaGreatDoor
open Go
theorem tieF1 : Tryz.prog.worded (varsWordLater true) = true := by kernel_rfl
theorem tieF2 : Tryz.prog.worded (varsWordLater !true) = false := by kernel_rfl
theorem tieF3 : Tryz.prog.worded rootWordLater = true := by kernel_rfl
theorem tieF4 : tieL.map (fun x => Tryz.prog.kindOfLater x.1) = ([.handle, .data, .data, .listed, .sentinel, .sentinel, .data, .data, .data] : List LaidKind).map some := by kernel_rfl
theorem tieF5 : (Tryz.prog.funcNamed "gosem.cut.vars").isSome = true := by kernel_rfl
theorem tieF6 : varsNamedLaterB Tryz.prog (varsId Tryz.prog) tieL = true := by kernel_rfl
theorem tieF7 : ∀ os tape, varsDone Tryz.prog 400 (varsId Tryz.prog) os tape = true := fun _ _ => by kernel_rfl
end Go.Proofs.YtilpkcmlffdobaaGreatDoor
