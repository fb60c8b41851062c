/- The tie of the row's list to the program's text: facts, apart. Printed by a program (NOTES). -/
import Derived.Test.YtilpkcmlffdobaaGreatDoorTieE
import Derived.Test.YtilpkcmlffdobaaGreatDoorTieF
namespace Go.Proofs.YtilpkcmlffdobaaGreatDoor
open Go
theorem tie_both {o : Option (List (String × DataW Unit) × List MemPlace)} {W : World} {l : List MemPlace} (a : o.map (·.2) = some l) (b : nodupB (l.map MemPlace.codeOf) = true) (c : laidRowsB Tryz.prog W l = true) : o.map (fun x => decide x.2.Nodup && laidRowsB Tryz.prog W x.2) = some true := by
  cases o with
  | none => cases a
  | some x =>
    simp only [Option.map_some, Option.some.injEq] at a ⊢
    rw [a, c, Bool.and_true]
    exact decide_eq_true (nodup_of_code b)
theorem tieF9 : ∀ os tape, (DataW.laidRun Tryz.prog (varsWorld Tryz.prog 400 (varsId Tryz.prog) os tape).memory 8 ((tieL.filter fun x => x.2.handleName?.isNone).map (·.1))).map (fun x => decide x.2.Nodup && laidRowsB Tryz.prog (varsWorld Tryz.prog 400 (varsId Tryz.prog) os tape).memory x.2) = some true := fun os tape => tie_both (tieF8p os tape) tieN (tieR os tape)
end Go.Proofs.YtilpkcmlffdobaaGreatDoor
