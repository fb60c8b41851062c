/- What the row of SatNumbers says of the program, fact by fact. -/
import Derived.Test.YthdnpikgnmdnnaaGreatDoorRows
import Derived.Test.YthdnpikgnmdnnaaGreatDoorCards
import Derived.Test.YthdnpikgnmdnnaaGreatDoorTie
import Derived.JoinedCond
import Derived.ProofKit
namespace Go.Proofs.YthdnpikgnmdnnaaGreatDoor
namespace satNumbers
set_option linter.unusedVariables false
set_option linter.unusedSimpArgs false
theorem f_inPlace : (Rows.satNumbersUptoRow.inPlace == Tryz.prog.inPlace 3) = true := by kernel_rfl
theorem f_unfollowed : (Rows.satNumbersUptoRow.unfollowed == Tryz.prog.unfollowed 3) = true := by kernel_rfl
theorem f_recurses : (Rows.satNumbersUptoRow.recurses == Tryz.prog.recurses 3) = true := by kernel_rfl
theorem f_varsNamed : (Rows.satNumbersUptoRow.named == Tryz.prog.varsNamed 3) = true := by kernel_rfl
theorem facts : joinedFacts Tryz.prog 3 Tryz.f3 (Rows.OpenSpec.upto Rows.satNumbersSpec).bare Rows.satNumbersUptoRow = true := by
  unfold joinedFacts
  rw [f_inPlace, f_unfollowed, f_recurses, f_varsNamed]
  kernel_rfl
end satNumbers
theorem f_wf : Rows.satNumbersUptoRow.wfByText (Rows.OpenSpec.upto Rows.satNumbersSpec) = true := by kernel_rfl
theorem no_go : Tryz.pinned.checked.prog.funcs.any Func.goes = false := by kernel_rfl
theorem goes_none {P : Program} (h : P.funcs.any Func.goes = false) (f : FuncId) : P.goes f = false := by
  unfold Program.goes
  rw [h, Bool.and_false, Bool.or_false, List.any_eq_false]
  intro g _ hg
  cases hf : P.funcs[g]? with
  | none => rw [hf] at hg; cases hg
  | some fn =>
    rw [hf] at hg
    have h1 : fn.goes = true := hg
    have h2 : P.funcs.any Func.goes = true := Array.any_eq_true'.2 ⟨fn, Array.mem_of_getElem? hf, h1⟩
    rw [h] at h2
    cases h2
theorem goes_opt {P : Program} (h : P.funcs.any Func.goes = false) (o : Option FuncId) : o.any P.goes = false := by
  cases o with
  | none => rfl
  | some f => exact goes_none h f
theorem f_goes : false = Rows.satNumbersUptoRow.goesBy Tryz.pinned.checked.prog := by
  unfold OpenClaim.goesBy Program.goesAt Program.goesFrom
  rw [goes_opt no_go]
  rfl
theorem f_main : Tryz.pinned.checked.prog.mainIs = some (Rows.satNumbersUptoCard.stood.harness.1, Rows.satNumbersUptoCard.stood.harness.2.toList) := by kernel_rfl
end Go.Proofs.YthdnpikgnmdnnaaGreatDoor
