/- heads answers true. Printed by gen_evc.py. -/
import Derived.Test.YthdnpikgnmdnnaaGreatDoorEvC
import Derived.Test.YthdnpikgnmdnnaaGreatDoorEvP1
import Derived.Test.YthdnpikgnmdnnaaGreatDoorEvP2
import Derived.Test.YthdnpikgnmdnnaaGreatDoorEvP3
import Derived.Test.YthdnpikgnmdnnaaGreatDoorEvP4
import Derived.Test.YthdnpikgnmdnnaaGreatDoorEvP5
import Derived.Test.YthdnpikgnmdnnaaGreatDoorEvP6
import Derived.Test.YthdnpikgnmdnnaaGreatDoorEvP7
import Derived.Test.YthdnpikgnmdnnaaGreatDoorEvP8
import Derived.Test.YthdnpikgnmdnnaaGreatDoorEvP9
import Derived.Test.YthdnpikgnmdnnaaGreatDoorEvP10
import Derived.Test.YthdnpikgnmdnnaaGreatDoorEvP11
import Derived.Test.YthdnpikgnmdnnaaGreatDoorEvP12
import Derived.Test.YthdnpikgnmdnnaaGreatDoorEvP13
import Derived.Test.YthdnpikgnmdnnaaGreatDoorEvP14
import Derived.Test.YthdnpikgnmdnnaaGreatDoorEvP15
import Derived.Test.YthdnpikgnmdnnaaGreatDoorEvP16
namespace Go.Proofs.YthdnpikgnmdnnaaGreatDoor.Ev
open Go.RowKit
set_option linter.unusedSimpArgs false
set_option linter.unusedVariables false
set_option linter.unusedSectionVars false
variable [Tok]
section
variable {base : Nat}
theorem en0 : ∀ e ∈ es0, EntOk Go.Proofs.Tryz.prog T0 base EE e := by
  intro e h
  unfold es0 at h
  cases h
theorem en1 : ∀ e ∈ es1, EntOk Go.Proofs.Tryz.prog T0 base EE e := by
  have h := ents_next ctxE moA (moC base) en0 p1 (of_decide_eq_true (by kernel_rfl))
  unfold es1
  unfold es0 at h
  exact h
theorem en2 : ∀ e ∈ es2, EntOk Go.Proofs.Tryz.prog T0 base EE e := by
  have h := ents_next ctxE moA (moC base) en1 p2 (of_decide_eq_true (by kernel_rfl))
  unfold es2
  unfold es1 at h
  exact h
theorem en3 : ∀ e ∈ es3, EntOk Go.Proofs.Tryz.prog T0 base EE e := by
  have h := ents_next ctxE moA (moC base) en2 p3 (of_decide_eq_true (by kernel_rfl))
  unfold es3
  unfold es2 at h
  exact h
theorem en4 : ∀ e ∈ es4, EntOk Go.Proofs.Tryz.prog T0 base EE e := by
  have h := ents_next ctxE moA (moC base) en3 p4 (of_decide_eq_true (by kernel_rfl))
  unfold es4
  unfold es3 at h
  exact h
theorem en5 : ∀ e ∈ es5, EntOk Go.Proofs.Tryz.prog T0 base EE e := by
  have h := ents_next ctxE moA (moC base) en4 p5 (of_decide_eq_true (by kernel_rfl))
  unfold es5
  unfold es4 at h
  exact h
theorem en6 : ∀ e ∈ es6, EntOk Go.Proofs.Tryz.prog T0 base EE e := by
  have h := ents_next ctxE moA (moC base) en5 p6 (of_decide_eq_true (by kernel_rfl))
  unfold es6
  unfold es5 at h
  exact h
theorem en7 : ∀ e ∈ es7, EntOk Go.Proofs.Tryz.prog T0 base EE e := by
  have h := ents_next ctxE moA (moC base) en6 p7 (of_decide_eq_true (by kernel_rfl))
  unfold es7
  unfold es6 at h
  exact h
theorem en8 : ∀ e ∈ es8, EntOk Go.Proofs.Tryz.prog T0 base EE e := by
  have h := ents_next ctxE moA (moC base) en7 p8 (of_decide_eq_true (by kernel_rfl))
  unfold es8
  unfold es7 at h
  exact h
theorem en9 : ∀ e ∈ es9, EntOk Go.Proofs.Tryz.prog T0 base EE e := by
  have h := ents_next ctxE moA (moC base) en8 p9 (of_decide_eq_true (by kernel_rfl))
  unfold es9
  unfold es8 at h
  exact h
theorem en10 : ∀ e ∈ es10, EntOk Go.Proofs.Tryz.prog T0 base EE e := by
  have h := ents_next ctxE moA (moC base) en9 p10 (of_decide_eq_true (by kernel_rfl))
  unfold es10
  unfold es9 at h
  exact h
theorem en11 : ∀ e ∈ es11, EntOk Go.Proofs.Tryz.prog T0 base EE e := by
  have h := ents_next ctxE moA (moC base) en10 p11 (of_decide_eq_true (by kernel_rfl))
  unfold es11
  unfold es10 at h
  exact h
theorem en12 : ∀ e ∈ es12, EntOk Go.Proofs.Tryz.prog T0 base EE e := by
  have h := ents_next ctxE moA (moC base) en11 p12 (of_decide_eq_true (by kernel_rfl))
  unfold es12
  unfold es11 at h
  exact h
theorem en13 : ∀ e ∈ es13, EntOk Go.Proofs.Tryz.prog T0 base EE e := by
  have h := ents_next ctxE moA (moC base) en12 p13 (of_decide_eq_true (by kernel_rfl))
  unfold es13
  unfold es12 at h
  exact h
theorem en14 : ∀ e ∈ es14, EntOk Go.Proofs.Tryz.prog T0 base EE e := by
  have h := ents_next ctxE moA (moC base) en13 p14 (of_decide_eq_true (by kernel_rfl))
  unfold es14
  unfold es13 at h
  exact h
theorem en15 : ∀ e ∈ es15, EntOk Go.Proofs.Tryz.prog T0 base EE e := by
  have h := ents_next ctxE moA (moC base) en14 p15 (of_decide_eq_true (by kernel_rfl))
  unfold es15
  unfold es14 at h
  exact h
theorem en16 : ∀ e ∈ es16, EntOk Go.Proofs.Tryz.prog T0 base EE e := by
  have h := ents_next ctxE moA (moC base) en15 p16 (of_decide_eq_true (by kernel_rfl))
  unfold es16
  unfold es15 at h
  exact h
theorem en17 : ∀ e ∈ es17, EntOk Go.Proofs.Tryz.prog T0 base EE e := by
  have h := ents_next ctxE moA (moC base) en16 p17 (of_decide_eq_true (by kernel_rfl))
  unfold es17
  unfold es16 at h
  exact h
theorem en18 : ∀ e ∈ es18, EntOk Go.Proofs.Tryz.prog T0 base EE e := by
  have h := ents_next ctxE moA (moC base) en17 p18 (of_decide_eq_true (by kernel_rfl))
  unfold es18
  unfold es17 at h
  exact h
theorem en19 : ∀ e ∈ es19, EntOk Go.Proofs.Tryz.prog T0 base EE e := by
  have h := ents_next ctxE moA (moC base) en18 p19 (of_decide_eq_true (by kernel_rfl))
  unfold es19
  unfold es18 at h
  exact h
theorem en20 : ∀ e ∈ es20, EntOk Go.Proofs.Tryz.prog T0 base EE e := by
  have h := ents_next ctxE moA (moC base) en19 p20 (of_decide_eq_true (by kernel_rfl))
  unfold es20
  unfold es19 at h
  exact h
theorem en21 : ∀ e ∈ es21, EntOk Go.Proofs.Tryz.prog T0 base EE e := by
  have h := ents_next ctxE moA (moC base) en20 p21 (of_decide_eq_true (by kernel_rfl))
  unfold es21
  unfold es20 at h
  exact h
theorem en22 : ∀ e ∈ es22, EntOk Go.Proofs.Tryz.prog T0 base EE e := by
  have h := ents_next ctxE moA (moC base) en21 p22 (of_decide_eq_true (by kernel_rfl))
  unfold es22
  unfold es21 at h
  exact h
theorem en23 : ∀ e ∈ es23, EntOk Go.Proofs.Tryz.prog T0 base EE e := by
  have h := ents_next ctxE moA (moC base) en22 p23 (of_decide_eq_true (by kernel_rfl))
  unfold es23
  unfold es22 at h
  exact h
theorem en24 : ∀ e ∈ es24, EntOk Go.Proofs.Tryz.prog T0 base EE e := by
  have h := ents_next ctxE moA (moC base) en23 p24 (of_decide_eq_true (by kernel_rfl))
  unfold es24
  unfold es23 at h
  exact h
theorem en25 : ∀ e ∈ es25, EntOk Go.Proofs.Tryz.prog T0 base EE e := by
  have h := ents_next ctxE moA (moC base) en24 p25 (of_decide_eq_true (by kernel_rfl))
  unfold es25
  unfold es24 at h
  exact h
theorem en26 : ∀ e ∈ es26, EntOk Go.Proofs.Tryz.prog T0 base EE e := by
  have h := ents_next ctxE moA (moC base) en25 p26 (of_decide_eq_true (by kernel_rfl))
  unfold es26
  unfold es25 at h
  exact h
theorem en27 : ∀ e ∈ es27, EntOk Go.Proofs.Tryz.prog T0 base EE e := by
  have h := ents_next ctxE moA (moC base) en26 p27 (of_decide_eq_true (by kernel_rfl))
  unfold es27
  unfold es26 at h
  exact h
theorem en28 : ∀ e ∈ es28, EntOk Go.Proofs.Tryz.prog T0 base EE e := by
  have h := ents_next ctxE moA (moC base) en27 p28 (of_decide_eq_true (by kernel_rfl))
  unfold es28
  unfold es27 at h
  exact h
theorem en29 : ∀ e ∈ es29, EntOk Go.Proofs.Tryz.prog T0 base EE e := by
  have h := ents_next ctxE moA (moC base) en28 p29 (of_decide_eq_true (by kernel_rfl))
  unfold es29
  unfold es28 at h
  exact h
theorem en30 : ∀ e ∈ es30, EntOk Go.Proofs.Tryz.prog T0 base EE e := by
  have h := ents_next ctxE moA (moC base) en29 p30 (of_decide_eq_true (by kernel_rfl))
  unfold es30
  unfold es29 at h
  exact h
theorem en31 : ∀ e ∈ es31, EntOk Go.Proofs.Tryz.prog T0 base EE e := by
  have h := ents_next ctxE moA (moC base) en30 p31 (of_decide_eq_true (by kernel_rfl))
  unfold es31
  unfold es30 at h
  exact h
theorem en32 : ∀ e ∈ es32, EntOk Go.Proofs.Tryz.prog T0 base EE e := by
  have h := ents_next ctxE moA (moC base) en31 p32 (of_decide_eq_true (by kernel_rfl))
  unfold es32
  unfold es31 at h
  exact h
theorem en33 : ∀ e ∈ es33, EntOk Go.Proofs.Tryz.prog T0 base EE e := by
  have h := ents_next ctxE moA (moC base) en32 p33 (of_decide_eq_true (by kernel_rfl))
  unfold es33
  unfold es32 at h
  exact h
theorem en34 : ∀ e ∈ es34, EntOk Go.Proofs.Tryz.prog T0 base EE e := by
  have h := ents_next ctxE moA (moC base) en33 p34 (of_decide_eq_true (by kernel_rfl))
  unfold es34
  unfold es33 at h
  exact h
theorem en35 : ∀ e ∈ es35, EntOk Go.Proofs.Tryz.prog T0 base EE e := by
  have h := ents_next ctxE moA (moC base) en34 p35 (of_decide_eq_true (by kernel_rfl))
  unfold es35
  unfold es34 at h
  exact h
theorem en36 : ∀ e ∈ es36, EntOk Go.Proofs.Tryz.prog T0 base EE e := by
  have h := ents_next ctxE moA (moC base) en35 p36 (of_decide_eq_true (by kernel_rfl))
  unfold es36
  unfold es35 at h
  exact h
end
theorem stL : e36.st = st0 T0.n0 := by kernel_rfl
theorem n0L : T0.n0 = 8 := by kernel_rfl
/-- heads answers true. -/
theorem heads_l (w : World) (hz : 8 ≤ w.heap.size) : Calls Go.Proofs.Tryz.prog 6 #[] w fun r w' => r = .returned (.bool true) ∧ Below w.heap.size w w' := by
  have hh : EntOk Go.Proofs.Tryz.prog T0 w.heap.size EE e36 := en36 _ (by unfold es36; exact List.mem_cons_self)
  have ha : Abs T0 e36.st := by rw [stL]; exact abs0
  have hi : Inv T0.n0 w.heap.size (iota0 T0.n0) e36.st.see w := by rw [stL]; exact inv0 _ (by rw [n0L]; exact hz)
  have hf : Fresh (iota0 T0.n0) e36.st e36.to := by
    intro id h1 h2
    have h1 : T0.n0 ≤ id := by rw [stL] at h1; exact h1
    unfold iota0
    rw [if_neg (by omega)]
  have ef : e36.f = 6 := by kernel_rfl
  have := heads_true hh trivial ha hi hf (by kernel_rfl) (by kernel_rfl)
  rw [ef] at this
  exact this
end Go.Proofs.YthdnpikgnmdnnaaGreatDoor.Ev
