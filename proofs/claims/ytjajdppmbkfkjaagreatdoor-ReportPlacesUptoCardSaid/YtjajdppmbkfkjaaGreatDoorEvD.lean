/- heads answers true. Printed by gen_evc.py. -/
import Derived.Test.YtjajdppmbkfkjaaGreatDoorEvC
import Derived.Test.YtjajdppmbkfkjaaGreatDoorEvP1
import Derived.Test.YtjajdppmbkfkjaaGreatDoorEvP2
import Derived.Test.YtjajdppmbkfkjaaGreatDoorEvP3
import Derived.Test.YtjajdppmbkfkjaaGreatDoorEvP4
import Derived.Test.YtjajdppmbkfkjaaGreatDoorEvP5
import Derived.Test.YtjajdppmbkfkjaaGreatDoorEvP6
import Derived.Test.YtjajdppmbkfkjaaGreatDoorEvP7
namespace Go.Proofs.YtjajdppmbkfkjaaGreatDoor.Ev
open Go.RowKit
set_option linter.unusedSimpArgs false
set_option linter.unusedVariables false
section
variable {base : Nat}
theorem en0 : ∀ e ∈ es0, EntOk Go.Proofs.Tryz.prog T0 base EE e := by
  intro e h
  unfold es0 at h
  cases h
theorem en1 : ∀ e ∈ es1, EntOk Go.Proofs.Tryz.prog T0 base EE e := by
  have h := ents_next ctxE moA (moC base) en0 p1 (of_decide_eq_true (by kernel_rfl))
  unfold es1
  unfold es0 at h
  exact h
theorem en2 : ∀ e ∈ es2, EntOk Go.Proofs.Tryz.prog T0 base EE e := by
  have h := ents_next ctxE moA (moC base) en1 p2 (of_decide_eq_true (by kernel_rfl))
  unfold es2
  unfold es1 at h
  exact h
theorem en3 : ∀ e ∈ es3, EntOk Go.Proofs.Tryz.prog T0 base EE e := by
  have h := ents_next ctxE moA (moC base) en2 p3 (of_decide_eq_true (by kernel_rfl))
  unfold es3
  unfold es2 at h
  exact h
theorem en4 : ∀ e ∈ es4, EntOk Go.Proofs.Tryz.prog T0 base EE e := by
  have h := ents_next ctxE moA (moC base) en3 p4 (of_decide_eq_true (by kernel_rfl))
  unfold es4
  unfold es3 at h
  exact h
theorem en5 : ∀ e ∈ es5, EntOk Go.Proofs.Tryz.prog T0 base EE e := by
  have h := ents_next ctxE moA (moC base) en4 p5 (of_decide_eq_true (by kernel_rfl))
  unfold es5
  unfold es4 at h
  exact h
theorem en6 : ∀ e ∈ es6, EntOk Go.Proofs.Tryz.prog T0 base EE e := by
  have h := ents_next ctxE moA (moC base) en5 p6 (of_decide_eq_true (by kernel_rfl))
  unfold es6
  unfold es5 at h
  exact h
theorem en7 : ∀ e ∈ es7, EntOk Go.Proofs.Tryz.prog T0 base EE e := by
  have h := ents_next ctxE moA (moC base) en6 p7 (of_decide_eq_true (by kernel_rfl))
  unfold es7
  unfold es6 at h
  exact h
theorem en8 : ∀ e ∈ es8, EntOk Go.Proofs.Tryz.prog T0 base EE e := by
  have h := ents_next ctxE moA (moC base) en7 p8 (of_decide_eq_true (by kernel_rfl))
  unfold es8
  unfold es7 at h
  exact h
theorem en9 : ∀ e ∈ es9, EntOk Go.Proofs.Tryz.prog T0 base EE e := by
  have h := ents_next ctxE moA (moC base) en8 p9 (of_decide_eq_true (by kernel_rfl))
  unfold es9
  unfold es8 at h
  exact h
theorem en10 : ∀ e ∈ es10, EntOk Go.Proofs.Tryz.prog T0 base EE e := by
  have h := ents_next ctxE moA (moC base) en9 p10 (of_decide_eq_true (by kernel_rfl))
  unfold es10
  unfold es9 at h
  exact h
theorem en11 : ∀ e ∈ es11, EntOk Go.Proofs.Tryz.prog T0 base EE e := by
  have h := ents_next ctxE moA (moC base) en10 p11 (of_decide_eq_true (by kernel_rfl))
  unfold es11
  unfold es10 at h
  exact h
theorem en12 : ∀ e ∈ es12, EntOk Go.Proofs.Tryz.prog T0 base EE e := by
  have h := ents_next ctxE moA (moC base) en11 p12 (of_decide_eq_true (by kernel_rfl))
  unfold es12
  unfold es11 at h
  exact h
theorem en13 : ∀ e ∈ es13, EntOk Go.Proofs.Tryz.prog T0 base EE e := by
  have h := ents_next ctxE moA (moC base) en12 p13 (of_decide_eq_true (by kernel_rfl))
  unfold es13
  unfold es12 at h
  exact h
theorem en14 : ∀ e ∈ es14, EntOk Go.Proofs.Tryz.prog T0 base EE e := by
  have h := ents_next ctxE moA (moC base) en13 p14 (of_decide_eq_true (by kernel_rfl))
  unfold es14
  unfold es13 at h
  exact h
theorem en15 : ∀ e ∈ es15, EntOk Go.Proofs.Tryz.prog T0 base EE e := by
  have h := ents_next ctxE moA (moC base) en14 p15 (of_decide_eq_true (by kernel_rfl))
  unfold es15
  unfold es14 at h
  exact h
end
theorem stL : e15.st = st0 T0.n0 := by kernel_rfl
theorem n0L : T0.n0 = 8 := by kernel_rfl
/-- heads answers true. -/
theorem heads_l (w : World) (hz : 8 ≤ w.heap.size) : Calls Go.Proofs.Tryz.prog 7 #[] w fun r w' => r = .returned (.bool true) ∧ Below w.heap.size w w' := by
  have hh : EntOk Go.Proofs.Tryz.prog T0 w.heap.size EE e15 := en15 _ (by unfold es15; exact List.mem_cons_self)
  have ha : Abs T0 e15.st := by rw [stL]; exact abs0
  have hi : Inv T0.n0 w.heap.size (iota0 T0.n0) e15.st.see w := by rw [stL]; exact inv0 _ (by rw [n0L]; exact hz)
  have hf : Fresh (iota0 T0.n0) e15.st e15.to := by
    intro id h1 h2
    have h1 : T0.n0 ≤ id := by rw [stL] at h1; exact h1
    unfold iota0
    rw [if_neg (by omega)]
  have ef : e15.f = 7 := by kernel_rfl
  have := heads_true hh trivial ha hi hf (by kernel_rfl) (by kernel_rfl)
  rw [ef] at this
  exact this
end Go.Proofs.YtjajdppmbkfkjaaGreatDoor.Ev
