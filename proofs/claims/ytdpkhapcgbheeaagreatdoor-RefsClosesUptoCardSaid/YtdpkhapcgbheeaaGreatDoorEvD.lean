/- heads answers true. Printed by gen_evc.py. -/
import Derived.Test.YtdpkhapcgbheeaaGreatDoorEvC
import Derived.Test.YtdpkhapcgbheeaaGreatDoorEvP1
import Derived.Test.YtdpkhapcgbheeaaGreatDoorEvP2
import Derived.Test.YtdpkhapcgbheeaaGreatDoorEvP3
import Derived.Test.YtdpkhapcgbheeaaGreatDoorEvP4
import Derived.Test.YtdpkhapcgbheeaaGreatDoorEvP5
import Derived.Test.YtdpkhapcgbheeaaGreatDoorEvP6
import Derived.Test.YtdpkhapcgbheeaaGreatDoorEvP7
import Derived.Test.YtdpkhapcgbheeaaGreatDoorEvP8
namespace Go.Proofs.YtdpkhapcgbheeaaGreatDoor.Ev
open Go.RowKit
set_option linter.unusedSimpArgs false
set_option linter.unusedVariables false
section
variable {base : Nat} (hb : 2 < base)
theorem en0 : ∀ e ∈ es0, EntOk Go.Proofs.Tryz.prog T0 base EE e := by
  intro e h
  unfold es0 at h
  cases h
include hb in
theorem en1 : ∀ e ∈ es1, EntOk Go.Proofs.Tryz.prog T0 base EE e := by
  have h := ents_next (ctxE hb) moA (moC base) en0 p1 (of_decide_eq_true (by kernel_rfl))
  unfold es1
  unfold es0 at h
  exact h
include hb in
theorem en2 : ∀ e ∈ es2, EntOk Go.Proofs.Tryz.prog T0 base EE e := by
  have h := ents_next (ctxE hb) moA (moC base) (en1 hb) p2 (of_decide_eq_true (by kernel_rfl))
  unfold es2
  unfold es1 at h
  exact h
include hb in
theorem en3 : ∀ e ∈ es3, EntOk Go.Proofs.Tryz.prog T0 base EE e := by
  have h := ents_next (ctxE hb) moA (moC base) (en2 hb) p3 (of_decide_eq_true (by kernel_rfl))
  unfold es3
  unfold es2 at h
  exact h
include hb in
theorem en4 : ∀ e ∈ es4, EntOk Go.Proofs.Tryz.prog T0 base EE e := by
  have h := ents_next (ctxE hb) moA (moC base) (en3 hb) p4 (of_decide_eq_true (by kernel_rfl))
  unfold es4
  unfold es3 at h
  exact h
include hb in
theorem en5 : ∀ e ∈ es5, EntOk Go.Proofs.Tryz.prog T0 base EE e := by
  have h := ents_next (ctxE hb) moA (moC base) (en4 hb) p5 (of_decide_eq_true (by kernel_rfl))
  unfold es5
  unfold es4 at h
  exact h
include hb in
theorem en6 : ∀ e ∈ es6, EntOk Go.Proofs.Tryz.prog T0 base EE e := by
  have h := ents_next (ctxE hb) moA (moC base) (en5 hb) p6 (of_decide_eq_true (by kernel_rfl))
  unfold es6
  unfold es5 at h
  exact h
include hb in
theorem en7 : ∀ e ∈ es7, EntOk Go.Proofs.Tryz.prog T0 base EE e := by
  have h := ents_next (ctxE hb) moA (moC base) (en6 hb) p7 (of_decide_eq_true (by kernel_rfl))
  unfold es7
  unfold es6 at h
  exact h
include hb in
theorem en8 : ∀ e ∈ es8, EntOk Go.Proofs.Tryz.prog T0 base EE e := by
  have h := ents_next (ctxE hb) moA (moC base) (en7 hb) p8 (of_decide_eq_true (by kernel_rfl))
  unfold es8
  unfold es7 at h
  exact h
include hb in
theorem en9 : ∀ e ∈ es9, EntOk Go.Proofs.Tryz.prog T0 base EE e := by
  have h := ents_next (ctxE hb) moA (moC base) (en8 hb) p9 (of_decide_eq_true (by kernel_rfl))
  unfold es9
  unfold es8 at h
  exact h
end
theorem stL : e9.st = stG T0.n0 1 242 spaceT := by kernel_rfl
theorem n0L : T0.n0 = 12 := by kernel_rfl
theorem closedE : spaceT.all (closedV 40) = true := by kernel_rfl
/-- heads answers true. -/
theorem heads_l (w : World) (hz : 12 ≤ w.heap.size) (hE : EE w) {arr : Array Value} {fr : Nat × Nat} (hg : w.heap[1]? = some (.cells arr 242 fr)) (ht : arr.toList = spaceT) (hfr : fr.1 ≤ fr.2) :
    Calls Go.Proofs.Tryz.prog 5 #[] w fun r w' => r = .returned (.bool true) ∧ Below w.heap.size w w' := by
  have hh : EntOk Go.Proofs.Tryz.prog T0 w.heap.size EE e9 := en9 (by omega) _ (by unfold es9; exact List.mem_cons_self)
  have hlt : 1 < T0.n0 := by rw [n0L]; omega
  have ha : Abs T0 e9.st := by rw [stL]; exact absG hlt
  have hi : Inv T0.n0 w.heap.size (iotaG T0.n0 1 spaceT.length) e9.st.see w := by rw [stL]; exact invG hlt hg ht hfr closedE
  have hf : Fresh (iotaG T0.n0 1 spaceT.length) e9.st e9.to := by
    intro id h1 h2
    have h1 : T0.n0 ≤ id := by rw [stL] at h1; exact h1
    unfold iotaG
    rw [if_neg (by omega)]
  have ef : e9.f = 5 := by kernel_rfl
  have := heads_true hh hE ha hi hf (by kernel_rfl) (by kernel_rfl)
  rw [ef] at this
  exact this
end Go.Proofs.YtdpkhapcgbheeaaGreatDoor.Ev
