/- The law answers true. Printed by gen_evc2.py. -/
import Derived.Test.YtilpkcmlffdobaaGreatDoorEvC
import Derived.Test.YtilpkcmlffdobaaGreatDoorEvP1
import Derived.Test.YtilpkcmlffdobaaGreatDoorEvP2
import Derived.Test.YtilpkcmlffdobaaGreatDoorEvP3
import Derived.Test.YtilpkcmlffdobaaGreatDoorEvP4
import Derived.Test.YtilpkcmlffdobaaGreatDoorEvP5
import Derived.Test.YtilpkcmlffdobaaGreatDoorEvP6
import Derived.Test.YtilpkcmlffdobaaGreatDoorEvP7
import Derived.Test.YtilpkcmlffdobaaGreatDoorEvP8
import Derived.Test.YtilpkcmlffdobaaGreatDoorEvP9
namespace Go.Proofs.YtilpkcmlffdobaaGreatDoor.Ev
open Go.RowKit
set_option linter.unusedSimpArgs false
set_option linter.unusedVariables false
set_option linter.unusedSectionVars false
section
variable [Tok] {base : Nat} (hb : 1 ≤ base)
theorem en0 : ∀ e ∈ es0, EntOk Go.Proofs.Tryz.prog T0 base EE e := by
  intro e h
  unfold es0 at h
  cases h
include hb in
theorem en1 : ∀ e ∈ es1, EntOk Go.Proofs.Tryz.prog T0 base EE e := by
  have h := ents_next (ctxE hb) moA (moC base) en0 p1 (of_decide_eq_true (by kernel_rfl))
  unfold es1
  unfold es0 at h
  exact h
include hb in
theorem en2 : ∀ e ∈ es2, EntOk Go.Proofs.Tryz.prog T0 base EE e := by
  have h := ents_next (ctxE hb) moA (moC base) (en1 hb) p2 (of_decide_eq_true (by kernel_rfl))
  unfold es2
  unfold es1 at h
  exact h
include hb in
theorem en3 : ∀ e ∈ es3, EntOk Go.Proofs.Tryz.prog T0 base EE e := by
  have h := ents_next (ctxE hb) moA (moC base) (en2 hb) p3 (of_decide_eq_true (by kernel_rfl))
  unfold es3
  unfold es2 at h
  exact h
include hb in
theorem en4 : ∀ e ∈ es4, EntOk Go.Proofs.Tryz.prog T0 base EE e := by
  have h := ents_next (ctxE hb) moA (moC base) (en3 hb) p4 (of_decide_eq_true (by kernel_rfl))
  unfold es4
  unfold es3 at h
  exact h
include hb in
theorem en5 : ∀ e ∈ es5, EntOk Go.Proofs.Tryz.prog T0 base EE e := by
  have h := ents_next (ctxE hb) moA (moC base) (en4 hb) p5 (of_decide_eq_true (by kernel_rfl))
  unfold es5
  unfold es4 at h
  exact h
include hb in
theorem en6 : ∀ e ∈ es6, EntOk Go.Proofs.Tryz.prog T0 base EE e := by
  have h := ents_next (ctxE hb) moA (moC base) (en5 hb) p6 (of_decide_eq_true (by kernel_rfl))
  unfold es6
  unfold es5 at h
  exact h
include hb in
theorem en7 : ∀ e ∈ es7, EntOk Go.Proofs.Tryz.prog T0 base EE e := by
  have h := ents_next (ctxE hb) moA (moC base) (en6 hb) p7 (of_decide_eq_true (by kernel_rfl))
  unfold es7
  unfold es6 at h
  exact h
include hb in
theorem en8 : ∀ e ∈ es8, EntOk Go.Proofs.Tryz.prog T0 base EE e := by
  have h := ents_next (ctxE hb) moA (moC base) (en7 hb) p8 (of_decide_eq_true (by kernel_rfl))
  unfold es8
  unfold es7 at h
  exact h
include hb in
theorem en9 : ∀ e ∈ es9, EntOk Go.Proofs.Tryz.prog T0 base EE e := by
  have h := ents_next (ctxE hb) moA (moC base) (en8 hb) p9 (of_decide_eq_true (by kernel_rfl))
  unfold es9
  unfold es8 at h
  exact h
include hb in
theorem en10 : ∀ e ∈ es10, EntOk Go.Proofs.Tryz.prog T0 base EE e := by
  have h := ents_next (ctxE hb) moA (moC base) (en9 hb) p10 (of_decide_eq_true (by kernel_rfl))
  unfold es10
  unfold es9 at h
  exact h
include hb in
theorem en11 : ∀ e ∈ es11, EntOk Go.Proofs.Tryz.prog T0 base EE e := by
  have h := ents_next (ctxE hb) moA (moC base) (en10 hb) p11 (of_decide_eq_true (by kernel_rfl))
  unfold es11
  unfold es10 at h
  exact h
include hb in
theorem en12 : ∀ e ∈ es12, EntOk Go.Proofs.Tryz.prog T0 base EE e := by
  have h := ents_next (ctxE hb) moA (moC base) (en11 hb) p12 (of_decide_eq_true (by kernel_rfl))
  unfold es12
  unfold es11 at h
  exact h
include hb in
theorem en13 : ∀ e ∈ es13, EntOk Go.Proofs.Tryz.prog T0 base EE e := by
  have h := ents_next (ctxE hb) moA (moC base) (en12 hb) p13 (of_decide_eq_true (by kernel_rfl))
  unfold es13
  unfold es12 at h
  exact h
end
theorem stL : e13.st = stG T0.n0 1 602 spaceT := by kernel_rfl
theorem n0L : T0.n0 = 14 := by kernel_rfl
theorem closedE : spaceT.all (closedV 40) = true := by kernel_rfl
theorem argL : e13.args = [.float .f64 0] := by kernel_rfl
/-- The law answers true. -/
theorem law_l (v : Value) (hv : v.cells.toList = [v] ∧ oneC v = true) (w : World) (hE : EE w) {arr : Array Value} {fr : Nat × Nat} (hg : w.heap[1]? = some (.cells arr 602 fr)) (ht : arr.toList = spaceT) (hfr : fr.1 ≤ fr.2) :
    Calls Go.Proofs.Tryz.prog 3 #[v] w fun r w' => r = .returned (.bool true) ∧ Below w.heap.size w w' := by
  let tk : Tok := ⟨⟨fun _ => v, fun _ => hv⟩⟩
  have hsz : 1 < w.heap.size := (Array.getElem?_eq_some_iff.1 hg).1
  have hh : EntOk Go.Proofs.Tryz.prog T0 w.heap.size EE e13 := en13 (by omega) _ (by unfold es13; exact List.mem_cons_self)
  have hlt : 1 < T0.n0 := by rw [n0L]; omega
  have ha : Abs T0 e13.st := by rw [stL]; exact absG hlt
  have hi : Inv T0.n0 w.heap.size (iotaG T0.n0 1 spaceT.length) e13.st.see w := by rw [stL]; exact invG hlt hg ht hfr closedE
  have hf : Fresh (iotaG T0.n0 1 spaceT.length) e13.st e13.to := by
    intro id h1 h2
    have h1 : T0.n0 ≤ id := by rw [stL] at h1; exact h1
    unfold iotaG
    rw [if_neg (by omega)]
  have ef : e13.f = 3 := by kernel_rfl
  have := ent_true hh hE ha hi hf (args := #[v]) (by rw [argL]; exact All2.cons (Rv.tok .f64 0) All2.nil) (by kernel_rfl)
  rw [ef] at this
  exact this
end Go.Proofs.YtilpkcmlffdobaaGreatDoor.Ev
