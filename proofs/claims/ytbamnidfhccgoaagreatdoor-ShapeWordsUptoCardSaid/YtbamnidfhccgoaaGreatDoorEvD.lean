/- caliperlaw12.heads: it answers true. -/
import Derived.Test.YtbamnidfhccgoaaGreatDoorEvC
import Derived.Test.YtbamnidfhccgoaaGreatDoorEvP1
import Derived.Test.YtbamnidfhccgoaaGreatDoorEvP2
import Derived.Test.YtbamnidfhccgoaaGreatDoorEvP3
import Derived.Test.YtbamnidfhccgoaaGreatDoorEvP4
import Derived.Test.YtbamnidfhccgoaaGreatDoorEvP5
import Derived.Test.YtbamnidfhccgoaaGreatDoorEvP6
namespace Go.Proofs.YtbamnidfhccgoaaGreatDoor.Ev
open Go.RowKit
set_option linter.unusedSimpArgs false
set_option linter.unusedVariables false

theorem cell_keep {base : Nat} {w w' : World} {a : Addr} (ha : a.block < base) (h : Below base w w') : w'.cell? a = w.cell? a := by
  unfold World.cell?
  rw [h.block _ ha]
theorem ctx12 {base : Nat} (hb : 2 ≤ base) : Ctx Tryz.prog T0 base E12 where
  tb := tb12
  cmp := cmp12
  ext := ext12
  prim := prim12
  depth := of_decide_eq_true (by kernel_rfl)
  keep := fun w w' hE h => ⟨by rw [cell_keep (by simp only; omega) h]; exact hE.1, by rw [cell_keep (by simp only; omega) h]; exact hE.2⟩

theorem asA12 : ACall T0 (moreC mo) := by
  unfold mo
  exact as_a 18 42 52
theorem asC12 (base : Nat) : CallOk Tryz.prog T0 base E12 (moreC mo) := by
  unfold mo
  refine as_c (fun t w hE => ?_) (fun p t old w hE h0 hf => ?_)
  · refine (as_nil _ w).mono ?_
    rintro r w' ⟨rfl, rfl⟩
    exact ⟨rfl, .refl _ _⟩
  · refine (as_hit p t old w hE.1 h0 hf).mono ?_
    rintro r w' ⟨rfl, rfl⟩
    refine ⟨rfl, _, ?_, rfl⟩
    have b := Below.refl w.heap.size w
    exact Below.alloc (Below.alloc (Below.alloc (Below.alloc b (by simp) _) (by simp) _) (by simp; omega) _) (by simp; omega) _

section
variable {base : Nat} (hb : 2 ≤ base)
theorem en0 : ∀ e ∈ es0, EntOk Tryz.prog T0 base E12 e := by
  intro e h
  unfold es0 at h
  cases h
include hb in
theorem en1 : ∀ e ∈ es1, EntOk Tryz.prog T0 base E12 e := by
  have h := ents_next (ctx12 hb) asA12 (asC12 base) en0 p1
  unfold es1
  unfold es0 at h
  exact h
include hb in
theorem en2 : ∀ e ∈ es2, EntOk Tryz.prog T0 base E12 e := by
  have h := ents_next (ctx12 hb) asA12 (asC12 base) (en1 hb) p2
  unfold es2
  unfold es1 at h
  exact h
include hb in
theorem en3 : ∀ e ∈ es3, EntOk Tryz.prog T0 base E12 e := by
  have h := ents_next (ctx12 hb) asA12 (asC12 base) (en2 hb) p3
  unfold es3
  unfold es2 at h
  exact h
include hb in
theorem en4 : ∀ e ∈ es4, EntOk Tryz.prog T0 base E12 e := by
  have h := ents_next (ctx12 hb) asA12 (asC12 base) (en3 hb) p4
  unfold es4
  unfold es3 at h
  exact h
include hb in
theorem en5 : ∀ e ∈ es5, EntOk Tryz.prog T0 base E12 e := by
  have h := ents_next (ctx12 hb) asA12 (asC12 base) (en4 hb) p5
  unfold es5
  unfold es4 at h
  exact h
include hb in
theorem en6 : ∀ e ∈ es6, EntOk Tryz.prog T0 base E12 e := by
  have h := ents_next (ctx12 hb) asA12 (asC12 base) (en5 hb) p6
  unfold es6
  unfold es5 at h
  exact h
include hb in
theorem en7 : ∀ e ∈ es7, EntOk Tryz.prog T0 base E12 e := by
  have h := ents_next (ctx12 hb) asA12 (asC12 base) (en6 hb) p7
  unfold es7
  unfold es6 at h
  exact h
include hb in
theorem en8 : ∀ e ∈ es8, EntOk Tryz.prog T0 base E12 e := by
  have h := ents_next (ctx12 hb) asA12 (asC12 base) (en7 hb) p8
  unfold es8
  unfold es7 at h
  exact h
include hb in
theorem en9 : ∀ e ∈ es9, EntOk Tryz.prog T0 base E12 e := by
  have h := ents_next (ctx12 hb) asA12 (asC12 base) (en8 hb) p9
  unfold es9
  unfold es8 at h
  exact h
include hb in
theorem en10 : ∀ e ∈ es10, EntOk Tryz.prog T0 base E12 e := by
  have h := ents_next (ctx12 hb) asA12 (asC12 base) (en9 hb) p10
  unfold es10
  unfold es9 at h
  exact h
include hb in
theorem en11 : ∀ e ∈ es11, EntOk Tryz.prog T0 base E12 e := by
  have h := ents_next (ctx12 hb) asA12 (asC12 base) (en10 hb) p11
  unfold es11
  unfold es10 at h
  exact h
include hb in
theorem en12 : ∀ e ∈ es12, EntOk Tryz.prog T0 base E12 e := by
  have h := ents_next (ctx12 hb) asA12 (asC12 base) (en11 hb) p12
  unfold es12
  unfold es11 at h
  exact h
include hb in
theorem en13 : ∀ e ∈ es13, EntOk Tryz.prog T0 base E12 e := by
  have h := ents_next (ctx12 hb) asA12 (asC12 base) (en12 hb) p13
  unfold es13
  unfold es12 at h
  exact h
include hb in
theorem en14 : ∀ e ∈ es14, EntOk Tryz.prog T0 base E12 e := by
  have h := ents_next (ctx12 hb) asA12 (asC12 base) (en13 hb) p14
  unfold es14
  unfold es13 at h
  exact h
include hb in
theorem en15 : ∀ e ∈ es15, EntOk Tryz.prog T0 base E12 e := by
  have h := ents_next (ctx12 hb) asA12 (asC12 base) (en14 hb) p15
  unfold es15
  unfold es14 at h
  exact h
include hb in
theorem en16 : ∀ e ∈ es16, EntOk Tryz.prog T0 base E12 e := by
  have h := ents_next (ctx12 hb) asA12 (asC12 base) (en15 hb) p16
  unfold es16
  unfold es15 at h
  exact h
include hb in
theorem en17 : ∀ e ∈ es17, EntOk Tryz.prog T0 base E12 e := by
  have h := ents_next (ctx12 hb) asA12 (asC12 base) (en16 hb) p17
  unfold es17
  unfold es16 at h
  exact h
end

theorem st17 : e17.st = stG T0.n0 2 101 spaceT := by kernel_rfl
theorem to17 : T0.n0 = 12 := by kernel_rfl
theorem closed12 : spaceT.all (closedV 40) = true := by kernel_rfl
/-- heads answers true. -/
theorem heads_l (w : World) (hE : E12 w) {arr : Array Value} {fr : Nat × Nat} (hg : w.heap[2]? = some (.cells arr 101 fr)) (ht : arr.toList = spaceT) (hfr : fr.1 ≤ fr.2) :
    Calls Tryz.prog 8 #[] w fun r w' => r = .returned (.bool true) ∧ Below w.heap.size w w' := by
  have hsz : 2 < w.heap.size := (Array.getElem?_eq_some_iff.1 hg).1
  have h17 : EntOk Tryz.prog T0 w.heap.size E12 e17 := en17 (by omega) _ (by unfold es17; exact List.mem_cons_self)
  have hlt : 2 < T0.n0 := by rw [to17]; omega
  have ha : Abs T0 e17.st := by rw [st17]; exact absG hlt
  have hi : Inv T0.n0 w.heap.size (iotaG T0.n0 2 spaceT.length) e17.st.see w := by rw [st17]; exact invG hlt hg ht hfr closed12
  have hf : Fresh (iotaG T0.n0 2 spaceT.length) e17.st e17.to := by
    intro id h1 h2
    have h1 : T0.n0 ≤ id := by rw [st17] at h1; exact h1
    unfold iotaG
    rw [if_neg (by omega)]
  have ef : e17.f = 8 := by kernel_rfl
  have := heads_true h17 hE ha hi hf (by kernel_rfl) (by kernel_rfl)
  rw [ef] at this
  exact this
end Go.Proofs.YtbamnidfhccgoaaGreatDoor.Ev
