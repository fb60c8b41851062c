/- A block that is known whole: what it reads as, and what stores, new blocks, draws and calls make of it. -/

import Derived.Test.YthdnpikgnmdnnaaGreatDoorTxt
namespace Go.Proofs.YthdnpikgnmdnnaaGreatDoor
open Go.RowKit
set_option linter.unusedSimpArgs false
set_option linter.unusedVariables false
set_option linter.unnecessarySimpa false

/-- block b of W is a row of the cells cs, of type T, nothing of it frozen -/
def Blk (W : World) (b : Nat) (cs : List Value) (T : TypeId) : Prop := W.heap[b]? = some (.cells cs.toArray T (0, 0))

theorem Blk.lt {W : World} {b : Nat} {cs : List Value} {T : TypeId} (h : Blk W b cs T) : b < W.heap.size := (Array.getElem?_eq_some_iff.1 h).1
theorem Blk.cell {W : World} {b : Nat} {cs : List Value} {T : TypeId} (h : Blk W b cs T) (o : Nat) : W.cell? ⟨b, o, none⟩ = cs[o]? := by
  unfold Blk at h
  simp [World.cell?, h]
theorem Blk.froz {W : World} {b : Nat} {cs : List Value} {T : TypeId} (h : Blk W b cs T) (o : Nat) : W.frozen? ⟨b, o, none⟩ = false := by
  unfold Blk at h
  simp [World.frozen?, h]
theorem Blk.shape {W : World} {b : Nat} {cs : List Value} {T : TypeId} (h : Blk W b cs T) : W.shape? b = some (T, cs.length) := by
  unfold Blk at h
  simp [World.shape?, h]
theorem Blk.new (W : World) (cs : List Value) (T : TypeId) : Blk (W.alloc (.cells cs.toArray T)) W.heap.size cs T := by
  unfold Blk
  simp [World.alloc, -World.alloc_eq]
theorem Blk.alloc {W : World} {b : Nat} {cs : List Value} {T : TypeId} (h : Blk W b cs T) (o : Obj) : Blk (W.alloc o) b cs T := by
  have := h.lt
  unfold Blk at h ⊢
  rw [Below.heap_alloc _ _ _ this]; exact h
theorem Blk.set {W : World} {b : Nat} {cs : List Value} {T : TypeId} (h : Blk W b cs T) (o : Nat) (v : Value) : Blk (W.setCell ⟨b, o, none⟩ v) b (cs.set o v) T := by
  have hl := h.lt
  unfold Blk at h ⊢
  simp only [World.setCell, Array.getElem?_modify]
  rw [if_pos trivial, h]
  simp
theorem Blk.other {W : World} {b : Nat} {cs : List Value} {T : TypeId} (h : Blk W b cs T) {a : Addr} (v : Value) (hne : b ≠ a.block) : Blk (W.setCell a v) b cs T := by
  unfold Blk at h ⊢
  rw [Below.heap_setCell _ _ _ _ hne]; exact h
theorem Blk.drew {W : World} {b : Nat} {cs : List Value} {T : TypeId} (h : Blk W b cs T) : Blk W.drew b cs T := h
theorem Blk.drewN {W : World} {b : Nat} {cs : List Value} {T : TypeId} (h : Blk W b cs T) (n : Nat) : Blk (W.drewN n) b cs T := h
theorem Blk.below {W W' : World} {B b : Nat} {cs : List Value} {T : TypeId} (h : Blk W b cs T) (hb : Below B W W') (hlt : b < B) : Blk W' b cs T := by
  unfold Blk at h ⊢
  rw [hb.block _ hlt]; exact h
/-- behind a call: all that was there is as it was -/
theorem Blk.call {W W' : World} {b : Nat} {cs : List Value} {T : TypeId} (h : Blk W b cs T) (hb : Below W.heap.size W W') : Blk W' b cs T := h.below hb h.lt
theorem Blk.shut {W : World} {b : Nat} {cs ds : List Value} {T : TypeId} (h : Blk W b cs T) (e : cs = ds) : Blk W b ds T := e ▸ h

/-- a call behind what has been done so far -/
theorem _root_.Go.RowKit.Below.call {B : Nat} {w W W' : World} (h : Below B w W) (hb : Below W.heap.size W W') (hB : B ≤ W.heap.size) : Below B w W' := h.trans (hb.mono hB)
end Go.Proofs.YthdnpikgnmdnnaaGreatDoor
