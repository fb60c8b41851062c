/- pointer.All: all pointers of a value. -/
import Derived.Test.YthicgeiljficbaaDoorPtrP
import Derived.Laws.EntriesVeiled
namespace Go.Proofs.YthicgeiljficbaaDoor
open Go.RowKit Go.Proofs.YthicgeiljficbaaDoor.Ref Go.Proofs.YthicgeiljficbaaDoorW.PrintWords Go.Proofs.YthicgeiljficbaaDoorW.PrintLast
set_option linter.unusedSimpArgs false
set_option linter.unusedVariables false
set_option linter.unnecessarySimpa false
attribute [local go_sem] vcs

/-- what All answers -/
def Alled (xs : List (List UInt8)) (w : World) (e : Ending) (w' : World) : Prop := ∃ v, e = .returned v ∧ Row w' w.heap.size 9 1 v xs.length (strs xs) ∧ Below w.heap.size w w'

set_option maxRecDepth 100000 in
set_option maxHeartbeats 1000000 in
theorem all_l (x : S28) (v5 v6 : Value) (w0 w : World) (hx : VK w0 x v5 v6) (h0 : Below w0.heap.size w0 w) (h8 : 8 ≤ w0.heap.size) (he : EnvV w) (hok : OkT x) (hlen : ∀ p ∈ allP [] x, p.length ≤ 268435456) (hcnt : (allP [] x).length ≤ 1099511627776) :
    Calls Tryd.prog 16 #[.agg (vcs x v5 v6).toArray] w (Alled (allP [] x) w) := by
  have hz0 := h0.size
  have hb3 : ∀ a b c : Obj, Below w.heap.size w (((w.alloc a).alloc b).alloc c) := fun a b c => (((Below.refl _ _).alloc (Nat.le_refl _) _).alloc (by simp) _).alloc (by simp; omega) _
  have HW : Hid (∀ W, Below w.heap.size w W → Blk W (w.heap.size + 1) [.slice none 0 0] 26 → Blk W (w.heap.size + 2) [fnW (w.heap.size + 1) (w.heap.size + 2)] 63 →
      Calls Tryd.prog 32 #[.string ⟨#[]⟩, .agg (vcs x v5 v6).toArray, .pointer (some ⟨w.heap.size + 1, 0, none⟩), .pointer (some ⟨w.heap.size + 2, 0, none⟩)] W (Walked w.heap.size (w.heap.size + 1) (.slice none 0 0) (allP [] x) W)) := by
    intro W hb ho hw
    exact walk_l w0 w.heap.size (w.heap.size + 1) (w.heap.size + 2) hz0 (by omega) (by omega) (by omega) h8 x hok [] v5 v6 _ [] W hx (h0.trans (hb.mono hz0)) (he.call hb) ho hw (Row.nil _ _ _ _) hb.size hlen (by simpa using hcnt)
  generalize allP [] x = xs at *
  obtain ⟨A5, c5, A6, c6, rfl, rfl⟩ := hx.open
  clear hx h0 he hok hlen hcnt
  show Calls Tryd.prog 16 #[.agg #[.int .i64 x.f0, .bool x.f1.f0, .string x.f1.f1, .int .i64 x.f1.f2, .string x.f2, .slice A5 x.f3.length c5, .slice A6 x.f4.length c6]] w _
  go_enter Tryd.func16, Tryd.ntmps16
  go_wp2_with fail
  refine (HW.out _ (hb3 _ _ _) ?_ ?_).mono ?_
  · have := (Blk.new (w.alloc (.cells #[.int .i64 x.f0, .bool x.f1.f0, .string x.f1.f1, .int .i64 x.f1.f2, .string x.f2, .slice A5 x.f3.length c5, .slice A6 x.f4.length c6] 28)) [.slice none 0 0] 26).alloc (.cells #[fnW (w.heap.size + 1) (w.heap.size + 2)] 63)
    rw [World.size_alloc] at this
    exact this
  · have := Blk.new ((w.alloc (.cells #[.int .i64 x.f0, .bool x.f1.f0, .string x.f1.f1, .int .i64 x.f1.f2, .string x.f2, .slice A5 x.f3.length c5, .slice A6 x.f4.length c6] 28)).alloc (.cells #[.slice none 0 0] 26)) [fnW (w.heap.size + 1) (w.heap.size + 2)] 63
    rw [World.size_alloc, World.size_alloc] at this
    exact this
  · rintro e w' ⟨rfl, v', ho, hr, hf⟩
    have HB := Lib.hid ((hb3 _ _ _).trans (hf.below (B := w.heap.size) (by omega) (fun k hk => by simp [Value.ownBlock] at hk) (by simp; omega)))
    have hcell := ho.cell 0
    simp only [List.getElem?_cons_zero] at hcell
    have HR := Lib.hid hr
    clear hr hf ho
    go_wp2_with fail
    go_ret
    exact ⟨_, rfl, HR.out, HB.out⟩
end Go.Proofs.YthicgeiljficbaaDoor
