/- caliperlaw07.PointerBack answers true. -/
import Derived.Test.YthicgeiljficbaaDoorPtrR
import Derived.Test.YthicgeiljficbaaDoorPtrS
namespace Go.Proofs.YthicgeiljficbaaDoor
open Go.RowKit
set_option linter.unusedSimpArgs false
set_option linter.unusedVariables false
set_option linter.unnecessarySimpa false

theorem Txts.call' {w w' : World} {v : Value} {xs : List (List UInt8)} (h : Txts w v xs) (hb : Below w.heap.size w w') : Txts w' v xs := h.call hb

set_option maxRecDepth 100000 in
set_option maxHeartbeats 1000000 in
theorem back_l (v : Value) (xs : List (List UInt8)) (w : World) (hv : Txts w v xs) (hn : xs.length + xs.flatten.length ≤ 1048576) (he : EnvV w) :
    Calls Tryd.prog 5 #[v] w (New (.bool true) w) := by
  have hpl := ptext_len xs
  have HP : Hid (∀ W, Below w.heap.size w W → Calls Tryd.prog 19 #[.string (str (ptext xs))] W (Parsed (some xs) W)) := by
    intro W hb
    have := parse_l (ptext xs) (by omega) W (he.call hb).2.1
    rw [parse_text] at this
    exact this
  have HT := Lib.hid (ptext_l v xs w hv (by omega) (by omega) he.2.1)
  have HX : Hid (∀ W u, Below w.heap.size w W → Txts W u xs → Calls Tryd.prog 15 #[u, v] W (New (.bool true) W)) := by
    intro W u hb hu
    have := texts_l u v xs xs W hu (hv.call hb) (by omega) (by omega)
    rw [show decide (xs = xs) = true from decide_eq_true rfl] at this
    exact this
  have HH : Hid (∀ W, Below w.heap.size w W → Calls Tryd.prog 11 #[] W (New (.bool true) W)) := fun W hb => heads_any W (he.call hb)
  obtain ⟨a, cap, rfl, -⟩ := hv.form
  generalize ptext xs = t at *
  clear hv he hpl
  go_enter Tryd.func5, Tryd.ntmps5
  go_wp2_with fail
  refine HT.out.mono ?_
  rintro e w1 ⟨rfl, hb1⟩
  have HB1 := Lib.hid hb1
  clear hb1
  go_wp2_with fail
  refine (HP.out _ HB1.out).mono ?_
  rintro e w2 ⟨u, rfl, hu, -, hb2⟩
  have HB2 := Lib.hid (HB1.out.trans (hb2.mono HB1.out.size))
  have HU : Hid (Txts w2 u xs) := hu
  have hu' : Txts w2 u xs := hu
  obtain ⟨a2, cap2, rfl, -⟩ := hu'.form
  clear hu hu' hb2
  go_wp2_with fail
  refine (HX.out _ _ HB2.out HU.out).mono ?_
  rintro e w3 ⟨rfl, hb3⟩
  have HB3 := Lib.hid (HB2.out.trans (hb3.mono HB2.out.size))
  clear hb3
  go_wp2_with fail
  refine (HH.out _ HB3.out).mono ?_
  rintro e w4 ⟨rfl, hb4⟩
  have HB4 := Lib.hid (HB3.out.trans (hb4.mono HB3.out.size))
  clear hb4
  go_wp2_with fail
  go_ret
  exact ⟨rfl, HB4.out⟩
end Go.Proofs.YthicgeiljficbaaDoor
