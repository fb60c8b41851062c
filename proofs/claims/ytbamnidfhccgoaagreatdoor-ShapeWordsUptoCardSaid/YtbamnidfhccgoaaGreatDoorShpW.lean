/- caliperlaw12.ShapeWords answers true. -/
import Derived.Test.YtbamnidfhccgoaaGreatDoorShpA
import Derived.Test.YtbamnidfhccgoaaGreatDoorShpRow
namespace Go.Proofs.YtbamnidfhccgoaaGreatDoor
open Go.RowKit
set_option linter.unusedSimpArgs false
set_option linter.unusedVariables false
set_option linter.unnecessarySimpa false

set_option maxRecDepth 100000 in
set_option maxHeartbeats 2000000 in
theorem shape_l (l : List UInt8) (w : World) (hl : l.length ≤ 1048576) (he : EnvV w) :
    Calls Tryz.prog 3 #[.string (str l)] w (New (.bool true) w) := by
  have H1 := Lib.hid (fun W => same_l l W)
  have H2 := Lib.hid (fun W => sameR_l l W)
  have H3 := Lib.hid (fun W => name_l l hl W)
  have H4 := Lib.hid (fun W => nameR_l l hl W)
  have H5 : Hid (∀ W, Below w.heap.size w W → Calls Tryz.prog 8 #[] W (New (.bool true) W)) := fun W hb => heads_any W (he.call hb)
  generalize sameB l = x at *
  generalize nameB l = y at *
  clear he
  go_enter Tryz.func3, Tryz.ntmps3
  go_wp2_with fail
  refine (H1.out _).mono ?_
  rintro e w1 ⟨rfl, hb1⟩
  have HB1 := Lib.hid hb1
  clear hb1
  go_wp2_with fail
  refine (H2.out _).mono ?_
  rintro e w2 ⟨rfl, rfl⟩
  go_wp2_with fail
  refine (H3.out _).mono ?_
  rintro e w3 ⟨rfl, hb3⟩
  have HB3 := Lib.hid (HB1.out.trans (hb3.mono HB1.out.size))
  clear hb3
  go_wp2_with fail
  refine (H4.out _).mono ?_
  rintro e w4 ⟨rfl, rfl⟩
  go_wp2_with fail
  refine (H5.out _ HB3.out).mono ?_
  rintro e w5 ⟨rfl, hb5⟩
  have HB5 := Lib.hid (HB3.out.trans (hb5.mono HB3.out.size))
  clear hb5
  go_wp2_with fail
  go_ret
  exact ⟨rfl, HB5.out⟩
end Go.Proofs.YtbamnidfhccgoaaGreatDoor
