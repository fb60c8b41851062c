/- The body of caliperlaw14.RefsCloses. Printed by gen_rcn.py. -/
import Derived.Test.YtdpkhapcgbheeaaGreatDoorRfNa
import Derived.Test.YtdpkhapcgbheeaaGreatDoorRfNb
import Derived.Test.YtdpkhapcgbheeaaGreatDoorRfNc
namespace Go.Proofs.YtdpkhapcgbheeaaGreatDoor
open Go.RowKit
set_option linter.unusedSimpArgs false
set_option linter.unusedVariables false
set_option linter.unnecessarySimpa false

set_option maxRecDepth 100000 in
set_option maxHeartbeats 8000000 in
theorem rc_l (n : Int) (v : Value) (a : List Ed) (u : Value) (b : List Ed) (s : Int) (w : World) (h1 : Eds w v a) (h2 : Eds w u b) (hk : a.length + b.length ≤ 1048576) (he : EnvV w) :
    Calls Tryz.prog 4 #[.int .i64 n, v, u, .int .i64 s] w (New (.bool true) w) := by
  by_cases hn : n ≤ 200 ∧ a.length ≤ 200 ∧ b.length ≤ 200
  · obtain ⟨hn, ha, hb⟩ := hn
    by_cases h0 : s < 0
    · exact rc_lo n v a u b s w h1 h2 he hn ha hb h0
    · by_cases h3 : s < n
      · exact rc_in n v a u b s w h1 h2 he hn ha hb ⟨by omega, h3⟩
      · exact rc_hi n v a u b s w h1 h2 he hn ha hb ⟨by omega, by omega⟩
  · have H5 : Hid (∀ W, Below w.heap.size w W → Calls Tryz.prog 5 #[] W (New (.bool true) W)) := fun W hb => heads_any W (he.call hb)
    obtain ⟨aa, ac, rfl, -, -⟩ := h1
    obtain ⟨ba, bc, rfl, -, -⟩ := h2
    clear he
    generalize a.length = la at *
    generalize b.length = lb at *
    by_cases hn1 : 200 < n
    · clear hn
      go_enter Tryz.func4, Tryz.ntmps4
      go_wp2_with fail
      refine (H5.out _ (Below.refl _ _)).mono ?_
      rintro e w5 ⟨rfl, hb5⟩
      go_wp2_with fail
      go_ret
      exact ⟨rfl, hb5⟩
    · by_cases hn2 : 200 < la
      · clear hn
        go_enter Tryz.func4, Tryz.ntmps4
        go_wp2_with fail
        refine (H5.out _ (Below.refl _ _)).mono ?_
        rintro e w5 ⟨rfl, hb5⟩
        go_wp2_with fail
        go_ret
        exact ⟨rfl, hb5⟩
      · have hn3 : 200 < lb := by omega
        clear hn
        go_enter Tryz.func4, Tryz.ntmps4
        go_wp2_with fail
        refine (H5.out _ (Below.refl _ _)).mono ?_
        rintro e w5 ⟨rfl, hb5⟩
        go_wp2_with fail
        go_ret
        exact ⟨rfl, hb5⟩
end Go.Proofs.YtdpkhapcgbheeaaGreatDoor
