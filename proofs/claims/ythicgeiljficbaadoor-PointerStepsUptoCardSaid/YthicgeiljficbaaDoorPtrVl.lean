/- Is a text valid? (caliperref06.valid) -/
import Derived.Test.YthicgeiljficbaaDoorPtrU
import Derived.Test.YthicgeiljficbaaDoorPtrV
namespace Go.Proofs.YthicgeiljficbaaDoor
open Go.RowKit
set_option maxHeartbeats 1000000 in
theorem valid_b (s : ByteArray) (hs : s.size ≤ 67108864) (w : World) : Calls Tryd.prog 49 #[.string s] w fun e w' => e = .returned (.bool (utfB s.data.toList)) ∧ Below w.heap.size w w' := by
  obtain ⟨cap, W', h1, h2, h3⟩ := conv_good s.data.toList hs w
  rw [str_self] at h1
  have HB := Lib.hid h2
  have HG := Lib.hid h3
  clear h2 h3
  generalize utfB s.data.toList = b at *
  go_enter Tryd.func49, Tryd.ntmps49
  go_wp2_with fail
  refine HG.out.mono ?_
  rintro e w' ⟨hb, n, rfl⟩
  go_wp2_with fail
  go_ret
  exact ⟨rfl, hb⟩
end Go.Proofs.YthicgeiljficbaaDoor
