/- A slice of texts among the arguments: its capacity. -/
import Derived.Test.YthicgeiljficbaaDoorPtrRow
namespace Go.Proofs.YthicgeiljficbaaDoor
open Go.ChangeShapes Go.WideShapes Go.ChangeAt Go.RowKit Go.Deep
theorem cap_of {H : Type} {enc : TypeId × Value → H} {W : World} {base : Nat} {held : Bool} {fuel : Nat} {v : Value} {d : DataW H} {p : List MemPlace}
    (h : DataW.trod enc Tryd.prog W base (fun _ => true) held fuel 26 [v] = some (d, p)) : ∀ a n cap, v = .slice a n cap → n ≤ cap := by
  rintro a n cap rfl
  rcases open_strs Tryd.underlying26 Tryd.underlying9 cells_str h with ⟨hc, hx⟩ | ⟨a, len, cap, m, Sx, hc, hb, hl, hm, hmm, hx, hcell⟩
  · cases hc; exact Nat.le_refl _
  · cases hc; exact hl
end Go.Proofs.YthicgeiljficbaaDoor
