/- pointer.plain: does a byte stand for itself? -/
import Derived.Test.YthicgeiljficbaaDoorPtrE
namespace Go.Proofs.YthicgeiljficbaaDoor
open Go.RowKit
set_option linter.unusedSimpArgs false
set_option linter.unusedVariables false
set_option linter.unnecessarySimpa false

/-- the bytes that stand for themselves, of which no letter and no digit -/
def others : List UInt8 := [45, 46, 95, 126, 33, 36, 38, 39, 40, 41, 42, 43, 44, 59, 61, 58, 64, 47, 63]
def low (c : Int) : Int := bits BinOp.or IntKind.u8 c 32
def plC (c : Int) : Bool := (decide (48 ≤ c) && decide (c ≤ 57)) || (decide (97 ≤ low c) && decide (low c ≤ 122) && decide (c < 128)) || decide (0 ≤ Lib.indexByte others c.toNat.toUInt8)

set_option maxHeartbeats 1000000 in
theorem plain_any (c : Int) (w : World) :
    Calls Tryd.prog 39 #[.int .u8 c] w (Ans (.bool (plC c)) w) := by
  have hi : ∀ l : List UInt8, (⟨#[45, 46, 95, 126, 33, 36, 38, 39, 40, 41, 42, 43, 44, 59, 61, 58, 64, 47, 63]⟩ : ByteArray).data.toList = others := fun _ => rfl
  go_enter Tryd.func39, Tryd.ntmps39
  go_wp2_with (first | (go_at_call 58; refine (Tryd.strings_IndexByte _ _ _).mono ?_; rintro e w' ⟨rfl, hw⟩; rw [hw]))
  all_goals go_ret
  all_goals refine ⟨ret_bool ?_, rfl⟩
  all_goals unfold plC low
  all_goals (by_cases h1 : 48 ≤ c <;> by_cases h2 : c ≤ 57 <;> by_cases h3 : 97 ≤ bits BinOp.or IntKind.u8 c 32 <;> by_cases h4 : bits BinOp.or IntKind.u8 c 32 ≤ 122 <;> by_cases h5 : c < 128 <;> first | (exfalso; omega) | (simp [h1, h2, h3, h4, h5, others]; done))
def okC (c : UInt8) : Bool := plC c.toNat
theorem plain_l (c : UInt8) (w : World) : Calls Tryd.prog 39 #[.int .u8 c.toNat] w (Ans (.bool (okC c)) w) := plain_any _ _
/-- what holds of the 256 bytes holds of each -/
theorem all_bytes {p : UInt8 → Prop} (h : ∀ n : Fin 256, p (UInt8.ofNat n)) (c : UInt8) : p c := by
  have := h ⟨c.toNat, c.toNat_lt⟩
  simpa using this
set_option maxRecDepth 100000 in
theorem okC_range (c : UInt8) : okC c = true → (32 < c ∧ c ≤ 126 ∧ c ≠ 37) := by
  refine all_bytes (p := fun c => okC c = true → (32 < c ∧ c ≤ 126 ∧ c ≠ 37)) ?_ c
  decide +kernel
end Go.Proofs.YthicgeiljficbaaDoor
