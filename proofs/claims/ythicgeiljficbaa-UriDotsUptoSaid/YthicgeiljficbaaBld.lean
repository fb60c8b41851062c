/- A strings.Builder of the call's own that holds a list of bytes. -/
import Derived.Test.YthicgeiljficbaaBlk
import Derived.Test.YthicgeiljficbaaShelf
import Derived.Shelf.Strings.BuilderK
namespace Go.Proofs.Ythicgeiljficbaa
open Go.RowKit
set_option linter.unusedSimpArgs false
set_option linter.unusedVariables false
set_option linter.unnecessarySimpa false

/-- the Builder in block b holds the bytes l; what is its own lies from block B on -/
def Bld (B b : Nat) (l : List UInt8) (w : World) : Prop := Lib.IsBuilderF 48 5 B b (Lib.byteCells l) w

theorem Bld.fresh (w : World) : Bld w.heap.size w.heap.size [] (w.alloc (.cells #[.pointer none, .slice none 0 0] 48)) := by
  refine .inl ⟨Nat.le_refl _, .slice none 0 0, ?_, ?_, ?_⟩
  · have := Blk.new w [.pointer none, .slice none 0 0] 48
    exact this
  · exact World.ownsRowF_of (World.ownsRow_nil _ _ _ _)
  · simp [Value.ownBlock]

theorem Bld.alloc {B b : Nat} {l : List UInt8} {w : World} (h : Bld B b l w) (o : Obj) : Bld B b l (w.alloc o) := Lib.IsBuilderF.alloc h o

theorem writeString_l (B b : Nat) (l s : List UInt8) (w : World) (h : Bld B b l w) (hlen : l.length + s.length ≤ 140737488355328) (hBw : B ≤ w.heap.size) :
    Calls Try.prog 25 #[.pointer (some ⟨b, 0, none⟩), .string (str s)] w fun e w' => e = .returned (.tuple #[.int .i64 s.length, .nilIface]) ∧ Bld B b (l ++ s) w' ∧ Below B w w' ∧ Lib.OthersKept 5 (some b) w w' := by
  refine (Any.Builder_WriteString_k { Try.lays156 with } Try.Builder_Extra_156 B b (Lib.byteCells l) (str s) w h ?_ hBw).mono ?_
  · rw [Lib.byteCells_length, str_size]; exact hlen
  · rintro e w' ⟨rfl, h1, h2, h3⟩
    refine ⟨?_, ?_, h2, h3⟩
    · rw [str_size]
    · refine .inr ?_
      rw [Lib.byteCells_append]
      rw [Lib.strCells_eq, str_data] at h1
      exact h1

theorem string_l (B b : Nat) (l : List UInt8) (w : World) (h : Bld B b l w) (hBw : B ≤ w.heap.size) :
    Calls Try.prog 26 #[.pointer (some ⟨b, 0, none⟩)] w fun e w' => e = .returned (.string (str l)) ∧ Below B w w' :=
  (Any.Builder_String_any_k { Try.lays156 with } Try.Builder_Extra_156 B b l w h hBw).mono fun _ _ h => ⟨h.1, h.2.2.1⟩

/-- a row of another type than bytes, behind a write -/
theorem Blk.kept {W W' : World} {k b : Nat} {cs : List Value} {T : TypeId} (h : Blk W k cs T) (hk : Lib.OthersKept 5 (some b) W W') (hb : k ≠ b) (hT : T ≠ 5) : Blk W' k cs T :=
  hk k _ h (fun e => hb (Option.some.inj e)) (fun c fz e => hT (by injection e))
end Go.Proofs.Ythicgeiljficbaa
