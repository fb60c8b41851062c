/- (*strings.Builder).WriteByte, walked: with a frame that keeps other rows of bytes, too. -/
import Derived.Test.YthicgeiljficbaaDoorPtrJ
namespace Go.Proofs.YthicgeiljficbaaDoor
open Go.RowKit Go.Shelf
set_option linter.unusedSimpArgs false
set_option linter.unusedVariables false
set_option linter.unnecessarySimpa false

/-- the Builder in block b holds the bytes l; its row lies from block B on -/
def Bl2 (B b : Nat) (l : List UInt8) (w : World) : Prop :=
  ∃ p v, (p = .pointer none ∨ p = .pointer (some ⟨b, 0, none⟩)) ∧ Blk w b [p, v] 71 ∧ w.ownsRow B 5 1 v l.length (byts l)
/-- what lies below block B, but for block b, is as it was; what lies below b, too -/
def But (B b : Nat) (w w' : World) : Prop := Below b w w' ∧ w.heap.size ≤ w'.heap.size ∧ ∀ k, k < B → k ≠ b → w'.heap[k]? = w.heap[k]?
theorem But.refl (B b : Nat) (w : World) : But B b w w := ⟨Below.refl _ _, Nat.le_refl _, fun _ _ _ => rfl⟩
theorem But.trans {B b : Nat} {w w1 w2 : World} (h : But B b w w1) (k : But B b w1 w2) : But B b w w2 :=
  ⟨h.1.trans k.1, Nat.le_trans h.2.1 k.2.1, fun i hi hb => (k.2.2 i hi hb).trans (h.2.2 i hi hb)⟩
theorem But.blk {B b c : Nat} {w w' : World} {cs : List Value} {T : TypeId} (h : But B b w w') (hk : Blk w c cs T) (hc : c < B) (hne : c ≠ b) : Blk w' c cs T := (h.2.2 c hc hne).trans hk

theorem copyCheck_l (b : Nat) (p v : Value) (w : World) (hp : p = .pointer none ∨ p = .pointer (some ⟨b, 0, none⟩)) (hb : Blk w b [p, v] 71) :
    Calls Tryd.prog 59 #[.pointer (some ⟨b, 0, none⟩)] w fun e w' => e = .returned (.tuple #[]) ∧ Blk w' b [.pointer (some ⟨b, 0, none⟩), v] 71 ∧ (w' = w ∨ w' = w.setCell ⟨b, 0, none⟩ (.pointer (some ⟨b, 0, none⟩))) := by
  rcases hp with rfl | rfl
  · refine (Any.Builder_copyCheck_fresh (ρ := renW) { laysW with } extraW.toX72 b w (hb.cell 0) hb.shape (hb.froz 0)).mono ?_
    rintro e w' ⟨rfl, rfl⟩
    exact ⟨rfl, hb.set 0 _, .inr rfl⟩
  · refine (Any.Builder_copyCheck_used (ρ := renW) { laysW with } extraW.toX72 b w (hb.cell 0)).mono ?_
    rintro e w' ⟨rfl, rfl⟩
    exact ⟨rfl, hb, .inl rfl⟩
theorem heap_aside (w : World) (ad : Addr) (x : Value) (k : Nat) (h : k ≠ ad.block) : (w.setCell ad x).heap[k]? = w.heap[k]? := Below.heap_setCell _ _ _ _ h
theorem ownsRow_call {w w' : World} {B : Nat} {e : TypeId} {size : Nat} {v : Value} {n : Nat} {xs : List Value} (h : w.ownsRow B e size v n xs) (hb : Below w.heap.size w w') : w'.ownsRow B e size v n xs := by
  refine ⟨h.1, h.2.imp id ?_⟩
  rintro ⟨g, cap, cur, hv, hg, hh, h3⟩
  have hlt : g < w.heap.size := (Array.getElem?_eq_some_iff.1 hh).1
  exact ⟨g, cap, cur, hv, hg, (hb.block _ hlt).trans hh, h3⟩
theorem ownsRow_shape {w : World} {B : Nat} {e : TypeId} {size : Nat} {v : Value} {n : Nat} {xs : List Value} (h : w.ownsRow B e size v n xs) : ∃ a cap, v = .slice a n cap ∧ n ≤ cap := by
  rcases h.2 with ⟨rfl, rfl⟩ | ⟨g, cap, cur, rfl, _, _, h3, _⟩
  · exact ⟨none, 0, rfl, Nat.le_refl _⟩
  · exact ⟨_, cap, rfl, h3⟩

set_option maxRecDepth 100000 in
set_option maxHeartbeats 2000000 in
theorem writeByte_r (B b : Nat) (l : List UInt8) (c : UInt8) (w : World) (hbB : b < B) (h : Bl2 B b l w) (hl : l.length ≤ 1073741824) (hB : B ≤ w.heap.size) :
    Calls Tryd.prog 40 #[.pointer (some ⟨b, 0, none⟩), .int .u8 c.toNat] w fun e w' => e = .returned .nilIface ∧ Bl2 B b (l ++ [c]) w' ∧ But B b w w' := by
  obtain ⟨i0, hi, hy0, hy1, hy2⟩ := info_parts info_byte
  obtain ⟨p, v, hp, hk, hr⟩ := h
  have HK : Calls Tryd.prog 59 #[.pointer (some ⟨b, 0, none⟩)] w fun e w1 => e = .returned (.tuple #[]) ∧ Blk w1 b [.pointer (some ⟨b, 0, none⟩), v] 71 ∧ w1.ownsRow B 5 1 v l.length (byts l) ∧ But B b w w1 := by
    refine (copyCheck_l b p v w hp hk).mono ?_
    rintro e w1 ⟨rfl, hk1, rfl | rfl⟩
    · exact ⟨rfl, hk1, hr, But.refl _ _ _⟩
    · exact ⟨rfl, hk1, ownsRow_setCell_below hr (a := ⟨b, 0, none⟩) hbB _, (Below.refl b w).setCell (p := ⟨b, 0, none⟩) (Nat.le_refl _) _, by simp, fun k _ h => heap_aside _ _ _ _ h⟩
  clear hr hk hp
  go_enter Tryd.func40, Tryd.ntmps40
  go_wp2_with (first | (go_at_call 59; refine HK.mono ?_; rintro e w1 ⟨rfl, hk1, hr1, hb1⟩; have hc1 := hk1.cell 1; have hc0 := hk1.cell 0; have hz1 := hb1.2.1; have HR1 := Lib.hid hr1; have HB1 := Lib.hid hb1; have HK1 := Lib.hid hk1; clear hr1 hb1 hk1) | (at_builtin; refine wpList_append_own _ rfl _ _ 51 rfl B 5 i0 (.int .u8 0) 1 1 Tryd.underlying51 hi hy0 hy1 hy2 rfl (by decide) _ _ _ rfl (HR1.out.alloc _) ⟨w1.heap.size, 0, none⟩ 1 1 [.int .u8 c.toNat] rfl rfl ?c1 ?c2 ?c3 ?c4 ?c5 ?c6))
  case c1 => exact cell_one_new _ _ _
  case c2 => intro u hu; simp at hu; subst hu; rfl
  case c3 => unfold maxLen; omega
  case c4 => omega
  case c5 => simp; omega
  case c6 =>
    intro v6 w6 hown hg _
    have hB1 : Below w1.heap.size w1 (w1.alloc (Obj.cells #[Value.int IntKind.u8 c.toNat] 5)) := (Below.refl _ _).alloc (Nat.le_refl _) _
    have hb : Below B (w1.alloc (Obj.cells #[Value.int IntKind.u8 c.toNat] 5)) w6 := (Below.refl _ _).grown hg (by simp; omega) (fun k hk => (HR1.out.lt k hk).1)
    have HK6 : Hid (Blk w6 b [.pointer (some ⟨b, 0, none⟩), v] 71) := (HK1.out.alloc _).below hb hbB
    have hc6 : w6.cell? ⟨b, 1, none⟩ = some v := HK6.out.cell 1
    obtain ⟨a6, cap6, rfl, -⟩ := ownsRow_shape hown
    have hf6 := HK6.out.froz 1
    have hs6 := HK6.out.shape
    have HB6 : Hid (But B b w w6) := HB1.out.trans ⟨((hB1.mono (by have := HK1.out.lt; omega)).trans (hb.mono (by omega))), Nat.le_trans (by simp) hb.size, fun k hk _ => (hb.block _ hk).trans (hB1.block _ (by omega))⟩
    have HR6 := Lib.hid hown
    clear hown hb hg hB1 hc1 hc0
    go_wp2_with fail
    go_ret
    refine ⟨rfl, ⟨_, _, .inr rfl, HK6.out.set 1 _, ?_⟩, HB6.out.trans ⟨(Below.refl b w6).setCell (p := ⟨b, 1, none⟩) (Nat.le_refl _) _, by simp, fun k _ h => heap_aside _ _ _ _ h⟩⟩
    have := ownsRow_setCell_below HR6.out (a := ⟨b, 1, none⟩) hbB (.slice a6 (l.length + 1) cap6)
    rw [byts_append, List.length_append]
    exact this

theorem Bl2.fresh (w : World) (B : Nat) : Bl2 B w.heap.size [] (w.alloc (.cells #[.pointer none, .slice none 0 0] 71)) :=
  ⟨_, _, .inl rfl, Blk.new w [.pointer none, .slice none 0 0] 71, World.ownsRow_nil _ _ _ _⟩
theorem Bl2.call {B b : Nat} {l : List UInt8} {w w' : World} (h : Bl2 B b l w) (hb : Below w.heap.size w w') : Bl2 B b l w' := by
  obtain ⟨p, v, hp, hk, hr⟩ := h
  exact ⟨p, v, hp, hk.call hb, ownsRow_call hr hb⟩
/-- the base under the Builder's block raised -/
theorem Bl2.nil {b : Nat} {w : World} {p : Value} (h : Blk w b [p, .slice none 0 0] 71) (hp : p = .pointer none ∨ p = .pointer (some ⟨b, 0, none⟩)) (B : Nat) : Bl2 B b [] w := ⟨p, _, hp, h, World.ownsRow_nil _ _ _ _⟩
theorem byts_cells (l : List UInt8) : byts l = Lib.byteCells l := rfl
theorem string_r (B b : Nat) (l : List UInt8) (w : World) (h : Bl2 B b l w) (hbB : b < B) :
    Calls Tryd.prog 41 #[.pointer (some ⟨b, 0, none⟩)] w fun e w' => e = .returned (.string (str l)) ∧ Below b w w' := by
  obtain ⟨p, v, hp, hk, hr⟩ := h
  have hl := hk.lt
  have hat : Lib.BuilderAtF 71 5 b b p (Lib.byteCells l) w := by
    refine ⟨Nat.le_refl _, v, hk, ?_, ?_⟩
    · rw [← byts_cells, show (byts l).length = l.length by simp [byts]]
      exact World.ownsRowF_of ⟨hr.1, hr.2.imp id fun ⟨g, cap, cur, hv, hg, h3⟩ => ⟨g, cap, cur, hv, by omega, h3⟩⟩
    · intro hv
      have := (hr.lt b hv).1
      omega
  refine (Tryd.Builder_String_any_k b b l w ?_ (by omega)).mono fun _ _ h => ⟨h.1, h.2.2.1⟩
  rcases hp with rfl | rfl
  · exact .inl hat
  · exact .inr hat
end Go.Proofs.YthicgeiljficbaaDoor
