/- strings.IndexAny at ":/", whatever the text. -/
import Derived.Test.YthicgeiljficbaaIdxA
namespace Go.Proofs.Ythicgeiljficbaa
open Go.RowKit
set_option linter.unusedSimpArgs false
set_option linter.unusedVariables false
set_option linter.unnecessarySimpa false

/-- the iterator laid behind w stands at place i; below it nothing has turned -/
def ItAt (w : World) (s : ByteArray) (i : Nat) (wx : World) : Prop := wx.heap[w.heap.size]? = some (.stringIter s i) ∧ Below w.heap.size w wx

theorem ItAt.start (w : World) (s : ByteArray) : ItAt w s 0 (w.iter s 0) :=
  ⟨by simp [World.iter_heap], (Below.refl _ _).alloc (Nat.le_refl _) _⟩

theorem ItAt.step {w : World} {s : ByteArray} {i : Nat} {wx : World} (h : ItAt w s i wx) (p : Nat) : ItAt w s p (wx.iterAt w.heap.size s p) := by
  refine ⟨Lib.iterAt_heap wx _ s i p h.1, h.2.os, h.2.tape, h.2.output, ?_, ?_⟩
  · have := h.2.size
    simpa [World.iterAt] using this
  · intro k hk
    have := h.2.block k hk
    rw [← this]
    simp only [World.iterAt]
    rw [Array.getElem?_setIfInBounds, if_neg (by omega)]

theorem ItAt.below {w : World} {s : ByteArray} {i : Nat} {wx wy : World} (h : ItAt w s i wx) (hb : Below wx.heap.size wx wy) : ItAt w s i wy := by
  have hlt : w.heap.size < wx.heap.size := (Array.getElem?_eq_some_iff.1 h.1).1
  exact ⟨(hb.block _ hlt).trans h.1, h.2.trans (hb.mono (by omega))⟩

/-- no byte below 128 that is in chars, up to i -/
theorem noAny_step {s : ByteArray} {chars : List UInt8} (hc : ∀ b, chars.contains b = true → b.toNat < 128) {i n : Nat} (h : Lib.NoAny s.data.toList chars i)
    (hn : ∀ j, i ≤ j → j < i + n → 128 ≤ (s.get! j).toNat) : Lib.NoAny s.data.toList chars (i + n) := by
  intro j b hj hb
  by_cases e : j < i
  · exact h j b e hb
  · have h1 := hn j (by omega) hj
    have h2 : s.get! j = b := by
      show s.data[j]! = b
      rw [← Array.getElem!_toList, List.getElem!_of_getElem? hb]
    rw [h2] at h1
    cases hcb : chars.contains b with
    | false => rfl
    | true => have := hc b hcb; omega

set_option maxRecDepth 100000 in
set_option maxHeartbeats 400000 in
theorem idxany_short (s : ByteArray) (h8 : s.size ≤ 8) (w : World) :
    Calls Try.prog 28 #[.string s, .string colsl] w (New (.int .i64 (Lib.indexAny s.data.toList [58, 47])) w) := by
  have hcs : ∀ b : UInt8, [58, 47].contains b = true → b.toNat < 128 := by
    intro b hb
    have : b = 58 ∨ b = 47 := by simpa using hb
    rcases this with rfl | rfl <;> decide
  have HC := Lib.hid hcs
  clear hcs
  have h8z : decide ((8 : Int) < (s.size : Int)) = false := decide_eq_false (by omega)
  generalize hcol : colsl = cl
  have hsz : Hid (cl.size = 2) := by subst hcol; exact rfl
  have hemp : cl.toList.isEmpty = false := by subst hcol; rw [Lib.toList_data]; rfl
  have HL : Hid (cl.data.toList = [58, 47]) := by subst hcol; exact rfl
  have hn1 : ((cl.size : Int) == 1) = false := by rw [hsz.out]; rfl
  have HCOL := Lib.hid hcol
  clear hcol
  go_enter Try.func28, Try.ntmps28
  go_wp2_with (go_at_call 42; refine (Try.strings_shouldUseASCIISet _ _).mono ?_; rintro e w' ⟨rfl, hw⟩; rw [hw, h8z])
  go_loopg [9, 10] s.size (fun g _ _ wx => ∃ i : Nat, i + g = s.size ∧ ItAt w s i wx ∧ Lib.NoAny s.data.toList [58, 47] i)
  case atStart => exact ⟨0, by omega, ItAt.start _ _, Lib.NoAny.zero _ _⟩
  case round =>
    obtain ⟨i, hig, hit, hno⟩ := hrel
    have HIT := Lib.hid hit
    have HN := Lib.hid hno
    clear hno hit
    cases gk with
    | zero =>
      obtain rfl : i = s.size := by omega
      have hnx := fun ty => Lib.run_next_end_at (P := Try.prog) wr w.heap.size s s.size ty HIT.out.1 (by omega)
      go_wp2
      go_ret
      exact ⟨by rw [Lib.indexAny_none (by rw [← Lib.size_eq]; exact HN.out)]; rfl, HIT.out.2⟩
    | succ g =>
      have hi : i < s.size := by omega
      rcases decode_step s i hi with ⟨ha, -⟩ | ⟨h1, hv, hk1, hk2, hall⟩
      · obtain ⟨x, hx⟩ : ∃ x : UInt8, s[i]'hi = x := ⟨_, rfl⟩
        have hxl : s.data.toList[i]? = some x := by rw [← hx]; exact Lib.data_getElem? s i hi
        have hx128 : x.toNat < 128 := by rw [← hx]; exact ha
        have hnx := fun ty => Lib.run_next_ascii_at (P := Try.prog) wr w.heap.size s i ty HIT.out.1 hi ha
        rw [hx] at hnx
        have Hx := Lib.hid hxl
        clear hxl hx ha
        have hcon := Lib.contains_iff_indexByte cl.data.toList x
        have hback : ((x.toNat : Int)).toNat.toUInt8 = x := by simp
        cases hin : cl.data.toList.contains x
        · rw [hin] at hcon
          have hlt : ¬ ((0 : Int) ≤ Lib.indexByte cl.data.toList x) := of_decide_eq_false hcon.symm
          have HIN := Lib.hid hin
          clear hcon hin
          go_wp2_with (go_at_call 41; refine (Try.strings_IndexRune_ascii _ _ _ (by omega) (by omega)).mono ?_; rintro e w' ⟨rfl, hw⟩; rw [hw, hback])
          go_roundg g
          case measure => omega
          case rel => exact ⟨i + 1, by omega, HIT.out.step _, HN.out.succ Hx.out (by rw [← HL.out]; exact HIN.out)⟩
        · rw [hin] at hcon
          have hge : (0 : Int) ≤ Lib.indexByte cl.data.toList x := of_decide_eq_true hcon.symm
          have HIN := Lib.hid hin
          clear hcon hin
          go_wp2_with (go_at_call 41; refine (Try.strings_IndexRune_ascii _ _ _ (by omega) (by omega)).mono ?_; rintro e w' ⟨rfl, hw⟩; rw [hw, hback])
          go_ret
          exact ⟨by rw [Lib.indexAny_hit HN.out Hx.out (by rw [← HL.out]; exact HIN.out)]; rfl, (HIT.out.step _).2⟩
      · have hnx := fun ty => Lib.run_next_any_at (P := Try.prog) wr w.heap.size s i ty HIT.out.1 hi
        have hstep := noAny_step HC.out HN.out hall
        have hIR := fun W => idxrune_hi _ (by omega) hv W
        rw [HCOL.out] at hIR
        generalize (Utf8.decode s i).1 = r at *
        generalize (Utf8.decode s i).2 = n at *
        have HIR := Lib.hid hIR
        have HST := Lib.hid hstep
        have HALL := Lib.hid hall
        clear hIR hstep hv hall
        go_wp2_with (go_at_call 41; refine (HIR.out _).mono ?_; rintro e w2 ⟨rfl, hb⟩)
        go_roundg (s.size - (i + n))
        case measure => omega
        case rel => exact ⟨i + n, by omega, (HIT.out.step _).below hb, HST.out⟩

theorem idxany_colsl (s : ByteArray) (hs : s.size < 4294967281) (w : World) :
    Calls Try.prog 28 #[.string s, .string colsl] w (New (.int .i64 (Lib.indexAny s.data.toList [58, 47])) w) := by
  by_cases h : s.size ≤ 8
  · exact idxany_short s h w
  · refine (Try.strings_IndexAny_long (fun _ => by kernel_rfl) s colsl w (by decide) (by omega) hs (by decide) ?_).mono ?_
    · intro j b hb
      have : b ∈ ([58, 47] : List UInt8) := List.mem_of_getElem? hb
      simp at this
      rcases this with rfl | rfl <;> decide
    · rintro e w' ⟨rfl, rfl⟩
      exact ⟨rfl, ((Below.refl _ _).alloc (Nat.le_refl _) _).alloc (by simp) _⟩
end Go.Proofs.Ythicgeiljficbaa
