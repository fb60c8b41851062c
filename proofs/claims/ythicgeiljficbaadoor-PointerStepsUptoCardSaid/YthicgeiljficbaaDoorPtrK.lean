/- pointer.Escape. -/
import Derived.Test.YthicgeiljficbaaDoorPtrJ2
namespace Go.Proofs.YthicgeiljficbaaDoor
open Go.RowKit
set_option linter.unusedSimpArgs false
set_option linter.unusedVariables false
set_option linter.unnecessarySimpa false

def hexD (n : Nat) : UInt8 := ([48, 49, 50, 51, 52, 53, 54, 55, 56, 57, 65, 66, 67, 68, 69, 70] : List UInt8).getD n 0
/-- one byte as it is written -/
def esc1 (c : UInt8) : List UInt8 := if okC c then [c] else [37, hexD (c.toNat / 16), hexD (c.toNat % 16)]
def esc (l : List UInt8) : List UInt8 := l.flatMap esc1
theorem esc1_len (c : UInt8) : (esc1 c).length ≤ 3 := by unfold esc1; split <;> simp
theorem esc_len (l : List UInt8) : (esc l).length ≤ 3 * l.length := by
  unfold esc
  induction l with
  | nil => simp
  | cons c l ih => simp only [List.flatMap_cons, List.length_append, List.length_cons]; have := esc1_len c; omega
theorem esc_take (l : List UInt8) (k : Nat) (h : k < l.length) : esc (l.take (k + 1)) = esc (l.take k) ++ esc1 (l.getD k 0) := by
  have e : l.getD k 0 = l[k] := by simp [List.getD, h]
  rw [List.take_succ_eq_append_getElem h, e]
  unfold esc
  rw [List.flatMap_append]
  simp only [List.flatMap_cons, List.flatMap_nil, List.append_nil]
theorem But.cell {B b : Nat} {w w' : World} (h : But B b w w') {c o : Nat} (hc : c < B) (hne : c ≠ b) : w'.cell? ⟨c, o, none⟩ = w.cell? ⟨c, o, none⟩ := by
  unfold World.cell?
  rw [h.2.2 c hc hne]

/-- the hex digits, indexed -/
theorem hex_at (n : Nat) (h : n < (⟨#[48, 49, 50, 51, 52, 53, 54, 55, 56, 57, 65, 66, 67, 68, 69, 70]⟩ : ByteArray).size) : (⟨#[48, 49, 50, 51, 52, 53, 54, 55, 56, 57, 65, 66, 67, 68, 69, 70]⟩ : ByteArray)[n]'h = hexD n := by
  have h16 : n < 16 := h
  have : n = 0 ∨ n = 1 ∨ n = 2 ∨ n = 3 ∨ n = 4 ∨ n = 5 ∨ n = 6 ∨ n = 7 ∨ n = 8 ∨ n = 9 ∨ n = 10 ∨ n = 11 ∨ n = 12 ∨ n = 13 ∨ n = 14 ∨ n = 15 := by omega
  rcases this with rfl | rfl | rfl | rfl | rfl | rfl | rfl | rfl | rfl | rfl | rfl | rfl | rfl | rfl | rfl | rfl <;> rfl

set_option maxRecDepth 100000 in
set_option maxHeartbeats 2000000 in
theorem escape_l (l : List UInt8) (hl : l.length ≤ 67108864) (w : World) : Calls Tryd.prog 21 #[.string (str l)] w (New (.string (str (esc l))) w) := by
  obtain ⟨cap, W, hconv, hb, hlt, hc⟩ := conv_bytes (str l) (w.alloc (.cells #[.pointer none, .slice none 0 0] 71))
  rw [str_data] at hc
  rw [str_size] at hc hconv
  have HK0 := Lib.hid (Blk.call (Blk.new w [.pointer none, .slice none 0 0] 71) hb)
  have HB0 : Hid (Below w.heap.size w W) := ((Below.refl _ _).alloc (Nat.le_refl _) _).trans (hb.mono (by simp))
  have hsz : w.heap.size < W.heap.size := by have := hb.size; simp at this; omega
  have HC := Lib.hid hc
  clear hc hb
  obtain ⟨n, hn⟩ : ∃ n, l.length = n := ⟨_, rfl⟩
  rw [hn] at hl hconv
  have HN := Lib.hid hn
  clear hn
  go_enter Tryd.func21, Tryd.ntmps21
  go_wp2_with fail
  go_loopw [9] (fun i wr => ∃ k : Nat, k ≤ n ∧ i = .int .i64 k ∧ Hid (Bl2 W.heap.size w.heap.size (esc (l.take k)) wr) ∧ Hid (But W.heap.size w.heap.size W wr)) (fun i _ => n - (intOf i).toNat)
  case atStart => exact ⟨0, Nat.zero_le _, rfl, Bl2.nil HK0.out (.inl rfl) _, But.refl _ _ _⟩
  case round =>
    obtain ⟨k, hk, rfl, HL, HB⟩ := hrel
    have hzr := HB.out.2.1
    by_cases hlt2 : k < n
    · have hc0 := HC.out k (by rw [HN.out]; exact hlt2)
      have hcell : wr.cell? ⟨w.heap.size + 1, k, none⟩ = some (.int .u8 (l.getD k 0).toNat) := by
        rw [HB.out.cell (by simpa using hlt) (by omega)]
        simpa using hc0
      have het : Hid (esc (l.take (k + 1)) = esc (l.take k) ++ esc1 (l.getD k 0)) := esc_take l k (by rw [HN.out]; exact hlt2)
      have hel : (esc (l.take k)).length ≤ 201326592 := by
        have := esc_len (l.take k)
        rw [List.length_take] at this
        omega
      clear hc0
      generalize l.getD k 0 = c at *
      generalize esc (l.take k) = o at *
      have hcl := c.toNat_lt
      by_cases hok : okC c = true
      · have HP : ∀ w, Calls Tryd.prog 39 #[.int .u8 c.toNat] w (Ans (.bool true) w) := fun w => by rw [← hok]; exact plain_l c w
        have het2 : Hid (esc (l.take (k + 1)) = o ++ [c]) := by
          unfold Hid
          rw [het.out, esc1, if_pos hok]
        clear hok het
        go_wp2_with (first | (go_at_call 39; refine (HP _).mono ?_; rintro e w' ⟨rfl, rfl⟩) | (go_at_call 40; refine (writeByte_r W.heap.size w.heap.size o c _ hsz HL.out (by omega) hzr).mono ?_; rintro e w2 ⟨rfl, h2, hb2⟩; have H2 := Lib.hid h2; have HB2 := Lib.hid (HB.out.trans hb2); clear h2 hb2))
        go_roundw
        case measure => simp only [intOf]; omega
        case rel => exact ⟨k + 1, by omega, by go_num, by rw [het2.out]; exact H2.out, HB2.out⟩
      · have hok' : okC c = false := by simpa using hok
        have HP : ∀ w, Calls Tryd.prog 39 #[.int .u8 c.toNat] w (Ans (.bool false) w) := fun w => by rw [← hok']; exact plain_l c w
        have het2 : Hid (esc (l.take (k + 1)) = ((o ++ [37]) ++ [hexD (c.toNat / 16)]) ++ [hexD (c.toNat % 16)]) := by
          unfold Hid
          rw [het.out, esc1, hok']
          simp
        clear hok het hok'
        go_wp2_with (go_at_call 39; refine (HP _).mono ?_; rintro e w' ⟨rfl, rfl⟩)
        refine (writeByte_r W.heap.size w.heap.size o 37 _ hsz HL.out (by omega) hzr).mono ?_
        rintro e w2 ⟨rfl, h2, hb2⟩
        have hz2 := hb2.2.1
        have H2 := Lib.hid h2
        have HB2 := Lib.hid (HB.out.trans hb2)
        clear h2 hb2
        go_wp2_with fail
        rw [hex_at]
        refine (writeByte_r W.heap.size w.heap.size (o ++ [37]) (hexD (c.toNat / 16)) _ hsz H2.out (by simp; omega) (by omega)).mono ?_
        rintro e w3 ⟨rfl, h3, hb3⟩
        have hz3 := hb3.2.1
        have H3 := Lib.hid h3
        have HB3 := Lib.hid (HB2.out.trans hb3)
        clear h3 hb3
        go_wp2_with fail
        rw [hex_at]
        refine (writeByte_r W.heap.size w.heap.size ((o ++ [37]) ++ [hexD (c.toNat / 16)]) (hexD (c.toNat % 16)) _ hsz H3.out (by simp; omega) (by omega)).mono ?_
        rintro e w4 ⟨rfl, h4, hb4⟩
        have hz4 := hb4.2.1
        have H4 := Lib.hid h4
        have HB4 := Lib.hid (HB3.out.trans hb4)
        clear h4 hb4
        go_wp2_with fail
        go_roundw
        case measure => simp only [intOf]; omega
        case rel => exact ⟨k + 1, by omega, by go_num, by rw [het2.out]; exact H4.out, HB4.out⟩
    · obtain rfl : k = n := by omega
      have hf : Hid (esc (l.take k) = esc l) := by
        unfold Hid
        rw [List.take_of_length_le (by rw [HN.out]; omega)]
      go_wp2_with (go_at_call 41; refine (string_r _ _ _ _ HL.out hsz).mono ?_; rintro e w2 ⟨rfl, hb2⟩)
      go_ret
      refine ⟨by rw [hf.out]; rfl, ?_⟩
      exact (HB0.out.trans (HB.out.1.mono (Nat.le_refl _))).trans hb2
end Go.Proofs.YthicgeiljficbaaDoor
