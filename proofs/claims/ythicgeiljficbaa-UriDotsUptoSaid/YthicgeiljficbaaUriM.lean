/- Package uri over lists of bytes: Join; the examples of the law's heads. -/
import Derived.Test.YthicgeiljficbaaUriL
namespace Go.Proofs.Ythicgeiljficbaa
open Go.RowKit
set_option linter.unusedSimpArgs false
set_option linter.unusedVariables false
set_option linter.unnecessarySimpa false

theorem parseL_len (l : List UInt8) : UZ l.length (parseL l).1 := by
  unfold parseL
  split
  · exact cutU_le l
  · exact ⟨Nat.zero_le _, Nat.zero_le _, Nat.zero_le _, Nat.zero_le _, Nat.zero_le _⟩

theorem join_any (base l : List UInt8) (hb : base.length ≤ 134217728) (hl : l.length ≤ 134217728) (w : World) :
    Calls Try.prog 6 #[.string (str base), .string (str l)] w (New (.tuple #[.string (str (joinL base l).1), .int .i64 (joinL base l).2]) w) := by
  have CB := parse_is base (by omega)
  have CS := parse_is l (by omega)
  have CA : AbsIs base (absL base) := fun w => abs_any base (by omega) w
  have h1 : UZ 134217728 (parseL base).1 := by
    obtain ⟨a1, a2, a3, a4, a5⟩ := parseL_len base
    exact ⟨by omega, by omega, by omega, by omega, by omega⟩
  have h2 : UZ 134217728 (parseL l).1 := by
    obtain ⟨a1, a2, a3, a4, a5⟩ := parseL_len l
    exact ⟨by omega, by omega, by omega, by omega, by omega⟩
  have h3 := resolveU_len h1 h2
  have CR : ResIs (parseL base).1 (parseL l).1 (resolveU (parseL base).1 (parseL l).1) := fun w => resolve_any _ _ (by have := h1.2.2.1; omega) (by have := h2.2.2.1; omega) w
  have CT : TextIs (resolveU (parseL base).1 (parseL l).1) (textU (resolveU (parseL base).1 (parseL l).1)) := fun w => text_any _ (by obtain ⟨a1, a2, a3, a4, a5⟩ := h3; exact ⟨by omega, by omega, by omega, by omega, by omega⟩) w
  have e : Value.tuple #[.string (str (joinL base l).1), .int .i64 (joinL base l).2] = if (parseL l).2 == 0 && absL base then .tuple #[.string (str (textU (resolveU (parseL base).1 (parseL l).1))), .int .i64 0] else .tuple #[.string ⟨#[]⟩, .int .i64 80] := by
    unfold joinL joinU
    split <;> rfl
  rw [e]
  generalize textU (resolveU (parseL base).1 (parseL l).1) = t at *
  generalize resolveU (parseL base).1 (parseL l).1 = r at *
  generalize parseL base = b at *
  generalize parseL l = u at *
  obtain ⟨⟨bs, ba, bp, bq, bf, bha, bhq, bhf⟩, e1⟩ := b
  obtain ⟨⟨s, a, pa, q, f, ha, hq, hf⟩, e2⟩ := u
  exact join_core base l bs ba bp bq bf s a pa q f bha bhq bhf ha hq hf (absL base) e1 e2 r t CB CS CA CR CT w

def headBase : List UInt8 := [104, 116, 116, 112, 58, 47, 47, 97, 47, 98, 47, 99, 47, 100, 59, 112, 63, 113]
def headRefs : List (List UInt8) := [[103], [46, 46, 47, 46, 46, 47, 103], [63, 121], [35, 115], [47, 47, 103], [103, 58, 104], [], [46, 47], [46, 46], [46, 46, 47, 46, 46, 47, 46, 46, 47, 103], [103, 59, 120, 61, 49, 47, 46, 46, 47, 121], [47, 46, 47, 103]]
def headWant : List (List UInt8) := [[104, 116, 116, 112, 58, 47, 47, 97, 47, 98, 47, 99, 47, 103], [104, 116, 116, 112, 58, 47, 47, 97, 47, 103], [104, 116, 116, 112, 58, 47, 47, 97, 47, 98, 47, 99, 47, 100, 59, 112, 63, 121], [104, 116, 116, 112, 58, 47, 47, 97, 47, 98, 47, 99, 47, 100, 59, 112, 63, 113, 35, 115], [104, 116, 116, 112, 58, 47, 47, 103], [103, 58, 104], [104, 116, 116, 112, 58, 47, 47, 97, 47, 98, 47, 99, 47, 100, 59, 112, 63, 113], [104, 116, 116, 112, 58, 47, 47, 97, 47, 98, 47, 99, 47], [104, 116, 116, 112, 58, 47, 47, 97, 47, 98, 47], [104, 116, 116, 112, 58, 47, 47, 97, 47, 103], [104, 116, 116, 112, 58, 47, 47, 97, 47, 98, 47, 99, 47, 121], [104, 116, 116, 112, 58, 47, 47, 97, 47, 103]]
theorem heads_join : ((List.range 12).all fun k => joinL headBase (headRefs.getD k []) == (headWant.getD k [], (0 : Int))) = true := by decide +kernel
theorem heads_parse : parseL [97, 32, 98] = (uzero, 80) := by decide +kernel
theorem heads_dots : dotsL [47, 97, 47, 98, 47, 99, 47, 46, 47, 46, 46, 47, 46, 46, 47, 103] = [47, 97, 47, 103] := by decide +kernel

theorem heads_is (k : Nat) (hk : k < 12) (w : World) :
    Calls Try.prog 6 #[.string ⟨#[104, 116, 116, 112, 58, 47, 47, 97, 47, 98, 47, 99, 47, 100, 59, 112, 63, 113]⟩, .string (str (headRefs.getD k []))] w (New (.tuple #[.string (str (headWant.getD k [])), .int .i64 0]) w) := by
  have h := List.all_eq_true.1 heads_join k (List.mem_range.2 hk)
  have h2 : joinL headBase (headRefs.getD k []) = (headWant.getD k [], (0 : Int)) := by simpa using h
  have hlen : ((List.range 12).all fun k => decide ((headRefs.getD k []).length ≤ 100)) = true := by decide +kernel
  have h3 := List.all_eq_true.1 hlen k (List.mem_range.2 hk)
  have h4 : (headRefs.getD k []).length ≤ 100 := of_decide_eq_true h3
  have := join_any headBase (headRefs.getD k []) (by decide) (by omega) w
  rw [h2] at this
  exact this

theorem cell_strs {W : World} {b : Nat} {xs : List (List UInt8)} (h : Blk W b (strs xs) 9) (k : Nat) (hk : k < xs.length) : W.cell? ⟨b, k, none⟩ = some (.string (str (xs.getD k []))) := by
  rw [h.cell]
  simp [strs, hk]

set_option maxRecDepth 100000 in
set_option maxHeartbeats 2000000 in
theorem heads_any (w : World) : Calls Try.prog 7 #[] w (New (.bool true) w) := by
  have HJ := Lib.hid heads_is
  have HP : Hid (ParseIs [97, 32, 98] uzero 80) := by
    have := parse_is [97, 32, 98] (by decide)
    rw [heads_parse] at this
    exact this
  have HD : Hid (∀ w, Calls Try.prog 9 #[.string (str [47, 97, 47, 98, 47, 99, 47, 46, 47, 46, 46, 47, 46, 46, 47, 103])] w (New (.string (str [47, 97, 47, 103])) w)) := by
    intro w
    have := dots_any [47, 97, 47, 98, 47, 99, 47, 46, 47, 46, 46, 47, 46, 46, 47, 103] (by decide) w
    rw [heads_dots] at this
    exact this
  go_enter Try.func7, Try.ntmps7
  go_wp2_with fail
  go_loopw [3, 4, 5] (fun i _ _ wr => ∃ k : Nat, k ≤ 12 ∧ i = .int .i64 k ∧ Hid (Blk wr w.heap.size (strs headRefs) 9) ∧ Hid (Blk wr (w.heap.size + 1) (strs headWant) 9) ∧ Hid (Below w.heap.size w wr)) (fun i _ _ _ => 12 - (intOf i).toNat)
  case atStart =>
    refine ⟨0, by omega, rfl, ?_, ?_, ?_⟩
    · exact (Blk.new w (strs headRefs) 9).alloc _
    · have := Blk.new (w.alloc (.cells (strs headRefs).toArray 9)) (strs headWant) 9
      rw [World.size_alloc] at this
      exact this
    · exact ((Below.refl _ _).alloc (Nat.le_refl _) _).alloc (by simp) _
  case round =>
    obtain ⟨k, hk, rfl, HR, HW, HB⟩ := hrel
    have hsz := HB.out.size
    by_cases hlt : k < 12
    · have c1 := cell_strs HR.out k hlt
      have HJk := Lib.hid (HJ.out k hlt)
      generalize headRefs.getD k [] = r at *
      have HWk := Lib.hid (fun W (h : Blk W (w.heap.size + 1) (strs headWant) 9) => cell_strs h k hlt)
      generalize headWant.getD k [] = t at *
      go_wp2_with (go_at_call 6; refine (HJk.out _).mono ?_; rintro e w1 ⟨rfl, hb⟩; have R1 := HR.out.call hb; have W1 := HW.out.call hb; have B1 := RowKit.Below.call HB.out hb hsz; have c2 := HWk.out _ W1; have HR1 := Lib.hid R1; have HW1 := Lib.hid W1; have HB1 := Lib.hid B1; clear hb R1 W1 B1)
      go_roundw
      case measure => simp only [intOf]; omega
      case rel => exact ⟨k + 1, by omega, by go_num, HR1.out, HW1.out, HB1.out⟩
    · obtain rfl : k = 12 := by omega
      unfold ParseIs uval uzero at HP
      go_wp2_with (first
        | (go_at_call 8; refine (HP.out _).mono ?_; rintro e w1 ⟨rfl, hb⟩; have B1 := RowKit.Below.call HB.out hb hsz; have hz1 := B1.size; have HB1 := Lib.hid B1; clear hb B1)
        | (go_at_call 9; refine (HD.out _).mono ?_; rintro e w2 ⟨rfl, hb⟩; have B2 := RowKit.Below.call (HB1.out.alloc hz1 _) hb (by simp; omega); have HB2 := Lib.hid B2; clear hb B2))
      go_ret
      exact ⟨ret_bool (a := (str [47, 97, 47, 103]).toList == [47, 97, 47, 103]) (by rw [str_toList]; rfl), HB2.out⟩
end Go.Proofs.Ythicgeiljficbaa
