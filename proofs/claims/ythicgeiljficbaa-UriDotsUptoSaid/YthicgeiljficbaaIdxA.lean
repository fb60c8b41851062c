/- strings.IndexRune of a rune that is no ASCII in ":/"; strings.IndexAny at ":/", whatever the text. -/
import Derived.Test.YthicgeiljficbaaStrA
import Derived.Deep.LoopGhost
import Derived.Laws.RangeAny
import Derived.Lib.OthersKept
namespace Go.Proofs.Ythicgeiljficbaa
open Go.RowKit
set_option linter.unusedSimpArgs false
set_option linter.unusedVariables false
set_option linter.unnecessarySimpa false

/-- ":/" -/
def colsl : ByteArray := ⟨#[58, 47]⟩

theorem encode_two (r : Int) (h0 : 128 ≤ r) (h1 : r < 2048) : ∃ a b : UInt8, Utf8.encode r = ⟨#[a, b]⟩ ∧ 128 ≤ b.toNat := by
  refine ⟨UInt8.ofNat (0xC0 + r.toNat / 64), UInt8.ofNat (0x80 + r.toNat % 64), ?_, ?_⟩
  · have hv : Utf8.valid r = true := by simp [Utf8.valid]; omega
    unfold Utf8.encode
    simp only [hv, if_true]
    rw [if_neg (by omega), if_pos (by omega)]
  · rw [UInt8.toNat_ofNat']
    omega

theorem encode_more (r : Int) (h0 : 2048 ≤ r) (hv : Utf8.valid r = true) : ∃ n, (Utf8.encode r).size = n + 3 ∧ n ≤ 1 := by
  unfold Utf8.encode
  simp only [hv, if_true]
  rw [if_neg (by omega), if_neg (by omega)]
  split
  · exact ⟨0, rfl, by omega⟩
  · exact ⟨1, rfl, by omega⟩

set_option maxRecDepth 100000 in
set_option maxHeartbeats 400000 in
theorem idxrune_err (w : World) : Calls Try.prog 41 #[.string colsl, .int .i32 65533] w (New (.int .i64 (-1)) w) := by
  unfold colsl
  go_enter Try.func41, Try.ntmps41
  go_wp2_with fail
  go_loopg [5, 6] 2 (fun g _ _ wx => ∃ i : Nat, i + g = 2 ∧ wx = w.iter ⟨#[58, 47]⟩ i)
  case atStart => exact ⟨0, by omega, rfl⟩
  case round =>
    obtain ⟨i, hig, rfl⟩ := hrel
    cases gk with
    | zero =>
      obtain rfl : i = 2 := by omega
      have hnx := run_next_end (P := Try.prog) w ⟨#[58, 47]⟩ 2
      go_wp2
      go_ret
      exact ⟨rfl, (Below.refl _ _).alloc (Nat.le_refl _) _⟩
    | succ g =>
      have hi : i < 2 := by omega
      have hc : i = 0 ∨ i = 1 := by omega
      rcases hc with rfl | rfl
      · have hnx := fun ty => run_next_ascii (P := Try.prog) w ⟨#[58, 47]⟩ 0 ty (by decide) (by decide)
        go_wp2
        go_roundg g
        case measure => omega
        case rel => exact ⟨1, by omega, rfl⟩
      · have hnx := fun ty => run_next_ascii (P := Try.prog) w ⟨#[58, 47]⟩ 1 ty (by decide) (by decide)
        go_wp2
        go_roundg g
        case measure => omega
        case rel => exact ⟨2, by omega, rfl⟩

theorem validRune_of (r : Int) (h0 : 128 ≤ r) (hv : Utf8.valid r = true) : Lib.validRune r = true := by
  simp [Utf8.valid] at hv
  simp [Lib.validRune]
  omega

theorem idxbyte_empty (c : Int) (w : World) : Calls Try.prog 22 #[.string ByteArray.empty, .int .u8 c] w fun e w' => e = .returned (.int .i64 (-1)) ∧ w' = w :=
  Try.strings_IndexByte ByteArray.empty c w

set_option maxRecDepth 100000 in
set_option maxHeartbeats 400000 in
theorem idxrune_two (r : Int) (h0 : 128 ≤ r) (h1 : r < 2048) (w : World) : Calls Try.prog 41 #[.string colsl, .int .i32 r] w (New (.int .i64 (-1)) w) := by
  unfold colsl
  have hV : Hid (Lib.validRune r = true) := validRune_of r h0 (by simp [Utf8.valid]; omega)
  have hne : (r == 65533) = false := by
    have : ¬ r = 65533 := by omega
    simpa using this
  have hl : decide (r < 128) = false := by simpa using h0
  obtain ⟨a, b, he, hb⟩ := encode_two r h0 h1
  have hne2 : ((((⟨#[58, 47]⟩ : ByteArray)[1]'(by show 1 < 2; omega)).toNat : Int) != (((⟨#[a, b]⟩ : ByteArray)[1]'(by show 1 < 2; omega)).toNat : Int)) = true := by
    show ((47 : Int) != (b.toNat : Int)) = true
    have : ¬ (47 : Int) = (b.toNat : Int) := by omega
    simpa using this
  go_enter Try.func41, Try.ntmps41
  go_wp2_with (first | (go_at_call 51; refine (Try.utf8_ValidRune r _).mono ?_; rintro e w' ⟨rfl, rfl⟩; rw [hV.out]))
  go_step3
  go_wp2_with fail
  refine wp_loop_rounds 1 ?_
  rw [rounds_succ]
  go_wp2_with fail
  go_step3
  go_wp2_with fail
  go_region
  go_wp2_with fail
  go_quiet ((go_at_call 22; exact quiet_more (idxbyte_empty _ _)))
  go_wp2_with fail
  try rw [Exit.noGoto_ret]
  try rw [Exit.noGoto_ret]
  go_ret
  exact ⟨rfl, below_drewN _⟩

set_option maxRecDepth 100000 in
set_option maxHeartbeats 400000 in
theorem idxrune_more (r : Int) (h0 : 2048 ≤ r) (hv : Utf8.valid r = true) (hn : ¬ r = 65533) (w : World) : Calls Try.prog 41 #[.string colsl, .int .i32 r] w (New (.int .i64 (-1)) w) := by
  unfold colsl
  have hV : Hid (Lib.validRune r = true) := validRune_of r (by omega) hv
  have hne : (r == 65533) = false := by simpa using hn
  have hl : decide (r < 128) = false := by simp; omega
  obtain ⟨n, hs, hn1⟩ := encode_more r h0 hv
  have hs1 : 3 ≤ (Utf8.encode r).size := by omega
  have hs2 : (Utf8.encode r).size ≤ 4 := by omega
  clear hv hn hs hn1 n
  go_enter Try.func41, Try.ntmps41
  go_wp2_with (first | (go_at_call 51; refine (Try.utf8_ValidRune r _).mono ?_; rintro e w' ⟨rfl, rfl⟩; rw [hV.out]))
  go_step3
  go_wp2_with fail
  refine wp_loop_rounds 1 ?_
  rw [rounds_succ]
  go_wp2_with fail
  try rw [Exit.noGoto_ret]
  try rw [Exit.noGoto_ret]
  go_ret
  exact ⟨rfl, Below.refl _ _⟩

theorem idxrune_hi (r : Int) (h0 : 128 ≤ r) (hv : Utf8.valid r = true) (w : World) : Calls Try.prog 41 #[.string colsl, .int .i32 r] w (New (.int .i64 (-1)) w) := by
  by_cases h : r = 65533
  · subst h; exact idxrune_err w
  · by_cases h2 : r < 2048
    · exact idxrune_two r h0 h2 w
    · exact idxrune_more r (by omega) hv h w

/-- the reader's step: a byte below 128 is itself; else a rune that is none, and all its bytes are 128 or more -/
theorem decode_step (s : ByteArray) (i : Nat) (h : i < s.size) :
    ((s[i]'h).toNat < 128 ∧ Utf8.decode s i = ((s[i]'h).toNat, 1)) ∨
    (128 ≤ (Utf8.decode s i).1 ∧ Utf8.valid ((Utf8.decode s i).1 : Nat) = true ∧ 1 ≤ (Utf8.decode s i).2 ∧ i + (Utf8.decode s i).2 ≤ s.size ∧
      ∀ j, i ≤ j → j < i + (Utf8.decode s i).2 → 128 ≤ (s.get! j).toNat) := by
  have e0 : s.get! i = s[i]'h := by
    show s.data[i]! = s.data[i]
    rw [getElem!_pos s.data i h]
  have hb : ∀ k, (s.get! (i + k)).toNat < 256 := fun k => (s.get! (i + k)).toNat_lt
  have h0 := hb 0; have h1 := hb 1; have h2 := hb 2; have h3 := hb 3
  rw [← e0]
  simp only [Utf8.decode, Nat.add_zero] at *
  split
  · left; exact ⟨by assumption, rfl⟩
  · right
    have A0 : ∀ j, i ≤ j → j < i + 1 → 128 ≤ (s.get! j).toNat := by
      intro j hj1 hj2
      obtain rfl : j = i := by omega
      omega
    have A1 : (s.get! (i + 1)).toNat / 64 = 2 → ∀ j, i ≤ j → j < i + 2 → 128 ≤ (s.get! j).toNat := by
      intro hc j hj1 hj2
      by_cases e : j = i + 1
      · subst e; omega
      · exact A0 j hj1 (by omega)
    have A2 : (s.get! (i + 1)).toNat / 64 = 2 → (s.get! (i + 2)).toNat / 64 = 2 → ∀ j, i ≤ j → j < i + 3 → 128 ≤ (s.get! j).toNat := by
      intro hc hc2 j hj1 hj2
      by_cases e : j = i + 2
      · subst e; omega
      · exact A1 hc j hj1 (by omega)
    have A3 : (s.get! (i + 1)).toNat / 64 = 2 → (s.get! (i + 2)).toNat / 64 = 2 → (s.get! (i + 3)).toNat / 64 = 2 → ∀ j, i ≤ j → j < i + 4 → 128 ≤ (s.get! j).toNat := by
      intro hc hc2 hc3 j hj1 hj2
      by_cases e : j = i + 3
      · subst e; omega
      · exact A2 hc hc2 j hj1 (by omega)
    have E : (128 : Nat) ≤ Utf8.runeError ∧ Utf8.valid (Utf8.runeError : Nat) = true ∧ 1 ≤ 1 ∧ i + 1 ≤ s.size ∧ ∀ j, i ≤ j → j < i + 1 → 128 ≤ (s.get! j).toNat := ⟨by decide, by decide, by omega, by omega, A0⟩
    repeat' split
    all_goals first
      | exact E
      | (rename_i hc hg
         simp only [Bool.and_eq_true, decide_eq_true_eq, beq_iff_eq] at hc hg
         first
           | exact ⟨by omega, by simp [Utf8.valid]; omega, by omega, by omega, A1 hc.2.2⟩
           | exact ⟨by omega, hg.2, by omega, by omega, A2 hc.1.2.2 hc.2.2⟩
           | exact ⟨by omega, hg.2, by omega, by omega, A3 hc.1.1.2.2 hc.1.2.2 hc.2.2⟩)
end Go.Proofs.Ythicgeiljficbaa
