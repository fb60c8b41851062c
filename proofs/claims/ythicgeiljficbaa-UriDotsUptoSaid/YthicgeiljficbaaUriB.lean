/- Package uri: plain. -/
import Derived.Test.YthicgeiljficbaaUriA
namespace Go.Proofs.Ythicgeiljficbaa
open Go.RowKit
set_option linter.unusedSimpArgs false
set_option linter.unusedVariables false
set_option linter.unnecessarySimpa false

theorem drop_two {l : List UInt8} {k : Nat} (h : k < l.length) : l.drop k = l.getD k 0 :: l.drop (k + 1) := by
  rw [List.drop_eq_getElem_cons h]
  simp [h]

theorem getD_byte (s : ByteArray) (k : Nat) (h : k < s.size) : s.data.toList.getD k 0 = s[k]'h := by
  have h' : k < s.data.toList.length := by rw [← Lib.size_eq]; exact h
  rw [List.getD_eq_getElem?_getD, Lib.data_getElem? s k h]
  rfl

theorem pl_eval (others : List UInt8) (s : ByteArray) (k : Nat) (h : k < s.size) :
    plainB others (s.data.toList.drop k) = if (((s[k]'h).toNat : Int) == 37) = true then
      (if h2 : k + 2 < s.size then hexB (s[k + 1]'(by omega)).toNat && hexB (s[k + 2]'h2).toNat && plainB others (s.data.toList.drop (k + 3)) else false)
      else okB others (s[k]'h) && plainB others (s.data.toList.drop (k + 1)) := by
  have hl : k < s.data.toList.length := by rw [← Lib.size_eq]; exact h
  rw [drop_two hl, getD_byte s k h]
  have he : ((((s[k]'h).toNat : Int) == 37) = true) ↔ s[k]'h = 37 := by
    rw [beq_iff_eq]
    constructor
    · intro hh
      apply UInt8.toNat_inj.1
      show _ = 37
      omega
    · intro hh; rw [hh]; rfl
  by_cases hc : s[k]'h = 37
  · rw [if_pos (he.2 hc), plainB.eq_def]
    dsimp only
    rw [if_pos hc]
    by_cases h2 : k + 2 < s.size
    · have hl1 : k + 1 < s.data.toList.length := by rw [← Lib.size_eq]; omega
      have hl2 : k + 1 + 1 < s.data.toList.length := by rw [← Lib.size_eq]; omega
      rw [dif_pos h2, drop_two hl1, drop_two hl2, getD_byte s (k + 1) (by omega), getD_byte s (k + 1 + 1) (by omega)]
    · rw [dif_neg h2]
      split
      · rename_i a b l e
        have := congrArg List.length e
        rw [List.length_drop, ← Lib.size_eq] at this
        simp at this
        omega
      · rfl
  · rw [if_neg (fun x => hc (he.1 x)), plainB.eq_def]
    dsimp only
    rw [if_neg hc]

set_option maxRecDepth 100000 in
set_option maxHeartbeats 1000000 in
theorem plain_any (s others : ByteArray) (hs : s.size ≤ 140737488351232) (w : World) :
    Calls Try.prog 16 #[.string s, .string others] w (Ans (.bool (plainB others.data.toList s.data.toList)) w) := by
  go_enter Try.func16, Try.ntmps16
  go_wp2_with fail
  go_loop [5] (fun i => ∃ k : Nat, k ≤ s.size ∧ i = .int .i64 k ∧ Hid (plainB others.data.toList s.data.toList = plainB others.data.toList (s.data.toList.drop k))) (fun i => s.size - (intOf i).toNat)
  case atStart => exact ⟨0, Nat.zero_le _, rfl, rfl⟩
  case round =>
    obtain ⟨k, hk, rfl, hok⟩ := hrel
    by_cases hlt : k < s.size
    · go_wp2_with (first | (go_at_call 32; refine (hex_any _ _).mono ?_; rintro e w' ⟨rfl, rfl⟩) | (go_at_call 31; refine (digit_any _ _).mono ?_; rintro e w' ⟨rfl, rfl⟩) | (go_at_call 30; refine (alpha_any _ _).mono ?_; rintro e w' ⟨rfl, rfl⟩) | (go_at_call 22; refine (Try.strings_IndexByte _ _ _).mono ?_; rintro e w' ⟨rfl, hw⟩; rw [hw]))
      all_goals first
        | (go_ret
           refine ⟨ret_bool (Eq.symm (hok.out.trans ((pl_eval others.data.toList s k hlt).trans ?_))), rfl⟩
           repeat' split
           all_goals first | rfl | (have hor : (s.size : Int) - (k : Int) < 3 ∨ (!hexB ((s[k + 2]).toNat : Int)) = true := by assumption
                                    rcases hor with h9 | h9
                                    · exfalso; omega
                                    · simp_all; done) | (exfalso; simp_all; done) | (exfalso; omega) | (simp_all [okB]; done) | (simp_all [okB]; omega))
        | (go_round
           case measure => simp only [intOf]; omega
           case rel =>
             first
               | (refine ⟨k + 1, ?_, ?_, hok.out.trans ((pl_eval others.data.toList s k hlt).trans ?_)⟩
                  · omega
                  · go_num
                  · repeat' split
                    all_goals first | (exfalso; simp_all; done) | (simp_all [okB]; done) | (simp_all [okB]; omega))
               | (refine ⟨k + 3, ?_, ?_, hok.out.trans ((pl_eval others.data.toList s k hlt).trans ?_)⟩
                  · omega
                  · go_num
                  · repeat' split
                    all_goals first | (exfalso; simp_all; done) | (exfalso; omega) | (simp_all; done)))
    · obtain rfl : k = s.size := by omega
      go_wp2_with fail
      go_ret
      exact ⟨ret_bool (by rw [hok.out, List.drop_eq_nil_iff.2 (by rw [Lib.size_eq]; exact Nat.le_refl _)]; rfl), rfl⟩
end Go.Proofs.Ythicgeiljficbaa
