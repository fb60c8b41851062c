/- Numbers: the order of whole numbers and texts, signs: what they answer, and that they answer it always. -/
import Derived.Test.YthdnpikgnmdnnaaGreatDoorBlkT
namespace Go.Proofs.YthdnpikgnmdnnaaGreatDoor
open Go.RowKit
set_option linter.unusedSimpArgs false
set_option linter.unusedVariables false
set_option linter.unnecessarySimpa false

/-- a number -/
def dv (n : Bool) (s : ByteArray) (x : Int) : Value := .agg #[.bool n, .string s, .int .i64 x]
/-- one of three -/
def Tri (c : Int) : Prop := c = -1 ∨ c = 0 ∨ c = 1

theorem isnan_i (x : Int) (w : World) : Calls Tryz.prog 36 #[.int .i64 x] w (Ans (.bool false) w) := by
  go_enter Tryz.func36, Tryz.ntmps36
  go_wp2_with fail
  go_ret
  exact ⟨by simp, rfl⟩

theorem isnan_s (x : ByteArray) (w : World) : Calls Tryz.prog 37 #[.string x] w (Ans (.bool false) w) := by
  go_enter Tryz.func37, Tryz.ntmps37
  go_wp2_with fail
  go_ret
  exact ⟨by simp, rfl⟩

def cmpI (x y : Int) : Int := if x < y then -1 else if y < x then 1 else 0
theorem cmpI_tri (x y : Int) : Tri (cmpI x y) := by
  unfold cmpI Tri
  split
  · exact .inl rfl
  · split
    · exact .inr (.inr rfl)
    · exact .inr (.inl rfl)

theorem cmp_i (x y : Int) (w : World) : Calls Tryz.prog 13 #[.int .i64 x, .int .i64 y] w (Ans (.int .i64 (cmpI x y)) w) := by
  by_cases h : x < y
  · have e : cmpI x y = -1 := by unfold cmpI; rw [if_pos h]
    rw [e]
    go_enter Tryz.func13, Tryz.ntmps13
    go_wp2_with (first | (go_at_call 36; refine (isnan_i _ _).mono ?_; rintro e w' ⟨rfl, rfl⟩) | go_in)
    go_ret
    exact ⟨rfl, rfl⟩
  · by_cases h2 : y < x
    · have e : cmpI x y = 1 := by unfold cmpI; rw [if_neg h, if_pos h2]
      rw [e]
      go_enter Tryz.func13, Tryz.ntmps13
      go_wp2_with (first | (go_at_call 36; refine (isnan_i _ _).mono ?_; rintro e w' ⟨rfl, rfl⟩) | go_in)
      go_ret
      exact ⟨rfl, rfl⟩
    · have e : cmpI x y = 0 := by unfold cmpI; rw [if_neg h, if_neg h2]
      rw [e]
      go_enter Tryz.func13, Tryz.ntmps13
      go_wp2_with (first | (go_at_call 36; refine (isnan_i _ _).mono ?_; rintro e w' ⟨rfl, rfl⟩) | go_in)
      go_ret
      exact ⟨rfl, rfl⟩

theorem sign_ex (n : Bool) (s : ByteArray) (x : Int) : ∃ c : Int, Tri c ∧ ∀ w, Calls Tryz.prog 14 #[dv n s x] w (New (.int .i64 c) w) := by
  by_cases hs : s.toList.isEmpty = true
  · refine ⟨0, .inr (.inl rfl), fun w => ?_⟩
    unfold dv
    go_enter Tryz.func14, Tryz.ntmps14
    go_wp2_with fail
    go_ret
    exact ⟨rfl, (Below.refl _ _).alloc (Nat.le_refl _) _⟩
  · have hb : s.toList.isEmpty = false := by simpa using hs
    cases n with
    | true =>
      refine ⟨-1, .inl rfl, fun w => ?_⟩
      unfold dv
      go_enter Tryz.func14, Tryz.ntmps14
      go_wp2_with fail
      go_ret
      exact ⟨rfl, (Below.refl _ _).alloc (Nat.le_refl _) _⟩
    | false =>
      refine ⟨1, .inr (.inr rfl), fun w => ?_⟩
      unfold dv
      go_enter Tryz.func14, Tryz.ntmps14
      go_wp2_with fail
      go_ret
      exact ⟨rfl, (Below.refl _ _).alloc (Nat.le_refl _) _⟩

theorem cmp_s_ex (x y : ByteArray) : ∃ c : Int, Tri c ∧ ∀ w, Calls Tryz.prog 16 #[.string x, .string y] w (Ans (.int .i64 c) w) := by
  by_cases h : Op.bytesLess x.toList y.toList = true
  · refine ⟨-1, .inl rfl, fun w => ?_⟩
    go_enter Tryz.func16, Tryz.ntmps16
    go_wp2_with (first | (go_at_call 37; refine (isnan_s _ _).mono ?_; rintro e w' ⟨rfl, rfl⟩) | go_in)
    go_ret
    exact ⟨rfl, rfl⟩
  · have h : Op.bytesLess x.toList y.toList = false := by simpa using h
    cases h2 : (!x.toList == y.toList)
    · refine ⟨0, .inr (.inl rfl), fun w => ?_⟩
      go_enter Tryz.func16, Tryz.ntmps16
      go_wp2_with (first | (go_at_call 37; refine (isnan_s _ _).mono ?_; rintro e w' ⟨rfl, rfl⟩) | go_in)
      go_ret
      exact ⟨rfl, rfl⟩
    · refine ⟨1, .inr (.inr rfl), fun w => ?_⟩
      go_enter Tryz.func16, Tryz.ntmps16
      go_wp2_with (first | (go_at_call 37; refine (isnan_s _ _).mono ?_; rintro e w' ⟨rfl, rfl⟩) | go_in)
      go_ret
      exact ⟨rfl, rfl⟩

/-- the first of two that is not nought -/
theorem or_l (g : Nat) (c1 c2 : Int) (w : World) (h1 : w.cell? ⟨g, 0, none⟩ = some (.int .i64 c1)) (h2 : w.cell? ⟨g, 1, none⟩ = some (.int .i64 c2)) :
    Calls Tryz.prog 15 #[.slice (some ⟨g, 0, none⟩) 2 2] w (Ans (.int .i64 (if c1 = 0 then c2 else c1)) w) := by
  by_cases e1 : c1 = 0
  · subst e1
    rw [if_pos rfl]
    by_cases e2 : c2 = 0
    · subst e2
      go_enter Tryz.func15, Tryz.ntmps15
      go_wp2_with fail
      refine wp_loop_rounds 3 ?_
      rw [rounds_succ]
      go_wp2_with fail
      rw [rounds_succ]
      go_wp2_with fail
      rw [rounds_succ]
      go_wp2_with fail
      go_ret
      exact ⟨rfl, rfl⟩
    · have hb : (c2 != 0) = true := by simpa using e2
      go_enter Tryz.func15, Tryz.ntmps15
      go_wp2_with fail
      refine wp_loop_rounds 3 ?_
      rw [rounds_succ]
      go_wp2_with fail
      rw [rounds_succ]
      go_wp2_with fail
      go_ret
      exact ⟨rfl, rfl⟩
  · rw [if_neg e1]
    have hb : (c1 != 0) = true := by simpa using e1
    go_enter Tryz.func15, Tryz.ntmps15
    go_wp2_with fail
    refine wp_loop_rounds 3 ?_
    rw [rounds_succ]
    go_wp2_with fail
    go_ret
    exact ⟨rfl, rfl⟩

set_option maxRecDepth 100000 in
set_option maxHeartbeats 4000000 in
theorem chk_ex (n : Bool) (s : ByteArray) (x : Int) (hT : ∃ r : ByteArray, ∀ w, Calls Tryz.prog 35 #[.string s, .string ⟨#[48, 49, 50, 51, 52, 53, 54, 55, 56, 57]⟩] w (New (.string r) w)) :
    ∃ c : Int, (c = 0 ∨ c = 2) ∧ ∀ w, Calls Tryz.prog 12 #[dv n s x] w (New (.int .i64 c) w) := by
  obtain ⟨r, hT⟩ := hT
  by_cases hz : s.size = 0
  · obtain rfl : s = ⟨#[]⟩ := by
      cases s with
      | mk d => exact congrArg ByteArray.mk (Array.eq_empty_of_size_eq_zero hz)
    clear hz hT
    cases n with
    | true =>
      refine ⟨2, .inr rfl, fun w => ?_⟩
      unfold dv
      go_enter Tryz.func12, Tryz.ntmps12
      go_wp2_with fail
      go_ret
      exact ⟨rfl, (Below.refl _ _).alloc (Nat.le_refl _) _⟩
    | false =>
      by_cases hx : x = 0
      · subst hx
        refine ⟨0, .inl rfl, fun w => ?_⟩
        unfold dv
        go_enter Tryz.func12, Tryz.ntmps12
        go_wp2_with fail
        go_ret
        exact ⟨rfl, (Below.refl _ _).alloc (Nat.le_refl _) _⟩
      · refine ⟨2, .inr rfl, fun w => ?_⟩
        have hb : (x == 0) = false := by simpa using hx
        unfold dv
        go_enter Tryz.func12, Tryz.ntmps12
        go_wp2_with fail
        go_ret
        exact ⟨rfl, (Below.refl _ _).alloc (Nat.le_refl _) _⟩
  · have hz0 : ((s.size : Nat) : Int) ≠ 0 := by omega
    have hzb : (((s.size : Nat) : Int) == 0) = false := by simpa using hz
    have h0 : 0 < s.size := by omega
    have hlast : s.size - 1 < s.size := by omega
    by_cases h1 : ((s.size : Nat) : Int) ≤ 65536
    · have hi : (1 : Int) ≤ ((s.size : Nat) : Int) ∧ ((s.size : Nat) : Int) - 1 < ((s.size : Nat) : Int) := by omega
      by_cases h2 : ((s[0].toNat : Nat) : Int) = 48
      · refine ⟨2, .inr rfl, fun w => ?_⟩
        unfold dv
        go_enter Tryz.func12, Tryz.ntmps12
        go_wp2_with (first | (go_at_call 35; refine (hT _).mono ?_; rintro e w2 ⟨rfl, hb2⟩; have HB2 : Hid (Below w.heap.size w w2) := ((Below.refl _ _).alloc (Nat.le_refl _) _).trans (hb2.mono (by simp)); have q2 : w2.cell? ⟨w.heap.size, 2, none⟩ = some (.int .i64 x) := (hb2.cell (p := ⟨w.heap.size, 2, none⟩) (by simp)).trans ((Blk.new w [.bool n, .string s, .int .i64 x] _).cell 2); clear hb2) | go_in)
        go_ret
        exact ⟨rfl, (Below.refl _ _).alloc (Nat.le_refl _) _⟩
      · by_cases h3 : ((s[s.size - 1].toNat : Nat) : Int) = 48
        · refine ⟨2, .inr rfl, fun w => ?_⟩
          unfold dv
          go_enter Tryz.func12, Tryz.ntmps12
          go_wp2_with (first | (go_at_call 35; refine (hT _).mono ?_; rintro e w2 ⟨rfl, hb2⟩; have HB2 : Hid (Below w.heap.size w w2) := ((Below.refl _ _).alloc (Nat.le_refl _) _).trans (hb2.mono (by simp)); have q2 : w2.cell? ⟨w.heap.size, 2, none⟩ = some (.int .i64 x) := (hb2.cell (p := ⟨w.heap.size, 2, none⟩) (by simp)).trans ((Blk.new w [.bool n, .string s, .int .i64 x] _).cell 2); clear hb2) | go_in)
          go_ret
          exact ⟨rfl, (Below.refl _ _).alloc (Nat.le_refl _) _⟩
        · by_cases h4 : r.toList = []
          · by_cases h5 : x < -1000000
            · refine ⟨2, .inr rfl, fun w => ?_⟩
              unfold dv
              go_enter Tryz.func12, Tryz.ntmps12
              go_wp2_with (first | (go_at_call 35; refine (hT _).mono ?_; rintro e w2 ⟨rfl, hb2⟩; have HB2 : Hid (Below w.heap.size w w2) := ((Below.refl _ _).alloc (Nat.le_refl _) _).trans (hb2.mono (by simp)); have q2 : w2.cell? ⟨w.heap.size, 2, none⟩ = some (.int .i64 x) := (hb2.cell (p := ⟨w.heap.size, 2, none⟩) (by simp)).trans ((Blk.new w [.bool n, .string s, .int .i64 x] _).cell 2); clear hb2) | go_in)
              go_ret
              exact ⟨rfl, HB2.out⟩
            · by_cases h6 : 1000000 < x
              · refine ⟨2, .inr rfl, fun w => ?_⟩
                unfold dv
                go_enter Tryz.func12, Tryz.ntmps12
                go_wp2_with (first | (go_at_call 35; refine (hT _).mono ?_; rintro e w2 ⟨rfl, hb2⟩; have HB2 : Hid (Below w.heap.size w w2) := ((Below.refl _ _).alloc (Nat.le_refl _) _).trans (hb2.mono (by simp)); have q2 : w2.cell? ⟨w.heap.size, 2, none⟩ = some (.int .i64 x) := (hb2.cell (p := ⟨w.heap.size, 2, none⟩) (by simp)).trans ((Blk.new w [.bool n, .string s, .int .i64 x] _).cell 2); clear hb2) | go_in)
                go_ret
                exact ⟨rfl, HB2.out⟩
              · refine ⟨0, .inl rfl, fun w => ?_⟩
                have d1 : decide ((65536 : Int) < ((s.size : Nat) : Int)) = false := by simp only [decide_eq_false_iff_not]; omega
                have d2 : (((s[0].toNat : Nat) : Int) == 48) = false := by simpa using h2
                have d3 : (((s[s.size - 1].toNat : Nat) : Int) == 48) = false := by simpa using h3
                have d5 : decide (x < -1000000) = false := by simp only [decide_eq_false_iff_not]; exact h5
                have d6 : decide (1000000 < x) = false := by simp only [decide_eq_false_iff_not]; exact h6
                unfold dv
                go_enter Tryz.func12, Tryz.ntmps12
                go_wp2_with (first | (go_at_call 35; refine (hT _).mono ?_; rintro e w2 ⟨rfl, hb2⟩; have HB2 : Hid (Below w.heap.size w w2) := ((Below.refl _ _).alloc (Nat.le_refl _) _).trans (hb2.mono (by simp)); have q2 : w2.cell? ⟨w.heap.size, 2, none⟩ = some (.int .i64 x) := (hb2.cell (p := ⟨w.heap.size, 2, none⟩) (by simp)).trans ((Blk.new w [.bool n, .string s, .int .i64 x] _).cell 2); clear hb2) | go_in)
                go_ret
                exact ⟨rfl, HB2.out⟩
          · refine ⟨2, .inr rfl, fun w => ?_⟩
            unfold dv
            go_enter Tryz.func12, Tryz.ntmps12
            go_wp2_with (first | (go_at_call 35; refine (hT _).mono ?_; rintro e w2 ⟨rfl, hb2⟩; have HB2 : Hid (Below w.heap.size w w2) := ((Below.refl _ _).alloc (Nat.le_refl _) _).trans (hb2.mono (by simp)); have q2 : w2.cell? ⟨w.heap.size, 2, none⟩ = some (.int .i64 x) := (hb2.cell (p := ⟨w.heap.size, 2, none⟩) (by simp)).trans ((Blk.new w [.bool n, .string s, .int .i64 x] _).cell 2); clear hb2) | go_in)
            go_ret
            exact ⟨rfl, HB2.out⟩
    · have h1' : (65536 : Int) < ((s.size : Nat) : Int) := by omega
      refine ⟨2, .inr rfl, fun w => ?_⟩
      unfold dv
      go_enter Tryz.func12, Tryz.ntmps12
      go_wp2_with (first | (go_at_call 35; refine (hT _).mono ?_; rintro e w2 ⟨rfl, hb2⟩; have HB2 : Hid (Below w.heap.size w w2) := ((Below.refl _ _).alloc (Nat.le_refl _) _).trans (hb2.mono (by simp)); have q2 : w2.cell? ⟨w.heap.size, 2, none⟩ = some (.int .i64 x) := (hb2.cell (p := ⟨w.heap.size, 2, none⟩) (by simp)).trans ((Blk.new w [.bool n, .string s, .int .i64 x] _).cell 2); clear hb2) | go_in)
      go_ret
      exact ⟨rfl, (Below.refl _ _).alloc (Nat.le_refl _) _⟩
end Go.Proofs.YthdnpikgnmdnnaaGreatDoor
