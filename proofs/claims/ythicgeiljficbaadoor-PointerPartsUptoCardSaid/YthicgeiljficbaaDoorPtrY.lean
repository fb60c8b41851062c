/- caliperref07.plain, Escape: walked by hand. -/
import Derived.Test.YthicgeiljficbaaDoorPtrK
namespace Go.Proofs.YthicgeiljficbaaDoor
open Go.RowKit
set_option linter.unusedSimpArgs false
set_option linter.unusedVariables false
set_option linter.unnecessarySimpa false

/-- the signs that stand for themselves -/
def signs : List UInt8 := [45, 46, 95, 126, 33, 36, 38, 39, 40, 41, 42, 43, 44, 59, 61, 58, 64, 47, 63]
def isSign (c : UInt8) : Bool := signs.contains c
def letterC (c : UInt8) : Bool := (97 ≤ c && c ≤ 122) || (65 ≤ c && c ≤ 90) || (48 ≤ c && c ≤ 57)
theorem okC_is (c : UInt8) : okC c = (letterC c || isSign c) := by
  refine all_bytes (p := fun c => okC c = (letterC c || isSign c)) ?_ c
  decide +kernel

set_option maxHeartbeats 2000000 in
theorem plainR_letter (c : UInt8) (h : letterC c = true) (w : World) : Calls Tryd.prog 47 #[.int .u8 c.toNat] w (Ans (.bool true) w) := by
  have hc := c.toNat_lt
  have h' : (97 ≤ (c.toNat : Int) ∧ (c.toNat : Int) ≤ 122) ∨ (65 ≤ (c.toNat : Int) ∧ (c.toNat : Int) ≤ 90) ∨ (48 ≤ (c.toNat : Int) ∧ (c.toNat : Int) ≤ 57) := by
    simp [letterC, UInt8.le_iff_toNat_le] at h
    omega
  clear h
  rcases h' with ⟨h1, h2⟩ | ⟨h1, h2⟩ | ⟨h1, h2⟩
  · go_enter Tryd.func47, Tryd.ntmps47
    go_wp2
    go_ret
    exact ⟨rfl, rfl⟩
  · go_enter Tryd.func47, Tryd.ntmps47
    go_wp2
    go_ret
    exact ⟨rfl, rfl⟩
  · go_enter Tryd.func47, Tryd.ntmps47
    go_wp2
    go_ret
    exact ⟨rfl, rfl⟩
@[local go_sem] theorem sign_at (n : Nat) (h : n < (⟨#[45, 46, 95, 126, 33, 36, 38, 39, 40, 41, 42, 43, 44, 59, 61, 58, 64, 47, 63]⟩ : ByteArray).size) : (⟨#[45, 46, 95, 126, 33, 36, 38, 39, 40, 41, 42, 43, 44, 59, 61, 58, 64, 47, 63]⟩ : ByteArray)[n]'h = signs.getD n 0 := by
  have h19 : n < 19 := h
  exact str_index signs n h
set_option maxHeartbeats 2000000 in
theorem plainR_other (c : UInt8) (h : letterC c = false) (w : World) : Calls Tryd.prog 47 #[.int .u8 c.toNat] w (Ans (.bool (isSign c)) w) := by
  have hc := c.toNat_lt
  have h' : ¬ (97 ≤ (c.toNat : Int) ∧ (c.toNat : Int) ≤ 122) ∧ ¬ (65 ≤ (c.toNat : Int) ∧ (c.toNat : Int) ≤ 90) ∧ ¬ (48 ≤ (c.toNat : Int) ∧ (c.toNat : Int) ≤ 57) := by
    simp [letterC, UInt8.le_iff_toNat_le] at h
    omega
  clear h
  obtain ⟨h1, h2, h3⟩ := h'
  have g1 : (decide ((c.toNat : Int) ≥ 97) && decide ((c.toNat : Int) ≤ 122)) = false := by simp; omega
  go_enter Tryd.func47, Tryd.ntmps47
  go_wp2_with fail
  all_goals
    go_loop [4] (fun i => ∃ k : Nat, k ≤ 19 ∧ i = .int .i64 k ∧ Hid (∀ j, j < k → signs.getD j 0 ≠ c)) (fun i => 19 - (intOf i).toNat)
    case atStart => exact ⟨0, Nat.zero_le _, rfl, fun j hj => absurd hj (Nat.not_lt_zero _)⟩
    case round =>
      obtain ⟨k, hk, rfl, HN⟩ := hrel
      by_cases hlt : k < 19
      · have hsz : k < (⟨#[45, 46, 95, 126, 33, 36, 38, 39, 40, 41, 42, 43, 44, 59, 61, 58, 64, 47, 63]⟩ : ByteArray).size := hlt
        have hat := sign_at k hsz
        by_cases he : signs.getD k 0 = c
        · have hres : Hid (isSign c = true) := by
            unfold Hid isSign
            rw [List.contains_iff_mem, ← he]
            exact (show ∀ n : Fin 19, signs.getD n 0 ∈ signs by decide) ⟨k, hlt⟩
          have hb : (((signs[k]?.getD 0).toNat : Int) == (c.toNat : Int)) = true := by rw [← List.getD_eq_getElem?_getD, he, beq_self_eq_true]
          clear he
          go_wp2_with fail
          rw [hres.out]
          go_ret
          exact ⟨rfl, rfl⟩
        · have hb : (((signs[k]?.getD 0).toNat : Int) == (c.toNat : Int)) = false := by
            rw [← List.getD_eq_getElem?_getD, beq_eq_false_iff_ne]
            exact fun e => he (UInt8.toNat_inj.1 (by omega))
          have HN2 : Hid (∀ j, j < k + 1 → signs.getD j 0 ≠ c) := fun j hj => by
            rcases Nat.lt_or_ge j k with h | h
            · exact HN.out j h
            · obtain rfl : j = k := by omega
              exact he
          clear he
          go_wp2_with fail
          go_round
          case measure => simp only [intOf]; omega
          case rel => exact ⟨k + 1, by omega, by go_num, HN2.out⟩
      · obtain rfl : k = 19 := by omega
        have hres : Hid (isSign c = false) := by
          unfold Hid isSign
          rw [← Bool.not_eq_true, List.contains_iff_mem]
          intro hm
          obtain ⟨j, hj, e⟩ := List.getElem_of_mem hm
          have hj19 : j < 19 := hj
          exact HN.out j hj19 (by simp [List.getD, hj, e])
        go_wp2_with fail
        rw [hres.out]
        go_ret
        exact ⟨rfl, rfl⟩
theorem plainR_l (c : UInt8) (w : World) : Calls Tryd.prog 47 #[.int .u8 c.toNat] w (Ans (.bool (okC c)) w) := by
  rw [okC_is]
  cases h : letterC c with
  | true => exact plainR_letter c h w
  | false => exact plainR_other c h w

theorem take_one (l : List UInt8) (k : Nat) (h : k < l.length) : List.take 1 (List.drop k l) = [l[k]?.getD 0] := by
  rw [List.drop_eq_getElem_cons h, List.take_succ_cons, List.take_zero]
  simp [h]
theorem hex_slice (n : Nat) (h : n < 16) : (⟨#[48, 49, 50, 51, 52, 53, 54, 55, 56, 57, 65, 66, 67, 68, 69, 70]⟩ : ByteArray).extract n (n + 1) = str [hexD n] := by
  have : ∀ n : Fin 16, (⟨#[48, 49, 50, 51, 52, 53, 54, 55, 56, 57, 65, 66, 67, 68, 69, 70]⟩ : ByteArray).extract n.val (n.val + 1) = str [hexD n.val] := by decide +kernel
  exact this ⟨n, h⟩
set_option maxRecDepth 100000 in
set_option maxHeartbeats 2000000 in
theorem escapeR_l (l : List UInt8) (hl : l.length ≤ 67108864) (w : World) : Calls Tryd.prog 27 #[.string (str l)] w (New (.string (str (esc l))) w) := by
  have hsz := str_size l
  obtain ⟨n, hn⟩ : ∃ n, l.length = n := ⟨_, rfl⟩
  rw [hn] at hl hsz
  have HN := Lib.hid hn
  clear hn
  go_enter Tryd.func27, Tryd.ntmps27
  go_wp2_with fail
  go_loopw [4, 5] (fun v i wr => ∃ k : Nat, k ≤ n ∧ i = .int .i64 k ∧ v = .string (str (esc (l.take k))) ∧ Hid (Below w.heap.size w wr)) (fun _ i _ => n - (intOf i).toNat)
  case atStart => exact ⟨0, Nat.zero_le _, rfl, rfl, Below.refl _ _⟩
  case round =>
    obtain ⟨k, hk, rfl, rfl, HB⟩ := hrel
    by_cases hlt : k < n
    · have het : Hid (esc (l.take (k + 1)) = esc (l.take k) ++ esc1 (l.getD k 0)) := esc_take l k (by rw [HN.out]; exact hlt)
      have hel : (esc (l.take k)).length ≤ 201326592 := by
        have := esc_len (l.take k)
        rw [List.length_take] at this
        omega
      have hes := str_size (esc (l.take k))
      have HP : ∀ w, Calls Tryd.prog 47 #[.int .u8 (l.getD k 0).toNat] w (Ans (.bool (okC (l.getD k 0))) w) := fun w => plainR_l _ w
      rw [List.getD_eq_getElem?_getD] at HP het
      have HP' := Lib.hid HP
      clear HP
      generalize esc (l.take k) = o at *
      go_wp2_with fail
      have hcl := (l[k]?.getD 0).toNat_lt
      refine (HP'.out _).mono ?_
      rintro e wq ⟨rfl, rfl⟩
      by_cases hok : okC (l[k]?.getD 0) = true
      · rw [hok]
        have het2 : Hid (esc (l.take (k + 1)) = o ++ List.take 1 (List.drop k l)) := by
          unfold Hid
          have hkl : k < l.length := by rw [HN.out]; exact hlt
          rw [het.out, esc1, if_pos hok, take_one l k hkl]
        clear hok het HP'
        go_wp2_with fail
        go_roundw
        case measure => simp only [intOf]; omega
        case rel => exact ⟨k + 1, by omega, by go_num, by rw [het2.out], HB.out⟩
      · have het2 : Hid (esc (l.take (k + 1)) = o ++ [37, hexD ((l[k]?.getD 0).toNat / 16), hexD ((l[k]?.getD 0).toNat % 16)]) := by
          unfold Hid
          rw [het.out, esc1, if_neg hok]
        rw [Bool.not_eq_true] at hok
        rw [hok]
        have hx1 := hex_slice ((l[k]?.getD 0).toNat / 16) (by omega)
        have hx2 := hex_slice ((l[k]?.getD 0).toNat % 16) (by omega)
        clear hok het HP'
        go_wp2_with fail
        go_region
        go_wp2_with fail
        go_roundw
        case measure => simp only [intOf]; omega
        case rel => exact ⟨k + 1, by omega, by go_num, by rw [het2.out], HB.out.drew⟩
    · obtain rfl : k = n := by omega
      have hf : Hid (esc (l.take k) = esc l) := by
        unfold Hid
        rw [List.take_of_length_le (by rw [HN.out]; omega)]
      rw [hf.out]
      go_wp2_with fail
      go_ret
      exact ⟨rfl, HB.out⟩
end Go.Proofs.YthicgeiljficbaaDoor
