/- The walk of the statement UriDots. -/
import Derived.Test.YthicgeiljficbaaUriT
namespace Go.Proofs.Ythicgeiljficbaa
open Go.RowKit
set_option linter.unusedSimpArgs false
set_option linter.unusedVariables false
set_option linter.unnecessarySimpa false

/-- the run under way: from place a up to i -/
def cur (d : List UInt8) (a i : Nat) : List UInt8 := (d.drop a).take (i - a)
def ScanAt (d : List UInt8) (a i : Nat) : Prop := i ≤ d.length → scan (cur d a i) (d.drop i)

theorem scanAt_on {d : List UInt8} {a i : Nat} (h : ScanAt d a i) (ha : a ≤ i) (hi : i < d.length) (hc : ¬ d[i] = 47) : ScanAt d a (i + 1) := by
  intro _
  have h1 := h (by omega)
  rw [List.drop_eq_getElem_cons hi, scan, if_neg hc] at h1
  have e : cur d a i ++ [d[i]] = cur d a (i + 1) := by
    unfold cur
    have hl : i - a < (d.drop a).length := by rw [List.length_drop]; omega
    rw [show i + 1 - a = (i - a) + 1 from by omega, List.take_succ_eq_append_getElem hl]
    congr 2
    rw [List.getElem_drop]
    congr 1
    omega
  rwa [e] at h1
theorem scanAt_slash {d : List UInt8} {a i : Nat} (h : ScanAt d a i) (hi : i < d.length) (hc : d[i] = 47) : okRun (cur d a i) ∧ ScanAt d (i + 1) (i + 1) := by
  have h1 := h (by omega)
  rw [List.drop_eq_getElem_cons hi, scan, if_pos hc] at h1
  refine ⟨h1.1, fun _ => ?_⟩
  have : cur d (i + 1) (i + 1) = [] := by simp [cur]
  rw [this]
  exact h1.2
theorem scanAt_end {d : List UInt8} {a : Nat} (h : ScanAt d a d.length) : okRun (cur d a d.length) := by
  have h1 := h (Nat.le_refl _)
  rw [List.drop_length] at h1
  exact h1

theorem okRun_bool {y : List UInt8} (h : okRun y) : (y == [46]) = false ∧ (y == [46, 46]) = false := ⟨by simpa using h.1, by simpa using h.2⟩

set_option maxRecDepth 100000 in
set_option maxHeartbeats 4000000 in
theorem dotsLaw_core (l d : List UInt8) (D1 : DotsIs l d) (D2 : DotsIs d d) (hl : d.length ≤ l.length) (hz : l.length ≤ 1048576) (hs : ScanAt d 0 0) (H : HeadsAre) (w : World) :
    Calls Try.prog 4 #[.string (str l)] w (New (.bool true) w) := by
  have HS := Lib.hid hs
  clear hs
  go_enter Try.func4, Try.ntmps4
  go_wp2_with fail
  refine (D1 _).mono ?_
  rintro e w1 ⟨rfl, hb⟩
  have HB := Lib.hid hb
  have hz1 := hb.size
  clear hb
  go_wp2_with fail
  refine (D2 _).mono ?_
  rintro e w2 ⟨rfl, hb⟩
  have B2 := RowKit.Below.call HB.out hb hz1
  clear hb HB hz1
  have HB := Lib.hid B2
  clear B2
  go_wp2_with fail
  go_loop [4, 5, 6] (fun a i _ => ∃ (x k : Nat), a = .int .i64 x ∧ i = .int .i64 k ∧ x ≤ k ∧ k ≤ d.length + 1 ∧ Hid (ScanAt d x k)) (fun _ i _ => d.length + 1 - (intOf i).toNat)
  case atStart => exact ⟨0, 0, rfl, rfl, Nat.le_refl _, Nat.zero_le _, HS.out⟩
  case round =>
    obtain ⟨x, k, rfl, rfl, hxk, hk, hsc⟩ := hrel
    by_cases hk1 : k = d.length + 1
    · have hsz := HB.out.size
      subst hk1
      go_wp2_with fail
      refine (H _).mono ?_
      rintro e w3 ⟨rfl, hb⟩
      have HB3 := Lib.hid (RowKit.Below.call HB.out hb hsz)
      clear hb
      go_wp2_with fail
      go_ret
      exact ⟨rfl, HB3.out⟩
    · by_cases hk2 : k = d.length
      · obtain ⟨c1, c2⟩ := okRun_bool (scanAt_end (by rw [← hk2]; exact hsc.out))
        rw [← hk2] at c1 c2
        unfold cur at c1 c2
        have hse := str_toList (List.take (k - x) (List.drop x d))
        have hkl : ¬ k < d.length := by omega
        have hkl2 : k ≤ d.length := by omega
        clear hk1 hk2
        go_wp2_with fail
        go_round
        case measure => simp only [intOf]; omega
        case rel => exact ⟨k + 1, k + 1, by go_num, by go_num, Nat.le_refl _, by omega, fun h => by omega⟩
      · have hlt : k < d.length := by omega
        clear hk1 hk2
        by_cases hc : d[k] = 47
        · obtain ⟨hok, hnx⟩ := scanAt_slash hsc.out hlt hc
          obtain ⟨c1, c2⟩ := okRun_bool hok
          unfold cur at c1 c2
          have hse := str_toList (List.take (k - x) (List.drop x d))
          have hb : ((d[k].toNat : Int) != 47) = false := by rw [hc]; rfl
          have HNX := Lib.hid hnx
          clear hnx hok hc hsc
          go_wp2_with fail
          go_round
          case measure => simp only [intOf]; omega
          case rel => exact ⟨k + 1, k + 1, by go_num, by go_num, Nat.le_refl _, by omega, HNX.out⟩
        · have hnx := scanAt_on hsc.out hxk hlt hc
          have hb : ((d[k].toNat : Int) != 47) = true := by
            have : ¬ ((d[k].toNat : Int) = 47) := by
              intro h0
              apply hc
              apply UInt8.toNat_inj.1
              show _ = 47
              omega
            simpa using this
          have HNX := Lib.hid hnx
          clear hnx hc hsc
          go_wp2_with fail
          go_round
          case measure => simp only [intOf]; omega
          case rel => exact ⟨x, k + 1, rfl, by go_num, by omega, by omega, HNX.out⟩

theorem uriDots_any (l : List UInt8) (hl : l.length ≤ 1048576) (w : World) :
    Calls Try.prog 4 #[.string (str l)] w (New (.bool true) w) := by
  have h1 := dotsL_len l
  have D1 : DotsIs l (dotsL l) := fun w => dots_any l (by omega) w
  have D2 : DotsIs (dotsL l) (dotsL l) := by
    intro w
    have := dots_any (dotsL l) (by omega) w
    rw [dots_stays] at this
    exact this
  exact dotsLaw_core l (dotsL l) D1 D2 h1 hl (fun _ => scan_dots l) (fun w => heads_any w) w
end Go.Proofs.Ythicgeiljficbaa
