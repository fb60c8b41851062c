/- The body of caliperlaw14.RefsReach. -/
import Derived.Test.YtdpkhapcgbheeaaGreatDoorRfRow
namespace Go.Proofs.YtdpkhapcgbheeaaGreatDoor
open Go.RowKit
set_option linter.unusedSimpArgs false
set_option linter.unusedVariables false
set_option linter.unnecessarySimpa false

set_option maxRecDepth 100000 in
theorem reach_r_out (n s : Int) (v : Value) (w : World) (h : s < 0 ∨ n ≤ s) :
    Calls Tryz.prog 8 #[.int .i64 n, v, .int .i64 s] w (Ans (.slice none 0 0) w) := by
  by_cases h0 : s < 0
  · go_enter Tryz.func8, Tryz.ntmps8
    go_wp2_with fail
    go_ret
    exact ⟨rfl, rfl⟩
  · have h1 : n ≤ s := by omega
    go_enter Tryz.func8, Tryz.ntmps8
    go_wp2_with fail
    go_ret
    exact ⟨rfl, rfl⟩

set_option maxRecDepth 100000 in
theorem reach_l_out (n s : Int) (v : Value) (w : World) (h : s < 0 ∨ n ≤ s) :
    Calls Tryz.prog 7 #[.int .i64 n, v, .int .i64 s] w (Ans (.slice none 0 0) w) := by
  by_cases h0 : s < 0
  · go_enter Tryz.func7, Tryz.ntmps7
    go_wp2_with fail
    go_ret
    exact ⟨rfl, rfl⟩
  · have h1 : n ≤ s := by omega
    go_enter Tryz.func7, Tryz.ntmps7
    go_wp2_with fail
    go_ret
    exact ⟨rfl, rfl⟩

/-- both find the same -/
def Both (w : World) (xs : List Int) (e : Ending) (w' : World) : Prop := ∃ v, e = .returned v ∧ InS w' v xs ∧ Below w.heap.size w w'

theorem both (n s : Int) (hn : n ≤ 500) (v : Value) (es : List Ed) (w : World) (h : Eds w v es) (hl : es.length ≤ 500) : ∃ xs : List Int, xs.length ≤ 500 ∧
    Calls Tryz.prog 7 #[.int .i64 n, v, .int .i64 s] w (Both w xs) ∧
    ∀ W, Below w.heap.size w W → Calls Tryz.prog 8 #[.int .i64 n, v, .int .i64 s] W (Both W xs) := by
  by_cases hs : 0 ≤ s ∧ s < n
  · obtain ⟨N, rfl⟩ : ∃ N : Nat, n = N := ⟨n.toNat, by omega⟩
    obtain ⟨k, rfl⟩ : ∃ k : Nat, s = k := ⟨s.toNat, by omega⟩
    obtain ⟨D, hD⟩ := Rf.found_ex N (Rf.nx N (prs es)) k
    refine ⟨D, ?_, ?_, fun W hb => ?_⟩
    · have := hD.1; omega
    · refine (reach_l N k (by omega) (by omega) v es w h hl).mono ?_
      rintro e w' ⟨v', S, rfl, hi, hS, hb⟩
      exact ⟨v', rfl, by rw [hD.2 S hS] at hi; exact hi, hb⟩
    · refine (reach_r N k (by omega) (by omega) v es W (h.call hb) hl).mono ?_
      rintro e w' ⟨v', S, rfl, hi, hS, hb⟩
      exact ⟨v', rfl, by rw [hD.2 S hS] at hi; exact hi, hb⟩
  · have hs : s < 0 ∨ n ≤ s := by omega
    have hI : ∀ W : World, InS W (.slice none 0 0) [] := fun W => ⟨none, 0, rfl, fun h => absurd h (by simp)⟩
    refine ⟨[], by simp, ?_, fun W hb => ?_⟩
    · refine (reach_l_out n s v w hs).mono ?_
      rintro e w' ⟨rfl, rfl⟩
      exact ⟨_, rfl, hI _, Below.refl _ _⟩
    · refine (reach_r_out n s v W hs).mono ?_
      rintro e w' ⟨rfl, rfl⟩
      exact ⟨_, rfl, hI _, Below.refl _ _⟩

set_option maxRecDepth 100000 in
set_option maxHeartbeats 2000000 in
theorem rr_l (n : Int) (v : Value) (es : List Ed) (s : Int) (w : World) (h : Eds w v es) (hk : es.length ≤ 1048576) (he : EnvV w) :
    Calls Tryz.prog 3 #[.int .i64 n, v, .int .i64 s] w (New (.bool true) w) := by
  have H5 : Hid (∀ W, Below w.heap.size w W → Calls Tryz.prog 5 #[] W (New (.bool true) W)) := fun W hb => heads_any W (he.call hb)
  by_cases hn : n ≤ 500
  · by_cases hl : es.length ≤ 500
    · obtain ⟨xs, hx, H1, H2⟩ := both n s hn v es w h hl
      have H1 := Lib.hid H1
      have H2 := Lib.hid H2
      obtain ⟨a, cap, rfl, -⟩ := h
      have hn' : ¬ 500 < n := by omega
      have hl' : ¬ 500 < es.length := by omega
      clear he
      go_enter Tryz.func3, Tryz.ntmps3
      go_wp2_with fail
      refine H1.out.mono ?_
      rintro e w1 ⟨v1, rfl, ht1, hb1⟩
      have HB1 := Lib.hid hb1
      have HT1 := Lib.hid ht1
      clear hb1 ht1
      go_wp2_with fail
      refine (H2.out _ HB1.out).mono ?_
      rintro e w2 ⟨v2, rfl, ht2, hb2⟩
      have HB2 := Lib.hid (HB1.out.trans (hb2.mono HB1.out.size))
      have HT2 := Lib.hid ht2
      have HT1' := Lib.hid (HT1.out.call hb2)
      clear hb2 ht2 HT1
      go_wp2_with fail
      refine (ints_l v1 v2 xs xs w2 HT1'.out HT2.out (by omega) (by omega)).mono ?_
      rintro e w3 ⟨rfl, hb3⟩
      have HB3 := Lib.hid (HB2.out.trans (hb3.mono HB2.out.size))
      clear hb3
      rw [decide_eq_true rfl]
      go_wp2_with fail
      refine (H5.out _ HB3.out).mono ?_
      rintro e w5 ⟨rfl, hb5⟩
      have HB5 := Lib.hid (HB3.out.trans (hb5.mono HB3.out.size))
      clear hb5
      go_wp2_with fail
      go_ret
      exact ⟨rfl, HB5.out⟩
    · obtain ⟨a, cap, rfl, -⟩ := h
      have hl' : 500 < es.length := by omega
      generalize es.length = m at *
      have hn' : ¬ 500 < n := by omega
      clear he
      go_enter Tryz.func3, Tryz.ntmps3
      go_wp2_with fail
      refine (H5.out _ (Below.refl _ _)).mono ?_
      rintro e w5 ⟨rfl, hb5⟩
      go_wp2_with fail
      go_ret
      exact ⟨rfl, hb5⟩
  · have hn' : 500 < n := by omega
    clear he
    go_enter Tryz.func3, Tryz.ntmps3
    go_wp2_with fail
    refine (H5.out _ (Below.refl _ _)).mono ?_
    rintro e w5 ⟨rfl, hb5⟩
    go_wp2_with fail
    go_ret
    exact ⟨rfl, hb5⟩
end Go.Proofs.YtdpkhapcgbheeaaGreatDoor
