/- Slices of numbers that are read; the reference's Ints: are two rows of numbers the same? -/
import Derived.Test.YtdpkhapcgbheeaaGreatDoorRowT
import Derived.Test.YtdpkhapcgbheeaaGreatDoorTxt
namespace Go.Proofs.YtdpkhapcgbheeaaGreatDoor
open Go.RowKit
set_option linter.unusedSimpArgs false
set_option linter.unusedVariables false
set_option linter.unnecessarySimpa false

def ints (xs : List Int) : List Value := xs.map fun z => .int .i64 z
theorem ints_length (xs : List Int) : (ints xs).length = xs.length := by simp [ints]
theorem ints_append (xs ys : List Int) : ints (xs ++ ys) = ints xs ++ ints ys := by simp [ints]

/-- v reads as the numbers xs -/
def InS (w : World) (v : Value) (xs : List Int) : Prop :=
  ∃ a cap, v = .slice a xs.length cap ∧ (0 < xs.length → ∃ b off, a = some ⟨b, off, none⟩ ∧ b < w.heap.size ∧ ∀ (j : Nat) (h : j < xs.length), w.cell? ⟨b, off + j, none⟩ = some (.int .i64 (xs[j]'h)))

theorem InS.call {w w' : World} {v : Value} {xs : List Int} (h : InS w v xs) (hb : Below w.heap.size w w') : InS w' v xs := by
  obtain ⟨a, cap, rfl, hc⟩ := h
  refine ⟨a, cap, rfl, fun h0 => ?_⟩
  obtain ⟨b, off, rfl, hlt, hcell⟩ := hc h0
  refine ⟨b, off, rfl, Nat.lt_of_lt_of_le hlt hb.size, fun j hj => ?_⟩
  rw [hb.cell (p := ⟨b, off + j, none⟩) hlt]
  exact hcell j hj
theorem InS.row {w : World} {B : Nat} {v : Value} {xs : List Int} (h : Row w B 3 1 v xs.length (ints xs)) : InS w v xs := by
  by_cases h0 : xs.length = 0
  · obtain ⟨a, cap, rfl, -⟩ := h.shape
    exact ⟨a, cap, rfl, fun h => absurd h (by omega)⟩
  · obtain ⟨g, cap, rfl, -, -, hlt, hc, -⟩ := h.form (by omega)
    refine ⟨_, cap, rfl, fun _ => ⟨g, 0, rfl, hlt, fun j hj => ?_⟩⟩
    rw [Nat.zero_add, hc j (by omega)]
    simp [ints, hj]

theorem ilist_eq {xs ys : List Int} (hl : xs.length = ys.length) (h : ∀ j (h1 : j < xs.length) (h2 : j < ys.length), xs[j] = ys[j]) : xs = ys := List.ext_getElem hl h

set_option maxRecDepth 100000 in
set_option maxHeartbeats 2000000 in
theorem ints_l (v1 v2 : Value) (xs ys : List Int) (w : World) (h1 : InS w v1 xs) (h2 : InS w v2 ys) (hn : xs.length ≤ 1073741824) (hn2 : ys.length ≤ 1073741824) :
    Calls Tryz.prog 6 #[v1, v2] w (New (.bool (decide (xs = ys))) w) := by
  obtain ⟨a1, c1, rfl, hc1⟩ := h1
  obtain ⟨a2, c2, rfl, hc2⟩ := h2
  by_cases hl : xs.length = ys.length
  · have HC1 := Lib.hid hc1
    have HC2 := Lib.hid hc2
    clear hc1 hc2
    have HL := Lib.hid hl
    have hne : (((ys.length : Nat) : Int) != ((ys.length : Nat) : Int)) = false := by simp
    generalize hd : decide (xs = ys) = d
    have HD := Lib.hid hd
    clear hd
    obtain ⟨n, hny⟩ : ∃ n, ys.length = n := ⟨_, rfl⟩
    rw [hl, hny]
    rw [hny] at hne hn2
    have HNY := Lib.hid hny
    clear hny hl hn
    go_enter Tryz.func6, Tryz.ntmps6
    go_wp2_with fail
    go_loopw [5] (fun i wr => ∃ k : Nat, k ≤ n ∧ i = .int .i64 k ∧ Hid (∀ j (h1 : j < xs.length) (h2 : j < ys.length), j < k → xs[j] = ys[j]) ∧ Hid (Below w.heap.size w wr)) (fun i _ => n - (intOf i).toNat)
    case atStart => exact ⟨0, Nat.zero_le _, rfl, fun j _ _ h => absurd h (Nat.not_lt_zero _), Below.refl _ _⟩
    case round =>
      obtain ⟨k, hk, rfl, HS, HB⟩ := hrel
      by_cases hlt : k < n
      · have hx : k < xs.length := by rw [HL.out, HNY.out]; exact hlt
        have hy : k < ys.length := by rw [HNY.out]; exact hlt
        obtain ⟨b1, o1, rfl, hb1, g1⟩ := HC1.out (by rw [HL.out, HNY.out]; omega)
        obtain ⟨b2, o2, rfl, hb2, g2⟩ := HC2.out (by rw [HNY.out]; omega)
        have q1 : wr.cell? ⟨b1, o1 + k, none⟩ = some (.int .i64 xs[k]) := by rw [HB.out.cell (p := ⟨b1, o1 + k, none⟩) hb1]; exact g1 k hx
        have q2 : wr.cell? ⟨b2, o2 + k, none⟩ = some (.int .i64 ys[k]) := by rw [HB.out.cell (p := ⟨b2, o2 + k, none⟩) hb2]; exact g2 k hy
        clear g1 g2
        have HX : Hid (xs[k] = ys[k] → ∀ j (h1 : j < xs.length) (h2 : j < ys.length), j < k + 1 → xs[j] = ys[j]) := by
          intro h j h1 h2 hj
          by_cases e : j = k
          · subst e; exact h
          · exact HS.out j h1 h2 (by omega)
        have HXN : Hid (xs[k] ≠ ys[k] → decide (xs = ys) = false) := by
          intro h
          apply decide_eq_false
          rintro rfl
          exact h rfl
        generalize xs[k] = x at *
        generalize ys[k] = y at *
        by_cases hxy : x = y
        · subst hxy
          have hb0 : (x != x) = false := by simp
          go_wp2_with fail
          go_region
          go_wp2_with fail
          go_roundw
          case measure => simp only [intOf]; omega
          case rel => exact ⟨k + 1, by omega, by go_num, HX.out (by first | rfl | trivial), HB.out.drew⟩
        · have hb0 : (x != y) = true := by simpa using hxy
          go_wp2_with fail
          go_region
          go_wp2_with fail
          go_ret
          refine ⟨ret_bool (Eq.symm ?_), HB.out.drew⟩
          rw [← HD.out]
          exact HXN.out hxy
      · obtain rfl : k = n := by omega
        go_wp2_with fail
        go_ret
        refine ⟨ret_bool (Eq.symm ?_), HB.out⟩
        rw [← HD.out]
        apply decide_eq_true
        exact ilist_eq HL.out (fun j h1 h2 => HS.out j h1 h2 (by rw [HNY.out] at h2; exact h2))
  · have hne : (((xs.length : Nat) : Int) != ((ys.length : Nat) : Int)) = true := by
      have : ¬ ((xs.length : Nat) : Int) = ((ys.length : Nat) : Int) := by omega
      simpa using this
    have hf : decide (xs = ys) = false := by
      apply decide_eq_false
      rintro rfl
      exact hl rfl
    rw [hf]
    clear hc1 hc2 hf
    revert hn hn2 hne
    generalize xs.length = n1
    generalize ys.length = n2
    clear hl
    intro hn hn2 hne
    go_enter Tryz.func6, Tryz.ntmps6
    go_wp2_with fail
    go_ret
    exact ⟨rfl, Below.refl _ _⟩
end Go.Proofs.YtdpkhapcgbheeaaGreatDoor
