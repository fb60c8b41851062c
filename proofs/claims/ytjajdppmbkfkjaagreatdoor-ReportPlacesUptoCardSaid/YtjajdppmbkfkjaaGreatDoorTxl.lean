/- Slices of texts that are read; the reference's Texts: are two rows of texts the same? -/
import Derived.Test.YtjajdppmbkfkjaaGreatDoorRowT
import Derived.Test.YtjajdppmbkfkjaaGreatDoorTxt
namespace Go.Proofs.YtjajdppmbkfkjaaGreatDoor
open Go.RowKit
set_option linter.unusedSimpArgs false
set_option linter.unusedVariables false
set_option linter.unnecessarySimpa false

def strs (xs : List (List UInt8)) : List Value := xs.map fun l => .string (str l)
theorem strs_length (xs : List (List UInt8)) : (strs xs).length = xs.length := by simp [strs]
theorem strs_append (xs ys : List (List UInt8)) : strs (xs ++ ys) = strs xs ++ strs ys := by simp [strs]

/-- v reads as the texts xs -/
def Txts (w : World) (v : Value) (xs : List (List UInt8)) : Prop :=
  (xs = [] ∧ ∃ a cap, v = .slice a 0 cap) ∨
  ∃ b off cap, v = .slice (some ⟨b, off, none⟩) xs.length cap ∧ b < w.heap.size ∧ ∀ (j : Nat) (h : j < xs.length), w.cell? ⟨b, off + j, none⟩ = some (.string (str (xs[j]'h)))

theorem Txts.call {w w' : World} {v : Value} {xs : List (List UInt8)} (h : Txts w v xs) (hb : Below w.heap.size w w') : Txts w' v xs := by
  rcases h with h | ⟨b, off, cap, hv, hlt, hc⟩
  · exact .inl h
  · refine .inr ⟨b, off, cap, hv, Nat.lt_of_lt_of_le hlt hb.size, fun j hj => ?_⟩
    rw [hb.cell (p := ⟨b, off + j, none⟩) hlt]
    exact hc j hj
theorem Txts.blk {w : World} {b : Nat} {xs : List (List UInt8)} (h : Blk w b (strs xs) 9) (cap : Nat) : Txts w (.slice (some ⟨b, 0, none⟩) xs.length cap) xs := by
  refine .inr ⟨b, 0, cap, rfl, h.lt, fun j hj => ?_⟩
  rw [Nat.zero_add, h.cell]
  simp [strs, hj]
theorem Txts.row {w : World} {B : Nat} {v : Value} {xs : List (List UInt8)} (h : Row w B 9 1 v xs.length (strs xs)) : Txts w v xs := by
  by_cases h0 : xs.length = 0
  · obtain ⟨a, cap, rfl, -⟩ := h.shape
    rw [h0]
    exact .inl ⟨List.eq_nil_of_length_eq_zero h0, a, cap, rfl⟩
  · obtain ⟨g, cap, rfl, -, -, hlt, hc, -⟩ := h.form (by omega)
    refine .inr ⟨g, 0, cap, rfl, hlt, fun j hj => ?_⟩
    rw [Nat.zero_add, hc j (by omega)]
    simp [strs, hj]

theorem Txts.form {w : World} {v : Value} {xs : List (List UInt8)} (h : Txts w v xs) :
    ∃ a cap, v = .slice a xs.length cap ∧ (0 < xs.length → ∃ b off, a = some ⟨b, off, none⟩ ∧ b < w.heap.size ∧ ∀ (j : Nat) (h : j < xs.length), w.cell? ⟨b, off + j, none⟩ = some (.string (str (xs[j]'h)))) := by
  rcases h with ⟨rfl, a, cap, rfl⟩ | ⟨b, off, cap, rfl, hlt, hc⟩
  · exact ⟨a, cap, rfl, fun h => absurd h (by simp)⟩
  · exact ⟨_, cap, rfl, fun _ => ⟨b, off, rfl, hlt, hc⟩⟩

theorem list_eq_of {xs ys : List (List UInt8)} (hl : xs.length = ys.length) (h : ∀ j (h1 : j < xs.length) (h2 : j < ys.length), xs[j] = ys[j]) : xs = ys := List.ext_getElem hl h

set_option maxRecDepth 100000 in
set_option maxHeartbeats 2000000 in
theorem texts_l (v1 v2 : Value) (xs ys : List (List UInt8)) (w : World) (h1 : Txts w v1 xs) (h2 : Txts w v2 ys) (hn : xs.length ≤ 1073741824) (hn2 : ys.length ≤ 1073741824) :
    Calls Tryz.prog 4 #[v1, v2] w (New (.bool (decide (xs = ys))) w) := by
  obtain ⟨a1, c1, rfl, hc1⟩ := h1.form
  obtain ⟨a2, c2, rfl, hc2⟩ := h2.form
  clear h1 h2
  by_cases hl : xs.length = ys.length
  · have HC1 := Lib.hid hc1
    have HC2 := Lib.hid hc2
    clear hc1 hc2
    have HL := Lib.hid hl
    have hne : (((ys.length : Nat) : Int) != ((ys.length : Nat) : Int)) = false := by simp
    generalize hd : decide (xs = ys) = d
    have HD := Lib.hid hd
    clear hd
    obtain ⟨n, hny⟩ : ∃ n, ys.length = n := ⟨_, rfl⟩
    rw [hl, hny]
    rw [hny] at hne hn2
    have HNY := Lib.hid hny
    clear hny hl hn
    go_enter Tryz.func4, Tryz.ntmps4
    go_wp2_with fail
    go_loopw [5] (fun i wr => ∃ k : Nat, k ≤ n ∧ i = .int .i64 k ∧ Hid (∀ j (h1 : j < xs.length) (h2 : j < ys.length), j < k → xs[j] = ys[j]) ∧ Hid (Below w.heap.size w wr)) (fun i _ => n - (intOf i).toNat)
    case atStart => exact ⟨0, Nat.zero_le _, rfl, fun j _ _ h => absurd h (Nat.not_lt_zero _), Below.refl _ _⟩
    case round =>
      obtain ⟨k, hk, rfl, HS, HB⟩ := hrel
      by_cases hlt : k < n
      · have hx : k < xs.length := by rw [HL.out, HNY.out]; exact hlt
        have hy : k < ys.length := by rw [HNY.out]; exact hlt
        obtain ⟨b1, o1, rfl, hb1, g1⟩ := HC1.out (by rw [HL.out, HNY.out]; omega)
        obtain ⟨b2, o2, rfl, hb2, g2⟩ := HC2.out (by rw [HNY.out]; omega)
        have q1 : wr.cell? ⟨b1, o1 + k, none⟩ = some (.string (str xs[k])) := by rw [HB.out.cell (p := ⟨b1, o1 + k, none⟩) hb1]; exact g1 k hx
        have q2 : wr.cell? ⟨b2, o2 + k, none⟩ = some (.string (str ys[k])) := by rw [HB.out.cell (p := ⟨b2, o2 + k, none⟩) hb2]; exact g2 k hy
        clear g1 g2
        have HX : Hid (xs[k] = ys[k] → ∀ j (h1 : j < xs.length) (h2 : j < ys.length), j < k + 1 → xs[j] = ys[j]) := by
          intro h j h1 h2 hj
          by_cases e : j = k
          · subst e; exact h
          · exact HS.out j h1 h2 (by omega)
        have HXN : Hid (xs[k] ≠ ys[k] → decide (xs = ys) = false) := by
          intro h
          apply decide_eq_false
          rintro rfl
          exact h rfl
        have e1 := str_toList xs[k]
        have e2 := str_toList ys[k]
        generalize xs[k] = x at *
        generalize ys[k] = y at *
        go_wp2_with fail
        go_region
        go_wp2_with fail
        · have hxy : (!x == y) = true := by assumption
          go_ret
          refine ⟨ret_bool (Eq.symm ?_), ?_⟩
          · rw [← HD.out]
            exact HXN.out (by simpa using hxy)
          · repeat (first | (with_reducible exact HB.out) | (with_reducible refine Below.drew ?_))
        · have hxy : (!x == y) = false := by assumption
          exact ⟨⟨k + 1, hlt, by simp, HX.out (by simpa using hxy), show Below _ _ _ from by repeat (first | (with_reducible exact HB.out) | (with_reducible refine Below.drew ?_))⟩, by simp [intOf]; omega⟩
      · obtain rfl : k = n := by omega
        go_wp2_with fail
        go_ret
        refine ⟨ret_bool (Eq.symm ?_), HB.out⟩
        rw [← HD.out]
        apply decide_eq_true
        exact list_eq_of HL.out (fun j h1 h2 => HS.out j h1 h2 (by rw [HNY.out] at h2; exact h2))
  · have hne : (((xs.length : Nat) : Int) != ((ys.length : Nat) : Int)) = true := by
      have : ¬ ((xs.length : Nat) : Int) = ((ys.length : Nat) : Int) := by omega
      simpa using this
    have hf : decide (xs = ys) = false := by
      apply decide_eq_false
      rintro rfl
      exact hl rfl
    rw [hf]
    clear hc1 hc2 hf
    revert hn hn2 hne
    generalize xs.length = n1
    generalize ys.length = n2
    clear hl
    intro hn hn2 hne
    go_enter Tryz.func4, Tryz.ntmps4
    go_wp2_with fail
    go_ret
    exact ⟨rfl, Below.refl _ _⟩
end Go.Proofs.YtjajdppmbkfkjaaGreatDoor
