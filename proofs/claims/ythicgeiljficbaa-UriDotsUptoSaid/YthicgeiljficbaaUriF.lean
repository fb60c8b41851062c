/- Package uri over lists of bytes: back, Dots. -/
import Derived.Test.YthicgeiljficbaaUriE
import Derived.Test.YthicgeiljficbaaRow
namespace Go.Proofs.Ythicgeiljficbaa
open Go.RowKit
set_option linter.unusedSimpArgs false
set_option linter.unusedVariables false
set_option linter.unnecessarySimpa false

theorem strs_length (xs : List (List UInt8)) : (strs xs).length = xs.length := by simp [strs]
theorem strs_append (xs ys : List (List UInt8)) : strs (xs ++ ys) = strs xs ++ strs ys := by simp [strs]

/-- a slice of texts was returned, a row of the call's own; the world is as it was -/
def GivesRow (w : World) (B : Nat) (out : List (List UInt8)) (e : Ending) (w' : World) : Prop := ∃ v', e = .returned v' ∧ w = w' ∧ Row w B 9 1 v' out.length (strs out)

set_option maxHeartbeats 400000 in
theorem back_l (B : Nat) (v : Value) (out : List (List UInt8)) (w : World) (h : Row w B 9 1 v out.length (strs out)) (hmax : out.length ≤ 4294967200) :
    Calls Try.prog 21 #[v] w (GivesRow w B out.dropLast) := by
  by_cases hn : out.length = 0
  · obtain rfl : out = [] := List.eq_nil_of_length_eq_zero hn
    obtain ⟨a, cap, rfl, hcap⟩ := h.shape
    have HW := Lib.hid h
    clear h
    simp only [List.length_nil]
    go_enter Try.func21, Try.ntmps21
    go_wp2
    go_ret
    exact ⟨_, rfl, rfl, HW.out⟩
  · obtain ⟨g, cap, rfl, hcap, -⟩ := h.form (by omega)
    obtain ⟨n, hlen⟩ : ∃ n, out.length = n + 1 := ⟨out.length - 1, by omega⟩
    have hne : out ≠ [] := by intro h0; subst h0; simp at hn
    have hd : out.dropLast.length = n := by rw [List.length_dropLast]; omega
    have HW : Hid (Row w B 9 1 (.slice (some ⟨g, 0, none⟩) n n) out.dropLast.length (strs out.dropLast)) := by
      rw [hd]
      rw [← List.dropLast_concat_getLast hne] at h
      rw [strs_append, List.length_append] at h
      rw [hd] at h
      exact h.pop (by rw [strs_length]; omega) n (Nat.le_refl _) (by omega)
    have e0 : (((n : Nat) : Int) + 1 == 0) = false := by
      have : ¬ ((n : Nat) : Int) + 1 = 0 := by omega
      simpa using this
    rw [hlen] at hcap hmax ⊢
    clear h hn hne hd hlen
    go_enter Try.func21, Try.ntmps21
    go_wp2
    go_ret
    exact ⟨_, rfl, rfl, HW.out⟩
end Go.Proofs.Ythicgeiljficbaa
