/- What is reached is closed, and grows with edges. Plain Lean, no program. -/
import Derived.Test.YtdpkhapcgbheeaaGreatDoorRfA
namespace Go.Proofs.YtdpkhapcgbheeaaGreatDoor.Rf
set_option linter.unusedSimpArgs false
set_option linter.unusedVariables false

/-- what may be said of a row that a search answers -/
structure Ans (n s : Int) (es : List (Int × Int)) (xs : List Int) : Prop where
  le : xs.length ≤ n.toNat
  range : ∀ x ∈ xs, 0 ≤ x ∧ x < n
  sorted : xs.Pairwise (· < ·)
  some_iff : 0 < xs.length ↔ (0 ≤ s ∧ s < n)
  start : 0 < xs.length → s ∈ xs
  shut : ∀ e ∈ es, e.1 ∈ xs → 0 ≤ e.2 → e.2 < n → e.2 ∈ xs

theorem ans_none {n s : Int} {es : List (Int × Int)} (h : s < 0 ∨ n ≤ s) : Ans n s es [] where
  le := Nat.zero_le _
  range := fun x h => by cases h
  sorted := List.Pairwise.nil
  some_iff := ⟨fun h => absurd h (by simp), fun h => by omega⟩
  start := fun h => absurd h (by simp)
  shut := fun e _ h => by cases h

theorem ans_pick {N k : Nat} {es : List (Int × Int)} {S : List Int} (hk : k < N) (h : ∀ y, y ∈ S ↔ To (nx N es) k y) : Ans N k es (pick N S) where
  le := by simpa using pick_le N S
  range := fun x hx => ⟨(mem_pick.1 hx).1, (mem_pick.1 hx).2.1⟩
  sorted := pick_sorted N S
  some_iff := by
    have hm : (k : Int) ∈ pick N S := mem_pick.2 ⟨by omega, by omega, (h k).2 .refl⟩
    exact ⟨fun _ => ⟨by omega, by omega⟩, fun _ => List.length_pos_of_mem hm⟩
  start := fun _ => mem_pick.2 ⟨by omega, by omega, (h k).2 .refl⟩
  shut := fun e he h1 h2 h3 => mem_pick.2 ⟨h2, h3, (h _).2 (.step ((h _).1 (mem_pick.1 h1).2.2) (mem_nx.2 ⟨he, h2, h3⟩))⟩

open Classical in
theorem set_ex {N k : Nat} (hk : k < N) (es : List (Int × Int)) : ∃ S : List Int, ∀ y, y ∈ S ↔ To (nx N es) k y := by
  refine ⟨((List.range N).map fun (i : Nat) => (i : Int)).filter fun y => decide (To (nx N es) k y), fun y => ?_⟩
  simp only [List.mem_filter, List.mem_map, List.mem_range, decide_eq_true_eq]
  constructor
  · exact fun h => h.2
  · intro h
    have hr : 0 ≤ y ∧ y < N := by
      cases h with
      | refl => omega
      | step _ hz => exact (mem_nx.1 hz).2
    exact ⟨⟨y.toNat, by omega, by omega⟩, h⟩

/-- more edges: what was reached is reached; so many of what is reached now -/
theorem count_pick {N k : Nat} {a b : List (Int × Int)} {S S' : List Int} (h : ∀ y, y ∈ S ↔ To (nx N a) k y) (h' : ∀ y, y ∈ S' ↔ To (nx N (a ++ b)) k y) :
    ((pick N S').filter fun y => decide (y ∈ pick N S)) = pick N S := by
  have hs : ∀ y ∈ S, y ∈ S' := fun y hy => (h' y).2 (((h y).1 hy).mono fun x z hz => by rw [nx_append]; exact List.mem_append_left _ hz)
  unfold pick
  rw [List.filter_filter]
  refine List.filter_congr fun i hi => ?_
  simp only [List.contains_eq_mem, List.mem_filter, decide_eq_true_eq]
  by_cases hm : i ∈ S
  · simp [hm, hs i hm, hi]
  · simp [hm]

/-- how many of the first k are in xs -/
def cnt (xs ys : List Int) (k : Nat) : Nat := ((ys.take k).filter fun y => decide (y ∈ xs)).length
theorem cnt_succ {xs ys : List Int} {k : Nat} (h : k < ys.length) : cnt xs ys (k + 1) = cnt xs ys k + if ys[k] ∈ xs then 1 else 0 := by
  unfold cnt
  rw [List.take_succ_eq_append_getElem h, List.filter_append, List.length_append]
  by_cases hm : ys[k] ∈ xs
  · simp [hm]
  · simp [hm]
theorem cnt_le (xs ys : List Int) (k : Nat) : cnt xs ys k ≤ k := by
  unfold cnt
  exact Nat.le_trans (List.length_filter_le _ _) (List.length_take_le _ _)
end Go.Proofs.YtdpkhapcgbheeaaGreatDoor.Rf

namespace Go.Proofs.YtdpkhapcgbheeaaGreatDoor
open Go.RowKit
/-! ### Marks -/
def bks (n : Nat) (M : List Int) : List Value := (List.range n).map fun (i : Nat) => .bool (decide ((i : Int) ∈ M))
theorem bks_get {n : Nat} {M : List Int} {i : Nat} (h : i < n) : (bks n M)[i]? = some (.bool (decide ((i : Int) ∈ M))) := by simp [bks, h]
theorem bks_set {n : Nat} {M : List Int} {i : Nat} (h : i < n) : (bks n M).set i (.bool true) = bks n (M ++ [(i : Int)]) := by
  apply List.ext_getElem?
  intro j
  rw [List.getElem?_set]
  by_cases e : i = j
  · subst e
    rw [if_pos rfl, if_pos (by simp [bks, h]), bks_get h]
    simp
  · rw [if_neg e]
    by_cases hj : j < n
    · rw [bks_get hj, bks_get hj]
      have : ((j : Int) ∈ M ++ [(i : Int)]) ↔ ((j : Int) ∈ M) := by
        rw [List.mem_append]
        have : ¬ (j : Int) = (i : Int) := by omega
        simp [this]
      simp only [this]
    · simp [bks, hj]
theorem bks_nil (n : Nat) : bks n [] = List.replicate n (.bool false) := by
  apply List.ext_getElem?
  intro j
  by_cases hj : j < n
  · rw [bks_get hj]; simp [hj]
  · simp [bks, hj]
end Go.Proofs.YtdpkhapcgbheeaaGreatDoor
