/- What is reached by edges: two searches find the same. Plain Lean, no program. -/
import Derived.WalkKit
namespace Go.Proofs.YtdpkhapcgbheeaaGreatDoor.Rf
set_option linter.unusedSimpArgs false
set_option linter.unusedVariables false

/-- the edges that a search goes by: their numbers, within n -/
def nx (n : Int) (es : List (Int × Int)) (x : Int) : List Int := es.filterMap fun e => if e.1 = x ∧ 0 ≤ e.2 ∧ e.2 < n then some e.2 else none

theorem mem_nx {n : Int} {es : List (Int × Int)} {x y : Int} : y ∈ nx n es x ↔ (x, y) ∈ es ∧ 0 ≤ y ∧ y < n := by
  unfold nx
  rw [List.mem_filterMap]
  constructor
  · rintro ⟨⟨a, b⟩, h1, h2⟩
    by_cases h : a = x ∧ 0 ≤ b ∧ b < n
    · rw [if_pos h] at h2
      cases h2
      exact ⟨by rw [← h.1]; exact h1, h.2⟩
    · rw [if_neg h] at h2; cases h2
  · rintro ⟨h1, h2⟩
    exact ⟨(x, y), h1, by rw [if_pos ⟨rfl, h2⟩]⟩

theorem nx_append (n : Int) (a b : List (Int × Int)) (x : Int) : nx n (a ++ b) x = nx n a x ++ nx n b x := by simp [nx, List.filterMap_append]

/-- y is reached from x -/
inductive To (f : Int → List Int) (x : Int) : Int → Prop where
  | refl : To f x x
  | step {y z : Int} (h : To f x y) (hz : z ∈ f y) : To f x z

theorem To.trans {f : Int → List Int} {x y z : Int} (h : To f x y) (k : To f y z) : To f x z := by
  induction k with
  | refl => exact h
  | step _ hz ih => exact .step ih hz

theorem To.mono {f g : Int → List Int} (h : ∀ x, ∀ y ∈ f x, y ∈ g x) {x y : Int} (k : To f x y) : To g x y := by
  induction k with
  | refl => exact .refl
  | step _ hz ih => exact .step ih (h _ _ hz)

/-- the search that goes down first: what has been seen, what is asked in turn, what has been seen then -/
inductive Dfs (f : Int → List Int) : List Int → List Int → List Int → Prop where
  | nil (S : List Int) : Dfs f S [] S
  | old {S ys S' : List Int} {x : Int} (hx : x ∈ S) (h : Dfs f S ys S') : Dfs f S (x :: ys) S'
  | new {S ys S1 S' : List Int} {x : Int} (hx : x ∉ S) (h : Dfs f (x :: S) (f x) S1) (h' : Dfs f S1 ys S') : Dfs f S (x :: ys) S'

theorem Dfs.append {f : Int → List Int} {S a S1 b S2 : List Int} (h : Dfs f S a S1) (k : Dfs f S1 b S2) : Dfs f S (a ++ b) S2 := by
  induction h with
  | nil S => exact k
  | old hx _ ih => exact .old hx (ih k)
  | new hx h _ _ ih => exact .new hx h (ih k)

theorem Dfs.sub {f : Int → List Int} {S a S' : List Int} (h : Dfs f S a S') : ∀ x ∈ S, x ∈ S' := by
  induction h with
  | nil S => exact fun x hx => hx
  | old hx _ ih => exact ih
  | new hx _ _ ih1 ih2 => exact fun x hx => ih2 x (ih1 x (List.mem_cons_of_mem _ hx))

theorem Dfs.asked {f : Int → List Int} {S a S' : List Int} (h : Dfs f S a S') : ∀ x ∈ a, x ∈ S' := by
  induction h with
  | nil S => intro x hx; cases hx
  | old hx h ih =>
    intro x h1
    rcases List.mem_cons.1 h1 with rfl | h1
    · exact h.sub _ hx
    · exact ih x h1
  | new hx h h' ih1 ih2 =>
    intro x h1
    rcases List.mem_cons.1 h1 with rfl | h1
    · exact h'.sub _ (h.sub _ (List.mem_cons_self ..))
    · exact ih2 x h1

theorem Dfs.from {f : Int → List Int} {S a S' : List Int} (h : Dfs f S a S') : ∀ y ∈ S', y ∈ S ∨ ∃ t ∈ a, To f t y := by
  induction h with
  | nil S => exact fun y hy => .inl hy
  | old hx _ ih =>
    intro y hy
    rcases ih y hy with h | ⟨t, h1, h2⟩
    · exact .inl h
    · exact .inr ⟨t, List.mem_cons_of_mem _ h1, h2⟩
  | @new S ys S1 S' x hx h h' ih1 ih2 =>
    intro y hy
    rcases ih2 y hy with h | ⟨t, h1, h2⟩
    · rcases ih1 y h with h | ⟨t, h1, h2⟩
      · rcases List.mem_cons.1 h with rfl | h
        · exact .inr ⟨y, List.mem_cons_self .., .refl⟩
        · exact .inl h
      · exact .inr ⟨x, List.mem_cons_self .., (To.step .refl h1).trans h2⟩
    · exact .inr ⟨t, List.mem_cons_of_mem _ h1, h2⟩

theorem Dfs.shut {f : Int → List Int} {S a S' : List Int} (h : Dfs f S a S') : ∀ y ∈ S', y ∈ S ∨ ∀ z ∈ f y, z ∈ S' := by
  induction h with
  | nil S => exact fun y hy => .inl hy
  | old hx _ ih => exact ih
  | new hx h h' ih1 ih2 =>
    intro y hy
    rcases ih2 y hy with k | k
    · rcases ih1 y k with k | k
      · rcases List.mem_cons.1 k with rfl | k
        · exact .inr fun z hz => h'.sub _ (h.asked z hz)
        · exact .inl k
      · exact .inr fun z hz => h'.sub _ (k z hz)
    · exact .inr k

/-- the search's end -/
theorem Dfs.all {f : Int → List Int} {x : Int} {S : List Int} (h : Dfs f [] [x] S) (y : Int) : y ∈ S ↔ To f x y := by
  constructor
  · intro hy
    rcases h.from y hy with k | ⟨t, k1, k2⟩
    · cases k
    · rcases List.mem_cons.1 k1 with rfl | k1
      · exact k2
      · cases k1
  · intro k
    induction k with
    | refl => exact h.asked x (List.mem_cons_self ..)
    | step _ hz ih =>
      rcases h.shut _ ih with k | k
      · cases k
      · exact k _ hz

/-- how many of the numbers below n have not been seen -/
def left (n : Nat) (S : List Int) : Nat := ((List.range n).filter fun (i : Nat) => !(S.contains (i : Int))).length

theorem filter_le {α : Type} {p q : α → Bool} (h : ∀ x, p x = true → q x = true) : ∀ l : List α, (l.filter p).length ≤ (l.filter q).length
  | [] => Nat.le_refl _
  | x :: l => by
    have ih := filter_le h l
    by_cases hp : p x = true
    · rw [List.filter_cons_of_pos hp, List.filter_cons_of_pos (h x hp), List.length_cons, List.length_cons]; omega
    · by_cases hq : q x = true
      · rw [List.filter_cons_of_neg hp, List.filter_cons_of_pos hq, List.length_cons]; omega
      · rw [List.filter_cons_of_neg hp, List.filter_cons_of_neg hq]; exact ih

theorem filter_lt {α : Type} {p q : α → Bool} (h : ∀ x, p x = true → q x = true) {a : α} (hp : ¬ p a = true) (hq : q a = true) : ∀ l : List α, a ∈ l → (l.filter p).length < (l.filter q).length
  | [], ha => by cases ha
  | x :: l, ha => by
    rcases List.mem_cons.1 ha with rfl | ha
    · have := filter_le h l
      rw [List.filter_cons_of_neg hp, List.filter_cons_of_pos hq, List.length_cons]; omega
    · have ih := filter_lt h hp hq l ha
      by_cases hp : p x = true
      · rw [List.filter_cons_of_pos hp, List.filter_cons_of_pos (h x hp), List.length_cons, List.length_cons]; omega
      · by_cases hq : q x = true
        · rw [List.filter_cons_of_neg hp, List.filter_cons_of_pos hq, List.length_cons]; omega
        · rw [List.filter_cons_of_neg hp, List.filter_cons_of_neg hq]; exact ih

theorem left_sub {n : Nat} {S S' : List Int} (h : ∀ x ∈ S, x ∈ S') : left n S' ≤ left n S :=
  filter_le (fun x hx => by
    simp only [Bool.not_eq_true', List.contains_eq_mem, decide_eq_false_iff_not] at hx ⊢
    exact fun k => hx (h _ k)) _

theorem left_new {n : Nat} {S : List Int} {x : Int} (h0 : 0 ≤ x) (h1 : x < n) (hx : x ∉ S) : left n (x :: S) < left n S := by
  obtain ⟨k, rfl⟩ : ∃ k : Nat, x = k := ⟨x.toNat, by omega⟩
  refine filter_lt (a := k) (fun i hi => ?_) ?_ ?_ _ (List.mem_range.2 (by omega))
  · simp only [Bool.not_eq_true', List.contains_eq_mem, decide_eq_false_iff_not] at hi ⊢
    exact fun h => hi (List.mem_cons_of_mem _ h)
  · simp
  · simp only [Bool.not_eq_true', List.contains_eq_mem, decide_eq_false_iff_not]; exact hx

/-- the search that goes wide: what is marked, what is to do -/
structure Bfs (f : Int → List Int) (x : Int) (M Q : List Int) : Prop where
  start : x ∈ M ∨ x ∈ Q
  mark : ∀ y ∈ M, To f x y
  todo : ∀ y ∈ Q, To f x y
  shut : ∀ y ∈ M, ∀ z ∈ f y, z ∈ M ∨ z ∈ Q

theorem Bfs.begin (f : Int → List Int) (x : Int) : Bfs f x [] [x] where
  start := .inr (List.mem_cons_self ..)
  mark := fun y h => by cases h
  todo := fun y h => by
    rcases List.mem_cons.1 h with rfl | h
    · exact .refl
    · cases h
  shut := fun y h => by cases h
theorem Bfs.old {f : Int → List Int} {x : Int} {M Q : List Int} {y : Int} (h : Bfs f x M (y :: Q)) (hy : y ∈ M) : Bfs f x M Q where
  start := h.start.elim .inl fun k => by
    rcases List.mem_cons.1 k with rfl | k
    · exact .inl hy
    · exact .inr k
  mark := h.mark
  todo := fun z hz => h.todo z (List.mem_cons_of_mem _ hz)
  shut := fun u hu z hz => (h.shut u hu z hz).elim .inl fun k => by
    rcases List.mem_cons.1 k with rfl | k
    · exact .inl hy
    · exact .inr k
theorem Bfs.new {f : Int → List Int} {x : Int} {M Q : List Int} {y : Int} (h : Bfs f x M (y :: Q)) : Bfs f x (y :: M) (Q ++ f y) where
  start := h.start.elim (fun k => .inl (List.mem_cons_of_mem _ k)) fun k => by
    rcases List.mem_cons.1 k with rfl | k
    · exact .inl (List.mem_cons_self ..)
    · exact .inr (List.mem_append_left _ k)
  mark := fun z hz => by
    rcases List.mem_cons.1 hz with rfl | hz
    · exact h.todo _ (List.mem_cons_self ..)
    · exact h.mark z hz
  todo := fun z hz => by
    rcases List.mem_append.1 hz with hz | hz
    · exact h.todo z (List.mem_cons_of_mem _ hz)
    · exact .step (h.todo y (List.mem_cons_self ..)) hz
  shut := fun u hu z hz => by
    rcases List.mem_cons.1 hu with rfl | hu
    · exact .inr (List.mem_append_right _ hz)
    · rcases h.shut u hu z hz with k | k
      · exact .inl (List.mem_cons_of_mem _ k)
      · rcases List.mem_cons.1 k with rfl | k
        · exact .inl (List.mem_cons_self ..)
        · exact .inr (List.mem_append_left _ k)
theorem Bfs.all {f : Int → List Int} {x : Int} {M : List Int} (h : Bfs f x M []) (y : Int) : y ∈ M ↔ To f x y := by
  constructor
  · exact h.mark y
  · intro k
    induction k with
    | refl => exact h.start.elim id fun k => by cases k
    | step _ hz ih => exact (h.shut _ ih _ hz).elim id fun k => by cases k

/-- the numbers below n that are in a set -/
def pick (n : Nat) (S : List Int) : List Int := ((List.range n).map fun (i : Nat) => (i : Int)).filter fun i => S.contains i

theorem pick_congr {n : Nat} {S M : List Int} (h : ∀ y, y ∈ S ↔ y ∈ M) : pick n S = pick n M := by
  unfold pick
  refine List.filter_congr fun i _ => ?_
  simp only [List.contains_eq_mem]
  exact decide_eq_decide.2 (h i)

theorem pick_succ (n : Nat) (S : List Int) : pick (n + 1) S = pick n S ++ (if (n : Int) ∈ S then [(n : Int)] else []) := by
  unfold pick
  rw [List.range_succ, List.map_append, List.filter_append]
  congr 1
  by_cases h : (n : Int) ∈ S
  · rw [if_pos h]; simp [h]
  · rw [if_neg h]; simp [h]

theorem mem_pick {n : Nat} {S : List Int} {x : Int} : x ∈ pick n S ↔ 0 ≤ x ∧ x < n ∧ x ∈ S := by
  unfold pick
  rw [List.mem_filter, List.mem_map]
  simp only [List.mem_range, List.contains_eq_mem, decide_eq_true_eq]
  constructor
  · rintro ⟨⟨i, h1, rfl⟩, h2⟩; exact ⟨by omega, by omega, h2⟩
  · rintro ⟨h1, h2, h3⟩; exact ⟨⟨x.toNat, by omega, by omega⟩, h3⟩

theorem pick_le (n : Nat) (S : List Int) : (pick n S).length ≤ n := by
  unfold pick
  exact Nat.le_trans (List.length_filter_le _ _) (by simp)

/-- they stand in order -/
theorem pick_sorted (n : Nat) (S : List Int) : (pick n S).Pairwise (· < ·) := by
  unfold pick
  refine List.Pairwise.filter _ ?_
  rw [List.pairwise_map]
  exact (List.pairwise_lt_range).imp fun h => by omega
/-- what is found, as one row -/
theorem found_ex (n : Nat) (f : Int → List Int) (x : Int) : ∃ D : List Int, D.length ≤ n ∧ ∀ S : List Int, (∀ y, y ∈ S ↔ To f x y) → pick n S = D := by
  by_cases h : ∃ S : List Int, ∀ y, y ∈ S ↔ To f x y
  · obtain ⟨S, hS⟩ := h
    exact ⟨pick n S, pick_le n S, fun S' h' => pick_congr fun y => (h' y).trans (hS y).symm⟩
  · exact ⟨[], by simp, fun S hS => absurd ⟨S, hS⟩ h⟩
end Go.Proofs.YtdpkhapcgbheeaaGreatDoor.Rf
