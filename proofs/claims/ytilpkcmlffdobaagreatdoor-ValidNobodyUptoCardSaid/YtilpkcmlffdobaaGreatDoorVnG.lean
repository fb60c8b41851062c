/- The program's maps lie as the form wants it: shown in parts. -/
import Derived.Test.YtilpkcmlffdobaaGreatDoorLoB
import Derived.JoinedCond
namespace Go.Proofs.YtilpkcmlffdobaaGreatDoor
noncomputable def mrF (P : Program) (t : TypeId) : Bool := match P.underlying t with | some (.map _ e) => decide (e < P.types.size) | _ => true
theorem mapsRowed_eq (P : Program) : mapsRowed P = (List.range P.types.size).all (mrF P) := rfl
theorem mr_0 : ((List.range 50).all fun i => mrF Tryz.prog (0 + i)) = true := by kernel_rfl
theorem mr_1 : ((List.range 50).all fun i => mrF Tryz.prog (50 + i)) = true := by kernel_rfl
theorem mr_2 : ((List.range 50).all fun i => mrF Tryz.prog (100 + i)) = true := by kernel_rfl
theorem mr_3 : ((List.range 50).all fun i => mrF Tryz.prog (150 + i)) = true := by kernel_rfl
theorem mr_4 : ((List.range 50).all fun i => mrF Tryz.prog (200 + i)) = true := by kernel_rfl
theorem mr_5 : ((List.range 50).all fun i => mrF Tryz.prog (250 + i)) = true := by kernel_rfl
theorem mr_6 : ((List.range 50).all fun i => mrF Tryz.prog (300 + i)) = true := by kernel_rfl
theorem mr_7 : ((List.range 50).all fun i => mrF Tryz.prog (350 + i)) = true := by kernel_rfl
theorem mr_8 : ((List.range 50).all fun i => mrF Tryz.prog (400 + i)) = true := by kernel_rfl
theorem mr_9 : ((List.range 50).all fun i => mrF Tryz.prog (450 + i)) = true := by kernel_rfl
theorem mr_10 : ((List.range 50).all fun i => mrF Tryz.prog (500 + i)) = true := by kernel_rfl
theorem mr_11 : ((List.range 50).all fun i => mrF Tryz.prog (550 + i)) = true := by kernel_rfl
theorem mr_12 : ((List.range 50).all fun i => mrF Tryz.prog (600 + i)) = true := by kernel_rfl
theorem mr_13 : ((List.range 50).all fun i => mrF Tryz.prog (650 + i)) = true := by kernel_rfl
theorem mr_14 : ((List.range 39).all fun i => mrF Tryz.prog (700 + i)) = true := by kernel_rfl
theorem mapsRowed_l : mapsRowed Tryz.prog = true := by
  rw [mapsRowed_eq]
  refine List.all_eq_true.2 fun t ht => ?_
  have ht := List.mem_range.1 ht
  rw [lo_size] at ht
  have hq : (0 ≤ t ∧ t < 50) ∨ (50 ≤ t ∧ t < 100) ∨ (100 ≤ t ∧ t < 150) ∨ (150 ≤ t ∧ t < 200) ∨ (200 ≤ t ∧ t < 250) ∨ (250 ≤ t ∧ t < 300) ∨ (300 ≤ t ∧ t < 350) ∨ (350 ≤ t ∧ t < 400) ∨ (400 ≤ t ∧ t < 450) ∨ (450 ≤ t ∧ t < 500) ∨ (500 ≤ t ∧ t < 550) ∨ (550 ≤ t ∧ t < 600) ∨ (600 ≤ t ∧ t < 650) ∨ (650 ≤ t ∧ t < 700) ∨ (700 ≤ t ∧ t < 739) := by omega
  rcases hq with h | h | h | h | h | h | h | h | h | h | h | h | h | h | h
  · have h1 := List.all_eq_true.1 mr_0 (t - 0) (List.mem_range.2 (by omega))
    rw [show 0 + (t - 0) = t by omega] at h1
    exact h1
  · have h1 := List.all_eq_true.1 mr_1 (t - 50) (List.mem_range.2 (by omega))
    rw [show 50 + (t - 50) = t by omega] at h1
    exact h1
  · have h1 := List.all_eq_true.1 mr_2 (t - 100) (List.mem_range.2 (by omega))
    rw [show 100 + (t - 100) = t by omega] at h1
    exact h1
  · have h1 := List.all_eq_true.1 mr_3 (t - 150) (List.mem_range.2 (by omega))
    rw [show 150 + (t - 150) = t by omega] at h1
    exact h1
  · have h1 := List.all_eq_true.1 mr_4 (t - 200) (List.mem_range.2 (by omega))
    rw [show 200 + (t - 200) = t by omega] at h1
    exact h1
  · have h1 := List.all_eq_true.1 mr_5 (t - 250) (List.mem_range.2 (by omega))
    rw [show 250 + (t - 250) = t by omega] at h1
    exact h1
  · have h1 := List.all_eq_true.1 mr_6 (t - 300) (List.mem_range.2 (by omega))
    rw [show 300 + (t - 300) = t by omega] at h1
    exact h1
  · have h1 := List.all_eq_true.1 mr_7 (t - 350) (List.mem_range.2 (by omega))
    rw [show 350 + (t - 350) = t by omega] at h1
    exact h1
  · have h1 := List.all_eq_true.1 mr_8 (t - 400) (List.mem_range.2 (by omega))
    rw [show 400 + (t - 400) = t by omega] at h1
    exact h1
  · have h1 := List.all_eq_true.1 mr_9 (t - 450) (List.mem_range.2 (by omega))
    rw [show 450 + (t - 450) = t by omega] at h1
    exact h1
  · have h1 := List.all_eq_true.1 mr_10 (t - 500) (List.mem_range.2 (by omega))
    rw [show 500 + (t - 500) = t by omega] at h1
    exact h1
  · have h1 := List.all_eq_true.1 mr_11 (t - 550) (List.mem_range.2 (by omega))
    rw [show 550 + (t - 550) = t by omega] at h1
    exact h1
  · have h1 := List.all_eq_true.1 mr_12 (t - 600) (List.mem_range.2 (by omega))
    rw [show 600 + (t - 600) = t by omega] at h1
    exact h1
  · have h1 := List.all_eq_true.1 mr_13 (t - 650) (List.mem_range.2 (by omega))
    rw [show 650 + (t - 650) = t by omega] at h1
    exact h1
  · have h1 := List.all_eq_true.1 mr_14 (t - 700) (List.mem_range.2 (by omega))
    rw [show 700 + (t - 700) = t by omega] at h1
    exact h1
theorem heard_l : Tryz.prog.stopsHeard = true := by kernel_rfl
theorem stops_l : (Tryz.prog.stops == []) = true := by kernel_rfl
theorem knobs_l : (Tryz.prog.stopKnobs == []) = true := by kernel_rfl
theorem enter_l : Tryz.prog.mayEnter = true := by kernel_rfl
end Go.Proofs.YtilpkcmlffdobaaGreatDoor
