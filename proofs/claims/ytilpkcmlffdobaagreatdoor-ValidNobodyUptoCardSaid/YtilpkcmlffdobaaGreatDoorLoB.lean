/- The program's types and variables lie as the form wants it: shown in parts. Printed by gen_vnrow.py. -/
import Derived.Test.YtilpkcmlffdobaaGreatDoorProg
import Derived.KernelRfl
import GoSem.ClaimDataLaid
namespace Go.Proofs.YtilpkcmlffdobaaGreatDoor
theorem lo_0 : ((List.range 50).all fun i => rowFine Tryz.prog (0 + i)) = true := by kernel_rfl
theorem lo_1 : ((List.range 50).all fun i => rowFine Tryz.prog (50 + i)) = true := by kernel_rfl
theorem lo_2 : ((List.range 50).all fun i => rowFine Tryz.prog (100 + i)) = true := by kernel_rfl
theorem lo_3 : ((List.range 50).all fun i => rowFine Tryz.prog (150 + i)) = true := by kernel_rfl
theorem lo_4 : ((List.range 50).all fun i => rowFine Tryz.prog (200 + i)) = true := by kernel_rfl
theorem lo_5 : ((List.range 50).all fun i => rowFine Tryz.prog (250 + i)) = true := by kernel_rfl
theorem lo_6 : ((List.range 50).all fun i => rowFine Tryz.prog (300 + i)) = true := by kernel_rfl
theorem lo_7 : ((List.range 50).all fun i => rowFine Tryz.prog (350 + i)) = true := by kernel_rfl
theorem lo_8 : ((List.range 50).all fun i => rowFine Tryz.prog (400 + i)) = true := by kernel_rfl
theorem lo_9 : ((List.range 50).all fun i => rowFine Tryz.prog (450 + i)) = true := by kernel_rfl
theorem lo_10 : ((List.range 50).all fun i => rowFine Tryz.prog (500 + i)) = true := by kernel_rfl
theorem lo_11 : ((List.range 50).all fun i => rowFine Tryz.prog (550 + i)) = true := by kernel_rfl
theorem lo_12 : ((List.range 50).all fun i => rowFine Tryz.prog (600 + i)) = true := by kernel_rfl
theorem lo_13 : ((List.range 50).all fun i => rowFine Tryz.prog (650 + i)) = true := by kernel_rfl
theorem lo_14 : ((List.range 39).all fun i => rowFine Tryz.prog (700 + i)) = true := by kernel_rfl
theorem lo_size : Tryz.prog.types.size = 739 := by kernel_rfl
theorem lo_glob : (Tryz.prog.globals.all fun g => decide (g.type < Tryz.prog.types.size)) = true := by kernel_rfl
theorem lo_func : (Tryz.prog.funcs.all fun f => f.params.all fun t => decide (t < Tryz.prog.types.size)) = true := by kernel_rfl
theorem laidOut : laidOutB Tryz.prog = true := by
  unfold laidOutB
  rw [Bool.and_eq_true, Bool.and_eq_true]
  refine ⟨⟨List.all_eq_true.2 fun t ht => ?_, lo_glob⟩, lo_func⟩
  have ht := List.mem_range.1 ht
  rw [lo_size] at ht
  have hq : (0 ≤ t ∧ t < 50) ∨ (50 ≤ t ∧ t < 100) ∨ (100 ≤ t ∧ t < 150) ∨ (150 ≤ t ∧ t < 200) ∨ (200 ≤ t ∧ t < 250) ∨ (250 ≤ t ∧ t < 300) ∨ (300 ≤ t ∧ t < 350) ∨ (350 ≤ t ∧ t < 400) ∨ (400 ≤ t ∧ t < 450) ∨ (450 ≤ t ∧ t < 500) ∨ (500 ≤ t ∧ t < 550) ∨ (550 ≤ t ∧ t < 600) ∨ (600 ≤ t ∧ t < 650) ∨ (650 ≤ t ∧ t < 700) ∨ (700 ≤ t ∧ t < 739) := by omega
  rcases hq with h | h | h | h | h | h | h | h | h | h | h | h | h | h | h
  · have h1 := List.all_eq_true.1 lo_0 (t - 0) (List.mem_range.2 (by omega))
    rw [show 0 + (t - 0) = t by omega] at h1
    exact h1
  · have h1 := List.all_eq_true.1 lo_1 (t - 50) (List.mem_range.2 (by omega))
    rw [show 50 + (t - 50) = t by omega] at h1
    exact h1
  · have h1 := List.all_eq_true.1 lo_2 (t - 100) (List.mem_range.2 (by omega))
    rw [show 100 + (t - 100) = t by omega] at h1
    exact h1
  · have h1 := List.all_eq_true.1 lo_3 (t - 150) (List.mem_range.2 (by omega))
    rw [show 150 + (t - 150) = t by omega] at h1
    exact h1
  · have h1 := List.all_eq_true.1 lo_4 (t - 200) (List.mem_range.2 (by omega))
    rw [show 200 + (t - 200) = t by omega] at h1
    exact h1
  · have h1 := List.all_eq_true.1 lo_5 (t - 250) (List.mem_range.2 (by omega))
    rw [show 250 + (t - 250) = t by omega] at h1
    exact h1
  · have h1 := List.all_eq_true.1 lo_6 (t - 300) (List.mem_range.2 (by omega))
    rw [show 300 + (t - 300) = t by omega] at h1
    exact h1
  · have h1 := List.all_eq_true.1 lo_7 (t - 350) (List.mem_range.2 (by omega))
    rw [show 350 + (t - 350) = t by omega] at h1
    exact h1
  · have h1 := List.all_eq_true.1 lo_8 (t - 400) (List.mem_range.2 (by omega))
    rw [show 400 + (t - 400) = t by omega] at h1
    exact h1
  · have h1 := List.all_eq_true.1 lo_9 (t - 450) (List.mem_range.2 (by omega))
    rw [show 450 + (t - 450) = t by omega] at h1
    exact h1
  · have h1 := List.all_eq_true.1 lo_10 (t - 500) (List.mem_range.2 (by omega))
    rw [show 500 + (t - 500) = t by omega] at h1
    exact h1
  · have h1 := List.all_eq_true.1 lo_11 (t - 550) (List.mem_range.2 (by omega))
    rw [show 550 + (t - 550) = t by omega] at h1
    exact h1
  · have h1 := List.all_eq_true.1 lo_12 (t - 600) (List.mem_range.2 (by omega))
    rw [show 600 + (t - 600) = t by omega] at h1
    exact h1
  · have h1 := List.all_eq_true.1 lo_13 (t - 650) (List.mem_range.2 (by omega))
    rw [show 650 + (t - 650) = t by omega] at h1
    exact h1
  · have h1 := List.all_eq_true.1 lo_14 (t - 700) (List.mem_range.2 (by omega))
    rw [show 700 + (t - 700) = t by omega] at h1
    exact h1
end Go.Proofs.YtilpkcmlffdobaaGreatDoor
