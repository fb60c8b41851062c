/- Edges put together: append of rows of edges. -/
import Derived.Test.YtdpkhapcgbheeaaGreatDoorRfK
import Derived.Deep.Upon
namespace Go.Proofs.YtdpkhapcgbheeaaGreatDoor
open Go.RowKit
set_option linter.unusedSimpArgs false
set_option linter.unusedVariables false
set_option linter.unnecessarySimpa false

/-- an edge's cells -/
def ec (e : Ed) : List Value := [.int .i64 e.1, .int .i64 e.2.1, .string (str e.2.2.1), .bool e.2.2.2.1, .string (str e.2.2.2.2)]
def ecs (es : List Ed) : List Value := es.flatMap ec
theorem ecs_len (es : List Ed) : (ecs es).length = es.length * 5 := by
  induction es with
  | nil => rfl
  | cons e es ih =>
    unfold ecs at *
    rw [List.flatMap_cons, List.length_append, ih, List.length_cons]
    simp [ec]; omega
theorem ecs_append (a b : List Ed) : ecs (a ++ b) = ecs a ++ ecs b := by simp [ecs]
theorem ecs_get {es : List Ed} {j k : Nat} (h : j < es.length) (hk : k < 5) : (ecs es)[j * 5 + k]? = (ec es[j])[k]? := by
  induction es generalizing j with
  | nil => cases h
  | cons e es ih =>
    have hc : ecs (e :: es) = ec e ++ ecs es := rfl
    have hl : (ec e).length = 5 := rfl
    rw [hc]
    cases j with
    | zero => rw [Nat.zero_mul, Nat.zero_add, List.getElem?_append_left (by omega)]; rfl
    | succ j =>
      rw [List.getElem?_append_right (by omega), hl, show (j + 1) * 5 + k - 5 = j * 5 + k by omega, ih (by simpa using h)]
      rfl
theorem ecs_one (es : List Ed) : ∀ u ∈ ecs es, u.oneCell' = true := by
  intro u hu
  obtain ⟨e, -, he⟩ := List.mem_flatMap.1 hu
  simp [ec] at he
  rcases he with rfl | rfl | rfl | rfl | rfl <;> rfl

/-- the cells of edges that are read, as one row -/
theorem Eds.cells {w : World} {v : Value} {es : List Ed} (h : Eds w v es) (h0 : 0 < es.length) : ∃ b off cap, v = .slice (some ⟨b, off, none⟩) es.length cap ∧ ∀ j u, (ecs es)[j]? = some u → w.cell? ((⟨b, off, none⟩ : Addr).add j) = some u := by
  obtain ⟨a, cap, rfl, hc, -⟩ := h
  obtain ⟨b, off, rfl, hlt, hcell⟩ := hc h0
  refine ⟨b, off, cap, rfl, fun j u hj => ?_⟩
  have hjl : j < (ecs es).length := (List.getElem?_eq_some_iff.1 hj).1
  rw [ecs_len] at hjl
  have hq : j / 5 < es.length := by omega
  have e5 : j = j / 5 * 5 + j % 5 := by omega
  have hr : j % 5 < 5 := Nat.mod_lt _ (by omega)
  rw [e5, ecs_get hq hr] at hj
  have ea : (⟨b, off, none⟩ : Addr).add j = ⟨b, off + j / 5 * 5 + j % 5, none⟩ := by
    have : off + j / 5 * 5 + j % 5 = off + j := by omega
    rw [this]
    by_cases h : j = 0
    · subst h; simp [Addr.add]
    · simp [Addr.add, h]
  rw [ea]
  obtain ⟨c0, c1, c2, c3, c4⟩ := hcell (j / 5) hq
  generalize hk : j % 5 = k at *
  match k, hr with
  | 0, _ => cases hj; exact c0
  | 1, _ => cases hj; exact c1
  | 2, _ => cases hj; exact c2
  | 3, _ => cases hj; exact c3
  | 4, _ => cases hj; exact c4

theorem Eds.row {w : World} {B : Nat} {v : Value} {es : List Ed} (h : Row w B 30 5 v es.length (ecs es)) (hwf : ∀ e ∈ es, (Lit.int .i64 e.1).wf = true ∧ (Lit.int .i64 e.2.1).wf = true) : Eds w v es := by
  by_cases h0 : es.length = 0
  · obtain ⟨a, cap, rfl, -⟩ := h.shape
    exact ⟨a, cap, rfl, fun h => absurd h (by omega), hwf⟩
  · obtain ⟨g, cap, rfl, -, -, hlt, hc, -⟩ := h.form (by omega)
    refine ⟨_, cap, rfl, fun _ => ⟨g, 0, rfl, hlt, fun j hj => ?_⟩, hwf⟩
    have q (k : Nat) (hk : k < 5) : w.cell? ⟨g, 0 + j * 5 + k, none⟩ = (ec es[j])[k]? := by
      rw [Nat.zero_add, hc _ (by omega), ecs_get hj hk]
    exact ⟨q 0 (by omega), q 1 (by omega), q 2 (by omega), q 3 (by omega), q 4 (by omega)⟩

theorem info_edge : (Tryz.prog.info? 30).map (fun i => (i.zero, i.size, i.bytes)) = some (some (.agg #[.int .i64 0, .int .i64 0, .string ⟨#[]⟩, .bool false, .string ⟨#[]⟩]), 5, 56) := by kernel_rfl

/-- append of edges that are read to a row of the call's own -/
theorem run_append_eds (w : World) (B : Nat) (v l : Value) (fs bs : List Ed) (ty : TypeId) (hv : Row w B 30 5 v fs.length (ecs fs)) (hl : Eds w l bs) (hb : fs.length + bs.length ≤ 1000) (hB : B ≤ w.heap.size) :
    ∃ v' w', (Builtin.append_ #[22, 22] ty #[v, l]).run Tryz.prog w = .ok v' w' ∧ Row w' B 30 5 v' (fs ++ bs).length (ecs (fs ++ bs)) ∧ Below B w w' := by
  obtain ⟨i0, hi, hy0, hy1, hy2⟩ := info_parts info_edge
  by_cases h0 : bs.length = 0
  · obtain rfl := List.eq_nil_of_length_eq_zero h0
    obtain ⟨ax, cx, rfl, -, -⟩ := hl
    obtain ⟨a', cap, rfl, hle⟩ := hv.shape
    have hsrc : Src Tryz.prog i0.size 22 (.slice ax 0 cx) 0 [] w := by
      cases ax with
      | none => exact Src.ofNil w Tryz.underlying22 cx
      | some ad => exact Src.ofSlice w Tryz.underlying22 ad 0 cx [] (by simp) (by simp) (by simp)
    refine ⟨.slice a' fs.length cap, w, ?_, ?_, Below.refl _ _⟩
    · simpa using run_append_nothing w 22 22 ty 30 i0 Tryz.underlying22 hi a' fs.length cap hle _ hsrc
    · simpa using hv
  · obtain ⟨b, off, cx, rfl, hc⟩ := hl.cells (by omega)
    obtain ⟨v', w', hr, h2, h3⟩ := run_append_row (P := Tryz.prog) w B 22 ty 30 i0 _ 5 56 Tryz.underlying22 hi hy0 hy1 hy2 rfl v fs.length (ecs fs) hv ⟨b, off, none⟩ bs.length cx (ecs bs) (ecs_len bs) hc (ecs_one bs)
      (by omega) (by unfold maxLen; omega) (by omega) hB
    exact ⟨v', w', hr, by rw [List.length_append, ecs_append]; exact h2, h3⟩
end Go.Proofs.YtdpkhapcgbheeaaGreatDoor
