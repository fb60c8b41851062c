/- The body of caliperlaw14.RefsCloses. -/
import Derived.Test.YtdpkhapcgbheeaaGreatDoorRfM
import Derived.Test.YtdpkhapcgbheeaaGreatDoorRfL
namespace Go.Proofs.YtdpkhapcgbheeaaGreatDoor
open Go.RowKit
set_option linter.unusedSimpArgs false
set_option linter.unusedVariables false
set_option linter.unnecessarySimpa false

theorem two (n s : Int) (hn : n ≤ 200) (a b : List Ed) (ha : a.length ≤ 200) (hb : b.length ≤ 200) : ∃ xs ys : List Int, Rf.Ans n s (prs a) xs ∧ ys.length ≤ 200 ∧ (∀ y ∈ ys, 0 ≤ y ∧ y < n) ∧ Rf.cnt xs ys ys.length = xs.length ∧
    (∀ v w, Eds w v a → Calls Tryz.prog 7 #[.int .i64 n, v, .int .i64 s] w (Both w xs)) ∧
    (∀ v w, Eds w v (a ++ b) → Calls Tryz.prog 7 #[.int .i64 n, v, .int .i64 s] w (Both w ys)) := by
  by_cases hs : 0 ≤ s ∧ s < n
  · obtain ⟨N, rfl⟩ : ∃ N : Nat, n = N := ⟨n.toNat, by omega⟩
    obtain ⟨k, rfl⟩ : ∃ k : Nat, s = k := ⟨s.toNat, by omega⟩
    have hk : k < N := by omega
    obtain ⟨S, hS⟩ := Rf.set_ex hk (prs a)
    obtain ⟨S', hS'⟩ := Rf.set_ex hk (prs (a ++ b))
    refine ⟨Rf.pick N S, Rf.pick N S', Rf.ans_pick hk hS, Nat.le_trans (Rf.pick_le N S') (by omega), fun y hy => ⟨(Rf.mem_pick.1 hy).1, (Rf.mem_pick.1 hy).2.1⟩, ?_, fun v w h => ?_, fun v w h => ?_⟩
    · unfold Rf.cnt
      have e : prs (a ++ b) = prs a ++ prs b := by simp [prs]
      rw [e] at hS'
      rw [List.take_length, Rf.count_pick hS hS']
    · refine (reach_l N k (by omega) hk v a w h (by omega)).mono ?_
      rintro e w' ⟨v', T, rfl, hi, hT, hb⟩
      exact ⟨v', rfl, by rw [Rf.pick_congr fun y => (hS y).trans (hT y).symm]; exact hi, hb⟩
    · refine (reach_l N k (by omega) hk v (a ++ b) w h (by rw [List.length_append]; omega)).mono ?_
      rintro e w' ⟨v', T, rfl, hi, hT, hb⟩
      exact ⟨v', rfl, by rw [Rf.pick_congr fun y => (hS' y).trans (hT y).symm]; exact hi, hb⟩
  · have hs : s < 0 ∨ n ≤ s := by omega
    have hI : ∀ W : World, InS W (.slice none 0 0) [] := fun W => ⟨none, 0, rfl, fun h => absurd h (by simp)⟩
    refine ⟨[], [], Rf.ans_none hs, by simp, (fun y h => by cases h), rfl, fun v w h => ?_, fun v w h => ?_⟩
    · refine (reach_l_out n s v w hs).mono ?_
      rintro e w' ⟨rfl, rfl⟩
      exact ⟨_, rfl, hI _, Below.refl _ _⟩
    · refine (reach_l_out n s v w hs).mono ?_
      rintro e w' ⟨rfl, rfl⟩
      exact ⟨_, rfl, hI _, Below.refl _ _⟩

theorem info_bool : (Tryz.prog.info? 4).map (fun i => (i.zero, i.size, i.bytes)) = some (some (.bool false), 1, 1) := by kernel_rfl
theorem made_bks (n : Nat) : madeCells #[.bool false] n = (bks n []).toArray := by
  rw [bks_nil]
  apply Array.ext'
  simp [madeCells, Nat.mod_one, List.map_const']

theorem Eds.wf {w : World} {v : Value} {es : List Ed} (h : Eds w v es) : ∀ e ∈ es, (Lit.int .i64 e.1).wf = true ∧ (Lit.int .i64 e.2.1).wf = true := by
  obtain ⟨_, _, _, _, h⟩ := h
  exact h

/-- an append of edges that are read, in a walk -/
theorem wpList_append_eds {w : World} {ops : Array Oper} {rest : List Oper} {o : Oper} {x : Act} {Q : Exit → Act → World → Prop}
    (hg : o.guard = none) (s t : Operand) (hop : o.op = Op.call { callee := Callee.builtin Builtin.append, args := #[s, t], argTypes := #[22, 22] })
    (B : Nat) (v l : Value) (fs bs : List Ed) (hs : x.eval s = v) (ht : x.eval t = l) (hv : Row w B 30 5 v fs.length (ecs fs)) (hl : Eds w l bs) (hb : fs.length + bs.length ≤ 1000) (hB : B ≤ w.heap.size)
    (hK : ∀ v' w', Row w' B 30 5 v' (fs ++ bs).length (ecs (fs ++ bs)) → Below B w w' → wpList Tryz.prog ops Q rest (x.put o.dst v') w') :
    wpList Tryz.prog ops Q (o :: rest) x w := by
  refine wpList_plain hg fun K' hK' => ?_
  obtain ⟨v', w', hrun, h2, h3⟩ := run_append_eds w B v l fs bs o.type hv hl hb hB
  unfold Oper.wp
  simp [execOp, hop, resolve, invoke, builtin, hs, ht, hrun, Result.andThen]
  exact hK' _ _ (hK v' w' h2 h3)
end Go.Proofs.YtdpkhapcgbheeaaGreatDoor
