/- report.Places and the reference's: both tell the same texts. -/
import Derived.Test.YtjajdppmbkfkjaaGreatDoorTxl
namespace Go.Proofs.YtjajdppmbkfkjaaGreatDoor
open Go.RowKit
set_option linter.unusedSimpArgs false
set_option linter.unusedVariables false
set_option linter.unnecessarySimpa false

/-! ### Is a text in a row? -/
def IxPost (w : World) (b : Bool) (e : Ending) (w' : World) : Prop := ∃ c : Int, e = .returned (.int .i64 c) ∧ decide (0 ≤ c) = b ∧ w' = w

set_option maxRecDepth 100000 in
set_option maxHeartbeats 1000000 in
theorem index_l (v : Value) (xs : List (List UInt8)) (x : List UInt8) (w : World) (h : Txts w v xs) (hn : xs.length ≤ 1073741824) :
    Calls Tryz.prog 15 #[v, .string (str x)] w (IxPost w (decide (x ∈ xs))) := by
  obtain ⟨a, cap, rfl, hc⟩ := h.form
  clear h
  have HC := Lib.hid hc
  clear hc
  obtain ⟨n, hny⟩ : ∃ n, xs.length = n := ⟨_, rfl⟩
  rw [hny] at hn ⊢
  have HNY := Lib.hid hny
  clear hny
  have e0 := str_toList x
  have HP : Hid (∀ c : Int, decide (0 ≤ c) = decide (x ∈ xs) → IxPost w (decide (x ∈ xs)) (.returned (.int .i64 c)) w) := fun c h => ⟨c, rfl, h, rfl⟩
  generalize IxPost w (decide (x ∈ xs)) = Post at HP ⊢
  go_enter Tryz.func15, Tryz.ntmps15
  go_wp2_with fail
  go_loopw [8] (fun i wr => ∃ k : Nat, k ≤ n ∧ i = .int .i64 k ∧ Hid (∀ j (h1 : j < xs.length), j < k → xs[j] ≠ x) ∧ wr = w) (fun i _ => n - (intOf i).toNat)
  case atStart => exact ⟨0, Nat.zero_le _, rfl, (fun j _ h => absurd h (Nat.not_lt_zero _)), rfl⟩
  case round =>
    obtain ⟨k, hk, rfl, HS, rfl⟩ := hrel
    by_cases hlt : k < n
    · have hx : k < xs.length := by rw [HNY.out]; exact hlt
      obtain ⟨b1, o1, rfl, hb1, g1⟩ := HC.out (by rw [HNY.out]; omega)
      have q1 := g1 k hx
      clear g1
      have HX : Hid (xs[k] ≠ x → ∀ j (h1 : j < xs.length), j < k + 1 → xs[j] ≠ x) := by
        intro h j h1 hj
        by_cases e : j = k
        · subst e; exact h
        · exact HS.out j h1 (by omega)
      have HM : Hid (xs[k] = x → decide ((0 : Int) ≤ (k : Nat)) = decide (x ∈ xs)) := by
        intro h
        have hm : x ∈ xs := by rw [← h]; exact List.getElem_mem hx
        rw [decide_eq_true hm]
        simp
      have e1 := str_toList xs[k]
      generalize xs[k] = y at *
      by_cases hxy : (x == y) = true
      · have hyx : y = x := by simpa using (beq_iff_eq.1 hxy).symm
        go_wp2_with fail
        exact HP.out _ (HM.out hyx)
      · have hxyf : (x == y) = false := by simpa using hxy
        have hne : y ≠ x := fun e => hxy (by rw [e]; simp)
        go_wp2_with fail
        go_roundw
        case measure => simp only [intOf]; omega
        case rel => exact ⟨k + 1, by omega, by go_num, HX.out hne, by trivial⟩
    · obtain rfl : k = n := by omega
      have hm : decide ((0 : Int) ≤ -1) = decide (x ∈ xs) := by
        have : x ∉ xs := by
          intro hm
          obtain ⟨j, hj, e⟩ := List.getElem_of_mem hm
          exact HS.out j hj (by rw [HNY.out] at hj; exact hj) e
        rw [decide_eq_false this]
        rfl
      go_wp2_with fail
      exact HP.out _ hm

set_option maxRecDepth 100000 in
theorem contains_s (v : Value) (xs : List (List UInt8)) (x : List UInt8) (w : World) (h : Txts w v xs) (hn : xs.length ≤ 1073741824) :
    Calls Tryz.prog 8 #[v, .string (str x)] w (Ans (.bool (decide (x ∈ xs))) w) := by
  have HI := index_l v xs x w h hn
  generalize decide (x ∈ xs) = b at *
  clear h hn
  go_enter Tryz.func8, Tryz.ntmps8
  go_wp2_with fail
  refine HI.mono ?_
  rintro e w' ⟨c, rfl, hc, rfl⟩
  go_wp2_with fail
  go_ret
  exact ⟨rfl, rfl⟩

/-! ### Misses -/
abbrev Mi := Int × Int × List UInt8

/-- v reads as misses -/
def Mss (w : World) (v : Value) (ms : List Mi) : Prop :=
  ∃ a cap, v = .slice a ms.length cap ∧ (0 < ms.length → ∃ b off, a = some ⟨b, off, none⟩ ∧ b < w.heap.size ∧ ∀ (j : Nat) (h : j < ms.length),
    w.cell? ⟨b, off + j * 3, none⟩ = some (.int .i64 (ms[j]'h).1) ∧ w.cell? ⟨b, off + j * 3 + 1, none⟩ = some (.int .i64 (ms[j]'h).2.1) ∧ w.cell? ⟨b, off + j * 3 + 2, none⟩ = some (.string (str (ms[j]'h).2.2)))

/-- the places of the first k misses, each once -/
def uq (ms : List Mi) : Nat → List (List UInt8)
  | 0 => []
  | k + 1 => if (ms.getD k (0, 0, [])).2.2 ∈ uq ms k then uq ms k else uq ms k ++ [(ms.getD k (0, 0, [])).2.2]

theorem uq_len (ms : List Mi) : ∀ k, (uq ms k).length ≤ k
  | 0 => Nat.le_refl _
  | k + 1 => by
    have ih := uq_len ms k
    rw [uq]
    split
    · omega
    · rw [List.length_append, List.length_singleton]; omega

/-- what is told: a row of the call's own -/
def Told (w : World) (xs : List (List UInt8)) (e : Ending) (w' : World) : Prop := ∃ v, e = .returned v ∧ Txts w' v xs ∧ Below w.heap.size w w'

theorem info_s : (Tryz.prog.info? 9).map (fun i => (i.zero, i.size, i.bytes)) = some (some (.string ⟨#[]⟩), 1, 16) := by kernel_rfl

set_option maxRecDepth 100000 in
set_option maxHeartbeats 2000000 in
theorem places_l (v : Value) (ms : List Mi) (w : World) (h : Mss w v ms) (hn : ms.length ≤ 16777216) :
    Calls Tryz.prog 5 #[v] w (Told w (uq ms ms.length)) := by
  obtain ⟨a, cap, rfl, hc⟩ := h
  have HC := Lib.hid hc
  clear hc
  obtain ⟨i0, hi, hy0, hy1, hy2⟩ := info_parts info_s
  have HT : Hid (∀ v w', Row w' w.heap.size 9 1 v (uq ms ms.length).length (strs (uq ms ms.length)) → Below w.heap.size w w' → Told w (uq ms ms.length) (.returned v) w') := fun v w' h1 h2 => ⟨v, rfl, Txts.row h1, h2⟩
  generalize Told w (uq ms ms.length) = Post at HT ⊢
  obtain ⟨n, hny⟩ : ∃ n, ms.length = n := ⟨_, rfl⟩
  rw [hny] at hn ⊢
  have HNY := Lib.hid hny
  clear hny
  go_enter Tryz.func5, Tryz.ntmps5
  go_wp2_with fail
  go_loopw [3, 8] (fun o i wr => ∃ k : Nat, k ≤ n ∧ i = .int .i64 k ∧ Hid (Row wr w.heap.size 9 1 o (uq ms k).length (strs (uq ms k))) ∧ Hid (Below w.heap.size w wr)) (fun _ i _ => n - (intOf i).toNat)
  case atStart => exact ⟨0, Nat.zero_le _, rfl, Row.nil _ _ _ _, Below.refl _ _⟩
  case round =>
    obtain ⟨k, hk, rfl, HR, HB⟩ := hrel
    by_cases hlt : k < n
    · have hx : k < ms.length := by rw [HNY.out]; exact hlt
      obtain ⟨b1, o1, rfl, hb1, g1⟩ := HC.out (by rw [HNY.out]; omega)
      have q1 : wr.cell? ⟨b1, o1 + k * 3, none⟩ = _ := (HB.out.cell (p := ⟨b1, o1 + k * 3, none⟩) hb1).trans (g1 k hx).1
      have q2 : wr.cell? ⟨b1, o1 + k * 3 + 1, none⟩ = _ := (HB.out.cell (p := ⟨b1, o1 + k * 3 + 1, none⟩) hb1).trans (g1 k hx).2.1
      have q3 : wr.cell? ⟨b1, o1 + k * 3 + 2, none⟩ = _ := (HB.out.cell (p := ⟨b1, o1 + k * 3 + 2, none⟩) hb1).trans (g1 k hx).2.2
      clear g1
      have hul := uq_len ms k
      have HU : Hid (uq ms (k + 1) = if ms[k].2.2 ∈ uq ms k then uq ms k else uq ms k ++ [ms[k].2.2]) := by
        show uq ms (k + 1) = _
        rw [uq]
        have : ms.getD k (0, 0, []) = ms[k] := by simp [List.getD, hx]
        rw [this]
      have hzr := HB.out.size
      generalize ms[k] = m at *
      obtain ⟨m1, m2, x⟩ := m
      simp only at q1 q2 q3 HU
      have e0 := str_toList x
      generalize uq ms k = ys at *
      go_wp2_with fail
      have HR1 := Lib.hid (HR.out.alloc (.cells #[.int .i64 m1, .int .i64 m2, .string (str x)] 29))
      have HB1 := Lib.hid (HB.out.alloc hzr (.cells #[.int .i64 m1, .int .i64 m2, .string (str x)] 29))
      have q4 : (wr.alloc (.cells #[.int .i64 m1, .int .i64 m2, .string (str x)] 29)).cell? ⟨wr.heap.size, 2, none⟩ = some (.string (str x)) := by simp [World.cell?, World.alloc, -World.alloc_eq]
      have HZ1 : Hid ((wr.alloc (.cells #[.int .i64 m1, .int .i64 m2, .string (str x)] 29)).heap.size = wr.heap.size + 1) := by unfold Hid; simp [World.alloc, -World.alloc_eq]
      generalize wr.alloc (.cells #[.int .i64 m1, .int .i64 m2, .string (str x)] 29) = W1 at *
      refine (contains_s u3 ys x W1 (Txts.row HR1.out) (by omega)).mono ?_
      rintro e w' ⟨rfl, rfl⟩
      by_cases hm : x ∈ ys
      · rw [decide_eq_true hm]
        rw [if_pos hm] at HU
        go_wp2_with fail
        go_roundw
        case measure => simp only [intOf]; omega
        case rel => exact ⟨k + 1, by omega, by go_num, (by rw [HU.out]; exact HR1.out), HB1.out⟩
      · rw [decide_eq_false hm]
        rw [if_neg hm] at HU
        go_wp2_with (at_builtin; refine wpList_append_row _ rfl _ _ 24 rfl w.heap.size 9 i0 (.string ⟨#[]⟩) 1 16 Tryz.underlying24 hi hy0 hy1 hy2 rfl _ _ _ rfl (HR1.out.alloc _) ⟨W1.heap.size, 0, none⟩ 1 1 [.string (str x)] rfl rfl ?c1 ?c2 (by decide) ?c3 ?c4 ?c5 ?c6)
        case c1 => exact cell_one_new _ _ _
        case c2 => intro u hu; simp at hu; subst hu; rfl
        case c3 => unfold maxLen; omega
        case c4 => omega
        case c5 => have := HZ1.out; simp; omega
        case c6 =>
          have hz1 := HZ1.out
          intro v6 w6 hown hb
          have HR6 : Hid (Row w6 w.heap.size 9 1 v6 (uq ms (k + 1)).length (strs (uq ms (k + 1)))) := by
            unfold Hid
            rw [HU.out, List.length_append, strs_append]
            exact hown
          have HB6 := Lib.hid ((HB1.out.alloc (by omega) _).trans hb)
          clear hown hb
          go_wp2_with fail
          go_roundw
          case measure => simp only [intOf]; omega
          case rel => exact ⟨k + 1, by omega, by go_num, HR6.out, HB6.out⟩
    · obtain rfl : k = n := by omega
      go_wp2_with fail
      rw [HNY.out] at HT
      exact HT.out _ _ HR.out HB.out

set_option maxRecDepth 100000 in
set_option maxHeartbeats 4000000 in
theorem places_r (v : Value) (ms : List Mi) (w : World) (h : Mss w v ms) (hn : ms.length ≤ 16777216) :
    Calls Tryz.prog 6 #[v] w (Told w (uq ms ms.length)) := by
  obtain ⟨a, cap, rfl, hc⟩ := h
  have HC := Lib.hid hc
  clear hc
  obtain ⟨i0, hi, hy0, hy1, hy2⟩ := info_parts info_s
  have HT : Hid (∀ v w', Row w' w.heap.size 9 1 v (uq ms ms.length).length (strs (uq ms ms.length)) → Below w.heap.size w w' → Told w (uq ms ms.length) (.returned v) w') := fun v w' h1 h2 => ⟨v, rfl, Txts.row h1, h2⟩
  generalize Told w (uq ms ms.length) = Post at HT ⊢
  obtain ⟨n, hny⟩ : ∃ n, ms.length = n := ⟨_, rfl⟩
  rw [hny] at hn ⊢
  have HNY := Lib.hid hny
  clear hny
  go_enter Tryz.func6, Tryz.ntmps6
  go_wp2_with fail
  go_loopw [3, 4] (fun o i wr => ∃ k : Nat, k ≤ n ∧ i = .int .i64 k ∧ Hid (Row wr w.heap.size 9 1 o (uq ms k).length (strs (uq ms k))) ∧ Hid (Below w.heap.size w wr)) (fun _ i _ => n - (intOf i).toNat)
  case atStart => exact ⟨0, Nat.zero_le _, rfl, Row.nil _ _ _ _, Below.refl _ _⟩
  case round =>
    obtain ⟨k, hk, rfl, HR, HB⟩ := hrel
    by_cases hlt : k < n
    · have hx : k < ms.length := by rw [HNY.out]; exact hlt
      obtain ⟨b1, o1, rfl, hb1, g1⟩ := HC.out (by rw [HNY.out]; omega)
      have G3 := Lib.hid (g1 k hx).2.2
      clear g1
      have hul := uq_len ms k
      have HU : Hid (uq ms (k + 1) = if ms[k].2.2 ∈ uq ms k then uq ms k else uq ms k ++ [ms[k].2.2]) := by
        show uq ms (k + 1) = _
        rw [uq]
        have : ms.getD k (0, 0, []) = ms[k] := by simp [List.getD, hx]
        rw [this]
      have hzr := HB.out.size
      generalize ms[k] = m at *
      obtain ⟨m1, m2, x⟩ := m
      simp only at G3 HU
      have e0 := str_toList x
      generalize uq ms k = ys at *
      obtain ⟨oa, oc, rfl, hoc⟩ := HR.out.shape
      obtain ⟨p, hp⟩ : ∃ p, ys.length = p := ⟨_, rfl⟩
      rw [hp] at hul hoc HR
      have HPY := Lib.hid hp
      rw [hp]
      clear hp
      go_wp2_with fail
      go_loopw [5, 6] (fun t i wi => ∃ j : Nat, j ≤ p ∧ i = .int .i64 j ∧ t = .bool (decide (x ∈ ys.take j)) ∧ Hid (Row wi w.heap.size 9 1 (.slice oa p oc) p (strs ys)) ∧ Hid (Below w.heap.size w wi)) (fun _ i _ => p - (intOf i).toNat)
      case atStart => exact ⟨0, Nat.zero_le _, rfl, by simp, HR.out, HB.out⟩
      case round =>
        clear HR HB
        obtain ⟨j, hj, rfl, rfl, HR, HB⟩ := hrel
        by_cases hjp : j < p
        · have hy : j < ys.length := by rw [HPY.out]; exact hjp
          obtain ⟨g, cap2, hv, -, -, hg, hcell, -⟩ := HR.out.form (by omega)
          cases hv
          have q1 : wr.cell? ⟨g, j, none⟩ = some (.string (str ys[j])) := by
            rw [hcell j (by omega)]
            simp [strs, hy]
          have q3 : wr.cell? ⟨b1, o1 + k * 3 + 2, none⟩ = _ := (HB.out.cell (p := ⟨b1, o1 + k * 3 + 2, none⟩) hb1).trans G3.out
          clear hcell
          have HS : Hid (decide (x ∈ ys.take (j + 1)) = (decide (x ∈ ys.take j) || (ys[j] == x))) := by
            unfold Hid
            rw [List.take_succ_eq_append_getElem hy]
            by_cases h1 : x ∈ ys.take j
            · have : x ∈ ys.take j ++ [ys[j]] := List.mem_append_left _ h1
              rw [decide_eq_true this, decide_eq_true h1]; rfl
            · by_cases h2 : ys[j] = x
              · have : x ∈ ys.take j ++ [ys[j]] := List.mem_append_right _ (by rw [h2]; exact List.mem_cons_self ..)
                rw [decide_eq_true this, decide_eq_false h1, h2]; simp
              · have h3 : ¬ x = ys[j] := fun e => h2 e.symm
                have h4 : (ys[j] == x) = false := by simpa using h2
                have : ¬ x ∈ ys.take j ++ [ys[j]] := fun h => (List.mem_append.1 h).elim h1 (fun h => h3 (List.mem_singleton.1 h))
                rw [decide_eq_false this, decide_eq_false h1, h4]; rfl
          have e1 := str_toList ys[j]
          generalize ys[j] = y at *
          generalize decide (x ∈ ys.take j) = d at *
          have hxy : (!y == x) = !(y == x) := rfl
          cases d with
          | true =>
            have HS1 : Hid (true = decide (x ∈ ys.take (j + 1))) := by unfold Hid; rw [HS.out]; rfl
            clear HS
            go_wp2_with fail
            go_region
            go_wp2_with fail
            go_roundw
            case measure => simp only [intOf]; omega
            case rel => exact ⟨j + 1, by omega, by go_num, by rw [← HS1.out], HR.out.drew, HB.out.drew⟩
          | false =>
            have HS1 : Hid ((y == x) = decide (x ∈ ys.take (j + 1))) := by unfold Hid; rw [HS.out]; rfl
            clear HS
            go_wp2_with fail
            go_region
            go_wp2_with fail
            go_roundw
            case measure => simp only [intOf]; omega
            case rel => exact ⟨j + 1, by omega, by go_num, by rw [← HS1.out], HR.out.drew, HB.out.drew⟩
        · obtain rfl : j = p := by omega
          have HM : Hid (decide (x ∈ ys.take j) = decide (x ∈ ys)) := by unfold Hid; rw [← HPY.out, List.take_length]
          rw [HM.out]
          have q3 : wr.cell? ⟨b1, o1 + k * 3 + 2, none⟩ = _ := (HB.out.cell (p := ⟨b1, o1 + k * 3 + 2, none⟩) hb1).trans G3.out
          have hzw := HB.out.size
          by_cases hm : x ∈ ys
          · rw [decide_eq_true hm]
            rw [if_pos hm] at HU
            go_wp2_with fail
            go_roundw
            case measure => simp only [intOf]; omega
            case rel => exact ⟨k + 1, by omega, by go_num, (by rw [HU.out, HPY.out]; exact HR.out), HB.out⟩
          · rw [decide_eq_false hm]
            rw [if_neg hm] at HU
            go_wp2_with (at_builtin; refine wpList_append_row _ rfl _ _ 24 rfl w.heap.size 9 i0 (.string ⟨#[]⟩) 1 16 Tryz.underlying24 hi hy0 hy1 hy2 rfl _ _ _ rfl (HR.out.alloc _) ⟨wr.heap.size, 0, none⟩ 1 1 [.string (str x)] rfl rfl ?c1 ?c2 (by decide) ?c3 ?c4 ?c5 ?c6)
            case c1 => exact cell_one_new _ _ _
            case c2 => intro u hu; simp at hu; subst hu; rfl
            case c3 => unfold maxLen; omega
            case c4 => omega
            case c5 => simp; omega
            case c6 =>
              intro v6 w6 hown hb
              have HR6 : Hid (Row w6 w.heap.size 9 1 v6 (uq ms (k + 1)).length (strs (uq ms (k + 1)))) := by
                unfold Hid
                rw [HU.out, List.length_append, strs_append, HPY.out]
                exact hown
              have HB6 := Lib.hid ((HB.out.alloc (by omega) _).trans hb)
              clear hown hb
              go_wp2_with fail
              go_roundw
              case measure => simp only [intOf]; omega
              case rel => exact ⟨k + 1, by omega, by go_num, HR6.out, HB6.out⟩
    · obtain rfl : k = n := by omega
      go_wp2_with fail
      rw [HNY.out] at HT
      exact HT.out _ _ HR.out HB.out
end Go.Proofs.YtjajdppmbkfkjaaGreatDoor
