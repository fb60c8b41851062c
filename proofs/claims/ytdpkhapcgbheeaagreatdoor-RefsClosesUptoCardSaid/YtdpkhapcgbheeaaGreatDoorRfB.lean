/- The reference's Reach: a search that goes wide. -/
import Derived.Test.YtdpkhapcgbheeaaGreatDoorRfA
namespace Go.Proofs.YtdpkhapcgbheeaaGreatDoor
open Go.RowKit
set_option linter.unusedSimpArgs false
set_option linter.unusedVariables false
set_option linter.unnecessarySimpa false

/-- what is answered: the numbers that are reached, in order -/
def Found (w : World) (N : Nat) (f : Int → List Int) (x : Int) (e : Ending) (w' : World) : Prop := ∃ v S, e = .returned v ∧ InS w' v (Rf.pick N S) ∧ (∀ y, y ∈ S ↔ Rf.To f x y) ∧ Below w.heap.size w w'

theorem info_int : (Tryz.prog.info? 3).map (fun i => (i.zero, i.size, i.bytes)) = some (some (.int .i64 0), 1, 8) := by kernel_rfl
theorem made_mk (n : Nat) : madeCells #[.int .i64 0] n = (mks n []).toArray := by
  rw [mk_nil]
  apply Array.ext'
  simp [madeCells, Nat.mod_one, List.map_const']

/-- what holds while the search goes on -/
structure Wide (w : World) (N s : Nat) (es : List Ed) (td : Value) (wr : World) (M Q : List Int) : Prop where
  bfs : Rf.Bfs (Rf.nx N (prs es)) s M Q
  mr : ∀ y ∈ M, 0 ≤ y ∧ y < N
  qr : ∀ y ∈ Q, 0 ≤ y ∧ y < N
  blk : Blk wr w.heap.size (mks N M) 3
  que : Que wr (w.heap.size + 1) td Q
  bel : Below w.heap.size w wr
  len : Q.length + Rf.left N M * 500 ≤ 250001

theorem left_le (n : Nat) (S : List Int) : Rf.left n S ≤ n := by
  unfold Rf.left
  exact Nat.le_trans (List.length_filter_le _ _) (by simp)
theorem Wide.old {w : World} {N s : Nat} {es : List Ed} {v td : Value} {wr : World} {M Q : List Int} {x : Int} (h : Wide w N s es v wr M (x :: Q)) (hx : x ∈ M) (hq : Que wr (w.heap.size + 1) td Q) : Wide w N s es td wr M Q where
  bfs := h.bfs.old hx
  mr := h.mr
  qr := fun y hy => h.qr y (List.mem_cons_of_mem _ hy)
  blk := h.blk
  que := hq
  bel := h.bel
  len := by have := h.len; simp only [List.length_cons] at this; omega
theorem Wide.new {w : World} {N s : Nat} {es : List Ed} {v td : Value} {wr wr' : World} {M Q : List Int} {x : Int} (h : Wide w N s es v wr M (x :: Q)) (hx : x ∉ M) (hl : es.length ≤ 500)
    (hq : Que wr' (w.heap.size + 1) td (Q ++ Rf.nx N (prs es) x)) (hk : Blk wr' w.heap.size (mks N (x :: M)) 3) (hb : Below w.heap.size w wr') : Wide w N s es td wr' (x :: M) (Q ++ Rf.nx N (prs es) x) where
  bfs := h.bfs.new
  mr := fun y hy => by
    rcases List.mem_cons.1 hy with rfl | hy
    · exact h.qr _ (List.mem_cons_self ..)
    · exact h.mr y hy
  qr := fun y hy => by
    rcases List.mem_append.1 hy with hy | hy
    · exact h.qr y (List.mem_cons_of_mem _ hy)
    · exact (Rf.mem_nx.1 hy).2
  blk := hk
  que := hq
  bel := hb
  len := by
    have h1 := h.len
    have h2 := Rf.left_new (h.qr x (List.mem_cons_self ..)).1 (h.qr x (List.mem_cons_self ..)).2 hx
    have h3 := nx_len N (prs es) x
    rw [prs_len] at h3
    simp only [List.length_cons, List.length_append] at h1 ⊢
    omega
theorem Wide.start {w : World} {N s : Nat} {es : List Ed} (hN : N ≤ 500) (hs : s < N) :
    Wide w N s es (.slice (some ⟨w.heap.size + 1, 0, none⟩) 1 1) ((w.alloc (.cells (mks N []).toArray 3)).alloc (.cells #[.int .i64 s] 3)) [] [(s : Int)] where
  bfs := Rf.Bfs.begin _ _
  mr := fun y h => by cases h
  qr := fun y h => by
    rcases List.mem_cons.1 h with rfl | h
    · omega
    · cases h
  blk := (Blk.new w (mks N []) 3).alloc _
  que := by
    have hb := Blk.new (w.alloc (.cells (mks N []).toArray 3)) [.int .i64 s] 3
    rw [World.size_alloc] at hb
    exact .inr ⟨w.heap.size + 1, 0, 1, _, rfl, Nat.le_refl _, hb, Nat.le_refl _, Nat.le_refl _, rfl⟩
  bel := ((Below.refl w.heap.size w).alloc (Nat.le_refl _) _).alloc (by simp) _
  len := by
    have := left_le N []
    simp only [List.length_cons, List.length_nil]
    omega

set_option maxRecDepth 100000 in
set_option maxHeartbeats 8000000 in
theorem reach_r (N s : Nat) (hN : N ≤ 500) (hs : s < N) (v : Value) (es : List Ed) (w : World) (h : Eds w v es) (hl : es.length ≤ 500) :
    Calls Tryz.prog 8 #[.int .i64 N, v, .int .i64 s] w (Found w N (Rf.nx N (prs es)) s) := by
  obtain ⟨ea, ecap, rfl, hc, -⟩ := h
  have HC := Lib.hid hc
  clear hc
  obtain ⟨i0, hi, hy0, hy1, hy2⟩ := info_parts info_int
  have hmk := run_make_row' (P := Tryz.prog) 25 3 (.int .i64 0) 8 Tryz.underlying25 info_int rfl .i64 .i64 N (by omega) (by omega)
  simp only [made_mk] at hmk
  have HS0 := Lib.hid (Wide.start (w := w) (s := s) (es := es) hN hs)
  have HLE := Lib.hid hl
  have HT : Hid (∀ v w' M, Rf.Bfs (Rf.nx N (prs es)) s M [] → Row w' (w.heap.size + 1) 3 1 v (Rf.pick N M).length (ints (Rf.pick N M)) → Below w.heap.size w w' → Found w N (Rf.nx N (prs es)) s (.returned v) w') :=
    fun v w' M h1 h2 h3 => ⟨v, M, rfl, InS.row h2, h1.all, h3⟩
  generalize Found w N (Rf.nx N (prs es)) s = Post at HT ⊢
  obtain ⟨n, hny⟩ : ∃ n, es.length = n := ⟨_, rfl⟩
  rw [hny] at hl ⊢
  have HNY := Lib.hid hny
  clear hny
  have ht1 : ((s : Int) < 0) = False := by simp
  have hge0 : ((N : Int) ≤ (s : Int)) = False := by simp; omega
  go_enter Tryz.func8, Tryz.ntmps8
  go_wp2_with fail
  go_loopg [8] (Rf.left N [] * 501 + 1) (fun g td wr => ∃ (M Q : List Int) (a : Addr) (cap : Nat), td = .slice (some a) Q.length cap ∧ Hid (g = Rf.left N M * 501 + Q.length) ∧ Hid (Wide w N s es (.slice (some a) Q.length cap) wr M Q))
  case atStart => exact ⟨[], [(s : Int)], _, _, rfl, rfl, HS0.out⟩
  case round =>
    obtain ⟨M, Q, a, cap, rfl, HG, HW⟩ := hrel
    cases Q with
    | nil =>
      have HBF := Lib.hid HW.out.bfs
      have HBK := Lib.hid HW.out.blk
      have HBL := Lib.hid HW.out.bel
      clear HW HG HS0
      simp only [List.length_nil]
      go_wp2_with fail
      go_loopw [11, 12] (fun o i wr => ∃ j : Nat, j ≤ N ∧ i = .int .i64 j ∧ Hid (Row wr (w.heap.size + 1) 3 1 o (Rf.pick j M).length (ints (Rf.pick j M))) ∧ Hid (Blk wr w.heap.size (mks N M) 3) ∧ Hid (Below w.heap.size w wr)) (fun _ i _ => N - (intOf i).toNat)
      case atStart => exact ⟨0, Nat.zero_le _, rfl, Row.nil _ _ _ _, HBK.out, HBL.out⟩
      case round =>
        clear HBK HBL
        obtain ⟨j, hj, rfl, HR, HBK, HBL⟩ := hrel
        have hzr := HBK.out.lt
        by_cases hlt : j < N
        · have q1 : wr.cell? ⟨w.heap.size, j, none⟩ = some (.int .i64 (if (j : Int) ∈ M then 1 else 0)) := (HBK.out.cell j).trans (mk_get hlt)
          have hpl := Rf.pick_le j M
          have HP := Lib.hid (Rf.pick_succ j M)
          by_cases hm : (j : Int) ∈ M
          · rw [if_pos hm] at q1
            rw [if_pos hm] at HP
            go_wp2_with (at_builtin; refine wpList_append_row _ rfl _ _ 25 rfl (w.heap.size + 1) 3 i0 (.int .i64 0) 1 8 Tryz.underlying25 hi hy0 hy1 hy2 rfl _ _ _ rfl (HR.out.alloc _) ⟨wr.heap.size, 0, none⟩ 1 1 [.int .i64 j] rfl rfl ?c1 ?c2 (by decide) ?c3 ?c4 ?c5 ?c6)
            case c1 => exact cell_one_new _ _ _
            case c2 => intro u hu; simp at hu; subst hu; rfl
            case c3 => unfold maxLen; omega
            case c4 => omega
            case c5 => simp; omega
            case c6 =>
              intro v6 w6 hown hb
              have HR6 : Hid (Row w6 (w.heap.size + 1) 3 1 v6 (Rf.pick (j + 1) M).length (ints (Rf.pick (j + 1) M))) := by
                unfold Hid
                rw [HP.out, List.length_append, ints_append]
                exact hown
              have HBK6 := Lib.hid ((HBK.out.alloc (.cells #[.int .i64 j] 3)).below hb (Nat.lt_succ_self _))
              have HBL6 := Lib.hid ((HBL.out.alloc (by omega) (.cells #[.int .i64 j] 3)).trans (hb.mono (Nat.le_succ _)))
              clear hown hb
              go_wp2_with fail
              go_roundw
              case measure => simp only [intOf]; omega
              case rel => exact ⟨j + 1, by omega, by go_num, HR6.out, HBK6.out, HBL6.out⟩
          · rw [if_neg hm] at q1
            rw [if_neg hm, List.append_nil] at HP
            go_wp2_with fail
            go_roundw
            case measure => simp only [intOf]; omega
            case rel => exact ⟨j + 1, by omega, by go_num, by rw [HP.out]; exact HR.out, HBK.out, HBL.out⟩
        · obtain rfl : j = N := by omega
          go_wp2_with fail
          exact HT.out _ _ _ HBF.out HR.out HBL.out
    | cons x Q =>
      have hxr := HW.out.qr x (List.mem_cons_self ..)
      obtain ⟨k, rfl⟩ : ∃ k : Nat, x = k := ⟨x.toNat, by omega⟩
      have hk : k < N := by omega
      clear hxr
      obtain ⟨g, off, c, hv, hqc, hc0, hgl, hge, hq1⟩ := HW.out.que.first
      cases hv
      obtain ⟨A, hA, hq1⟩ : ∃ A, (if c = 0 then some (⟨g, off, none⟩ : Addr) else some ⟨g, off + 1, none⟩) = some A ∧ Que wr (w.heap.size + 1) (.slice (some A) Q.length c) Q := by
        by_cases h0 : c = 0
        · rw [if_pos h0] at hq1
          exact ⟨_, by rw [if_pos h0], hq1⟩
        · rw [if_neg h0] at hq1
          exact ⟨_, by rw [if_neg h0], hq1⟩
      have HQ1 := Lib.hid hq1
      have HQL := Lib.hid HW.out.len
      clear hq1
      have hBK := HW.out.blk
      have q1 : wr.cell? ⟨w.heap.size, k, none⟩ = some (.int .i64 (if (k : Int) ∈ M then 1 else 0)) := (hBK.cell k).trans (mk_get hk)
      have f1 := hBK.froz k
      have s1 := hBK.shape
      clear hBK
      simp only [List.length_cons]
      by_cases hm : (k : Int) ∈ M
      · rw [if_pos hm] at q1
        go_wp2_with fail
        go_roundg (Rf.left N M * 501 + Q.length)
        case measure => have := HG.out; simp only [List.length_cons] at this; omega
        case rel => exact ⟨M, Q, A, c, rfl, rfl, HW.out.old hm HQ1.out⟩
      · rw [if_neg hm] at q1
        have HM := Lib.hid hm
        have HB1 : Hid (Below w.heap.size w (wr.setCell ⟨w.heap.size, k, none⟩ (.int .i64 1))) := Below.setCell HW.out.bel (Nat.le_refl _) _
        have HK1 : Hid (Blk (wr.setCell ⟨w.heap.size, k, none⟩ (.int .i64 1)) w.heap.size (mks N ((k : Int) :: M)) 3) := (HW.out.blk.set k _).shut (mk_set hk)
        have HQ2 : Hid (Que (wr.setCell ⟨w.heap.size, k, none⟩ (.int .i64 1)) (w.heap.size + 1) (.slice (some A) Q.length c) Q) := HQ1.out.other _ (Nat.lt_succ_self _)
        have HZ1 : Hid (w.heap.size < wr.heap.size) := HW.out.blk.lt
        clear hm HQ1
        go_wp2_with fail
        go_loopw [8, 10] (fun td i wi => ∃ (j : Nat) (Qj : List Int) (A : Addr) (c : Nat), j ≤ n ∧ i = .int .i64 j ∧ td = .slice (some A) Qj.length c ∧ Hid (Qj = Q ++ Rf.nx N (prs (es.take j)) k) ∧ Hid (Que wi (w.heap.size + 1) (.slice (some A) Qj.length c) Qj) ∧ Hid (Blk wi w.heap.size (mks N ((k : Int) :: M)) 3) ∧ Hid (Below w.heap.size w wi)) (fun _ i _ => n - (intOf i).toNat)
        case atStart => exact ⟨0, Q, A, c, Nat.zero_le _, rfl, rfl, by simp [Hid, Rf.nx, prs], HQ2.out, HK1.out, HB1.out⟩
        case round =>
          clear HQ2 HK1 HB1 q1 f1 s1 hA
          obtain ⟨j, Qj, A, c, hj, rfl, rfl, HQJ, HQ, HK, HB⟩ := hrel
          by_cases hlt : j < n
          · have hx : j < es.length := by rw [HNY.out]; exact hlt
            obtain ⟨b1, o1, rfl, hb1, g1⟩ := HC.out (by rw [HNY.out]; omega)
            obtain ⟨g1, g2, -, -, -⟩ := g1 j hx
            have q1 := (HB.out.cell (p := ⟨b1, o1 + j * 5, none⟩) hb1).trans g1
            have q2 := (HB.out.cell (p := ⟨b1, o1 + j * 5 + 1, none⟩) hb1).trans g2
            have HNX := Lib.hid (nx_take (n := N) hx k)
            have hql : Qj.length ≤ 1000000 := by
              have h1 := congrArg List.length HQJ.out
              have h2 := nx_len N (prs (es.take j)) k
              rw [prs_len] at h2
              have h3 := List.length_take_le j es
              have h4 := HQL.out
              simp only [List.length_cons, List.length_append] at h1 h4
              omega
            have hzl := HK.out.lt
            clear g1 g2
            generalize es[j] = ed at *
            obtain ⟨e1, e2, e3, e4, e5⟩ := ed
            simp only at q1 q2 HNX
            by_cases hc : e1 = (k : Int) ∧ 0 ≤ e2 ∧ e2 < N
            · have HQN : Hid (Qj ++ [e2] = Q ++ Rf.nx N (prs (es.take (j + 1))) k) := by
                unfold Hid
                rw [HNX.out, if_pos hc, HQJ.out, List.append_assoc]
              obtain ⟨rfl, h2, h3⟩ := hc
              go_wp2_with (at_builtin; refine wpList_append_que _ rfl _ _ rfl (w.heap.size + 1) i0 Tryz.underlying25 hi hy0 hy1 hy2 _ Qj rfl (HQ.out.alloc _) e2 ⟨wr.heap.size, 0, none⟩ 1 rfl ?c1 hql ?c3 ?c4)
              case c3 => first | omega | (simp; omega)
              case c4 =>
                intro v6 w6 hq6 hb6
                obtain ⟨A6, c6, rfl, -⟩ := hq6.shape
                have HQ6 := Lib.hid hq6
                have HK6 := Lib.hid ((HK.out.alloc (.cells #[.int .i64 e2] 3)).below hb6 (Nat.lt_succ_self _))
                have HB6 := Lib.hid ((HB.out.alloc (by omega) (.cells #[.int .i64 e2] 3)).trans (hb6.mono (Nat.le_succ _)))
                clear hq6 hb6
                go_wp2_with fail
                go_roundw
                case measure => simp only [intOf]; omega
                case rel => exact ⟨j + 1, Qj ++ [e2], A6, c6, by omega, by go_num, rfl, HQN.out, HQ6.out, HK6.out, HB6.out⟩
            · have HQN : Hid (Qj = Q ++ Rf.nx N (prs (es.take (j + 1))) k) := by
                unfold Hid
                rw [HNX.out, if_neg hc, HQJ.out, List.append_nil]
              by_cases h1 : e1 = (k : Int)
              · subst h1
                by_cases h2 : 0 ≤ e2
                · have h3 : ¬ e2 < N := fun h => hc ⟨rfl, h2, h⟩
                  clear hc
                  go_wp2_with fail
                  go_roundw
                  case measure => simp only [intOf]; omega
                  case rel => exact ⟨j + 1, Qj, A, c, by omega, by go_num, rfl, HQN.out, HQ.out, HK.out, HB.out⟩
                · clear hc
                  go_wp2_with fail
                  go_roundw
                  case measure => simp only [intOf]; omega
                  case rel => exact ⟨j + 1, Qj, A, c, by omega, by go_num, rfl, HQN.out, HQ.out, HK.out, HB.out⟩
              · have hb0 : (e1 == (k : Int)) = false := by simpa using h1
                clear hc
                go_wp2_with fail
                go_roundw
                case measure => simp only [intOf]; omega
                case rel => exact ⟨j + 1, Qj, A, c, by omega, by go_num, rfl, HQN.out, HQ.out, HK.out, HB.out⟩
          · obtain rfl : j = n := by omega
            have HQE : Hid (Qj = Q ++ Rf.nx N (prs es) k) := by
              unfold Hid
              rw [HQJ.out, ← HNY.out, List.take_length]
            have HWN : Hid (Wide w N s es (.slice (some A) Qj.length c) wr ((k : Int) :: M) Qj) := by
              unfold Hid
              have h := HQ.out
              rw [HQE.out] at h ⊢
              exact HW.out.new HM.out HLE.out h HK.out HB.out
            go_wp2_with fail
            go_roundg (Rf.left N ((k : Int) :: M) * 501 + Qj.length)
            case measure =>
              have h1 := HG.out
              have h2 := Rf.left_new (n := N) (x := (k : Int)) (by omega) (by omega) HM.out
              have h3 := congrArg List.length HQE.out
              have h4 := nx_len N (prs es) k
              rw [prs_len] at h4
              have h5 := HLE.out
              simp only [List.length_cons, List.length_append] at h1 h3
              omega
            case rel => exact ⟨_, Qj, A, c, rfl, rfl, HWN.out⟩
end Go.Proofs.YtdpkhapcgbheeaaGreatDoor
