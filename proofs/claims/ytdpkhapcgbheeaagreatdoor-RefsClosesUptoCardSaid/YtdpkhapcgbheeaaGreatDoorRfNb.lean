/- The body of caliperlaw14.RefsCloses: the start is below nought. Printed by gen_rcn.py. -/
import Derived.Test.YtdpkhapcgbheeaaGreatDoorRfN
namespace Go.Proofs.YtdpkhapcgbheeaaGreatDoor
open Go.RowKit
set_option linter.unusedSimpArgs false
set_option linter.unusedVariables false
set_option linter.unnecessarySimpa false

set_option maxRecDepth 100000 in
set_option maxHeartbeats 16000000 in
theorem rc_lo (n : Int) (v : Value) (a : List Ed) (u : Value) (b : List Ed) (s : Int) (w : World) (h1 : Eds w v a) (h2 : Eds w u b) (he : EnvV w) (hn : n ≤ 200) (ha : a.length ≤ 200) (hb : b.length ≤ 200) (hs : s < 0) :
    Calls Tryz.prog 4 #[.int .i64 n, v, u, .int .i64 s] w (New (.bool true) w) := by
  have H5 : Hid (∀ W, Below w.heap.size w W → Calls Tryz.prog 5 #[] W (New (.bool true) W)) := fun W hb => heads_any W (he.call hb)
  obtain ⟨xs, ys, hA, hyl, hyr, hcn, hR, hR'⟩ := two n s hn a b ha hb
  have HR := Lib.hid (hR v w h1)
  have HR' := Lib.hid hR'
  have HA := Lib.hid hA
  have HYR := Lib.hid hyr
  have HCN := Lib.hid hcn
  have H1 := Lib.hid h1
  have H2 := Lib.hid h2
  have hmk := run_make_row' (P := Tryz.prog) 28 4 (.bool false) 1 Tryz.underlying28 info_bool rfl .i64 .i64 n.toNat (by omega) (by omega)
  have hmx : ((n.toNat : Nat) : Int) = max n 0 := by omega
  rw [hmx] at hmk
  simp only [made_bks] at hmk
  obtain ⟨aa, ac, rfl, -, -⟩ := h1
  obtain ⟨ba, bc, rfl, -, -⟩ := h2
  clear he hA hR hR' hyr hcn
  have hn' : ¬ 200 < n := by omega
  have ha' : ¬ 200 < a.length := by omega
  have hb' : ¬ 200 < b.length := by omega
  have hsv : Hid (s < 0) := hs
  clear hs
  go_enter Tryz.func4, Tryz.ntmps4
  go_wp2_with fail
  refine HR.out.mono ?_
  rintro e w1 ⟨v1, rfl, hi1, hb1⟩
  have HB1 := Lib.hid hb1
  have HI1 := Lib.hid hi1
  obtain ⟨xa, xc, rfl, -⟩ := hi1
  clear hb1
  go_wp2_with fail
  have HZ1 : Hid (w.heap.size ≤ w1.heap.size) := HB1.out.size
  go_loopw [11] (fun i wi => ∃ j : Nat, j ≤ xs.length ∧ i = .int .i64 j ∧ Hid (Blk wi w1.heap.size (bks n.toNat (xs.take j)) 4) ∧ Hid (Below w1.heap.size w1 wi)) (fun i _ => xs.length - (intOf i).toNat)
  case atStart => exact ⟨0, Nat.zero_le _, rfl, Blk.new w1 _ _, (Below.refl _ _).alloc (Nat.le_refl _) _⟩
  case round =>
    obtain ⟨j, hj, rfl, HK, HB⟩ := hrel
    by_cases hlt : j < xs.length
    · exfalso
      have h1 := HA.out.some_iff.1 (by omega)
      have h2 := hsv.out
      omega
    · obtain rfl : j = xs.length := by omega
      rw [List.take_length] at HK
      clear hj hlt
      have HB2 : Hid (Below w.heap.size w wr) := HB1.out.trans (HB.out.mono HZ1.out)
      have hzw : w1.heap.size < wr.heap.size := HK.out.lt
      clear HB
      have hs0 : ¬ 0 ≤ s := by have := hsv.out; omega
      have hpos : ¬ 0 < xs.length := fun h => hs0 (HA.out.some_iff.1 h).1
      go_wp2_with fail
      go_loopw [12] (fun i wi => ∃ j : Nat, j ≤ a.length ∧ i = .int .i64 j ∧ Hid (Blk wi w1.heap.size (bks n.toNat xs) 4) ∧ Hid (Below w.heap.size w wi)) (fun i _ => a.length - (intOf i).toNat)
      case atStart => exact ⟨0, Nat.zero_le _, rfl, HK.out, HB2.out⟩
      case round =>
        clear HK HB2 hzw
        obtain ⟨j, hj, rfl, HK, HB⟩ := hrel
        by_cases hlt : j < a.length
        · obtain ⟨x1, x2, e1, hx3, -⟩ := H1.out
          cases e1
          obtain ⟨g, o, rfl, hg, hcell⟩ := hx3 (by omega)
          obtain ⟨c0, c1, -, -, -⟩ := hcell j hlt
          have q0 := (HB.out.cell (p := ⟨g, o + j * 5, none⟩) hg).trans c0
          have q1 := (HB.out.cell (p := ⟨g, o + j * 5 + 1, none⟩) hg).trans c1
          have HSH : Hid (a[j].1 ∈ xs → 0 ≤ a[j].2.1 → a[j].2.1 < n → a[j].2.1 ∈ xs) := HA.out.shut (a[j].1, a[j].2.1) (List.mem_map.2 ⟨a[j], List.getElem_mem hlt, rfl⟩)
          clear hcell hx3 c0 c1
          generalize a[j] = ed at *
          obtain ⟨e1, e2, e3, e4, e5⟩ := ed
          simp only at q0 q1 HSH
          by_cases t1 : 0 ≤ e1
          · by_cases t2 : e1 < n
            · by_cases t3 : 0 ≤ e2
              · by_cases t4 : e2 < n
                · obtain ⟨f, rfl⟩ : ∃ f : Nat, e1 = f := ⟨e1.toNat, by omega⟩
                  obtain ⟨t, rfl⟩ : ∃ t : Nat, e2 = t := ⟨e2.toNat, by omega⟩
                  have hfn : f < n.toNat := by omega
                  have htn : t < n.toNat := by omega
                  have q2 := HK.out.cell f
                  have q3 := HK.out.cell t
                  rw [bks_get hfn] at q2
                  rw [bks_get htn] at q3
                  by_cases hm : (f : Int) ∈ xs
                  · rw [decide_eq_true hm] at q2
                    rw [decide_eq_true (HSH.out hm t3 t4)] at q3
                    clear hm HSH
                    go_wp2_with fail
                    go_region
                    go_wp2_with fail
                    go_roundw
                    case measure => simp only [intOf]; omega
                    case rel => exact ⟨j + 1, by omega, by go_num, HK.out.drew, HB.out.drew⟩
                  · rw [decide_eq_false hm] at q2
                    clear q3 hm HSH
                    go_wp2_with fail
                    go_region
                    go_wp2_with fail
                    go_roundw
                    case measure => simp only [intOf]; omega
                    case rel => exact ⟨j + 1, by omega, by go_num, HK.out.drew, HB.out.drew⟩
                · clear HSH
                  go_wp2_with fail
                  go_region
                  go_wp2_with fail
                  go_roundw
                  case measure => simp only [intOf]; omega
                  case rel => exact ⟨j + 1, by omega, by go_num, HK.out.drew, HB.out.drew⟩
              · clear HSH
                go_wp2_with fail
                go_region
                go_wp2_with fail
                go_roundw
                case measure => simp only [intOf]; omega
                case rel => exact ⟨j + 1, by omega, by go_num, HK.out.drew, HB.out.drew⟩
            · clear HSH
              go_wp2_with fail
              go_region
              go_wp2_with fail
              go_roundw
              case measure => simp only [intOf]; omega
              case rel => exact ⟨j + 1, by omega, by go_num, HK.out.drew, HB.out.drew⟩
          · clear HSH
            go_wp2_with fail
            go_region
            go_wp2_with fail
            go_roundw
            case measure => simp only [intOf]; omega
            case rel => exact ⟨j + 1, by omega, by go_num, HK.out.drew, HB.out.drew⟩
        · obtain rfl : j = a.length := by omega
          clear hlt hj
          have HZ : Hid (w.heap.size ≤ wr.heap.size ∧ w1.heap.size < wr.heap.size) := ⟨HB.out.size, HK.out.lt⟩
          have HR0 : Hid (Row (wr.alloc (.cells #[] 30)) wr.heap.size 30 5 (.slice (some ⟨wr.heap.size, 0, none⟩) 0 0) ([] : List Ed).length (ecs [])) :=
            ⟨rfl, .inr ⟨wr.heap.size, 0, #[], rfl, Nat.le_refl _, heap_alloc_new wr _, Nat.le_refl _, by simp, by simp [ecs]⟩⟩
          have HE1 : Hid (Eds (wr.alloc (.cells #[] 30)) (.slice aa a.length ac) a) := H1.out.call (HB.out.alloc HZ.out.1 _)
          go_wp2_with (at_builtin; refine wpList_append_eds rfl _ _ rfl wr.heap.size _ _ [] a rfl rfl HR0.out HE1.out ?c1 ?c2 ?c3)
          case c1 => simp; omega
          case c2 => simp
          case c3 =>
            intro v2 W2 hrow2 hb2
            have HR2 := Lib.hid hrow2
            have HB3 : Hid (Below w.heap.size w W2) := (HB.out.alloc HZ.out.1 _).trans (hb2.mono HZ.out.1)
            have HK3 : Hid (Blk W2 w1.heap.size (bks n.toNat xs) 4) := (HK.out.alloc _).below hb2 HZ.out.2
            have HE2 : Hid (Eds W2 (.slice ba b.length bc) b) := H2.out.call HB3.out
            have HZ2 : Hid (wr.heap.size ≤ W2.heap.size) := by have := hb2.size; simp at this; unfold Hid; omega
            clear hrow2 HR0 HE1 HK HB
            go_wp2_with (at_builtin; refine wpList_append_eds rfl _ _ rfl wr.heap.size _ _ a b rfl rfl HR2.out HE2.out ?c1 ?c2 ?c3)
            case c1 => first | omega | (simp; omega)
            case c2 => exact HZ2.out
            case c3 =>
              intro v3 W3 hrow3 hb3
              have HE3 : Hid (Eds W3 v3 (a ++ b)) := Eds.row (by rw [List.length_append]; exact hrow3) (fun e he => by
                rcases List.mem_append.1 he with he | he
                · exact H1.out.wf e he
                · exact H2.out.wf e he)
              have HB4 : Hid (Below w.heap.size w W3) := HB3.out.trans (hb3.mono HZ.out.1)
              have HK4 : Hid (Blk W3 w1.heap.size (bks n.toNat xs) 4) := HK3.out.below hb3 HZ.out.2
              clear hrow3 HR2 HE2 HK3 HB3 hb2 hb3
              go_wp2_with fail
              refine (HR'.out v3 W3 HE3.out).mono ?_
              rintro e W4 ⟨v4, rfl, hi4, hb4⟩
              have HI4 := Lib.hid hi4
              obtain ⟨ya, yc, rfl, -⟩ := hi4
              have HB5 : Hid (Below w.heap.size w W4) := HB4.out.trans (hb4.mono HB4.out.size)
              have HK5 : Hid (Blk W4 w1.heap.size (bks n.toNat xs) 4) := HK4.out.call hb4
              clear hb4 HK4 HB4 HE3 HZ HZ2
              go_wp2_with fail
              go_loopw [16, 17] (fun k i wi => ∃ j : Nat, j ≤ ys.length ∧ i = .int .i64 j ∧ k = .int .i64 (Rf.cnt xs ys j : Nat) ∧ wi = W4) (fun _ i _ => ys.length - (intOf i).toNat)
              case atStart => exact ⟨0, Nat.zero_le _, rfl, by simp [Rf.cnt], rfl⟩
              case round =>
                obtain ⟨j, hj, rfl, rfl, rfl⟩ := hrel
                by_cases hlt : j < ys.length
                · obtain ⟨x1, x2, e1, hx3⟩ := HI4.out
                  cases e1
                  obtain ⟨g, o, rfl, hg, hcell⟩ := hx3 (by omega)
                  have q0 := hcell j hlt
                  have hr := HYR.out ys[j] (List.getElem_mem hlt)
                  have HCS := Lib.hid (Rf.cnt_succ (xs := xs) hlt)
                  have hle := Rf.cnt_le xs ys j
                  clear hcell hx3
                  generalize ys[j] = y at *
                  generalize Rf.cnt xs ys j = c at *
                  obtain ⟨k, rfl⟩ : ∃ k : Nat, y = k := ⟨y.toNat, by omega⟩
                  have hkn : k < n.toNat := by omega
                  have hk1 : (k : Int) < n := by omega
                  have q2 := HK5.out.cell k
                  rw [bks_get hkn] at q2
                  by_cases hm : (k : Int) ∈ xs
                  · rw [decide_eq_true hm] at q2
                    rw [if_pos hm] at HCS
                    clear hm hr
                    go_wp2_with fail
                    go_roundw
                    case measure => simp only [intOf]; omega
                    case rel => exact ⟨j + 1, by omega, by go_num, by rw [HCS.out]; go_num, trivial⟩
                  · rw [decide_eq_false hm] at q2
                    rw [if_neg hm] at HCS
                    clear hm hr
                    go_wp2_with fail
                    go_roundw
                    case measure => simp only [intOf]; omega
                    case rel => exact ⟨j + 1, by omega, by go_num, by rw [HCS.out]; go_num, trivial⟩
                · obtain rfl : j = ys.length := by omega
                  rw [HCN.out]
                  clear hlt hj
                  go_wp2_with fail
                  refine (H5.out _ HB5.out).mono ?_
                  rintro e w5 ⟨rfl, hb5⟩
                  have HB6 := Lib.hid (HB5.out.trans (hb5.mono HB5.out.size))
                  clear hb5
                  go_wp2_with fail
                  go_ret
                  exact ⟨rfl, HB6.out⟩
end Go.Proofs.YtdpkhapcgbheeaaGreatDoor
