/- caliperlaw07.PointerEscapes answers true. -/
import Derived.Test.YthicgeiljficbaaDoorPtrU
import Derived.Test.YthicgeiljficbaaDoorPtrR
namespace Go.Proofs.YthicgeiljficbaaDoor
open Go.RowKit
set_option linter.unusedSimpArgs false
set_option linter.unusedVariables false
set_option linter.unnecessarySimpa false

theorem hexD_ok (n : Nat) (h : n < 16) : 32 < hexD n ∧ hexD n ≤ 126 ∧ hexV (hexD n) = some n := by
  have : ∀ n : Fin 16, 32 < hexD n ∧ hexD n ≤ 126 ∧ hexV (hexD n) = some n.val := by decide +kernel
  exact this ⟨n, h⟩
theorem esc1_range (c : UInt8) : ∀ d ∈ esc1 c, 32 < d ∧ d ≤ 126 := by
  intro d hd
  unfold esc1 at hd
  have hlt := c.toNat_lt
  split at hd
  · rename_i h
    simp at hd
    subst hd
    have := okC_range d h
    exact ⟨this.1, this.2.1⟩
  · have h1 := hexD_ok (c.toNat / 16) (by omega)
    have h2 := hexD_ok (c.toNat % 16) (by omega)
    simp at hd
    rcases hd with rfl | rfl | rfl
    · decide
    · exact ⟨h1.1, h1.2.1⟩
    · exact ⟨h2.1, h2.2.1⟩
theorem esc_range (l : List UInt8) : ∀ d ∈ esc l, 32 < d ∧ d ≤ 126 := by
  intro d hd
  unfold esc at hd
  obtain ⟨c, _, h⟩ := List.mem_flatMap.1 hd
  exact esc1_range c d h
theorem unesc_esc (l : List UInt8) : unesc (esc l) = some l := by
  induction l with
  | nil => rfl
  | cons c l ih =>
    have e : esc (c :: l) = esc1 c ++ esc l := rfl
    have hlt := c.toNat_lt
    rw [e]
    unfold esc1
    by_cases h : okC c = true
    · rw [if_pos h, List.singleton_append, unesc_other (okC_range c h).2.2, ih]; rfl
    · rw [if_neg h]
      show unesc (37 :: hexD (c.toNat / 16) :: hexD (c.toNat % 16) :: esc l) = _
      have h1 := hexD_ok (c.toNat / 16) (by omega)
      have h2 := hexD_ok (c.toNat % 16) (by omega)
      have hx : hexN 0 [hexD (c.toNat / 16), hexD (c.toNat % 16)] = some c.toNat := by
        simp only [hexN, h1.2.2, h2.2.2]
        rw [Option.some.injEq]
        omega
      rw [unesc_two, hx, ih]
      simp
theorem unesB_esc (l : List UInt8) : unesB (esc l) = if utfB l then some l else none := by unfold unesB; rw [unesc_esc]

/-- a text's bytes, anew -/
theorem conv_row (s : ByteArray) (w : World) : ∃ cap W', (convert 9 51 (.string s)).run Tryd.prog w = .ok (.slice (some ⟨w.heap.size, 0, none⟩) s.size cap) W' ∧
    s.size ≤ cap ∧ Below w.heap.size w W' ∧ w.heap.size < W'.heap.size ∧ ∀ j, j < s.size → W'.cell? ⟨w.heap.size, j, none⟩ = some (.int .u8 (s.data.toList.getD j 0).toNat) := by
  refine ⟨_, _, Lib.run_convert_string_bytes w 9 51 5 s Tryd.underlying9 Tryd.underlying51 Tryd.underlying5, grownCap_ge _ _ _ _, ?_, ?_, ?_⟩
  · exact Lib.bytesWorld_below _ _ _
  · rw [Lib.bytesWorld_size]; omega
  · exact fun j hj => Lib.bytesWorld_cell w _ s j hj
theorem conv_good (l : List UInt8) (hl : l.length ≤ 67108864) (w : World) : ∃ cap W', (convert 9 51 (.string (str l))).run Tryd.prog w = .ok (.slice (some ⟨w.heap.size, 0, none⟩) l.length cap) W' ∧
    Below w.heap.size w W' ∧ Calls Tryd.prog 23 #[.slice (some ⟨w.heap.size, 0, none⟩) l.length cap] W' (fun e w' => Below w.heap.size w w' ∧ ∃ n, e = .returned (.tuple #[.int .i64 n, .bool (utfB l)])) := by
  obtain ⟨cap, W', h1, h2, h3, h4, h5⟩ := conv_row (str l) w
  rw [str_size] at h1 h2 h5
  rw [str_data] at h5
  refine ⟨cap, W', h1, h3, (goodR_l _ l W' ⟨_, cap, rfl, fun _ => ⟨w.heap.size, 0, rfl, h4, fun j hj => ?_⟩⟩ (by omega) (fun a n c h => by cases h; exact h2)).mono ?_⟩
  · rw [Nat.zero_add]; exact h5 j hj
  · rintro e w' ⟨hb, n, rfl⟩
    exact ⟨h3.trans (hb.mono h3.size), n, rfl⟩

set_option maxRecDepth 100000 in
set_option maxHeartbeats 2000000 in
theorem escapes_l (l : List UInt8) (w : World) (hl : l.length ≤ 1048576) (he : EnvV w) :
    Calls Tryd.prog 7 #[.string (str l)] w (New (.bool true) w) := by
  have hel := esc_len l
  have HX := Lib.hid (escape_l l (by omega) w)
  have HU : Hid (∀ W, Below w.heap.size w W → Calls Tryd.prog 22 #[.string (str (esc l))] W (Unesced (if utfB l then some l else none) W)) := by
    intro W hb
    have h8 := he.1
    have := unescape_l (esc l) (by omega) W (he.call hb).2.2.1 (by have := hb.size; show 1 < _; omega)
    rw [unesB_esc] at this
    exact this
  have HH : Hid (∀ W, Below w.heap.size w W → Calls Tryd.prog 11 #[] W (New (.bool true) W)) := fun W hb => heads_any W (he.call hb)
  have HR : Hid (∀ i, i < (esc l).length → 32 < (esc l).getD i 0 ∧ (esc l).getD i 0 ≤ 126) := fun i hi => esc_range l _ (by simp [List.getD, hi])
  have HG := Lib.hid (fun W => conv_good l (by omega) W)
  have hxl : (esc l).length ≤ 3145728 := by omega
  clear he hel
  generalize esc l = x at *
  have hsz := str_size x
  obtain ⟨n, hn⟩ : ∃ n, x.length = n := ⟨_, rfl⟩
  rw [hn] at hsz hxl
  have HN := Lib.hid hn
  clear hn
  go_enter Tryd.func7, Tryd.ntmps7
  go_wp2_with fail
  refine HX.out.mono ?_
  rintro e w1 ⟨rfl, hb1⟩
  have HB1 := Lib.hid hb1
  clear hb1
  go_wp2_with fail
  go_loop [4] (fun i => ∃ k : Nat, k ≤ n ∧ i = .int .i64 k) (fun i => n - (intOf i).toNat)
  case atStart => exact ⟨0, Nat.zero_le _, rfl⟩
  case round =>
    obtain ⟨k, hk, rfl⟩ := hrel
    by_cases hlt : k < n
    · have hr := HR.out k (by rw [HN.out]; exact hlt)
      have h1 : 32 < ((x.getD k 0).toNat : Int) := by have := UInt8.lt_iff_toNat_lt.1 hr.1; have e : (32 : UInt8).toNat = 32 := rfl; omega
      have h2 : ((x.getD k 0).toNat : Int) ≤ 126 := by have := UInt8.le_iff_toNat_le.1 hr.2; have e : (126 : UInt8).toNat = 126 := rfl; omega
      rw [List.getD_eq_getElem?_getD] at h1 h2
      clear hr
      go_wp2_with fail
      go_round
      case measure => simp only [intOf]; omega
      case rel => exact ⟨k + 1, by omega, by go_num⟩
    · obtain rfl : k = n := by omega
      go_wp2_with fail
      refine (HU.out _ HB1.out).mono ?_
      rintro e w2 ⟨hb2, rfl⟩
      have HB2 := Lib.hid (HB1.out.trans (hb2.mono HB1.out.size))
      obtain ⟨cap, W3, hconv, hb3, hgood⟩ := HG.out w2
      have HB3 := Lib.hid (HB2.out.trans (hb3.mono HB2.out.size))
      have hz3 := hb3.size
      have HGD := Lib.hid hgood
      clear hb2 hb3 hgood HU HG HX HR
      have e1 := str_toList l
      generalize utfB l = b at *
      cases b with
      | true =>
        simp only [if_true]
        go_wp2_with fail
        refine HGD.out.mono ?_
        rintro e w4 ⟨hb4, m, rfl⟩
        have HB4 := Lib.hid (HB2.out.trans (hb4.mono HB2.out.size))
        clear hb4 HGD
        go_wp2_with fail
        refine (HH.out _ HB4.out).mono ?_
        rintro e w5 ⟨rfl, hb5⟩
        have HB5 := Lib.hid (HB4.out.trans (hb5.mono HB4.out.size))
        clear hb5
        go_wp2_with fail
        go_ret
        exact ⟨rfl, HB5.out⟩
      | false =>
        simp only [if_false]
        go_wp2_with fail
        refine HGD.out.mono ?_
        rintro e w4 ⟨hb4, m, rfl⟩
        have HB4 := Lib.hid (HB2.out.trans (hb4.mono HB2.out.size))
        clear hb4 HGD
        go_wp2_with fail
        refine (HH.out _ HB4.out).mono ?_
        rintro e w5 ⟨rfl, hb5⟩
        have HB5 := Lib.hid (HB4.out.trans (hb5.mono HB4.out.size))
        clear hb5
        go_wp2_with fail
        go_ret
        exact ⟨rfl, HB5.out⟩
end Go.Proofs.YthicgeiljficbaaDoor
