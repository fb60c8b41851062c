/- caliperlaw07.heads answers true. -/
import Derived.Test.YthicgeiljficbaaDoorPtrQ
namespace Go.Proofs.YthicgeiljficbaaDoor
open Go.RowKit Go.Proofs.YthicgeiljficbaaDoor.Ref Go.Proofs.YthicgeiljficbaaDoorW.PrintWords Go.Proofs.YthicgeiljficbaaDoorW.PrintLast
set_option linter.unusedSimpArgs false
set_option linter.unusedVariables false
set_option linter.unnecessarySimpa false
attribute [local go_sem] vcs

def yesV : S28 := ⟨2, z24, ⟨#[]⟩, [], []⟩
def fiveV : S28 := ⟨5, z24, ⟨#[]⟩, [yesV], []⟩
theorem h_parse : parseP [47, 97, 126, 49, 98, 47, 126, 48, 49] = some [[97, 47, 98], [126, 49]] := by decide +kernel
theorem h_bad : parseP [97] = none := by decide +kernel
theorem h_unesc : unesB [97, 37, 67, 51, 37, 65, 57] = some [97, 195, 169] := by decide +kernel
theorem h_find : findV fiveV [47, 48] = (some yesV, 0) := by kernel_rfl
theorem h_none : findV fiveV [47, 48, 48] = (none, 71) := by kernel_rfl
theorem ok_yes : OkT yesV := .mk _ (fun h => by simp [yesV] at h) (fun y hy => by simp [yesV] at hy)
theorem ok_five : OkT fiveV := .mk _ (fun h => by simp [fiveV] at h) (fun y hy => by simp [fiveV] at hy; subst hy; exact ok_yes)
theorem h_all : allP [] fiveV = [[], [47, 48]] := by
  rw [allP_eq]
  show [] :: (allP ([] ++ escPart (nameP 5 [] 0)) yesV ++ []) = _
  rw [allP_eq]
  decide +kernel

theorem VK.yes (W : World) : VK W yesV (.slice none 0 0) (.slice none 0 0) := ⟨none, 0, none, 0, rfl, rfl, Nat.le_refl _, Kd.C_nil _ _, Nat.le_refl _, Kd.C_nil _ _⟩
/-- a row of one value -/
theorem C_one {W : World} {b : Nat} {y : S28} {v5 v6 : Value} (h : Blk W b (vcs y v5 v6) 28) (hk : VK W y v5 v6) : Kd.C k28 W (some ⟨b, 0, none⟩) 1 [y] := by
  obtain ⟨A5, c5, A6, c6, rfl, rfl, h5, h5', h6, h6'⟩ := hk
  refine ⟨rfl, by decide, fun _ => ⟨_, rfl, fun j p hj => ?_⟩⟩
  obtain rfl : j = 0 := by
    have := (List.getElem?_eq_some_iff.1 hj).1
    simp at this
    exact this
  obtain rfl : y = p := by simpa using hj
  refine ⟨_, rfl, k28_mk W y h5 h5' h6 h6', fun i u hu => ?_⟩
  have e : (⟨b, 0, none⟩ : Addr).add (0 * k28.sz + i) = ⟨b, i, none⟩ := by
    rw [Nat.zero_mul, Nat.zero_add]
    cases i <;> simp [Addr.add]
  rw [e, h.cell]
  exact hu

set_option maxRecDepth 100000 in
set_option maxHeartbeats 4000000 in
theorem heads_any (w : World) (he : EnvV w) : Calls Tryd.prog 11 #[] w (New (.bool true) w) := by
  have hz8 := he.1
  have HE := Lib.hid he
  have HP : Hid (∀ W, Below w.heap.size w W → Calls Tryd.prog 19 #[.string ⟨#[47, 97, 126, 49, 98, 47, 126, 48, 49]⟩] W (Parsed (some [[97, 47, 98], [126, 49]]) W)) := by
    intro W hb
    have := parse_l [47, 97, 126, 49, 98, 47, 126, 48, 49] (by decide) W (he.call hb).2.1
    rw [h_parse] at this
    exact this
  have HB : Hid (∀ W, Below w.heap.size w W → Calls Tryd.prog 19 #[.string ⟨#[97]⟩] W (Parsed none W)) := by
    intro W hb
    have := parse_l [97] (by decide) W (he.call hb).2.1
    rw [h_bad] at this
    exact this
  have HU : Hid (∀ W, Below w.heap.size w W → Calls Tryd.prog 22 #[.string ⟨#[97, 37, 67, 51, 37, 65, 57]⟩] W (fun e W' => Below W.heap.size W W' ∧ e = .returned (.tuple #[.string ⟨#[97, 195, 169]⟩, .int .i64 0]))) := by
    intro W hb
    have := unescape_l [97, 37, 67, 51, 37, 65, 57] (by decide) W (he.call hb).2.2.1 (by have := hb.size; show 1 < _; omega)
    rw [h_unesc] at this
    exact this
  have HV : Hid (∀ (b : Nat) W, Blk W b (vcs yesV (.slice none 0 0) (.slice none 0 0)) 28 → VK W fiveV (.slice (some ⟨b, 0, none⟩) 1 1) (.slice none 0 0)) :=
    fun b W hk => ⟨_, _, _, _, rfl, rfl, Nat.le_refl _, C_one hk (VK.yes W), Nat.le_refl _, Kd.C_nil _ _⟩
  have HF : Hid (∀ (b : Nat) W, Below w.heap.size w W → Blk W b (vcs yesV (.slice none 0 0) (.slice none 0 0)) 28 → Calls Tryd.prog 12 #[.agg #[.int .i64 5, .bool false, .string ⟨#[]⟩, .int .i64 0, .string ⟨#[]⟩, .slice (some ⟨b, 0, none⟩) 1 1, .slice none 0 0], .string ⟨#[47, 48]⟩] W (fun e W' => ∃ A5 c5 A6 c6, e = .returned (.tuple #[.agg #[.int .i64 2, .bool false, .string ⟨#[]⟩, .int .i64 0, .string ⟨#[]⟩, .slice A5 0 c5, .slice A6 0 c6], .int .i64 0]) ∧ Below W.heap.size W W')) := by
    intro b W hb hk
    have := find_l fiveV _ _ [47, 48] (by decide) W W (HV.out b W hk) (Below.refl _ _) (he.call hb) ok_five
    rw [h_find] at this
    refine this.mono ?_
    rintro e W' ⟨x5, x6, rfl, hv, hb⟩
    obtain ⟨A5, c5, A6, c6, rfl, rfl⟩ := hv.open
    exact ⟨A5, c5, A6, c6, rfl, hb⟩
  have HN : Hid (∀ (b : Nat) W, Below w.heap.size w W → Blk W b (vcs yesV (.slice none 0 0) (.slice none 0 0)) 28 → Calls Tryd.prog 12 #[.agg #[.int .i64 5, .bool false, .string ⟨#[]⟩, .int .i64 0, .string ⟨#[]⟩, .slice (some ⟨b, 0, none⟩) 1 1, .slice none 0 0], .string ⟨#[47, 48, 48]⟩] W (fun e W' => ∃ A5 c5 A6 c6, e = .returned (.tuple #[.agg #[.int .i64 0, .bool false, .string ⟨#[]⟩, .int .i64 0, .string ⟨#[]⟩, .slice A5 0 c5, .slice A6 0 c6], .int .i64 71]) ∧ Below W.heap.size W W')) := by
    intro b W hb hk
    have := find_l fiveV _ _ [47, 48, 48] (by decide) W W (HV.out b W hk) (Below.refl _ _) (he.call hb) ok_five
    rw [h_none] at this
    refine this.mono ?_
    rintro e W' ⟨x5, x6, rfl, hv, hb⟩
    obtain ⟨A5, c5, A6, c6, rfl, rfl⟩ := hv.open
    exact ⟨A5, c5, A6, c6, rfl, hb⟩
  have HA : Hid (∀ (b : Nat) W, Below w.heap.size w W → Blk W b (vcs yesV (.slice none 0 0) (.slice none 0 0)) 28 → Calls Tryd.prog 16 #[.agg #[.int .i64 5, .bool false, .string ⟨#[]⟩, .int .i64 0, .string ⟨#[]⟩, .slice (some ⟨b, 0, none⟩) 1 1, .slice none 0 0]] W (Alled [[], [47, 48]] W)) := by
    intro b W hb hk
    have h8 : 8 ≤ W.heap.size := by have := hb.size; omega
    have := all_l fiveV _ _ W W (HV.out b W hk) (Below.refl _ _) h8 (he.call hb) ok_five (by rw [h_all]; intro p hp; simp at hp; rcases hp with rfl | rfl <;> decide) (by rw [h_all]; decide)
    rw [h_all] at this
    exact this
  clear he
  go_enter Tryd.func11, Tryd.ntmps11
  go_wp2_with fail
  refine (HP.out _ (Below.refl _ _)).mono ?_
  rintro e w1 ⟨v1, rfl, ht1, -, hb1⟩
  have HT1 : Hid (Txts w1 v1 [[97, 47, 98], [126, 49]]) := ht1
  obtain ⟨a1, n1, rfl, -⟩ := ht1.form
  have hz1 := hb1.size
  have HB1 := Lib.hid hb1
  clear ht1 hb1
  go_wp2_with fail
  have hk := (Blk.new w1 (vcs yesV (.slice none 0 0) (.slice none 0 0)) 28).alloc (.cells (vcs fiveV (.slice (some ⟨w1.heap.size, 0, none⟩) 1 1) (.slice none 0 0)).toArray 28)
  have hf := Blk.new (w1.alloc (.cells (vcs yesV (.slice none 0 0) (.slice none 0 0)).toArray 28)) (vcs fiveV (.slice (some ⟨w1.heap.size, 0, none⟩) 1 1) (.slice none 0 0)) 28
  rw [World.size_alloc] at hf
  have hb2 : Below w.heap.size w ((w1.alloc (.cells (vcs yesV (.slice none 0 0) (.slice none 0 0)).toArray 28)).alloc (.cells (vcs fiveV (.slice (some ⟨w1.heap.size, 0, none⟩) 1 1) (.slice none 0 0)).toArray 28)) := (HB1.out.alloc hz1 _).alloc (by simp; omega) _
  have HT2 := Lib.hid (HT1.out.call (((Below.refl w1.heap.size w1).alloc (Nat.le_refl _) (.cells (vcs yesV (.slice none 0 0) (.slice none 0 0)).toArray 28)).alloc (by simp) (.cells (vcs fiveV (.slice (some ⟨w1.heap.size, 0, none⟩) 1 1) (.slice none 0 0)).toArray 28)))
  refine (HF.out w1.heap.size _ hb2 hk).mono ?_
  rintro e w3 ⟨A5, c5, A6, c6, rfl, hb3⟩
  have HK3 := Lib.hid (hk.call hb3)
  have HF3 := Lib.hid (hf.call hb3)
  have HT3 := Lib.hid (HT2.out.call hb3)
  have HB3 := Lib.hid (hb2.trans (hb3.mono hb2.size))
  have hz3 : w1.heap.size + 1 < w3.heap.size := hf.call hb3 |>.lt
  obtain ⟨⟨q0, q1, q2, q3, q4, q5, q6⟩, -, -⟩ := HF3.out.seven
  simp only [fiveV, yesV, z24] at q0 q1 q2 q3 q4 q5 q6
  clear hk hf hb2 hb3 HT1 HT2 HB1
  go_wp2_with fail
  have hb4 : Below w3.heap.size w3 (w3.alloc (.cells #[.int .i64 2, .bool false, .string ⟨#[]⟩, .int .i64 0, .string ⟨#[]⟩, .slice A5 0 c5, .slice A6 0 c6] 28)) := (Below.refl _ _).alloc (Nat.le_refl _) _
  have hr4 := Blk.new w3 [.int .i64 2, .bool false, .string ⟨#[]⟩, .int .i64 0, .string ⟨#[]⟩, .slice A5 0 c5, .slice A6 0 c6] 28
  refine (HN.out w1.heap.size _ (HB3.out.trans (hb4.mono (by omega))) (HK3.out.call hb4)).mono ?_
  rintro e w5 ⟨B5, d5, B6, d6, rfl, hb5⟩
  have hb35 := hb4.trans (hb5.mono hb4.size)
  have HK5 := Lib.hid (HK3.out.call hb35)
  have HF5 := Lib.hid (HF3.out.call hb35)
  have HT5 := Lib.hid (HT3.out.call hb35)
  have HR5 := Lib.hid (hr4.call hb5)
  have HB5 := Lib.hid (HB3.out.trans (hb35.mono (by omega)))
  have hz5 : w3.heap.size < w5.heap.size := (hr4.call hb5).lt
  clear hb4 hr4 hb5 hb35 HK3 HF3 HT3 HB3 q0 q1 q2 q3 q4 q5 q6
  go_wp2_with fail
  have hb6 : Below w5.heap.size w5 (w5.alloc (.cells #[.int .i64 0, .bool false, .string ⟨#[]⟩, .int .i64 0, .string ⟨#[]⟩, .slice B5 0 d5, .slice B6 0 d6] 28)) := (Below.refl _ _).alloc (Nat.le_refl _) _
  refine (HB.out _ (HB5.out.trans (hb6.mono (by omega)))).mono ?_
  rintro e w7 ⟨v7, rfl, ht7, -, hb7⟩
  obtain ⟨a7, n7, rfl, -⟩ := ht7.form
  have hb57 := hb6.trans (hb7.mono hb6.size)
  clear hb6 hb7 ht7
  have HB7 := Lib.hid (HB5.out.trans (hb57.mono (by omega)))
  have hz7 := hb57.size
  have HB57 := Lib.hid hb57
  clear hb57
  go_wp2_with fail
  refine (HU.out _ HB7.out).mono ?_
  rintro e w8 ⟨hb8, rfl⟩
  have hb58 := HB57.out.trans (hb8.mono hz7)
  have HK8 := Lib.hid (HK5.out.call hb58)
  have HF8 := Lib.hid (HF5.out.call hb58)
  have HT8 := Lib.hid (HT5.out.call hb58)
  have HR8 := Lib.hid (HR5.out.call hb58)
  have HB8 := Lib.hid (HB5.out.trans (hb58.mono (by omega)))
  have hz8' := hb58.size
  have r0 : w8.cell? ⟨w3.heap.size, 0, none⟩ = some (.int .i64 2) := HR8.out.cell 0
  clear HB57 hb8 hb58 HK5 HF5 HT5 HR5 HB5 HB7
  go_wp2_with fail
  have hb9 : Below w8.heap.size w8 (w8.alloc (.cells #[.string ⟨#[97, 47, 98]⟩, .string ⟨#[126, 49]⟩] 9)) := (Below.refl _ _).alloc (Nat.le_refl _) _
  have ht9 : Txts (w8.alloc (.cells #[.string ⟨#[97, 47, 98]⟩, .string ⟨#[126, 49]⟩] 9)) (.slice (some ⟨w8.heap.size, 0, none⟩) 2 2) [[97, 47, 98], [126, 49]] := Txts.blk (xs := [[97, 47, 98], [126, 49]]) (Blk.new w8 _ _) 2
  have hx := texts_l _ _ _ _ _ (HT8.out.call hb9) ht9 (by decide) (by decide)
  rw [show decide (([[97, 47, 98], [126, 49]] : List (List UInt8)) = [[97, 47, 98], [126, 49]]) = true from by decide] at hx
  have HX := Lib.hid hx
  have HB9 := Lib.hid hb9
  have HR9 := Lib.hid (HR8.out.call hb9)
  clear hx hb9 ht9
  refine HX.out.mono ?_
  rintro e w10 ⟨rfl, hb10⟩
  have hb := HB9.out.trans (hb10.mono HB9.out.size)
  have HK10 := Lib.hid (HK8.out.call hb)
  have HF10 := Lib.hid (HF8.out.call hb)
  have hR10 := HR8.out.call hb
  have HB10 := Lib.hid (HB8.out.trans (hb.mono (by omega)))
  have hz10 := hb.size
  have r10 : w10.cell? ⟨w3.heap.size, 0, none⟩ = some (.int .i64 2) := hR10.cell 0
  obtain ⟨⟨q0, q1, q2, q3, q4, q5, q6⟩, -, -⟩ := HF10.out.seven
  simp only [fiveV, yesV, z24] at q0 q1 q2 q3 q4 q5 q6
  clear hb hb10 hR10 r0 HK8 HF8 HT8 HR8 HB8 HB9 HX HR9
  go_wp2_with fail
  refine (HA.out w1.heap.size _ HB10.out HK10.out).mono ?_
  rintro e w11 ⟨v11, rfl, hrow, hb11⟩
  obtain ⟨a11, n11, rfl, -⟩ := hrow.shape
  have HB11 := Lib.hid (HB10.out.trans (hb11.mono (by omega)))
  clear hrow hb11
  go_wp2_with fail
  go_ret
  exact ⟨rfl, HB11.out⟩
end Go.Proofs.YthicgeiljficbaaDoor
