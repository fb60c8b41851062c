/- Package uri over lists of bytes: what Resolve takes from a base, a relative path. -/
import Derived.Test.YthicgeiljficbaaUriI
namespace Go.Proofs.Ythicgeiljficbaa
open Go.RowKit
set_option linter.unusedSimpArgs false
set_option linter.unusedVariables false
set_option linter.unnecessarySimpa false

set_option maxRecDepth 100000 in
set_option maxHeartbeats 4000000 in
theorem from_rel1 (p : Nat) (bs ba bp bq bf s a pa q f : List UInt8) (bhq bhf hq hf : Bool) (c : UInt8) (t : List UInt8) (hpa : pa = c :: t) (hc0 : ((c.toNat : Int) == 47) = false) (hp : pa.length + bp.length ≤ 1073741824) (w : World) (h : Blk w p [.string (str s), .string (str a), .string (str pa), .string (str q), .string (str f), .bool false, .bool hq, .bool hf] 57) :
    Calls Try.prog 27 #[.pointer (some ⟨p, 0, none⟩), .agg #[.string (str bs), .string (str ba), .string (str bp), .string (str bq), .string (str bf), .bool false, .bool bhq, .bool bhf]] w
      (Sets p ⟨bs, ba, dotsL (upto bp ++ pa), q, f, false, hq, hf⟩ w) := by
  have pc := h.cell; have pf := h.froz; have hz := h.lt
  have HP := Lib.hid h
  clear h
  have hse : (str pa).toList.isEmpty = false := by rw [hpa, str_toList]; rfl
  have hpl : 0 < pa.length := by rw [hpa]; simp
  have hc : (((pa[0]'hpl).toNat : Int) == 47) = false := by subst hpa; exact hc0
  clear hpa hc0
  go_enter Try.func27, Try.ntmps27
  go_wp2_with fail
  obtain ⟨W, hW⟩ : ∃ W, W = (w.setCell ⟨p, 0, none⟩ (.string (str bs))).alloc (.cells #[.string (str bs), .string (str ba), .string (str bp), .string (str bq), .string (str bf), .bool false, .bool bhq, .bool bhf] 27) := ⟨_, rfl⟩
  have P1 := (HP.out.set 0 (.string (str bs))).alloc (.cells #[.string (str bs), .string (str ba), .string (str bp), .string (str bq), .string (str bf), .bool false, .bool bhq, .bool bhf] 27)
  have V1 := Blk.new (w.setCell ⟨p, 0, none⟩ (.string (str bs))) [.string (str bs), .string (str ba), .string (str bp), .string (str bq), .string (str bf), .bool false, .bool bhq, .bool bhf] 27
  have B1 : Below p w ((w.setCell ⟨p, 0, none⟩ (.string (str bs))).alloc (.cells #[.string (str bs), .string (str ba), .string (str bp), .string (str bq), .string (str bf), .bool false, .bool bhq, .bool bhf] 27)) := ((Below.refl p w).setCell (p := ⟨p, 0, none⟩) (Nat.le_refl _) _).alloc (by simp; omega) _
  simp only [List.set, World.size_setCell] at P1 V1
  rw [← hW] at P1 V1 B1 ⊢
  clear hW pc pf HP
  have pc := P1.cell; have pf := P1.froz; have vc := V1.cell; have vf := V1.froz
  have HP := Lib.hid P1; have HB := Lib.hid B1; have HV := Lib.hid V1
  clear P1 B1 V1
  go_region
  go_wp2_with fail
  have HD := fun W => dots_any (upto bp ++ pa) (by
      have : (upto bp).length ≤ bp.length := by unfold upto; rw [List.length_take]; omega
      rw [List.length_append]; omega) W
  have hi0 := lastIdx_ge bp
  have hi1 := lastIdx_lt bp
  have HL := fun W => lastidx_l bp (by omega) W
  unfold upto at HD ⊢
  obtain ⟨n, hn⟩ : ∃ n : Nat, Lib.lastIndexByte (str bp) 47 = (n : Int) - 1 := ⟨(Lib.lastIndexByte (str bp) 47 + 1).toNat, by omega⟩
  rw [hn] at hi0 hi1 HL HD ⊢
  have hnl : n ≤ bp.length := by omega
  have en : ((n : Int) - 1 + 1).toNat = n := by omega
  rw [en] at HD ⊢
  clear en hn hi0 hi1
  have HHD := Lib.hid HD
  have HHL := Lib.hid HL
  clear HD HL
  have hsl := fun wx => slice_to (n := n) bp hnl wx
  have e1 : IntKind.i64.wrap ((n : Int) - 1 + 1) = (n : Int) := by rw [IntWalk.i64_in _ (by omega)]; omega
  have e2 : IntKind.i64.wrap (n : Int) = (n : Int) := IntWalk.i64_in _ (by omega)
  have e3 : wrap64 (n : Int) = (n : Int) := by unfold wrap64; omega
  have e4 : n ≤ (str bp).size := by rw [str_size]; exact hnl
  obtain ⟨W2, hW⟩ : ∃ W2, W2 = ((W.setCell ⟨p, 1, none⟩ (.string (str ba))).setCell ⟨p, 5, none⟩ (.bool false)).drew := ⟨_, rfl⟩
  have P1 := ((HP.out.set 1 (.string (str ba))).set 5 (.bool false)).drew
  have V1 := ((HV.out.other (a := ⟨p, 1, none⟩) (.string (str ba)) (by simp; omega)).other (a := ⟨p, 5, none⟩) (.bool false) (by simp; omega)).drew
  have B1 := ((HB.out.setCell (p := ⟨p, 1, none⟩) (Nat.le_refl _) (.string (str ba))).setCell (p := ⟨p, 5, none⟩) (Nat.le_refl _) (.bool false)).drew
  simp only [List.set] at P1
  rw [← hW] at P1 V1 B1 ⊢
  have hz2 := P1.lt
  clear hW pc pf vc vf HP HB HV
  have pc := P1.cell; have pf := P1.froz; have vc := V1.cell; have vf := V1.froz
  have HP := Lib.hid P1; have HB := Lib.hid B1
  clear P1 B1
  have HV := Lib.hid V1
  clear V1
  have hne1 : ¬ p = w.heap.size := by omega
  have hne2 : ¬ w.heap.size = p := by omega
  have hbn : (bp.take n).length + pa.length ≤ 1073741824 := by rw [List.length_take]; omega
  have hbn0 : (bp.take n).length ≤ 1073741824 := by omega
  have hadd := fun wx => add_str (bp.take n) pa hbn wx
  go_region_with (first
    | (go_at_call 40; refine (HHL.out _).mono ?_; rintro e w5 ⟨rfl, rfl⟩)
    | (go_at_call 9; refine (HHD.out _).mono ?_; rintro e w6 ⟨rfl, hb⟩; have P6 := HP.out.drew.call hb; have B6 := RowKit.Below.call HB.out.drew hb (by have := HB.out.size; simp; omega); have pc6 := P6.cell; have pf6 := P6.froz; have HP6 := Lib.hid P6; have HB6 := Lib.hid B6; clear P6 B6 hb))
  all_goals go_wp2_with fail
  all_goals go_end0
  all_goals exact ⟨rfl, HP6.out.set 2 _, HB6.out.setCell (p := ⟨p, 2, none⟩) (Nat.le_refl _) _⟩

set_option maxRecDepth 100000 in
set_option maxHeartbeats 4000000 in
theorem from_rel2 (p : Nat) (bs ba bp bq bf s a pa q f : List UInt8) (bhq bhf hq hf : Bool) (hbp : bp ≠ []) (c : UInt8) (t : List UInt8) (hpa : pa = c :: t) (hc0 : ((c.toNat : Int) == 47) = false) (hp : pa.length + bp.length ≤ 1073741824) (w : World) (h : Blk w p [.string (str s), .string (str a), .string (str pa), .string (str q), .string (str f), .bool false, .bool hq, .bool hf] 57) :
    Calls Try.prog 27 #[.pointer (some ⟨p, 0, none⟩), .agg #[.string (str bs), .string (str ba), .string (str bp), .string (str bq), .string (str bf), .bool true, .bool bhq, .bool bhf]] w
      (Sets p ⟨bs, ba, dotsL (upto bp ++ pa), q, f, true, hq, hf⟩ w) := by
  have pc := h.cell; have pf := h.froz; have hz := h.lt
  have HP := Lib.hid h
  clear h
  have hse : (str pa).toList.isEmpty = false := by rw [hpa, str_toList]; rfl
  have hpl : 0 < pa.length := by rw [hpa]; simp
  have hc : (((pa[0]'hpl).toNat : Int) == 47) = false := by subst hpa; exact hc0
  clear hpa hc0
  have hbe : (str bp).toList.isEmpty = false := by rw [str_toList]; simpa using hbp
  clear hbp
  go_enter Try.func27, Try.ntmps27
  go_wp2_with fail
  obtain ⟨W, hW⟩ : ∃ W, W = (w.setCell ⟨p, 0, none⟩ (.string (str bs))).alloc (.cells #[.string (str bs), .string (str ba), .string (str bp), .string (str bq), .string (str bf), .bool true, .bool bhq, .bool bhf] 27) := ⟨_, rfl⟩
  have P1 := (HP.out.set 0 (.string (str bs))).alloc (.cells #[.string (str bs), .string (str ba), .string (str bp), .string (str bq), .string (str bf), .bool true, .bool bhq, .bool bhf] 27)
  have V1 := Blk.new (w.setCell ⟨p, 0, none⟩ (.string (str bs))) [.string (str bs), .string (str ba), .string (str bp), .string (str bq), .string (str bf), .bool true, .bool bhq, .bool bhf] 27
  have B1 : Below p w ((w.setCell ⟨p, 0, none⟩ (.string (str bs))).alloc (.cells #[.string (str bs), .string (str ba), .string (str bp), .string (str bq), .string (str bf), .bool true, .bool bhq, .bool bhf] 27)) := ((Below.refl p w).setCell (p := ⟨p, 0, none⟩) (Nat.le_refl _) _).alloc (by simp; omega) _
  simp only [List.set, World.size_setCell] at P1 V1
  rw [← hW] at P1 V1 B1 ⊢
  clear hW pc pf HP
  have pc := P1.cell; have pf := P1.froz; have vc := V1.cell; have vf := V1.froz
  have HP := Lib.hid P1; have HB := Lib.hid B1; have HV := Lib.hid V1
  clear P1 B1 V1
  go_region
  go_wp2_with fail
  have HD := fun W => dots_any (upto bp ++ pa) (by
      have : (upto bp).length ≤ bp.length := by unfold upto; rw [List.length_take]; omega
      rw [List.length_append]; omega) W
  have hi0 := lastIdx_ge bp
  have hi1 := lastIdx_lt bp
  have HL := fun W => lastidx_l bp (by omega) W
  unfold upto at HD ⊢
  obtain ⟨n, hn⟩ : ∃ n : Nat, Lib.lastIndexByte (str bp) 47 = (n : Int) - 1 := ⟨(Lib.lastIndexByte (str bp) 47 + 1).toNat, by omega⟩
  rw [hn] at hi0 hi1 HL HD ⊢
  have hnl : n ≤ bp.length := by omega
  have en : ((n : Int) - 1 + 1).toNat = n := by omega
  rw [en] at HD ⊢
  clear en hn hi0 hi1
  have HHD := Lib.hid HD
  have HHL := Lib.hid HL
  clear HD HL
  have hsl := fun wx => slice_to (n := n) bp hnl wx
  have e1 : IntKind.i64.wrap ((n : Int) - 1 + 1) = (n : Int) := by rw [IntWalk.i64_in _ (by omega)]; omega
  have e2 : IntKind.i64.wrap (n : Int) = (n : Int) := IntWalk.i64_in _ (by omega)
  have e3 : wrap64 (n : Int) = (n : Int) := by unfold wrap64; omega
  have e4 : n ≤ (str bp).size := by rw [str_size]; exact hnl
  obtain ⟨W2, hW⟩ : ∃ W2, W2 = ((W.setCell ⟨p, 1, none⟩ (.string (str ba))).setCell ⟨p, 5, none⟩ (.bool true)).drew := ⟨_, rfl⟩
  have P1 := ((HP.out.set 1 (.string (str ba))).set 5 (.bool true)).drew
  have V1 := ((HV.out.other (a := ⟨p, 1, none⟩) (.string (str ba)) (by simp; omega)).other (a := ⟨p, 5, none⟩) (.bool true) (by simp; omega)).drew
  have B1 := ((HB.out.setCell (p := ⟨p, 1, none⟩) (Nat.le_refl _) (.string (str ba))).setCell (p := ⟨p, 5, none⟩) (Nat.le_refl _) (.bool true)).drew
  simp only [List.set] at P1
  rw [← hW] at P1 V1 B1 ⊢
  have hz2 := P1.lt
  clear hW pc pf vc vf HP HB HV
  have pc := P1.cell; have pf := P1.froz; have vc := V1.cell; have vf := V1.froz
  have HP := Lib.hid P1; have HB := Lib.hid B1
  clear P1 B1
  have HV := Lib.hid V1
  clear V1
  have hne1 : ¬ p = w.heap.size := by omega
  have hne2 : ¬ w.heap.size = p := by omega
  have hbn : (bp.take n).length + pa.length ≤ 1073741824 := by rw [List.length_take]; omega
  have hbn0 : (bp.take n).length ≤ 1073741824 := by omega
  have hadd := fun wx => add_str (bp.take n) pa hbn wx
  go_region_with (first
    | (go_at_call 40; refine (HHL.out _).mono ?_; rintro e w5 ⟨rfl, rfl⟩)
    | (go_at_call 9; refine (HHD.out _).mono ?_; rintro e w6 ⟨rfl, hb⟩; have P6 := HP.out.drew.call hb; have B6 := RowKit.Below.call HB.out.drew hb (by have := HB.out.size; simp; omega); have pc6 := P6.cell; have pf6 := P6.froz; have HP6 := Lib.hid P6; have HB6 := Lib.hid B6; clear P6 B6 hb))
  all_goals go_wp2_with fail
  all_goals go_end0
  all_goals exact ⟨rfl, HP6.out.set 2 _, HB6.out.setCell (p := ⟨p, 2, none⟩) (Nat.le_refl _) _⟩

end Go.Proofs.Ythicgeiljficbaa
