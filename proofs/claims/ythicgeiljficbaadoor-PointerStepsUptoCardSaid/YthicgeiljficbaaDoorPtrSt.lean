/- caliperlaw07.PointerSteps answers true. -/
import Derived.Test.YthicgeiljficbaaDoorPtrSm
import Derived.Test.YthicgeiljficbaaDoorPtrR
import Derived.Test.YthicgeiljficbaaDoorPtrS
import Derived.Deep.DeepCutAuto
namespace Go.Proofs.YthicgeiljficbaaDoor
open Go.RowKit Go.Proofs.YthicgeiljficbaaDoor.Ref Go.Proofs.YthicgeiljficbaaDoorW.PrintWords Go.Proofs.YthicgeiljficbaaDoorW.PrintLast
set_option linter.unusedSimpArgs false
set_option linter.unusedVariables false
set_option linter.unnecessarySimpa false
attribute [local go_sem] vcs

theorem walkV_append (x : S28) (a b : List (List UInt8)) : walkV x (a ++ b) = match walkV x a with | some y => walkV y b | none => none := by
  induction a generalizing x with
  | nil => rfl
  | cons p ps ih =>
    show (match stepV x p with | some y => walkV y (ps ++ b) | none => none) = _
    rw [walkV]
    cases stepV x p with
    | none => rfl
    | some y => exact ih y
theorem find_text (x : S28) (a : List (List UInt8)) : findV x (ptext a) = match walkV x a with | some y => (some y, 0) | none => (none, 71) := by unfold findV; rw [parse_text]; cases h : walkV x a <;> simp [h]

theorem Blk.store7 {W : World} {b : Nat} {cs : List Value} {T : TypeId} (h : Blk W b cs T) {k : Nat} (hk : b ≠ k) (v0 v1 v2 v3 v4 v5 v6 : Value) :
    Blk (((((((W.setCell ⟨k, 0, none⟩ v0).setCell ⟨k, 1, none⟩ v1).setCell ⟨k, 2, none⟩ v2).setCell ⟨k, 3, none⟩ v3).setCell ⟨k, 4, none⟩ v4).setCell ⟨k, 5, none⟩ v5).setCell ⟨k, 6, none⟩ v6) b cs T :=
  ((((((h.other v0 hk).other v1 hk).other v2 hk).other v3 hk).other v4 hk).other v5 hk).other v6 hk
theorem Blk.set7 {W : World} {b : Nat} {x0 x1 x2 x3 x4 x5 x6 : Value} {T : TypeId} (h : Blk W b [x0, x1, x2, x3, x4, x5, x6] T) (v0 v1 v2 v3 v4 v5 v6 : Value) :
    Blk (((((((W.setCell ⟨b, 0, none⟩ v0).setCell ⟨b, 1, none⟩ v1).setCell ⟨b, 2, none⟩ v2).setCell ⟨b, 3, none⟩ v3).setCell ⟨b, 4, none⟩ v4).setCell ⟨b, 5, none⟩ v5).setCell ⟨b, 6, none⟩ v6) b [v0, v1, v2, v3, v4, v5, v6] T :=
  ((((((h.set 0 v0).set 1 v1).set 2 v2).set 3 v3).set 4 v4).set 5 v5).set 6 v6
theorem below_store7 {B : Nat} {w W : World} (h : Below B w W) {k : Nat} (hk : B ≤ k) (v0 v1 v2 v3 v4 v5 v6 : Value) :
    Below B w (((((((W.setCell ⟨k, 0, none⟩ v0).setCell ⟨k, 1, none⟩ v1).setCell ⟨k, 2, none⟩ v2).setCell ⟨k, 3, none⟩ v3).setCell ⟨k, 4, none⟩ v4).setCell ⟨k, 5, none⟩ v5).setCell ⟨k, 6, none⟩ v6) :=
  ((((((h.setCell hk v0).setCell hk v1).setCell hk v2).setCell hk v3).setCell hk v4).setCell hk v5).setCell hk v6

/-- slot 7 points to the value that was found -/
def PointsTo (o : Option S28 × Int) (w0 : World) (s7 s8 : Value) (W : World) : Prop :=
  ∃ (g : Nat) (y5 y6 : Value), s7 = .pointer (some ⟨g, 0, none⟩) ∧ s8 = .int .i64 o.2 ∧ Hid (Blk W g (vcs (o.1.getD z28) y5 y6) 28) ∧ Hid (VK w0 (o.1.getD z28) y5 y6)

set_option maxRecDepth 100000 in
set_option maxHeartbeats 16000000 in
theorem steps_l (x : S28) (v5 v6 : Value) (va : Value) (a : List (List UInt8)) (vb : Value) (b : List (List UInt8)) (w : World) (hx : VK w x v5 v6) (ha : Txts w va a) (hb : Txts w vb b)
    (hn : bulkT x + (a.length + a.flatten.length) + (b.length + b.flatten.length) ≤ 1048576) (he : EnvV w) :
    Calls Tryd.prog 6 #[.agg (vcs x v5 v6).toArray, va, vb] w (New (.bool true) w) := by
  have HC := Lib.hid (fun W (h : Below w.heap.size w W) => checkR_l x v5 v6 w W hx h (by omega))
  have HD := Lib.hid (fun W (h : Below w.heap.size w W) => depthR_l x v5 v6 w W hx h (by omega))
  have HH : Hid (∀ W, Below w.heap.size w W → Calls Tryd.prog 11 #[] W (New (.bool true) W)) := fun W hb => heads_any W (he.call hb)
  have HE := Lib.hid he
  have HX := Lib.hid hx
  obtain ⟨A5, c5, A6, c6, rfl, rfl⟩ := hx.open
  obtain ⟨aa, ca, rfl, -⟩ := ha.form
  obtain ⟨ab, cb, rfl, -⟩ := hb.form
  have HTA := Lib.hid ha
  have HTB := Lib.hid hb
  have hb1 : ∀ o : Obj, Below w.heap.size w (w.alloc o) := fun o => (Below.refl _ _).alloc (Nat.le_refl _) _
  have HB1 := Lib.hid hb1
  clear hx ha hb he hb1
  show Calls Tryd.prog 6 #[.agg #[.int .i64 x.f0, .bool x.f1.f0, .string x.f1.f1, .int .i64 x.f1.f2, .string x.f2, .slice A5 x.f3.length c5, .slice A6 x.f4.length c6], .slice aa a.length ca, .slice ab b.length cb] w _
  go_enter Tryd.func6, Tryd.ntmps6
  go_wp2_with fail
  refine (HC.out _ (HB1.out _)).mono ?_
  rintro e w1 ⟨r, rfl, hr, hbw⟩
  have hk := (Blk.new w [.int .i64 x.f0, .bool x.f1.f0, .string x.f1.f1, .int .i64 x.f1.f2, .string x.f2, .slice A5 x.f3.length c5, .slice A6 x.f4.length c6] 28).call hbw
  have HK1 := Lib.hid hk
  have HW1 := Lib.hid ((HB1.out _).trans (hbw.mono (by simp)))
  have HR := Lib.hid hr
  clear hbw hk hr
  obtain ⟨⟨q0, q1, q2, q3, q4, q5, q6⟩, -, -⟩ := HK1.out.seven
  by_cases h0 : r = 0
  · subst h0
    have HO : Hid (OkT x) := HR.out rfl
    go_wp2_with fail
    refine (HD.out _ HW1.out).mono ?_
    rintro e w2 ⟨d, rfl, hbw⟩
    have HK2 := Lib.hid (HK1.out.call hbw)
    have HW2 := Lib.hid (HW1.out.trans (hbw.mono HW1.out.size))
    clear hbw q0 q1 q2 q3 q4 q5 q6 HK1 HW1
    obtain ⟨⟨q0, q1, q2, q3, q4, q5, q6⟩, -, -⟩ := HK2.out.seven
    by_cases hd : d > 200
    · go_wp2_with fail
      refine (HH.out _ HW2.out).mono ?_
      rintro e w3 ⟨rfl, hb3⟩
      go_wp2_with fail
      go_ret
      exact ⟨rfl, HW2.out.trans (hb3.mono HW2.out.size)⟩
    · have hd' : d ≤ 200 := by omega
      clear hd
      go_upto_region 3 with (fail)
      have HT : Hid (∀ W, Below w.heap.size w W → Calls Tryd.prog 20 #[.slice aa a.length ca] W (New (.string (str (ptext a))) W)) := fun W h => ptext_l _ a W (HTA.out.call h) (by omega) (by omega) (HE.out.call h).2.1
      have HFA := Lib.hid (find_text x a)
      have HFB := Lib.hid (find_text x (a ++ b))
      obtain ⟨m2, hm2⟩ : ∃ m, (a ++ b).length = m := ⟨_, rfl⟩
      have HT2 : Hid (∀ W v c, Txts W (.slice v m2 c) (a ++ b) → Below w.heap.size w W → Calls Tryd.prog 20 #[.slice v m2 c] W (New (.string (str (ptext (a ++ b)))) W)) := fun W v c h k => ptext_l _ (a ++ b) W h (by simp only [List.length_append]; omega) (by simp only [List.length_append, List.flatten_append]; omega) (HE.out.call k).2.1
      have hpl2 := ptext_len (a ++ b)
      have hfl2 : (a ++ b).flatten.length = a.flatten.length + b.flatten.length := by rw [List.flatten_append, List.length_append]
      have hll2 : (a ++ b).length = a.length + b.length := List.length_append
      have HF2 : Hid (∀ W, Below w.heap.size w W → Calls Tryd.prog 12 #[.agg #[.int .i64 x.f0, .bool x.f1.f0, .string x.f1.f1, .int .i64 x.f1.f2, .string x.f2, .slice A5 x.f3.length c5, .slice A6 x.f4.length c6], .string (str (ptext (a ++ b)))] W (Told (findV x (ptext (a ++ b))) w W)) := fun W h => find_l x _ _ (ptext (a ++ b)) (by omega) w W HX.out h (HE.out.call h) HO.out
      clear hpl2 hfl2 hll2
      generalize ptext (a ++ b) = tab at *
      generalize findV x tab = fb at *
      have hpl := ptext_len a
      have HF : Hid (∀ W, Below w.heap.size w W → Calls Tryd.prog 12 #[.agg #[.int .i64 x.f0, .bool x.f1.f0, .string x.f1.f1, .int .i64 x.f1.f2, .string x.f2, .slice A5 x.f3.length c5, .slice A6 x.f4.length c6], .string (str (ptext a))] W (Told (findV x (ptext a)) w W)) := fun W h => find_l x _ _ (ptext a) (by omega) w W HX.out h (HE.out.call h) HO.out
      clear hpl
      generalize ptext a = ta at *
      generalize findV x ta = fa at *
      go_cut [7, 8] (fun s7 s8 W => PointsTo fa w s7 s8 W ∧ Hid (Blk W w.heap.size [.int .i64 x.f0, .bool x.f1.f0, .string x.f1.f1, .int .i64 x.f1.f2, .string x.f2, .slice A5 x.f3.length c5, .slice A6 x.f4.length c6] 28) ∧ Hid (Below w.heap.size w W))
      case first =>
        go_region_held3 (fun w' => w'.cell? ⟨w.heap.size, 0, none⟩ = some (.int .i64 x.f0) ∧ w'.cell? ⟨w.heap.size, 1, none⟩ = some (.bool x.f1.f0) ∧ w'.cell? ⟨w.heap.size, 2, none⟩ = some (.string x.f1.f1) ∧ w'.cell? ⟨w.heap.size, 3, none⟩ = some (.int .i64 x.f1.f2) ∧ w'.cell? ⟨w.heap.size, 4, none⟩ = some (.string x.f2) ∧ w'.cell? ⟨w.heap.size, 5, none⟩ = some (.slice A5 x.f3.length c5) ∧ w'.cell? ⟨w.heap.size, 6, none⟩ = some (.slice A6 x.f4.length c6)) ((first | (with_reducible exact HK2.out.drew.seven.1) | (with_reducible exact HK5.out.seven.1) | (with_reducible exact HK6.out.seven.1) | (with_reducible exact (HK2.out.drew.alloc _).seven.1) | (with_reducible exact (HK2.out.alloc _).seven.1) | (with_reducible exact (HK2.out.alloc _).drew.seven.1) | (with_reducible exact HK2.out.seven.1) | (with_reducible exact (HK5.out.alloc _).seven.1) | (with_reducible exact (HK6.out.alloc _).seven.1) | (with_reducible exact (HK6.out.store7 (Nat.ne_of_lt HK5.out.lt) _ _ _ _ _ _ _).seven.1) | (with_reducible exact (HK6.out.store7 (Nat.ne_of_lt HK2.out.lt) _ _ _ _ _ _ _).seven.1))) (first
          | (go_at_call 20; have hc := HT.out w2.drew HW2.out.drew; (with_reducible refine hc.mono ?_); clear hc; rintro e w5 ⟨rfl, hb5⟩; have HW5 := Lib.hid (HW2.out.drew.trans (hb5.mono HW2.out.size)); have HK5 := Lib.hid (HK2.out.drew.call hb5); clear hb5)
          | (go_at_call 20; have hc := fun o => HT.out (w2.alloc o).drew (HW2.out.alloc HW2.out.size o).drew; (with_reducible refine (hc _).mono ?_); clear hc; rintro e w5 ⟨rfl, hb5⟩; have HW5 := Lib.hid ((HW2.out.alloc HW2.out.size _).drew.trans (hb5.mono (HW2.out.alloc HW2.out.size _).drew.size)); have HK5 := Lib.hid ((HK2.out.alloc _).drew.call hb5); have HA5 := Lib.hid ((Blk.new w2 [.int .i64 0, .bool false, .string ⟨#[]⟩, .int .i64 0, .string ⟨#[]⟩, .slice none 0 0, .slice none 0 0] 28).drew.call hb5); clear hb5)
          | (go_at_call 12; have hc := HF.out w5 HW5.out; (with_reducible refine hc.mono ?_); clear hc; rintro e w6 ⟨y5, y6, rfl, hv6, hb6⟩; have HW6 := Lib.hid (HW5.out.trans (hb6.mono HW5.out.size)); have HK6 := Lib.hid (HK5.out.call hb6); obtain ⟨G5, d5, G6, d6, rfl, rfl⟩ := hv6.open; have HV6 := Lib.hid hv6; clear hv6; (first | (have HA6 := Lib.hid (HA5.out.call hb6); obtain ⟨⟨a0, a1, a2, a3, a4, a5, a6⟩, ⟨f0, f1, f2, f3, f4, f5, f6⟩, hsh⟩ := HA6.out.seven; clear hb6) | clear hb6))
          | (go_at_call 12; have hc := fun o => HF.out (w5.alloc o) (HW5.out.alloc HW5.out.size o); (with_reducible refine (hc _).mono ?_); clear hc; rintro e w6 ⟨y5, y6, rfl, hv6, hb6⟩; have HW6 := Lib.hid ((HW5.out.alloc HW5.out.size _).trans (hb6.mono (HW5.out.alloc HW5.out.size _).size)); have HK6 := Lib.hid ((HK5.out.alloc _).call hb6); obtain ⟨G5, d5, G6, d6, rfl, rfl⟩ := hv6.open; have HV6 := Lib.hid hv6; clear hv6; have HA6 := Lib.hid ((Blk.new w5 [.int .i64 0, .bool false, .string ⟨#[]⟩, .int .i64 0, .string ⟨#[]⟩, .slice none 0 0, .slice none 0 0] 28).call hb6); obtain ⟨⟨a0, a1, a2, a3, a4, a5, a6⟩, ⟨f0, f1, f2, f3, f4, f5, f6⟩, hsh⟩ := HA6.out.seven; clear hb6))
        all_goals (go_wp2_with fail; go_meet; refine ⟨?_, ?_, ?_⟩)
        all_goals first
          | (with_reducible exact Lib.hid (HK6.out.alloc _))
          | (with_reducible exact Lib.hid (HK6.out.store7 (Nat.ne_of_lt HK5.out.lt) _ _ _ _ _ _ _))
          | (with_reducible exact Lib.hid (HK6.out.store7 (Nat.ne_of_lt HK2.out.lt) _ _ _ _ _ _ _))
          | (with_reducible exact Lib.hid (HW6.out.alloc HW6.out.size _))
          | (with_reducible exact Lib.hid (below_store7 HW6.out HW5.out.size _ _ _ _ _ _ _))
          | (with_reducible exact Lib.hid (below_store7 HW6.out HW2.out.size _ _ _ _ _ _ _))
          | ((with_reducible show PointsTo _ _ _ _ (World.alloc _ _)); exact ⟨w6.heap.size, (.slice G5 (fa.1.getD z28).f3.length d5), (.slice G6 (fa.1.getD z28).f4.length d6), rfl, rfl, Lib.hid (Blk.new w6 (vcs (fa.1.getD z28) (.slice G5 (fa.1.getD z28).f3.length d5) (.slice G6 (fa.1.getD z28).f4.length d6)) 28), HV6⟩)
          | ((with_reducible show PointsTo _ _ _ _ (World.setCell _ ⟨w5.heap.size, _, _⟩ _)); exact ⟨w5.heap.size, (.slice G5 (fa.1.getD z28).f3.length d5), (.slice G6 (fa.1.getD z28).f4.length d6), rfl, rfl, Lib.hid (HA6.out.set7 _ _ _ _ _ _ _), HV6⟩)
          | ((with_reducible show PointsTo _ _ _ _ (World.setCell _ ⟨w2.heap.size, _, _⟩ _)); exact ⟨w2.heap.size, (.slice G5 (fa.1.getD z28).f3.length d5), (.slice G6 (fa.1.getD z28).f4.length d6), rfl, rfl, Lib.hid (HA6.out.set7 _ _ _ _ _ _ _), HV6⟩)
      case rest =>
        obtain ⟨⟨g, G5, G6, rfl, rfl, HA7, HV7⟩, HK7, HW7⟩ := hcut
        clear q0 q1 q2 q3 q4 q5 q6 HK2 HW2
        have HS7 : Hid (SL w wc [(w.heap.size, [.int .i64 x.f0, .bool x.f1.f0, .string x.f1.f1, .int .i64 x.f1.f2, .string x.f2, .slice A5 x.f3.length c5, .slice A6 x.f4.length c6]), (g, vcs (fa.1.getD z28) G5 G6)]) := SL.two HK7.out HA7.out HW7.out
        obtain ⟨⟨q0, q1, q2, q3, q4, q5, q6⟩, -, -⟩ := HK7.out.seven
        have HZ0 : Hid (wc.drew.heap.size = wc.heap.size) := rfl
        have HZ1 : Hid (∀ o : Obj, (wc.alloc o).drew.heap.size = wc.heap.size + 1) := fun o => Array.size_push _
        have HZ2 : Hid (∀ o : Obj, (wc.alloc o).heap.size = wc.heap.size + 1) := fun o => Array.size_push _
        have HZ3 : Hid (∀ o : Obj, (wc.drew.alloc o).heap.size = wc.heap.size + 1) := fun o => Array.size_push _
        have hb1 : ([] : List (List UInt8)).length + a.length ≤ 1048576 := by simp only [List.length_nil]; omega
        have hb2 : a.length + b.length ≤ 1048576 := by omega
        go_upto_region 4 with (fail)
        go_cut [9, 10] (fun s9 s10 W => PointsTo fb w s9 s10 W ∧ Hid (Blk W g (vcs (fa.1.getD z28) G5 G6) 28) ∧ Hid (Below w.heap.size w W))
        case first =>
          go_region_held3 (fun w' => w'.cell? ⟨w.heap.size, 0, none⟩ = some (.int .i64 x.f0) ∧ w'.cell? ⟨w.heap.size, 1, none⟩ = some (.bool x.f1.f0) ∧ w'.cell? ⟨w.heap.size, 2, none⟩ = some (.string x.f1.f1) ∧ w'.cell? ⟨w.heap.size, 3, none⟩ = some (.int .i64 x.f1.f2) ∧ w'.cell? ⟨w.heap.size, 4, none⟩ = some (.string x.f2) ∧ w'.cell? ⟨w.heap.size, 5, none⟩ = some (.slice A5 x.f3.length c5) ∧ w'.cell? ⟨w.heap.size, 6, none⟩ = some (.slice A6 x.f4.length c6)) ((first | (with_reducible exact (HS7.out.drew).k0.seven.1) | (with_reducible exact (HS7.out.alloc _).k0.seven.1) | (with_reducible exact ((HS7.out.alloc _).drew).k0.seven.1) | (with_reducible exact (HS7.out.drew.alloc _).k0.seven.1) | (with_reducible exact ((HS7.out.alloc _).drew.newAt (HZ1.out _)).k0.seven.1) | (with_reducible exact (((HS7.out.alloc _).newAt (HZ2.out _)).drew).k0.seven.1) | (with_reducible exact (HS7.out.new.drew.alloc _).k0.seven.1) | (with_reducible exact ((HS7.out.drew.alloc _).newAt (HZ3.out _)).k0.seven.1) | (with_reducible exact ((HS7.out.drew.newAt HZ0.out).alloc _).k0.seven.1) | (with_reducible exact ((HS7.out.new.alloc _).drew).k0.seven.1) | (with_reducible exact (HSa.out).k0.seven.1) | (with_reducible exact (HSa.out.alloc _).k0.seven.1) | (with_reducible exact (HSb.out).k0.seven.1) | (with_reducible exact (HSb.out.alloc _).k0.seven.1) | (with_reducible exact (HSt.out).k0.seven.1) | (with_reducible exact (HSt.out.alloc _).k0.seven.1) | (with_reducible exact (HSf.out).k0.seven.1) | (with_reducible exact (HSf.out.alloc _).k0.seven.1) | (with_reducible exact (HSf.out.k0.store7 (Nat.ne_of_lt HSt.out.k0.lt) _ _ _ _ _ _ _).seven.1) | (with_reducible exact (HSf.out.k0.store7 (Nat.ne_of_lt HSb.out.k0.lt) _ _ _ _ _ _ _).seven.1) | (with_reducible exact (HSf.out.k0.store7 (Nat.ne_of_lt HSa.out.k0.lt) _ _ _ _ _ _ _).seven.1) | (with_reducible exact (HSf.out.k0.store7 (Nat.ne_of_lt HS7.out.k0.lt) _ _ _ _ _ _ _).seven.1) | (with_reducible exact (HSf.out.k0.store7 (Nat.ne_of_lt (Nat.lt_add_one_of_lt HS7.out.k0.lt)) _ _ _ _ _ _ _).seven.1) | (with_reducible exact (HSf.out.k0.store7 (Nat.ne_of_lt (HS7.out.alloc (.cells #[] 9)).k0.lt) _ _ _ _ _ _ _).seven.1))) (first
            | ((with_reducible refine step_app rfl (.tmp 31) (.tmp 32) rfl ((HS7.out.alloc _).drew) [] a a rfl ((row_empty wc w.heap.size HS7.out.b.size).drew) HTA.out hb1 rfl ?_ ?_ ?_); rfl; rfl; intro p1 k1 wa hs hr; have HSa := Lib.hid hs; have HRa := Lib.hid hr; clear hs hr)
            | ((with_reducible refine step_app rfl (.tmp 31) (.tmp 32) rfl (HS7.out.drew.alloc _) [] a a rfl (row_empty wc.drew w.heap.size HS7.out.b.size) HTA.out hb1 rfl ?_ ?_ ?_); rfl; rfl; intro p1 k1 wa hs hr; have HSa := Lib.hid hs; have HRa := Lib.hid hr; clear hs hr)
            | ((with_reducible refine step_app rfl (.tmp 31) (.tmp 32) rfl ((HS7.out.alloc _).drew.newAt (HZ1.out _)) [] a a rfl ((row_empty wc w.heap.size HS7.out.b.size).drew.alloc _) HTA.out hb1 rfl ?_ ?_ ?_); rfl; rfl; intro p1 k1 wa hs hr; have HSa := Lib.hid hs; have HRa := Lib.hid hr; clear hs hr)
            | ((with_reducible refine step_app rfl (.tmp 31) (.tmp 32) rfl (((HS7.out.alloc _).newAt (HZ2.out _)).drew) [] a a rfl (((row_empty wc w.heap.size HS7.out.b.size).alloc _).drew) HTA.out hb1 rfl ?_ ?_ ?_); rfl; rfl; intro p1 k1 wa hs hr; have HSa := Lib.hid hs; have HRa := Lib.hid hr; clear hs hr)
            | ((with_reducible refine step_app rfl (.tmp 31) (.tmp 32) rfl (HS7.out.new.drew.alloc _) [] a a rfl (row_emptyAt (wc.alloc _).drew w.heap.size (HZ1.out _) HS7.out.new.b.size) HTA.out hb1 rfl ?_ ?_ ?_); rfl; rfl; intro p1 k1 wa hs hr; have HSa := Lib.hid hs; have HRa := Lib.hid hr; clear hs hr)
            | ((with_reducible refine step_app rfl (.tmp 31) (.tmp 32) rfl ((HS7.out.drew.alloc _).newAt (HZ3.out _)) [] a a rfl ((row_empty wc.drew w.heap.size HS7.out.b.size).alloc _) HTA.out hb1 rfl ?_ ?_ ?_); rfl; rfl; intro p1 k1 wa hs hr; have HSa := Lib.hid hs; have HRa := Lib.hid hr; clear hs hr)
            | ((with_reducible refine step_app rfl (.tmp 31) (.tmp 32) rfl ((HS7.out.drew.newAt HZ0.out).alloc _) [] a a rfl (row_emptyAt (wc.drew.alloc _) w.heap.size (HZ3.out _) HS7.out.new.b.size) HTA.out hb1 rfl ?_ ?_ ?_); rfl; rfl; intro p1 k1 wa hs hr; have HSa := Lib.hid hs; have HRa := Lib.hid hr; clear hs hr)
            | ((with_reducible refine step_app rfl (.tmp 31) (.tmp 32) rfl ((HS7.out.new.alloc _).drew) [] a a rfl ((row_emptyAt (wc.alloc _) w.heap.size (HZ2.out _) HS7.out.new.b.size).drew) HTA.out hb1 rfl ?_ ?_ ?_); rfl; rfl; intro p1 k1 wa hs hr; have HSa := Lib.hid hs; have HRa := Lib.hid hr; clear hs hr)
            | ((with_reducible refine step_app rfl (.tmp 33) (.tmp 34) rfl (HSa.out) a b (a ++ b) rfl (HRa.out) HTB.out hb2 hm2 ?_ ?_ ?_); rfl; rfl; intro p2 k2 wb hs hr; have HSb := Lib.hid hs; have HRb := Lib.hid hr; clear hs hr)
            | ((with_reducible refine step_app rfl (.tmp 33) (.tmp 34) rfl (HSa.out.new) a b (a ++ b) rfl (HRa.out.alloc _) HTB.out hb2 hm2 ?_ ?_ ?_); rfl; rfl; intro p2 k2 wb hs hr; have HSb := Lib.hid hs; have HRb := Lib.hid hr; clear hs hr)
            | (go_at_call 20; have hc := HT2.out _ _ _ (Txts.row HRb.out) (HSb.out).b; (with_reducible refine hc.mono ?_); clear hc; rintro e wt ⟨rfl, hbt⟩; have HSt := Lib.hid ((HSb.out).call hbt); clear hbt)
            | (go_at_call 20; have hc := HT2.out _ _ _ (Txts.row (HRb.out.alloc _)) (HSb.out.new).b; (with_reducible refine hc.mono ?_); clear hc; rintro e wt ⟨rfl, hbt⟩; have HSt := Lib.hid ((HSb.out.new).call hbt); clear hbt)
            | (go_at_call 12; have hc := HF2.out _ (HSt.out).b; (with_reducible refine hc.mono ?_); clear hc; rintro e wf ⟨y5, y6, rfl, hv6, hbf⟩; have HSf := Lib.hid ((HSt.out).call hbf); obtain ⟨F5, j5, F6, j6, rfl, rfl⟩ := hv6.open; have HVf := Lib.hid hv6; clear hv6; (first | (have HAf := Lib.hid HSf.out.k2; obtain ⟨⟨a0, a1, a2, a3, a4, a5, a6⟩, ⟨f0, f1, f2, f3, f4, f5, f6⟩, hsh⟩ := HAf.out.seven; clear hbf) | clear hbf))
            | (go_at_call 12; have hc := HF2.out _ (HSt.out.new).b; (with_reducible refine hc.mono ?_); clear hc; rintro e wf ⟨y5, y6, rfl, hv6, hbf⟩; have HSf := Lib.hid ((HSt.out.new).call hbf); obtain ⟨F5, j5, F6, j6, rfl, rfl⟩ := hv6.open; have HVf := Lib.hid hv6; clear hv6; (first | (have HAf := Lib.hid HSf.out.k2; obtain ⟨⟨a0, a1, a2, a3, a4, a5, a6⟩, ⟨f0, f1, f2, f3, f4, f5, f6⟩, hsh⟩ := HAf.out.seven; clear hbf) | clear hbf)))
          all_goals (go_wp2_with fail; go_meet; refine ⟨?_, ?_, ?_⟩)
          all_goals first
            | (with_reducible exact Lib.hid (HSf.out.k1.alloc _))
            | (with_reducible exact Lib.hid (HSf.out.b.alloc HSf.out.b.size _))
            | (with_reducible exact Lib.hid (HSf.out.k1.store7 (Nat.ne_of_lt HSt.out.k1.lt) _ _ _ _ _ _ _))
            | (with_reducible exact Lib.hid (below_store7 HSf.out.b HSt.out.b.size _ _ _ _ _ _ _))
            | (with_reducible exact Lib.hid (HSf.out.k1.store7 (Nat.ne_of_lt HSb.out.k1.lt) _ _ _ _ _ _ _))
            | (with_reducible exact Lib.hid (below_store7 HSf.out.b HSb.out.b.size _ _ _ _ _ _ _))
            | (with_reducible exact Lib.hid (HSf.out.k1.store7 (Nat.ne_of_lt HSa.out.k1.lt) _ _ _ _ _ _ _))
            | (with_reducible exact Lib.hid (below_store7 HSf.out.b HSa.out.b.size _ _ _ _ _ _ _))
            | (with_reducible exact Lib.hid (HSf.out.k1.store7 (Nat.ne_of_lt HS7.out.k1.lt) _ _ _ _ _ _ _))
            | (with_reducible exact Lib.hid (below_store7 HSf.out.b HS7.out.b.size _ _ _ _ _ _ _))
            | (with_reducible exact Lib.hid (HSf.out.k1.store7 (Nat.ne_of_lt (Nat.lt_add_one_of_lt HS7.out.k1.lt)) _ _ _ _ _ _ _))
            | (with_reducible exact Lib.hid (below_store7 HSf.out.b (Nat.le_add_right_of_le HS7.out.b.size) _ _ _ _ _ _ _))
            | ((with_reducible show PointsTo _ _ _ _ (World.alloc _ _)); exact ⟨wf.heap.size, (.slice F5 (fb.1.getD z28).f3.length j5), (.slice F6 (fb.1.getD z28).f4.length j6), rfl, rfl, Lib.hid (Blk.new wf (vcs (fb.1.getD z28) (.slice F5 (fb.1.getD z28).f3.length j5) (.slice F6 (fb.1.getD z28).f4.length j6)) 28), HVf⟩)
            | ((with_reducible show PointsTo _ _ _ _ (World.setCell _ ⟨wt.heap.size, _, _⟩ _)); exact ⟨wt.heap.size, (.slice F5 (fb.1.getD z28).f3.length j5), (.slice F6 (fb.1.getD z28).f4.length j6), rfl, rfl, Lib.hid (HAf.out.set7 _ _ _ _ _ _ _), HVf⟩)
            | ((with_reducible show PointsTo _ _ _ _ (World.setCell _ ⟨wb.heap.size, _, _⟩ _)); exact ⟨wb.heap.size, (.slice F5 (fb.1.getD z28).f3.length j5), (.slice F6 (fb.1.getD z28).f4.length j6), rfl, rfl, Lib.hid (HAf.out.set7 _ _ _ _ _ _ _), HVf⟩)
            | ((with_reducible show PointsTo _ _ _ _ (World.setCell _ ⟨wa.heap.size, _, _⟩ _)); exact ⟨wa.heap.size, (.slice F5 (fb.1.getD z28).f3.length j5), (.slice F6 (fb.1.getD z28).f4.length j6), rfl, rfl, Lib.hid (HAf.out.set7 _ _ _ _ _ _ _), HVf⟩)
            | ((with_reducible show PointsTo _ _ _ _ (World.setCell _ ⟨wc.heap.size, _, _⟩ _)); exact ⟨wc.heap.size, (.slice F5 (fb.1.getD z28).f3.length j5), (.slice F6 (fb.1.getD z28).f4.length j6), rfl, rfl, Lib.hid (HAf.out.set7 _ _ _ _ _ _ _), HVf⟩)
            | ((with_reducible show PointsTo _ _ _ _ (World.setCell _ ⟨wc.heap.size + 1, _, _⟩ _)); exact ⟨wc.heap.size + 1, (.slice F5 (fb.1.getD z28).f3.length j5), (.slice F6 (fb.1.getD z28).f4.length j6), rfl, rfl, Lib.hid (HAf.out.set7 _ _ _ _ _ _ _), HVf⟩)
        case rest =>
          clear q0 q1 q2 q3 q4 q5 q6 HS7 HA7 HK7 HW7
          obtain ⟨⟨g2, F5, F6, rfl, rfl, HA9, HV9⟩, HA7, HW9⟩ := hcut
          cases hwa : walkV x a with
          | none =>
            have e1 : fa = (none, 71) := by have := HFA.out; rw [hwa] at this; exact this
            have e2 : fb = (none, 71) := by have := HFB.out; rw [walkV_append, hwa] at this; exact this
            subst e1
            subst e2
            go_wp2_with fail
            refine (HH.out _ HW9.out).mono ?_
            rintro e w3 ⟨rfl, hb3⟩
            go_wp2_with fail
            go_ret
            exact ⟨rfl, HW9.out.trans (hb3.mono HW9.out.size)⟩
          | some y =>
            have e1 : fa = (some y, 0) := by have := HFA.out; rw [hwa] at this; exact this
            have e2 : fb = findV y (ptext b) := by have := HFB.out; rw [walkV_append, hwa] at this; exact this.trans (find_text y b).symm
            subst e1
            obtain ⟨B5, b5, B6, b6, rfl, rfl⟩ := HV7.out.open
            obtain ⟨hoky, hbky⟩ := walk_ok x y a HO.out hwa
            have hplb := ptext_len b
            have HT3 : Hid (∀ W, Below w.heap.size w W → Calls Tryd.prog 20 #[.slice ab b.length cb] W (New (.string (str (ptext b))) W)) := fun W h => ptext_l _ b W (HTB.out.call h) (by omega) (by omega) (HE.out.call h).2.1
            have HF3 : Hid (∀ W, Below w.heap.size w W → Calls Tryd.prog 12 #[.agg #[.int .i64 y.f0, .bool y.f1.f0, .string y.f1.f1, .int .i64 y.f1.f2, .string y.f2, .slice B5 y.f3.length b5, .slice B6 y.f4.length b6], .string (str (ptext b))] W (Told fb w W)) := fun W h => e2 ▸ find_l y _ _ (ptext b) (by omega) w W HV7.out h (HE.out.call h) hoky
            have hbk : bulkT (fb.1.getD z28) ≤ 1048576 := by
              rw [e2, find_text]
              cases hwb : walkV y b with
              | none => show bulkT z28 ≤ 1048576; decide
              | some z => have := (walk_ok y z b hoky hwb).2; show bulkT z ≤ 1048576; omega
            clear e2 hplb HFB
            generalize ptext b = tb at *
            have HS9 : Hid (SL w wc [(g, [.int .i64 y.f0, .bool y.f1.f0, .string y.f1.f1, .int .i64 y.f1.f2, .string y.f2, .slice B5 y.f3.length b5, .slice B6 y.f4.length b6]), (g2, vcs (fb.1.getD z28) F5 F6)]) := SL.two HA7.out HA9.out HW9.out
            obtain ⟨⟨q0, q1, q2, q3, q4, q5, q6⟩, -, -⟩ := HS9.out.k0.seven
            go_upto_region 7 with (fail)
            go_cut [11, 12] (fun s11 s12 W => PointsTo fb w s11 s12 W ∧ Hid (Blk W g2 (vcs (fb.1.getD z28) F5 F6) 28) ∧ Hid (Below w.heap.size w W))
            case first =>
              go_region_held3 (fun w' => w'.cell? ⟨g, 0, none⟩ = some (.int .i64 y.f0) ∧ w'.cell? ⟨g, 1, none⟩ = some (.bool y.f1.f0) ∧ w'.cell? ⟨g, 2, none⟩ = some (.string y.f1.f1) ∧ w'.cell? ⟨g, 3, none⟩ = some (.int .i64 y.f1.f2) ∧ w'.cell? ⟨g, 4, none⟩ = some (.string y.f2) ∧ w'.cell? ⟨g, 5, none⟩ = some (.slice B5 y.f3.length b5) ∧ w'.cell? ⟨g, 6, none⟩ = some (.slice B6 y.f4.length b6)) ((first | (with_reducible exact (HS9.out.drew).k0.seven.1) | (with_reducible exact (HS9.out.alloc _).k0.seven.1) | (with_reducible exact ((HS9.out.alloc _).drew).k0.seven.1) | (with_reducible exact (HS9.out.drew.alloc _).k0.seven.1) | (with_reducible exact (HSt.out).k0.seven.1) | (with_reducible exact (HSt.out.alloc _).k0.seven.1) | (with_reducible exact (HSf.out).k0.seven.1) | (with_reducible exact (HSf.out.alloc _).k0.seven.1) | (with_reducible exact (HSf.out.k0.store7 (Nat.ne_of_lt HSt.out.k0.lt) _ _ _ _ _ _ _).seven.1) | (with_reducible exact (HSf.out.k0.store7 (Nat.ne_of_lt HS9.out.k0.lt) _ _ _ _ _ _ _).seven.1))) (first
                | (go_at_call 20; have hc := HT3.out _ (HS9.out.drew).b; (with_reducible refine hc.mono ?_); clear hc; rintro e wt ⟨rfl, hbt⟩; have HSt := Lib.hid ((HS9.out.drew).call hbt); clear hbt)
                | (go_at_call 20; have hc := HT3.out _ (HS9.out.new.drew).b; (with_reducible refine hc.mono ?_); clear hc; rintro e wt ⟨rfl, hbt⟩; have HSt := Lib.hid ((HS9.out.new.drew).call hbt); clear hbt)
                | (go_at_call 20; have hc := HT3.out _ (HS9.out).b; (with_reducible refine hc.mono ?_); clear hc; rintro e wt ⟨rfl, hbt⟩; have HSt := Lib.hid ((HS9.out).call hbt); clear hbt)
                | (go_at_call 20; have hc := HT3.out _ (HS9.out.drew.new).b; (with_reducible refine hc.mono ?_); clear hc; rintro e wt ⟨rfl, hbt⟩; have HSt := Lib.hid ((HS9.out.drew.new).call hbt); clear hbt)
                | (go_at_call 12; have hc := HF3.out _ (HSt.out).b; (with_reducible refine hc.mono ?_); clear hc; rintro e wf ⟨y5, y6, rfl, hv6, hbf⟩; have HSf := Lib.hid ((HSt.out).call hbf); obtain ⟨H5, i5, H6, i6, rfl, rfl⟩ := hv6.open; have HVf := Lib.hid hv6; clear hv6; (first | (have HAf := Lib.hid HSf.out.k2; obtain ⟨⟨a0, a1, a2, a3, a4, a5, a6⟩, ⟨f0, f1, f2, f3, f4, f5, f6⟩, hsh⟩ := HAf.out.seven; clear hbf) | clear hbf))
                | (go_at_call 12; have hc := HF3.out _ (HSt.out.new).b; (with_reducible refine hc.mono ?_); clear hc; rintro e wf ⟨y5, y6, rfl, hv6, hbf⟩; have HSf := Lib.hid ((HSt.out.new).call hbf); obtain ⟨H5, i5, H6, i6, rfl, rfl⟩ := hv6.open; have HVf := Lib.hid hv6; clear hv6; (first | (have HAf := Lib.hid HSf.out.k2; obtain ⟨⟨a0, a1, a2, a3, a4, a5, a6⟩, ⟨f0, f1, f2, f3, f4, f5, f6⟩, hsh⟩ := HAf.out.seven; clear hbf) | clear hbf)))
              all_goals (go_wp2_with fail; go_meet; refine ⟨?_, ?_, ?_⟩)
              all_goals first
                | (with_reducible exact Lib.hid (HSf.out.k1.alloc _))
                | (with_reducible exact Lib.hid (HSf.out.b.alloc HSf.out.b.size _))
                | (with_reducible exact Lib.hid (HSf.out.k1.store7 (Nat.ne_of_lt HSt.out.k1.lt) _ _ _ _ _ _ _))
                | (with_reducible exact Lib.hid (below_store7 HSf.out.b HSt.out.b.size _ _ _ _ _ _ _))
                | (with_reducible exact Lib.hid (HSf.out.k1.store7 (Nat.ne_of_lt HS9.out.k1.lt) _ _ _ _ _ _ _))
                | (with_reducible exact Lib.hid (below_store7 HSf.out.b HS9.out.b.size _ _ _ _ _ _ _))
                | ((with_reducible show PointsTo _ _ _ _ (World.alloc _ _)); exact ⟨wf.heap.size, (.slice H5 (fb.1.getD z28).f3.length i5), (.slice H6 (fb.1.getD z28).f4.length i6), rfl, rfl, Lib.hid (Blk.new wf (vcs (fb.1.getD z28) (.slice H5 (fb.1.getD z28).f3.length i5) (.slice H6 (fb.1.getD z28).f4.length i6)) 28), HVf⟩)
                | ((with_reducible show PointsTo _ _ _ _ (World.setCell _ ⟨wt.heap.size, _, _⟩ _)); exact ⟨wt.heap.size, (.slice H5 (fb.1.getD z28).f3.length i5), (.slice H6 (fb.1.getD z28).f4.length i6), rfl, rfl, Lib.hid (HAf.out.set7 _ _ _ _ _ _ _), HVf⟩)
                | ((with_reducible show PointsTo _ _ _ _ (World.setCell _ ⟨wc.heap.size, _, _⟩ _)); exact ⟨wc.heap.size, (.slice H5 (fb.1.getD z28).f3.length i5), (.slice H6 (fb.1.getD z28).f4.length i6), rfl, rfl, Lib.hid (HAf.out.set7 _ _ _ _ _ _ _), HVf⟩)
            case rest =>
              obtain ⟨g3, H5, H6, rfl, rfl, HAz, HVz⟩ := hcut.1
              have HAy := hcut.2.1
              have HWz := hcut.2.2
              clear hcut
              obtain ⟨Y5, d5, Y6, d6, rfl, rfl⟩ := HV9.out.open
              obtain ⟨Z5, z5, Z6, z6, rfl, rfl⟩ := HVz.out.open
              have HSM := Lib.hid (fun W (h : Below w.heap.size w W) => sameR_l (fb.1.getD z28) _ _ _ _ w W HV9.out HVz.out h hbk)
              obtain ⟨⟨r0, r1, r2, r3, r4, r5, r6⟩, -, -⟩ := Blk.seven HAy.out
              obtain ⟨⟨t0, t1, t2, t3, t4, t5, t6⟩, -, -⟩ := Blk.seven HAz.out
              go_wp2_with fail
              refine (HSM.out _ (by first | exact HWz.out | exact HWz.out.drew)).mono ?_
              rintro e w8 ⟨rfl, hb8⟩
              have HW8 := Lib.hid (HWz.out.trans (hb8.mono HWz.out.size))
              clear hb8
              go_wp2_with fail
              refine (HH.out _ (by first | exact HW8.out | exact HW8.out.drew)).mono ?_
              rintro e w3 ⟨rfl, hb3⟩
              have HW3 := Lib.hid (HW8.out.trans (hb3.mono HW8.out.size))
              clear hb3
              go_wp2_with fail
              go_ret
              exact ⟨rfl, HW3.out⟩
  · have hr0 : (r != 0) = true := by simpa using h0
    go_wp2_with fail
    refine (HH.out _ HW1.out).mono ?_
    rintro e w3 ⟨rfl, hb3⟩
    go_wp2_with fail
    go_ret
    exact ⟨rfl, HW1.out.trans (hb3.mono HW1.out.size)⟩
end Go.Proofs.YthicgeiljficbaaDoor
