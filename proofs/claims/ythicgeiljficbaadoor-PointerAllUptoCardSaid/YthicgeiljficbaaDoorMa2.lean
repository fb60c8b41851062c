import Derived.Test.YthicgeiljficbaaDoorMa1
import Derived.Test.YthicgeiljficbaaDoorWMore
import Derived.Shelf.Strings.Builder1
import Derived.Shelf.Strings.Builder2
import Derived.Shelf.Small.Strs
import Derived.Shelf.Strings.BuilderF
import Derived.Shelf.Strings.BuilderK
import Derived.Shelf.Utf8.RuneCount
import Derived.Shelf.Strings.Builder2Cap
import Derived.Shelf.Strconv.Atoi
import Derived.Shelf.Strconv.Itoa0
import Derived.Shelf.Strconv.Itoa1
import Derived.Shelf.LaysM
import Derived.Shelf.Strconv.Itoa2
import Derived.Shelf.Strconv.Itoa3
import Derived.Shelf.Strconv.AtoiErrFast
import Derived.Shelf.Strconv.ParseIntEmpty
import Derived.Shelf.Strconv.AtoiFail
import Derived.Shelf.Strconv.Clone
import Derived.Shelf.Strconv.SyntaxError
import Derived.Shelf.LaysC
import Derived.Shelf.Strconv.ToError
import Derived.Shelf.Strconv.AtoiErr
import Derived.Shelf.Strconv.ErrVar
import Derived.Shelf.Strconv.Lower
import Derived.Shelf.Strconv.ParseUint10
import Derived.Shelf.Strconv.ParseUint10Empty
import Derived.Shelf.Strconv.ParseUint10Any
import Derived.Shelf.Strconv.ParseInt10
import Derived.Shelf.Strconv.AtoiLong
import Derived.Shelf.Strconv.AtoiInnerAll
import Derived.Shelf.Strconv.RangeError
import Derived.Shelf.Strconv.ToErrorRange
import Derived.Shelf.Strconv.AtoiAll
import Derived.Shelf.Strconv.ErrVarAll
import Derived.Shelf.Strconv.ParseUintEmpty
import Derived.Shelf.Strconv.ParseUint10b64
import Derived.Shelf.Strconv.ParseUint10b32
import Derived.Shelf.Strconv.ParseUint10b16
import Derived.Shelf.Strconv.ParseUint10b8
import Derived.Shelf.Strconv.ParseUint10At
import Derived.Ground.MpProg
import Derived.Shelf.Pu.ParseUintPublic10
import Derived.Shelf.Pu.ErrVarParseUint
import Derived.Shelf.Strings.Search1
import Derived.Shelf.Strings.Search2
import Derived.Shelf.Strings.Search3
import Derived.Shelf.Strings.Count
import Derived.Shelf.Strings.Shaped
import Derived.Shelf.Strings.Split
import Derived.Shelf.Strings.Replace
import Derived.Shelf.Strings.SplitShaped
import Derived.Shelf.Unicode.Decode
import Derived.Shelf.Strings.RuneCount
import Derived.Shelf.Strings.Explode
import Derived.Shelf.Unicode.DecodeSlow
import Derived.Shelf.Strings.BuilderCap
import Derived.Shelf.Slices.Turned
import Derived.Test.YthicgeiljficbaaDoorProg
import Derived.Test.YthicgeiljficbaaDoorRows
import Derived.WalkKit
import Derived.WalkSpells
import Derived.WalkLawsBesides
import Derived.Lib.Hide
import Derived.RegionTactic
import Derived.Deep.QuietTactic
import Derived.BigQuiet
import Derived.Deep.DeepFit
import Derived.Laws.AppendOwn
import Derived.OwnWalk
import Derived.Lib.SplitLaws
import Derived.IntWalk
import Derived.Lib.ConvBytes
/- Functions of the reference as Lean functions, and that the Go code comes to them. -/
namespace Go.Proofs.YthicgeiljficbaaDoor.Ref
open Go.RowKit Go.Proofs.YthicgeiljficbaaDoorW.PrintWords Go.Proofs.YthicgeiljficbaaDoorW.PrintLast
set_option linter.unusedVariables false
set_option linter.unusedSimpArgs false

/-! ### caliperref04_digit: function 65 -/
def caliperref04_digit.f (a0 : Int) : Option (Bool) := if a0 ≥ 48 then (some (decide (a0 ≤ 57))) else (some false)
set_option maxHeartbeats 8000000 in
set_option maxRecDepth 100000 in
theorem caliperref04_digit.calls (a0 : Int) (r : Bool) (w : World) (h : caliperref04_digit.f a0 = some r) :
    Calls Tryd.prog 65 #[.int .u8 a0] w fun e w' => e = .returned (.bool r) ∧ Drawn0 w w' := by
  have H : (if a0 ≥ 48 then (some (decide (a0 ≤ 57))) else (some false)) = some r := h
  clear h
  by_cases c2 : a0 ≥ 48
  · rw [if_pos c2] at H
    have c2b0 : decide (48 ≤ a0) = true := decide_eq_true c2
    clear c2
    obtain rfl := Option.some.inj H
    go_enter Tryd.func65, Tryd.ntmps65
    go_wp2
    go_ret
    exact ⟨by first | rfl | (simp; done) | (simp [*]; done), by repeat (first | exact Drawn0.refl _ | apply Drawn0.step)⟩
  · rw [if_neg c2] at H
    have c2b0 : decide (48 ≤ a0) = false := decide_eq_false c2
    clear c2
    obtain rfl := Option.some.inj H
    go_enter Tryd.func65, Tryd.ntmps65
    go_wp2
    go_ret
    exact ⟨by first | rfl | (simp; done) | (simp [*]; done), by repeat (first | exact Drawn0.refl _ | apply Drawn0.step)⟩

/-! ### caliperref04_Hex: function 45 -/
def caliperref04_Hex.j0 : Nat → Int → Bool → Option (Int)
  | 0, _, _ => none
  | k + 1, x0, x9 => if x9 = true then (some (((x0 - 97) % 256) + 10)) else (if x0 ≥ 65 then (if x0 ≤ 70 then (some (((x0 - 65) % 256) + 10)) else (some (-1))) else (some (-1)))
def caliperref04_Hex.f (k : Nat) (a0 : Int) : Option (Int) := (caliperref04_digit.f a0).bind fun t178 => (if t178 = true then (some ((a0 - 48) % 256)) else (if a0 ≥ 97 then (caliperref04_Hex.j0 k a0 (decide (a0 ≤ 102))) else (caliperref04_Hex.j0 k a0 false)))
theorem caliperref04_Hex.mono_l : ∀ k, (∀ y0 y1, LeO (caliperref04_Hex.j0 k y0 y1) (caliperref04_Hex.j0 (k + 1) y0 y1))
  | 0 => fun _ _ r h => by simp [caliperref04_Hex.j0] at h
  | k + 1 => by
    have ih0 := caliperref04_Hex.mono_l k
    · intro y0 y1
      unfold caliperref04_Hex.j0
      repeat' first
      | (with_reducible exact ih0 _ _)
      | (with_reducible exact LeO.refl _)
      | (with_reducible exact LeO.none _)
      | (with_reducible refine LeO.ite ?_ ?_)
      | (with_reducible refine LeO.bind ?_ (fun _ => ?_))
      | exact ih0 _ _
      | exact LeO.none _
      | refine LeO.ite ?_ ?_
      | refine LeO.bind ?_ (fun _ => ?_)
theorem caliperref04_Hex.mono : ∀ a0 k, LeO (caliperref04_Hex.f k a0) (caliperref04_Hex.f (k + 1) a0) := by
  intro a0 k
  have ih0 := caliperref04_Hex.mono_l k
  unfold caliperref04_Hex.f
  repeat' first
      | (with_reducible exact ih0 _ _)
      | (with_reducible exact LeO.refl _)
      | (with_reducible exact LeO.none _)
      | (with_reducible refine LeO.ite ?_ ?_)
      | (with_reducible refine LeO.bind ?_ (fun _ => ?_))
      | exact ih0 _ _
      | exact LeO.none _
      | refine LeO.ite ?_ ?_
      | refine LeO.bind ?_ (fun _ => ?_)
set_option maxHeartbeats 8000000 in
set_option maxRecDepth 100000 in
theorem caliperref04_Hex.calls (k : Nat) (a0 : Int) (r : Int) (w : World) (h : caliperref04_Hex.f k a0 = some r) :
    Calls Tryd.prog 45 #[.int .u8 a0] w fun e w' => e = .returned (.int .i64 r) ∧ Drawn0 w w' := by
  have H : ((caliperref04_digit.f a0).bind fun t178 => (if t178 = true then (some ((a0 - 48) % 256)) else (if a0 ≥ 97 then (caliperref04_Hex.j0 k a0 (decide (a0 ≤ 102))) else (caliperref04_Hex.j0 k a0 false)))) = some r := h
  clear h
  replace H := Option.bind_eq_some_iff.mp H
  obtain ⟨t178, A20, H⟩ := H
  replace H : (if t178 = true then (some ((a0 - 48) % 256)) else (if a0 ≥ 97 then (caliperref04_Hex.j0 k a0 (decide (a0 ≤ 102))) else (caliperref04_Hex.j0 k a0 false))) = some r := H
  have A2 := Aside0.mk A20
  clear A20
  by_cases c3 : t178 = true
  · subst c3
    have H1 : (some ((a0 - 48) % 256)) = some r := by rw [if_pos rfl] at H; exact H
    clear H
    have H := H1
    clear H1
    obtain rfl := Option.some.inj H
    go_enter Tryd.func45, Tryd.ntmps45
    go_wp2_with (first | ((with_reducible refine gate_callee (f := 65) rfl ?_); refine goesL_ (some 5) rfl rfl Tryd.func65 (by kernel_rfl) rfl #[.int .u8 a0] rfl (by (try simp only [List.map_toArray, List.map_cons, List.map_nil]); first | done | rfl | (simp only [List.length_drop, List.length_take]; rfl)) ?_; (with_reducible refine (caliperref04_digit.calls a0 true _ A2.out).mono ?_); rintro e w' ⟨rfl, ⟨nd, rfl⟩⟩; refine ⟨_, rfl, ?_⟩))
    go_ret
    exact ⟨by first | rfl | (simp; done) | (simp [*]; done), by repeat (first | exact Drawn0.refl _ | apply Drawn0.step)⟩
  · replace c3 := Bool.eq_false_iff.mpr c3
    subst c3
    have H1 : (if a0 ≥ 97 then (caliperref04_Hex.j0 k a0 (decide (a0 ≤ 102))) else (caliperref04_Hex.j0 k a0 false)) = some r := by rw [if_neg (show ¬ (false = true) by decide)] at H; exact H
    clear H
    have H := H1
    clear H1
    have HC4 := Aside0.mk H
    clear H
    go_enter Tryd.func45, Tryd.ntmps45
    go_upto_region 3 with (first | ((with_reducible refine gate_callee (f := 65) rfl ?_); refine goesL_ (some 5) rfl rfl Tryd.func65 (by kernel_rfl) rfl #[.int .u8 a0] rfl (by (try simp only [List.map_toArray, List.map_cons, List.map_nil]); first | done | rfl | (simp only [List.length_drop, List.length_take]; rfl)) ?_; (with_reducible refine (caliperref04_digit.calls a0 false _ A2.out).mono ?_); rintro e w' ⟨rfl, ⟨nd, rfl⟩⟩; refine ⟨_, rfl, ?_⟩))
    (try simp only [Act.put, List.setIfInBounds_toArray, List.set_cons_zero, List.set_cons_succ])
    go_cut [9] (fun v9 wc => ∃ (kq : Nat) (x9_3 : Bool), v9 = .bool x9_3 ∧ Aside0 (caliperref04_Hex.j0 kq a0 x9_3 = some r) ∧ Aside0 (kq ≤ k) ∧ Drawn0 w wc)
    case first =>
      have H := HC4.out
      clear HC4
      by_cases c5 : a0 ≥ 97
      · rw [if_pos c5] at H
        have c5b0 : decide (97 ≤ a0) = true := decide_eq_true c5
        clear c5
        (first | rw [c5b0] | (simp only [i64_w, i32_w]; rw [c5b0]) | skip)
        have H' := Aside0.mk H
        clear H
        go_wp2
        go_meet
        case rel => exact ⟨_, (decide (a0 ≤ 102)), (by first | rfl | (simp; done) | (simp [*]; done)), H', ⟨by first | omega | exact Nat.le_refl _⟩, by repeat (first | exact Drawn0.refl _ | apply Drawn0.step)⟩
      · rw [if_neg c5] at H
        have c5b0 : decide (97 ≤ a0) = false := decide_eq_false c5
        clear c5
        (first | rw [c5b0] | (simp only [i64_w, i32_w]; rw [c5b0]) | skip)
        have H' := Aside0.mk H
        clear H
        go_wp2
        go_meet
        case rel => exact ⟨_, (false), (by first | rfl | (simp; done) | (simp [*]; done)), H', ⟨by first | omega | exact Nat.le_refl _⟩, by repeat (first | exact Drawn0.refl _ | apply Drawn0.step)⟩
    case rest =>
      clear HC4
      try clear p2
      try clear c3
      try clear c4
      try clear c5
      try clear c5b0
      obtain ⟨kq, x9_3, rfl, HA, HJ3, ⟨mc3, rfl⟩⟩ := hcut
      cases kq with
      | zero => exact absurd HA.out (by simp [caliperref04_Hex.j0])
      | succ kj3 =>
        have H := HA.out
        clear HA
        simp only [caliperref04_Hex.j0] at H
        by_cases c6 : x9_3 = true
        · subst c6
          have H1 : (some (((a0 - 97) % 256) + 10)) = some r := by rw [if_pos rfl] at H; exact H
          clear H
          have H := H1
          clear H1
          obtain rfl := Option.some.inj H
          go_wp2
          go_ret
          exact ⟨by first | rfl | (simp; done) | (simp [*]; done), by repeat (first | exact Drawn0.refl _ | apply Drawn0.step)⟩
        · replace c6 := Bool.eq_false_iff.mpr c6
          subst c6
          have H1 : (if a0 ≥ 65 then (if a0 ≤ 70 then (some (((a0 - 65) % 256) + 10)) else (some (-1))) else (some (-1))) = some r := by rw [if_neg (show ¬ (false = true) by decide)] at H; exact H
          clear H
          have H := H1
          clear H1
          by_cases c7 : a0 ≥ 65
          · rw [if_pos c7] at H
            have c7b0 : decide (65 ≤ a0) = true := decide_eq_true c7
            clear c7
            by_cases c8 : a0 ≤ 70
            · rw [if_pos c8] at H
              have c8b0 : decide (a0 ≤ 70) = true := decide_eq_true c8
              clear c8
              obtain rfl := Option.some.inj H
              go_wp2
              go_ret
              exact ⟨by first | rfl | (simp; done) | (simp [*]; done), by repeat (first | exact Drawn0.refl _ | apply Drawn0.step)⟩
            · rw [if_neg c8] at H
              have c8b0 : decide (a0 ≤ 70) = false := decide_eq_false c8
              clear c8
              obtain rfl := Option.some.inj H
              go_wp2
              go_ret
              exact ⟨by first | rfl | (simp; done) | (simp [*]; done), by repeat (first | exact Drawn0.refl _ | apply Drawn0.step)⟩
          · rw [if_neg c7] at H
            have c7b0 : decide (65 ≤ a0) = false := decide_eq_false c7
            clear c7
            obtain rfl := Option.some.inj H
            go_wp2
            go_ret
            exact ⟨by first | rfl | (simp; done) | (simp [*]; done), by repeat (first | exact Drawn0.refl _ | apply Drawn0.step)⟩

/-! ### caliperref07_Part: function 46 -/
def caliperref07_Part.l0 : Nat → ByteArray → ByteArray → Int → Option (ByteArray)
  | 0, _, _, _ => none
  | k + 1, x0, x3, x4 => if x4 < (x0.size : Int) then (if 0 ≤ x4 then (if (bt x0 x4) = 126 then (if x3.size + 2 ≤ 9223372036854775807 then (caliperref07_Part.l0 k x0 (x3 ++ (⟨#[126, 48]⟩ : ByteArray)) (wrap64 (x4 + 1))) else (none)) else (if (bt x0 x4) = 47 then (if x3.size + 2 ≤ 9223372036854775807 then (caliperref07_Part.l0 k x0 (x3 ++ (⟨#[126, 49]⟩ : ByteArray)) (wrap64 (x4 + 1))) else (none)) else (if x4 ≤ (wrap64 (x4 + 1)) then (if (wrap64 (x4 + 1)) ≤ (x0.size : Int) then (if x3.size + (x0.extract (x4 : Int).toNat ((wrap64 (x4 + 1)) : Int).toNat).size ≤ 9223372036854775807 then (caliperref07_Part.l0 k x0 (x3 ++ (x0.extract (x4 : Int).toNat ((wrap64 (x4 + 1)) : Int).toNat)) (wrap64 (x4 + 1))) else (none)) else (none)) else (none)))) else (none)) else (some x3)
def caliperref07_Part.f (k : Nat) (a0 : ByteArray) : Option (ByteArray) := caliperref07_Part.l0 k a0 (⟨#[47]⟩ : ByteArray) 0
theorem caliperref07_Part.mono_l : ∀ k, (∀ y0 y1 y2, LeO (caliperref07_Part.l0 k y0 y1 y2) (caliperref07_Part.l0 (k + 1) y0 y1 y2))
  | 0 => fun _ _ _ r h => by simp [caliperref07_Part.l0] at h
  | k + 1 => by
    have ih0 := caliperref07_Part.mono_l k
    · intro y0 y1 y2
      unfold caliperref07_Part.l0
      repeat' first
      | (with_reducible exact ih0 _ _ _)
      | (with_reducible exact LeO.refl _)
      | (with_reducible exact LeO.none _)
      | (with_reducible refine LeO.ite ?_ ?_)
      | (with_reducible refine LeO.bind ?_ (fun _ => ?_))
      | exact ih0 _ _ _
      | exact LeO.none _
      | refine LeO.ite ?_ ?_
      | refine LeO.bind ?_ (fun _ => ?_)
theorem caliperref07_Part.mono : ∀ a0 k, LeO (caliperref07_Part.f k a0) (caliperref07_Part.f (k + 1) a0) := by
  intro a0 k
  have ih0 := caliperref07_Part.mono_l k
  unfold caliperref07_Part.f
  repeat' first
      | (with_reducible exact ih0 _ _ _)
      | (with_reducible exact LeO.refl _)
      | (with_reducible exact LeO.none _)
      | (with_reducible refine LeO.ite ?_ ?_)
      | (with_reducible refine LeO.bind ?_ (fun _ => ?_))
      | exact ih0 _ _ _
      | exact LeO.none _
      | refine LeO.ite ?_ ?_
      | refine LeO.bind ?_ (fun _ => ?_)
set_option maxHeartbeats 8000000 in
set_option maxRecDepth 100000 in
theorem caliperref07_Part.calls (k : Nat) (a0 : ByteArray) (r : ByteArray) (w : World) (h : caliperref07_Part.f k a0 = some r) :
    Calls Tryd.prog 46 #[.string a0] w fun e w' => e = .returned (.string r) ∧ Drawn0 w w' := by
  have H : (caliperref07_Part.l0 k a0 (⟨#[47]⟩ : ByteArray) 0) = some r := h
  clear h
  have H' := Aside0.mk H
  clear H
  go_enter Tryd.func46, Tryd.ntmps46
  go_wp2
  go_loopg [3, 4] k (fun kq v3 v4 w' => ∃ (x3_1 : ByteArray) (x4_1 : Int), v3 = .string x3_1 ∧ v4 = .int .i64 x4_1 ∧ Aside0 (caliperref07_Part.l0 kq a0 x3_1 x4_1 = some r) ∧ Aside0 (kq ≤ k) ∧ Drawn0 w w')
  case atStart => exact ⟨((⟨#[47]⟩ : ByteArray)), (0), (by first | rfl | (simp; done) | (simp [*]; done)), (by first | rfl | (simp; done) | (simp [*]; done)), H', ⟨Nat.le_refl _⟩, by repeat (first | exact Drawn0.refl _ | apply Drawn0.step)⟩
  case round =>
    clear H'
    obtain ⟨x3_1, x4_1, rfl, rfl, HA, HK1, ⟨m1, rfl⟩⟩ := hrel
    cases gk with
    | zero => exact absurd HA.out (by simp [caliperref07_Part.l0])
    | succ k1 =>
      have H := HA.out
      clear HA
      simp only [caliperref07_Part.l0] at H
      by_cases c2 : x4_1 < (a0.size : Int)
      · rw [if_pos c2] at H
        have c2b0 : decide (x4_1 < (a0.size : Int)) = true := decide_eq_true c2
        clear c2
        by_cases c3 : 0 ≤ x4_1
        · rw [if_pos c3] at H
          have c3b0 : decide (0 ≤ x4_1) = true := decide_eq_true c3
          clear c3
          by_cases c5 : (bt a0 x4_1) = 126
          · rw [if_pos c5] at H
            have c5b0 : ((bt a0 x4_1) == 126) = true := beq_iff_eq.mpr c5
            have c5b1 : ((bt a0 x4_1) != 126) = false := bne_eq_false_iff_eq.mpr c5
            clear c5
            by_cases c6 : x3_1.size + 2 ≤ 9223372036854775807
            · rw [if_pos c6] at H
              have c6b0 := eq_true c6
              have c6b1 : decide (x3_1.size + 2 ≤ 9223372036854775807) = true := decide_eq_true c6
              try have c6b2 : (9223372036854775807 < x3_1.size + 2) = False := eq_false (Nat.not_lt.2 c6)
              have H' := Aside0.mk H
              clear H
              have p4 : 0 ≤ (x4_1 : Int) := of_decide_eq_true (by first | (with_reducible assumption) | assumption)
              have q4 : x4_1 < (a0.size : Int) := of_decide_eq_true (by first | (with_reducible assumption) | assumption)
              have hx4 := bt_at a0 x4_1
              replace p4 := eq_true p4
              replace q4 := eq_true q4
              go_wp2
              go_roundg k1
              case measure => have := HK1.out; omega
              case rel => exact ⟨(x3_1 ++ (⟨#[126, 48]⟩ : ByteArray)), (wrap64 (x4_1 + 1)), (by first | rfl | (simp; done) | (simp [*]; done)), (by first | rfl | (simp; done) | (simp [*]; done)), H', ⟨by have := HK1.out; omega⟩, by repeat (first | exact Drawn0.refl _ | apply Drawn0.step)⟩
            · rw [if_neg c6] at H
              exact absurd H (by simp)
          · rw [if_neg c5] at H
            have c5b0 : ((bt a0 x4_1) == 126) = false := beq_eq_false_iff_ne.mpr c5
            have c5b1 : ((bt a0 x4_1) != 126) = true := bne_iff_ne.mpr c5
            by_cases c7 : (bt a0 x4_1) = 47
            · rw [if_pos c7] at H
              have c7b0 : ((bt a0 x4_1) == 47) = true := beq_iff_eq.mpr c7
              have c7b1 : ((bt a0 x4_1) != 47) = false := bne_eq_false_iff_eq.mpr c7
              clear c7
              by_cases c8 : x3_1.size + 2 ≤ 9223372036854775807
              · rw [if_pos c8] at H
                have c8b0 := eq_true c8
                have c8b1 : decide (x3_1.size + 2 ≤ 9223372036854775807) = true := decide_eq_true c8
                try have c8b2 : (9223372036854775807 < x3_1.size + 2) = False := eq_false (Nat.not_lt.2 c8)
                have H' := Aside0.mk H
                clear H
                have p4 : 0 ≤ (x4_1 : Int) := of_decide_eq_true (by first | (with_reducible assumption) | assumption)
                have q4 : x4_1 < (a0.size : Int) := of_decide_eq_true (by first | (with_reducible assumption) | assumption)
                have hx4 := bt_at a0 x4_1
                replace p4 := eq_true p4
                replace q4 := eq_true q4
                go_wp2
                go_roundg k1
                case measure => have := HK1.out; omega
                case rel => exact ⟨(x3_1 ++ (⟨#[126, 49]⟩ : ByteArray)), (wrap64 (x4_1 + 1)), (by first | rfl | (simp; done) | (simp [*]; done)), (by first | rfl | (simp; done) | (simp [*]; done)), H', ⟨by have := HK1.out; omega⟩, by repeat (first | exact Drawn0.refl _ | apply Drawn0.step)⟩
              · rw [if_neg c8] at H
                exact absurd H (by simp)
            · rw [if_neg c7] at H
              have c7b0 : ((bt a0 x4_1) == 47) = false := beq_eq_false_iff_ne.mpr c7
              have c7b1 : ((bt a0 x4_1) != 47) = true := bne_iff_ne.mpr c7
              have c9b0 := eq_true (of_decide_eq_true (by first | (with_reducible assumption) | assumption) : 0 ≤ x4_1)
              by_cases c10 : x4_1 ≤ (wrap64 (x4_1 + 1))
              · rw [if_pos c10] at H
                have c10b0 := eq_true c10
                have c10b1 : decide (x4_1 ≤ (wrap64 (x4_1 + 1))) = true := decide_eq_true c10
                by_cases c11 : (wrap64 (x4_1 + 1)) ≤ (a0.size : Int)
                · rw [if_pos c11] at H
                  have c11b0 := eq_true c11
                  have c11b1 : decide ((wrap64 (x4_1 + 1)) ≤ (a0.size : Int)) = true := decide_eq_true c11
                  by_cases c12 : x3_1.size + (a0.extract (x4_1 : Int).toNat ((wrap64 (x4_1 + 1)) : Int).toNat).size ≤ 9223372036854775807
                  · rw [if_pos c12] at H
                    have c12b0 := eq_true c12
                    have c12b1 : decide (x3_1.size + (a0.extract (x4_1 : Int).toNat ((wrap64 (x4_1 + 1)) : Int).toNat).size ≤ 9223372036854775807) = true := decide_eq_true c12
                    try have c12b2 : (9223372036854775807 < x3_1.size + (a0.extract (x4_1 : Int).toNat ((wrap64 (x4_1 + 1)) : Int).toNat).size) = False := eq_false (Nat.not_lt.2 c12)
                    have H' := Aside0.mk H
                    clear H
                    have p4 : 0 ≤ (x4_1 : Int) := of_decide_eq_true (by first | (with_reducible assumption) | assumption)
                    have q4 : x4_1 < (a0.size : Int) := of_decide_eq_true (by first | (with_reducible assumption) | assumption)
                    have hx4 := bt_at a0 x4_1
                    replace p4 := eq_true p4
                    replace q4 := eq_true q4
                    go_wp2
                    go_roundg k1
                    case measure => have := HK1.out; omega
                    case rel => exact ⟨(x3_1 ++ (a0.extract (x4_1 : Int).toNat ((wrap64 (x4_1 + 1)) : Int).toNat)), (wrap64 (x4_1 + 1)), (by first | rfl | (simp; done) | (simp [*]; done)), (by first | rfl | (simp; done) | (simp [*]; done)), H', ⟨by have := HK1.out; omega⟩, by repeat (first | exact Drawn0.refl _ | apply Drawn0.step)⟩
                  · rw [if_neg c12] at H
                    exact absurd H (by simp)
                · rw [if_neg c11] at H
                  exact absurd H (by simp)
              · rw [if_neg c10] at H
                exact absurd H (by simp)
        · rw [if_neg c3] at H
          exact absurd H (by simp)
      · rw [if_neg c2] at H
        have c2b0 : decide (x4_1 < (a0.size : Int)) = false := decide_eq_false c2
        clear c2
        obtain rfl := Option.some.inj H
        go_wp2
        go_ret
        exact ⟨by first | rfl | (simp; done) | (simp [*]; done), by repeat (first | exact Drawn0.refl _ | apply Drawn0.step)⟩

/-! ### caliperref07_Text: function 26 -/
def caliperref07_Text.l0 : Nat → List ByteArray → ByteArray → Int → Option (ByteArray)
  | 0, _, _, _ => none
  | k + 1, x0, x3, x4 => if x4 < (x0.length : Int) then (if 0 ≤ x4 then ((caliperref07_Part.f k (rdOf ByteArray.empty x0 x4)).bind fun t192 => (if x3.size + t192.size ≤ 9223372036854775807 then (caliperref07_Text.l0 k x0 (x3 ++ t192) (wrap64 (x4 + 1))) else (none))) else (none)) else (some x3)
def caliperref07_Text.f (k : Nat) (l0 : List ByteArray) : Option (ByteArray) := caliperref07_Text.l0 k l0 (⟨#[]⟩ : ByteArray) 0
theorem caliperref07_Text.mono_l : ∀ k, (∀ y0 y1 y2, LeO (caliperref07_Text.l0 k y0 y1 y2) (caliperref07_Text.l0 (k + 1) y0 y1 y2))
  | 0 => fun _ _ _ r h => by simp [caliperref07_Text.l0] at h
  | k + 1 => by
    have ih0 := caliperref07_Text.mono_l k
    · intro y0 y1 y2
      unfold caliperref07_Text.l0
      repeat' first
      | (with_reducible exact ih0 _ _ _)
      | (with_reducible exact caliperref07_Part.mono _ _)
      | (with_reducible exact LeO.refl _)
      | (with_reducible exact LeO.none _)
      | (with_reducible refine LeO.ite ?_ ?_)
      | (with_reducible refine LeO.bind ?_ (fun _ => ?_))
      | exact ih0 _ _ _
      | exact caliperref07_Part.mono _ _
      | exact LeO.none _
      | refine LeO.ite ?_ ?_
      | refine LeO.bind ?_ (fun _ => ?_)
theorem caliperref07_Text.mono : ∀ a0 k, LeO (caliperref07_Text.f k a0) (caliperref07_Text.f (k + 1) a0) := by
  intro a0 k
  have ih0 := caliperref07_Text.mono_l k
  unfold caliperref07_Text.f
  repeat' first
      | (with_reducible exact ih0 _ _ _)
      | (with_reducible exact caliperref07_Part.mono _ _)
      | (with_reducible exact LeO.refl _)
      | (with_reducible exact LeO.none _)
      | (with_reducible refine LeO.ite ?_ ?_)
      | (with_reducible refine LeO.bind ?_ (fun _ => ?_))
      | exact ih0 _ _ _
      | exact caliperref07_Part.mono _ _
      | exact LeO.none _
      | refine LeO.ite ?_ ?_
      | refine LeO.bind ?_ (fun _ => ?_)
set_option maxHeartbeats 8000000 in
set_option maxRecDepth 100000 in
theorem caliperref07_Text.calls (k : Nat) (A0 : Option Addr) (c0 : Nat) (l0 : List ByteArray) (r : ByteArray) (w : World) (hr0 : Kd.C Kd.string w A0 l0.length l0) (hc0 : l0.length ≤ c0) (h : caliperref07_Text.f k l0 = some r) :
    Calls Tryd.prog 26 #[.slice A0 l0.length c0] w fun e w' => e = .returned (.string r) ∧ Drawn0 w w' := by
  have HR0 := Aside0.mk hr0
  have HC0 := Aside0.mk hc0
  clear hr0 hc0
  have H : (caliperref07_Text.l0 k l0 (⟨#[]⟩ : ByteArray) 0) = some r := h
  clear h
  have H' := Aside0.mk H
  clear H
  go_enter Tryd.func26, Tryd.ntmps26
  go_wp2
  go_loopg [3, 4] k (fun kq v3 v4 w' => ∃ (x3_1 : ByteArray) (x4_1 : Int), v3 = .string x3_1 ∧ v4 = .int .i64 x4_1 ∧ Aside0 (caliperref07_Text.l0 kq l0 x3_1 x4_1 = some r) ∧ Aside0 (kq ≤ k) ∧ Drawn0 w w')
  case atStart => exact ⟨((⟨#[]⟩ : ByteArray)), (0), (by first | rfl | (simp; done) | (simp [*]; done)), (by first | rfl | (simp; done) | (simp [*]; done)), H', ⟨Nat.le_refl _⟩, by repeat (first | exact Drawn0.refl _ | apply Drawn0.step)⟩
  case round =>
    clear H'
    obtain ⟨x3_1, x4_1, rfl, rfl, HA, HK1, ⟨m1, rfl⟩⟩ := hrel
    cases gk with
    | zero => exact absurd HA.out (by simp [caliperref07_Text.l0])
    | succ k1 =>
      have H := HA.out
      clear HA
      simp only [caliperref07_Text.l0] at H
      by_cases c2 : x4_1 < (l0.length : Int)
      · rw [if_pos c2] at H
        have c2b0 : decide (x4_1 < (l0.length : Int)) = true := decide_eq_true c2
        clear c2
        by_cases c3 : 0 ≤ x4_1
        · rw [if_pos c3] at H
          have c3b0 : decide (0 ≤ x4_1) = true := decide_eq_true c3
          clear c3
          replace H := Option.bind_eq_some_iff.mp H
          obtain ⟨t192, A40, H⟩ := H
          replace H : (if x3_1.size + t192.size ≤ 9223372036854775807 then (caliperref07_Text.l0 k1 l0 (x3_1 ++ t192) (wrap64 (x4_1 + 1))) else (none)) = some r := H
          have A4 := Aside0.mk A40
          clear A40
          by_cases c5 : x3_1.size + t192.size ≤ 9223372036854775807
          · rw [if_pos c5] at H
            have c5b0 := eq_true c5
            have c5b1 : decide (x3_1.size + t192.size ≤ 9223372036854775807) = true := decide_eq_true c5
            try have c5b2 : (9223372036854775807 < x3_1.size + t192.size) = False := eq_false (Nat.not_lt.2 c5)
            have H' := Aside0.mk H
            clear H
            have p191 : 0 ≤ (x4_1 : Int) := of_decide_eq_true (by first | (with_reducible assumption) | assumption)
            have q191 : x4_1 < (l0.length : Int) := of_decide_eq_true (by first | (with_reducible assumption) | assumption)
            obtain ⟨ad191, e191, hx191_0⟩ := Kd.at_string HR0.out x4_1 p191 q191
            cases e191
            replace p191 := eq_true p191
            replace q191 := eq_true q191
            go_wp2_with (first | ((with_reducible refine gate_callee (f := 46) rfl ?_); refine goesL_ (some 16) rfl rfl Tryd.func46 (by kernel_rfl) rfl #[.string (rdOf ByteArray.empty l0 x4_1)] rfl (by (try simp only [List.map_toArray, List.map_cons, List.map_nil]); first | done | rfl | (simp only [List.length_drop, List.length_take]; rfl)) ?_; (with_reducible refine (caliperref07_Part.calls k1 (rdOf ByteArray.empty l0 x4_1) t192 _ A4.out).mono ?_); rintro e w' ⟨rfl, ⟨nd, rfl⟩⟩; refine ⟨_, rfl, ?_⟩))
            go_roundg k1
            case measure => have := HK1.out; omega
            case rel => exact ⟨(x3_1 ++ t192), (wrap64 (x4_1 + 1)), (by first | rfl | (simp; done) | (simp [*]; done)), (by first | rfl | (simp; done) | (simp [*]; done)), H', ⟨by have := HK1.out; omega⟩, by repeat (first | exact Drawn0.refl _ | apply Drawn0.step)⟩
          · rw [if_neg c5] at H
            exact absurd H (by simp)
        · rw [if_neg c3] at H
          exact absurd H (by simp)
      · rw [if_neg c2] at H
        have c2b0 : decide (x4_1 < (l0.length : Int)) = false := decide_eq_false c2
        clear c2
        obtain rfl := Option.some.inj H
        go_wp2
        go_ret
        exact ⟨by first | rfl | (simp; done) | (simp [*]; done), by repeat (first | exact Drawn0.refl _ | apply Drawn0.step)⟩

end Go.Proofs.YthicgeiljficbaaDoor.Ref

/-
  DERIVED: THE SHELF's CONTRACTS AT THIS DUMP, IN PLAIN WORDS (tools/lay-plain.mjs out of 'TrydShelf.lean', which tools/lay-shelf.mjs wrote): THE SAME DECLARATIONS UNDER THE SAME NAMES: 'import', 'namespace', 'open', 'def', 'theorem' AND NOTHING ELSE: no command of the shelf's: FOR A HAND-IN. Each laying: the table of numbers ('.._ren') and one theorem, a field a fact of the dump's own or the kernel's comparison; each contract: ONE APPLICATION.
-/
namespace Go.Proofs
open Go.Shelf
open Go.RowKit in
open Go.RowKit in
open Go.RowKit in
open Go.RowKit in
open Go.RowKit in
open Go.RowKit in
open Go.RowKit in
open Go.RowKit in
open Go.RowKit in
open Go.RowKit in
open Go.RowKit in
open Go.RowKit in
open Go.RowKit in
open Go.RowKit in
open Go.RowKit in
open Go.RowKit in
open Go.RowKit in
open Go.Lib in
open Go.Lib in
open Go.Lib in
open Go.Lib in
open Go.RowKit Go.Sort Go.Lib in
open Go.RowKit Go.Sort Go.Lib in
open Go.RowKit Go.Sort Go.Lib in
open Go.RowKit Go.Sort Go.Lib in
open Go.RowKit Go.Sort Go.Lib in
def Tryd.laysM171_ren : Go.Shelf.Ren := ⟨fun | 171 => 31 | 243 => 52 | 246 => 69 | 283 => 84 | 284 => 85 | 285 => 86 | 286 => 87 | 129 => 97 | 317 => 96 | 318 => 98 | 319 => 99 | 320 => 100 | 337 => 103 | 338 => 104 | n => n, fun | 3 => 3 | 9 => 9 | 2 => 2 | 4 => 4 | 171 => 110 | 0 => 0 | 53 => 78 | 37 => 51 | 5 => 5 | 173 => 113 | 212 => 120 | 51 => 121 | 20 => 20 | 213 => 122 | 46 => 76 | 232 => 136 | 233 => 137 | n => n, fun | 17 => 3 | 18 => 6 | 19 => 7 | n => n⟩
theorem Tryd.laysM171 : Go.Proofs.LaysM.n171 Tryd.prog Tryd.laysM171_ren := {
  mixed := by kernel_rfl
  f129 := Tryd.func97.trans (congrArg some (by kernel_rfl))
  f171 := Tryd.func31.trans (congrArg some (by kernel_rfl))
  f243 := Tryd.func52.trans (congrArg some (by kernel_rfl))
  f246 := Tryd.func69.trans (congrArg some (by kernel_rfl))
  f283 := Tryd.func84.trans (congrArg some (by kernel_rfl))
  f284 := Tryd.func85.trans (congrArg some (by kernel_rfl))
  f285 := Tryd.func86.trans (congrArg some (by kernel_rfl))
  f286 := Tryd.func87.trans (congrArg some (by kernel_rfl))
  f317 := Tryd.func96.trans (congrArg some (by kernel_rfl))
  f318 := Tryd.func98.trans (congrArg some (by kernel_rfl))
  f319 := Tryd.func99.trans (congrArg some (by kernel_rfl))
  f320 := Tryd.func100.trans (congrArg some (by kernel_rfl))
  f337 := Tryd.func103.trans (congrArg some (by kernel_rfl))
  f338 := Tryd.func104.trans (congrArg some (by kernel_rfl))
  t0 := Tryd.underlying0
  a0 := Tryd.isAgg0
  z0 := Tryd.sizeOf0
  v0 := Tryd.zeroValue0
  t2 := Tryd.underlying2
  a2 := Tryd.isAgg2
  z2 := Tryd.sizeOf2
  v2 := Tryd.zeroValue2
  t3 := Tryd.underlying3
  a3 := Tryd.isAgg3
  z3 := Tryd.sizeOf3
  v3 := Tryd.zeroValue3
  t4 := Tryd.underlying4
  a4 := Tryd.isAgg4
  z4 := Tryd.sizeOf4
  v4 := Tryd.zeroValue4
  t5 := Tryd.underlying5
  a5 := Tryd.isAgg5
  z5 := Tryd.sizeOf5
  v5 := Tryd.zeroValue5
  t9 := Tryd.underlying9
  a9 := Tryd.isAgg9
  z9 := Tryd.sizeOf9
  v9 := Tryd.zeroValue9
  t20 := Tryd.underlying20
  a20 := Tryd.isAgg20
  z20 := Tryd.sizeOf20
  v20 := Tryd.zeroValue20
  t37 := Tryd.underlying51
  a37 := Tryd.isAgg51
  z37 := Tryd.sizeOf51
  v37 := Tryd.zeroValue51
  t46 := Tryd.underlying76
  a46 := Tryd.isAgg76
  z46 := Tryd.sizeOf76
  v46 := Tryd.zeroValue76
  t51 := Tryd.underlying121
  a51 := Tryd.isAgg121
  z51 := Tryd.sizeOf121
  v51 := Tryd.zeroValue121
  t53 := Tryd.underlying78
  a53 := Tryd.isAgg78
  z53 := Tryd.sizeOf78
  v53 := Tryd.zeroValue78
  t171 := Tryd.underlying110
  a171 := Tryd.isAgg110
  z171 := Tryd.sizeOf110
  v171 := Tryd.zeroValue110
  t173 := Tryd.underlying113
  a173 := Tryd.isAgg113
  z173 := Tryd.sizeOf113
  v173 := Tryd.zeroValue113
  t212 := Tryd.underlying120
  a212 := Tryd.isAgg120
  z212 := Tryd.sizeOf120
  v212 := Tryd.zeroValue120
  t213 := Tryd.underlying122
  a213 := Tryd.isAgg122
  z213 := Tryd.sizeOf122
  t232 := Tryd.underlying136
  a232 := Tryd.isAgg136
  z232 := Tryd.sizeOf136
  v232 := Tryd.zeroValue136
  t233 := Tryd.underlying137
  a233 := Tryd.isAgg137
  z233 := Tryd.sizeOf137
  v233 := Tryd.zeroValue137
  g17 := by kernel_rfl
  g18 := by kernel_rfl
  g19 := by kernel_rfl
  i0 := by kernel_rfl
  i2 := by kernel_rfl
  i3 := by kernel_rfl
  i4 := by kernel_rfl
  i5 := by kernel_rfl
  i9 := by kernel_rfl
  i20 := by kernel_rfl
  i37 := by kernel_rfl
  i46 := by kernel_rfl
  i51 := by kernel_rfl
  i53 := by kernel_rfl
  i171 := by kernel_rfl
  i173 := by kernel_rfl
  i212 := by kernel_rfl
  i232 := by kernel_rfl
  i233 := by kernel_rfl
  m17 := by kernel_rfl
  m18 := by kernel_rfl
  m19 := by kernel_rfl }
open Go.RowKit Go.Sort Go.Lib in
/-- strconv.Itoa: "Itoa is equivalent to FormatInt(int64(i), 10).": i's DECIMAL NUMERAL ('Lib.itoa': a '-' where i is negative, then the digits), FOR EVERY int. The world behind the call: the world before it, new blocks behind the heap (the library's 'var a [24]byte'), draws. (LAID: no walk: one application.) -/
theorem Tryd.strconv_Itoa (n : Int) (h0 : -9223372036854775808 ≤ n) (h1 : n ≤ 9223372036854775807) (w : World) (htab : Lib.TabIs Tryd.prog w "internal/strconv.uint64pow10" .u64 Lib.pow10Tab) :
    Calls Tryd.prog 31 #[.int .i64 n] w fun e w' => e = .returned (.string ⟨(Lib.itoa n).toArray⟩) ∧ ∃ k os, w' = grow (w.drewN k) os := Any.strconv_Itoa Tryd.laysM171 n h0 h1 w htab
open Go.RowKit Go.Sort Go.Lib in
open Go.RowKit in
open Go.RowKit in
open Go.RowKit in
open Go.RowKit in
open Go.RowKit in
open Go.RowKit in
def Tryd.laysC245_ren : Go.Shelf.Ren := ⟨fun | 245 => 61 | 279 => 79 | 280 => 80 | 281 => 81 | 282 => 82 | 316 => 94 | 171 => 31 | 205 => 95 | 243 => 52 | 246 => 69 | 283 => 84 | 284 => 85 | 285 => 86 | 286 => 87 | 129 => 97 | 317 => 96 | 318 => 98 | 319 => 99 | 320 => 100 | 337 => 103 | 338 => 104 | n => n, fun | 9 => 9 | 3 => 3 | 75 => 74 | 167 => 103 | 4 => 4 | 168 => 105 | 210 => 117 | 37 => 51 | 0 => 0 | 127 => 90 | 145 => 134 | 143 => 132 | 2 => 2 | 171 => 110 | 53 => 78 | 5 => 5 | 173 => 113 | 212 => 120 | 51 => 121 | 20 => 20 | 213 => 122 | 46 => 76 | 232 => 136 | 233 => 137 | 80 => 77 | n => n, fun | 15 => 1 | 16 => 2 | 17 => 3 | 18 => 6 | 19 => 7 | n => n⟩
theorem Tryd.laysC245 : Go.Proofs.LaysC.n245 Tryd.prog Tryd.laysC245_ren := {
  mixed := by kernel_rfl
  f129 := Tryd.func97.trans (congrArg some (by kernel_rfl))
  f171 := Tryd.func31.trans (congrArg some (by kernel_rfl))
  f205 := Tryd.func95.trans (congrArg some (by kernel_rfl))
  f243 := Tryd.func52.trans (congrArg some (by kernel_rfl))
  f245 := Tryd.func61.trans (congrArg some (by kernel_rfl))
  f246 := Tryd.func69.trans (congrArg some (by kernel_rfl))
  f279 := Tryd.func79.trans (congrArg some (by kernel_rfl))
  f280 := Tryd.func80.trans (congrArg some (by kernel_rfl))
  f281 := Tryd.func81.trans (congrArg some (by kernel_rfl))
  f282 := Tryd.func82.trans (congrArg some (by kernel_rfl))
  f283 := Tryd.func84.trans (congrArg some (by kernel_rfl))
  f284 := Tryd.func85.trans (congrArg some (by kernel_rfl))
  f285 := Tryd.func86.trans (congrArg some (by kernel_rfl))
  f286 := Tryd.func87.trans (congrArg some (by kernel_rfl))
  f316 := Tryd.func94.trans (congrArg some (by kernel_rfl))
  f317 := Tryd.func96.trans (congrArg some (by kernel_rfl))
  f318 := Tryd.func98.trans (congrArg some (by kernel_rfl))
  f319 := Tryd.func99.trans (congrArg some (by kernel_rfl))
  f320 := Tryd.func100.trans (congrArg some (by kernel_rfl))
  f337 := Tryd.func103.trans (congrArg some (by kernel_rfl))
  f338 := Tryd.func104.trans (congrArg some (by kernel_rfl))
  t0 := Tryd.underlying0
  a0 := Tryd.isAgg0
  z0 := Tryd.sizeOf0
  v0 := Tryd.zeroValue0
  t2 := Tryd.underlying2
  a2 := Tryd.isAgg2
  z2 := Tryd.sizeOf2
  v2 := Tryd.zeroValue2
  t3 := Tryd.underlying3
  a3 := Tryd.isAgg3
  z3 := Tryd.sizeOf3
  v3 := Tryd.zeroValue3
  t4 := Tryd.underlying4
  a4 := Tryd.isAgg4
  z4 := Tryd.sizeOf4
  v4 := Tryd.zeroValue4
  t5 := Tryd.underlying5
  a5 := Tryd.isAgg5
  z5 := Tryd.sizeOf5
  v5 := Tryd.zeroValue5
  t9 := Tryd.underlying9
  a9 := Tryd.isAgg9
  z9 := Tryd.sizeOf9
  v9 := Tryd.zeroValue9
  t20 := Tryd.underlying20
  a20 := Tryd.isAgg20
  z20 := Tryd.sizeOf20
  v20 := Tryd.zeroValue20
  t37 := Tryd.underlying51
  a37 := Tryd.isAgg51
  z37 := Tryd.sizeOf51
  v37 := Tryd.zeroValue51
  t46 := Tryd.underlying76
  a46 := Tryd.isAgg76
  z46 := Tryd.sizeOf76
  v46 := Tryd.zeroValue76
  t51 := Tryd.underlying121
  a51 := Tryd.isAgg121
  z51 := Tryd.sizeOf121
  v51 := Tryd.zeroValue121
  t53 := Tryd.underlying78
  a53 := Tryd.isAgg78
  z53 := Tryd.sizeOf78
  v53 := Tryd.zeroValue78
  t75 := Tryd.underlying74
  a75 := Tryd.isAgg74
  z75 := Tryd.sizeOf74
  v75 := Tryd.zeroValue74
  t127 := Tryd.underlying90
  a127 := Tryd.isAgg90
  z127 := Tryd.sizeOf90
  v127 := Tryd.zeroValue90
  t143 := Tryd.underlying132
  a143 := Tryd.isAgg132
  z143 := Tryd.sizeOf132
  v143 := Tryd.zeroValue132
  t145 := Tryd.underlying134
  a145 := Tryd.isAgg134
  z145 := Tryd.sizeOf134
  v145 := Tryd.zeroValue134
  t167 := Tryd.underlying103
  a167 := Tryd.isAgg103
  z167 := Tryd.sizeOf103
  v167 := Tryd.zeroValue103
  t168 := Tryd.underlying105
  a168 := Tryd.isAgg105
  z168 := Tryd.sizeOf105
  v168 := Tryd.zeroValue105
  t171 := Tryd.underlying110
  a171 := Tryd.isAgg110
  z171 := Tryd.sizeOf110
  v171 := Tryd.zeroValue110
  t173 := Tryd.underlying113
  a173 := Tryd.isAgg113
  z173 := Tryd.sizeOf113
  v173 := Tryd.zeroValue113
  t210 := Tryd.underlying117
  a210 := Tryd.isAgg117
  z210 := Tryd.sizeOf117
  v210 := Tryd.zeroValue117
  t212 := Tryd.underlying120
  a212 := Tryd.isAgg120
  z212 := Tryd.sizeOf120
  v212 := Tryd.zeroValue120
  t213 := Tryd.underlying122
  a213 := Tryd.isAgg122
  z213 := Tryd.sizeOf122
  t232 := Tryd.underlying136
  a232 := Tryd.isAgg136
  z232 := Tryd.sizeOf136
  v232 := Tryd.zeroValue136
  t233 := Tryd.underlying137
  a233 := Tryd.isAgg137
  z233 := Tryd.sizeOf137
  v233 := Tryd.zeroValue137
  g15 := by kernel_rfl
  g16 := by kernel_rfl
  g17 := by kernel_rfl
  g18 := by kernel_rfl
  g19 := by kernel_rfl
  t80 := Tryd.underlying77
  a80 := Tryd.isAgg77
  z80 := Tryd.sizeOf77
  v80 := Tryd.zeroValue77
  i0 := by kernel_rfl
  i2 := by kernel_rfl
  i3 := by kernel_rfl
  i4 := by kernel_rfl
  i5 := by kernel_rfl
  i9 := by kernel_rfl
  i20 := by kernel_rfl
  i37 := by kernel_rfl
  i46 := by kernel_rfl
  i51 := by kernel_rfl
  i53 := by kernel_rfl
  i75 := by kernel_rfl
  i80 := by kernel_rfl
  i127 := by kernel_rfl
  i143 := by kernel_rfl
  i145 := by kernel_rfl
  i167 := by kernel_rfl
  i168 := by kernel_rfl
  i171 := by kernel_rfl
  i173 := by kernel_rfl
  i210 := by kernel_rfl
  i212 := by kernel_rfl
  i232 := by kernel_rfl
  i233 := by kernel_rfl
  m15 := by kernel_rfl
  m16 := by kernel_rfl
  m17 := by kernel_rfl
  m18 := by kernel_rfl
  m19 := by kernel_rfl
  c0 := by kernel_rfl
  c2 := by kernel_rfl
  c3 := by kernel_rfl
  c4 := by kernel_rfl
  c5 := by kernel_rfl
  c9 := by kernel_rfl
  c20 := by kernel_rfl
  c37 := by kernel_rfl
  c46 := by kernel_rfl
  c51 := by kernel_rfl
  c53 := by kernel_rfl
  c75 := by kernel_rfl
  c80 := by kernel_rfl
  c127 := by kernel_rfl
  c143 := by kernel_rfl
  c145 := by kernel_rfl
  c167 := by kernel_rfl
  c168 := by kernel_rfl
  c171 := by kernel_rfl
  c173 := by kernel_rfl
  c210 := by kernel_rfl
  c212 := by kernel_rfl
  c213 := by kernel_rfl
  c232 := by kernel_rfl
  c233 := by kernel_rfl }
open Go.RowKit in
/-- strconv.toError, at the inner package's ErrSyntax: 'syntaxError(fn, s)' as an error: A *NumError IN A NEW BLOCK. (LAID: no walk: one application.) -/
theorem Tryd.strconv_toError_syntax (fn s : ByteArray) (base bits : Int) (ev : Value) (w : World) (hlim : s.size ≤ 281474976710656) (hv : w.cell? ⟨1, 0, none⟩ = some ev) (hev : ev = .nilIface ∨ ∃ te pe, ev = .iface te pe) :
    Calls Tryd.prog 61 #[.string fn, .string s, .int .i64 base, .int .i64 bits, .iface 103 (.int .i64 2)] w fun e w' => ∃ N, e = .returned (.iface 105 (.pointer (some ⟨N, 0, none⟩))) ∧ w.heap.size ≤ N ∧ w'.heap[N]? = some (.cells #[.string fn, .string s, ev] 117 (0, 0)) ∧ Below w.heap.size w w' := Any.strconv_toError_syntax Tryd.laysC245 fn s base bits ev w hlim hv hev
def Tryd.laysC172_ren : Go.Shelf.Ren := ⟨fun | 172 => 51 | 244 => 68 | 245 => 61 | 247 => 83 | 279 => 79 | 280 => 80 | 281 => 81 | 282 => 82 | 287 => 60 | 316 => 94 | 171 => 31 | 205 => 95 | 321 => 77 | 322 => 78 | 243 => 52 | 246 => 69 | 283 => 84 | 284 => 85 | 285 => 86 | 286 => 87 | 129 => 97 | 317 => 96 | 318 => 98 | 319 => 99 | 320 => 100 | 337 => 103 | 338 => 104 | n => n, fun | 9 => 9 | 3 => 3 | 75 => 74 | 76 => 84 | 4 => 4 | 5 => 5 | 167 => 103 | 37 => 51 | 0 => 0 | 85 => 108 | 2 => 2 | 168 => 105 | 53 => 78 | 175 => 79 | 46 => 76 | 210 => 117 | 127 => 90 | 145 => 134 | 143 => 132 | 21 => 21 | 171 => 110 | 173 => 113 | 212 => 120 | 51 => 121 | 20 => 20 | 213 => 122 | 232 => 136 | 233 => 137 | 80 => 77 | n => n, fun | 15 => 1 | 16 => 2 | 17 => 3 | 18 => 6 | 19 => 7 | n => n⟩
theorem Tryd.laysC172 : Go.Proofs.LaysC.n172 Tryd.prog Tryd.laysC172_ren := {
  mixed := by kernel_rfl
  f129 := Tryd.func97.trans (congrArg some (by kernel_rfl))
  f171 := Tryd.func31.trans (congrArg some (by kernel_rfl))
  f172 := Tryd.func51.trans (congrArg some (by kernel_rfl))
  f205 := Tryd.func95.trans (congrArg some (by kernel_rfl))
  f243 := Tryd.func52.trans (congrArg some (by kernel_rfl))
  f244 := Tryd.func68.trans (congrArg some (by kernel_rfl))
  f245 := Tryd.func61.trans (congrArg some (by kernel_rfl))
  f246 := Tryd.func69.trans (congrArg some (by kernel_rfl))
  f247 := Tryd.func83.trans (congrArg some (by kernel_rfl))
  f279 := Tryd.func79.trans (congrArg some (by kernel_rfl))
  f280 := Tryd.func80.trans (congrArg some (by kernel_rfl))
  f281 := Tryd.func81.trans (congrArg some (by kernel_rfl))
  f282 := Tryd.func82.trans (congrArg some (by kernel_rfl))
  f283 := Tryd.func84.trans (congrArg some (by kernel_rfl))
  f284 := Tryd.func85.trans (congrArg some (by kernel_rfl))
  f285 := Tryd.func86.trans (congrArg some (by kernel_rfl))
  f286 := Tryd.func87.trans (congrArg some (by kernel_rfl))
  f287 := Tryd.func60.trans (congrArg some (by kernel_rfl))
  f316 := Tryd.func94.trans (congrArg some (by kernel_rfl))
  f317 := Tryd.func96.trans (congrArg some (by kernel_rfl))
  f318 := Tryd.func98.trans (congrArg some (by kernel_rfl))
  f319 := Tryd.func99.trans (congrArg some (by kernel_rfl))
  f320 := Tryd.func100.trans (congrArg some (by kernel_rfl))
  f321 := Tryd.func77.trans (congrArg some (by kernel_rfl))
  f322 := Tryd.func78.trans (congrArg some (by kernel_rfl))
  f337 := Tryd.func103.trans (congrArg some (by kernel_rfl))
  f338 := Tryd.func104.trans (congrArg some (by kernel_rfl))
  t0 := Tryd.underlying0
  a0 := Tryd.isAgg0
  z0 := Tryd.sizeOf0
  v0 := Tryd.zeroValue0
  t2 := Tryd.underlying2
  a2 := Tryd.isAgg2
  z2 := Tryd.sizeOf2
  v2 := Tryd.zeroValue2
  t3 := Tryd.underlying3
  a3 := Tryd.isAgg3
  z3 := Tryd.sizeOf3
  v3 := Tryd.zeroValue3
  t4 := Tryd.underlying4
  a4 := Tryd.isAgg4
  z4 := Tryd.sizeOf4
  v4 := Tryd.zeroValue4
  t5 := Tryd.underlying5
  a5 := Tryd.isAgg5
  z5 := Tryd.sizeOf5
  v5 := Tryd.zeroValue5
  t9 := Tryd.underlying9
  a9 := Tryd.isAgg9
  z9 := Tryd.sizeOf9
  v9 := Tryd.zeroValue9
  t20 := Tryd.underlying20
  a20 := Tryd.isAgg20
  z20 := Tryd.sizeOf20
  v20 := Tryd.zeroValue20
  t21 := Tryd.underlying21
  a21 := Tryd.isAgg21
  z21 := Tryd.sizeOf21
  v21 := Tryd.zeroValue21
  t37 := Tryd.underlying51
  a37 := Tryd.isAgg51
  z37 := Tryd.sizeOf51
  v37 := Tryd.zeroValue51
  t46 := Tryd.underlying76
  a46 := Tryd.isAgg76
  z46 := Tryd.sizeOf76
  v46 := Tryd.zeroValue76
  t51 := Tryd.underlying121
  a51 := Tryd.isAgg121
  z51 := Tryd.sizeOf121
  v51 := Tryd.zeroValue121
  t53 := Tryd.underlying78
  a53 := Tryd.isAgg78
  z53 := Tryd.sizeOf78
  v53 := Tryd.zeroValue78
  t75 := Tryd.underlying74
  a75 := Tryd.isAgg74
  z75 := Tryd.sizeOf74
  v75 := Tryd.zeroValue74
  t76 := Tryd.underlying84
  a76 := Tryd.isAgg84
  z76 := Tryd.sizeOf84
  v76 := Tryd.zeroValue84
  t85 := Tryd.underlying108
  a85 := Tryd.isAgg108
  z85 := Tryd.sizeOf108
  v85 := Tryd.zeroValue108
  t127 := Tryd.underlying90
  a127 := Tryd.isAgg90
  z127 := Tryd.sizeOf90
  v127 := Tryd.zeroValue90
  t143 := Tryd.underlying132
  a143 := Tryd.isAgg132
  z143 := Tryd.sizeOf132
  v143 := Tryd.zeroValue132
  t145 := Tryd.underlying134
  a145 := Tryd.isAgg134
  z145 := Tryd.sizeOf134
  v145 := Tryd.zeroValue134
  t167 := Tryd.underlying103
  a167 := Tryd.isAgg103
  z167 := Tryd.sizeOf103
  v167 := Tryd.zeroValue103
  t168 := Tryd.underlying105
  a168 := Tryd.isAgg105
  z168 := Tryd.sizeOf105
  v168 := Tryd.zeroValue105
  t171 := Tryd.underlying110
  a171 := Tryd.isAgg110
  z171 := Tryd.sizeOf110
  v171 := Tryd.zeroValue110
  t173 := Tryd.underlying113
  a173 := Tryd.isAgg113
  z173 := Tryd.sizeOf113
  v173 := Tryd.zeroValue113
  t175 := Tryd.underlying79
  a175 := Tryd.isAgg79
  z175 := Tryd.sizeOf79
  v175 := Tryd.zeroValue79
  t210 := Tryd.underlying117
  a210 := Tryd.isAgg117
  z210 := Tryd.sizeOf117
  v210 := Tryd.zeroValue117
  t212 := Tryd.underlying120
  a212 := Tryd.isAgg120
  z212 := Tryd.sizeOf120
  v212 := Tryd.zeroValue120
  t213 := Tryd.underlying122
  a213 := Tryd.isAgg122
  z213 := Tryd.sizeOf122
  t232 := Tryd.underlying136
  a232 := Tryd.isAgg136
  z232 := Tryd.sizeOf136
  v232 := Tryd.zeroValue136
  t233 := Tryd.underlying137
  a233 := Tryd.isAgg137
  z233 := Tryd.sizeOf137
  v233 := Tryd.zeroValue137
  g15 := by kernel_rfl
  g16 := by kernel_rfl
  g17 := by kernel_rfl
  g18 := by kernel_rfl
  g19 := by kernel_rfl
  t80 := Tryd.underlying77
  a80 := Tryd.isAgg77
  z80 := Tryd.sizeOf77
  v80 := Tryd.zeroValue77
  i0 := by kernel_rfl
  i2 := by kernel_rfl
  i3 := by kernel_rfl
  i4 := by kernel_rfl
  i5 := by kernel_rfl
  i9 := by kernel_rfl
  i20 := by kernel_rfl
  i21 := by kernel_rfl
  i37 := by kernel_rfl
  i46 := by kernel_rfl
  i51 := by kernel_rfl
  i53 := by kernel_rfl
  i75 := by kernel_rfl
  i76 := by kernel_rfl
  i80 := by kernel_rfl
  i85 := by kernel_rfl
  i127 := by kernel_rfl
  i143 := by kernel_rfl
  i145 := by kernel_rfl
  i167 := by kernel_rfl
  i168 := by kernel_rfl
  i171 := by kernel_rfl
  i173 := by kernel_rfl
  i175 := by kernel_rfl
  i210 := by kernel_rfl
  i212 := by kernel_rfl
  i232 := by kernel_rfl
  i233 := by kernel_rfl
  m15 := by kernel_rfl
  m16 := by kernel_rfl
  m17 := by kernel_rfl
  m18 := by kernel_rfl
  m19 := by kernel_rfl
  c0 := by kernel_rfl
  c2 := by kernel_rfl
  c3 := by kernel_rfl
  c4 := by kernel_rfl
  c5 := by kernel_rfl
  c9 := by kernel_rfl
  c20 := by kernel_rfl
  c21 := by kernel_rfl
  c37 := by kernel_rfl
  c46 := by kernel_rfl
  c51 := by kernel_rfl
  c53 := by kernel_rfl
  c75 := by kernel_rfl
  c76 := by kernel_rfl
  c80 := by kernel_rfl
  c85 := by kernel_rfl
  c127 := by kernel_rfl
  c143 := by kernel_rfl
  c145 := by kernel_rfl
  c167 := by kernel_rfl
  c168 := by kernel_rfl
  c171 := by kernel_rfl
  c173 := by kernel_rfl
  c175 := by kernel_rfl
  c210 := by kernel_rfl
  c212 := by kernel_rfl
  c213 := by kernel_rfl
  c232 := by kernel_rfl
  c233 := by kernel_rfl }
open Go.RowKit in
open Go.RowKit in
def Tryd.lays321_ren : Go.Shelf.Ren := ⟨fun | 321 => 77 | n => n, fun | 5 => 5 | n => n, fun | n => n⟩
theorem Tryd.lays321 : Go.Proofs.Lays.n321 Tryd.prog Tryd.lays321_ren := {
  mixed := by kernel_rfl
  f321 := Tryd.func77.trans (congrArg some (by kernel_rfl))
  t5 := Tryd.underlying5
  a5 := Tryd.isAgg5
  z5 := Tryd.sizeOf5
  v5 := Tryd.zeroValue5 }
open Go.RowKit in
/-- internal/strconv.lower: 'c | ('x' - 'X')': the bit 32 set. The world is as it was. (LAID: no walk: one application.) -/
theorem Tryd.internal_strconv_lower (c : Int) (w : World) :
    Calls Tryd.prog 77 #[.int .u8 c] w fun e w' => e = .returned (.int .u8 (bits .or .u8 c 32)) ∧ w' = w := Any.internal_strconv_lower Tryd.lays321 c w
open Go.RowKit in
open Go.RowKit in
open Go.RowKit in
open Go.RowKit in
open Go.RowKit in
open Go.RowKit in
open Go.RowKit in
open Go.RowKit in
open Go.RowKit in
/-- strconv.Atoi, AT EVERY STRING THAT SPELLS AN int ('Lib.atoiAll .. = .ok v'; of whatever length: leading zeros count): v, AND NO ERROR. The world: as it was, or with the one new row that '[]byte(..)' lays. (LAID: no walk: one application.) -/
theorem Tryd.strconv_Atoi_ok (s : ByteArray) (hmax : s.size ≤ 9223372036854775806) (v : Int) (h : Lib.atoiAll s.data.toList = .ok v) (w : World) :
    Calls Tryd.prog 51 #[.string s] w fun e w' => e = .returned (.tuple #[.int .i64 v, .nilIface]) ∧ (w' = w ∨ ∃ t, w' = Lib.bytesWorld w 5 t) := Any.strconv_Atoi_ok Tryd.laysC172 s hmax v h w
open Go.RowKit in
open Go.RowKit in
/-- strconv.Atoi, AT EVERY NUMERAL THAT NO int HOLDS ('.range'): THE GREATEST OR THE LEAST int, BY THE SIGN ('Lib.atoiSat'), AND AN ERROR THAT IS NOT nil: a *NumError in a new block N: {Func: "Atoi", Num: s's bytes, Err: what the variable ErrRange holds}. Of what was there nothing has turned. (LAID: no walk: one application.) -/
theorem Tryd.strconv_Atoi_range (s : ByteArray) (hlim : s.size ≤ 281474976710656) (h : Lib.atoiAll s.data.toList = .range) (ev : Value) (w : World) (hv : w.cell? ⟨2, 0, none⟩ = some ev) (hev : ev = .nilIface ∨ ∃ te pe, ev = .iface te pe) :
    Calls Tryd.prog 51 #[.string s] w fun e w' => ∃ N, e = .returned (.tuple #[.int .i64 (Lib.atoiSat s.data.toList), .iface 105 (.pointer (some ⟨N, 0, none⟩))]) ∧ w.heap.size ≤ N ∧ w'.heap[N]? = some (.cells #[.string ⟨#[65, 116, 111, 105]⟩, .string s, ev] 117 (0, 0)) ∧ Below w.heap.size w w' := Any.strconv_Atoi_range Tryd.laysC172 s hlim h ev w hv hev
open Go.RowKit in
open Go.RowKit in
open Go.RowKit in
open Go.RowKit in
open Go.RowKit in
open Go.RowKit in
open Go.RowKit in
open Go.RowKit in
open Go.RowKit in
open Go.RowKit in
open Go.RowKit in
open Go.RowKit in
open Go.RowKit in
open Go.RowKit in
open Go.RowKit in
open Go.RowKit in
open Go.RowKit in
open Go.RowKit in
open Go.RowKit in
open Go.RowKit in
open Go.RowKit in
open Go.RowKit in
open Go.RowKit in
open Go.RowKit in
open Go.RowKit in
open Go.RowKit in
open Go.RowKit in
open Go.RowKit in
open Go.RowKit in
open Go.RowKit in
open Go.RowKit in
open Go.RowKit in
open Go.RowKit in
open Go.RowKit in
open Go.RowKit in
open Go.RowKit in
open Go.RowKit in
open Go.RowKit Go.Lib in
open Go.RowKit Go.Lib in
open Go.RowKit Go.Lib in
open Go.RowKit Go.Lib in
open Go.RowKit Go.Lib in
open Go.RowKit Go.Lib in
open Go.RowKit Go.Lib in
open Go.RowKit Go.Lib in
def Tryd.lays144_ren : Go.Shelf.Ren := ⟨fun | 144 => 38 | 143 => 57 | 219 => 74 | 217 => 75 | 225 => 90 | 224 => 91 | 267 => 92 | 266 => 93 | 314 => 102 | n => n, fun | 9 => 9 | 4 => 4 | 3 => 3 | 5 => 5 | 46 => 76 | 146 => 130 | 51 => 121 | n => n, fun | 1 => 0 | n => n⟩
theorem Tryd.lays144 : Go.Proofs.Lays.n144 Tryd.prog Tryd.lays144_ren := {
  mixed := by kernel_rfl
  f143 := Tryd.func57.trans (congrArg some (by kernel_rfl))
  f144 := Tryd.func38.trans (congrArg some (by kernel_rfl))
  f217 := Tryd.func75.trans (congrArg some (by kernel_rfl))
  f219 := Tryd.func74.trans (congrArg some (by kernel_rfl))
  f224 := Tryd.func91.trans (congrArg some (by kernel_rfl))
  f225 := Tryd.func90.trans (congrArg some (by kernel_rfl))
  f266 := Tryd.func93.trans (congrArg some (by kernel_rfl))
  f267 := Tryd.func92.trans (congrArg some (by kernel_rfl))
  f314 := Tryd.func102.trans (congrArg some (by kernel_rfl))
  t3 := Tryd.underlying3
  a3 := Tryd.isAgg3
  z3 := Tryd.sizeOf3
  v3 := Tryd.zeroValue3
  t4 := Tryd.underlying4
  a4 := Tryd.isAgg4
  z4 := Tryd.sizeOf4
  v4 := Tryd.zeroValue4
  t5 := Tryd.underlying5
  a5 := Tryd.isAgg5
  z5 := Tryd.sizeOf5
  v5 := Tryd.zeroValue5
  t9 := Tryd.underlying9
  a9 := Tryd.isAgg9
  z9 := Tryd.sizeOf9
  v9 := Tryd.zeroValue9
  t46 := Tryd.underlying76
  a46 := Tryd.isAgg76
  z46 := Tryd.sizeOf76
  v46 := Tryd.zeroValue76
  t51 := Tryd.underlying121
  a51 := Tryd.isAgg121
  z51 := Tryd.sizeOf121
  v51 := Tryd.zeroValue121
  t146 := Tryd.underlying130
  a146 := Tryd.isAgg130
  z146 := Tryd.sizeOf130
  v146 := Tryd.zeroValue130
  g1 := by kernel_rfl }
open Go.RowKit Go.Lib in
/-- strings.Contains: "Contains reports whether substr is within s.": AT A substr OF ONE BYTE c: IT RETURNS 'decide (0 ≤ Lib.indexByte s c)'; the world is as it was. (LAID: no walk: one application.) -/
theorem Tryd.strings_Contains_one (s : ByteArray) (c : UInt8) (w : World) :
    Calls Tryd.prog 38 #[.string s, .string ⟨#[c]⟩] w fun e w' => e = .returned (.bool (decide (0 ≤ Lib.indexByte s.data.toList c))) ∧ w' = w := Any.strings_Contains_one Tryd.lays144 s c w
open Go.RowKit Go.Lib in
def Tryd.lays138_ren : Go.Shelf.Ren := ⟨fun | 138 => 37 | 195 => 55 | 218 => 56 | 143 => 57 | 219 => 74 | 217 => 75 | 225 => 90 | 224 => 91 | 267 => 92 | 266 => 93 | 314 => 102 | n => n, fun | 9 => 9 | 3 => 3 | 4 => 4 | 5 => 5 | 0 => 0 | 46 => 76 | 146 => 130 | 51 => 121 | n => n, fun | 1 => 0 | n => n⟩
theorem Tryd.lays138 : Go.Proofs.Lays.n138 Tryd.prog Tryd.lays138_ren := {
  mixed := by kernel_rfl
  f138 := Tryd.func37.trans (congrArg some (by kernel_rfl))
  f143 := Tryd.func57.trans (congrArg some (by kernel_rfl))
  f195 := Tryd.func55.trans (congrArg some (by kernel_rfl))
  f217 := Tryd.func75.trans (congrArg some (by kernel_rfl))
  f218 := Tryd.func56.trans (congrArg some (by kernel_rfl))
  f219 := Tryd.func74.trans (congrArg some (by kernel_rfl))
  f224 := Tryd.func91.trans (congrArg some (by kernel_rfl))
  f225 := Tryd.func90.trans (congrArg some (by kernel_rfl))
  f266 := Tryd.func93.trans (congrArg some (by kernel_rfl))
  f267 := Tryd.func92.trans (congrArg some (by kernel_rfl))
  f314 := Tryd.func102.trans (congrArg some (by kernel_rfl))
  t0 := Tryd.underlying0
  a0 := Tryd.isAgg0
  z0 := Tryd.sizeOf0
  v0 := Tryd.zeroValue0
  t3 := Tryd.underlying3
  a3 := Tryd.isAgg3
  z3 := Tryd.sizeOf3
  v3 := Tryd.zeroValue3
  t4 := Tryd.underlying4
  a4 := Tryd.isAgg4
  z4 := Tryd.sizeOf4
  v4 := Tryd.zeroValue4
  t5 := Tryd.underlying5
  a5 := Tryd.isAgg5
  z5 := Tryd.sizeOf5
  v5 := Tryd.zeroValue5
  t9 := Tryd.underlying9
  a9 := Tryd.isAgg9
  z9 := Tryd.sizeOf9
  v9 := Tryd.zeroValue9
  t46 := Tryd.underlying76
  a46 := Tryd.isAgg76
  z46 := Tryd.sizeOf76
  v46 := Tryd.zeroValue76
  t51 := Tryd.underlying121
  a51 := Tryd.isAgg121
  z51 := Tryd.sizeOf121
  v51 := Tryd.zeroValue121
  t146 := Tryd.underlying130
  a146 := Tryd.isAgg130
  z146 := Tryd.sizeOf130
  v146 := Tryd.zeroValue130
  g1 := by kernel_rfl }
open Go.RowKit Go.Lib in
/-- strings.Count AT A substr OF ONE BYTE ('hp'): "Count counts the number of non-overlapping instances of substr in s.": IT RETURNS 'Lib.countByte s (that byte)'; the world is as it was. ✋ NO CONTRACT HERE YET at an empty substr (utf8.RuneCountInString) or at a longer one (a loop over strings.Index). (LAID: no walk: one application.) -/
theorem Tryd.strings_Count_one (s : ByteArray) (c : UInt8) (w : World) :
    Calls Tryd.prog 37 #[.string s, .string ⟨#[c]⟩] w fun e w' => e = .returned (.int .i64 (Lib.countByte s.data.toList c)) ∧ w' = w := Any.strings_Count_one Tryd.lays138 s c w
open Go.RowKit Go.Lib in
/-- strings.Count AT A substr OF TWO BYTES OR MORE: "Count counts the number of non-overlapping instances of substr in s.": IT RETURNS 'Lib.count s substr'; the world is as it was. (LAID: no walk: one application.) -/
theorem Tryd.strings_Count (s sub : ByteArray) (m : Int) (w : World) (hs : s.size < 4294967281) (hm : w.cell? ⟨0, 0, none⟩ = some (.int .i64 m)) (h2 : 2 ≤ sub.size) :
    Calls Tryd.prog 37 #[.string s, .string sub] w fun e w' => e = .returned (.int .i64 (Lib.countB s sub)) ∧ w' = w := Any.strings_Count Tryd.lays138 s sub m w hs hm h2
open Go.RowKit Go.Lib in
open Go.RowKit Go.Lib in
open Go.RowKit Go.Lib in
open Go.RowKit Go.Lib in
open Go.RowKit Go.Lib in
open Go.RowKit Go.Lib in
def Tryd.lays146_ren : Go.Shelf.Ren := ⟨fun | 146 => 35 | 221 => 53 | 268 => 70 | 138 => 37 | 143 => 57 | 195 => 55 | 197 => 73 | 218 => 56 | 219 => 74 | 260 => 89 | 217 => 75 | 225 => 90 | 224 => 91 | 267 => 92 | 266 => 93 | 314 => 102 | n => n, fun | 9 => 9 | 31 => 26 | 3 => 3 | 4 => 4 | 0 => 0 | 105 => 99 | 21 => 21 | 5 => 5 | 46 => 76 | 119 => 126 | 139 => 129 | 138 => 128 | 146 => 130 | 51 => 121 | n => n, fun | 1 => 0 | 3 => 4 | 4 => 5 | n => n⟩
theorem Tryd.lays146 : Go.Proofs.Lays.n146 Tryd.prog Tryd.lays146_ren := {
  mixed := by kernel_rfl
  f138 := Tryd.func37.trans (congrArg some (by kernel_rfl))
  f143 := Tryd.func57.trans (congrArg some (by kernel_rfl))
  f146 := Tryd.func35.trans (congrArg some (by kernel_rfl))
  f195 := Tryd.func55.trans (congrArg some (by kernel_rfl))
  f197 := Tryd.func73.trans (congrArg some (by kernel_rfl))
  f217 := Tryd.func75.trans (congrArg some (by kernel_rfl))
  f218 := Tryd.func56.trans (congrArg some (by kernel_rfl))
  f219 := Tryd.func74.trans (congrArg some (by kernel_rfl))
  f221 := Tryd.func53.trans (congrArg some (by kernel_rfl))
  f224 := Tryd.func91.trans (congrArg some (by kernel_rfl))
  f225 := Tryd.func90.trans (congrArg some (by kernel_rfl))
  f260 := Tryd.func89.trans (congrArg some (by kernel_rfl))
  f266 := Tryd.func93.trans (congrArg some (by kernel_rfl))
  f267 := Tryd.func92.trans (congrArg some (by kernel_rfl))
  f268 := Tryd.func70.trans (congrArg some (by kernel_rfl))
  f314 := Tryd.func102.trans (congrArg some (by kernel_rfl))
  t0 := Tryd.underlying0
  a0 := Tryd.isAgg0
  z0 := Tryd.sizeOf0
  v0 := Tryd.zeroValue0
  t3 := Tryd.underlying3
  a3 := Tryd.isAgg3
  z3 := Tryd.sizeOf3
  v3 := Tryd.zeroValue3
  t4 := Tryd.underlying4
  a4 := Tryd.isAgg4
  z4 := Tryd.sizeOf4
  v4 := Tryd.zeroValue4
  t5 := Tryd.underlying5
  a5 := Tryd.isAgg5
  z5 := Tryd.sizeOf5
  v5 := Tryd.zeroValue5
  t9 := Tryd.underlying9
  a9 := Tryd.isAgg9
  z9 := Tryd.sizeOf9
  v9 := Tryd.zeroValue9
  t21 := Tryd.underlying21
  a21 := Tryd.isAgg21
  z21 := Tryd.sizeOf21
  v21 := Tryd.zeroValue21
  t31 := Tryd.underlying26
  a31 := Tryd.isAgg26
  z31 := Tryd.sizeOf26
  v31 := Tryd.zeroValue26
  t46 := Tryd.underlying76
  a46 := Tryd.isAgg76
  z46 := Tryd.sizeOf76
  v46 := Tryd.zeroValue76
  t51 := Tryd.underlying121
  a51 := Tryd.isAgg121
  z51 := Tryd.sizeOf121
  v51 := Tryd.zeroValue121
  t105 := Tryd.underlying99
  a105 := Tryd.isAgg99
  z105 := Tryd.sizeOf99
  v105 := Tryd.zeroValue99
  t119 := Tryd.underlying126
  a119 := Tryd.isAgg126
  z119 := Tryd.sizeOf126
  t138 := Tryd.underlying128
  a138 := Tryd.isAgg128
  z138 := Tryd.sizeOf128
  v138 := Tryd.zeroValue128
  t139 := Tryd.underlying129
  a139 := Tryd.isAgg129
  z139 := Tryd.sizeOf129
  v139 := Tryd.zeroValue129
  t146 := Tryd.underlying130
  a146 := Tryd.isAgg130
  z146 := Tryd.sizeOf130
  v146 := Tryd.zeroValue130
  g1 := by kernel_rfl
  g3 := by kernel_rfl
  g4 := by kernel_rfl }
open Go.RowKit Go.Lib in
/-- strings.Split. (LAID: no walk: one application.) -/
theorem Tryd.strings_Split (s sep : ByteArray) (m : Int) (w : World) (hs : s.size < 4294967281) (hm : w.cell? ⟨0, 0, none⟩ = some (.int .i64 m)) (h1 : 1 ≤ sep.size) :
    Calls Tryd.prog 35 #[.string s, .string sep] w fun e w' =>
      e = .returned (.slice (some ⟨w.heap.size, 0, none⟩) (Lib.countB s sep + 1) (Lib.countB s sep + 1)) ∧ w' = w.alloc (.cells ((Lib.splitB sep 0 (Lib.countB s sep) s).map Value.string).toArray 9) := Any.strings_Split Tryd.lays146 (by kernel_rfl) s sep m w hs hm h1
open Go.RowKit Go.Lib in
open Go.RowKit Go.Lib in
open Go.RowKit Go.Lib in
open Go.RowKit Go.Lib in
def Tryd.lays155_ren : Go.Shelf.Ren := ⟨fun | 155 => 36 | 154 => 54 | 138 => 37 | 165 => 71 | 143 => 57 | 166 => 72 | 197 => 73 | 169 => 41 | 195 => 55 | 218 => 56 | 240 => 59 | 241 => 88 | 219 => 74 | 260 => 89 | 276 => 76 | 277 => 101 | 217 => 75 | 225 => 90 | 224 => 91 | 267 => 92 | 266 => 93 | 314 => 102 | n => n, fun | 9 => 9 | 3 => 3 | 4 => 4 | 72 => 71 | 0 => 0 | 76 => 84 | 105 => 99 | 21 => 21 | 5 => 5 | 70 => 69 | 20 => 20 | 37 => 51 | 75 => 74 | 127 => 90 | 164 => 101 | 46 => 76 | 119 => 126 | 139 => 129 | 138 => 128 | 146 => 130 | 51 => 121 | 80 => 77 | n => n, fun | 1 => 0 | 3 => 4 | 4 => 5 | n => n⟩
theorem Tryd.lays155 : Go.Proofs.Lays.n155 Tryd.prog Tryd.lays155_ren := {
  mixed := by kernel_rfl
  f138 := Tryd.func37.trans (congrArg some (by kernel_rfl))
  f143 := Tryd.func57.trans (congrArg some (by kernel_rfl))
  f154 := Tryd.func54.trans (congrArg some (by kernel_rfl))
  f155 := Tryd.func36.trans (congrArg some (by kernel_rfl))
  f165 := Tryd.func71.trans (congrArg some (by kernel_rfl))
  f166 := Tryd.func72.trans (congrArg some (by kernel_rfl))
  f169 := Tryd.func41.trans (congrArg some (by kernel_rfl))
  f195 := Tryd.func55.trans (congrArg some (by kernel_rfl))
  f197 := Tryd.func73.trans (congrArg some (by kernel_rfl))
  f217 := Tryd.func75.trans (congrArg some (by kernel_rfl))
  f218 := Tryd.func56.trans (congrArg some (by kernel_rfl))
  f219 := Tryd.func74.trans (congrArg some (by kernel_rfl))
  f224 := Tryd.func91.trans (congrArg some (by kernel_rfl))
  f225 := Tryd.func90.trans (congrArg some (by kernel_rfl))
  f240 := Tryd.func59.trans (congrArg some (by kernel_rfl))
  f241 := Tryd.func88.trans (congrArg some (by kernel_rfl))
  f260 := Tryd.func89.trans (congrArg some (by kernel_rfl))
  f266 := Tryd.func93.trans (congrArg some (by kernel_rfl))
  f267 := Tryd.func92.trans (congrArg some (by kernel_rfl))
  f276 := Tryd.func76.trans (congrArg some (by kernel_rfl))
  f277 := Tryd.func101.trans (congrArg some (by kernel_rfl))
  f314 := Tryd.func102.trans (congrArg some (by kernel_rfl))
  t0 := Tryd.underlying0
  a0 := Tryd.isAgg0
  z0 := Tryd.sizeOf0
  v0 := Tryd.zeroValue0
  t3 := Tryd.underlying3
  a3 := Tryd.isAgg3
  z3 := Tryd.sizeOf3
  v3 := Tryd.zeroValue3
  t4 := Tryd.underlying4
  a4 := Tryd.isAgg4
  z4 := Tryd.sizeOf4
  v4 := Tryd.zeroValue4
  t5 := Tryd.underlying5
  a5 := Tryd.isAgg5
  z5 := Tryd.sizeOf5
  v5 := Tryd.zeroValue5
  t9 := Tryd.underlying9
  a9 := Tryd.isAgg9
  z9 := Tryd.sizeOf9
  v9 := Tryd.zeroValue9
  t20 := Tryd.underlying20
  a20 := Tryd.isAgg20
  z20 := Tryd.sizeOf20
  v20 := Tryd.zeroValue20
  t21 := Tryd.underlying21
  a21 := Tryd.isAgg21
  z21 := Tryd.sizeOf21
  v21 := Tryd.zeroValue21
  t37 := Tryd.underlying51
  a37 := Tryd.isAgg51
  z37 := Tryd.sizeOf51
  v37 := Tryd.zeroValue51
  t46 := Tryd.underlying76
  a46 := Tryd.isAgg76
  z46 := Tryd.sizeOf76
  v46 := Tryd.zeroValue76
  t51 := Tryd.underlying121
  a51 := Tryd.isAgg121
  z51 := Tryd.sizeOf121
  v51 := Tryd.zeroValue121
  t70 := Tryd.underlying69
  a70 := Tryd.isAgg69
  z70 := Tryd.sizeOf69
  v70 := Tryd.zeroValue69
  t72 := Tryd.underlying71
  a72 := Tryd.isAgg71
  z72 := Tryd.sizeOf71
  v72 := Tryd.zeroValue71
  t75 := Tryd.underlying74
  a75 := Tryd.isAgg74
  z75 := Tryd.sizeOf74
  v75 := Tryd.zeroValue74
  t76 := Tryd.underlying84
  a76 := Tryd.isAgg84
  z76 := Tryd.sizeOf84
  v76 := Tryd.zeroValue84
  t105 := Tryd.underlying99
  a105 := Tryd.isAgg99
  z105 := Tryd.sizeOf99
  v105 := Tryd.zeroValue99
  t119 := Tryd.underlying126
  a119 := Tryd.isAgg126
  z119 := Tryd.sizeOf126
  t127 := Tryd.underlying90
  a127 := Tryd.isAgg90
  z127 := Tryd.sizeOf90
  v127 := Tryd.zeroValue90
  t138 := Tryd.underlying128
  a138 := Tryd.isAgg128
  z138 := Tryd.sizeOf128
  v138 := Tryd.zeroValue128
  t139 := Tryd.underlying129
  a139 := Tryd.isAgg129
  z139 := Tryd.sizeOf129
  v139 := Tryd.zeroValue129
  t146 := Tryd.underlying130
  a146 := Tryd.isAgg130
  z146 := Tryd.sizeOf130
  v146 := Tryd.zeroValue130
  t164 := Tryd.underlying101
  a164 := Tryd.isAgg101
  z164 := Tryd.sizeOf101
  v164 := Tryd.zeroValue101
  g1 := by kernel_rfl
  g3 := by kernel_rfl
  g4 := by kernel_rfl }
theorem Tryd.Builder_Extra_155 : Builder.Extra Tryd.prog Tryd.lays155_ren := {
  sizeBuilder := by kernel_rfl
  liesBuilder := by kernel_rfl
  t5 := Tryd.underlying5
  a5 := Tryd.isAgg5
  z5 := Tryd.sizeOf5
  v5 := Tryd.zeroValue5
  infoByte := by kernel_rfl
  cellsByte := by kernel_rfl
  sizeByte := by kernel_rfl
  neB5 := by decide }
open Go.RowKit Go.Lib in
/-- strings.ReplaceAll: "ReplaceAll returns a copy of the string s with all non-overlapping instances of old replaced by new.": AT AN old THAT IS NOT EMPTY: 'Lib.replaceAll s old new'. (LAID: no walk: one application.) -/
theorem Tryd.strings_ReplaceAll (s old new : ByteArray) (m : Int) (w : World) (hs : s.size < 4294967281) (hm : w.cell? ⟨0, 0, none⟩ = some (.int .i64 m)) (h1 : 1 ≤ old.size) (hlen : s.size + Lib.countB s old * new.size ≤ 140737488355328) :
    Calls Tryd.prog 36 #[.string s, .string old, .string new] w fun e w' =>
      e = .returned (.string ⟨(Lib.replaceAll s.data.toList old.data.toList new.data.toList).toArray⟩) ∧ Below w.heap.size w w' := Any.strings_ReplaceAll Tryd.lays155 Tryd.Builder_Extra_155 s old new m w hs hm h1 hlen
open Go.RowKit Go.Lib in
open Go.RowKit Go.Lib in
open Go.RowKit Go.Lib in
open Go.RowKit Go.Lib in
open Go.RowKit Go.Lib in
open Go.RowKit Go.Lib in
open Go.RowKit Go.Lib in
open Go.RowKit Go.Lib in
open Go.RowKit Go.Lib in
def Tryd.lays109_ren : Go.Shelf.Ren := ⟨fun | 109 => 67 | n => n, fun | 31 => 26 | 9 => 9 | 3 => 3 | 0 => 0 | 4 => 4 | n => n, fun | n => n⟩
theorem Tryd.lays109 : Go.Proofs.Lays.n109 Tryd.prog Tryd.lays109_ren := {
  mixed := by kernel_rfl
  f109 := Tryd.func67.trans (congrArg some (by kernel_rfl))
  t0 := Tryd.underlying0
  a0 := Tryd.isAgg0
  z0 := Tryd.sizeOf0
  v0 := Tryd.zeroValue0
  t3 := Tryd.underlying3
  a3 := Tryd.isAgg3
  z3 := Tryd.sizeOf3
  v3 := Tryd.zeroValue3
  t4 := Tryd.underlying4
  a4 := Tryd.isAgg4
  z4 := Tryd.sizeOf4
  v4 := Tryd.zeroValue4
  t9 := Tryd.underlying9
  a9 := Tryd.isAgg9
  z9 := Tryd.sizeOf9
  v9 := Tryd.zeroValue9
  t31 := Tryd.underlying26
  a31 := Tryd.isAgg26
  z31 := Tryd.sizeOf26
  v31 := Tryd.zeroValue26 }
open Go.Lib in
/-- slices.Index at []string: "Index returns the index of the first occurrence of v in s, or -1 if not present.": IT RETURNS 'Lib.idxOfS (the elements) v'; the world is as it was. 'zs': what the cells behind the slice's address hold (its spare capacity too, if you have it); 'zs.take n': its elements. (LAID: no walk: one application.) -/
theorem Tryd.slices_Index_string (b off n c : Nat) (zs : List ByteArray) (x : ByteArray) (w : World) (hz : n ≤ zs.length) (hbig : n ≤ 9223372036854775807) (hc : ∀ j, j < zs.length → w.cell? ⟨b, off + j, none⟩ = some (.string (zs.getD j ByteArray.empty))) :
    Calls Tryd.prog 67 #[.slice (some ⟨b, off, none⟩) n c, .string x] w fun e w' => e = .returned (.int .i64 (Lib.idxOfS (zs.take n) x)) ∧ w' = w := Any.slices_Index_string Tryd.lays109 b off n c zs x w hz hbig hc
open Go.Lib in
/-- The same at a slice of length 0, a nil one too: no cell is known, none is asked for. (LAID: no walk: one application.) -/
theorem Tryd.slices_Index_string_empty (a : Option Addr) (c : Nat) (x : ByteArray) (w : World) :
    Calls Tryd.prog 67 #[.slice a 0 c, .string x] w fun e w' => e = .returned (.int .i64 (Lib.idxOfS [] x)) ∧ w' = w := Any.slices_Index_string_empty Tryd.lays109 a c x w
end Go.Proofs

/- Strings as lists of bytes. -/
namespace Go.Proofs.YthicgeiljficbaaDoor
open Go.RowKit
set_option linter.unusedSimpArgs false
set_option linter.unusedVariables false
set_option linter.unnecessarySimpa false

/-- a list of bytes as a string -/
def str (l : List UInt8) : ByteArray := ⟨l.toArray⟩
theorem str_data (l : List UInt8) : (str l).data.toList = l := by simp [str]
theorem str_of (s : ByteArray) (l : List UInt8) (h : s.data.toList = l) : s = str l := by
  subst h; cases s; simp [str]
theorem str_self (s : ByteArray) : str s.data.toList = s := (str_of s _ rfl).symm
theorem str_size (l : List UInt8) : (str l).size = l.length := by
  rw [Lib.size_eq, str_data]

/-- the value was returned, the world is as it was -/
def Ans (v : Value) (w : World) (e : Ending) (w' : World) : Prop := e = .returned v ∧ w = w'
/-- the value was returned; what existed is as it was -/
def New (v : Value) (w : World) (e : Ending) (w' : World) : Prop := e = .returned v ∧ Below w.heap.size w w'

/-- what stands ahead of the first c, and behind it -/
def bef (c : UInt8) (l : List UInt8) : List UInt8 := l.takeWhile (· != c)
def aft (c : UInt8) (l : List UInt8) : List UInt8 := (l.dropWhile (· != c)).drop 1

theorem contains_ne {b c : UInt8} {l : List UInt8} (h : ¬ b = c) : List.contains (b :: l) c = l.contains c := by
  have : (c == b) = false := by simpa using (Ne.symm h)
  rw [List.contains_cons, this, Bool.false_or]

theorem indexByte_eq (c : UInt8) (l : List UInt8) : Lib.indexByte l c = if l.contains c then ((bef c l).length : Int) else -1 := by
  induction l with
  | nil => simp [Lib.indexByte]
  | cons b l ih =>
    unfold Lib.indexByte
    by_cases h : b = c
    · subst h; simp [bef]
    · have h' : (b == c) = false := by simp [h]
      have e1 : bef c (b :: l) = b :: bef c l := by simp [bef, h]
      rw [h', e1, contains_ne h, ih]
      by_cases hc : l.contains c = true
      · have hne : ((((bef c l).length : Nat) : Int) == -1) = false := by
          have : ¬ (((bef c l).length : Nat) : Int) = -1 := by omega
          simpa using this
        rw [if_pos hc, if_pos hc, hne]
        simp
      · rw [if_neg hc, if_neg hc]
        simp

theorem take_bef (c : UInt8) (l : List UInt8) : l.take (bef c l).length = bef c l := by
  induction l with
  | nil => simp [bef]
  | cons b l ih =>
    by_cases h : b = c
    · subst h; simp [bef]
    · have e1 : bef c (b :: l) = b :: bef c l := by simp [bef, List.takeWhile_cons, h]
      rw [e1]; simp [ih]

theorem drop_bef (c : UInt8) (l : List UInt8) : l.drop ((bef c l).length + 1) = aft c l := by
  induction l with
  | nil => simp [bef, aft]
  | cons b l ih =>
    by_cases h : b = c
    · subst h; simp [bef, aft]
    · have e1 : bef c (b :: l) = b :: bef c l := by simp [bef, List.takeWhile_cons, h]
      have e2 : aft c (b :: l) = aft c l := by simp [aft, List.dropWhile_cons, h]
      rw [e1, e2, ← ih]; simp

theorem bef_le (c : UInt8) (l : List UInt8) : (bef c l).length ≤ l.length := by
  have := congrArg List.length (take_bef c l)
  rw [List.length_take] at this
  omega

theorem extract_bef (c : UInt8) (s : ByteArray) : s.extract 0 (bef c s.data.toList).length = str (bef c s.data.toList) := by
  apply str_of
  rw [Lib.extract_data]
  simp [take_bef]
theorem extract_aft (c : UInt8) (s : ByteArray) : s.extract ((bef c s.data.toList).length + 1) s.size = str (aft c s.data.toList) := by
  apply str_of
  rw [Lib.extract_to_end, drop_bef]

theorem drop_two {l : List UInt8} {k : Nat} (h : k < l.length) : l.drop k = l.getD k 0 :: l.drop (k + 1) := by
  rw [List.drop_eq_getElem_cons h]
  simp [h]

theorem getD_byte (s : ByteArray) (k : Nat) (h : k < s.size) : s.data.toList.getD k 0 = s[k]'h := by
  have h' : k < s.data.toList.length := by rw [← Lib.size_eq]; exact h
  rw [List.getD_eq_getElem?_getD, Lib.data_getElem? s k h]
  rfl

attribute [go_sem] str_size
@[go_sem] theorem str_extract (l : List UInt8) (a b : Nat) : (str l).extract a b = str ((l.drop a).take (b - a)) := by
  apply str_of
  rw [Lib.extract_data, str_data]
@[go_sem high] theorem str_extract_end (l : List UInt8) (a : Nat) : (str l).extract a l.length = str (l.drop a) := by
  rw [str_extract, List.take_of_length_le (by rw [List.length_drop]; exact Nat.le_refl _)]
@[go_sem] theorem str_append (a b : List UInt8) : str a ++ str b = str (a ++ b) := by
  apply str_of
  simp [str]
@[go_sem] theorem str_append_lit (a : List UInt8) (b : Array UInt8) : str a ++ ⟨b⟩ = str (a ++ b.toList) := by
  apply str_of
  simp [str]
@[go_sem] theorem lit_append_str (a : List UInt8) (b : Array UInt8) : (⟨b⟩ : ByteArray) ++ str a = str (b.toList ++ a) := by
  apply str_of
  simp [str]
theorem str_toList (l : List UInt8) : (str l).toList = l := by
  rw [Lib.toList_data, str_data]
@[go_sem] theorem str_index (l : List UInt8) (i : Nat) (h : i < (str l).size) : (str l)[i]'h = l.getD i 0 := by
  have := getD_byte (str l) i h
  rw [str_data] at this
  exact this.symm

theorem ret_bool {a b : Bool} (h : a = b) : Ending.returned (.bool a) = .returned (.bool b) := by rw [h]
end Go.Proofs.YthicgeiljficbaaDoor

/- A block that is known whole: what it reads as, and what stores, new blocks, draws and calls make of it. -/
namespace Go.Proofs.YthicgeiljficbaaDoor
open Go.RowKit
set_option linter.unusedSimpArgs false
set_option linter.unusedVariables false
set_option linter.unnecessarySimpa false

/-- block b of W is a row of the cells cs, of type T, nothing of it frozen -/
def Blk (W : World) (b : Nat) (cs : List Value) (T : TypeId) : Prop := W.heap[b]? = some (.cells cs.toArray T (0, 0))

theorem Blk.lt {W : World} {b : Nat} {cs : List Value} {T : TypeId} (h : Blk W b cs T) : b < W.heap.size := (Array.getElem?_eq_some_iff.1 h).1
theorem Blk.cell {W : World} {b : Nat} {cs : List Value} {T : TypeId} (h : Blk W b cs T) (o : Nat) : W.cell? ⟨b, o, none⟩ = cs[o]? := by
  unfold Blk at h
  simp [World.cell?, h]
theorem Blk.froz {W : World} {b : Nat} {cs : List Value} {T : TypeId} (h : Blk W b cs T) (o : Nat) : W.frozen? ⟨b, o, none⟩ = false := by
  unfold Blk at h
  simp [World.frozen?, h]
theorem Blk.shape {W : World} {b : Nat} {cs : List Value} {T : TypeId} (h : Blk W b cs T) : W.shape? b = some (T, cs.length) := by
  unfold Blk at h
  simp [World.shape?, h]
theorem Blk.new (W : World) (cs : List Value) (T : TypeId) : Blk (W.alloc (.cells cs.toArray T)) W.heap.size cs T := by
  unfold Blk
  simp [World.alloc, -World.alloc_eq]
theorem Blk.alloc {W : World} {b : Nat} {cs : List Value} {T : TypeId} (h : Blk W b cs T) (o : Obj) : Blk (W.alloc o) b cs T := by
  have := h.lt
  unfold Blk at h ⊢
  rw [Below.heap_alloc _ _ _ this]; exact h
theorem Blk.set {W : World} {b : Nat} {cs : List Value} {T : TypeId} (h : Blk W b cs T) (o : Nat) (v : Value) : Blk (W.setCell ⟨b, o, none⟩ v) b (cs.set o v) T := by
  have hl := h.lt
  unfold Blk at h ⊢
  simp only [World.setCell, Array.getElem?_modify]
  rw [if_pos trivial, h]
  simp
theorem Blk.other {W : World} {b : Nat} {cs : List Value} {T : TypeId} (h : Blk W b cs T) {a : Addr} (v : Value) (hne : b ≠ a.block) : Blk (W.setCell a v) b cs T := by
  unfold Blk at h ⊢
  rw [Below.heap_setCell _ _ _ _ hne]; exact h
theorem Blk.drew {W : World} {b : Nat} {cs : List Value} {T : TypeId} (h : Blk W b cs T) : Blk W.drew b cs T := h
theorem Blk.drewN {W : World} {b : Nat} {cs : List Value} {T : TypeId} (h : Blk W b cs T) (n : Nat) : Blk (W.drewN n) b cs T := h
theorem Blk.below {W W' : World} {B b : Nat} {cs : List Value} {T : TypeId} (h : Blk W b cs T) (hb : Below B W W') (hlt : b < B) : Blk W' b cs T := by
  unfold Blk at h ⊢
  rw [hb.block _ hlt]; exact h
/-- behind a call: all that was there is as it was -/
theorem Blk.call {W W' : World} {b : Nat} {cs : List Value} {T : TypeId} (h : Blk W b cs T) (hb : Below W.heap.size W W') : Blk W' b cs T := h.below hb h.lt
theorem Blk.shut {W : World} {b : Nat} {cs ds : List Value} {T : TypeId} (h : Blk W b cs T) (e : cs = ds) : Blk W b ds T := e ▸ h

/-- a call behind what has been done so far -/
theorem _root_.Go.RowKit.Below.call {B : Nat} {w W W' : World} (h : Below B w W) (hb : Below W.heap.size W W') (hB : B ≤ W.heap.size) : Below B w W' := h.trans (hb.mono hB)
end Go.Proofs.YthicgeiljficbaaDoor

/- A slice of the call's own, grown by append, cut back by s[:k:k]: 'Row': its capacity may be less than its block holds. -/
namespace Go.Proofs.YthicgeiljficbaaDoor
open Go.RowKit
set_option linter.unusedSimpArgs false
set_option linter.unusedVariables false
set_option linter.unnecessarySimpa false

/-- v has n elements, whose cells are xs; it is nil, or lies at the head of a block from B on that nobody has frozen -/
def Row (w : World) (B : Nat) (e : TypeId) (size : Nat) (v : Value) (n : Nat) (xs : List Value) : Prop :=
  xs.length = n * size ∧ ((v = .slice none 0 0 ∧ n = 0) ∨
    ∃ g cap cur, v = .slice (some ⟨g, 0, none⟩) n cap ∧ B ≤ g ∧ w.heap[g]? = some (.cells cur e (0, 0)) ∧ n ≤ cap ∧ cap * size ≤ cur.size ∧ cur.toList.take (n * size) = xs)

theorem Row.nil (w : World) (B : Nat) (e : TypeId) (size : Nat) : Row w B e size (.slice none 0 0) 0 [] := ⟨by simp, .inl ⟨rfl, rfl⟩⟩
theorem Row.call {w w' : World} {B : Nat} {e : TypeId} {size : Nat} {v : Value} {n : Nat} {xs : List Value} (h : Row w B e size v n xs) (hb : Below w.heap.size w w') : Row w' B e size v n xs := by
  refine ⟨h.1, h.2.imp id ?_⟩
  rintro ⟨g, cap, cur, hv, hg, hh, h3⟩
  have hlt : g < w.heap.size := (Array.getElem?_eq_some_iff.1 hh).1
  exact ⟨g, cap, cur, hv, hg, (hb.block _ hlt).trans hh, h3⟩
theorem Row.alloc {w : World} {B : Nat} {e : TypeId} {size : Nat} {v : Value} {n : Nat} {xs : List Value} (h : Row w B e size v n xs) (o : Obj) : Row (w.alloc o) B e size v n xs :=
  h.call ((Below.refl _ _).alloc (Nat.le_refl _) _)
theorem Row.drew {w : World} {B : Nat} {e : TypeId} {size : Nat} {v : Value} {n : Nat} {xs : List Value} (h : Row w B e size v n xs) : Row w.drew B e size v n xs := h
theorem Row.shape {w : World} {B : Nat} {e : TypeId} {size : Nat} {v : Value} {n : Nat} {xs : List Value} (h : Row w B e size v n xs) : ∃ a cap, v = .slice a n cap ∧ n ≤ cap := by
  rcases h.2 with ⟨rfl, rfl⟩ | ⟨g, cap, cur, rfl, _, _, h3, _⟩
  · exact ⟨none, 0, rfl, Nat.le_refl _⟩
  · exact ⟨_, cap, rfl, h3⟩
/-- of at least one element: where it lies -/
theorem Row.form {w : World} {B : Nat} {e : TypeId} {size : Nat} {v : Value} {n : Nat} {xs : List Value} (h : Row w B e size v n xs) (hn : 0 < n) :
    ∃ g cap, v = .slice (some ⟨g, 0, none⟩) n cap ∧ n ≤ cap ∧ B ≤ g ∧ g < w.heap.size ∧ (∀ j, j < n * size → w.cell? ⟨g, j, none⟩ = xs[j]?) ∧ ∀ j, w.frozen? ⟨g, j, none⟩ = false := by
  rcases h.2 with ⟨_, h0⟩ | ⟨g, cap, cur, rfl, hg, hh, h3, h4, h5⟩
  · omega
  · refine ⟨g, cap, rfl, h3, hg, (Array.getElem?_eq_some_iff.1 hh).1, fun j hj => ?_, fun j => by simp [World.frozen?, hh]⟩
    rw [← h5]
    simp [World.cell?, hh, List.getElem?_take, hj]
section
variable {P : Program} (w : World)
theorem run_append_row (B : Nat) (t ty e : TypeId) (i : TypeInfo) (z : Value) (size bytes : Nat) (ht : P.underlying t = some (.slice e)) (hi : P.info? e = some i) (hz : i.zero = some z)
    (hsize : i.size = size) (hby : i.bytes = bytes) (hzs : z.cells.size = size)
    (v : Value) (n : Nat) (xs : List Value) (hown : Row w B e size v n xs)
    (a : Addr) (m c : Nat) (news : List Value) (hl : news.length = m * size) (hnews : ∀ j u, news[j]? = some u → w.cell? (a.add j) = some u) (h1 : ∀ u ∈ news, u.oneCell' = true)
    (hm : 0 < m) (h63 : n + m ≤ maxLen) (hbytes : (n + m) * bytes ≤ 140737488355328) (hbase : B ≤ w.heap.size) :
    ∃ v' w', (Builtin.append_ #[t, t] ty #[v, .slice (some a) m c]).run P w = .ok v' w' ∧ Row w' B e size v' (n + m) (xs ++ news) ∧ Below B w w' := by
  subst hsize
  subst hby
  have hsmall : n + m ≤ 9223372036854775807 := by simp only [maxLen] at h63; omega
  have hlen : (xs ++ news).length = (n + m) * i.size := by rw [List.length_append, hown.1, hl, Nat.add_mul]
  have grown : ∀ (old : Nat), old < n + m →
      Row (w.drew.alloc (.cells (xs.toArray ++ news.toArray ++ Builtin.zeroCells z.cells (grownCap w (n + m) old e - (n + m))) e)) B e i.size
        (.slice (some ⟨w.heap.size, 0, none⟩) (n + m) (grownCap w (n + m) old e)) (n + m) (xs ++ news) ∧
      Below B w (w.drew.alloc (.cells (xs.toArray ++ news.toArray ++ Builtin.zeroCells z.cells (grownCap w (n + m) old e - (n + m))) e)) := by
    intro old ho
    have hge := grownCap_ge w (n + m) old e
    refine ⟨⟨hlen, .inr ⟨w.heap.size, _, _, rfl, hbase, heap_alloc_new w.drew _, hge, ?_, ?_⟩⟩, (Below.refl B w).drew.alloc hbase _⟩
    · simp only [Array.size_append, List.size_toArray, size_zeroCells, hzs, hown.1, hl, ← Nat.add_mul]
      exact Nat.mul_le_mul_right _ (by omega)
    · simp only [Array.toList_append, List.append_assoc]
      rw [← List.append_assoc, ← hlen]
      exact List.take_left
  rcases hown.2 with ⟨rfl, rfl⟩ | ⟨g, cap, cur, rfl, hbg, hg, hnc, hcs, htake⟩
  · have hx : xs = [] := List.eq_nil_of_length_eq_zero (by simpa using hown.1)
    subst hx
    have hr := run_append_nil (P := P) w t ty e i z ht hi hz a m c news hl hnews (by omega) (by omega) (by have hb := hbytes; simp only [Nat.zero_add] at hb; omega)
    have hgr := grown 0 (by omega)
    simp only [Nat.zero_add, List.nil_append, Array.empty_append] at hgr ⊢
    exact ⟨_, _, hr, hgr.1, hgr.2⟩
  · by_cases hroom : n + m ≤ cap
    · have hfit : n * i.size + news.length ≤ cur.size := by rw [hl, ← Nat.add_mul]; exact Nat.le_trans (Nat.mul_le_mul_right _ hroom) hcs
      have hr := run_append_room (P := P) w t ty e i ht hi g n cap cur hg a m c news hl hnews h1 hroom hfit
      refine ⟨_, _, hr, ⟨hlen, .inr ⟨g, cap, _, rfl, hbg, setRow_heap w g cur _ e _ hg, hroom, ?_, ?_⟩⟩, ⟨rfl, rfl, rfl, by simp, fun k hk => setRow_other w g k _ (by omega)⟩⟩
      · simp only [List.size_toArray, List.length_append, List.length_take, List.length_drop, Array.length_toList]
        omega
      · rw [htake, ← hlen]
        exact List.take_left
    · have holds : ∀ j u, xs[j]? = some u → w.cell? ((⟨g, 0, none⟩ : Addr).add j) = some u := by
        intro j u hj
        have hjl : j < xs.length := (List.getElem?_eq_some_iff.1 hj).1
        rw [hown.1] at hjl
        rw [← htake] at hj
        rw [List.getElem?_take, if_pos hjl] at hj
        have ea : (⟨g, 0, none⟩ : Addr).add j = ⟨g, j, none⟩ := by cases j <;> simp [Addr.add]
        rw [ea]
        simp only [World.cell?, hg]
        simpa using hj
      have hr := run_append_grow (P := P) w t ty e i z ht hi hz ⟨g, 0, none⟩ n cap xs hown.1 holds a m c news hl hnews (by omega) (by omega) (growslice_fits (by omega) hbytes)
      have hgr := grown cap (by omega)
      exact ⟨_, _, hr, hgr.1, hgr.2⟩

theorem wpList_append_row {ops : Array Oper} {rest : List Oper} {o : Oper} {a : Act} {Q : Exit → Act → World → Prop} (hgd : o.guard = none) (s x : Operand) (t : TypeId)
    (ho : o.op = .call { callee := .builtin .append, args := #[s, x], argTypes := #[t, t] })
    (B : Nat) (e : TypeId) (i : TypeInfo) (z : Value) (size bytes : Nat) (ht : P.underlying t = some (.slice e)) (hi : P.info? e = some i) (hz : i.zero = some z)
    (hsize : i.size = size) (hby : i.bytes = bytes) (hzs : z.cells.size = size)
    (v : Value) (n : Nat) (xs : List Value) (hs : a.eval s = v) (hown : Row w B e size v n xs)
    (ad : Addr) (m c : Nat) (news : List Value) (hx : a.eval x = .slice (some ad) m c) (hl : news.length = m * size) (hnews : ∀ j u, news[j]? = some u → w.cell? (ad.add j) = some u) (h1 : ∀ u ∈ news, u.oneCell' = true)
    (hm : 0 < m) (h63 : n + m ≤ maxLen) (hbytes : (n + m) * bytes ≤ 140737488355328) (hbase : B ≤ w.heap.size)
    (h : ∀ v' w', Row w' B e size v' (n + m) (xs ++ news) → Below B w w' → wpList P ops Q rest (a.put o.dst v') w') : wpList P ops Q (o :: rest) a w :=
  wpList_plain hgd fun _ hK => by
    obtain ⟨v', w', hr, h2, h3⟩ := run_append_row (P := P) w B t o.type e i z size bytes ht hi hz hsize hby hzs v n xs hown ad m c news hl hnews h1 hm h63 hbytes hbase
    unfold Oper.wp execOp
    simp only [ho, resolve, invoke, builtin, Sem.run_bind, Sem.run_pure, Result.andThen_ok, List.map_toArray, List.map_cons, List.map_nil, hs, hx, hr]
    exact hK _ _ (h v' w' h2 h3)
end
end Go.Proofs.YthicgeiljficbaaDoor

/- Package pointer over lists of bytes: replacing one byte; part; Text. -/
namespace Go.Proofs.YthicgeiljficbaaDoor
open Go.RowKit
set_option linter.unusedSimpArgs false
set_option linter.unusedVariables false
set_option linter.unnecessarySimpa false

/-- does byte c stand in l? -/
def has (c : UInt8) (l : List UInt8) : Bool := l.contains c

/-- each c of l by 'new' -/
def rep (c : UInt8) (new l : List UInt8) : List UInt8 := l.flatMap fun b => if b = c then new else [b]

theorem index_one (c : UInt8) : ∀ l : List UInt8, Lib.index l [c] = Lib.indexByte l c
  | [] => rfl
  | b :: l => by
    have ih := index_one c l
    unfold Lib.index Lib.indexByte
    rw [ih]
    by_cases h : b = c
    · subst h; simp [List.isPrefixOf]
    · have h1 : (b == c) = false := by simpa using h
      have h2 : (c == b) = false := by simpa using Ne.symm h
      simp [List.isPrefixOf, h1, h2]

theorem rep_none {c : UInt8} {new l : List UInt8} (h : c ∉ l) : rep c new l = l := by
  induction l with
  | nil => rfl
  | cons b l ih =>
    have hb : ¬ b = c := by rintro rfl; simp at h
    have hl : c ∉ l := fun hm => h (List.mem_cons_of_mem _ hm)
    show (if b = c then new else [b]) ++ rep c new l = b :: l
    rw [if_neg hb, ih hl]
    rfl

theorem rep_append (c : UInt8) (new a b : List UInt8) : rep c new (a ++ b) = rep c new a ++ rep c new b := by simp [rep]

theorem split_first (c : UInt8) (l : List UInt8) (h : l.contains c = true) : l = bef c l ++ c :: aft c l := by
  induction l with
  | nil => simp at h
  | cons b l ih =>
    by_cases hb : b = c
    · subst hb; simp [bef, aft]
    · have e1 : bef c (b :: l) = b :: bef c l := by simp [bef, hb]
      have e2 : aft c (b :: l) = aft c l := by simp [aft, List.dropWhile_cons, hb]
      rw [contains_ne hb] at h
      rw [e1, e2, List.cons_append, ← ih h]

theorem bef_notin (c : UInt8) (l : List UInt8) : c ∉ bef c l := by
  induction l with
  | nil => simp [bef]
  | cons b l ih =>
    by_cases h : b = c
    · subst h; simp [bef]
    · have e1 : bef c (b :: l) = b :: bef c l := by simp [bef, h]
      rw [e1]
      intro hm
      rcases List.mem_cons.1 hm with hm | hm
      · exact h hm.symm
      · exact ih hm

theorem replaceK_one (c : UInt8) (new : List UInt8) : ∀ (k : Nat) (s : List UInt8), s.count c = k → Lib.replaceK [c] new k s = rep c new s
  | 0, s, h => by
    have : c ∉ s := List.count_eq_zero.1 h
    rw [rep_none this]
    rfl
  | k + 1, s, h => by
    have hc : s.contains c = true := by
      have : c ∈ s := List.count_pos_iff.1 (by omega)
      simpa using this
    have hi : Lib.index s [c] = ((bef c s).length : Int) := by rw [index_one, indexByte_eq, if_pos hc]
    have hs := split_first c s hc
    have hcount : (aft c s).count c = k := by
      have h0 : (bef c s).count c = 0 := List.count_eq_zero.2 (bef_notin c s)
      rw [hs, List.count_append, List.count_cons_self, h0] at h
      omega
    rw [Lib.replaceK_hit [c] new k s _ hi, take_bef]
    have e : s.drop ((bef c s).length + [c].length) = aft c s := drop_bef c s
    rw [e, replaceK_one c new k (aft c s) hcount]
    conv => rhs; rw [hs, rep_append]
    rw [rep_none (bef_notin c s)]
    show _ = _ ++ ((if c = c then new else [c]) ++ rep c new (aft c s))
    rw [if_pos rfl, List.append_assoc]

theorem replaceAll_one (c : UInt8) (new l : List UInt8) (h : ¬ [c] = new) : Lib.replaceAll l [c] new = rep c new l := by
  unfold Lib.replaceAll Lib.replace
  rw [if_neg (by simpa using h)]
  have : Lib.replaceNum l [c] (-1) = l.count c := by
    unfold Lib.replaceNum
    rw [if_pos (Or.inl (by decide)), Lib.count_one]
  rw [this, replaceK_one c new _ l rfl]

theorem rep_len (c : UInt8) (new l : List UInt8) (h : new.length ≤ 2) : (rep c new l).length ≤ 2 * l.length := by
  induction l with
  | nil => simp [rep]
  | cons b l ih =>
    have e : rep c new (b :: l) = (if b = c then new else [b]) ++ rep c new l := rfl
    rw [e, List.length_append, List.length_cons]
    split
    · omega
    · simp only [List.length_cons, List.length_nil]; omega

/-- what the calls need of the library's variables -/
def Env (W : World) : Prop := 0 < W.heap.size ∧ ∃ m, W.cell? ⟨0, 0, none⟩ = some (.int .i64 m)
theorem Env.call {W W' : World} (h : Env W) (hb : Below W.heap.size W W') : Env W' := by
  obtain ⟨h0, m, hm⟩ := h
  refine ⟨Nat.lt_of_lt_of_le h0 hb.size, m, ?_⟩
  rw [hb.cell (p := ⟨0, 0, none⟩) h0]
  exact hm
theorem Env.below {B : Nat} {W W' : World} (h : Env W) (hb : Below B W W') (hB : 0 < B) : Env W' := by
  obtain ⟨h0, m, hm⟩ := h
  refine ⟨Nat.lt_of_lt_of_le h0 hb.size, m, ?_⟩
  rw [hb.cell (p := ⟨0, 0, none⟩) hB]
  exact hm

theorem countB_one (l : List UInt8) (c : UInt8) : Lib.countB (str l) ⟨#[c]⟩ = l.count c := by
  show Lib.count (str l).data.toList [c] = _
  rw [str_data, Lib.count_one]

theorem replace_one_l (l : List UInt8) (c : UInt8) (new : List UInt8) (h : ¬ [c] = new) (h2 : new.length ≤ 2) (hl : l.length ≤ 1073741824) (w : World) (he : Env w) :
    Calls Tryd.prog 36 #[.string (str l), .string ⟨#[c]⟩, .string ⟨new.toArray⟩] w (New (.string (str (rep c new l))) w) := by
  obtain ⟨h0, m, hm⟩ := he
  have hcl := List.count_le_length (a := c) (l := l)
  have hmul : l.count c * new.length ≤ l.length * 2 := Nat.mul_le_mul hcl h2
  have hns : (⟨new.toArray⟩ : ByteArray).size = new.length := str_size new
  have := Tryd.strings_ReplaceAll (str l) ⟨#[c]⟩ ⟨new.toArray⟩ m w (by rw [str_size]; omega) hm (Nat.le_refl 1) (by rw [str_size, countB_one, hns]; omega)
  have e : Lib.replaceAll (str l).data.toList (⟨#[c]⟩ : ByteArray).data.toList (⟨new.toArray⟩ : ByteArray).data.toList = rep c new l := by
    rw [str_data]
    exact replaceAll_one c new l h
  rw [e] at this
  exact this

def escPart (l : List UInt8) : List UInt8 := 47 :: rep 47 [126, 49] (rep 126 [126, 48] l)

set_option maxHeartbeats 400000 in
theorem part_l (l : List UInt8) (hl : l.length ≤ 268435456) (w : World) (he : Env w) :
    Calls Tryd.prog 33 #[.string (str l)] w (New (.string (str (escPart l))) w) := by
  have HE := Lib.hid he
  clear he
  have hr := rep_len 126 [126, 48] l (by decide)
  have hr2 := rep_len 47 [126, 49] (rep 126 [126, 48] l) (by decide)
  have HF : Hid (escPart l = 47 :: rep 47 [126, 49] (rep 126 [126, 48] l)) := rfl
  have C1 := Lib.hid (fun W (he : Env W) => replace_one_l l 126 [126, 48] (by decide) (by decide) (by omega) W he)
  have C2 := Lib.hid (fun W (he : Env W) => replace_one_l (rep 126 [126, 48] l) 47 [126, 49] (by decide) (by decide) (by omega) W he)
  rw [HF.out]
  generalize rep 47 [126, 49] (rep 126 [126, 48] l) = b at *
  generalize rep 126 [126, 48] l = a at *
  clear HF
  go_enter Tryd.func33, Tryd.ntmps33
  go_wp2_with fail
  refine (C1.out _ HE.out).mono ?_
  rintro e w1 ⟨rfl, hb⟩
  have HE1 := Lib.hid (HE.out.call hb)
  have HB1 := Lib.hid hb
  clear hb
  go_wp2_with fail
  refine (C2.out _ HE1.out).mono ?_
  rintro e w2 ⟨rfl, hb⟩
  have HB2 := Lib.hid (RowKit.Below.call HB1.out hb HB1.out.size)
  clear hb
  have hb2 : b.length ≤ 1073741824 := by omega
  go_wp2_with fail
  go_ret
  exact ⟨rfl, HB2.out⟩
end Go.Proofs.YthicgeiljficbaaDoor

/- Package pointer over lists of bytes: slices of texts that are read; Text. -/
namespace Go.Proofs.YthicgeiljficbaaDoor
open Go.RowKit
set_option linter.unusedSimpArgs false
set_option linter.unusedVariables false
set_option linter.unnecessarySimpa false

def strs (xs : List (List UInt8)) : List Value := xs.map fun l => .string (str l)
theorem strs_length (xs : List (List UInt8)) : (strs xs).length = xs.length := by simp [strs]
theorem strs_append (xs ys : List (List UInt8)) : strs (xs ++ ys) = strs xs ++ strs ys := by simp [strs]

/-- v reads as the texts xs -/
def Txts (w : World) (v : Value) (xs : List (List UInt8)) : Prop :=
  (xs = [] ∧ ∃ a cap, v = .slice a 0 cap) ∨
  ∃ b off cap, v = .slice (some ⟨b, off, none⟩) xs.length cap ∧ b < w.heap.size ∧ ∀ (j : Nat) (h : j < xs.length), w.cell? ⟨b, off + j, none⟩ = some (.string (str (xs[j]'h)))

theorem Txts.call {w w' : World} {v : Value} {xs : List (List UInt8)} (h : Txts w v xs) (hb : Below w.heap.size w w') : Txts w' v xs := by
  rcases h with h | ⟨b, off, cap, hv, hlt, hc⟩
  · exact .inl h
  · refine .inr ⟨b, off, cap, hv, Nat.lt_of_lt_of_le hlt hb.size, fun j hj => ?_⟩
    rw [hb.cell (p := ⟨b, off + j, none⟩) hlt]
    exact hc j hj
theorem Txts.blk {w : World} {b : Nat} {xs : List (List UInt8)} (h : Blk w b (strs xs) 9) (cap : Nat) : Txts w (.slice (some ⟨b, 0, none⟩) xs.length cap) xs := by
  refine .inr ⟨b, 0, cap, rfl, h.lt, fun j hj => ?_⟩
  rw [Nat.zero_add, h.cell]
  simp [strs, hj]
theorem Txts.row {w : World} {B : Nat} {v : Value} {xs : List (List UInt8)} (h : Row w B 9 1 v xs.length (strs xs)) : Txts w v xs := by
  by_cases h0 : xs.length = 0
  · obtain ⟨a, cap, rfl, -⟩ := h.shape
    rw [h0]
    exact .inl ⟨List.eq_nil_of_length_eq_zero h0, a, cap, rfl⟩
  · obtain ⟨g, cap, rfl, -, -, hlt, hc, -⟩ := h.form (by omega)
    refine .inr ⟨g, 0, cap, rfl, hlt, fun j hj => ?_⟩
    rw [Nat.zero_add, hc j (by omega)]
    simp [strs, hj]

def ptext (xs : List (List UInt8)) : List UInt8 := (xs.map escPart).flatten
theorem flatten_take_le (xs : List (List UInt8)) (k : Nat) : (xs.take k).flatten.length ≤ xs.flatten.length := by
  have h := congrArg List.length (congrArg List.flatten (List.take_append_drop k xs))
  rw [List.flatten_append, List.length_append] at h
  omega
theorem elem_le {xs : List (List UInt8)} {k : Nat} (h : k < xs.length) : xs[k].length ≤ xs.flatten.length := by
  have h1 := flatten_take_le xs (k + 1)
  rw [List.take_succ_eq_append_getElem h] at h1
  simp only [List.flatten_append, List.flatten_cons, List.flatten_nil, List.append_nil, List.length_append] at h1
  omega

end Go.Proofs.YthicgeiljficbaaDoor

/- Package pointer over lists of bytes: Parse. -/
namespace Go.Proofs.YthicgeiljficbaaDoor
open Go.RowKit
set_option linter.unusedSimpArgs false
set_option linter.unusedVariables false
set_option linter.unnecessarySimpa false

/-- the pieces between the first k bytes c -/
def spl (c : UInt8) : Nat → List UInt8 → List (List UInt8)
  | 0, l => [l]
  | k + 1, l => if l.contains c then bef c l :: spl c k (aft c l) else [l]

theorem splitB_spl (c : UInt8) : ∀ (k : Nat) (l : List UInt8), Lib.splitB ⟨#[c]⟩ 0 k (str l) = (spl c k l).map str
  | 0, l => rfl
  | k + 1, l => by
    have hI : Lib.indexB (str l) ⟨#[c]⟩ = Lib.indexByte l c := by
      show Lib.index (str l).data.toList [c] = _
      rw [str_data, index_one]
    by_cases h : l.contains c = true
    · have hi : Lib.indexB (str l) ⟨#[c]⟩ = ((bef c l).length : Nat) := by rw [hI, indexByte_eq, if_pos h]
      rw [Lib.splitB_hit _ _ _ _ _ hi, spl, if_pos h, List.map_cons]
      have e1 : (str l).extract 0 ((bef c l).length + 0) = str (bef c l) := by
        have := extract_bef c (str l)
        rw [str_data] at this
        exact this
      have e2 : (str l).extract ((bef c l).length + (⟨#[c]⟩ : ByteArray).size) (str l).size = str (aft c l) := by
        have := extract_aft c (str l)
        rw [str_data] at this
        exact this
      rw [e1, e2, splitB_spl c k (aft c l)]
    · have hi : Lib.indexB (str l) ⟨#[c]⟩ = -1 := by rw [hI, indexByte_eq, if_neg h]
      rw [Lib.splitB_miss _ _ _ _ hi, spl, if_neg h]
      rfl

theorem spl_length (c : UInt8) (l : List UInt8) : (spl c (l.count c) l).length = l.count c + 1 := by
  have h := Lib.splitB_all ⟨#[c]⟩ (Nat.le_refl 1) 0 (l.count c) (str l) (countB_one l c)
  rw [splitB_spl, List.length_map] at h
  exact h
theorem aft_le (c : UInt8) (l : List UInt8) : (aft c l).length + (bef c l).length ≤ l.length := by
  have h1 := congrArg List.length (drop_bef c l)
  have h2 := bef_le c l
  rw [List.length_drop] at h1
  omega
theorem spl_flat (c : UInt8) : ∀ (k : Nat) (l : List UInt8), (spl c k l).flatten.length ≤ l.length
  | 0, l => by simp [spl]
  | k + 1, l => by
    unfold spl
    split
    · have := spl_flat c k (aft c l)
      have h := aft_le c l
      simp only [List.flatten_cons, List.length_append]
      omega
    · simp

theorem replaceK_len (old new : List UInt8) : ∀ (k : Nat) (s : List UInt8), (Lib.replaceK old new k s).length ≤ s.length + k * new.length
  | 0, s => by simp [Lib.replaceK]
  | k + 1, s => by
    unfold Lib.replaceK
    split
    · omega
    · have ih := replaceK_len old new k (s.drop ((Lib.index s old).toNat + old.length))
      simp only [List.length_append, List.length_take, List.length_drop] at ih ⊢
      rw [Nat.add_mul]
      omega
theorem replaceAll_len (old new s : List UInt8) (h : new.length ≤ 1) : (Lib.replaceAll s old new).length ≤ 2 * s.length + 1 := by
  unfold Lib.replaceAll Lib.replace
  split
  · omega
  · have h1 := replaceK_len old new (Lib.replaceNum s old (-1)) s
    have h2 : Lib.replaceNum s old (-1) = Lib.count s old := by
      unfold Lib.replaceNum
      rw [if_pos (Or.inl (by decide))]
    have h3 := Lib.count_le s old
    rw [h2] at h1
    have h4 : Lib.count s old * new.length ≤ (s.length + 1) * 1 := Nat.mul_le_mul h3 h
    rw [h2]
    omega

theorem replace_two_l (l : List UInt8) (a b : UInt8) (new : List UInt8) (h2 : new.length ≤ 1) (hl : l.length ≤ 1073741824) (w : World) (he : Env w) :
    Calls Tryd.prog 36 #[.string (str l), .string ⟨#[a, b]⟩, .string ⟨new.toArray⟩] w (New (.string (str (Lib.replaceAll l [a, b] new))) w) := by
  obtain ⟨h0, m, hm⟩ := he
  have hcl := Lib.count_le l [a, b]
  have hc : Lib.countB (str l) ⟨#[a, b]⟩ = Lib.count l [a, b] := by
    show Lib.count (str l).data.toList [a, b] = _
    rw [str_data]
  have hmul : Lib.count l [a, b] * new.length ≤ (l.length + 1) * 1 := Nat.mul_le_mul hcl h2
  have hns : (⟨new.toArray⟩ : ByteArray).size = new.length := str_size new
  have := Tryd.strings_ReplaceAll (str l) ⟨#[a, b]⟩ ⟨new.toArray⟩ m w (by rw [str_size]; omega) hm (by show 1 ≤ 2; omega) (by rw [str_size, hc, hns]; omega)
  rw [str_data] at this
  exact this
theorem count_one_l (l : List UInt8) (c : UInt8) (w : World) : Calls Tryd.prog 37 #[.string (str l), .string ⟨#[c]⟩] w (Ans (.int .i64 (l.count c : Nat)) w) := by
  have := Tryd.strings_Count_one (str l) c w
  rw [str_data] at this
  exact this.mono fun _ _ h => ⟨h.1, h.2.symm⟩
theorem count_two_l (l : List UInt8) (a b : UInt8) (hl : l.length ≤ 1073741824) (w : World) (he : Env w) : Calls Tryd.prog 37 #[.string (str l), .string ⟨#[a, b]⟩] w (Ans (.int .i64 (Lib.count l [a, b] : Nat)) w) := by
  obtain ⟨h0, m, hm⟩ := he
  have := Tryd.strings_Count (str l) ⟨#[a, b]⟩ m w (by rw [str_size]; omega) hm (Nat.le_refl 2)
  have hc : Lib.countB (str l) ⟨#[a, b]⟩ = Lib.count l [a, b] := by
    show Lib.count (str l).data.toList [a, b] = _
    rw [str_data]
  rw [hc] at this
  exact this.mono fun _ _ h => ⟨h.1, h.2.symm⟩
theorem contains_l (l : List UInt8) (c : UInt8) (w : World) :
    Calls Tryd.prog 38 #[.string (str l), .string ⟨#[c]⟩] w (Ans (.bool (has c l)) w) := by
  have := Tryd.strings_Contains_one (str l) c w
  rw [str_data] at this
  have e : decide (0 ≤ Lib.indexByte l c) = has c l := by
    rw [indexByte_eq]
    unfold has
    cases h : l.contains c
    · rfl
    · simp
  rw [e] at this
  exact this.mono fun _ _ h => ⟨h.1, h.2.symm⟩

theorem split_l (l : List UInt8) (c : UInt8) (hl : l.length ≤ 1073741824) (w : World) (he : Env w) :
    Calls Tryd.prog 35 #[.string (str l), .string ⟨#[c]⟩] w fun e w' => e = .returned (.slice (some ⟨w.heap.size, 0, none⟩) (spl c (l.count c) l).length (spl c (l.count c) l).length) ∧
      Blk w' w.heap.size (strs (spl c (l.count c) l)) 9 ∧ Below w.heap.size w w' := by
  obtain ⟨h0, m, hm⟩ := he
  refine (Tryd.strings_Split (str l) ⟨#[c]⟩ m w (by rw [str_size]; omega) hm (Nat.le_refl 1)).mono ?_
  rintro e w' ⟨rfl, rfl⟩
  rw [countB_one, spl_length, splitB_spl]
  refine ⟨rfl, ?_, (Below.refl _ _).alloc (Nat.le_refl _) _⟩
  have e : ((spl c (l.count c) l).map str).map Value.string = strs (spl c (l.count c) l) := by simp [strs]
  rw [e]
  exact Blk.new w _ _

/-- one part as it is written: may it be, and what it is -/
def wBare (w : List UInt8) : List UInt8 := Lib.replaceAll (Lib.replaceAll w [126, 48] []) [126, 49] []
def wOk (w : List UInt8) : Bool := (w.count 126 == Lib.count w [126, 48] + Lib.count w [126, 49]) && !has 126 (wBare w)
def wVal (w : List UInt8) : List UInt8 := Lib.replaceAll (Lib.replaceAll w [126, 49] [47]) [126, 48] [126]
/-- pointer.Parse: the parts, or none -/
def parseP : List UInt8 → Option (List (List UInt8))
  | [] => some []
  | c :: t => if c = 47 then (if (spl 47 (t.count 47) t).all wOk then some ((spl 47 (t.count 47) t).map wVal) else none) else none

/-- where a slice's cells lie: from block B on -/
def TxB (B : Nat) (v : Value) : Prop := ∀ a n cap, v = .slice (some a) n cap → B ≤ a.block
def Parsed (o : Option (List (List UInt8))) (w : World) (e : Ending) (w' : World) : Prop := ∃ v, e = .returned (.tuple #[v, .int .i64 (if o.isSome then 0 else 70)]) ∧ Txts w' v (o.getD []) ∧ TxB w.heap.size v ∧ Below w.heap.size w w'
end Go.Proofs.YthicgeiljficbaaDoor

/- Package pointer over lists of bytes: the walk of Parse. -/
namespace Go.Proofs.YthicgeiljficbaaDoor
open Go.RowKit
set_option linter.unusedSimpArgs false
set_option linter.unusedVariables false
set_option linter.unnecessarySimpa false

theorem info_str : (Tryd.prog.info? 9).map (fun i => (i.zero, i.size, i.bytes)) = some (some (.string ⟨#[]⟩), 1, 16) := by kernel_rfl

def RepIs (l : List UInt8) (a b : UInt8) (new r : List UInt8) : Prop := ∀ w, Env w → Calls Tryd.prog 36 #[.string (str l), .string ⟨#[a, b]⟩, .string ⟨new.toArray⟩] w (New (.string (str r)) w)
def CntIs (l : List UInt8) (a b : UInt8) (n : Nat) : Prop := ∀ w, Env w → Calls Tryd.prog 37 #[.string (str l), .string ⟨#[a, b]⟩] w (Ans (.int .i64 (n : Nat)) w)
def Cnt1Is (l : List UInt8) (a : UInt8) (n : Nat) : Prop := ∀ w, Calls Tryd.prog 37 #[.string (str l), .string ⟨#[a]⟩] w (Ans (.int .i64 (n : Nat)) w)
def HasIs (l : List UInt8) (a : UInt8) (x : Bool) : Prop := ∀ w, Calls Tryd.prog 38 #[.string (str l), .string ⟨#[a]⟩] w (Ans (.bool x) w)

theorem parse_nil (w : World) : Calls Tryd.prog 19 #[.string (str [])] w (Parsed (parseP []) w) := by
  have hse : (str ([] : List UInt8)).toList.isEmpty = true := by rw [str_toList]; rfl
  have HP : Hid (∀ v, Txts w v [] → TxB w.heap.size v → Parsed (parseP []) w (.returned (.tuple #[v, .int .i64 0])) w) := fun v hv hq => ⟨v, rfl, hv, hq, Below.refl _ _⟩
  go_enter Tryd.func19, Tryd.ntmps19
  go_wp2_with fail
  go_ret2
  exact HP.out _ (.inl ⟨rfl, none, 0, rfl⟩) (fun _ _ _ h => by cases h)

theorem parse_no (c : UInt8) (t : List UInt8) (hc : ¬ c = 47) (w : World) : Calls Tryd.prog 19 #[.string (str (c :: t))] w (Parsed (parseP (c :: t)) w) := by
  have hse : (str (c :: t)).toList.isEmpty = false := by rw [str_toList]; rfl
  have hb : ((c.toNat : Int) != 47) = true := by
    have : ¬ ((c.toNat : Int) = 47) := by
      intro h0
      apply hc
      apply UInt8.toNat_inj.1
      show _ = 47
      omega
    simpa using this
  have hp : parseP (c :: t) = none := by rw [parseP, if_neg hc]
  have HP : Hid (∀ v, Txts w v [] → TxB w.heap.size v → Parsed (parseP (c :: t)) w (.returned (.tuple #[v, .int .i64 70])) w) := by
    intro v hv hq
    rw [hp]
    exact ⟨v, rfl, hv, hq, Below.refl _ _⟩
  clear hp hc
  go_enter Tryd.func19, Tryd.ntmps19
  go_wp2_with fail
  go_ret2
  exact HP.out _ (.inl ⟨rfl, none, 0, rfl⟩) (fun _ _ _ h => by cases h)

set_option maxRecDepth 100000 in
set_option maxHeartbeats 4000000 in
theorem parse_go (t : List UInt8) (hl : t.length ≤ 67108864) (w : World) (he : Env w) : Calls Tryd.prog 19 #[.string (str (47 :: t))] w (Parsed (parseP (47 :: t)) w) := by
  obtain ⟨i0, hi, hy0, hy1, hy2⟩ := info_parts info_str
  have hse : (str (47 :: t)).toList.isEmpty = false := by rw [str_toList]; rfl
  have HPY : Hid (∀ v w', (spl 47 (t.count 47) t).all wOk = true → Txts w' v ((spl 47 (t.count 47) t).map wVal) → TxB w.heap.size v → Below w.heap.size w w' → Parsed (parseP (47 :: t)) w (.returned (.tuple #[v, .int .i64 0])) w') := by
    intro v w' h hv hq hb
    have hp : parseP (47 :: t) = some ((spl 47 (t.count 47) t).map wVal) := by rw [parseP, if_pos rfl, if_pos h]
    rw [hp]
    exact ⟨v, rfl, hv, hq, hb⟩
  have HPN : Hid (∀ v w', (spl 47 (t.count 47) t).all wOk = false → Txts w' v [] → TxB w.heap.size v → Below w.heap.size w w' → Parsed (parseP (47 :: t)) w (.returned (.tuple #[v, .int .i64 70])) w') := by
    intro v w' h hv hq hb
    have hp : parseP (47 :: t) = none := by rw [parseP, if_pos rfl, if_neg (by rw [h]; decide)]
    rw [hp]
    exact ⟨v, rfl, hv, hq, hb⟩
  have hfl := spl_flat 47 (t.count 47) t
  have hln := spl_length 47 t
  have hcl := List.count_le_length (a := 47) (l := t)
  have HS := Lib.hid (fun W he => split_l t 47 (by omega) W he)
  generalize spl 47 (t.count 47) t = ws at *
  have hn : ws.length ≤ 67108865 := by omega
  clear hln hcl
  have HE := Lib.hid he
  have hez := he.1
  clear he
  generalize hpp : parseP (47 :: t) = pp at *
  clear hpp
  go_enter Tryd.func19, Tryd.ntmps19
  go_wp2_with fail
  refine (HS.out _ HE.out).mono ?_
  rintro e w1 ⟨rfl, hblk, hb1⟩
  have hlt1 := hblk.lt
  have HB1 := Lib.hid hb1
  have HK := Lib.hid hblk
  have HE1 := Lib.hid (HE.out.call hb1)
  clear hblk hb1
  go_wp2_with fail
  go_loopw [4, 6, 7, 17] (fun v _ _ i wr => ∃ k : Nat, k ≤ ws.length ∧ i = .int .i64 k ∧ Hid ((ws.take k).all wOk = true) ∧ Hid (Row wr (w.heap.size + 1) 9 1 v k (strs ((ws.take k).map wVal))) ∧ Hid (Below (w.heap.size + 1) w1 wr)) (fun _ _ _ i _ => ws.length - (intOf i).toNat)
  case atStart => exact ⟨0, Nat.zero_le _, rfl, rfl, Row.nil _ _ _ _, Below.refl _ _⟩
  case round =>
    obtain ⟨k, hk, rfl, hok, HR, HB⟩ := hrel
    by_cases hlt : k < ws.length
    · have HKr := Lib.hid (HK.out.below HB.out (by omega))
      have hcell : wr.cell? ⟨w.heap.size, k, none⟩ = some (.string (str ws[k])) := by
        rw [HKr.out.cell]
        simp [strs, hlt]
      have hle := elem_le hlt
      have HEr := Lib.hid (HE1.out.below HB.out (by omega))
      have hszr := HB.out.size
      have hnx : Hid (∀ j, j = k → (ws.take (j + 1)).all wOk = ((ws.take k).all wOk && wOk ws[k])) := by
        rintro j rfl
        rw [List.take_succ_eq_append_getElem hlt, List.all_append]
        simp only [List.all_cons, List.all_nil, Bool.and_true]
      have hnv : Hid (strs ((ws.take (k + 1)).map wVal) = strs ((ws.take k).map wVal) ++ [.string (str (wVal ws[k]))]) := by
        unfold Hid
        rw [List.take_succ_eq_append_getElem hlt, List.map_append, strs_append]
        rfl
      have hbad : Hid (wOk ws[k] = false → ws.all wOk = false) := by
        intro h
        rw [List.all_eq_false]
        exact ⟨ws[k], List.getElem_mem hlt, by rw [h]; decide⟩
      generalize ws[k] = x at *
      have hx : x.length ≤ 67108864 := by omega
      have R1 : RepIs x 126 48 [] (Lib.replaceAll x [126, 48] []) := fun W he => replace_two_l x 126 48 [] (by decide) (by omega) W he
      have l1 := replaceAll_len [126, 48] [] x (by decide)
      have R2 : RepIs (Lib.replaceAll x [126, 48] []) 126 49 [] (wBare x) := fun W he => replace_two_l _ 126 49 [] (by decide) (by omega) W he
      have N0 : Cnt1Is x 126 (x.count 126) := fun W => count_one_l x 126 W
      have N1 : CntIs x 126 48 (Lib.count x [126, 48]) := fun W he => count_two_l x 126 48 (by omega) W he
      have N2 : CntIs x 126 49 (Lib.count x [126, 49]) := fun W he => count_two_l x 126 49 (by omega) W he
      have HA : HasIs (wBare x) 126 (has 126 (wBare x)) := fun W => contains_l _ 126 W
      have R3 : RepIs x 126 49 [47] (Lib.replaceAll x [126, 49] [47]) := fun W he => replace_two_l x 126 49 [47] (by decide) (by omega) W he
      have l2 := replaceAll_len [126, 49] [47] x (by decide)
      have R4 : RepIs (Lib.replaceAll x [126, 49] [47]) 126 48 [126] (wVal x) := fun W he => replace_two_l _ 126 48 [126] (by decide) (by omega) W he
      have m0 := List.count_le_length (a := 126) (l := x)
      have m1 := Lib.count_le x [126, 48]
      have m2 := Lib.count_le x [126, 49]
      have hwok : Hid (wOk x = ((x.count 126 == Lib.count x [126, 48] + Lib.count x [126, 49]) && !has 126 (wBare x))) := rfl
      generalize has 126 (wBare x) = hb2 at *
      generalize wBare x = ba at *
      generalize Lib.replaceAll x [126, 48] [] = a1 at *
      generalize Lib.replaceAll x [126, 49] [47] = a2 at *
      generalize wVal x = va at *
      generalize x.count 126 = n0 at *
      generalize Lib.count x [126, 48] = n1 at *
      generalize Lib.count x [126, 49] = n2 at *
      clear l1 l2 hle
      go_wp2_with fail
      refine (R1 _ HEr.out).mono ?_
      rintro e w2 ⟨rfl, hb⟩
      have HB2 := Lib.hid (HB.out.trans (hb.mono (by omega)))
      have HR2 := Lib.hid (HR.out.call hb)
      have HE2 := Lib.hid (HEr.out.call hb)
      have hz2 := hb.size
      clear hb
      go_wp2_with fail
      refine (R2 _ HE2.out).mono ?_
      rintro e w3 ⟨rfl, hb⟩
      have HB3 := Lib.hid (HB2.out.trans (hb.mono (by omega)))
      have HR3 := Lib.hid (HR2.out.call hb)
      have HE3 := Lib.hid (HE2.out.call hb)
      have hz3 := hb.size
      clear hb
      go_wp2_with fail
      refine (N0 _).mono ?_
      rintro e w' ⟨rfl, rfl⟩
      go_wp2_with fail
      refine (N1 _ HE3.out).mono ?_
      rintro e w' ⟨rfl, rfl⟩
      go_wp2_with fail
      refine (N2 _ HE3.out).mono ?_
      rintro e w' ⟨rfl, rfl⟩
      go_wp2_with (go_at_call 38; refine (HA _).mono ?_; rintro e w' ⟨rfl, rfl⟩)
      · have hf : wOk x = false := by
          rw [hwok.out]
          simp_all
        go_ret2
        exact HPN.out _ _ (hbad.out hf) (.inl ⟨rfl, none, 0, rfl⟩) (fun _ _ _ h => by cases h) (HB1.out.trans (HB3.out.mono (by omega)))
      · have hf : wOk x = true := by
          have hcnt : n0 = n1 + n2 := by omega
          have hh : hb2 = false := by assumption
          rw [hwok.out, hcnt, hh]
          simp
        have hok2 := Lib.hid ((hnx.out k rfl).trans (by rw [hok.out, hf]))
        refine (R3 _ HE3.out).mono ?_
        rintro e w4 ⟨rfl, hb⟩
        have HB4 := Lib.hid (HB3.out.trans (hb.mono (by omega)))
        have HR4 := Lib.hid (HR3.out.call hb)
        have HE4 := Lib.hid (HE3.out.call hb)
        have hz4 := hb.size
        clear hb
        go_wp2_with fail
        refine (R4 _ HE4.out).mono ?_
        rintro e w5 ⟨rfl, hb⟩
        have HB5 := Lib.hid (HB4.out.trans (hb.mono (by omega)))
        have HR5 := Lib.hid (HR4.out.call hb)
        have hz5 := hb.size
        clear hb
        go_wp2_with (at_builtin; refine wpList_append_row _ rfl _ _ 26 rfl (w.heap.size + 1) 9 i0 (.string ⟨#[]⟩) 1 16 Tryd.underlying26 hi hy0 hy1 hy2 rfl _ _ _ rfl (HR5.out.alloc _) ⟨w5.heap.size, 0, none⟩ 1 1 [.string (str va)] rfl rfl ?c1 ?c2 (by decide) ?c3 ?c4 ?c5 ?c6)
        case c1 => exact cell_one_new _ _ _
        case c2 => intro u hu; simp at hu; subst hu; rfl
        case c3 => unfold maxLen; omega
        case c4 => omega
        case c5 => simp; omega
        case c6 =>
          intro v6 w6 hown hb
          have HR6 : Hid (Row w6 (w.heap.size + 1) 9 1 v6 (k + 1) (strs ((ws.take (k + 1)).map wVal))) := by
            unfold Hid
            rw [hnv.out, List.map_take]
            exact hown
          have HB6 := Lib.hid ((HB5.out.alloc (by omega) _).trans hb)
          clear hown hb
          go_wp2_with fail
          go_roundw
          case measure => simp only [intOf]; omega
          case rel => exact ⟨k + 1, by omega, by go_num, hok2.out, HR6.out, HB6.out⟩
      · have hf : wOk x = false := by
          have hcnt : ¬ n0 = n1 + n2 := by omega
          rw [hwok.out]
          simp [hcnt]
        go_ret2
        exact HPN.out _ _ (hbad.out hf) (.inl ⟨rfl, none, 0, rfl⟩) (fun _ _ _ h => by cases h) (HB1.out.trans (HB3.out.mono (by omega)))
    · obtain rfl : k = ws.length := by omega
      go_wp2_with fail
      go_ret2
      have h1 := hok.out
      have h2 := HR.out
      rw [List.take_length] at h1 h2
      refine HPY.out _ _ h1 (Txts.row (B := w.heap.size + 1) ?_) (fun a n cap ha => by obtain h | ⟨g, cap2, cur, hv, hg, -⟩ := h2.2; (· rw [h.1] at ha; cases ha); (· rw [hv] at ha; cases ha; show _ ≤ g; omega)) (HB1.out.trans (HB.out.mono (by omega)))
      rw [List.length_map]
      exact h2

theorem parse_l (l : List UInt8) (hl : l.length ≤ 67108864) (w : World) (he : Env w) : Calls Tryd.prog 19 #[.string (str l)] w (Parsed (parseP l) w) := by
  cases l with
  | nil => exact parse_nil w
  | cons c t =>
    by_cases hc : c = 47
    · subst hc
      exact parse_go t (by simp at hl; omega) w he
    · exact parse_no c t hc w
end Go.Proofs.YthicgeiljficbaaDoor

/- The reference's Texts: are two rows of texts the same? -/
namespace Go.Proofs.YthicgeiljficbaaDoor
open Go.RowKit
set_option linter.unusedSimpArgs false
set_option linter.unusedVariables false
set_option linter.unnecessarySimpa false

theorem Txts.form {w : World} {v : Value} {xs : List (List UInt8)} (h : Txts w v xs) :
    ∃ a cap, v = .slice a xs.length cap ∧ (0 < xs.length → ∃ b off, a = some ⟨b, off, none⟩ ∧ b < w.heap.size ∧ ∀ (j : Nat) (h : j < xs.length), w.cell? ⟨b, off + j, none⟩ = some (.string (str (xs[j]'h)))) := by
  rcases h with ⟨rfl, a, cap, rfl⟩ | ⟨b, off, cap, rfl, hlt, hc⟩
  · exact ⟨a, cap, rfl, fun h => absurd h (by simp)⟩
  · exact ⟨_, cap, rfl, fun _ => ⟨b, off, rfl, hlt, hc⟩⟩

theorem list_eq_of {xs ys : List (List UInt8)} (hl : xs.length = ys.length) (h : ∀ j (h1 : j < xs.length) (h2 : j < ys.length), xs[j] = ys[j]) : xs = ys := List.ext_getElem hl h

set_option maxRecDepth 100000 in
set_option maxHeartbeats 2000000 in
theorem texts_l (v1 v2 : Value) (xs ys : List (List UInt8)) (w : World) (h1 : Txts w v1 xs) (h2 : Txts w v2 ys) (hn : xs.length ≤ 1073741824) (hn2 : ys.length ≤ 1073741824) :
    Calls Tryd.prog 15 #[v1, v2] w (New (.bool (decide (xs = ys))) w) := by
  obtain ⟨a1, c1, rfl, hc1⟩ := h1.form
  obtain ⟨a2, c2, rfl, hc2⟩ := h2.form
  clear h1 h2
  by_cases hl : xs.length = ys.length
  · have HC1 := Lib.hid hc1
    have HC2 := Lib.hid hc2
    clear hc1 hc2
    have HL := Lib.hid hl
    have hne : (((ys.length : Nat) : Int) != ((ys.length : Nat) : Int)) = false := by simp
    generalize hd : decide (xs = ys) = d
    have HD := Lib.hid hd
    clear hd
    obtain ⟨n, hny⟩ : ∃ n, ys.length = n := ⟨_, rfl⟩
    rw [hl, hny]
    rw [hny] at hne hn2
    have HNY := Lib.hid hny
    clear hny hl hn
    go_enter Tryd.func15, Tryd.ntmps15
    go_wp2_with fail
    go_loopw [5] (fun i wr => ∃ k : Nat, k ≤ n ∧ i = .int .i64 k ∧ Hid (∀ j (h1 : j < xs.length) (h2 : j < ys.length), j < k → xs[j] = ys[j]) ∧ Hid (Below w.heap.size w wr)) (fun i _ => n - (intOf i).toNat)
    case atStart => exact ⟨0, Nat.zero_le _, rfl, fun j _ _ h => absurd h (Nat.not_lt_zero _), Below.refl _ _⟩
    case round =>
      obtain ⟨k, hk, rfl, HS, HB⟩ := hrel
      by_cases hlt : k < n
      · have hx : k < xs.length := by rw [HL.out, HNY.out]; exact hlt
        have hy : k < ys.length := by rw [HNY.out]; exact hlt
        obtain ⟨b1, o1, rfl, hb1, g1⟩ := HC1.out (by rw [HL.out, HNY.out]; omega)
        obtain ⟨b2, o2, rfl, hb2, g2⟩ := HC2.out (by rw [HNY.out]; omega)
        have q1 : wr.cell? ⟨b1, o1 + k, none⟩ = some (.string (str xs[k])) := by rw [HB.out.cell (p := ⟨b1, o1 + k, none⟩) hb1]; exact g1 k hx
        have q2 : wr.cell? ⟨b2, o2 + k, none⟩ = some (.string (str ys[k])) := by rw [HB.out.cell (p := ⟨b2, o2 + k, none⟩) hb2]; exact g2 k hy
        clear g1 g2
        have HX : Hid (xs[k] = ys[k] → ∀ j (h1 : j < xs.length) (h2 : j < ys.length), j < k + 1 → xs[j] = ys[j]) := by
          intro h j h1 h2 hj
          by_cases e : j = k
          · subst e; exact h
          · exact HS.out j h1 h2 (by omega)
        have HXN : Hid (xs[k] ≠ ys[k] → decide (xs = ys) = false) := by
          intro h
          apply decide_eq_false
          rintro rfl
          exact h rfl
        have e1 := str_toList xs[k]
        have e2 := str_toList ys[k]
        generalize xs[k] = x at *
        generalize ys[k] = y at *
        go_wp2_with fail
        go_region
        go_wp2_with fail
        · have hxy : (!x == y) = true := by assumption
          go_ret
          refine ⟨ret_bool (Eq.symm ?_), ?_⟩
          · rw [← HD.out]
            exact HXN.out (by simpa using hxy)
          · repeat (first | (with_reducible exact HB.out) | (with_reducible refine Below.drew ?_))
        · have hxy : (!x == y) = false := by assumption
          exact ⟨⟨k + 1, hlt, by simp, HX.out (by simpa using hxy), show Below _ _ _ from by repeat (first | (with_reducible exact HB.out) | (with_reducible refine Below.drew ?_))⟩, by simp [intOf]; omega⟩
      · obtain rfl : k = n := by omega
        go_wp2_with fail
        go_ret
        refine ⟨ret_bool (Eq.symm ?_), HB.out⟩
        rw [← HD.out]
        apply decide_eq_true
        exact list_eq_of HL.out (fun j h1 h2 => HS.out j h1 h2 (by rw [HNY.out] at h2; exact h2))
  · have hne : (((xs.length : Nat) : Int) != ((ys.length : Nat) : Int)) = true := by
      have : ¬ ((xs.length : Nat) : Int) = ((ys.length : Nat) : Int) := by omega
      simpa using this
    have hf : decide (xs = ys) = false := by
      apply decide_eq_false
      rintro rfl
      exact hl rfl
    rw [hf]
    clear hc1 hc2 hf
    revert hn hn2 hne
    generalize xs.length = n1
    generalize ys.length = n2
    clear hl
    intro hn hn2 hne
    go_enter Tryd.func15, Tryd.ntmps15
    go_wp2_with fail
    go_ret
    exact ⟨rfl, Below.refl _ _⟩
end Go.Proofs.YthicgeiljficbaaDoor

/- pointer.plain: does a byte stand for itself? -/
namespace Go.Proofs.YthicgeiljficbaaDoor
open Go.RowKit
set_option linter.unusedSimpArgs false
set_option linter.unusedVariables false
set_option linter.unnecessarySimpa false

def low (c : Int) : Int := bits BinOp.or IntKind.u8 c 32
end Go.Proofs.YthicgeiljficbaaDoor

/- strconv.ParseUint, base 16, 8 bits, at two bytes. -/
namespace Go.Proofs.YthicgeiljficbaaDoor
open Go.RowKit
set_option linter.unusedSimpArgs false
set_option linter.unusedVariables false
set_option linter.unnecessarySimpa false

/-- '[]byte(s)': a row of its own, whose cells are the bytes -/
theorem conv_bytes (s : ByteArray) (w : World) : ∃ cap W', (convert 9 51 (.string s)).run Tryd.prog w = .ok (.slice (some ⟨w.heap.size, 0, none⟩) s.size cap) W' ∧
    Below w.heap.size w W' ∧ w.heap.size < W'.heap.size ∧ ∀ j, j < s.size → W'.cell? ⟨w.heap.size, j, none⟩ = some (.int .u8 (s.data.toList.getD j 0).toNat) := by
  refine ⟨_, _, Lib.run_convert_string_bytes w 9 51 5 s Tryd.underlying9 Tryd.underlying51 Tryd.underlying5, ?_, ?_, ?_⟩
  · refine ⟨?_, ?_, ?_, ?_, fun k hk => Lib.bytesWorld_at_old w _ s k hk⟩
    · simp [Lib.bytesWorld, World.freeze, World.alloc, World.drew, -World.alloc_eq, -World.drew_eq]
    · simp [Lib.bytesWorld, World.freeze, World.alloc, World.drew, -World.alloc_eq, -World.drew_eq]
    · simp [Lib.bytesWorld, World.freeze, World.alloc, World.drew, -World.alloc_eq, -World.drew_eq]
    · rw [Lib.bytesWorld_size]; omega
  · rw [Lib.bytesWorld_size]; omega
  · exact fun j hj => Lib.bytesWorld_cell w _ s j hj

/-- the value of a hexadecimal digit -/
def hexV (c : UInt8) : Option Nat :=
  if 48 ≤ c.toNat ∧ c.toNat ≤ 57 then some (c.toNat - 48) else if 97 ≤ low c.toNat ∧ low c.toNat ≤ 102 then some ((low c.toNat).toNat - 87) else none
def hexN : Nat → List UInt8 → Option Nat
  | a, [] => some a
  | a, c :: l => match hexV c with
    | none => none
    | some d => hexN (a * 16 + d) l
theorem hexV_lt {c : UInt8} {d : Nat} (h : hexV c = some d) : d < 16 := by
  unfold hexV at h
  split at h
  · simp at h; omega
  · split at h
    · simp at h; omega
    · simp at h
/-- what the inner ParseUint answers -/
def hexRes : Option Nat → Value
  | some n => .tuple #[.int .u64 n, .nilIface]
  | none => .tuple #[.int .u64 0, .iface 103 (.int .i64 2)]

theorem low95 : low 95 = 127 := by decide
theorem lower_l (c : Int) (w : World) : Calls Tryd.prog 77 #[.int .u8 c] w (Ans (.int .u8 (low c)) w) :=
  (Tryd.internal_strconv_lower c w).mono fun _ _ h => ⟨h.1, h.2.symm⟩

set_option maxRecDepth 100000 in
set_option maxHeartbeats 4000000 in
theorem parse16_in (s : ByteArray) (hs : s.size = 2) (w : World) :
    Calls Tryd.prog 60 #[.string s, .int .i64 16, .int .i64 8] w (New (hexRes (hexN 0 s.data.toList)) w) := by
  obtain ⟨cap, W, hconv, hb, hlt, hc⟩ := conv_bytes s w
  have HC := Lib.hid hc
  have HB := Lib.hid hb
  clear hc hb hlt
  have hemp : s.toList.isEmpty = false := by
    rw [← decide_eq_emptyBytes]
    refine decide_eq_false (fun h => ?_)
    rw [h] at hs
    exact absurd hs (by decide)
  have hmv : IntKind.u64.wrap (IntKind.u64.wrap 256 - 1) = 255 := by
    rw [IntKind.wrap_u64, IntKind.wrap_u64]
    decide
  obtain ⟨bs, hL⟩ : ∃ bs, bs = s.data.toList := ⟨_, rfl⟩
  have hLn : bs.length = 2 := by rw [hL, ← Lib.size_eq]; exact hs
  rw [← hL] at HC ⊢
  clear hL
  rw [hs] at hconv
  have HS : Hid (s.size = 2) := hs
  clear hs
  go_enter Tryd.func60, Tryd.ntmps60
  go_wp2_with fail
  clear hconv
  go_loop [12, 13, 101] (fun vu vn vi => ∃ (k acc : Nat), vu = .bool false ∧ vn = .int .u64 acc ∧ vi = .int .i64 k ∧ k ≤ 2 ∧ acc ≤ 255 ∧ (k < 2 → acc ≤ 15) ∧ Hid (hexN 0 bs = hexN acc (bs.drop k) ∧ (k = 0 → acc = 0)))
    (fun _ _ vi => 2 - (intOf vi).toNat)
  case atStart => exact ⟨0, 0, rfl, rfl, rfl, by omega, by omega, by omega, rfl, fun _ => rfl⟩
  case round =>
    obtain ⟨k, acc, rfl, rfl, rfl, hk, hacc, hacc2, hh⟩ := hrel
    by_cases hlt : k < 2
    · have hcell := HC.out k (by rw [HS.out]; exact hlt)
      have hdrop : bs.drop k = bs.getD k 0 :: bs.drop (k + 1) := drop_two (by omega)
      generalize bs.getD k 0 = c at hcell hdrop
      have hc256 : c.toNat < 256 := c.toNat_lt
      have hacc3 : acc ≤ 15 := hacc2 hlt
      have hh1 := hh.out.1
      have HK : Hid (k = 0 → acc = 0) := hh.out.2
      rw [hdrop] at hh1
      clear hh hacc2 hdrop
      obtain ⟨a, ha⟩ : ∃ a : Int, a = (acc : Int) := ⟨_, rfl⟩
      have a0 : 0 ≤ a := by omega
      have a1 : a ≤ 15 := by omega
      rw [← ha]
      have HA := Lib.hid ha
      have HI := Lib.hid hacc3
      clear ha hacc hacc3
      by_cases hdig : 48 ≤ c.toNat ∧ c.toNat ≤ 57
      · have hv : hexV c = some (c.toNat - 48) := by simp [hexV, hdig]
        have HN : Hid (hexN 0 bs = hexN (acc * 16 + (c.toNat - 48)) (bs.drop (k + 1))) := Lib.hid (by rw [hh1]; simp [hexN, hv])
        obtain ⟨d0, d1⟩ := hdig
        clear hh1 hv
        go_wp2_with fail
        have ha := HA.out
        have hi := HI.out
        have hk0 := HK.out
        exact ⟨⟨k + 1, acc * 16 + (c.toNat - 48), rfl, (by congr 1; omega), (by congr 1), by omega, by omega, by omega, HN.out, by omega⟩, by simp [intOf]; omega⟩
      · by_cases hlet : 97 ≤ low c.toNat ∧ low c.toNat ≤ 102
        · have hv : hexV c = some ((low c.toNat).toNat - 87) := by simp [hexV, hdig, hlet]
          have HN : Hid (hexN 0 bs = hexN (acc * 16 + ((low c.toNat).toNat - 87)) (bs.drop (k + 1))) := Lib.hid (by rw [hh1]; simp [hexN, hv])
          obtain ⟨d0, d1⟩ := hlet
          clear hh1 hv
          have h95 : ¬ (c.toNat : Int) = 95 := by
            intro h
            rw [h, low95] at d1
            omega
          generalize hL : low c.toNat = L at *
          go_wp2_with (first | (go_at_call 77; refine (lower_l _ _).mono ?_; rintro e w' ⟨rfl, rfl⟩; rw [hL]))
          all_goals
            have ha := HA.out
            have hi := HI.out
            have hk0 := HK.out
            exact ⟨⟨k + 1, acc * 16 + (L.toNat - 87), rfl, (by congr 1; omega), (by congr 1), by omega, by omega, by omega, HN.out, by omega⟩, by simp [intOf]; omega⟩
        · have hv : hexV c = none := by unfold hexV; rw [if_neg hdig, if_neg hlet]
          have HN : hexN 0 bs = none := by rw [hh1]; simp [hexN, hv]
          rw [HN]
          clear hh1 hv HN
          have hv0 : 0 ≤ low c.toNat := bits_lo_u8 .or (c.toNat : Int) 32
          have hv1 : low c.toNat ≤ 255 := bits_hi_u8 .or (c.toNat : Int) 32
          have hl95 := low95
          generalize hL : low c.toNat = L at *
          go_wp2_with (first | (go_at_call 77; refine (lower_l _ _).mono ?_; rintro e w' ⟨rfl, rfl⟩; (first | rw [hL] | rw [hl95])))
          all_goals
            refine bodyPost_ret (v := hexRes none) (by simp [results, Tryd.results60, go_sem, hexRes]) rfl ⟨rfl, HB.out⟩
    · obtain rfl : k = 2 := by omega
      have hh1 : hexN 0 bs = some acc := by rw [hh.out.1, List.drop_eq_nil_of_le (by omega)]; rfl
      have HH := Lib.hid hh1
      clear hh hh1
      go_wp2_with fail
      refine bodyPost_ret (v := hexRes (some acc)) (by simp [results, Tryd.results60, go_sem, hexRes]) rfl ⟨by rw [HH.out], HB.out⟩

/-- strconv.ParseUint of two bytes: the number, or an error -/
def Hexed (o : Option Nat) (w : World) (e : Ending) (w' : World) : Prop :=
  Below w.heap.size w w' ∧ match o with
    | some n => e = .returned (.tuple #[.int .u64 n, .nilIface])
    | none => ∃ t p, e = .returned (.tuple #[.int .u64 0, .iface t p])

set_option maxHeartbeats 1000000 in
theorem parse16 (s : ByteArray) (hs : s.size = 2) (w : World) (ev : Value) (hv : w.cell? ⟨1, 0, none⟩ = some ev) (hev : ev = .nilIface ∨ ∃ te pe, ev = .iface te pe) :
    Calls Tryd.prog 42 #[.string s, .int .i64 16, .int .i64 8] w (Hexed (hexN 0 s.data.toList) w) := by
  have hI := parse16_in s hs w
  generalize hexN 0 s.data.toList = o at *
  cases o with
  | some n =>
    have hI : Calls Tryd.prog 60 #[.string s, .int .i64 16, .int .i64 8] w (New (.tuple #[.int .u64 n, .nilIface]) w) := hI
    go_enter Tryd.func42, Tryd.ntmps42
    go_wp2_with (go_at_call 60; refine hI.mono ?_; rintro e W1 ⟨rfl, hW⟩)
    go_wp2
    go_ret2
    exact ⟨hW, rfl⟩
  | none =>
    have hI : Calls Tryd.prog 60 #[.string s, .int .i64 16, .int .i64 8] w (New (.tuple #[.int .u64 0, .iface 103 (.int .i64 2)]) w) := hI
    have hG : 1 < w.heap.size := Lib.lt_of_cell hv
    go_enter Tryd.func42, Tryd.ntmps42
    go_wp2_with (go_at_call 60; refine hI.mono ?_; rintro e W1 ⟨rfl, hW⟩)
    have hv1 : W1.cell? ⟨1, 0, none⟩ = some ev := (hW.cell (show (⟨1, 0, none⟩ : Addr).block < w.heap.size from hG)).trans hv
    go_wp2_with (go_at_call 61; refine (Tryd.strconv_toError_syntax ⟨#[80, 97, 114, 115, 101, 85, 105, 110, 116]⟩ s 16 8 ev _ (by omega) hv1 hev).mono ?_; rintro e W2 ⟨N, rfl, h1, h2, h3⟩)
    go_wp2
    go_ret2
    exact ⟨hW.trans (h3.mono hW.size), _, _, rfl⟩
end Go.Proofs.YthicgeiljficbaaDoor

/- utf.goes, utf.Good: is it valid UTF-8? -/
namespace Go.Proofs.YthicgeiljficbaaDoor
open Go.RowKit
set_option linter.unusedSimpArgs false
set_option linter.unusedVariables false
set_option linter.unnecessarySimpa false

/-- how many bytes go on behind a first one, and between which the next one must be -/
def goesV (c : Int) : Int × Int × Int :=
  if c < 128 then (0, 0, 0) else if c < 194 then (-1, 0, 0) else if 244 < c then (-1, 0, 0) else if c < 224 then (1, 128, 191) else if c = 224 then (2, 160, 191)
  else if c = 237 then (2, 128, 159) else if c < 240 then (2, 128, 191) else if c = 240 then (3, 144, 191) else if c = 244 then (3, 128, 143) else (3, 128, 191)
def tri (x : Int × Int × Int) : Value := .tuple #[.int .i64 x.1, .int .u8 x.2.1, .int .u8 x.2.2]

set_option maxHeartbeats 1000000 in
theorem goes_l (c : Int) (w : World) : Calls Tryd.prog 62 #[.int .u8 c] w (Ans (tri (goesV c)) w) := by
  go_enter Tryd.func62, Tryd.ntmps62
  go_wp2
  all_goals refine bodyPost_ret (v := tri (goesV c)) ?_ rfl ⟨rfl, rfl⟩
  all_goals simp only [Bool.or_eq_true, Bool.or_eq_false_iff, decide_eq_true_eq, decide_eq_false_iff_not, beq_iff_eq, beq_eq_false_iff_ne, ne_eq] at *
  all_goals unfold goesV
  all_goals ((repeat' split) <;> first | (exfalso; omega) | (simp [results, Tryd.results62, go_sem, tri]; done) | (exfalso; simp_all; done) | (exfalso; simp_all; omega))

theorem goesV_range (c : Int) : -1 ≤ (goesV c).1 ∧ (goesV c).1 ≤ 3 ∧ 0 ≤ (goesV c).2.1 ∧ (goesV c).2.1 ≤ 255 ∧ 0 ≤ (goesV c).2.2 ∧ (goesV c).2.2 ≤ 255 := by
  unfold goesV
  repeat' split
  all_goals simp

/-- a slice that reads as these bytes -/
def Byts (w : World) (v : Value) (l : List UInt8) : Prop :=
  ∃ a cap, v = .slice a l.length cap ∧ (0 < l.length → ∃ b off, a = some ⟨b, off, none⟩ ∧ b < w.heap.size ∧ ∀ j, j < l.length → w.cell? ⟨b, off + j, none⟩ = some (.int .u8 (l.getD j 0).toNat))
theorem Byts.call {w w' : World} {v : Value} {l : List UInt8} (h : Byts w v l) (hb : Below w.heap.size w w') : Byts w' v l := by
  obtain ⟨a, cap, rfl, h⟩ := h
  refine ⟨a, cap, rfl, fun hl => ?_⟩
  obtain ⟨b, off, rfl, hlt, hc⟩ := h hl
  exact ⟨b, off, rfl, Nat.lt_of_lt_of_le hlt hb.size, fun j hj => (hb.cell (p := ⟨b, off + j, none⟩) hlt).trans (hc j hj)⟩

/-- is it valid, where so many bytes are to go on, the next between these? -/
def utfM : Int → Int → Int → List UInt8 → Bool
  | left, _, _, [] => left == 0
  | left, lo, hi, c :: l => if left = 0 then (if (goesV c.toNat).1 < 0 then false else utfM (goesV c.toNat).1 (goesV c.toNat).2.1 (goesV c.toNat).2.2 l)
    else if (c.toNat : Int) < lo then false else if hi < (c.toNat : Int) then false else utfM (left - 1) 128 191 l
def utfB (l : List UInt8) : Bool := utfM 0 128 191 l
def Gooded (b : Bool) (w : World) (e : Ending) (w' : World) : Prop := w = w' ∧ ∃ n, e = .returned (.tuple #[.int .i64 n, .bool b])

set_option maxHeartbeats 2000000 in
set_option maxRecDepth 100000 in
theorem good_l (v : Value) (l : List UInt8) (w : World) (hv : Byts w v l) (hl : l.length ≤ 281474976710656) : Calls Tryd.prog 43 #[v] w (Gooded (utfB l) w) := by
  obtain ⟨a, cap, rfl, hc⟩ := hv
  obtain ⟨n, hn⟩ : ∃ n, l.length = n := ⟨_, rfl⟩
  have HC := Lib.hid hc
  rw [hn] at hl ⊢
  have HN := Lib.hid hn
  clear hc hn
  go_enter Tryd.func43, Tryd.ntmps43
  go_wp2_with fail
  go_loop [4, 5, 6, 11] (fun vl v5 v6 vi => ∃ (k : Nat) (left lo hi : Int), vl = .int .i64 left ∧ v5 = .int .u8 lo ∧ v6 = .int .u8 hi ∧ vi = .int .i64 k ∧ k ≤ n ∧ 0 ≤ left ∧ left ≤ 3 ∧ 0 ≤ lo ∧ lo ≤ 255 ∧ 0 ≤ hi ∧ hi ≤ 255 ∧ Hid (utfB l = utfM left lo hi (l.drop k)))
    (fun _ _ _ vi => n - (intOf vi).toNat)
  case atStart => exact ⟨0, 0, 128, 191, rfl, rfl, rfl, rfl, by omega, by omega, by omega, by omega, by omega, by omega, by omega, rfl⟩
  case round =>
    obtain ⟨k, left, lo, hi, rfl, rfl, rfl, rfl, hk, h0, h3, l0, l1, i0, i1, HH⟩ := hrel
    by_cases hlt : k < n
    · obtain ⟨b, off, rfl, hb, hc⟩ := HC.out (by rw [HN.out]; omega)
      have hcell := hc k (by rw [HN.out]; omega)
      have hdrop : l.drop k = l.getD k 0 :: l.drop (k + 1) := drop_two (by rw [HN.out]; omega)
      have hh := HH.out
      rw [hdrop] at hh
      generalize l.getD k 0 = c at *
      clear hc hdrop HH
      have hc256 : c.toNat < 256 := c.toNat_lt
      by_cases hz : left = 0
      · subst hz
        obtain ⟨r0, r1, r2, r3, r4, r5⟩ := goesV_range c.toNat
        have hg := goes_l c.toNat
        have hh1 : Hid (utfB l = if (goesV c.toNat).1 < 0 then false else utfM (goesV c.toNat).1 (goesV c.toNat).2.1 (goesV c.toNat).2.2 (l.drop (k + 1))) := by rw [hh]; rfl
        clear hh
        generalize goesV c.toNat = g at *
        obtain ⟨g1, g2, g3⟩ := g
        have hg : ∀ w, Calls Tryd.prog 62 #[.int .u8 c.toNat] w (Ans (.tuple #[.int .i64 g1, .int .u8 g2, .int .u8 g3]) w) := hg
        simp only at r0 r1 r2 r3 r4 r5 hh1
        by_cases hneg : g1 < 0
        · have hh2 : Hid (utfB l = false) := by have := hh1.out; rw [if_pos hneg] at this; exact this
          clear hh1
          go_wp2_with (first | (go_at_call 62; refine (hg _).mono ?_; rintro e w' ⟨rfl, rfl⟩))
          refine bodyPost_ret (v := .tuple #[.int .i64 k, .bool false]) (by simp [results, Tryd.results43, go_sem]) rfl ⟨rfl, _, by rw [hh2.out]⟩
        · have hh2 : Hid (utfB l = utfM g1 g2 g3 (l.drop (k + 1))) := by have := hh1.out; rw [if_neg hneg] at this; exact this
          clear hh1
          go_wp2_with (first | (go_at_call 62; refine (hg _).mono ?_; rintro e w' ⟨rfl, rfl⟩))
          exact ⟨⟨k + 1, g1, g2, g3, rfl, rfl, rfl, by congr 1, by omega, by omega, by omega, by omega, by omega, by omega, by omega, hh2.out⟩, by simp [intOf]; omega⟩
      · have hh1 : Hid (utfB l = if (c.toNat : Int) < lo then false else if hi < (c.toNat : Int) then false else utfM (left - 1) 128 191 (l.drop (k + 1))) := Lib.hid (by rw [hh]; simp [utfM, hz])
        clear hh
        by_cases hlo : (c.toNat : Int) < lo
        · have hh2 : Hid (utfB l = false) := by have := hh1.out; rw [if_pos hlo] at this; exact this
          clear hh1
          go_wp2_with fail
          refine bodyPost_ret (v := .tuple #[.int .i64 k, .bool false]) (by simp [results, Tryd.results43, go_sem]) rfl ⟨rfl, _, by rw [hh2.out]⟩
        · by_cases hhi : hi < (c.toNat : Int)
          · have hh2 : Hid (utfB l = false) := by have := hh1.out; rw [if_neg hlo, if_pos hhi] at this; exact this
            clear hh1
            go_wp2_with fail
            refine bodyPost_ret (v := .tuple #[.int .i64 k, .bool false]) (by simp [results, Tryd.results43, go_sem]) rfl ⟨rfl, _, by rw [hh2.out]⟩
          · have hh2 : Hid (utfB l = utfM (left - 1) 128 191 (l.drop (k + 1))) := by have := hh1.out; rw [if_neg hlo, if_neg hhi] at this; exact this
            clear hh1
            go_wp2_with fail
            exact ⟨⟨k + 1, left - 1, 128, 191, rfl, rfl, rfl, by congr 1, by omega, by omega, by omega, by omega, by omega, by omega, by omega, hh2.out⟩, by simp [intOf]; omega⟩
    · obtain rfl : k = n := by omega
      have hh : utfB l = (left == 0) := by rw [HH.out, List.drop_eq_nil_of_le (by rw [HN.out]; omega)]; rfl
      have HE := Lib.hid hh
      clear hh HH
      go_wp2_with fail
      refine bodyPost_ret (v := .tuple #[.int .i64 k, .bool (left == 0)]) (by simp [results, Tryd.results43, go_sem]) rfl ⟨rfl, _, by rw [HE.out]⟩
end Go.Proofs.YthicgeiljficbaaDoor

