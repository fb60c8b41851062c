/- The walk of the statement UriBack. -/
import Derived.Test.YthicgeiljficbaaUriQ
import Derived.LaidEql
namespace Go.Proofs.Ythicgeiljficbaa
open Go.RowKit
set_option linter.unusedSimpArgs false
set_option linter.unusedVariables false
set_option linter.unnecessarySimpa false

set_option maxRecDepth 100000 in
set_option maxHeartbeats 2000000 in
theorem back_err (l : List UInt8) (P : ParseIs l uzero 80) (H : HeadsAre) (w : World) :
    Calls Try.prog 5 #[.string (str l)] w (New (.bool true) w) := by
  unfold ParseIs uval uzero at P
  have HP := Lib.hid P
  clear P
  have hnil : (str ([] : List UInt8)).toList = [] := str_toList []
  go_enter Try.func5, Try.ntmps5
  go_wp2_with fail
  refine (HP.out _).mono ?_
  rintro e w1 ⟨rfl, hb⟩
  have HB := Lib.hid hb
  have hz := hb.size
  clear hb
  go_wp2_with fail
  refine (H _).mono ?_
  rintro e w2 ⟨rfl, hb⟩
  have HB2 := Lib.hid (RowKit.Below.call (HB.out.alloc hz _) hb (by simp; omega))
  clear hb
  go_wp2_with fail
  go_ret
  exact ⟨rfl, HB2.out⟩

def BareIs (l a b : List UInt8) : Prop := ∀ w, Calls Try.prog 12 #[.string (str l)] w (New (.tuple #[.string (str a), .string (str b)]) w)

set_option maxRecDepth 100000 in
set_option maxHeartbeats 4000000 in
theorem back_ok (l b1 b2 : List UInt8) (s a pa q f : List UInt8) (ha hq hf : Bool) (P : ParseIs l ⟨s, a, pa, q, f, ha, hq, hf⟩ 0) (T : TextIs ⟨s, a, pa, q, f, ha, hq, hf⟩ l) (B : BareIs l b1 b2) (T2 : TextIs ⟨s, a, pa, q, [], ha, hq, false⟩ b1)
    (H : HeadsAre) (w : World) :
    Calls Try.prog 5 #[.string (str l)] w (New (.bool true) w) := by
  unfold ParseIs uval at P
  unfold TextIs uval at T T2
  dsimp only at P T T2
  have HP := Lib.hid P
  have HT := Lib.hid T
  have HT2 := Lib.hid T2
  clear P T T2
  go_enter Try.func5, Try.ntmps5
  go_wp2_with fail
  refine (HP.out _).mono ?_
  rintro e w1 ⟨rfl, hb⟩
  have HB := Lib.hid hb
  have hz := hb.size
  clear hb
  go_wp2_with fail
  refine (HT.out _).mono ?_
  rintro e w2 ⟨rfl, hb⟩
  have V := (Blk.new w1 [.string (str s), .string (str a), .string (str pa), .string (str q), .string (str f), .bool ha, .bool hq, .bool hf] 27).call hb
  have B2 := RowKit.Below.call (HB.out.alloc hz _) hb (by simp; omega)
  clear HB hb
  have vc := V.cell
  have hzv := V.lt
  have HV := Lib.hid V
  have HB := Lib.hid B2
  clear B2 V
  go_wp2_with fail
  refine (HP.out _).mono ?_
  rintro e w3 ⟨rfl, hb⟩
  have V := HV.out.call hb
  have B3 := RowKit.Below.call HB.out hb (by omega)
  clear HB hb vc HV hzv
  have vc := V.cell
  have hzv := V.lt
  have HV := Lib.hid V
  have HB := Lib.hid B3
  clear B3 V
  go_wp2_with fail
  refine (B _).mono ?_
  rintro e w4 ⟨rfl, hb⟩
  have V := (HV.out.alloc _).call hb
  have V2 := (Blk.new w3 [.string (str s), .string (str a), .string (str pa), .string (str q), .string (str f), .bool ha, .bool hq, .bool hf] 27).call hb
  have B4 := RowKit.Below.call (HB.out.alloc (by omega) _) hb (by simp; omega)
  clear HB hb vc HV hzv
  have vc := V.cell; have vc2 := V2.cell
  have hzv := V.lt; have hzv2 := V2.lt
  have HV := Lib.hid V; have HV2 := Lib.hid V2
  have HB := Lib.hid B4
  clear B4 V V2
  go_wp2_with fail
  refine (HT2.out _).mono ?_
  rintro e w5 ⟨rfl, hb⟩
  have B5 := Lib.hid hb
  have B6 := RowKit.Below.call (HB.out.alloc (by omega) _) hb (by simp; omega)
  have hz5 := hb.size
  clear hb HB
  have HB := Lib.hid B6
  clear B6 vc vc2
  go_wp2_with fail
  refine (H _).mono ?_
  rintro e w8 ⟨rfl, hb⟩
  have HB8 := Lib.hid (RowKit.Below.call HB.out hb (by simp at hz5; omega))
  clear hb
  go_wp2_with fail
  go_ret
  exact ⟨rfl, HB8.out⟩

/-- without its fragment a reference's text is what stands ahead of the '#' -/
theorem text_bare (l : List UInt8) : textU ⟨(cutU l).sch, (cutU l).auth, (cutU l).path, (cutU l).qry, [], (cutU l).ha, (cutU l).hq, false⟩ = bef 35 l := by
  have h2 := split_at 63 (bef 35 l)
  have h3 := split_scheme (bef 63 (bef 35 l))
  have h4 := split_auth (noScheme (bef 63 (bef 35 l)))
  unfold textU cutU
  dsimp only
  rw [List.append_assoc (puts _ _) (puts _ _) (thePath _), h4, h3, h2]
  simp [puts]

theorem uriBack_any (l : List UInt8) (hl : l.length ≤ 1048576) (w : World) :
    Calls Try.prog 5 #[.string (str l)] w (New (.bool true) w) := by
  have H : HeadsAre := fun w => heads_any w
  have P := parse_is l (by omega)
  by_cases hp : parseOk (cutU l) = true
  · have e : parseL l = (cutU l, 0) := by rw [parseL, if_pos hp]
    rw [e] at P
    have B : BareIs l (bef 35 l) (aft 35 l) := fun w => bare_any l (by omega) w
    obtain ⟨a1, a2, a3, a4, a5⟩ := cutU_le l
    have T : TextIs (cutU l) l := by
      intro w
      have := text_any (cutU l) ⟨by omega, by omega, by omega, by omega, by omega⟩ w
      rw [text_cut] at this
      exact this
    have T2 : TextIs ⟨(cutU l).sch, (cutU l).auth, (cutU l).path, (cutU l).qry, [], (cutU l).ha, (cutU l).hq, false⟩ (bef 35 l) := by
      intro w
      have := text_any ⟨(cutU l).sch, (cutU l).auth, (cutU l).path, (cutU l).qry, [], (cutU l).ha, (cutU l).hq, false⟩ ⟨by dsimp only; omega, by dsimp only; omega, by dsimp only; omega, by dsimp only; omega, by simp⟩ w
      rw [text_bare] at this
      exact this
    generalize cutU l = u at *
    obtain ⟨s, a, pa, q, f, ha, hq, hf⟩ := u
    exact back_ok l _ _ s a pa q f ha hq hf P T B T2 H w
  · have e : parseL l = (uzero, 80) := by rw [parseL, if_neg hp]
    rw [e] at P
    exact back_err l P H w
end Go.Proofs.Ythicgeiljficbaa
