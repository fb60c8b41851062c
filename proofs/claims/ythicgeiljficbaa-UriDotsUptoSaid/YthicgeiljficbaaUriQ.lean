/- The walk of the statement UriAbsolute. -/
import Derived.Test.YthicgeiljficbaaUriP
namespace Go.Proofs.Ythicgeiljficbaa
open Go.RowKit
set_option linter.unusedSimpArgs false
set_option linter.unusedVariables false
set_option linter.unnecessarySimpa false

def JoinIs (b l t : List UInt8) (e : Int) : Prop := ∀ w, Calls Try.prog 6 #[.string (str b), .string (str l)] w (New (.tuple #[.string (str t), .int .i64 e]) w)
def DotsIs (p t : List UInt8) : Prop := ∀ w, Calls Try.prog 9 #[.string (str p)] w (New (.string (str t)) w)
def HeadsAre : Prop := ∀ w, Calls Try.prog 7 #[] w (New (.bool true) w)

set_option maxRecDepth 100000 in
set_option maxHeartbeats 2000000 in
theorem absolute_err (b l : List UInt8) (e1 : Int) (J : JoinIs b l [] e1) (he : e1 ≠ 0) (H : HeadsAre) (w : World) :
    Calls Try.prog 3 #[.string (str b), .string (str l)] w (New (.bool true) w) := by
  have he1 : (e1 != 0) = true := by simpa using he
  have hse : (str ([] : List UInt8)).toList.isEmpty = true := by rw [str_toList]; rfl
  clear he
  go_enter Try.func3, Try.ntmps3
  go_wp2_with fail
  refine (J _).mono ?_
  rintro e w1 ⟨rfl, hb⟩
  have HB := Lib.hid hb
  have hz := hb.size
  clear hb
  go_wp2_with fail
  refine (H _).mono ?_
  rintro e w2 ⟨rfl, hb⟩
  have HB2 := Lib.hid (RowKit.Below.call HB.out hb hz)
  clear hb
  go_wp2_with fail
  go_ret
  exact ⟨rfl, HB2.out⟩

set_option maxRecDepth 100000 in
set_option maxHeartbeats 2000000 in
theorem absolute_ok (b l t o p : List UInt8) (s a pa q f : List UInt8) (ha hq hf : Bool) (e1 : Int) (J : JoinIs b l t 0) (ht : 0 < t.length) (J2 : JoinIs b [] b 0) (J3 : JoinIs [120, 58, 47, 121] b o 0)
    (P : ParseIs b ⟨s, a, pa, q, f, ha, hq, hf⟩ e1) (D : DotsIs pa p) (A : AbsIs b true) (T : TextIs ⟨s, a, p, q, f, ha, hq, hf⟩ o) (H : HeadsAre) (w : World) :
    Calls Try.prog 3 #[.string (str b), .string (str l)] w (New (.bool true) w) := by
  unfold ParseIs uval at P
  unfold TextIs uval at T
  dsimp only at P T
  have HP := Lib.hid P
  have HT := Lib.hid T
  clear P T
  go_enter Try.func3, Try.ntmps3
  go_wp2_with fail
  refine (J _).mono ?_
  rintro e w1 ⟨rfl, hb⟩
  have HB := Lib.hid hb
  have hz := hb.size
  clear hb
  go_wp2_with fail
  refine (J2 _).mono ?_
  rintro e w2 ⟨rfl, hb⟩
  have B2 := RowKit.Below.call HB.out hb hz
  clear hz HB hb
  have hz := B2.size
  have HB := Lib.hid B2
  clear B2
  go_wp2_with fail
  refine (J3 _).mono ?_
  rintro e w3 ⟨rfl, hb⟩
  have B3 := RowKit.Below.call HB.out hb hz
  clear hz HB hb
  have hz := B3.size
  have HB := Lib.hid B3
  clear B3
  go_wp2_with fail
  refine (HP.out _).mono ?_
  rintro e w4 ⟨rfl, hb⟩
  have B4 := RowKit.Below.call HB.out hb hz
  clear hz HB hb
  have hz := B4.size
  have HB := Lib.hid B4
  clear B4
  go_wp2_with fail
  refine (D _).mono ?_
  rintro e w5 ⟨rfl, hb⟩
  have V := (Blk.new w4 [.string (str s), .string (str a), .string (str pa), .string (str q), .string (str f), .bool ha, .bool hq, .bool hf] 27).call hb
  have B5 := RowKit.Below.call (HB.out.alloc hz _) hb (by simp; omega)
  clear HB hb
  have vc := V.cell; have vf := V.froz
  have hzv := V.lt
  have HV := Lib.hid V
  have HB := Lib.hid B5
  clear B5 V
  go_wp2_with fail
  refine (A _).mono ?_
  rintro e w6 ⟨rfl, hb⟩
  have V := (HV.out.set 2 (.string (str p))).call hb
  have B6 := RowKit.Below.call (HB.out.setCell (p := ⟨w4.heap.size, 2, none⟩) hz _) hb (by simp; omega)
  simp only [List.set] at V
  clear HB hb vc vf HV hzv
  have vc := V.cell
  have hzv := V.lt
  have HB := Lib.hid B6
  clear B6 V
  go_wp2_with fail
  refine (HT.out _).mono ?_
  rintro e w7 ⟨rfl, hb⟩
  have B7 := RowKit.Below.call HB.out hb (by omega)
  clear HB vc
  have hz7 := hb.size
  clear hb
  have HB := Lib.hid B7
  clear B7
  go_wp2_with fail
  refine (H _).mono ?_
  rintro e w8 ⟨rfl, hb⟩
  have HB8 := Lib.hid (RowKit.Below.call HB.out hb (by omega))
  clear hb
  go_wp2_with fail
  go_ret
  exact ⟨rfl, HB8.out⟩

theorem join_is (b l : List UInt8) (hb : b.length ≤ 134217728) (hl : l.length ≤ 134217728) : JoinIs b l (joinL b l).1 (joinL b l).2 := fun w => join_any b l hb hl w

theorem uriAbsolute_any (b l : List UInt8) (hb : b.length ≤ 1048576) (hl : l.length ≤ 1048576) (w : World) :
    Calls Try.prog 3 #[.string (str b), .string (str l)] w (New (.bool true) w) := by
  have H : HeadsAre := fun w => heads_any w
  have J := join_is b l (by omega) (by omega)
  by_cases he : (joinL b l).2 = 0
  · obtain ⟨ha, -, -⟩ := join_ok he
    have hne := join_ne he
    have J2 := join_is b [] (by omega) (by simp)
    have J3 := join_is [120, 58, 47, 121] b (by simp) (by omega)
    rw [join_empty_ref ha] at J2
    rw [join_abs ha] at J3
    rw [he] at J
    have P := parse_is b (by omega)
    rw [(absL_yes ha).1] at P
    have A : AbsIs b true := by
      intro w
      have := abs_any b (by omega) w
      rw [ha] at this
      exact this
    have hlen := cutU_le b
    have hd := dotsL_len (cutU b).path
    have D : DotsIs (cutU b).path (dotsL (cutU b).path) := fun w => dots_any _ (by omega) w
    have T : TextIs (withPath (cutU b) (dotsL (cutU b).path)) (textU (withPath (cutU b) (dotsL (cutU b).path))) := by
      intro w
      refine text_any _ ?_ w
      obtain ⟨a1, a2, a3, a4, a5⟩ := hlen
      exact ⟨by show (cutU b).sch.length ≤ _; omega, by show (cutU b).auth.length ≤ _; omega, by show (dotsL (cutU b).path).length ≤ _; omega, by show (cutU b).qry.length ≤ _; omega, by show (cutU b).frag.length ≤ _; omega⟩
    generalize textU (withPath (cutU b) (dotsL (cutU b).path)) = o at *
    generalize dotsL (cutU b).path = p at *
    generalize cutU b = u at *
    obtain ⟨s, a, pa, q, f, ha2, hq, hf⟩ := u
    exact absolute_ok b l _ o p s a pa q f ha2 hq hf 0 J (List.length_pos_iff.2 hne) J2 J3 P D A T H w
  · rw [join_err he] at J
    exact absolute_err b l _ J he H w
end Go.Proofs.Ythicgeiljficbaa
