/- Package uri over lists of bytes: Absolute, Bare, Join. -/
import Derived.Test.YthicgeiljficbaaUriK
namespace Go.Proofs.Ythicgeiljficbaa
open Go.RowKit
set_option linter.unusedSimpArgs false
set_option linter.unusedVariables false
set_option linter.unnecessarySimpa false

theorem dotsStep_len (p : List UInt8) (out : List (List UInt8)) (h : p ≠ []) : (dotsStep p out).2.flatten.length + (dotsStep p out).1.length ≤ out.flatten.length + p.length := by
  have hd := dropLast_flat out
  rcases dots_way p out with ⟨h, e⟩ | ⟨h, e⟩ | ⟨c1, c2, c3, hl, e⟩ | ⟨c1, c2, c3, c4, hl, e⟩ | ⟨h, e⟩ | ⟨c1, c2, c3, c4, c5, c6, hl, e⟩ | ⟨h, e⟩ | ⟨c1, c2, c3, c4, c5, c6, c7, c8, hl, hk, e⟩ | ⟨c1, c2, c3, c4, c5, c6, c7, c8, e⟩
  all_goals rw [e]
  · simp
  · simp
  · simp only [List.length_drop]; omega
  · simp only [List.length_drop]; omega
  · subst h; simp
  · simp only [List.length_drop]; omega
  · subst h; simp only [List.length_cons, List.length_nil]; omega
  · simp only [List.length_cons]; omega
  · have := segLen_le p h
    simp only [List.flatten_append, List.flatten_cons, List.flatten_nil, List.append_nil, List.length_append, List.length_take, List.length_drop]
    omega

theorem dotsRun_len : ∀ (n : Nat) (p : List UInt8) (out : List (List UInt8)), (dotsRun n p out).flatten.length ≤ out.flatten.length + p.length
  | 0, p, out => by simp only [dotsRun]; omega
  | n + 1, p, out => by
    unfold dotsRun
    split
    · omega
    · have h1 := dotsRun_len n (dotsStep p out).1 (dotsStep p out).2
      have h2 := dotsStep_len p out (by assumption)
      omega
theorem dotsL_len (p : List UInt8) : (dotsL p).length ≤ p.length := by
  have := dotsRun_len p.length p []
  simpa [dotsL] using this

theorem upto_len (l : List UInt8) : (upto l).length ≤ l.length := by unfold upto; rw [List.length_take]; omega
theorem joinPath_len (b u : U) : (joinPath b u).length ≤ 1 + b.path.length + u.path.length := by
  unfold joinPath
  repeat' split
  · have := dotsL_len u.path; omega
  · have := dotsL_len (47 :: u.path); simp only [List.length_cons] at this; omega
  · have := dotsL_len (upto b.path ++ u.path); have := upto_len b.path; simp only [List.length_append] at *; omega

theorem resolveU_len {n : Nat} {b u : U} (hb : UZ n b) (hu : UZ n u) : UZ (n + n + 1) (resolveU b u) := by
  obtain ⟨b1, b2, b3, b4, b5⟩ := hb
  obtain ⟨u1, u2, u3, u4, u5⟩ := hu
  have h1 := dotsL_len u.path
  have h2 := joinPath_len b u
  unfold resolveU fromU
  repeat' split
  all_goals refine ⟨?_, ?_, ?_, ?_, ?_⟩
  all_goals dsimp only
  all_goals first | omega | (split <;> omega)

/-- is it an absolute URI's answer of uri.Parse? -/
def absU (x : U × Int) : Bool := (x.2 == 0) && !x.1.sch.isEmpty && !x.1.hf
def absL (l : List UInt8) : Bool := absU (parseL l)

def ParseIs (l : List UInt8) (u : U) (e : Int) : Prop := ∀ w, Calls Try.prog 8 #[.string (str l)] w (New (.tuple #[uval u, .int .i64 e]) w)
theorem parse_is (l : List UInt8) (hs : l.length ≤ 4294967200) : ParseIs l (parseL l).1 (parseL l).2 := fun w => parse_any l hs w

set_option maxRecDepth 100000 in
set_option maxHeartbeats 2000000 in
theorem abs_core (l : List UInt8) (s a pa q f : List UInt8) (ha hq hf : Bool) (e : Int) (C : ParseIs l ⟨s, a, pa, q, f, ha, hq, hf⟩ e) (w : World) :
    Calls Try.prog 10 #[.string (str l)] w (New (.bool (absU (⟨s, a, pa, q, f, ha, hq, hf⟩, e))) w) := by
  have hse : (str s).toList.isEmpty = s.isEmpty := by rw [str_toList]
  have HF : Hid (absU (⟨s, a, pa, q, f, ha, hq, hf⟩, e) = ((e == 0) && !s.isEmpty && !hf)) := rfl
  rw [HF.out]
  generalize hx : ((e == 0) && !s.isEmpty && !hf) = x
  have HX := Lib.hid hx
  clear hx HF
  generalize hsi : s.isEmpty = si at *
  go_enter Try.func10, Try.ntmps10
  go_wp2_with fail
  refine (C _).mono ?_
  unfold uval
  rintro e2 w1 ⟨rfl, hb⟩
  have HB := Lib.hid hb
  clear hb
  go_wp2_with fail
  all_goals go_ret
  all_goals refine ⟨?_, ?_⟩
  all_goals first
    | (rw [← HX.out]; simp_all; done)
    | exact HB.out.alloc HB.out.size _

theorem abs_any (l : List UInt8) (hs : l.length ≤ 4294967200) (w : World) :
    Calls Try.prog 10 #[.string (str l)] w (New (.bool (absL l)) w) := by
  have C := parse_is l hs
  unfold absL
  generalize parseL l = x at *
  obtain ⟨⟨s, a, pa, q, f, ha, hq, hf⟩, e⟩ := x
  exact abs_core l s a pa q f ha hq hf e C w

set_option maxHeartbeats 400000 in
theorem bare_any (l : List UInt8) (hs : l.length ≤ 4294967200) (w : World) :
    Calls Try.prog 12 #[.string (str l)] w (New (.tuple #[.string (str (bef 35 l)), .string (str (aft 35 l))]) w) := by
  have C := Lib.hid (cut_l l 35 (by omega))
  generalize bef 35 l = s1 at *
  generalize aft 35 l = s2 at *
  generalize has 35 l = x at *
  go_enter Try.func12, Try.ntmps12
  go_wp2_with fail
  refine (C.out _).mono ?_
  rintro e w1 ⟨rfl, hb⟩
  go_wp2_with fail
  go_ret2
  exact ⟨rfl, hb⟩

/-- uri.Join -/
def joinU (b u : U × Int) (x : Bool) : List UInt8 × Int := if u.2 == 0 && x then (textU (resolveU b.1 u.1), 0) else ([], 80)
def joinL (base s : List UInt8) : List UInt8 × Int := joinU (parseL base) (parseL s) (absL base)

def AbsIs (l : List UInt8) (x : Bool) : Prop := ∀ w, Calls Try.prog 10 #[.string (str l)] w (New (.bool x) w)
def ResIs (b u r : U) : Prop := ∀ w, Calls Try.prog 13 #[uval b, uval u] w (New (uval r) w)
def TextIs (r : U) (t : List UInt8) : Prop := ∀ w, Calls Try.prog 11 #[uval r] w (New (.string (str t)) w)

set_option maxRecDepth 100000 in
set_option maxHeartbeats 2000000 in
theorem join_core (base l : List UInt8) (bs ba bp bq bf s a pa q f : List UInt8) (bha bhq bhf ha hq hf x : Bool) (e1 e2 : Int) (r : U) (t : List UInt8) (CB : ParseIs base ⟨bs, ba, bp, bq, bf, bha, bhq, bhf⟩ e1) (CS : ParseIs l ⟨s, a, pa, q, f, ha, hq, hf⟩ e2)
    (CA : AbsIs base x) (CR : ResIs ⟨bs, ba, bp, bq, bf, bha, bhq, bhf⟩ ⟨s, a, pa, q, f, ha, hq, hf⟩ r) (CT : TextIs r t) (w : World) :
    Calls Try.prog 6 #[.string (str base), .string (str l)] w (New (if e2 == 0 && x then .tuple #[.string (str t), .int .i64 0] else .tuple #[.string ⟨#[]⟩, .int .i64 80]) w) := by
  generalize hv : (if e2 == 0 && x then Value.tuple #[.string (str t), .int .i64 0] else .tuple #[.string ⟨#[]⟩, .int .i64 80]) = v
  have HV := Lib.hid hv
  clear hv
  unfold ParseIs ResIs uval at *
  unfold TextIs uval at CT
  dsimp only at CR
  have HB1 := Lib.hid CB; have HS1 := Lib.hid CS; have HR1 := Lib.hid CR; have HT1 := Lib.hid CT
  clear CB CS CR CT
  go_enter Try.func6, Try.ntmps6
  go_wp2_with fail
  refine (HB1.out _).mono ?_
  rintro e w1 ⟨rfl, hb⟩
  have B1 : Below w.heap.size w w1 := hb
  have HB := Lib.hid B1
  have hz1 := hb.size
  clear hb B1
  go_wp2_with fail
  refine (HS1.out _).mono ?_
  rintro e w2 ⟨rfl, hb⟩
  have V1 := (Blk.new w1 [.string (str bs), .string (str ba), .string (str bp), .string (str bq), .string (str bf), .bool bha, .bool bhq, .bool bhf] 27).call hb
  have B2 : Below w.heap.size w w2 := RowKit.Below.call (HB.out.alloc hz1 _) hb (by simp; omega)
  clear hb HB
  have vc := V1.cell
  have hz2 := V1.lt
  have HB := Lib.hid B2; have HV1 := Lib.hid V1
  clear B2 V1
  cases h0 : (e2 == 0) with
  | false =>
    rw [h0] at HV
    have h0' : (e2 != 0) = true := by simpa using h0
    go_wp2_with fail
    go_ret2
    exact ⟨by rw [← HV.out]; rfl, HB.out.alloc (by omega) _⟩
  | true =>
    obtain rfl : e2 = 0 := by simpa using h0
    clear h0
    go_wp2_with fail
    refine (CA _).mono ?_
    rintro e w3 ⟨rfl, hb⟩
    have V1 := (HV1.out.alloc _).call hb
    have V2 := (Blk.new w2 [.string (str s), .string (str a), .string (str pa), .string (str q), .string (str f), .bool ha, .bool hq, .bool hf] 27).call hb
    have B3 : Below w.heap.size w w3 := RowKit.Below.call (HB.out.alloc (by omega) _) hb (by simp; omega)
    clear hb HB vc HV1
    have vc := V1.cell
    have vc2 := V2.cell
    have hz3 := V2.lt
    have HB := Lib.hid B3
    clear B3 V1 V2
    cases x with
    | false =>
      go_wp2_with fail
      go_ret2
      exact ⟨by rw [← HV.out]; rfl, HB.out⟩
    | true =>
      go_wp2_with fail
      refine (HR1.out _).mono ?_
      rintro e w4 ⟨rfl, hb⟩
      have B4 : Below w.heap.size w w4 := RowKit.Below.call HB.out hb (by omega)
      have hz4 := hb.size
      clear hb HB vc vc2
      have HB := Lib.hid B4
      clear B4
      go_wp2_with fail
      refine (HT1.out _).mono ?_
      rintro e w5 ⟨rfl, hb⟩
      have B5 : Below w.heap.size w w5 := RowKit.Below.call HB.out hb (by omega)
      go_wp2_with fail
      go_ret2
      exact ⟨by rw [← HV.out]; rfl, B5⟩
end Go.Proofs.Ythicgeiljficbaa
