/- Package uri over lists of bytes: Dots. -/
import Derived.Test.YthicgeiljficbaaUriF
namespace Go.Proofs.Ythicgeiljficbaa
open Go.RowKit
set_option linter.unusedSimpArgs false
set_option linter.unusedVariables false
set_option linter.unnecessarySimpa false

/-- how far the next segment goes, its slash ahead -/
def segLen (p : List UInt8) : Nat := 1 + (bef 47 (p.drop 1)).length
/-- one round of uri.Dots -/
def dotsStep (p : List UInt8) (out : List (List UInt8)) : List UInt8 × List (List UInt8) :=
  if p = [46] ∨ p = [46, 46] then ([], out)
  else if Lib.hasPrefix p [46, 46, 47] then (p.drop 3, out)
  else if Lib.hasPrefix p [46, 47] then (p.drop 2, out)
  else if p = [47, 46] then ([47], out)
  else if Lib.hasPrefix p [47, 46, 47] then (p.drop 2, out)
  else if p = [47, 46, 46] ∨ Lib.hasPrefix p [47, 46, 46, 47] then (47 :: Lib.trimPrefix (p.drop 3) [47], out.dropLast)
  else (p.drop (segLen p), out ++ [p.take (segLen p)])
def dotsRun : Nat → List UInt8 → List (List UInt8) → List (List UInt8)
  | 0, _, out => out
  | n + 1, p, out => if p = [] then out else dotsRun n (dotsStep p out).1 (dotsStep p out).2
def dotsL (p : List UInt8) : List UInt8 := (dotsRun p.length p []).flatten

theorem hasprefix_l (l p : List UInt8) (w : World) :
    Calls Try.prog 19 #[.string (str l), .string ⟨p.toArray⟩] w (Ans (.bool (Lib.hasPrefix l p)) w) := by
  have := Try.strings_HasPrefix (str l) (str p) w
  rw [str_data, str_data] at this
  exact this.mono fun _ _ h => ⟨h.1, h.2.symm⟩
theorem trimprefix_l (l p : List UInt8) (w : World) :
    Calls Try.prog 20 #[.string (str l), .string ⟨p.toArray⟩] w (Ans (.string (str (Lib.trimPrefix l p))) w) := by
  have := Try.strings_TrimPrefix (str l) (str p) w
  rw [str_data, str_data] at this
  exact this.mono fun _ _ h => ⟨h.1, h.2.symm⟩
/-- where the slash stands in l, a slash put behind it -/
theorem idxslash_l (l : List UInt8) (w : World) :
    Calls Try.prog 22 #[.string (str (l ++ [47])), .int .u8 47] w (Ans (.int .i64 ((bef 47 l).length : Nat)) w) := by
  have := idxbyte_l (l ++ [47]) 47 w
  have e : Lib.indexByte (l ++ [47]) ((47 : Int).toNat.toUInt8) = ((bef 47 l).length : Int) := by
    show Lib.indexByte (l ++ [47]) 47 = _
    rw [indexByte_eq, if_pos (by simp), bef_snoc]
  rw [e] at this
  exact this

def lenOf : Value → Nat | .string s => s.size | _ => 0

theorem info_str : (Try.prog.info? 9).map (fun i => (i.zero, i.size, i.bytes)) = some (some (.string ⟨#[]⟩), 1, 16) := by kernel_rfl

theorem hasPrefix_len {p q : List UInt8} (h : Lib.hasPrefix q p = true) : p.length ≤ q.length := by
  have := (List.isPrefixOf_iff_prefix.1 h).length_le
  exact this

/-- which way a round of Dots goes -/
inductive DotsWay (q : List UInt8) (out : List (List UInt8)) : Prop where
  | one (h : q = [46]) (e : dotsStep q out = ([], out))
  | two (h : q = [46, 46]) (e : dotsStep q out = ([], out))
  | three (c1 : (q == [46]) = false) (c2 : (q == [46, 46]) = false) (c3 : Lib.hasPrefix q [46, 46, 47] = true) (hl : 3 ≤ q.length) (e : dotsStep q out = (q.drop 3, out))
  | four (c1 : (q == [46]) = false) (c2 : (q == [46, 46]) = false) (c3 : Lib.hasPrefix q [46, 46, 47] = false) (c4 : Lib.hasPrefix q [46, 47] = true) (hl : 2 ≤ q.length) (e : dotsStep q out = (q.drop 2, out))
  | five (h : q = [47, 46]) (e : dotsStep q out = ([47], out))
  | six (c1 : (q == [46]) = false) (c2 : (q == [46, 46]) = false) (c3 : Lib.hasPrefix q [46, 46, 47] = false) (c4 : Lib.hasPrefix q [46, 47] = false) (c5 : (q == [47, 46]) = false) (c6 : Lib.hasPrefix q [47, 46, 47] = true) (hl : 2 ≤ q.length) (e : dotsStep q out = (q.drop 2, out))
  | seven (h : q = [47, 46, 46]) (e : dotsStep q out = ([47], out.dropLast))
  | eight (c1 : (q == [46]) = false) (c2 : (q == [46, 46]) = false) (c3 : Lib.hasPrefix q [46, 46, 47] = false) (c4 : Lib.hasPrefix q [46, 47] = false) (c5 : (q == [47, 46]) = false) (c6 : Lib.hasPrefix q [47, 46, 47] = false) (c7 : (q == [47, 46, 46]) = false) (c8 : Lib.hasPrefix q [47, 46, 46, 47] = true) (hl : 4 ≤ q.length)
      (hk : (Lib.trimPrefix (q.drop 3) [47]).length + 4 ≤ q.length) (e : dotsStep q out = (47 :: Lib.trimPrefix (q.drop 3) [47], out.dropLast))
  | nine (c1 : (q == [46]) = false) (c2 : (q == [46, 46]) = false) (c3 : Lib.hasPrefix q [46, 46, 47] = false) (c4 : Lib.hasPrefix q [46, 47] = false) (c5 : (q == [47, 46]) = false) (c6 : Lib.hasPrefix q [47, 46, 47] = false) (c7 : (q == [47, 46, 46]) = false) (c8 : Lib.hasPrefix q [47, 46, 46, 47] = false)
      (e : dotsStep q out = (q.drop (segLen q), out ++ [q.take (segLen q)]))

theorem dots_way (q : List UInt8) (out : List (List UInt8)) : DotsWay q out := by
  by_cases h1 : q = [46]
  · subst h1; exact .one rfl rfl
  by_cases h2 : q = [46, 46]
  · subst h2; exact .two rfl rfl
  have c1 : (q == [46]) = false := by simpa using h1
  have c2 : (q == [46, 46]) = false := by simpa using h2
  cases c3 : Lib.hasPrefix q [46, 46, 47] with
  | true => exact .three c1 c2 c3 (hasPrefix_len c3) (by simp [dotsStep, h1, h2, c3])
  | false =>
  cases c4 : Lib.hasPrefix q [46, 47] with
  | true => exact .four c1 c2 c3 c4 (hasPrefix_len c4) (by simp [dotsStep, h1, h2, c3, c4])
  | false =>
  by_cases h5 : q = [47, 46]
  · subst h5; exact .five rfl rfl
  have c5 : (q == [47, 46]) = false := by simpa using h5
  cases c6 : Lib.hasPrefix q [47, 46, 47] with
  | true =>
    have := hasPrefix_len c6
    exact .six c1 c2 c3 c4 c5 c6 (by simp at this; omega) (by simp [dotsStep, h1, h2, c3, c4, h5, c6])
  | false =>
  by_cases h7 : q = [47, 46, 46]
  · subst h7; exact .seven rfl rfl
  have c7 : (q == [47, 46, 46]) = false := by simpa using h7
  cases c8 : Lib.hasPrefix q [47, 46, 46, 47] with
  | true =>
    obtain ⟨t, rfl⟩ := List.isPrefixOf_iff_prefix.1 c8
    refine .eight c1 c2 c3 c4 c5 c6 c7 c8 (by simp) ?_ (by simp only [dotsStep, h1, h2, c3, c4, h5, c6, h7, c8]; simp)
    simp [Lib.trimPrefix, Lib.hasPrefix]
  | false => exact .nine c1 c2 c3 c4 c5 c6 c7 c8 (by simp only [dotsStep, h1, h2, c3, c4, h5, c6, h7, c8]; simp)

theorem segLen_le (q : List UInt8) (h : q ≠ []) : segLen q ≤ q.length := by
  have h1 := bef_le 47 (q.drop 1)
  rw [List.length_drop] at h1
  have : 0 < q.length := List.length_pos_iff.2 h
  unfold segLen
  omega

theorem dropLast_flat (out : List (List UInt8)) : out.dropLast.flatten.length ≤ out.flatten.length := by
  rcases List.eq_nil_or_concat out with rfl | ⟨l, x, rfl⟩
  · simp
  · simp
end Go.Proofs.Ythicgeiljficbaa
