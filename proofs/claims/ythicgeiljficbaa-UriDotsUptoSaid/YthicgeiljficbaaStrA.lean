/- Strings as lists of bytes; strings.Cut at a separator of one byte. -/
import Derived.Test.YthicgeiljficbaaRows
import Derived.WalkKit
import Derived.WalkSpells
import Derived.WalkLawsBesides
import Derived.Lib.Hide
import Derived.RegionTactic
import Derived.Deep.QuietTactic
import Derived.BigQuiet
import Derived.Deep.DeepFit
import Derived.Test.YthicgeiljficbaaShelf
namespace Go.Proofs.Ythicgeiljficbaa
open Go.RowKit
set_option linter.unusedSimpArgs false
set_option linter.unusedVariables false
set_option linter.unnecessarySimpa false

/-- a list of bytes as a string -/
def str (l : List UInt8) : ByteArray := ⟨l.toArray⟩
theorem str_data (l : List UInt8) : (str l).data.toList = l := by simp [str]
theorem str_of (s : ByteArray) (l : List UInt8) (h : s.data.toList = l) : s = str l := by
  subst h; cases s; simp [str]
theorem str_self (s : ByteArray) : str s.data.toList = s := (str_of s _ rfl).symm
theorem str_size (l : List UInt8) : (str l).size = l.length := by
  rw [Lib.size_eq, str_data]

/-- the value was returned, the world is as it was -/
def Ans (v : Value) (w : World) (e : Ending) (w' : World) : Prop := e = .returned v ∧ w = w'
/-- the value was returned; what existed is as it was -/
def New (v : Value) (w : World) (e : Ending) (w' : World) : Prop := e = .returned v ∧ Below w.heap.size w w'

theorem New.of_ans {v : Value} {w w' : World} {e : Ending} (h : Ans v w e w') : New v w e w' := by
  obtain ⟨rfl, rfl⟩ := h
  exact ⟨rfl, Below.refl _ _⟩

/-- a call that leaves the world alone, met in a region behind other draws -/
theorem quiet_more {P : Program} {f : FuncId} {args : Array Value} {w : World} {a n : Nat} {v : Value}
    (h : Calls P f args (w.drewN (a + n)) fun e w' => e = .returned v ∧ w' = w.drewN (a + n)) :
    Calls P f args (w.drewN (a + n)) fun e w'' => e = .returned v ∧ ∃ m, w'' = w.drewN (a + m) :=
  h.mono fun _ _ h => ⟨h.1, n, h.2⟩

theorem below_drewN {B : Nat} {w : World} (n : Nat) : Below B w (w.drewN n) := ⟨rfl, rfl, rfl, Nat.le_refl _, fun _ _ => rfl⟩

/-- what stands ahead of the first c, and behind it -/
def bef (c : UInt8) (l : List UInt8) : List UInt8 := l.takeWhile (· != c)
def aft (c : UInt8) (l : List UInt8) : List UInt8 := (l.dropWhile (· != c)).drop 1

theorem contains_ne {b c : UInt8} {l : List UInt8} (h : ¬ b = c) : List.contains (b :: l) c = l.contains c := by
  have : (c == b) = false := by simpa using (Ne.symm h)
  rw [List.contains_cons, this, Bool.false_or]

theorem indexByte_eq (c : UInt8) (l : List UInt8) : Lib.indexByte l c = if l.contains c then ((bef c l).length : Int) else -1 := by
  induction l with
  | nil => simp [Lib.indexByte]
  | cons b l ih =>
    unfold Lib.indexByte
    by_cases h : b = c
    · subst h; simp [bef]
    · have h' : (b == c) = false := by simp [h]
      have e1 : bef c (b :: l) = b :: bef c l := by simp [bef, h]
      rw [h', e1, contains_ne h, ih]
      by_cases hc : l.contains c = true
      · have hne : ((((bef c l).length : Nat) : Int) == -1) = false := by
          have : ¬ (((bef c l).length : Nat) : Int) = -1 := by omega
          simpa using this
        rw [if_pos hc, if_pos hc, hne]
        simp
      · rw [if_neg hc, if_neg hc]
        simp

theorem take_bef (c : UInt8) (l : List UInt8) : l.take (bef c l).length = bef c l := by
  induction l with
  | nil => simp [bef]
  | cons b l ih =>
    by_cases h : b = c
    · subst h; simp [bef]
    · have e1 : bef c (b :: l) = b :: bef c l := by simp [bef, List.takeWhile_cons, h]
      rw [e1]; simp [ih]

theorem drop_bef (c : UInt8) (l : List UInt8) : l.drop ((bef c l).length + 1) = aft c l := by
  induction l with
  | nil => simp [bef, aft]
  | cons b l ih =>
    by_cases h : b = c
    · subst h; simp [bef, aft]
    · have e1 : bef c (b :: l) = b :: bef c l := by simp [bef, List.takeWhile_cons, h]
      have e2 : aft c (b :: l) = aft c l := by simp [aft, List.dropWhile_cons, h]
      rw [e1, e2, ← ih]; simp

theorem bef_le (c : UInt8) (l : List UInt8) : (bef c l).length ≤ l.length := by
  have := congrArg List.length (take_bef c l)
  rw [List.length_take] at this
  omega

theorem bef_lt (c : UInt8) (l : List UInt8) (h : l.contains c = true) : (bef c l).length < l.length := by
  induction l with
  | nil => simp at h
  | cons b l ih =>
    by_cases hb : b = c
    · subst hb; simp [bef]
    · have e1 : bef c (b :: l) = b :: bef c l := by simp [bef, List.takeWhile_cons, hb]
      have h2 : (c == b) = false := by simp [Ne.symm hb]
      rw [List.contains_cons, h2] at h
      have := ih (by simpa using h)
      rw [e1]; simp; omega

theorem bef_none (c : UInt8) (l : List UInt8) (h : l.contains c = false) : bef c l = l ∧ aft c l = [] := by
  induction l with
  | nil => simp [bef, aft]
  | cons b l ih =>
    by_cases hb : b = c
    · subst hb; simp at h
    · rw [contains_ne hb] at h
      obtain ⟨h1, h2⟩ := ih h
      constructor
      · have e1 : bef c (b :: l) = b :: bef c l := by simp [bef, hb]
        rw [e1, h1]
      · have e2 : aft c (b :: l) = aft c l := by simp [aft, List.dropWhile_cons, hb]
        rw [e2, h2]

theorem extract_bef (c : UInt8) (s : ByteArray) : s.extract 0 (bef c s.data.toList).length = str (bef c s.data.toList) := by
  apply str_of
  rw [Lib.extract_data]
  simp [take_bef]
theorem extract_aft (c : UInt8) (s : ByteArray) : s.extract ((bef c s.data.toList).length + 1) s.size = str (aft c s.data.toList) := by
  apply str_of
  rw [Lib.extract_to_end, drop_bef]

/-- the three answers of strings.Cut at one byte -/
def cutVal (s : ByteArray) (c : UInt8) : Value :=
  .tuple #[.string (str (bef c s.data.toList)), .string (str (aft c s.data.toList)), .bool (s.data.toList.contains c)]

theorem hide_true {p : Prop} (h : p) : RowKit.Hid p := h

set_option maxHeartbeats 400000 in
theorem slcut_one (s : ByteArray) (c : UInt8) (w : World) (hs : s.size ≤ 140737488351232) :
    Calls Try.prog 33 #[.string s, .string ⟨#[c]⟩] w (New (cutVal s c) w) := by
  have hz := Lib.size_eq s
  by_cases hc : s.data.toList.contains c = true
  · have hlt := bef_lt c s.data.toList hc
    have hI : Lib.indexByte s.data.toList c = ((bef c s.data.toList).length : Int) := by rw [indexByte_eq, if_pos hc]
    have HF : RowKit.Hid (cutVal s c = .tuple #[.string (s.extract 0 (bef c s.data.toList).length), .string (s.extract ((bef c s.data.toList).length + 1) s.size), .bool true]) := by
      unfold RowKit.Hid
      rw [extract_bef c s, extract_aft c s, cutVal, hc]
    have cI := Try.stringslite_Index_one s c w
    rw [hI] at cI
    have CI := Lib.hid cI
    clear cI hI hc
    generalize bef c s.data.toList = l at *
    have hln : l.length < s.size := by omega
    clear hlt hz
    go_enter Try.func33, Try.ntmps33
    go_wp2_with (go_at_call 46; refine CI.out.mono ?_; rintro e w' ⟨rfl, rfl⟩)
    go_region
    go_wp2
    go_ret3
    exact ⟨by rw [HF.out]; rfl, (Below.refl _ _).drew⟩
  · have hc' : s.data.toList.contains c = false := by simpa using hc
    have hI : Lib.indexByte s.data.toList c = -1 := by rw [indexByte_eq, if_neg hc]
    have HF : RowKit.Hid (cutVal s c = .tuple #[.string s, .string ⟨#[]⟩, .bool false]) := by
      unfold RowKit.Hid
      rw [cutVal, hc', (bef_none c _ hc').1, (bef_none c _ hc').2, str_self]
      rfl
    have cI := Try.stringslite_Index_one s c w
    rw [hI] at cI
    have CI := Lib.hid cI
    clear cI hI hc hc' hz
    go_enter Try.func33, Try.ntmps33
    go_wp2_with (go_at_call 46; refine CI.out.mono ?_; rintro e w' ⟨rfl, rfl⟩)
    go_ret3
    exact ⟨by rw [HF.out]; rfl, Below.refl _ _⟩

set_option maxHeartbeats 400000 in
theorem cut_one (s : ByteArray) (c : UInt8) (w : World) (hs : s.size ≤ 140737488351232) :
    Calls Try.prog 17 #[.string s, .string ⟨#[c]⟩] w (New (cutVal s c) w) := by
  have CI := slcut_one s c w hs
  unfold cutVal at CI ⊢
  have CI := Lib.hid CI
  generalize str (bef c s.data.toList) = s1 at *
  generalize str (aft c s.data.toList) = s2 at *
  generalize s.data.toList.contains c = b at *
  go_enter Try.func17, Try.ntmps17
  go_wp2_with (go_at_call 33; refine CI.out.mono ?_; rintro e w' ⟨rfl, hb⟩)
  go_ret3
  exact ⟨rfl, hb⟩
end Go.Proofs.Ythicgeiljficbaa
