/- Strings as lists of bytes. -/
import Derived.Test.YthdnpikgnmdnnaaGreatDoorRows
import Derived.WalkKit
import Derived.WalkSpells
import Derived.WalkLawsBesides
import Derived.Lib.Hide
import Derived.RegionTactic
import Derived.Deep.QuietTactic
import Derived.BigQuiet
import Derived.Deep.DeepFit
import Derived.Test.YthdnpikgnmdnnaaGreatDoorShelf
namespace Go.Proofs.YthdnpikgnmdnnaaGreatDoor
open Go.RowKit
set_option linter.unusedSimpArgs false
set_option linter.unusedVariables false
set_option linter.unnecessarySimpa false

/-- a list of bytes as a string -/
def str (l : List UInt8) : ByteArray := ⟨l.toArray⟩
theorem str_data (l : List UInt8) : (str l).data.toList = l := by simp [str]
theorem str_of (s : ByteArray) (l : List UInt8) (h : s.data.toList = l) : s = str l := by
  subst h; cases s; simp [str]
theorem str_self (s : ByteArray) : str s.data.toList = s := (str_of s _ rfl).symm
theorem str_size (l : List UInt8) : (str l).size = l.length := by
  rw [Lib.size_eq, str_data]

/-- the value was returned, the world is as it was -/
def Ans (v : Value) (w : World) (e : Ending) (w' : World) : Prop := e = .returned v ∧ w = w'
/-- the value was returned; what existed is as it was -/
def New (v : Value) (w : World) (e : Ending) (w' : World) : Prop := e = .returned v ∧ Below w.heap.size w w'

theorem New.of_ans {v : Value} {w w' : World} {e : Ending} (h : Ans v w e w') : New v w e w' := by
  obtain ⟨rfl, rfl⟩ := h
  exact ⟨rfl, Below.refl _ _⟩

/-- a call that leaves the world alone, met in a region behind other draws -/
theorem quiet_more {P : Program} {f : FuncId} {args : Array Value} {w : World} {a n : Nat} {v : Value}
    (h : Calls P f args (w.drewN (a + n)) fun e w' => e = .returned v ∧ w' = w.drewN (a + n)) :
    Calls P f args (w.drewN (a + n)) fun e w'' => e = .returned v ∧ ∃ m, w'' = w.drewN (a + m) :=
  h.mono fun _ _ h => ⟨h.1, n, h.2⟩

theorem below_drewN {B : Nat} {w : World} (n : Nat) : Below B w (w.drewN n) := ⟨rfl, rfl, rfl, Nat.le_refl _, fun _ _ => rfl⟩

/-- what stands ahead of the first c, and behind it -/
def bef (c : UInt8) (l : List UInt8) : List UInt8 := l.takeWhile (· != c)
def aft (c : UInt8) (l : List UInt8) : List UInt8 := (l.dropWhile (· != c)).drop 1

theorem contains_ne {b c : UInt8} {l : List UInt8} (h : ¬ b = c) : List.contains (b :: l) c = l.contains c := by
  have : (c == b) = false := by simpa using (Ne.symm h)
  rw [List.contains_cons, this, Bool.false_or]

theorem indexByte_eq (c : UInt8) (l : List UInt8) : Lib.indexByte l c = if l.contains c then ((bef c l).length : Int) else -1 := by
  induction l with
  | nil => simp [Lib.indexByte]
  | cons b l ih =>
    unfold Lib.indexByte
    by_cases h : b = c
    · subst h; simp [bef]
    · have h' : (b == c) = false := by simp [h]
      have e1 : bef c (b :: l) = b :: bef c l := by simp [bef, h]
      rw [h', e1, contains_ne h, ih]
      by_cases hc : l.contains c = true
      · have hne : ((((bef c l).length : Nat) : Int) == -1) = false := by
          have : ¬ (((bef c l).length : Nat) : Int) = -1 := by omega
          simpa using this
        rw [if_pos hc, if_pos hc, hne]
        simp
      · rw [if_neg hc, if_neg hc]
        simp

theorem take_bef (c : UInt8) (l : List UInt8) : l.take (bef c l).length = bef c l := by
  induction l with
  | nil => simp [bef]
  | cons b l ih =>
    by_cases h : b = c
    · subst h; simp [bef]
    · have e1 : bef c (b :: l) = b :: bef c l := by simp [bef, List.takeWhile_cons, h]
      rw [e1]; simp [ih]

theorem drop_bef (c : UInt8) (l : List UInt8) : l.drop ((bef c l).length + 1) = aft c l := by
  induction l with
  | nil => simp [bef, aft]
  | cons b l ih =>
    by_cases h : b = c
    · subst h; simp [bef, aft]
    · have e1 : bef c (b :: l) = b :: bef c l := by simp [bef, List.takeWhile_cons, h]
      have e2 : aft c (b :: l) = aft c l := by simp [aft, List.dropWhile_cons, h]
      rw [e1, e2, ← ih]; simp

theorem bef_le (c : UInt8) (l : List UInt8) : (bef c l).length ≤ l.length := by
  have := congrArg List.length (take_bef c l)
  rw [List.length_take] at this
  omega

theorem bef_lt (c : UInt8) (l : List UInt8) (h : l.contains c = true) : (bef c l).length < l.length := by
  induction l with
  | nil => simp at h
  | cons b l ih =>
    by_cases hb : b = c
    · subst hb; simp [bef]
    · have e1 : bef c (b :: l) = b :: bef c l := by simp [bef, List.takeWhile_cons, hb]
      have h2 : (c == b) = false := by simp [Ne.symm hb]
      rw [List.contains_cons, h2] at h
      have := ih (by simpa using h)
      rw [e1]; simp; omega

theorem bef_none (c : UInt8) (l : List UInt8) (h : l.contains c = false) : bef c l = l ∧ aft c l = [] := by
  induction l with
  | nil => simp [bef, aft]
  | cons b l ih =>
    by_cases hb : b = c
    · subst hb; simp at h
    · rw [contains_ne hb] at h
      obtain ⟨h1, h2⟩ := ih h
      constructor
      · have e1 : bef c (b :: l) = b :: bef c l := by simp [bef, hb]
        rw [e1, h1]
      · have e2 : aft c (b :: l) = aft c l := by simp [aft, List.dropWhile_cons, hb]
        rw [e2, h2]

theorem extract_bef (c : UInt8) (s : ByteArray) : s.extract 0 (bef c s.data.toList).length = str (bef c s.data.toList) := by
  apply str_of
  rw [Lib.extract_data]
  simp [take_bef]
theorem extract_aft (c : UInt8) (s : ByteArray) : s.extract ((bef c s.data.toList).length + 1) s.size = str (aft c s.data.toList) := by
  apply str_of
  rw [Lib.extract_to_end, drop_bef]


theorem hide_true {p : Prop} (h : p) : RowKit.Hid p := h
theorem drop_two {l : List UInt8} {k : Nat} (h : k < l.length) : l.drop k = l.getD k 0 :: l.drop (k + 1) := by
  rw [List.drop_eq_getElem_cons h]
  simp [h]

theorem getD_byte (s : ByteArray) (k : Nat) (h : k < s.size) : s.data.toList.getD k 0 = s[k]'h := by
  have h' : k < s.data.toList.length := by rw [← Lib.size_eq]; exact h
  rw [List.getD_eq_getElem?_getD, Lib.data_getElem? s k h]
  rfl

attribute [go_sem] str_size
@[go_sem] theorem str_extract (l : List UInt8) (a b : Nat) : (str l).extract a b = str ((l.drop a).take (b - a)) := by
  apply str_of
  rw [Lib.extract_data, str_data]
@[go_sem high] theorem str_extract_end (l : List UInt8) (a : Nat) : (str l).extract a l.length = str (l.drop a) := by
  rw [str_extract, List.take_of_length_le (by rw [List.length_drop]; exact Nat.le_refl _)]
@[go_sem] theorem str_append (a b : List UInt8) : str a ++ str b = str (a ++ b) := by
  apply str_of
  simp [str]
@[go_sem] theorem str_append_lit (a : List UInt8) (b : Array UInt8) : str a ++ ⟨b⟩ = str (a ++ b.toList) := by
  apply str_of
  simp [str]
@[go_sem] theorem lit_append_str (a : List UInt8) (b : Array UInt8) : (⟨b⟩ : ByteArray) ++ str a = str (b.toList ++ a) := by
  apply str_of
  simp [str]
theorem str_toList (l : List UInt8) : (str l).toList = l := by
  rw [Lib.toList_data, str_data]
@[go_sem] theorem str_index (l : List UInt8) (i : Nat) (h : i < (str l).size) : (str l)[i]'h = l.getD i 0 := by
  have := getD_byte (str l) i h
  rw [str_data] at this
  exact this.symm


theorem ret_bool {a b : Bool} (h : a = b) : Ending.returned (.bool a) = .returned (.bool b) := by rw [h]
theorem ret_int {k : IntKind} {a b : Int} (h : a = b) : Ending.returned (.int k a) = .returned (.int k b) := by rw [h]
theorem str_nil : str [] = ⟨#[]⟩ := rfl
theorem bcell {W w1 : World} (hb : Below W.heap.size W w1) : (∀ b o, b < W.heap.size → w1.cell? ⟨b, o, none⟩ = W.cell? ⟨b, o, none⟩) ∧ (∀ b o, b < W.heap.size → w1.frozen? ⟨b, o, none⟩ = W.frozen? ⟨b, o, none⟩) :=
  ⟨fun b o h => hb.cell (p := ⟨b, o, none⟩) h, fun b o h => hb.frozen (p := ⟨b, o, none⟩) h⟩
end Go.Proofs.YthdnpikgnmdnnaaGreatDoor
