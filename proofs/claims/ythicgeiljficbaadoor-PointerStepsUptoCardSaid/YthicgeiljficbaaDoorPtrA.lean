/- Package pointer over lists of bytes: replacing one byte; part; Text. -/
import Derived.Test.YthicgeiljficbaaDoorTxt
import Derived.Test.YthicgeiljficbaaDoorBlk
import Derived.Test.YthicgeiljficbaaDoorRow
import Derived.Lib.SplitLaws
namespace Go.Proofs.YthicgeiljficbaaDoor
open Go.RowKit
set_option linter.unusedSimpArgs false
set_option linter.unusedVariables false
set_option linter.unnecessarySimpa false

/-- does byte c stand in l? -/
def has (c : UInt8) (l : List UInt8) : Bool := l.contains c

/-- each c of l by 'new' -/
def rep (c : UInt8) (new l : List UInt8) : List UInt8 := l.flatMap fun b => if b = c then new else [b]

theorem index_one (c : UInt8) : ∀ l : List UInt8, Lib.index l [c] = Lib.indexByte l c
  | [] => rfl
  | b :: l => by
    have ih := index_one c l
    unfold Lib.index Lib.indexByte
    rw [ih]
    by_cases h : b = c
    · subst h; simp [List.isPrefixOf]
    · have h1 : (b == c) = false := by simpa using h
      have h2 : (c == b) = false := by simpa using Ne.symm h
      simp [List.isPrefixOf, h1, h2]

theorem rep_none {c : UInt8} {new l : List UInt8} (h : c ∉ l) : rep c new l = l := by
  induction l with
  | nil => rfl
  | cons b l ih =>
    have hb : ¬ b = c := by rintro rfl; simp at h
    have hl : c ∉ l := fun hm => h (List.mem_cons_of_mem _ hm)
    show (if b = c then new else [b]) ++ rep c new l = b :: l
    rw [if_neg hb, ih hl]
    rfl

theorem rep_append (c : UInt8) (new a b : List UInt8) : rep c new (a ++ b) = rep c new a ++ rep c new b := by simp [rep]

theorem split_first (c : UInt8) (l : List UInt8) (h : l.contains c = true) : l = bef c l ++ c :: aft c l := by
  induction l with
  | nil => simp at h
  | cons b l ih =>
    by_cases hb : b = c
    · subst hb; simp [bef, aft]
    · have e1 : bef c (b :: l) = b :: bef c l := by simp [bef, hb]
      have e2 : aft c (b :: l) = aft c l := by simp [aft, List.dropWhile_cons, hb]
      rw [contains_ne hb] at h
      rw [e1, e2, List.cons_append, ← ih h]

theorem bef_notin (c : UInt8) (l : List UInt8) : c ∉ bef c l := by
  induction l with
  | nil => simp [bef]
  | cons b l ih =>
    by_cases h : b = c
    · subst h; simp [bef]
    · have e1 : bef c (b :: l) = b :: bef c l := by simp [bef, h]
      rw [e1]
      intro hm
      rcases List.mem_cons.1 hm with hm | hm
      · exact h hm.symm
      · exact ih hm

theorem replaceK_one (c : UInt8) (new : List UInt8) : ∀ (k : Nat) (s : List UInt8), s.count c = k → Lib.replaceK [c] new k s = rep c new s
  | 0, s, h => by
    have : c ∉ s := List.count_eq_zero.1 h
    rw [rep_none this]
    rfl
  | k + 1, s, h => by
    have hc : s.contains c = true := by
      have : c ∈ s := List.count_pos_iff.1 (by omega)
      simpa using this
    have hi : Lib.index s [c] = ((bef c s).length : Int) := by rw [index_one, indexByte_eq, if_pos hc]
    have hs := split_first c s hc
    have hcount : (aft c s).count c = k := by
      have h0 : (bef c s).count c = 0 := List.count_eq_zero.2 (bef_notin c s)
      rw [hs, List.count_append, List.count_cons_self, h0] at h
      omega
    rw [Lib.replaceK_hit [c] new k s _ hi, take_bef]
    have e : s.drop ((bef c s).length + [c].length) = aft c s := drop_bef c s
    rw [e, replaceK_one c new k (aft c s) hcount]
    conv => rhs; rw [hs, rep_append]
    rw [rep_none (bef_notin c s)]
    show _ = _ ++ ((if c = c then new else [c]) ++ rep c new (aft c s))
    rw [if_pos rfl, List.append_assoc]

theorem replaceAll_one (c : UInt8) (new l : List UInt8) (h : ¬ [c] = new) : Lib.replaceAll l [c] new = rep c new l := by
  unfold Lib.replaceAll Lib.replace
  rw [if_neg (by simpa using h)]
  have : Lib.replaceNum l [c] (-1) = l.count c := by
    unfold Lib.replaceNum
    rw [if_pos (Or.inl (by decide)), Lib.count_one]
  rw [this, replaceK_one c new _ l rfl]

theorem rep_len (c : UInt8) (new l : List UInt8) (h : new.length ≤ 2) : (rep c new l).length ≤ 2 * l.length := by
  induction l with
  | nil => simp [rep]
  | cons b l ih =>
    have e : rep c new (b :: l) = (if b = c then new else [b]) ++ rep c new l := rfl
    rw [e, List.length_append, List.length_cons]
    split
    · omega
    · simp only [List.length_cons, List.length_nil]; omega

/-- what the calls need of the library's variables -/
def Env (W : World) : Prop := 0 < W.heap.size ∧ ∃ m, W.cell? ⟨0, 0, none⟩ = some (.int .i64 m)
theorem Env.call {W W' : World} (h : Env W) (hb : Below W.heap.size W W') : Env W' := by
  obtain ⟨h0, m, hm⟩ := h
  refine ⟨Nat.lt_of_lt_of_le h0 hb.size, m, ?_⟩
  rw [hb.cell (p := ⟨0, 0, none⟩) h0]
  exact hm
theorem Env.below {B : Nat} {W W' : World} (h : Env W) (hb : Below B W W') (hB : 0 < B) : Env W' := by
  obtain ⟨h0, m, hm⟩ := h
  refine ⟨Nat.lt_of_lt_of_le h0 hb.size, m, ?_⟩
  rw [hb.cell (p := ⟨0, 0, none⟩) hB]
  exact hm

theorem countB_one (l : List UInt8) (c : UInt8) : Lib.countB (str l) ⟨#[c]⟩ = l.count c := by
  show Lib.count (str l).data.toList [c] = _
  rw [str_data, Lib.count_one]

theorem replace_one_l (l : List UInt8) (c : UInt8) (new : List UInt8) (h : ¬ [c] = new) (h2 : new.length ≤ 2) (hl : l.length ≤ 1073741824) (w : World) (he : Env w) :
    Calls Tryd.prog 36 #[.string (str l), .string ⟨#[c]⟩, .string ⟨new.toArray⟩] w (New (.string (str (rep c new l))) w) := by
  obtain ⟨h0, m, hm⟩ := he
  have hcl := List.count_le_length (a := c) (l := l)
  have hmul : l.count c * new.length ≤ l.length * 2 := Nat.mul_le_mul hcl h2
  have hns : (⟨new.toArray⟩ : ByteArray).size = new.length := str_size new
  have := Tryd.strings_ReplaceAll (str l) ⟨#[c]⟩ ⟨new.toArray⟩ m w (by rw [str_size]; omega) hm (Nat.le_refl 1) (by rw [str_size, countB_one, hns]; omega)
  have e : Lib.replaceAll (str l).data.toList (⟨#[c]⟩ : ByteArray).data.toList (⟨new.toArray⟩ : ByteArray).data.toList = rep c new l := by
    rw [str_data]
    exact replaceAll_one c new l h
  rw [e] at this
  exact this

def escPart (l : List UInt8) : List UInt8 := 47 :: rep 47 [126, 49] (rep 126 [126, 48] l)

set_option maxHeartbeats 400000 in
theorem part_l (l : List UInt8) (hl : l.length ≤ 268435456) (w : World) (he : Env w) :
    Calls Tryd.prog 33 #[.string (str l)] w (New (.string (str (escPart l))) w) := by
  have HE := Lib.hid he
  clear he
  have hr := rep_len 126 [126, 48] l (by decide)
  have hr2 := rep_len 47 [126, 49] (rep 126 [126, 48] l) (by decide)
  have HF : Hid (escPart l = 47 :: rep 47 [126, 49] (rep 126 [126, 48] l)) := rfl
  have C1 := Lib.hid (fun W (he : Env W) => replace_one_l l 126 [126, 48] (by decide) (by decide) (by omega) W he)
  have C2 := Lib.hid (fun W (he : Env W) => replace_one_l (rep 126 [126, 48] l) 47 [126, 49] (by decide) (by decide) (by omega) W he)
  rw [HF.out]
  generalize rep 47 [126, 49] (rep 126 [126, 48] l) = b at *
  generalize rep 126 [126, 48] l = a at *
  clear HF
  go_enter Tryd.func33, Tryd.ntmps33
  go_wp2_with fail
  refine (C1.out _ HE.out).mono ?_
  rintro e w1 ⟨rfl, hb⟩
  have HE1 := Lib.hid (HE.out.call hb)
  have HB1 := Lib.hid hb
  clear hb
  go_wp2_with fail
  refine (C2.out _ HE1.out).mono ?_
  rintro e w2 ⟨rfl, hb⟩
  have HB2 := Lib.hid (RowKit.Below.call HB1.out hb HB1.out.size)
  clear hb
  have hb2 : b.length ≤ 1073741824 := by omega
  go_wp2_with fail
  go_ret
  exact ⟨rfl, HB2.out⟩
end Go.Proofs.YthicgeiljficbaaDoor
