/- Package pointer over lists of bytes: Parse. -/
import Derived.Test.YthicgeiljficbaaDoorPtrB
namespace Go.Proofs.YthicgeiljficbaaDoor
open Go.RowKit
set_option linter.unusedSimpArgs false
set_option linter.unusedVariables false
set_option linter.unnecessarySimpa false

/-- the pieces between the first k bytes c -/
def spl (c : UInt8) : Nat → List UInt8 → List (List UInt8)
  | 0, l => [l]
  | k + 1, l => if l.contains c then bef c l :: spl c k (aft c l) else [l]

theorem splitB_spl (c : UInt8) : ∀ (k : Nat) (l : List UInt8), Lib.splitB ⟨#[c]⟩ 0 k (str l) = (spl c k l).map str
  | 0, l => rfl
  | k + 1, l => by
    have hI : Lib.indexB (str l) ⟨#[c]⟩ = Lib.indexByte l c := by
      show Lib.index (str l).data.toList [c] = _
      rw [str_data, index_one]
    by_cases h : l.contains c = true
    · have hi : Lib.indexB (str l) ⟨#[c]⟩ = ((bef c l).length : Nat) := by rw [hI, indexByte_eq, if_pos h]
      rw [Lib.splitB_hit _ _ _ _ _ hi, spl, if_pos h, List.map_cons]
      have e1 : (str l).extract 0 ((bef c l).length + 0) = str (bef c l) := by
        have := extract_bef c (str l)
        rw [str_data] at this
        exact this
      have e2 : (str l).extract ((bef c l).length + (⟨#[c]⟩ : ByteArray).size) (str l).size = str (aft c l) := by
        have := extract_aft c (str l)
        rw [str_data] at this
        exact this
      rw [e1, e2, splitB_spl c k (aft c l)]
    · have hi : Lib.indexB (str l) ⟨#[c]⟩ = -1 := by rw [hI, indexByte_eq, if_neg h]
      rw [Lib.splitB_miss _ _ _ _ hi, spl, if_neg h]
      rfl

theorem spl_length (c : UInt8) (l : List UInt8) : (spl c (l.count c) l).length = l.count c + 1 := by
  have h := Lib.splitB_all ⟨#[c]⟩ (Nat.le_refl 1) 0 (l.count c) (str l) (countB_one l c)
  rw [splitB_spl, List.length_map] at h
  exact h
theorem aft_le (c : UInt8) (l : List UInt8) : (aft c l).length + (bef c l).length ≤ l.length := by
  have h1 := congrArg List.length (drop_bef c l)
  have h2 := bef_le c l
  rw [List.length_drop] at h1
  omega
theorem spl_flat (c : UInt8) : ∀ (k : Nat) (l : List UInt8), (spl c k l).flatten.length ≤ l.length
  | 0, l => by simp [spl]
  | k + 1, l => by
    unfold spl
    split
    · have := spl_flat c k (aft c l)
      have h := aft_le c l
      simp only [List.flatten_cons, List.length_append]
      omega
    · simp

theorem replaceK_len (old new : List UInt8) : ∀ (k : Nat) (s : List UInt8), (Lib.replaceK old new k s).length ≤ s.length + k * new.length
  | 0, s => by simp [Lib.replaceK]
  | k + 1, s => by
    unfold Lib.replaceK
    split
    · omega
    · have ih := replaceK_len old new k (s.drop ((Lib.index s old).toNat + old.length))
      simp only [List.length_append, List.length_take, List.length_drop] at ih ⊢
      rw [Nat.add_mul]
      omega
theorem replaceAll_len (old new s : List UInt8) (h : new.length ≤ 1) : (Lib.replaceAll s old new).length ≤ 2 * s.length + 1 := by
  unfold Lib.replaceAll Lib.replace
  split
  · omega
  · have h1 := replaceK_len old new (Lib.replaceNum s old (-1)) s
    have h2 : Lib.replaceNum s old (-1) = Lib.count s old := by
      unfold Lib.replaceNum
      rw [if_pos (Or.inl (by decide))]
    have h3 := Lib.count_le s old
    rw [h2] at h1
    have h4 : Lib.count s old * new.length ≤ (s.length + 1) * 1 := Nat.mul_le_mul h3 h
    rw [h2]
    omega

theorem replace_two_l (l : List UInt8) (a b : UInt8) (new : List UInt8) (h2 : new.length ≤ 1) (hl : l.length ≤ 1073741824) (w : World) (he : Env w) :
    Calls Tryd.prog 36 #[.string (str l), .string ⟨#[a, b]⟩, .string ⟨new.toArray⟩] w (New (.string (str (Lib.replaceAll l [a, b] new))) w) := by
  obtain ⟨h0, m, hm⟩ := he
  have hcl := Lib.count_le l [a, b]
  have hc : Lib.countB (str l) ⟨#[a, b]⟩ = Lib.count l [a, b] := by
    show Lib.count (str l).data.toList [a, b] = _
    rw [str_data]
  have hmul : Lib.count l [a, b] * new.length ≤ (l.length + 1) * 1 := Nat.mul_le_mul hcl h2
  have hns : (⟨new.toArray⟩ : ByteArray).size = new.length := str_size new
  have := Tryd.strings_ReplaceAll (str l) ⟨#[a, b]⟩ ⟨new.toArray⟩ m w (by rw [str_size]; omega) hm (by show 1 ≤ 2; omega) (by rw [str_size, hc, hns]; omega)
  rw [str_data] at this
  exact this
theorem count_one_l (l : List UInt8) (c : UInt8) (w : World) : Calls Tryd.prog 37 #[.string (str l), .string ⟨#[c]⟩] w (Ans (.int .i64 (l.count c : Nat)) w) := by
  have := Tryd.strings_Count_one (str l) c w
  rw [str_data] at this
  exact this.mono fun _ _ h => ⟨h.1, h.2.symm⟩
theorem count_two_l (l : List UInt8) (a b : UInt8) (hl : l.length ≤ 1073741824) (w : World) (he : Env w) : Calls Tryd.prog 37 #[.string (str l), .string ⟨#[a, b]⟩] w (Ans (.int .i64 (Lib.count l [a, b] : Nat)) w) := by
  obtain ⟨h0, m, hm⟩ := he
  have := Tryd.strings_Count (str l) ⟨#[a, b]⟩ m w (by rw [str_size]; omega) hm (Nat.le_refl 2)
  have hc : Lib.countB (str l) ⟨#[a, b]⟩ = Lib.count l [a, b] := by
    show Lib.count (str l).data.toList [a, b] = _
    rw [str_data]
  rw [hc] at this
  exact this.mono fun _ _ h => ⟨h.1, h.2.symm⟩
theorem contains_l (l : List UInt8) (c : UInt8) (w : World) :
    Calls Tryd.prog 38 #[.string (str l), .string ⟨#[c]⟩] w (Ans (.bool (has c l)) w) := by
  have := Tryd.strings_Contains_one (str l) c w
  rw [str_data] at this
  have e : decide (0 ≤ Lib.indexByte l c) = has c l := by
    rw [indexByte_eq]
    unfold has
    cases h : l.contains c
    · rfl
    · simp
  rw [e] at this
  exact this.mono fun _ _ h => ⟨h.1, h.2.symm⟩

theorem split_l (l : List UInt8) (c : UInt8) (hl : l.length ≤ 1073741824) (w : World) (he : Env w) :
    Calls Tryd.prog 35 #[.string (str l), .string ⟨#[c]⟩] w fun e w' => e = .returned (.slice (some ⟨w.heap.size, 0, none⟩) (spl c (l.count c) l).length (spl c (l.count c) l).length) ∧
      Blk w' w.heap.size (strs (spl c (l.count c) l)) 9 ∧ Below w.heap.size w w' := by
  obtain ⟨h0, m, hm⟩ := he
  refine (Tryd.strings_Split (str l) ⟨#[c]⟩ m w (by rw [str_size]; omega) hm (Nat.le_refl 1)).mono ?_
  rintro e w' ⟨rfl, rfl⟩
  rw [countB_one, spl_length, splitB_spl]
  refine ⟨rfl, ?_, (Below.refl _ _).alloc (Nat.le_refl _) _⟩
  have e : ((spl c (l.count c) l).map str).map Value.string = strs (spl c (l.count c) l) := by simp [strs]
  rw [e]
  exact Blk.new w _ _

/-- one part as it is written: may it be, and what it is -/
def wBare (w : List UInt8) : List UInt8 := Lib.replaceAll (Lib.replaceAll w [126, 48] []) [126, 49] []
def wOk (w : List UInt8) : Bool := (w.count 126 == Lib.count w [126, 48] + Lib.count w [126, 49]) && !has 126 (wBare w)
def wVal (w : List UInt8) : List UInt8 := Lib.replaceAll (Lib.replaceAll w [126, 49] [47]) [126, 48] [126]
/-- pointer.Parse: the parts, or none -/
def parseP : List UInt8 → Option (List (List UInt8))
  | [] => some []
  | c :: t => if c = 47 then (if (spl 47 (t.count 47) t).all wOk then some ((spl 47 (t.count 47) t).map wVal) else none) else none

/-- where a slice's cells lie: from block B on -/
def TxB (B : Nat) (v : Value) : Prop := ∀ a n cap, v = .slice (some a) n cap → B ≤ a.block
def Parsed (o : Option (List (List UInt8))) (w : World) (e : Ending) (w' : World) : Prop := ∃ v, e = .returned (.tuple #[v, .int .i64 (if o.isSome then 0 else 70)]) ∧ Txts w' v (o.getD []) ∧ TxB w.heap.size v ∧ Below w.heap.size w w'
end Go.Proofs.YthicgeiljficbaaDoor
