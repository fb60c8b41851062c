/- Plain: caliperref03.Check, caliperref06.right, Check, Depth come to an end at every tree; what is right has as many keys as values. -/
import Derived.Test.YthicgeiljficbaaDoorRef6
import Derived.Test.YthicgeiljficbaaDoorRef6
import Derived.Test.YthicgeiljficbaaDoorRef7
import Derived.Test.YthicgeiljficbaaDoorPtrVal
import Derived.Test.YthicgeiljficbaaDoorPtrN
namespace Go.Proofs.YthicgeiljficbaaDoor
open Go.RowKit Go.Proofs.YthicgeiljficbaaDoor.Ref Go.Proofs.YthicgeiljficbaaDoorW.PrintWords Go.Proofs.YthicgeiljficbaaDoorW.PrintLast
set_option linter.unusedSimpArgs false
set_option linter.unusedVariables false
set_option linter.unnecessarySimpa false

/-- every tree is one -/
inductive Tree : S28 → Prop
  | mk (x : S28) (h : ∀ y, y ∈ x.f3 → Tree y) : Tree x
theorem wrT1 (n : Nat) (h : n ≤ 281474976710656) : wrap64 ((n : Int) + 1) = ((n + 1 : Nat) : Int) := by unfold wrap64; omega
theorem wrT2 (n : Nat) (h : n ≤ 281474976710656) : wrap64 (wrap64 ((n : Int) + 1) + 1) = ((n + 2 : Nat) : Int) := by rw [wrT1 n h]; unfold wrap64; omega
theorem tree_all : ∀ n (x : S28), bulkT x ≤ n → Tree x := by
  intro n
  induction n with
  | zero => intro x h; rw [bulkT_eq] at h; omega
  | succ n ih =>
    intro x h
    refine .mk x fun y hy => ih y ?_
    have : ∀ l : List S28, y ∈ l → bulkT y ≤ bulkL l := by
      intro l
      induction l with
      | nil => intro h; cases h
      | cons z l ihl =>
        intro h
        rw [bulkL]
        rcases List.mem_cons.1 h with rfl | h
        · omega
        · have := ihl h; omega
    have := this _ hy
    rw [bulkT_eq] at h
    omega
theorem tree (x : S28) : Tree x := tree_all _ x (Nat.le_refl _)
theorem bulk_mem {y : S28} {l : List S28} (h : y ∈ l) : bulkT y ≤ bulkL l := by
  induction l with
  | nil => cases h
  | cons z l ihl =>
    rw [bulkL]
    rcases List.mem_cons.1 h with rfl | h
    · omega
    · have := ihl h; omega
theorem bulkL_len (l : List S28) : l.length ≤ bulkL l := by
  induction l with
  | nil => simp
  | cons z l ih => rw [bulkL, bulkT_eq, List.length_cons]; omega
theorem keys_le {k : ByteArray} {ks : List ByteArray} (h : k ∈ ks) : k.size + 1 ≤ (ks.map fun k => k.size + 1).sum := by
  induction ks with
  | nil => cases h
  | cons z ks ih =>
    simp only [List.map_cons, List.sum_cons]
    rcases List.mem_cons.1 h with rfl | h
    · omega
    · have := ih h; omega
theorem keys_len (ks : List ByteArray) : ks.length ≤ (ks.map fun k => k.size + 1).sum := by
  induction ks with
  | nil => simp
  | cons z ks ih => simp only [List.map_cons, List.sum_cons, List.length_cons]; omega
theorem wrs (n : Nat) (h : 1 ≤ n) (h2 : n ≤ 281474976710656) : wrap64 ((n : Int) - 1) = ((n - 1 : Nat) : Int) := by unfold wrap64; omega

theorem digit_ex (c : Int) : ∃ b, caliperref03_digit.f c = some b := by unfold caliperref03_digit.f; split <;> exact ⟨_, rfl⟩
/-- a number's Check ends -/
theorem dec_ex (g : Bool) (s : ByteArray) (e : Int) (hs : s.size ≤ 1048576) : ∀ k, s.size + 2 ≤ k → ∃ r, caliperref03_Check.f k g s e = some r := by
  have loop : ∀ d i, i + d = s.size → 0 < s.size → ∀ k, d + 1 ≤ k → ∃ r, caliperref03_Check.l0 k (s.size : Int) (i : Int) g s e = some r := by
    intro d
    induction d with
    | zero =>
      intro i hi h0 k hk
      obtain ⟨k, rfl⟩ : ∃ j, k = j + 1 := ⟨k - 1, by omega⟩
      rw [caliperref03_Check.l0, if_neg (by omega)]
      have h1 := wrs s.size h0 (by omega)
      rw [h1]
      split
      · exact ⟨_, rfl⟩
      · rw [if_pos (by omega)]
        split
        · exact ⟨_, rfl⟩
        · rw [if_pos (by omega), if_pos (by omega)]
          split
          · exact ⟨_, rfl⟩
          · split
            · exact ⟨_, rfl⟩
            · split <;> exact ⟨_, rfl⟩
    | succ d ih =>
      intro i hi h0 k hk
      obtain ⟨k, rfl⟩ : ∃ j, k = j + 1 := ⟨k - 1, by omega⟩
      rw [caliperref03_Check.l0, if_pos (by omega), if_pos (by omega), if_pos (by omega)]
      obtain ⟨b, hb⟩ := digit_ex (bt s i)
      rw [hb]
      simp only [Option.bind_some]
      cases b with
      | false => exact ⟨2, by simp⟩
      | true =>
        rw [if_pos rfl, wrT1 i (by omega)]
        exact ih (i + 1) (by omega) h0 k (by omega)
  intro k hk
  unfold caliperref03_Check.f
  by_cases h0 : s.size = 0
  · rw [if_pos (by omega)]
    split
    · exact ⟨_, rfl⟩
    · split <;> exact ⟨_, rfl⟩
  · rw [if_neg (by omega)]
    exact loop s.size 0 (by omega) (by omega) k (by omega)
theorem valid_ex (s : ByteArray) (hs : s.size ≤ 1048576) : ∃ b, caliperref06_valid.f s = some b := by
  unfold caliperref06_valid.f
  rw [if_pos (by omega)]
  exact ⟨_, rfl⟩

mutual
/-- rounds enough -/
def fuelT : S28 → Nat
  | ⟨_, n, _, l, ks⟩ => 10 + n.f1.size + (ks.length + 1) * (ks.length + 3) + 2 * l.length + fuelL l
def fuelL : List S28 → Nat
  | [] => 0
  | x :: xs => fuelT x + fuelL xs
end
theorem fuelT_eq (x : S28) : fuelT x = 10 + x.f1.f1.size + (x.f4.length + 1) * (x.f4.length + 3) + 2 * x.f3.length + fuelL x.f3 := by cases x; rw [fuelT]
theorem fuel_mem {y : S28} {l : List S28} (h : y ∈ l) : fuelT y ≤ fuelL l := by
  induction l with
  | nil => cases h
  | cons z l ihl =>
    rw [fuelL]
    rcases List.mem_cons.1 h with rfl | h
    · omega
    · have := ihl h; omega

/-- right of a tree -/
def rightT (k : Nat) (x : S28) (lev : Int) : Option Bool := caliperref06_right.f k x.f0 x.f1.f0 x.f1.f1 x.f1.f2 x.f2 x.f3 x.f4 lev
def RightOk (x : S28) (o : Option Bool) : Prop := ∃ b, o = some b ∧ (b = true → OkT x)

theorem l2_ex (x : S28) (hb : bulkT x ≤ 1048576) (hx : x.f0 = 6 → x.f4.length = x.f3.length) (ih : ∀ y, y ∈ x.f3 → ∀ lev k, fuelT y ≤ k → RightOk y (rightT k y lev)) (lev : Int) :
    ∀ d i, i + d = x.f3.length → (∀ j, j < i → OkT (x.f3.getD j z28)) → ∀ k, d + 1 + fuelL x.f3 ≤ k → RightOk x (caliperref06_right.l2 k lev i x.f0 x.f1.f0 x.f1.f1 x.f1.f2 x.f2 x.f3 x.f4) := by
  have hl := bulkL_len x.f3
  rw [bulkT_eq] at hb
  intro d
  induction d with
  | zero =>
    intro i hi hj k hk
    obtain ⟨k, rfl⟩ : ∃ j, k = j + 1 := ⟨k - 1, by omega⟩
    rw [caliperref06_right.l2, if_neg (by omega)]
    refine ⟨true, rfl, fun _ => .mk x hx fun y hy => ?_⟩
    obtain ⟨j, hjl, rfl⟩ := List.getElem_of_mem hy
    have := hj j (by omega)
    simpa [List.getD, hjl] using this
  | succ d ihd =>
    intro i hi hj k hk
    obtain ⟨k, rfl⟩ : ∃ j, k = j + 1 := ⟨k - 1, by omega⟩
    have hil : i < x.f3.length := by omega
    have hmem : x.f3.getD i z28 ∈ x.f3 := by simp [List.getD, hil]
    have hrd : rd_T28 x.f3 (i : Int) = x.f3.getD i z28 := by unfold rd_T28; rw [Int.toNat_natCast]
    have hfm := fuel_mem hmem
    obtain ⟨b, h1, h2⟩ := ih _ hmem (wrap64 (lev - 1)) k (by omega)
    unfold rightT at h1
    rw [caliperref06_right.l2, if_pos (by omega), if_pos (by omega), hrd, h1]
    simp only [Option.bind_some]
    cases b with
    | false => exact ⟨false, by simp, fun h => by cases h⟩
    | true =>
      rw [if_pos rfl, wrT1 i (by omega)]
      refine ihd (i + 1) (by omega) (fun j hj2 => ?_) k (by omega)
      rcases Nat.lt_or_ge j i with h | h
      · exact hj j h
      · obtain rfl : j = i := by omega
        exact h2 rfl

theorem l01_ex (x : S28) (hb : bulkT x ≤ 1048576) (lev : Int) (h2 : ∀ k, x.f3.length + 1 + fuelL x.f3 ≤ k → RightOk x (caliperref06_right.l2 k lev 0 x.f0 x.f1.f0 x.f1.f1 x.f1.f2 x.f2 x.f3 x.f4)) :
    ∀ d i, i + d = x.f4.length → ∀ k, d * (x.f4.length + 3) + 2 + (x.f3.length + 1 + fuelL x.f3) ≤ k → RightOk x (caliperref06_right.l0 k lev i x.f0 x.f1.f0 x.f1.f1 x.f1.f2 x.f2 x.f3 x.f4) := by
  have hkl := keys_len x.f4
  have hkb := hb
  rw [bulkT_eq] at hkb
  intro d
  induction d with
  | zero =>
    intro i hi k hk
    obtain ⟨k, rfl⟩ : ∃ j, k = j + 1 := ⟨k - 1, by omega⟩
    rw [caliperref06_right.l0, if_neg (by omega)]
    exact h2 k (by omega)
  | succ d ihd =>
    intro i hi k hk
    obtain ⟨k, rfl⟩ : ∃ j, k = j + 1 := ⟨k - 1, by omega⟩
    have hil : i < x.f4.length := by omega
    have hmem : rdOf ByteArray.empty x.f4 (i : Int) ∈ x.f4 := by simp [rdOf, hil]
    have hkm := keys_le hmem
    obtain ⟨b, hv⟩ := valid_ex (rdOf ByteArray.empty x.f4 (i : Int)) (by omega)
    rw [caliperref06_right.l0, if_pos (by omega), if_pos (by omega), hv]
    simp only [Option.bind_some]
    cases b with
    | false => exact ⟨false, by simp, fun h => by cases h⟩
    | true =>
      rw [if_pos rfl]
      have hmul : (d + 1) * (x.f4.length + 3) = d * (x.f4.length + 3) + (x.f4.length + 3) := by rw [Nat.add_mul, Nat.one_mul]
      rw [hmul] at hk
      have inner : ∀ e j, j + e = i → ∀ k, e + 1 + (d * (x.f4.length + 3) + 2 + (x.f3.length + 1 + fuelL x.f3)) ≤ k → RightOk x (caliperref06_right.l1 k lev i j x.f0 x.f1.f0 x.f1.f1 x.f1.f2 x.f2 x.f3 x.f4) := by
        intro e
        induction e with
        | zero =>
          intro j hj k hk
          obtain ⟨k, rfl⟩ : ∃ q, k = q + 1 := ⟨k - 1, by omega⟩
          rw [caliperref06_right.l1, if_neg (by omega), wrT1 i (by omega)]
          exact ihd (i + 1) (by omega) k (by omega)
        | succ e ihe =>
          intro j hj k hk
          obtain ⟨k, rfl⟩ : ∃ q, k = q + 1 := ⟨k - 1, by omega⟩
          rw [caliperref06_right.l1, if_pos (by omega), if_pos (by omega), if_pos (by omega), if_pos (by omega), if_pos (by omega)]
          split
          · exact ⟨false, rfl, fun h => by cases h⟩
          · rw [wrT1 j (by omega)]
            exact ihe (j + 1) (by omega) k (by omega)
      exact inner i 0 (by omega) k (by omega)

theorem j2_ex (x : S28) (lev : Int) (b : Bool) (k : Nat) (h : RightOk x (caliperref06_right.l0 k lev 0 x.f0 x.f1.f0 x.f1.f1 x.f1.f2 x.f2 x.f3 x.f4)) : RightOk x (caliperref06_right.j2 (k + 1) lev b x.f0 x.f1.f0 x.f1.f1 x.f1.f2 x.f2 x.f3 x.f4) := by
  rw [caliperref06_right.j2]
  cases b with
  | true => exact ⟨false, by simp, fun h => by cases h⟩
  | false => rw [if_neg (by simp)]; exact h
theorem j1_ex (x : S28) (hb : bulkT x ≤ 1048576) (lev : Int) (b : Bool) (k : Nat) (hk : x.f1.f1.size + 2 ≤ k + 1) (h : b = false → RightOk x (caliperref06_right.l0 k lev 0 x.f0 x.f1.f0 x.f1.f1 x.f1.f2 x.f2 x.f3 x.f4)) :
    RightOk x (caliperref06_right.j1 (k + 2) lev b x.f0 x.f1.f0 x.f1.f1 x.f1.f2 x.f2 x.f3 x.f4) := by
  rw [bulkT_eq] at hb
  rw [caliperref06_right.j1]
  cases b with
  | true => exact ⟨false, by simp, fun h => by cases h⟩
  | false =>
    rw [if_neg (by simp)]
    obtain ⟨r, hr⟩ := dec_ex x.f1.f0 x.f1.f1 x.f1.f2 (by omega) (k + 1) hk
    obtain ⟨v, hv⟩ := valid_ex x.f2 (by omega)
    rw [hr]
    simp only [Option.bind_some]
    have hj := h rfl
    split
    · rw [hv]
      simp only [Option.bind_some]
      split
      · split
        · exact j2_ex x lev _ k hj
        · exact j2_ex x lev _ k hj
      · exact j2_ex x lev _ k hj
    · exact j2_ex x lev _ k hj
theorem j0_ex (x : S28) (hb : bulkT x ≤ 1048576) (lev : Int) (b : Bool) (k : Nat) (hk : x.f1.f1.size + 2 ≤ k + 1) (h : (x.f0 = 6 → x.f4.length = x.f3.length) → RightOk x (caliperref06_right.l0 k lev 0 x.f0 x.f1.f0 x.f1.f1 x.f1.f2 x.f2 x.f3 x.f4)) :
    RightOk x (caliperref06_right.j0 (k + 3) lev b x.f0 x.f1.f0 x.f1.f1 x.f1.f2 x.f2 x.f3 x.f4) := by
  rw [caliperref06_right.j0]
  cases b with
  | true => exact ⟨false, by simp, fun h => by cases h⟩
  | false =>
    rw [if_neg (by simp)]
    have any : ∀ b, (b = false → x.f0 = 6 → x.f4.length = x.f3.length) → RightOk x (caliperref06_right.j1 (k + 2) lev b x.f0 x.f1.f0 x.f1.f1 x.f1.f2 x.f2 x.f3 x.f4) := fun b hbb => j1_ex x hb lev b k hk (fun e => h (hbb e))
    have six : (((x.f4.length : Int) != (x.f3.length : Int)) = false → x.f0 = 6 → x.f4.length = x.f3.length) := fun e _ => by
      have := bne_eq_false_iff_eq.1 e
      omega
    split
    · split
      · exact any _ (fun e => by cases e)
      · split
        · exact any _ six
        · split
          · exact any _ (fun e => by cases e)
          · exact any _ (fun _ e => absurd e (by assumption))
    · split
      · exact any _ six
      · split
        · exact any _ (fun e => by cases e)
        · exact any _ (fun _ e => absurd e (by assumption))
theorem right_ex (x : S28) (ht : Tree x) : bulkT x ≤ 1048576 → ∀ lev k, fuelT x ≤ k → RightOk x (rightT k x lev) := by
  induction ht with
  | mk x h ih =>
    intro hb lev k hk
    rw [fuelT_eq] at hk
    have hbx := hb
    rw [bulkT_eq] at hbx
    obtain ⟨k, rfl⟩ : ∃ j, k = j + 4 := ⟨k - 4, by omega⟩
    have hmul : (x.f4.length + 1) * (x.f4.length + 3) = x.f4.length * (x.f4.length + 3) + (x.f4.length + 3) := by rw [Nat.add_mul, Nat.one_mul]
    rw [hmul] at hk
    have hl0 : (x.f0 = 6 → x.f4.length = x.f3.length) → RightOk x (caliperref06_right.l0 k lev 0 x.f0 x.f1.f0 x.f1.f1 x.f1.f2 x.f2 x.f3 x.f4) := by
      intro hx
      refine l01_ex x hb lev (fun k hk => ?_) x.f4.length 0 (by omega) k (by omega)
      refine l2_ex x hb hx (fun y hy lev k hk => ih y hy ?_ lev k hk) lev x.f3.length 0 (by omega) (fun j hj => absurd hj (Nat.not_lt_zero _)) k hk
      have := bulk_mem hy
      omega
    have any : ∀ b, RightOk x (caliperref06_right.j0 (k + 3) lev b x.f0 x.f1.f0 x.f1.f1 x.f1.f2 x.f2 x.f3 x.f4) := fun b => j0_ex x hb lev b k (by omega) hl0
    unfold rightT
    rw [caliperref06_right.f]
    repeat' split
    all_goals exact any _
end Go.Proofs.YthicgeiljficbaaDoor
