/- caliperref01.Good is utf.Good's law; what is escaped comes back. -/
import Derived.Test.YthicgeiljficbaaDoorRef1
import Derived.Test.YthicgeiljficbaaDoorPtrI
import Derived.Test.YthicgeiljficbaaDoorPtrK
namespace Go.Proofs.YthicgeiljficbaaDoor
open Go.RowKit Go.Proofs.YthicgeiljficbaaDoor.Ref Go.Proofs.YthicgeiljficbaaDoorW.PrintWords
set_option linter.unusedSimpArgs false
set_option linter.unusedVariables false
set_option linter.unnecessarySimpa false

def ints (l : List UInt8) : List Int := l.map fun c => (c.toNat : Int)
theorem rd_ints (l : List UInt8) (i : Nat) (h : i < l.length) : rd (ints l) (i : Int) = ((l.getD i 0).toNat : Int) := by
  unfold rd ints
  simp [List.getD, h]
theorem ints_len (l : List UInt8) : (ints l).length = l.length := by simp [ints]

theorem utfM_zero (a b : Int) (l : List UInt8) : utfM 0 a b l = utfB l := by
  unfold utfB
  cases l <;> simp [utfM]

/-- how many bytes a first one begins, 0: nothing -/
def lenV (c : Int) : Int := (goesV c).1 + 1
theorem goes_lt (c : Int) (h : c < 128) : goesV c = (0, 0, 0) := by unfold goesV; rw [if_pos h]
theorem goes_no (c : Int) (h : 128 ≤ c) (h2 : c < 194 ∨ 244 < c) : goesV c = (-1, 0, 0) := by
  unfold goesV
  rw [if_neg (by omega)]
  rcases h2 with h2 | h2
  · rw [if_pos h2]
  · rw [if_neg (by omega), if_pos h2]
theorem goes_1 (c : Int) (h : 194 ≤ c) (h2 : c < 224) : goesV c = (1, 128, 191) := by
  unfold goesV
  rw [if_neg (by omega), if_neg (by omega), if_neg (by omega), if_pos h2]
theorem goes_2 (c : Int) (h : 224 ≤ c) (h2 : c < 240) : goesV c = (2, if c = 224 then 160 else 128, if c = 237 then 159 else 191) := by
  unfold goesV
  rw [if_neg (by omega), if_neg (by omega), if_neg (by omega), if_neg (by omega)]
  by_cases h3 : c = 224
  · subst h3; rfl
  · rw [if_neg h3, if_neg h3]
    by_cases h4 : c = 237
    · rw [if_pos h4, if_pos h4]
    · rw [if_neg h4, if_neg h4, if_pos h2]
theorem goes_3 (c : Int) (h : 240 ≤ c) (h2 : c ≤ 244) : goesV c = (3, if c = 240 then 144 else 128, if c = 244 then 143 else 191) := by
  unfold goesV
  rw [if_neg (by omega), if_neg (by omega), if_neg (by omega), if_neg (by omega), if_neg (by omega), if_neg (by omega), if_neg (by omega)]
  by_cases h3 : c = 240
  · subst h3; rfl
  · rw [if_neg h3, if_neg h3]
    by_cases h4 : c = 244
    · rw [if_pos h4, if_pos h4]
    · rw [if_neg h4, if_neg h4]
theorem goes_cases (c : Int) (h0 : 0 ≤ c) : (c < 128 ∧ goesV c = (0, 0, 0)) ∨ (128 ≤ c ∧ (c < 194 ∨ 244 < c) ∧ goesV c = (-1, 0, 0)) ∨ (194 ≤ c ∧ c < 224 ∧ goesV c = (1, 128, 191)) ∨
    (224 ≤ c ∧ c < 240 ∧ goesV c = (2, if c = 224 then 160 else 128, if c = 237 then 159 else 191)) ∨ (240 ≤ c ∧ c ≤ 244 ∧ goesV c = (3, if c = 240 then 144 else 128, if c = 244 then 143 else 191)) := by
  by_cases h1 : c < 128
  · exact .inl ⟨h1, goes_lt c h1⟩
  · by_cases h2 : c < 194 ∨ 244 < c
    · exact .inr (.inl ⟨by omega, h2, goes_no c (by omega) h2⟩)
    · by_cases h3 : c < 224
      · exact .inr (.inr (.inl ⟨by omega, h3, goes_1 c (by omega) h3⟩))
      · by_cases h4 : c < 240
        · exact .inr (.inr (.inr (.inl ⟨by omega, h4, goes_2 c (by omega) h4⟩)))
        · exact .inr (.inr (.inr (.inr ⟨by omega, by omega, goes_3 c (by omega) (by omega)⟩)))
theorem length_is (k : Nat) (hk : 2 ≤ k) (c : Int) (h0 : 0 ≤ c) : caliperref01_length.f k c = some (lenV c) := by
  obtain ⟨k, rfl⟩ : ∃ m, k = m + 2 := ⟨k - 2, by omega⟩
  unfold caliperref01_length.f lenV
  rcases goes_cases c h0 with ⟨h1, e⟩ | ⟨h1, h2, e⟩ | ⟨h1, h2, e⟩ | ⟨h1, h2, e⟩ | ⟨h1, h2, e⟩
  · rw [if_pos h1, e]; rfl
  · rw [if_neg (by omega), e]
    rcases h2 with h2 | h2
    · rw [if_neg (by omega), caliperref01_length.j0, if_neg (by simp), if_neg (by omega), caliperref01_length.j1, if_neg (by simp), if_neg (by omega)]; rfl
    · rw [if_pos (by omega), caliperref01_length.j0, if_neg (by simp; omega), if_pos (by omega), caliperref01_length.j1, if_neg (by simp; omega), if_pos (by omega), if_neg (by omega)]; rfl
  · rw [if_neg (by omega), e, if_pos (by omega), caliperref01_length.j0, if_pos (by simp; omega)]; rfl
  · rw [if_neg (by omega), e, if_pos (by omega), caliperref01_length.j0, if_neg (by simp; omega), if_pos (by omega), caliperref01_length.j1, if_pos (by simp; omega)]; rfl
  · rw [if_neg (by omega), e, if_pos (by omega), caliperref01_length.j0, if_neg (by simp; omega), if_pos (by omega), caliperref01_length.j1, if_neg (by simp; omega), if_pos (by omega), if_pos (by omega)]; rfl
theorem second_is (c d : Int) (h1 : 194 ≤ c) (h2 : c ≤ 244) : caliperref01_second.f c d = some (decide ((goesV c).2.1 ≤ d ∧ d ≤ (goesV c).2.2)) := by
  have key : ∀ (a b : Int), (if d ≥ a then some (decide (d ≤ b)) else some false) = some (decide (a ≤ d ∧ d ≤ b)) := by
    intro a b
    by_cases h : d ≥ a
    · rw [if_pos h]; simp [h]
    · rw [if_neg h]; simp [h]
  unfold caliperref01_second.f
  simp only [key]
  rcases goes_cases c (by omega) with ⟨h, e⟩ | ⟨h, h', e⟩ | ⟨h, h', e⟩ | ⟨h, h', e⟩ | ⟨h, h', e⟩
  · omega
  · omega
  · rw [e, if_neg (by omega), if_neg (by omega), if_neg (by omega), if_neg (by omega)]
  · rw [e]
    by_cases h3 : c = 224
    · subst h3; rfl
    · by_cases h4 : c = 237
      · subst h4; rfl
      · rw [if_neg h3, if_neg h4, if_neg (by omega), if_neg (by omega)]; simp only [if_neg h3, if_neg h4]
  · rw [e]
    by_cases h3 : c = 240
    · subst h3; rfl
    · by_cases h4 : c = 244
      · subst h4; rfl
      · rw [if_neg (by omega), if_neg (by omega), if_neg h3, if_neg h4]; simp only [if_neg h3, if_neg h4]

theorem wrap_in {x : Int} (h0 : 0 ≤ x) (h1 : x ≤ 9223372036854775807) : wrap64 x = x := by unfold wrap64; omega

/-- the bytes behind a first one: from byte i of n on -/
theorem step_loop (l : List UInt8) (hl : l.length ≤ 281474976710656) (at_ : Nat) (c : UInt8) (t : List UInt8) (hd : l.drop at_ = c :: t) (h1 : 194 ≤ (c.toNat : Int)) (h2 : (c.toNat : Int) ≤ 244) (n : Nat) (hn : (n : Int) = lenV c.toNat)  :
    ∀ (m i : Nat), 1 ≤ i → n = i + m → at_ + i ≤ l.length → ∀ k, m + 1 ≤ k →
      ∃ (r : Nat) (ok : Bool), caliperref01_step.l0 k (ints l) at_ n i = some ((r : Int), ok) ∧ r ≤ n ∧ at_ + r ≤ l.length ∧ (ok = true → r = n) ∧
        utfM (m : Int) (if i = 1 then (goesV c.toNat).2.1 else 128) (if i = 1 then (goesV c.toNat).2.2 else 191) (l.drop (at_ + i)) = (ok && utfB (l.drop (at_ + n))) := by
  have hlen : at_ < l.length := by
    rcases Nat.lt_or_ge at_ l.length with h | h
    · exact h
    · rw [List.drop_eq_nil_of_le h] at hd; cases hd
  have hc : l.getD at_ 0 = c := by
    have := congrArg (·[0]?) hd
    simp at this
    simp [List.getD, this]
  have hil := ints_len l
  have hn4 : n ≤ 4 := by
    have := goesV_range c.toNat
    unfold lenV at hn
    omega
  clear hn
  have HIL := Lib.hid hil
  clear hil
  intro m
  induction m with
  | zero =>
    intro i hi hni hai k hk
    obtain ⟨k, rfl⟩ : ∃ j, k = j + 1 := ⟨k - 1, by omega⟩
    obtain rfl : n = i := hni
    refine ⟨n, true, ?_, Nat.le_refl _, hai, fun _ => rfl, ?_⟩
    · simp only [caliperref01_step.l0]
      rw [if_neg (by omega)]
    · rw [Bool.true_and]
      exact utfM_zero _ _ _
  | succ m ih =>
    intro i hi hni hai k hk
    obtain ⟨k, rfl⟩ : ∃ j, k = j + 1 := ⟨k - 1, by omega⟩
    have hw : wrap64 ((at_ : Int) + (i : Int)) = ((at_ + i : Nat) : Int) := by rw [wrap_in (by omega) (by omega)]; omega
    have HW := Lib.hid hw
    clear hw
    have hw2 : wrap64 ((i : Int) + 1) = ((i + 1 : Nat) : Int) := by rw [wrap_in (by omega) (by omega)]; omega
    have HW2 := Lib.hid hw2
    clear hw2
    have hm1 : ((m + 1 : Nat) : Int) ≠ 0 := by omega
    have hm2 : ((m + 1 : Nat) : Int) - 1 = (m : Int) := by omega
    have hin : (i : Int) < (n : Int) := by omega
    by_cases hend : at_ + i = l.length
    · have hs : caliperref01_step.l0 (k + 1) (ints l) at_ n i = some ((i : Int), false) := by
        simp only [caliperref01_step.l0]
        rw [if_pos hin, HW.out, HIL.out, if_pos (by omega)]
      refine ⟨i, false, hs, by omega, hai, (fun h => absurd h (by simp)), ?_⟩
      rw [hend, List.drop_length, Bool.false_and]
      simp [utfM]
      omega
    · have hlt : at_ + i < l.length := by omega
      have hr1 := rd_ints l (at_ + i) hlt
      have hr0 := rd_ints l at_ hlen
      rw [hc] at hr0
      have HR0 := Lib.hid hr0
      have HR1 := Lib.hid hr1
      clear hr0 hr1
      have hdd : l.drop (at_ + i) = l.getD (at_ + i) 0 :: l.drop (at_ + (i + 1)) := by
        rw [List.drop_eq_getElem_cons hlt]
        simp [List.getD, hlt, Nat.add_assoc]
      have q1 : n = i + 1 + m := by omega
      have q2 : at_ + (i + 1) ≤ l.length := by omega
      have q3 : m + 1 ≤ k := by omega
      have hne : ¬ i + 1 = 1 := fun e => by have := Nat.succ.inj e; subst this; exact absurd hi (by decide)
      have hih := ih (i + 1) (Nat.le_add_left 1 i) q1 q2 k q3
      rw [if_neg hne, if_neg hne] at hih
      clear q1 q2 q3 hne
      rw [hdd, utfM, if_neg hm1, hm2]
      generalize l.getD (at_ + i) 0 = d at *
      by_cases h11 : i = 1
      · rw [if_pos h11, if_pos h11]
        by_cases hb : (goesV c.toNat).2.1 ≤ (d.toNat : Int) ∧ (d.toNat : Int) ≤ (goesV c.toNat).2.2
        · have hs : caliperref01_step.l0 (k + 1) (ints l) at_ n i = caliperref01_step.l0 k (ints l) at_ n ((i + 1 : Nat) : Int) := by
            simp only [caliperref01_step.l0]
            rw [if_pos hin, HW.out, HIL.out, HW2.out, if_neg (by omega), if_pos (by omega), if_pos (by omega), HR0.out, HR1.out, if_pos (by omega), if_pos (by omega), if_pos (by omega), second_is _ _ h1 h2]
            simp only [Option.bind_some]
            rw [if_pos (decide_eq_true hb), if_neg (by omega)]
          rw [hs, if_neg (by omega), if_neg (by omega)]
          exact hih
        · have hs : caliperref01_step.l0 (k + 1) (ints l) at_ n i = some ((i : Int), false) := by
            simp only [caliperref01_step.l0]
            rw [if_pos hin, HW.out, HIL.out, HW2.out, if_neg (by omega), if_pos (by omega), if_pos (by omega), HR0.out, HR1.out, if_pos (by omega), if_pos (by omega), if_pos (by omega), second_is _ _ h1 h2]
            simp only [Option.bind_some]
            rw [if_neg (by rw [decide_eq_true_eq]; exact hb)]
          refine ⟨i, false, hs, by omega, hai, (fun h => absurd h (by simp)), ?_⟩
          rw [Bool.false_and]
          by_cases hb1 : (d.toNat : Int) < (goesV c.toNat).2.1
          · rw [if_pos hb1]
          · rw [if_neg hb1, if_pos (by omega)]
      · rw [if_neg h11, if_neg h11]
        by_cases hb : 128 ≤ (d.toNat : Int) ∧ (d.toNat : Int) ≤ 191
        · have hs : caliperref01_step.l0 (k + 1) (ints l) at_ n i = caliperref01_step.l0 k (ints l) at_ n ((i + 1 : Nat) : Int) := by
            simp only [caliperref01_step.l0]
            rw [if_pos hin, HW.out, HIL.out, HW2.out, if_neg (by omega), if_pos (by omega), if_pos (by omega), HR0.out, HR1.out, if_neg (by omega), if_pos (by omega), if_neg (by omega), if_neg (by omega)]
          rw [hs, if_neg (by omega), if_neg (by omega)]
          exact hih
        · have hs : caliperref01_step.l0 (k + 1) (ints l) at_ n i = some ((i : Int), false) := by
            simp only [caliperref01_step.l0]
            rw [if_pos hin, HW.out, HIL.out, HW2.out, if_neg (by omega), if_pos (by omega), if_pos (by omega), HR0.out, HR1.out, if_neg (by omega), if_pos (by omega)]
            by_cases hb1 : (d.toNat : Int) < 128
            · rw [if_pos hb1]
            · rw [if_neg hb1, if_pos (by omega)]
          refine ⟨i, false, hs, by omega, hai, (fun h => absurd h (by simp)), ?_⟩
          rw [Bool.false_and]
          by_cases hb1 : (d.toNat : Int) < 128
          · rw [if_pos hb1]
          · rw [if_neg hb1, if_pos (by omega)]

theorem step_is (l : List UInt8) (hl : l.length ≤ 281474976710656) (at_ : Nat) (c : UInt8) (t : List UInt8) (hd : l.drop at_ = c :: t) (k : Nat) (hk : 5 ≤ k) :
    ∃ (r : Nat) (ok : Bool), caliperref01_step.f k (ints l) at_ = some ((r : Int), ok) ∧ at_ + r ≤ l.length ∧ (ok = true → 1 ≤ r) ∧ utfB (l.drop at_) = (ok && utfB (l.drop (at_ + r))) := by
  have hlen : at_ < l.length := by
    rcases Nat.lt_or_ge at_ l.length with h | h
    · exact h
    · rw [List.drop_eq_nil_of_le h] at hd; cases hd
  have hc : l.getD at_ 0 = c := by
    have := congrArg (·[0]?) hd
    simp at this
    simp [List.getD, this]
  have ht : l.drop (at_ + 1) = t := by
    have := congrArg (List.drop 1) hd
    simpa [List.drop_drop, Nat.add_comm] using this
  have hil := ints_len l
  have hr0 := rd_ints l at_ hlen
  rw [hc] at hr0
  have hrg := goesV_range c.toNat
  have hu : utfB (c :: t) = if (goesV c.toNat).1 < 0 then false else utfM (goesV c.toNat).1 (goesV c.toNat).2.1 (goesV c.toNat).2.2 t := by
    unfold utfB
    rw [utfM, if_pos rfl]
  unfold caliperref01_step.f
  rw [if_pos (by omega), if_pos (by omega), hr0, length_is k (by omega) _ (by omega), hd, hu]
  simp only [Option.bind_some]
  have hcs := goes_cases (c.toNat : Int) (by omega)
  by_cases hg : (goesV c.toNat).1 < 0
  · rw [if_pos (by unfold lenV; omega), if_pos hg]
    exact ⟨0, false, rfl, by omega, (fun h => absurd h (by simp)), by simp⟩
  · rw [if_neg (by unfold lenV; omega), if_neg hg]
    obtain ⟨g, hg2⟩ : ∃ g : Nat, (goesV c.toNat).1 = g := ⟨(goesV c.toNat).1.toNat, by omega⟩
    have hn : lenV c.toNat = ((1 + g : Nat) : Int) := by unfold lenV; omega
    rw [hn]
    by_cases h0 : g = 0
    · subst h0
      obtain ⟨k, rfl⟩ : ∃ j, k = j + 1 := ⟨k - 1, by omega⟩
      simp only [caliperref01_step.l0]
      rw [if_neg (by omega)]
      refine ⟨1, true, rfl, by omega, fun _ => by omega, ?_⟩
      rw [hg2, Bool.true_and, ht]
      exact utfM_zero _ _ _
    · have hb : 194 ≤ (c.toNat : Int) ∧ (c.toNat : Int) ≤ 244 := by
        rcases hcs with ⟨h1, e⟩ | ⟨h1, h2, e⟩ | ⟨h1, h2, e⟩ | ⟨h1, h2, e⟩ | ⟨h1, h2, e⟩
        · have := congrArg Prod.fst e; simp only at this; omega
        · have := congrArg Prod.fst e; simp only at this; omega
        all_goals omega
      obtain ⟨r, ok, h1, h2, h3, h4, h5⟩ := step_loop l hl at_ c t hd hb.1 hb.2 (1 + g) hn.symm g 1 (by omega) (by omega) (by omega) k (by omega)
      rw [if_pos rfl, if_pos rfl, ht, ← hg2] at h5
      refine ⟨r, ok, h1, h3, fun h => by have := h4 h; omega, ?_⟩
      rw [h5]
      cases ok with
      | false => simp
      | true => rw [h4 rfl]

theorem good_loop (l : List UInt8) (hl : l.length ≤ 281474976710656) : ∀ (d at_ : Nat), at_ + d = l.length → ∀ k, d + 7 ≤ k → ∃ r, caliperref01_Good.l0 k (ints l) at_ = some (r, utfB (l.drop at_)) := by
  intro d
  induction d using Nat.strongRecOn with
  | _ d ih =>
    intro at_ ha k hk
    obtain ⟨k, rfl⟩ : ∃ j, k = j + 1 := ⟨k - 1, by omega⟩
    have hil := ints_len l
    simp only [caliperref01_Good.l0]
    rw [hil]
    by_cases hlt : at_ < l.length
    · rw [if_pos (by omega)]
      obtain ⟨r, ok, h1, h2, h3, h4⟩ := step_is l hl at_ l[at_] (l.drop (at_ + 1)) (List.drop_eq_getElem_cons hlt) k (by omega)
      rw [h1, h4]
      simp only [Option.bind_some]
      have hw : wrap64 ((at_ : Int) + (r : Int)) = ((at_ + r : Nat) : Int) := by rw [wrap_in (by omega) (by omega)]; omega
      rw [hw]
      cases ok with
      | false => exact ⟨((at_ + r : Nat) : Int), by simp⟩
      | true =>
        have := h3 rfl
        rw [if_pos rfl, Bool.true_and]
        exact ih (l.length - (at_ + r)) (by omega) (at_ + r) (by omega) k (by omega)
    · rw [if_neg (by omega), List.drop_eq_nil_of_le (by omega)]
      exact ⟨_, rfl⟩
theorem good_is (l : List UInt8) (hl : l.length ≤ 281474976710656) : ∃ k r, caliperref01_Good.f k (ints l) = some (r, utfB l) := by
  obtain ⟨r, h⟩ := good_loop l hl l.length 0 (by omega) (l.length + 7) (by omega)
  exact ⟨_, r, h⟩

/-- a row of bytes -/
theorem C_byts {W : World} {v : Value} {l : List UInt8} (h : Byts W v l) (hl : l.length ≤ 281474976710656) : ∃ a cap, v = .slice a (ints l).length cap ∧ Kd.C (Kd.int .u8) W a (ints l).length (ints l) := by
  obtain ⟨a, cap, rfl, h⟩ := h
  have hil := ints_len l
  refine ⟨a, cap, by rw [hil], rfl, by omega, fun hn => ?_⟩
  obtain ⟨b, off, rfl, hlt, hc⟩ := h (by omega)
  refine ⟨_, rfl, fun j p hj => ⟨[.int .u8 p], rfl, rfl, fun i u hu => ?_⟩⟩
  have hjl : j < l.length := by
    have := (List.getElem?_eq_some_iff.1 hj).1
    omega
  obtain rfl : i = 0 := by
    have := (List.getElem?_eq_some_iff.1 hu).1
    simp at this
    exact this
  have hp : p = ((l.getD j 0).toNat : Int) := by
    unfold ints at hj
    simp [hjl] at hj
    simp [List.getD, hjl, ← hj]
  have e : (⟨b, off, none⟩ : Addr).add (j * 1 + 0) = ⟨b, off + j, none⟩ := by
    rw [Nat.mul_one, Nat.add_zero]
    cases j <;> simp [Addr.add]
  have e2 : (Kd.int .u8).sz = 1 := rfl
  rw [e2, e, hc j hjl, ← hp]
  simpa using hu
theorem goodR_l (v : Value) (l : List UInt8) (w : World) (hv : Byts w v l) (hl : l.length ≤ 281474976710656) (hcap : ∀ a n cap, v = .slice a n cap → n ≤ cap) :
    Calls Tryd.prog 23 #[v] w (fun e w' => Below w.heap.size w w' ∧ ∃ n, e = .returned (.tuple #[.int .i64 n, .bool (utfB l)])) := by
  obtain ⟨k, r, h⟩ := good_is l hl
  obtain ⟨a, cap, rfl, hC⟩ := C_byts hv hl
  refine (caliperref01_Good.calls k a cap (ints l) r (utfB l) w hC (hcap _ _ _ rfl) h).mono ?_
  rintro e w' ⟨rfl, hd⟩
  exact ⟨hd.below, r, rfl⟩
end Go.Proofs.YthicgeiljficbaaDoor
