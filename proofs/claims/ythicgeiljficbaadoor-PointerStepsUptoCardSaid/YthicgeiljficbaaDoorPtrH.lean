/- utf.goes, utf.Good: is it valid UTF-8? -/
import Derived.Test.YthicgeiljficbaaDoorPtrG
namespace Go.Proofs.YthicgeiljficbaaDoor
open Go.RowKit
set_option linter.unusedSimpArgs false
set_option linter.unusedVariables false
set_option linter.unnecessarySimpa false

/-- how many bytes go on behind a first one, and between which the next one must be -/
def goesV (c : Int) : Int × Int × Int :=
  if c < 128 then (0, 0, 0) else if c < 194 then (-1, 0, 0) else if 244 < c then (-1, 0, 0) else if c < 224 then (1, 128, 191) else if c = 224 then (2, 160, 191)
  else if c = 237 then (2, 128, 159) else if c < 240 then (2, 128, 191) else if c = 240 then (3, 144, 191) else if c = 244 then (3, 128, 143) else (3, 128, 191)
def tri (x : Int × Int × Int) : Value := .tuple #[.int .i64 x.1, .int .u8 x.2.1, .int .u8 x.2.2]

set_option maxHeartbeats 1000000 in
theorem goes_l (c : Int) (w : World) : Calls Tryd.prog 62 #[.int .u8 c] w (Ans (tri (goesV c)) w) := by
  go_enter Tryd.func62, Tryd.ntmps62
  go_wp2
  all_goals refine bodyPost_ret (v := tri (goesV c)) ?_ rfl ⟨rfl, rfl⟩
  all_goals simp only [Bool.or_eq_true, Bool.or_eq_false_iff, decide_eq_true_eq, decide_eq_false_iff_not, beq_iff_eq, beq_eq_false_iff_ne, ne_eq] at *
  all_goals unfold goesV
  all_goals ((repeat' split) <;> first | (exfalso; omega) | (simp [results, Tryd.results62, go_sem, tri]; done) | (exfalso; simp_all; done) | (exfalso; simp_all; omega))

theorem goesV_range (c : Int) : -1 ≤ (goesV c).1 ∧ (goesV c).1 ≤ 3 ∧ 0 ≤ (goesV c).2.1 ∧ (goesV c).2.1 ≤ 255 ∧ 0 ≤ (goesV c).2.2 ∧ (goesV c).2.2 ≤ 255 := by
  unfold goesV
  repeat' split
  all_goals simp

/-- a slice that reads as these bytes -/
def Byts (w : World) (v : Value) (l : List UInt8) : Prop :=
  ∃ a cap, v = .slice a l.length cap ∧ (0 < l.length → ∃ b off, a = some ⟨b, off, none⟩ ∧ b < w.heap.size ∧ ∀ j, j < l.length → w.cell? ⟨b, off + j, none⟩ = some (.int .u8 (l.getD j 0).toNat))
theorem Byts.call {w w' : World} {v : Value} {l : List UInt8} (h : Byts w v l) (hb : Below w.heap.size w w') : Byts w' v l := by
  obtain ⟨a, cap, rfl, h⟩ := h
  refine ⟨a, cap, rfl, fun hl => ?_⟩
  obtain ⟨b, off, rfl, hlt, hc⟩ := h hl
  exact ⟨b, off, rfl, Nat.lt_of_lt_of_le hlt hb.size, fun j hj => (hb.cell (p := ⟨b, off + j, none⟩) hlt).trans (hc j hj)⟩

/-- is it valid, where so many bytes are to go on, the next between these? -/
def utfM : Int → Int → Int → List UInt8 → Bool
  | left, _, _, [] => left == 0
  | left, lo, hi, c :: l => if left = 0 then (if (goesV c.toNat).1 < 0 then false else utfM (goesV c.toNat).1 (goesV c.toNat).2.1 (goesV c.toNat).2.2 l)
    else if (c.toNat : Int) < lo then false else if hi < (c.toNat : Int) then false else utfM (left - 1) 128 191 l
def utfB (l : List UInt8) : Bool := utfM 0 128 191 l
def Gooded (b : Bool) (w : World) (e : Ending) (w' : World) : Prop := w = w' ∧ ∃ n, e = .returned (.tuple #[.int .i64 n, .bool b])

set_option maxHeartbeats 2000000 in
set_option maxRecDepth 100000 in
theorem good_l (v : Value) (l : List UInt8) (w : World) (hv : Byts w v l) (hl : l.length ≤ 281474976710656) : Calls Tryd.prog 43 #[v] w (Gooded (utfB l) w) := by
  obtain ⟨a, cap, rfl, hc⟩ := hv
  obtain ⟨n, hn⟩ : ∃ n, l.length = n := ⟨_, rfl⟩
  have HC := Lib.hid hc
  rw [hn] at hl ⊢
  have HN := Lib.hid hn
  clear hc hn
  go_enter Tryd.func43, Tryd.ntmps43
  go_wp2_with fail
  go_loop [4, 5, 6, 11] (fun vl v5 v6 vi => ∃ (k : Nat) (left lo hi : Int), vl = .int .i64 left ∧ v5 = .int .u8 lo ∧ v6 = .int .u8 hi ∧ vi = .int .i64 k ∧ k ≤ n ∧ 0 ≤ left ∧ left ≤ 3 ∧ 0 ≤ lo ∧ lo ≤ 255 ∧ 0 ≤ hi ∧ hi ≤ 255 ∧ Hid (utfB l = utfM left lo hi (l.drop k)))
    (fun _ _ _ vi => n - (intOf vi).toNat)
  case atStart => exact ⟨0, 0, 128, 191, rfl, rfl, rfl, rfl, by omega, by omega, by omega, by omega, by omega, by omega, by omega, rfl⟩
  case round =>
    obtain ⟨k, left, lo, hi, rfl, rfl, rfl, rfl, hk, h0, h3, l0, l1, i0, i1, HH⟩ := hrel
    by_cases hlt : k < n
    · obtain ⟨b, off, rfl, hb, hc⟩ := HC.out (by rw [HN.out]; omega)
      have hcell := hc k (by rw [HN.out]; omega)
      have hdrop : l.drop k = l.getD k 0 :: l.drop (k + 1) := drop_two (by rw [HN.out]; omega)
      have hh := HH.out
      rw [hdrop] at hh
      generalize l.getD k 0 = c at *
      clear hc hdrop HH
      have hc256 : c.toNat < 256 := c.toNat_lt
      by_cases hz : left = 0
      · subst hz
        obtain ⟨r0, r1, r2, r3, r4, r5⟩ := goesV_range c.toNat
        have hg := goes_l c.toNat
        have hh1 : Hid (utfB l = if (goesV c.toNat).1 < 0 then false else utfM (goesV c.toNat).1 (goesV c.toNat).2.1 (goesV c.toNat).2.2 (l.drop (k + 1))) := by rw [hh]; rfl
        clear hh
        generalize goesV c.toNat = g at *
        obtain ⟨g1, g2, g3⟩ := g
        have hg : ∀ w, Calls Tryd.prog 62 #[.int .u8 c.toNat] w (Ans (.tuple #[.int .i64 g1, .int .u8 g2, .int .u8 g3]) w) := hg
        simp only at r0 r1 r2 r3 r4 r5 hh1
        by_cases hneg : g1 < 0
        · have hh2 : Hid (utfB l = false) := by have := hh1.out; rw [if_pos hneg] at this; exact this
          clear hh1
          go_wp2_with (first | (go_at_call 62; refine (hg _).mono ?_; rintro e w' ⟨rfl, rfl⟩))
          refine bodyPost_ret (v := .tuple #[.int .i64 k, .bool false]) (by simp [results, Tryd.results43, go_sem]) rfl ⟨rfl, _, by rw [hh2.out]⟩
        · have hh2 : Hid (utfB l = utfM g1 g2 g3 (l.drop (k + 1))) := by have := hh1.out; rw [if_neg hneg] at this; exact this
          clear hh1
          go_wp2_with (first | (go_at_call 62; refine (hg _).mono ?_; rintro e w' ⟨rfl, rfl⟩))
          exact ⟨⟨k + 1, g1, g2, g3, rfl, rfl, rfl, by congr 1, by omega, by omega, by omega, by omega, by omega, by omega, by omega, hh2.out⟩, by simp [intOf]; omega⟩
      · have hh1 : Hid (utfB l = if (c.toNat : Int) < lo then false else if hi < (c.toNat : Int) then false else utfM (left - 1) 128 191 (l.drop (k + 1))) := Lib.hid (by rw [hh]; simp [utfM, hz])
        clear hh
        by_cases hlo : (c.toNat : Int) < lo
        · have hh2 : Hid (utfB l = false) := by have := hh1.out; rw [if_pos hlo] at this; exact this
          clear hh1
          go_wp2_with fail
          refine bodyPost_ret (v := .tuple #[.int .i64 k, .bool false]) (by simp [results, Tryd.results43, go_sem]) rfl ⟨rfl, _, by rw [hh2.out]⟩
        · by_cases hhi : hi < (c.toNat : Int)
          · have hh2 : Hid (utfB l = false) := by have := hh1.out; rw [if_neg hlo, if_pos hhi] at this; exact this
            clear hh1
            go_wp2_with fail
            refine bodyPost_ret (v := .tuple #[.int .i64 k, .bool false]) (by simp [results, Tryd.results43, go_sem]) rfl ⟨rfl, _, by rw [hh2.out]⟩
          · have hh2 : Hid (utfB l = utfM (left - 1) 128 191 (l.drop (k + 1))) := by have := hh1.out; rw [if_neg hlo, if_neg hhi] at this; exact this
            clear hh1
            go_wp2_with fail
            exact ⟨⟨k + 1, left - 1, 128, 191, rfl, rfl, rfl, by congr 1, by omega, by omega, by omega, by omega, by omega, by omega, by omega, hh2.out⟩, by simp [intOf]; omega⟩
    · obtain rfl : k = n := by omega
      have hh : utfB l = (left == 0) := by rw [HH.out, List.drop_eq_nil_of_le (by rw [HN.out]; omega)]; rfl
      have HE := Lib.hid hh
      clear hh HH
      go_wp2_with fail
      refine bodyPost_ret (v := .tuple #[.int .i64 k, .bool (left == 0)]) (by simp [results, Tryd.results43, go_sem]) rfl ⟨rfl, _, by rw [HE.out]⟩
end Go.Proofs.YthicgeiljficbaaDoor
