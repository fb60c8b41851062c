/- strconv.ParseUint, base 16, 8 bits, at two bytes. -/
import Derived.Test.YthicgeiljficbaaDoorPtrF
import Derived.IntWalk
import Derived.Lib.ConvBytes
namespace Go.Proofs.YthicgeiljficbaaDoor
open Go.RowKit
set_option linter.unusedSimpArgs false
set_option linter.unusedVariables false
set_option linter.unnecessarySimpa false

/-- '[]byte(s)': a row of its own, whose cells are the bytes -/
theorem conv_bytes (s : ByteArray) (w : World) : ∃ cap W', (convert 9 51 (.string s)).run Tryd.prog w = .ok (.slice (some ⟨w.heap.size, 0, none⟩) s.size cap) W' ∧
    Below w.heap.size w W' ∧ w.heap.size < W'.heap.size ∧ ∀ j, j < s.size → W'.cell? ⟨w.heap.size, j, none⟩ = some (.int .u8 (s.data.toList.getD j 0).toNat) := by
  refine ⟨_, _, Lib.run_convert_string_bytes w 9 51 5 s Tryd.underlying9 Tryd.underlying51 Tryd.underlying5, ?_, ?_, ?_⟩
  · refine ⟨?_, ?_, ?_, ?_, fun k hk => Lib.bytesWorld_at_old w _ s k hk⟩
    · simp [Lib.bytesWorld, World.freeze, World.alloc, World.drew, -World.alloc_eq, -World.drew_eq]
    · simp [Lib.bytesWorld, World.freeze, World.alloc, World.drew, -World.alloc_eq, -World.drew_eq]
    · simp [Lib.bytesWorld, World.freeze, World.alloc, World.drew, -World.alloc_eq, -World.drew_eq]
    · rw [Lib.bytesWorld_size]; omega
  · rw [Lib.bytesWorld_size]; omega
  · exact fun j hj => Lib.bytesWorld_cell w _ s j hj

/-- the value of a hexadecimal digit -/
def hexV (c : UInt8) : Option Nat :=
  if 48 ≤ c.toNat ∧ c.toNat ≤ 57 then some (c.toNat - 48) else if 97 ≤ low c.toNat ∧ low c.toNat ≤ 102 then some ((low c.toNat).toNat - 87) else none
def hexN : Nat → List UInt8 → Option Nat
  | a, [] => some a
  | a, c :: l => match hexV c with
    | none => none
    | some d => hexN (a * 16 + d) l
theorem hexV_lt {c : UInt8} {d : Nat} (h : hexV c = some d) : d < 16 := by
  unfold hexV at h
  split at h
  · simp at h; omega
  · split at h
    · simp at h; omega
    · simp at h
/-- what the inner ParseUint answers -/
def hexRes : Option Nat → Value
  | some n => .tuple #[.int .u64 n, .nilIface]
  | none => .tuple #[.int .u64 0, .iface 103 (.int .i64 2)]

theorem low95 : low 95 = 127 := by decide
theorem lower_l (c : Int) (w : World) : Calls Tryd.prog 77 #[.int .u8 c] w (Ans (.int .u8 (low c)) w) :=
  (Tryd.internal_strconv_lower c w).mono fun _ _ h => ⟨h.1, h.2.symm⟩

set_option maxRecDepth 100000 in
set_option maxHeartbeats 4000000 in
theorem parse16_in (s : ByteArray) (hs : s.size = 2) (w : World) :
    Calls Tryd.prog 60 #[.string s, .int .i64 16, .int .i64 8] w (New (hexRes (hexN 0 s.data.toList)) w) := by
  obtain ⟨cap, W, hconv, hb, hlt, hc⟩ := conv_bytes s w
  have HC := Lib.hid hc
  have HB := Lib.hid hb
  clear hc hb hlt
  have hemp : s.toList.isEmpty = false := by
    rw [← decide_eq_emptyBytes]
    refine decide_eq_false (fun h => ?_)
    rw [h] at hs
    exact absurd hs (by decide)
  have hmv : IntKind.u64.wrap (IntKind.u64.wrap 256 - 1) = 255 := by
    rw [IntKind.wrap_u64, IntKind.wrap_u64]
    decide
  obtain ⟨bs, hL⟩ : ∃ bs, bs = s.data.toList := ⟨_, rfl⟩
  have hLn : bs.length = 2 := by rw [hL, ← Lib.size_eq]; exact hs
  rw [← hL] at HC ⊢
  clear hL
  rw [hs] at hconv
  have HS : Hid (s.size = 2) := hs
  clear hs
  go_enter Tryd.func60, Tryd.ntmps60
  go_wp2_with fail
  clear hconv
  go_loop [12, 13, 101] (fun vu vn vi => ∃ (k acc : Nat), vu = .bool false ∧ vn = .int .u64 acc ∧ vi = .int .i64 k ∧ k ≤ 2 ∧ acc ≤ 255 ∧ (k < 2 → acc ≤ 15) ∧ Hid (hexN 0 bs = hexN acc (bs.drop k) ∧ (k = 0 → acc = 0)))
    (fun _ _ vi => 2 - (intOf vi).toNat)
  case atStart => exact ⟨0, 0, rfl, rfl, rfl, by omega, by omega, by omega, rfl, fun _ => rfl⟩
  case round =>
    obtain ⟨k, acc, rfl, rfl, rfl, hk, hacc, hacc2, hh⟩ := hrel
    by_cases hlt : k < 2
    · have hcell := HC.out k (by rw [HS.out]; exact hlt)
      have hdrop : bs.drop k = bs.getD k 0 :: bs.drop (k + 1) := drop_two (by omega)
      generalize bs.getD k 0 = c at hcell hdrop
      have hc256 : c.toNat < 256 := c.toNat_lt
      have hacc3 : acc ≤ 15 := hacc2 hlt
      have hh1 := hh.out.1
      have HK : Hid (k = 0 → acc = 0) := hh.out.2
      rw [hdrop] at hh1
      clear hh hacc2 hdrop
      obtain ⟨a, ha⟩ : ∃ a : Int, a = (acc : Int) := ⟨_, rfl⟩
      have a0 : 0 ≤ a := by omega
      have a1 : a ≤ 15 := by omega
      rw [← ha]
      have HA := Lib.hid ha
      have HI := Lib.hid hacc3
      clear ha hacc hacc3
      by_cases hdig : 48 ≤ c.toNat ∧ c.toNat ≤ 57
      · have hv : hexV c = some (c.toNat - 48) := by simp [hexV, hdig]
        have HN : Hid (hexN 0 bs = hexN (acc * 16 + (c.toNat - 48)) (bs.drop (k + 1))) := Lib.hid (by rw [hh1]; simp [hexN, hv])
        obtain ⟨d0, d1⟩ := hdig
        clear hh1 hv
        go_wp2_with fail
        have ha := HA.out
        have hi := HI.out
        have hk0 := HK.out
        exact ⟨⟨k + 1, acc * 16 + (c.toNat - 48), rfl, (by congr 1; omega), (by congr 1), by omega, by omega, by omega, HN.out, by omega⟩, by simp [intOf]; omega⟩
      · by_cases hlet : 97 ≤ low c.toNat ∧ low c.toNat ≤ 102
        · have hv : hexV c = some ((low c.toNat).toNat - 87) := by simp [hexV, hdig, hlet]
          have HN : Hid (hexN 0 bs = hexN (acc * 16 + ((low c.toNat).toNat - 87)) (bs.drop (k + 1))) := Lib.hid (by rw [hh1]; simp [hexN, hv])
          obtain ⟨d0, d1⟩ := hlet
          clear hh1 hv
          have h95 : ¬ (c.toNat : Int) = 95 := by
            intro h
            rw [h, low95] at d1
            omega
          generalize hL : low c.toNat = L at *
          go_wp2_with (first | (go_at_call 77; refine (lower_l _ _).mono ?_; rintro e w' ⟨rfl, rfl⟩; rw [hL]))
          all_goals
            have ha := HA.out
            have hi := HI.out
            have hk0 := HK.out
            exact ⟨⟨k + 1, acc * 16 + (L.toNat - 87), rfl, (by congr 1; omega), (by congr 1), by omega, by omega, by omega, HN.out, by omega⟩, by simp [intOf]; omega⟩
        · have hv : hexV c = none := by unfold hexV; rw [if_neg hdig, if_neg hlet]
          have HN : hexN 0 bs = none := by rw [hh1]; simp [hexN, hv]
          rw [HN]
          clear hh1 hv HN
          have hv0 : 0 ≤ low c.toNat := bits_lo_u8 .or (c.toNat : Int) 32
          have hv1 : low c.toNat ≤ 255 := bits_hi_u8 .or (c.toNat : Int) 32
          have hl95 := low95
          generalize hL : low c.toNat = L at *
          go_wp2_with (first | (go_at_call 77; refine (lower_l _ _).mono ?_; rintro e w' ⟨rfl, rfl⟩; (first | rw [hL] | rw [hl95])))
          all_goals
            refine bodyPost_ret (v := hexRes none) (by simp [results, Tryd.results60, go_sem, hexRes]) rfl ⟨rfl, HB.out⟩
    · obtain rfl : k = 2 := by omega
      have hh1 : hexN 0 bs = some acc := by rw [hh.out.1, List.drop_eq_nil_of_le (by omega)]; rfl
      have HH := Lib.hid hh1
      clear hh hh1
      go_wp2_with fail
      refine bodyPost_ret (v := hexRes (some acc)) (by simp [results, Tryd.results60, go_sem, hexRes]) rfl ⟨by rw [HH.out], HB.out⟩

/-- what a variable of type error may hold -/
def IsErr (v : Value) : Prop := v = .nilIface ∨ ∃ te pe, v = .iface te pe
/-- strconv.ParseUint of two bytes: the number, or an error -/
def Hexed (o : Option Nat) (w : World) (e : Ending) (w' : World) : Prop :=
  Below w.heap.size w w' ∧ match o with
    | some n => e = .returned (.tuple #[.int .u64 n, .nilIface])
    | none => ∃ t p, e = .returned (.tuple #[.int .u64 0, .iface t p])

set_option maxHeartbeats 1000000 in
theorem parse16 (s : ByteArray) (hs : s.size = 2) (w : World) (ev : Value) (hv : w.cell? ⟨1, 0, none⟩ = some ev) (hev : ev = .nilIface ∨ ∃ te pe, ev = .iface te pe) :
    Calls Tryd.prog 42 #[.string s, .int .i64 16, .int .i64 8] w (Hexed (hexN 0 s.data.toList) w) := by
  have hI := parse16_in s hs w
  generalize hexN 0 s.data.toList = o at *
  cases o with
  | some n =>
    have hI : Calls Tryd.prog 60 #[.string s, .int .i64 16, .int .i64 8] w (New (.tuple #[.int .u64 n, .nilIface]) w) := hI
    go_enter Tryd.func42, Tryd.ntmps42
    go_wp2_with (go_at_call 60; refine hI.mono ?_; rintro e W1 ⟨rfl, hW⟩)
    go_wp2
    go_ret2
    exact ⟨hW, rfl⟩
  | none =>
    have hI : Calls Tryd.prog 60 #[.string s, .int .i64 16, .int .i64 8] w (New (.tuple #[.int .u64 0, .iface 103 (.int .i64 2)]) w) := hI
    have hG : 1 < w.heap.size := Lib.lt_of_cell hv
    go_enter Tryd.func42, Tryd.ntmps42
    go_wp2_with (go_at_call 60; refine hI.mono ?_; rintro e W1 ⟨rfl, hW⟩)
    have hv1 : W1.cell? ⟨1, 0, none⟩ = some ev := (hW.cell (show (⟨1, 0, none⟩ : Addr).block < w.heap.size from hG)).trans hv
    go_wp2_with (go_at_call 61; refine (Tryd.strconv_toError_syntax ⟨#[80, 97, 114, 115, 101, 85, 105, 110, 116]⟩ s 16 8 ev _ (by omega) hv1 hev).mono ?_; rintro e W2 ⟨N, rfl, h1, h2, h3⟩)
    go_wp2
    go_ret2
    exact ⟨hW.trans (h3.mono hW.size), _, _, rfl⟩
end Go.Proofs.YthicgeiljficbaaDoor
