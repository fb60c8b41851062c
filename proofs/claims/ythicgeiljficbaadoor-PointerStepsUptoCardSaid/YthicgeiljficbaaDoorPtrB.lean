/- Package pointer over lists of bytes: slices of texts that are read; Text. -/
import Derived.Test.YthicgeiljficbaaDoorPtrA
namespace Go.Proofs.YthicgeiljficbaaDoor
open Go.RowKit
set_option linter.unusedSimpArgs false
set_option linter.unusedVariables false
set_option linter.unnecessarySimpa false

def strs (xs : List (List UInt8)) : List Value := xs.map fun l => .string (str l)
theorem strs_length (xs : List (List UInt8)) : (strs xs).length = xs.length := by simp [strs]
theorem strs_append (xs ys : List (List UInt8)) : strs (xs ++ ys) = strs xs ++ strs ys := by simp [strs]

/-- v reads as the texts xs -/
def Txts (w : World) (v : Value) (xs : List (List UInt8)) : Prop :=
  (xs = [] ∧ ∃ a cap, v = .slice a 0 cap) ∨
  ∃ b off cap, v = .slice (some ⟨b, off, none⟩) xs.length cap ∧ b < w.heap.size ∧ ∀ (j : Nat) (h : j < xs.length), w.cell? ⟨b, off + j, none⟩ = some (.string (str (xs[j]'h)))

theorem Txts.call {w w' : World} {v : Value} {xs : List (List UInt8)} (h : Txts w v xs) (hb : Below w.heap.size w w') : Txts w' v xs := by
  rcases h with h | ⟨b, off, cap, hv, hlt, hc⟩
  · exact .inl h
  · refine .inr ⟨b, off, cap, hv, Nat.lt_of_lt_of_le hlt hb.size, fun j hj => ?_⟩
    rw [hb.cell (p := ⟨b, off + j, none⟩) hlt]
    exact hc j hj
theorem Txts.blk {w : World} {b : Nat} {xs : List (List UInt8)} (h : Blk w b (strs xs) 9) (cap : Nat) : Txts w (.slice (some ⟨b, 0, none⟩) xs.length cap) xs := by
  refine .inr ⟨b, 0, cap, rfl, h.lt, fun j hj => ?_⟩
  rw [Nat.zero_add, h.cell]
  simp [strs, hj]
theorem Txts.row {w : World} {B : Nat} {v : Value} {xs : List (List UInt8)} (h : Row w B 9 1 v xs.length (strs xs)) : Txts w v xs := by
  by_cases h0 : xs.length = 0
  · obtain ⟨a, cap, rfl, -⟩ := h.shape
    rw [h0]
    exact .inl ⟨List.eq_nil_of_length_eq_zero h0, a, cap, rfl⟩
  · obtain ⟨g, cap, rfl, -, -, hlt, hc, -⟩ := h.form (by omega)
    refine .inr ⟨g, 0, cap, rfl, hlt, fun j hj => ?_⟩
    rw [Nat.zero_add, hc j (by omega)]
    simp [strs, hj]

def ptext (xs : List (List UInt8)) : List UInt8 := (xs.map escPart).flatten
theorem escPart_len (l : List UInt8) : (escPart l).length ≤ 4 * l.length + 1 := by
  have hr := rep_len 126 [126, 48] l (by decide)
  have hr2 := rep_len 47 [126, 49] (rep 126 [126, 48] l) (by decide)
  unfold escPart
  rw [List.length_cons]
  omega
theorem ptext_len : ∀ xs : List (List UInt8), (ptext xs).length ≤ 4 * xs.flatten.length + xs.length
  | [] => by simp [ptext]
  | x :: xs => by
    have ih := ptext_len xs
    have h1 := escPart_len x
    have e : ptext (x :: xs) = escPart x ++ ptext xs := by simp [ptext]
    rw [e]
    simp only [List.length_append, List.flatten_cons, List.length_cons]
    omega
theorem ptext_take (xs : List (List UInt8)) (k : Nat) (h : k < xs.length) : ptext (xs.take (k + 1)) = ptext (xs.take k) ++ escPart xs[k] := by
  unfold ptext
  rw [List.take_succ_eq_append_getElem h]
  simp only [List.map_append, List.map_cons, List.map_nil, List.flatten_append, List.flatten_cons, List.flatten_nil, List.append_nil]
theorem flatten_take_le (xs : List (List UInt8)) (k : Nat) : (xs.take k).flatten.length ≤ xs.flatten.length := by
  have h := congrArg List.length (congrArg List.flatten (List.take_append_drop k xs))
  rw [List.flatten_append, List.length_append] at h
  omega
theorem elem_le {xs : List (List UInt8)} {k : Nat} (h : k < xs.length) : xs[k].length ≤ xs.flatten.length := by
  have h1 := flatten_take_le xs (k + 1)
  rw [List.take_succ_eq_append_getElem h] at h1
  simp only [List.flatten_append, List.flatten_cons, List.flatten_nil, List.append_nil, List.length_append] at h1
  omega

set_option maxRecDepth 100000 in
set_option maxHeartbeats 1000000 in
theorem ptext_l (v : Value) (xs : List (List UInt8)) (w : World) (hv : Txts w v xs) (hn : xs.length ≤ 16777216) (hl : xs.flatten.length ≤ 16777216) (he : Env w) :
    Calls Tryd.prog 20 #[v] w (New (.string (str (ptext xs))) w) := by
  have HE := Lib.hid he
  have HT := Lib.hid hv
  have hz := he.1
  clear he
  have core : ∀ (a : Option Addr) (cap : Nat), v = .slice a xs.length cap → (0 < xs.length → ∃ b off, a = some ⟨b, off, none⟩ ∧ b < w.heap.size ∧ ∀ (j : Nat) (h : j < xs.length), w.cell? ⟨b, off + j, none⟩ = some (.string (str (xs[j]'h)))) →
      Calls Tryd.prog 20 #[v] w (New (.string (str (ptext xs))) w) := by
    rintro a cap rfl hcells
    have HC := Lib.hid hcells
    clear hcells hv HT
    go_enter Tryd.func20, Tryd.ntmps20
    go_wp2_with fail
    go_loopw [3, 5, 8] (fun s _ i wr => ∃ k : Nat, k ≤ xs.length ∧ i = .int .i64 k ∧ s = .string (str (ptext (xs.take k))) ∧ Hid (Below w.heap.size w wr)) (fun _ _ i _ => xs.length - (intOf i).toNat)
    case atStart => exact ⟨0, Nat.zero_le _, rfl, rfl, Below.refl _ _⟩
    case round =>
      obtain ⟨k, hk, rfl, rfl, HB⟩ := hrel
      by_cases hlt : k < xs.length
      · obtain ⟨b, off, rfl, hblt, hc⟩ := HC.out (by omega)
        have hcell : wr.cell? ⟨b, off + k, none⟩ = some (.string (str xs[k])) := by
          rw [HB.out.cell (p := ⟨b, off + k, none⟩) hblt]
          exact hc k hlt
        have hsz := HB.out.size
        have hle := elem_le hlt
        have hpl := ptext_len (xs.take (k + 1))
        have hf := flatten_take_le xs (k + 1)
        have htl : (xs.take (k + 1)).length ≤ k + 1 := List.length_take_le _ _
        have hnx := Lib.hid (ptext_take xs k hlt)
        have hlen : (ptext (xs.take k)).length + (escPart xs[k]).length ≤ 134217728 := by
          have := congrArg List.length hnx.out
          rw [List.length_append] at this
          omega
        clear hpl hf htl hc
        have hEk := Lib.hid (HE.out.call HB.out)
        have C := Lib.hid (part_l xs[k] (by omega) wr hEk.out)
        generalize xs[k] = x at *
        generalize escPart x = ex at *
        go_wp2_with (go_at_call 33; refine C.out.mono ?_; rintro e w2 ⟨rfl, hb⟩; have HB2 := Lib.hid (RowKit.Below.call HB.out hb hsz); clear hb)
        go_roundw
        case measure => simp only [intOf]; omega
        case rel => exact ⟨k + 1, by omega, by go_num, by rw [hnx.out], HB2.out⟩
      · obtain rfl : k = xs.length := by omega
        go_wp2_with fail
        go_ret
        refine ⟨?_, HB.out⟩
        show Ending.returned (.string (str (ptext (xs.take xs.length)))) = _
        rw [List.take_length]
  rcases hv with ⟨rfl, a, cap, rfl⟩ | ⟨b, off, cap, rfl, hlt, hc⟩
  · exact core a cap rfl (fun h => absurd h (by simp))
  · exact core _ cap rfl (fun _ => ⟨b, off, rfl, hlt, hc⟩)
end Go.Proofs.YthicgeiljficbaaDoor
