/- caliperref07.Part, Text; the reference's contracts in pointer's words. -/
import Derived.Test.YthicgeiljficbaaDoorPtrW
import Derived.Test.YthicgeiljficbaaDoorPtrL
namespace Go.Proofs.YthicgeiljficbaaDoor
open Go.RowKit Go.Proofs.YthicgeiljficbaaDoor.Ref Go.Proofs.YthicgeiljficbaaDoorW.PrintWords Go.Proofs.YthicgeiljficbaaDoorW.PrintLast
set_option linter.unusedSimpArgs false
set_option linter.unusedVariables false
set_option linter.unnecessarySimpa false

theorem inner_len (l : List UInt8) : (inner l).length ≤ 2 * l.length := by
  induction l with
  | nil => simp [inner, rep]
  | cons c l ih =>
    rw [inner_cons, List.length_append, List.length_cons]
    split
    · simp; omega
    · split
      · simp; omega
      · simp; omega
theorem part_loop (l : List UInt8) (hl : l.length ≤ 67108864) : ∀ (d i : Nat) (acc : List UInt8), i + d = l.length → acc.length ≤ 2 * i + 1 → ∀ k, d + 1 ≤ k →
    caliperref07_Part.l0 k (str l) (str acc) i = some (str (acc ++ inner (l.drop i))) := by
  have hs := str_size l
  intro d
  induction d with
  | zero =>
    intro i acc hi ha k hk
    obtain ⟨k, rfl⟩ : ∃ j, k = j + 1 := ⟨k - 1, by omega⟩
    have e1 : caliperref07_Part.l0 (k + 1) (str l) (str acc) i = some (str acc) := by rw [caliperref07_Part.l0, hs, if_neg (by omega)]
    rw [e1, List.drop_eq_nil_of_le (by omega)]
    simp [inner, rep]
  | succ d ih =>
    intro i acc hi ha k hk
    obtain ⟨k, rfl⟩ : ∃ j, k = j + 1 := ⟨k - 1, by omega⟩
    have has := str_size acc
    obtain ⟨c, t, hd⟩ : ∃ c t, l.drop i = c :: t := by
      cases h : l.drop i with
      | nil => have := List.drop_eq_nil_iff.1 h; omega
      | cons c t => exact ⟨c, t, rfl⟩
    obtain ⟨h1, h2, h3⟩ := drop_c hd
    have hbt := bt_str l i h1
    rw [h2] at hbt
    have hx : ((str l).extract ((i : Int)).toNat (((i + 1 : Nat) : Int)).toNat) = str [c] := by
      rw [Int.toNat_natCast, Int.toNat_natCast]
      exact ext_one hd
    have hz : (str [c]).size = 1 := rfl
    rw [hd, inner_cons, ← h3, ← List.append_assoc]
    by_cases c126 : c = 126
    · subst c126
      have hb : ((126 : UInt8).toNat : Int) = 126 := rfl
      rw [hb] at hbt
      have e1 : caliperref07_Part.l0 (k + 1) (str l) (str acc) i = caliperref07_Part.l0 k (str l) (str (acc ++ [126, 48])) ((i + 1 : Nat) : Int) := by
        rw [caliperref07_Part.l0, hs, if_pos (by omega), if_pos (by omega), hbt, if_pos rfl, has, if_pos (by omega), wr1 i (by omega), str_append_lit]
      rw [e1, if_pos rfl]
      exact ih (i + 1) _ (by omega) (by simp; omega) k (by omega)
    · have hn : ¬ (c.toNat : Int) = 126 := ne_toNat c126
      rw [if_neg c126]
      by_cases c47 : c = 47
      · subst c47
        have hb : ((47 : UInt8).toNat : Int) = 47 := rfl
        rw [hb] at hbt
        have e1 : caliperref07_Part.l0 (k + 1) (str l) (str acc) i = caliperref07_Part.l0 k (str l) (str (acc ++ [126, 49])) ((i + 1 : Nat) : Int) := by
          rw [caliperref07_Part.l0, hs, if_pos (by omega), if_pos (by omega), hbt, if_neg (by omega), if_pos rfl, has, if_pos (by omega), wr1 i (by omega), str_append_lit]
        rw [e1, if_pos rfl]
        exact ih (i + 1) _ (by omega) (by simp; omega) k (by omega)
      · have hn2 : ¬ (c.toNat : Int) = 47 := ne_toNat c47
        have e1 : caliperref07_Part.l0 (k + 1) (str l) (str acc) i = caliperref07_Part.l0 k (str l) (str (acc ++ [c])) ((i + 1 : Nat) : Int) := by
          rw [caliperref07_Part.l0, hs, if_pos (by omega), if_pos (by omega), hbt, if_neg hn, if_neg hn2, wr1 i (by omega), if_pos (by omega), if_pos (by omega), hx, has, hz, if_pos (by omega), str_append]
        rw [e1, if_neg c47]
        exact ih (i + 1) _ (by omega) (by simp; omega) k (by omega)
theorem partR_is (l : List UInt8) (hl : l.length ≤ 67108864) (k : Nat) (hk : l.length + 1 ≤ k) : caliperref07_Part.f k (str l) = some (str (escPart l)) := by
  have := part_loop l hl l.length 0 [47] (by omega) (by simp) k hk
  exact this
theorem text_loop (xs : List (List UInt8)) (hn : xs.length + xs.flatten.length ≤ 1048576) : ∀ (d i : Nat) (acc : List UInt8), i + d = xs.length → acc.length + (ptext (xs.drop i)).length ≤ 16777216 → ∀ k, d + xs.flatten.length + 2 ≤ k →
    caliperref07_Text.l0 k (xs.map str) (str acc) i = some (str (acc ++ ptext (xs.drop i))) := by
  intro d
  induction d with
  | zero =>
    intro i acc hi ha k hk
    obtain ⟨k, rfl⟩ : ∃ j, k = j + 1 := ⟨k - 1, by omega⟩
    have e1 : caliperref07_Text.l0 (k + 1) (xs.map str) (str acc) i = some (str acc) := by rw [caliperref07_Text.l0, List.length_map, if_neg (by omega)]
    rw [e1, List.drop_eq_nil_of_le (by omega)]
    simp [ptext]
  | succ d ih =>
    intro i acc hi ha k hk
    obtain ⟨k, rfl⟩ : ∃ j, k = j + 1 := ⟨k - 1, by omega⟩
    have has := str_size acc
    have hlt : i < xs.length := by omega
    have hel := elem_le hlt
    have hr : rdOf ByteArray.empty (xs.map str) (i : Int) = str xs[i] := by simp [rdOf, hlt]
    have hp := partR_is xs[i] (by omega) k (by omega)
    have hes := str_size (escPart xs[i])
    have hd : ptext (xs.drop i) = escPart xs[i] ++ ptext (xs.drop (i + 1)) := by
      rw [List.drop_eq_getElem_cons hlt]
      unfold ptext
      rw [List.map_cons, List.flatten_cons]
    rw [hd, List.length_append] at ha
    have e1 : caliperref07_Text.l0 (k + 1) (xs.map str) (str acc) i = caliperref07_Text.l0 k (xs.map str) (str (acc ++ escPart xs[i])) ((i + 1 : Nat) : Int) := by
      rw [caliperref07_Text.l0, List.length_map, if_pos (by omega), if_pos (by omega), hr, hp]
      simp only [Option.bind_some]
      rw [has, hes, if_pos (by omega), wr1 i (by omega), str_append]
    rw [e1, hd, ← List.append_assoc]
    exact ih (i + 1) _ (by omega) (by rw [List.length_append]; omega) k (by omega)
theorem textR_is (xs : List (List UInt8)) (hn : xs.length + xs.flatten.length ≤ 1048576) : ∃ k, caliperref07_Text.f k (xs.map str) = some (str (ptext xs)) := by
  have hp := ptext_len xs
  exact ⟨_, text_loop xs hn xs.length 0 [] (by omega) (by simp only [List.length_nil, List.drop_zero]; omega) (xs.length + xs.flatten.length + 2) (Nat.le_refl _)⟩

/-- a row of texts, as the print tells it -/
theorem txts_R {W : World} {base : Nat} {ok : Nat → Prop} {v : Value} {xs : List (List UInt8)} (h : Kd.R Kd.string 9 W base ok v (xs.map str)) : Txts W v xs := by
  obtain ⟨A, c, rfl, hc, hC⟩ := Kd.R_reads h
  rw [List.length_map] at hc hC ⊢
  by_cases h0 : xs.length = 0
  · obtain rfl := List.eq_nil_of_length_eq_zero h0
    exact .inl ⟨rfl, _, _, rfl⟩
  · obtain ⟨b, off, rfl, hlt, hcell⟩ := C_strs hC (by omega)
    refine .inr ⟨b, off, c, rfl, hlt, fun j hj => ?_⟩
    rw [hcell j hj]
    simp [hj]
theorem Txts.C {W : World} {v : Value} {xs : List (List UInt8)} (h : Txts W v xs) (hn : xs.length ≤ 1048576) : ∃ A c, v = .slice A (xs.map str).length c ∧ Kd.C Kd.string W A (xs.map str).length (xs.map str) := by
  obtain ⟨A, c, rfl, hc⟩ := h.form
  refine ⟨A, c, by rw [List.length_map], rfl, by rw [List.length_map]; omega, fun h0 => ?_⟩
  rw [List.length_map] at h0
  obtain ⟨b, off, rfl, hlt, hcell⟩ := hc h0
  refine ⟨_, rfl, fun j p hj => ⟨[.string p], rfl, rfl, fun i u hu => ?_⟩⟩
  have hjl : j < xs.length := by
    have := (List.getElem?_eq_some_iff.1 hj).1
    rw [List.length_map] at this
    exact this
  obtain rfl : i = 0 := by
    have := (List.getElem?_eq_some_iff.1 hu).1
    simp at this
    exact this
  have hp : p = str xs[j] := by
    simp [hjl] at hj
    exact hj.symm
  have e : (⟨b, off, none⟩ : Addr).add (j * 1 + 0) = ⟨b, off + j, none⟩ := by
    rw [Nat.mul_one, Nat.add_zero]
    cases j <;> simp [Addr.add]
  have e2 : (Kd.string).sz = 1 := rfl
  rw [e2, e, hcell j hjl, ← hp]
  simpa using hu

theorem parseR_l (l : List UInt8) (hl : l.length ≤ 67108864) (w : World) :
    Calls Tryd.prog 24 #[.string (str l)] w (fun e w' => ∃ v, e = .returned (.tuple #[v, .int .i64 (if (parseP l).isSome then 0 else 70)]) ∧ Txts w' v ((parseP l).getD []) ∧ Below w.heap.size w w') := by
  obtain ⟨k, h⟩ := parseR_is l hl
  refine (caliperref07_Parse.calls k (str l) (outP [] (parseP l)).1 (outP [] (parseP l)).2 w h).mono ?_
  rintro e w' ⟨v, rfl, hR, hb⟩
  cases hp : parseP l with
  | none => rw [hp] at hR; exact ⟨v, rfl, txts_R (xs := []) hR, hb⟩
  | some ps => rw [hp] at hR; exact ⟨v, rfl, txts_R (xs := ps) (by simpa [outP] using hR), hb⟩
theorem textR_l (v : Value) (xs : List (List UInt8)) (w : World) (hv : Txts w v xs) (hn : xs.length + xs.flatten.length ≤ 1048576) (hcap : ∀ a n cap, v = .slice a n cap → n ≤ cap) :
    Calls Tryd.prog 26 #[v] w (New (.string (str (ptext xs))) w) := by
  obtain ⟨k, h⟩ := textR_is xs hn
  obtain ⟨A, c, rfl, hC⟩ := hv.C (by omega)
  refine (caliperref07_Text.calls k A c (xs.map str) (str (ptext xs)) w hC (hcap _ _ _ rfl) h).mono ?_
  rintro e w' ⟨rfl, hd⟩
  exact ⟨rfl, hd.below⟩
end Go.Proofs.YthicgeiljficbaaDoor
