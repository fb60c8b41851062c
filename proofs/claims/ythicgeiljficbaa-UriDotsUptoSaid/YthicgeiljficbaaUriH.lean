/- Package uri over lists of bytes: the walk of Dots. -/
import Derived.Test.YthicgeiljficbaaUriG
namespace Go.Proofs.Ythicgeiljficbaa
open Go.RowKit
set_option linter.unusedSimpArgs false
set_option linter.unusedVariables false
set_option linter.unnecessarySimpa false

theorem join_empty : ∀ out : List (List UInt8), Lib.join out [] = out.flatten
  | [] => rfl
  | [a] => by simp [Lib.join, List.intercalate, List.intersperse]
  | a :: b :: out => by
    have ih := join_empty (b :: out)
    unfold Lib.join List.intercalate at ih ⊢
    rw [List.intersperse_cons_cons, List.flatten_cons, List.flatten_cons, ih]
    rfl

theorem join_l (B : Nat) (v : Value) (out : List (List UInt8)) (w : World) (h : Row w B 9 1 v out.length (strs out)) (hl : out.flatten.length ≤ 4294967200) (hn : out.length ≤ 4294967200) :
    Calls Try.prog 23 #[v, .string ⟨#[]⟩] w (New (.string (str out.flatten)) w) := by
  by_cases h0 : out.length = 0
  · obtain rfl : out = [] := List.eq_nil_of_length_eq_zero h0
    obtain ⟨a, cap, rfl, hcap⟩ := h.shape
    exact (Try.strings_Join_none a cap ⟨#[]⟩ w).mono fun _ _ h => ⟨h.1, h.2 ▸ Below.refl _ _⟩
  · obtain ⟨g, cap, rfl, hcap, -, hg, hc, -⟩ := h.form (by omega)
    have hf : Lib.join ((out.map str).map (·.data.toList)) [] = out.flatten := by
      rw [List.map_map]
      have : (out.map ((fun x : ByteArray => x.data.toList) ∘ str)) = out := by
        have h1 : out.map ((fun x : ByteArray => x.data.toList) ∘ str) = out.map id := List.map_congr_left (fun l _ => str_data l)
        rw [h1]
        simp
      rw [this]
      exact join_empty out
    have := Try.strings_Join g 0 cap (out.map str) ⟨#[]⟩ w (fun j x hx => by
      have hj : j < out.length := by have := (List.getElem?_eq_some_iff.1 hx).1; simpa using this
      rw [Nat.zero_add, hc j (by omega)]
      simp only [strs, List.getElem?_map] at hx ⊢
      rw [List.getElem?_eq_getElem hj] at hx ⊢
      simp only [Option.map_some, Option.some.injEq] at hx ⊢
      rw [hx]) hg (by simp; omega) (by simpa using hcap) (by rw [hf]; omega)
    rw [hf] at this
    simp only [List.length_map] at this
    exact this

set_option maxRecDepth 100000 in
set_option maxHeartbeats 4000000 in
theorem dots_any (l : List UInt8) (hs : l.length ≤ 1073741824) (w : World) :
    Calls Try.prog 9 #[.string (str l)] w (New (.string (str (dotsL l))) w) := by
  obtain ⟨i0, hi, hz0, hz1, hz2⟩ := info_parts info_str
  have HD : Hid (dotsL l = (dotsRun l.length l []).flatten) := rfl
  go_enter Try.func9, Try.ntmps9
  go_wp2_with fail
  go_loopw [0, 3, 4] (fun p v _ wr => ∃ (n : Nat) (q : List UInt8) (out : List (List UInt8)), p = .string (str q) ∧ Hid (dotsRun n q out = dotsRun l.length l []) ∧ q.length ≤ n ∧ out.length + q.length ≤ l.length ∧ out.flatten.length + q.length ≤ l.length ∧
      Hid (Row wr w.heap.size 9 1 v out.length (strs out)) ∧ Hid (Below w.heap.size w wr)) (fun p _ _ _ => lenOf p)
  case atStart => exact ⟨l.length, l, [], rfl, rfl, Nat.le_refl _, by simp, by simp, Row.nil _ _ _ _, Below.refl _ _⟩
  case round =>
    obtain ⟨n, q, out, rfl, HN, hqn, hol, hfl, HR, HB⟩ := hrel
    have hse : (str q).toList = q := str_toList q
    have hsz := HB.out.size
    by_cases hq : q = []
    · subst hq
      have HJ := Lib.hid (join_l _ _ _ _ HR.out (by omega) (by omega))
      go_wp2_with (go_at_call 23; refine HJ.out.mono ?_; rintro e w1 ⟨rfl, hb⟩)
      go_ret
      refine ⟨?_, RowKit.Below.call HB.out hb hsz⟩
      have hn0 : dotsRun n [] out = out := by cases n <;> rfl
      rw [HD.out, ← HN.out, hn0]
      rfl
    · have hqe : (!q.isEmpty) = true := by simpa using hq
      obtain ⟨n, rfl⟩ : ∃ m, n = m + 1 := ⟨n - 1, by have := List.length_pos_iff.2 hq; omega⟩
      have HS : Hid (dotsRun n (dotsStep q out).1 (dotsStep q out).2 = dotsRun l.length l []) := by
        have := HN.out
        rw [dotsRun, if_neg hq] at this
        exact this
      clear HN
      have HQ := Lib.hid hq
      clear hq
      rcases dots_way q out with ⟨h, e⟩ | ⟨h, e⟩ | ⟨c1, c2, c3, hl, e⟩ | ⟨c1, c2, c3, c4, hl, e⟩ | ⟨h, e⟩ | ⟨c1, c2, c3, c4, c5, c6, hl, e⟩ | ⟨h, e⟩ | ⟨c1, c2, c3, c4, c5, c6, c7, c8, hl, hk, e⟩ | ⟨c1, c2, c3, c4, c5, c6, c7, c8, e⟩
      · rw [e] at HS
        clear e
        have k1 : out.length + 1 ≤ l.length := by rw [h] at hol; exact hol
        have k2 : out.flatten.length + 1 ≤ l.length := by rw [h] at hfl; exact hfl
        have k3 : 1 ≤ n + 1 := by rw [h] at hqn; exact hqn
        clear hol hfl hqn
        subst h
        go_wp2_with (first
          | (go_at_call 19; refine (hasprefix_l _ _ _).mono ?_; rintro e w' ⟨rfl, rfl⟩)
          | (go_at_call 20; refine (trimprefix_l _ _ _).mono ?_; rintro e w' ⟨rfl, rfl⟩))
        go_roundw
        case measure => show 0 < 1; decide
        case rel => exact ⟨n, [], out, rfl, HS.out, Nat.zero_le _, by show out.length + 0 ≤ l.length; omega, by show out.flatten.length + 0 ≤ l.length; omega, HR.out, HB.out⟩
      · rw [e] at HS
        clear e
        have k1 : out.length + 2 ≤ l.length := by rw [h] at hol; exact hol
        have k2 : out.flatten.length + 2 ≤ l.length := by rw [h] at hfl; exact hfl
        have k3 : 2 ≤ n + 1 := by rw [h] at hqn; exact hqn
        clear hol hfl hqn
        subst h
        go_wp2_with (first
          | (go_at_call 19; refine (hasprefix_l _ _ _).mono ?_; rintro e w' ⟨rfl, rfl⟩)
          | (go_at_call 20; refine (trimprefix_l _ _ _).mono ?_; rintro e w' ⟨rfl, rfl⟩))
        go_roundw
        case measure => show 0 < 2; decide
        case rel => exact ⟨n, [], out, rfl, HS.out, Nat.zero_le _, by show out.length + 0 ≤ l.length; omega, by show out.flatten.length + 0 ≤ l.length; omega, HR.out, HB.out⟩
      · rw [e] at HS
        clear e
        have d1 : (q.drop 3).length + 3 ≤ q.length := by rw [List.length_drop]; omega
        go_wp2_with (first
          | (go_at_call 19; refine (hasprefix_l _ _ _).mono ?_; rintro e w' ⟨rfl, rfl⟩)
          | (go_at_call 20; refine (trimprefix_l _ _ _).mono ?_; rintro e w' ⟨rfl, rfl⟩))
        go_roundw
        case measure => simp only [lenOf, str_size]; omega
        case rel => exact ⟨n, q.drop 3, out, rfl, HS.out, by omega, by omega, by omega, HR.out, HB.out⟩
      · rw [e] at HS
        clear e
        have d1 : (q.drop 2).length + 2 ≤ q.length := by rw [List.length_drop]; omega
        go_wp2_with (first
          | (go_at_call 19; refine (hasprefix_l _ _ _).mono ?_; rintro e w' ⟨rfl, rfl⟩)
          | (go_at_call 20; refine (trimprefix_l _ _ _).mono ?_; rintro e w' ⟨rfl, rfl⟩))
        go_roundw
        case measure => simp only [lenOf, str_size]; omega
        case rel => exact ⟨n, q.drop 2, out, rfl, HS.out, by omega, by omega, by omega, HR.out, HB.out⟩
      · rw [e] at HS
        clear e
        have k1 : out.length + 2 ≤ l.length := by rw [h] at hol; exact hol
        have k2 : out.flatten.length + 2 ≤ l.length := by rw [h] at hfl; exact hfl
        have k3 : 2 ≤ n + 1 := by rw [h] at hqn; exact hqn
        clear hol hfl hqn
        subst h
        go_wp2_with (first
          | (go_at_call 19; refine (hasprefix_l _ _ _).mono ?_; rintro e w' ⟨rfl, rfl⟩)
          | (go_at_call 20; refine (trimprefix_l _ _ _).mono ?_; rintro e w' ⟨rfl, rfl⟩))
        go_roundw
        case measure => show 1 < 2; decide
        case rel => exact ⟨n, [47], out, rfl, HS.out, by show 1 ≤ n; omega, by show out.length + 1 ≤ l.length; omega, by show out.flatten.length + 1 ≤ l.length; omega, HR.out, HB.out⟩
      · rw [e] at HS
        clear e
        have d1 : (q.drop 2).length + 2 ≤ q.length := by rw [List.length_drop]; omega
        go_wp2_with (first
          | (go_at_call 19; refine (hasprefix_l _ _ _).mono ?_; rintro e w' ⟨rfl, rfl⟩)
          | (go_at_call 20; refine (trimprefix_l _ _ _).mono ?_; rintro e w' ⟨rfl, rfl⟩))
        go_roundw
        case measure => simp only [lenOf, str_size]; omega
        case rel => exact ⟨n, q.drop 2, out, rfl, HS.out, by omega, by omega, by omega, HR.out, HB.out⟩
      · rw [e] at HS
        clear e
        have k1 : out.length + 3 ≤ l.length := by rw [h] at hol; exact hol
        have k2 : out.flatten.length + 3 ≤ l.length := by rw [h] at hfl; exact hfl
        have k3 : 3 ≤ n + 1 := by rw [h] at hqn; exact hqn
        clear hol hfl hqn
        subst h
        have HBK := Lib.hid (back_l _ _ _ _ HR.out (by omega))
        have hd1 : out.dropLast.length ≤ out.length := by rw [List.length_dropLast]; omega
        have hd2 := dropLast_flat out
        go_wp2_with (first
          | (go_at_call 19; refine (hasprefix_l _ _ _).mono ?_; rintro e w' ⟨rfl, rfl⟩)
          | (go_at_call 20; refine (trimprefix_l _ _ _).mono ?_; rintro e w' ⟨rfl, rfl⟩)
          | (go_at_call 21; refine (HBK.out).mono ?_; rintro e w' ⟨v2, rfl, rfl, hr2⟩; have HR2 := Lib.hid hr2; clear hr2))
        go_roundw
        case measure => show 1 < 3; decide
        case rel => exact ⟨n, [47], out.dropLast, rfl, HS.out, by show 1 ≤ n; omega, by show out.dropLast.length + 1 ≤ l.length; omega, by show out.dropLast.flatten.length + 1 ≤ l.length; omega, HR2.out, HB.out⟩
      · rw [e] at HS
        clear e
        have HBK := Lib.hid (back_l _ _ _ _ HR.out (by omega))
        have hd1 : out.dropLast.length ≤ out.length := by rw [List.length_dropLast]; omega
        have hd2 := dropLast_flat out
        go_wp2_with (first
          | (go_at_call 19; refine (hasprefix_l _ _ _).mono ?_; rintro e w' ⟨rfl, rfl⟩)
          | (go_at_call 20; refine (trimprefix_l _ _ _).mono ?_; rintro e w' ⟨rfl, rfl⟩)
          | (go_at_call 21; refine (HBK.out).mono ?_; rintro e w' ⟨v2, rfl, rfl, hr2⟩; have HR2 := Lib.hid hr2; clear hr2))
        go_roundw
        case measure => simp only [lenOf, str_size, List.length_cons]; omega
        case rel => exact ⟨n, 47 :: Lib.trimPrefix (q.drop 3) [47], out.dropLast, rfl, HS.out, by simp only [List.length_cons]; omega, by simp only [List.length_cons]; omega, by simp only [List.length_cons]; omega, HR2.out, HB.out⟩
      · rw [e] at HS
        clear e
        have hsl := segLen_le q HQ.out
        have C5 : ByteIs (q.tail ++ [47]) 47 ((bef 47 (q.drop 1)).length : Nat) := fun w => by rw [← List.drop_one]; exact idxslash_l _ w
        unfold segLen at hsl HS
        generalize (bef 47 (q.drop 1)).length = k at *
        have HC := Lib.hid C5
        clear C5
        go_wp2_with (first
          | (go_at_call 19; refine (hasprefix_l _ _ _).mono ?_; rintro e w' ⟨rfl, rfl⟩)
          | (go_at_call 22; refine (HC.out _).mono ?_; rintro e w' ⟨rfl, rfl⟩)
          | (at_builtin; refine wpList_append_row _ rfl _ _ 37 rfl w.heap.size 9 i0 (.string ⟨#[]⟩) 1 16 Try.underlying37 hi hz0 hz1 hz2 rfl _ _ _ rfl (HR.out.alloc _) ⟨wr.heap.size, 0, none⟩ 1 1 [.string (str (q.take (1 + k)))] rfl rfl ?c1 ?c2 (by decide) ?c3 ?c4 ?c5 ?c6))
        case c1 => exact cell_one_new _ _ _
        case c2 => intro u hu; simp at hu; subst hu; rfl
        case c3 => unfold maxLen; omega
        case c4 => omega
        case c5 => simp; omega
        case c6 =>
          intro v2 w1 hown hb
          have HR2 : Hid (Row w1 w.heap.size 9 1 v2 (out ++ [q.take (1 + k)]).length (strs (out ++ [q.take (1 + k)]))) := by
            rw [strs_append, List.length_append]
            exact hown
          have HB2 : Hid (Below w.heap.size w w1) := (HB.out.alloc hsz _).trans hb
          clear hown hb
          have d1 : (q.drop (1 + k)).length + 1 + k ≤ q.length := by rw [List.length_drop]; omega
          have d2 : (out ++ [q.take (1 + k)]).length ≤ out.length + 1 := by simp
          have d3 : (out ++ [q.take (1 + k)]).flatten.length ≤ out.flatten.length + 1 + k := by simp; omega
          go_wp2_with fail
          go_roundw
          case measure => simp only [lenOf, str_size]; omega
          case rel => exact ⟨n, q.drop (1 + k), out ++ [q.take (1 + k)], rfl, HS.out, by omega, by omega, by omega, HR2.out, HB2.out⟩
end Go.Proofs.Ythicgeiljficbaa
