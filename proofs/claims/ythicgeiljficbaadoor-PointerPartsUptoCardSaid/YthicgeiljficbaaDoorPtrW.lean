/- caliperref07.Parse, Part, Text are pointer's laws. -/
import Derived.Test.YthicgeiljficbaaDoorRef2
import Derived.Test.YthicgeiljficbaaDoorRef3
import Derived.Test.YthicgeiljficbaaDoorPtrS
import Derived.Test.YthicgeiljficbaaDoorPtrE
namespace Go.Proofs.YthicgeiljficbaaDoor
open Go.RowKit Go.Proofs.YthicgeiljficbaaDoor.Ref Go.Proofs.YthicgeiljficbaaDoorW.PrintWords Go.Proofs.YthicgeiljficbaaDoorW.PrintLast
set_option linter.unusedSimpArgs false
set_option linter.unusedVariables false
set_option linter.unnecessarySimpa false

theorem wr1 (n : Nat) (h : n ≤ 281474976710656) : wrap64 ((n : Int) + 1) = ((n + 1 : Nat) : Int) := by unfold wrap64; omega
theorem wr2 (n : Nat) (h : n ≤ 281474976710656) : wrap64 (wrap64 ((n : Int) + 1) + 1) = ((n + 2 : Nat) : Int) := by rw [wr1 n h]; unfold wrap64; omega
theorem bt_str (l : List UInt8) (i : Nat) (h : i < l.length) : bt (str l) (i : Int) = ((l.getD i 0).toNat : Int) := by
  have hs : i < (str l).size := by rw [str_size]; exact h
  unfold bt
  rw [dif_pos (by simpa using hs)]
  have := str_index l i hs
  simp only [Int.toNat_natCast, this]
theorem drop_c {l : List UInt8} {i : Nat} {c : UInt8} {t : List UInt8} (h : l.drop i = c :: t) : i < l.length ∧ l.getD i 0 = c ∧ l.drop (i + 1) = t := by
  have hlt : i < l.length := by
    rcases Nat.lt_or_ge i l.length with h' | h'
    · exact h'
    · rw [List.drop_eq_nil_of_le h'] at h; cases h
  rw [List.drop_eq_getElem_cons hlt] at h
  injection h with h1 h2
  exact ⟨hlt, by simp [List.getD, hlt, h1], h2⟩
theorem ext_one {l : List UInt8} {i : Nat} {c : UInt8} {t : List UInt8} (h : l.drop i = c :: t) : (str l).extract i (i + 1) = str [c] := by
  rw [str_extract, h]
  simp
theorem eqc (c d : UInt8) : (c.toNat : Int) = (d.toNat : Int) ↔ c = d := by
  constructor
  · intro h; exact UInt8.toNat_inj.1 (by omega)
  · rintro rfl; rfl

/-- the parts behind the first stroke: w is what the present one has -/
def rdP (w : List UInt8) : List UInt8 → Option (List (List UInt8))
  | [] => some [w]
  | c :: t => if c = 47 then (rdP [] t).map (w :: ·) else if c = 126 then (match t with
      | d :: t => if d = 48 then rdP (w ++ [126]) t else if d = 49 then rdP (w ++ [47]) t else none
      | [] => none) else rdP (w ++ [c]) t
theorem rdP_stroke (w t : List UInt8) : rdP w (47 :: t) = (rdP [] t).map (w :: ·) := by cases t <;> simp [rdP]
theorem rdP_ne {c : UInt8} (h1 : c ≠ 47) (h2 : c ≠ 126) (w t : List UInt8) : rdP w (c :: t) = rdP (w ++ [c]) t := by cases t <;> simp [rdP, h1, h2]
theorem rdP_0 (w t : List UInt8) : rdP w (126 :: 48 :: t) = rdP (w ++ [126]) t := by simp [rdP]
theorem rdP_1 (w t : List UInt8) : rdP w (126 :: 49 :: t) = rdP (w ++ [47]) t := by simp [rdP]
theorem rdP_bad {d : UInt8} (h0 : d ≠ 48) (h1 : d ≠ 49) (w t : List UInt8) : rdP w (126 :: d :: t) = none := by simp [rdP, h0, h1]
theorem rdP_end (w : List UInt8) : rdP w [126] = none := by simp [rdP]

theorem spl_cons {c b : UInt8} (h : b ≠ c) : ∀ (n : Nat) (t : List UInt8), ∃ p ps, spl c n t = p :: ps ∧ spl c n (b :: t) = (b :: p) :: ps
  | 0, t => ⟨t, [], rfl, rfl⟩
  | n + 1, t => by
    unfold spl
    rw [contains_ne h]
    by_cases hc : t.contains c = true
    · rw [if_pos hc, if_pos hc]
      have e1 : bef c (b :: t) = b :: bef c t := by simp [bef, h]
      have e2 : aft c (b :: t) = aft c t := by simp [aft, List.dropWhile_cons, h]
      rw [e1, e2]
      exact ⟨_, _, rfl, rfl⟩
    · rw [if_neg hc, if_neg hc]
      exact ⟨_, _, rfl, rfl⟩
theorem spl_stroke (t : List UInt8) : spl 47 ((47 :: t).count 47) (47 :: t) = [] :: spl 47 (t.count 47) t := by
  rw [List.count_cons_self, spl, if_pos (by simp)]
  simp [bef, aft]

def pre (w : List UInt8) : Option (List UInt8) → Option (List (List UInt8)) → Option (List (List UInt8))
  | some v, some vs => some ((w ++ v) :: vs)
  | _, _ => none
theorem rdP_is (s : List UInt8) : ∀ w, ∃ p ps, spl 47 (s.count 47) s = p :: ps ∧ rdP w s = pre w (unP p) (allP? ps) := by
  have step : ∀ (c : UInt8) (t : List UInt8), c ≠ 47 → ∀ p ps, spl 47 (t.count 47) t = p :: ps → spl 47 ((c :: t).count 47) (c :: t) = (c :: p) :: ps := by
    intro c t h p ps hp
    rw [List.count_cons_of_ne h]
    obtain ⟨q, qs, h1, h2⟩ := spl_cons h (t.count 47) t
    rw [h1] at hp
    cases hp
    exact h2
  have main : ∀ (n : Nat) (s : List UInt8), s.length ≤ n → ∀ w, ∃ p ps, spl 47 (s.count 47) s = p :: ps ∧ rdP w s = pre w (unP p) (allP? ps) := by
    intro n
    induction n with
    | zero =>
      intro s hs w
      obtain rfl := List.eq_nil_of_length_eq_zero (by omega : s.length = 0)
      exact ⟨[], [], rfl, by simp [rdP, unP, allP?, pre]⟩
    | succ n ih =>
      intro s hs w
      cases s with
      | nil => exact ⟨[], [], rfl, by simp [rdP, unP, allP?, pre]⟩
      | cons c t =>
        simp only [List.length_cons] at hs
        by_cases h1 : c = 47
        · subst h1
          refine ⟨[], _, spl_stroke t, ?_⟩
          obtain ⟨p, ps, h2, h3⟩ := ih t (by omega) []
          rw [rdP_stroke, h3, h2]
          show _ = pre w (some []) (allP? (p :: ps))
          rw [allP?]
          cases unP p with
          | none => rfl
          | some v => cases allP? ps <;> simp [pre]
        · by_cases h2 : c = 126
          · subst h2
            cases t with
            | nil => exact ⟨[126], [], rfl, by rw [rdP_end, unP_end]; rfl⟩
            | cons d t =>
              simp only [List.length_cons] at hs
              by_cases h3 : d = 48
              · subst h3
                obtain ⟨p, ps, h4, h5⟩ := ih t (by omega) (w ++ [126])
                refine ⟨126 :: 48 :: p, ps, step _ _ (by decide) _ _ (step _ _ (by decide) _ _ h4), ?_⟩
                rw [rdP_0, h5, unP_0]
                cases unP p <;> cases allP? ps <;> simp [pre]
              · by_cases h4 : d = 49
                · subst h4
                  obtain ⟨p, ps, h5, h6⟩ := ih t (by omega) (w ++ [47])
                  refine ⟨126 :: 49 :: p, ps, step _ _ (by decide) _ _ (step _ _ (by decide) _ _ h5), ?_⟩
                  rw [rdP_1, h6, unP_1]
                  cases unP p <;> cases allP? ps <;> simp [pre]
                · rw [rdP_bad h3 h4]
                  by_cases h5 : d = 47
                  · subst h5
                    exact ⟨[126], _, step _ _ (by decide) _ _ (spl_stroke t), by rw [unP_end]; rfl⟩
                  · obtain ⟨p, ps, h6, -⟩ := ih t (by omega) w
                    refine ⟨126 :: d :: p, ps, step _ _ (by decide) _ _ (step _ _ h5 _ _ h6), ?_⟩
                    rw [unP_bad h3 h4]
                    rfl
          · obtain ⟨p, ps, h3, h4⟩ := ih t (by omega) (w ++ [c])
            refine ⟨c :: p, ps, step _ _ h1 _ _ h3, ?_⟩
            rw [rdP_ne h1 h2, h4, unP_ne h2]
            cases unP p <;> cases allP? ps <;> simp [pre]
  exact main s.length s (Nat.le_refl _)
theorem rdP_all (s : List UInt8) : rdP [] s = allP? (spl 47 (s.count 47) s) := by
  obtain ⟨p, ps, h1, h2⟩ := rdP_is s []
  rw [h1, h2, allP?]
  cases unP p with
  | none => rfl
  | some v => cases allP? ps <;> simp [pre]
theorem parseP_rd (t : List UInt8) : parseP (47 :: t) = rdP [] t := by rw [parseP_go, rdP_all]

/-- what the reference's loop comes to -/
def outP (done : List (List UInt8)) : Option (List (List UInt8)) → List ByteArray × Int
  | some ps => ((done ++ ps).map str, 0)
  | none => ([], 70)
theorem outP_stroke (done : List (List UInt8)) (w : List UInt8) (o : Option (List (List UInt8))) : outP done (o.map (w :: ·)) = outP (done ++ [w]) o := by
  cases o <;> simp [outP]
theorem beq_toNat (c d : UInt8) : ((c.toNat : Int) == (d.toNat : Int)) = (c == d) := by
  by_cases h : c = d
  · subst h; simp
  · have : ¬ (c.toNat : Int) = (d.toNat : Int) := fun e => h ((eqc c d).1 e)
    rw [beq_eq_false_iff_ne.2 this, beq_eq_false_iff_ne.2 h]
theorem ne_toNat {c d : UInt8} (h : c ≠ d) : ¬ (c.toNat : Int) = (d.toNat : Int) := fun e => h ((eqc c d).1 e)

theorem l0_at (l : List UInt8) (k i : Nat) (xs : List ByteArray) (w : ByteArray) (c : UInt8) (t : List UInt8) (h : l.drop i = c :: t) : caliperref07_Parse.l0 (k + 1) (str l) xs w i = caliperref07_Parse.j1 k (str l) xs w i (c == 47) := by
  obtain ⟨h1, h2, h3⟩ := drop_c h
  have hs := str_size l
  have e : ((c.toNat : Int) == 47) = (c == 47) := beq_toNat c 47
  simp only [caliperref07_Parse.l0]
  rw [hs, if_pos (by omega), if_neg (by omega), if_pos (by omega), if_pos (by omega), bt_str l i h1, h2, e]
theorem parse_loop (l : List UInt8) (hl : l.length ≤ 67108864) : ∀ (d i : Nat) (done : List (List UInt8)) (w : List UInt8), i + d = l.length → done.length ≤ i → w.length ≤ i → ∀ k, 3 * d + 4 ≤ k →
    caliperref07_Parse.l0 k (str l) (done.map str) (str w) i = some (outP done (rdP w (l.drop i))) := by
  have hs := str_size l
  intro d
  induction d using Nat.strongRecOn with
  | _ d ih =>
    intro i done w hi hdn hw k hk
    have hws := str_size w
    obtain ⟨k, rfl⟩ : ∃ j, k = j + 3 := ⟨k - 3, by omega⟩
    by_cases hend : i = l.length
    · subst hend
      obtain ⟨k, rfl⟩ : ∃ j, k = j + 1 := ⟨k - 1, by omega⟩
      rw [List.drop_length, rdP]
      have e1 : caliperref07_Parse.l0 (k + 1 + 3) (str l) (done.map str) (str w) (l.length : Nat) = caliperref07_Parse.j1 (k + 1 + 2) (str l) (done.map str) (str w) (l.length : Nat) true := by
        rw [caliperref07_Parse.l0, hs, if_pos (by omega), if_pos rfl]
      have e2 : caliperref07_Parse.j1 (k + 1 + 2) (str l) (done.map str) (str w) (l.length : Nat) true = caliperref07_Parse.l0 (k + 1 + 1) (str l) (done.map str ++ [str w]) ⟨#[]⟩ ((l.length + 1 : Nat) : Int) := by
        rw [caliperref07_Parse.j1, if_pos rfl, List.length_map, if_pos (by omega), wr1 l.length (by omega)]
      have e3 : caliperref07_Parse.l0 (k + 1 + 1) (str l) (done.map str ++ [str w]) ⟨#[]⟩ ((l.length + 1 : Nat) : Int) = some (done.map str ++ [str w], 0) := by
        rw [caliperref07_Parse.l0, hs, if_neg (by omega)]
      rw [e1, e2, e3]
      simp [outP]
    · obtain ⟨c, t, hd⟩ : ∃ c t, l.drop i = c :: t := by
        cases h : l.drop i with
        | nil => have := List.drop_eq_nil_iff.1 h; omega
        | cons c t => exact ⟨c, t, rfl⟩
      obtain ⟨h1, h2, h3⟩ := drop_c hd
      rw [l0_at l (k + 2) i _ _ c t hd, hd]
      by_cases c47 : c = 47
      · subst c47
        rw [rdP_stroke, outP_stroke]
        have e2 : caliperref07_Parse.j1 (k + 2) (str l) (done.map str) (str w) i ((47 : UInt8) == 47) = caliperref07_Parse.l0 (k + 1) (str l) ((done ++ [w]).map str) (str []) ((i + 1 : Nat) : Int) := by
          rw [caliperref07_Parse.j1, if_pos (by decide), List.length_map, if_pos (by omega), wr1 i (by omega), List.map_append]
          rfl
        rw [e2, ← h3]
        exact ih (l.length - (i + 1)) (by omega) (i + 1) (done ++ [w]) [] (by omega) (by simp; omega) (by simp) (k + 1) (by omega)
      · have e47 : (c == 47) = false := by simpa using c47
        rw [e47]
        have hbt := bt_str l i h1
        rw [h2] at hbt
        by_cases c126 : c = 126
        · subst c126
          have hb : ((126 : UInt8).toNat : Int) = 126 := rfl
          rw [hb] at hbt
          have e2 : caliperref07_Parse.j1 (k + 2) (str l) (done.map str) (str w) i false = if i + 1 < l.length then caliperref07_Parse.j2 (k + 1) (str l) (done.map str) (str w) i (l.getD (i + 1) 0 == 48) else caliperref07_Parse.j2 (k + 1) (str l) (done.map str) (str w) i false := by
            rw [caliperref07_Parse.j1, if_neg (by simp), hs, if_pos (by omega), if_pos (by omega), hbt, if_pos rfl, wr1 i (by omega)]
            by_cases h4 : i + 1 < l.length
            · rw [if_pos (by omega), if_pos (by omega), bt_str l (i + 1) h4, if_pos h4]
              have := beq_toNat (l.getD (i + 1) 0) 48
              have e48 : ((48 : UInt8).toNat : Int) = 48 := rfl
              rw [e48] at this
              rw [this]
            · rw [if_neg (by omega), if_neg h4]
          rw [e2]
          by_cases h4 : i + 1 < l.length
          · rw [if_pos h4]
            obtain ⟨e, t2, ht2⟩ : ∃ e t2, t = e :: t2 := by
              cases t with
              | nil => rw [List.drop_eq_nil_iff] at h3; omega
              | cons e t2 => exact ⟨e, t2, rfl⟩
            subst ht2
            obtain ⟨h5, h6, h7⟩ := drop_c h3
            have h7 : l.drop (i + 2) = t2 := h7
            rw [h6]
            have hbt2 := bt_str l (i + 1) h4
            rw [h6] at hbt2
            by_cases c48 : e = 48
            · subst c48
              have e3 : caliperref07_Parse.j2 (k + 1) (str l) (done.map str) (str w) i ((48 : UInt8) == 48) = caliperref07_Parse.l0 k (str l) (done.map str) (str (w ++ [126])) ((i + 2 : Nat) : Int) := by
                rw [caliperref07_Parse.j2, if_pos (by decide), hws, if_pos (by omega), wr2 i (by omega), str_append_lit]
              rw [e3, rdP_0, ← h7]
              exact ih (l.length - (i + 2)) (by omega) (i + 2) done (w ++ [126]) (by omega) (by omega) (by simp; omega) k (by omega)
            · have e48 : (e == 48) = false := by simpa using c48
              rw [e48]
              by_cases c49 : e = 49
              · subst c49
                have hb9 : ((49 : UInt8).toNat : Int) = 49 := rfl
                rw [hb9] at hbt2
                have e3 : caliperref07_Parse.j2 (k + 1) (str l) (done.map str) (str w) i false = caliperref07_Parse.l0 k (str l) (done.map str) (str (w ++ [47])) ((i + 2 : Nat) : Int) := by
                  rw [caliperref07_Parse.j2, if_neg (by simp), hs, wr2 i (by omega), wr1 i (by omega), if_pos (by omega), if_pos (by omega), hbt2, if_pos rfl, hws, if_pos (by omega), str_append_lit]
                rw [e3, rdP_1, ← h7]
                exact ih (l.length - (i + 2)) (by omega) (i + 2) done (w ++ [47]) (by omega) (by omega) (by simp; omega) k (by omega)
              · have e3 : caliperref07_Parse.j2 (k + 1) (str l) (done.map str) (str w) i false = some ([], 70) := by
                  have hn : ¬ (e.toNat : Int) = 49 := ne_toNat c49
                  rw [caliperref07_Parse.j2, if_neg (by simp), hs, wr2 i (by omega), wr1 i (by omega), if_pos (by omega), if_pos (by omega), hbt2, if_neg hn]
                rw [e3, rdP_bad c48 c49]
                rfl
          · rw [if_neg h4]
            have ht : t = [] := by rw [← h3]; exact List.drop_eq_nil_of_le (by omega)
            subst ht
            have e3 : caliperref07_Parse.j2 (k + 1) (str l) (done.map str) (str w) i false = some ([], 70) := by
              rw [caliperref07_Parse.j2, if_neg (by simp), hs, wr2 i (by omega), wr1 i (by omega), if_neg (by omega)]
            rw [e3, rdP_end]
            rfl
        · have hn : ¬ (c.toNat : Int) = 126 := ne_toNat c126
          have e2 : caliperref07_Parse.j1 (k + 2) (str l) (done.map str) (str w) i false = caliperref07_Parse.l0 (k + 1) (str l) (done.map str) (str (w ++ [c])) ((i + 1 : Nat) : Int) := by
            have hx : ((str l).extract ((i : Int)).toNat (((i + 1 : Nat) : Int)).toNat) = str [c] := by
              rw [Int.toNat_natCast, Int.toNat_natCast]
              exact ext_one hd
            have hz : (str [c]).size = 1 := rfl
            rw [caliperref07_Parse.j1, if_neg (by simp), hs, if_pos (by omega), if_pos (by omega), hbt, if_neg hn, wr1 i (by omega), if_pos (by omega), if_pos (by omega), hx, hws, hz, if_pos (by omega), str_append]
          rw [e2, rdP_ne c47 c126, ← h3]
          exact ih (l.length - (i + 1)) (by omega) (i + 1) done (w ++ [c]) (by omega) (by omega) (by simp; omega) (k + 1) (by omega)

theorem parseR_is (l : List UInt8) (hl : l.length ≤ 67108864) : ∃ k, caliperref07_Parse.f k (str l) = some (outP [] (parseP l)) := by
  have hs := str_size l
  cases l with
  | nil =>
    refine ⟨0, ?_⟩
    unfold caliperref07_Parse.f
    rw [if_pos (by rw [str_toList])]
    rfl
  | cons c t =>
    refine ⟨3 * t.length + 5, ?_⟩
    have h1 : ¬ (str (c :: t)).toList = [] := by rw [str_toList]; simp
    have hb := bt_str (c :: t) 0 (by simp)
    have hb0 : bt (str (c :: t)) 0 = (c.toNat : Int) := hb
    unfold caliperref07_Parse.f
    rw [if_neg h1, hs, if_pos (by simp only [List.length_cons]; omega), hb0]
    by_cases hc : c = 47
    · subst hc
      have e47 : ((47 : UInt8).toNat : Int) = 47 := rfl
      rw [if_pos e47, parseP_rd]
      exact parse_loop (47 :: t) hl t.length 1 [] [] (by simp; omega) (by simp) (by simp) _ (by omega)
    · have hn : ¬ (c.toNat : Int) = 47 := ne_toNat hc
      rw [if_neg hn, parseP, if_neg hc]
      rfl
end Go.Proofs.YthicgeiljficbaaDoor
