/- Plain law: what pointer.Parse reads of a text, byte by byte; parts come back. -/
import Derived.Test.YthicgeiljficbaaDoorPtrD
namespace Go.Proofs.YthicgeiljficbaaDoor
open Go.RowKit
set_option linter.unusedSimpArgs false
set_option linter.unusedVariables false
set_option linter.unnecessarySimpa false

/-- each a b of l by 'new' -/
def rep2 (a b : UInt8) (new : List UInt8) : List UInt8 → List UInt8
  | [] => []
  | [c] => [c]
  | c :: d :: t => if c = a ∧ d = b then new ++ rep2 a b new t else c :: rep2 a b new (d :: t)
def cnt2 (a b : UInt8) : List UInt8 → Nat
  | [] => 0
  | [_] => 0
  | c :: d :: t => if c = a ∧ d = b then 1 + cnt2 a b t else cnt2 a b (d :: t)
theorem rep2_ne {a b c : UInt8} {new : List UInt8} (h : c ≠ a) (t : List UInt8) : rep2 a b new (c :: t) = c :: rep2 a b new t := by
  cases t with
  | nil => rfl
  | cons d t => rw [rep2, if_neg (fun e => h e.1)]
theorem rep2_hit (a b : UInt8) (new t : List UInt8) : rep2 a b new (a :: b :: t) = new ++ rep2 a b new t := by rw [rep2, if_pos ⟨rfl, rfl⟩]
theorem rep2_miss {a b d : UInt8} {new : List UInt8} (h : d ≠ b) (t : List UInt8) : rep2 a b new (a :: d :: t) = a :: rep2 a b new (d :: t) := by rw [rep2, if_neg (fun e => h e.2)]
theorem cnt2_ne {a b c : UInt8} (h : c ≠ a) (t : List UInt8) : cnt2 a b (c :: t) = cnt2 a b t := by
  cases t with
  | nil => rfl
  | cons d t => rw [cnt2, if_neg (fun e => h e.1)]
theorem cnt2_hit (a b : UInt8) (t : List UInt8) : cnt2 a b (a :: b :: t) = 1 + cnt2 a b t := by rw [cnt2, if_pos ⟨rfl, rfl⟩]
theorem cnt2_miss {a b d : UInt8} (h : d ≠ b) (t : List UInt8) : cnt2 a b (a :: d :: t) = cnt2 a b (d :: t) := by rw [cnt2, if_neg (fun e => h e.2)]

theorem pre_hit (a b : UInt8) (t : List UInt8) : ([a, b] : List UInt8).isPrefixOf (a :: b :: t) = true := by simp [List.isPrefixOf]
theorem pre_miss {a b c d : UInt8} (h : ¬ (c = a ∧ d = b)) (t : List UInt8) : ([a, b] : List UInt8).isPrefixOf (c :: d :: t) = false := by
  by_cases h1 : c = a
  · have h2 : ¬ b = d := fun e => h ⟨h1, e.symm⟩
    simp [List.isPrefixOf, h2]
  · have h2 : ¬ a = c := fun e => h1 e.symm
    simp [List.isPrefixOf, h2]
theorem index_hit2 (a b : UInt8) (t : List UInt8) : Lib.index (a :: b :: t) [a, b] = ((0 : Nat) : Int) := by rw [Lib.index, if_pos (pre_hit a b t)]; rfl
theorem index_miss2 {a b c : UInt8} {t : List UInt8} (h : ([a, b] : List UInt8).isPrefixOf (c :: t) = false) : Lib.index (c :: t) [a, b] = if Lib.index t [a, b] == -1 then -1 else Lib.index t [a, b] + 1 := by
  rw [Lib.index, if_neg (by rw [h]; simp)]
theorem count_cons {a b c : UInt8} {t : List UInt8} (h : ([a, b] : List UInt8).isPrefixOf (c :: t) = false) : Lib.count (c :: t) [a, b] = Lib.count t [a, b] := by
  have hi := index_miss2 h
  have hg := Lib.index_ge t [a, b]
  by_cases h1 : Lib.index t [a, b] = -1
  · rw [h1] at hi
    rw [Lib.count_miss (by simpa using hi), Lib.count_miss h1]
  · obtain ⟨i, h2⟩ : ∃ i : Nat, Lib.index t [a, b] = i := ⟨(Lib.index t [a, b]).toNat, by omega⟩
    rw [h2] at hi
    have h3 : Lib.index (c :: t) [a, b] = ((i + 1 : Nat) : Int) := by
      rw [hi, if_neg (by simp)]
      omega
    rw [Lib.count_hit (by simp) h3, Lib.count_hit (by simp) h2]
    have : (c :: t).drop (i + 1 + [a, b].length) = t.drop (i + [a, b].length) := by
      rw [show i + 1 + [a, b].length = (i + [a, b].length) + 1 from by omega]
      rfl
    rw [this]
theorem replaceK_cons {a b c : UInt8} {new t : List UInt8} (h : ([a, b] : List UInt8).isPrefixOf (c :: t) = false) (k : Nat) : Lib.replaceK [a, b] new k (c :: t) = c :: Lib.replaceK [a, b] new k t := by
  have hi := index_miss2 h
  have hg := Lib.index_ge t [a, b]
  cases k with
  | zero => rfl
  | succ k =>
    by_cases h1 : Lib.index t [a, b] = -1
    · rw [h1] at hi
      have h2 : Lib.index (c :: t) [a, b] = -1 := by simpa using hi
      rw [Lib.replaceK, if_pos (beq_iff_eq.2 h2), Lib.replaceK, if_pos (beq_iff_eq.2 h1)]
    · obtain ⟨i, h2⟩ : ∃ i : Nat, Lib.index t [a, b] = i := ⟨(Lib.index t [a, b]).toNat, by omega⟩
      rw [h2] at hi
      have h3 : Lib.index (c :: t) [a, b] = ((i + 1 : Nat) : Int) := by
        rw [hi, if_neg (by simp)]
        omega
      rw [Lib.replaceK_hit _ _ _ _ _ h3, Lib.replaceK_hit _ _ _ _ _ h2]
      have : (c :: t).drop (i + 1 + [a, b].length) = t.drop (i + [a, b].length) := by
        rw [show i + 1 + [a, b].length = (i + [a, b].length) + 1 from by omega]
        rfl
      rw [this]
      rfl
theorem count_two (a b : UInt8) (l : List UInt8) : Lib.count l [a, b] = cnt2 a b l := by
  induction l using cnt2.induct (a := a) (b := b) with
  | case1 => rfl
  | case2 c => rw [count_cons (by simp [List.isPrefixOf])]; rfl
  | case3 c d t h ih =>
    obtain ⟨rfl, rfl⟩ := h
    rw [cnt2_hit, Lib.count_hit (by simp) (index_hit2 c d t), ← ih]
    rfl
  | case4 c d t h ih => rw [cnt2, if_neg h, count_cons (pre_miss h t), ih]
theorem replaceK_two (a b : UInt8) (new l : List UInt8) : Lib.replaceK [a, b] new (cnt2 a b l) l = rep2 a b new l := by
  induction l using cnt2.induct (a := a) (b := b) with
  | case1 => rfl
  | case2 c => rfl
  | case3 c d t h ih =>
    obtain ⟨rfl, rfl⟩ := h
    rw [cnt2_hit, Nat.add_comm, Lib.replaceK_hit _ _ _ _ _ (index_hit2 c d t), rep2_hit, ← ih]
    rfl
  | case4 c d t h ih => rw [cnt2, if_neg h, rep2, if_neg h, replaceK_cons (pre_miss h t), ih]
theorem replaceAll_two (a b : UInt8) (new l : List UInt8) (h : ¬ [a, b] = new) : Lib.replaceAll l [a, b] new = rep2 a b new l := by
  unfold Lib.replaceAll Lib.replace
  rw [if_neg (by simpa using h)]
  have : Lib.replaceNum l [a, b] (-1) = cnt2 a b l := by
    unfold Lib.replaceNum
    rw [if_pos (Or.inl (by decide)), count_two]
  rw [this, replaceK_two]

/-- a part as it is read -/
def unP : List UInt8 → Option (List UInt8)
  | [] => some []
  | c :: t => if c = 126 then (match t with
      | d :: t => if d = 48 then (unP t).map (126 :: ·) else if d = 49 then (unP t).map (47 :: ·) else none
      | [] => none) else (unP t).map (c :: ·)
theorem unP_ne {c : UInt8} (h : c ≠ 126) (t : List UInt8) : unP (c :: t) = (unP t).map (c :: ·) := by
  cases t <;> simp [unP, h]
theorem unP_0 (t : List UInt8) : unP (126 :: 48 :: t) = (unP t).map (126 :: ·) := by simp [unP]
theorem unP_1 (t : List UInt8) : unP (126 :: 49 :: t) = (unP t).map (47 :: ·) := by simp [unP]
theorem unP_bad {d : UInt8} (h0 : d ≠ 48) (h1 : d ≠ 49) (t : List UInt8) : unP (126 :: d :: t) = none := by simp [unP, h0, h1]
theorem unP_end : unP [126] = none := by simp [unP]

def wB (w : List UInt8) : List UInt8 := rep2 126 49 [] (rep2 126 48 [] w)
def wV (w : List UInt8) : List UInt8 := rep2 126 48 [126] (rep2 126 49 [47] w)
theorem wBare_eq (w : List UInt8) : wBare w = wB w := by unfold wBare wB; rw [replaceAll_two _ _ _ _ (by decide), replaceAll_two _ _ _ _ (by decide)]
theorem wVal_eq (w : List UInt8) : wVal w = wV w := by unfold wVal wV; rw [replaceAll_two _ _ _ _ (by decide), replaceAll_two _ _ _ _ (by decide)]
theorem wB_0 (t : List UInt8) : wB (126 :: 48 :: t) = wB t := by unfold wB; rw [rep2_hit]; rfl
theorem wB_1 (t : List UInt8) : wB (126 :: 49 :: t) = wB t := by unfold wB; rw [rep2_miss (by decide), rep2_ne (c := 49) (by decide), rep2_hit]; rfl
theorem wB_ne {c : UInt8} (h : c ≠ 126) (t : List UInt8) : wB (c :: t) = c :: wB t := by unfold wB; rw [rep2_ne h, rep2_ne h]
theorem wV_0 (t : List UInt8) : wV (126 :: 48 :: t) = 126 :: wV t := by unfold wV; rw [rep2_miss (by decide), rep2_ne (c := 48) (by decide), rep2_hit]; rfl
theorem wV_1 (t : List UInt8) : wV (126 :: 49 :: t) = 47 :: wV t := by
  unfold wV
  rw [rep2_hit]
  exact rep2_ne (by decide) _
theorem wV_ne {c : UInt8} (h : c ≠ 126) (t : List UInt8) : wV (c :: t) = c :: wV t := by unfold wV; rw [rep2_ne h, rep2_ne h]

theorem parts_ind {P : List UInt8 → Prop} (h0 : P []) (h1 : ∀ t, P t → P (126 :: 48 :: t)) (h2 : ∀ t, P t → P (126 :: 49 :: t)) (h3 : ∀ c t, c ≠ 126 → P t → P (c :: t)) (h4 : ∀ d t, d ≠ 48 → d ≠ 49 → P (d :: t) → P (126 :: d :: t)) (h5 : P [126]) : ∀ l, P l := by
  have : ∀ (n : Nat) (l : List UInt8), l.length ≤ n → P l := by
    intro n
    induction n with
    | zero => intro l hl; obtain rfl := List.eq_nil_of_length_eq_zero (by omega : l.length = 0); exact h0
    | succ n ih =>
      intro l hl
      cases l with
      | nil => exact h0
      | cons c t =>
        by_cases hc : c = 126
        · subst hc
          cases t with
          | nil => exact h5
          | cons d t =>
            simp only [List.length_cons] at hl
            by_cases hd : d = 48
            · subst hd; exact h1 t (ih t (by omega))
            · by_cases hd1 : d = 49
              · subst hd1; exact h2 t (ih t (by omega))
              · exact h4 d t hd hd1 (ih _ (by simp only [List.length_cons]; omega))
        · exact h3 c t hc (ih t (by simp only [List.length_cons] at hl; omega))
  exact fun l => this l.length l (Nat.le_refl _)
theorem ne126 {c : UInt8} (h : c ≠ 126) : ¬ (126 : UInt8) = c := fun e => h e.symm
/-- no more than there are; as many, where none is wrong -/
theorem cnt_le (l : List UInt8) : cnt2 126 48 l + cnt2 126 49 l ≤ l.count 126 ∧ (unP l = none → cnt2 126 48 l + cnt2 126 49 l < l.count 126) := by
  induction l using parts_ind with
  | h0 => simp [cnt2, unP]
  | h1 t ih => rw [cnt2_hit, cnt2_miss (by decide), cnt2_ne (c := 48) (by decide), List.count_cons_self, List.count_cons_of_ne (by decide), unP_0]; simp only [Option.map_eq_none_iff]; exact ⟨by omega, fun h => by have := ih.2 h; omega⟩
  | h2 t ih => rw [cnt2_miss (by decide), cnt2_ne (c := 49) (by decide), cnt2_hit, List.count_cons_self, List.count_cons_of_ne (by decide), unP_1]; simp only [Option.map_eq_none_iff]; exact ⟨by omega, fun h => by have := ih.2 h; omega⟩
  | h3 c t h ih => rw [cnt2_ne h, cnt2_ne h, List.count_cons_of_ne h, unP_ne h]; simp only [Option.map_eq_none_iff]; exact ih
  | h4 d t h0 h1 ih => rw [cnt2_miss h0, cnt2_miss h1, List.count_cons_self]; omega
  | h5 => decide
/-- where none is wrong -/
theorem unP_some (l : List UInt8) : ∀ v, unP l = some v → l.count 126 = cnt2 126 48 l + cnt2 126 49 l ∧ has 126 (wB l) = false ∧ wV l = v := by
  induction l using parts_ind with
  | h0 => intro v h; simp [unP] at h; subst h; decide
  | h1 t ih =>
    intro v h
    rw [unP_0] at h
    simp only [Option.map_eq_some_iff] at h
    obtain ⟨u, hu, rfl⟩ := h
    obtain ⟨a, b, c⟩ := ih u hu
    rw [cnt2_hit, cnt2_miss (by decide), cnt2_ne (c := 48) (by decide), List.count_cons_self, List.count_cons_of_ne (by decide), wB_0, wV_0, c]
    exact ⟨by omega, b, rfl⟩
  | h2 t ih =>
    intro v h
    rw [unP_1] at h
    simp only [Option.map_eq_some_iff] at h
    obtain ⟨u, hu, rfl⟩ := h
    obtain ⟨a, b, c⟩ := ih u hu
    rw [cnt2_miss (by decide), cnt2_ne (c := 49) (by decide), cnt2_hit, List.count_cons_self, List.count_cons_of_ne (by decide), wB_1, wV_1, c]
    exact ⟨by omega, b, rfl⟩
  | h3 c t h ih =>
    intro v hv
    rw [unP_ne h] at hv
    simp only [Option.map_eq_some_iff] at hv
    obtain ⟨u, hu, rfl⟩ := hv
    obtain ⟨a, b, d⟩ := ih u hu
    rw [cnt2_ne h, cnt2_ne h, List.count_cons_of_ne h, wB_ne h, wV_ne h, d]
    refine ⟨a, ?_, rfl⟩
    unfold has at b ⊢
    rw [contains_ne h]
    exact b
  | h4 d t h0 h1 ih => intro v h; rw [unP_bad h0 h1] at h; cases h
  | h5 => intro v h; simp [unP] at h
theorem unP_is (w : List UInt8) : unP w = if wOk w then some (wVal w) else none := by
  have hc := cnt_le w
  have hs := unP_some w
  unfold wOk
  rw [wVal_eq, wBare_eq, count_two, count_two]
  cases h : unP w with
  | none =>
    have := hc.2 h
    rw [if_neg]
    intro e
    rw [Bool.and_eq_true, beq_iff_eq] at e
    omega
  | some v =>
    obtain ⟨a, b, c⟩ := hs v h
    rw [a, b, c]
    simp
theorem wOk_iff (w : List UInt8) : wOk w = (unP w).isSome := by rw [unP_is]; split <;> simp [*]
theorem wVal_get {w : List UInt8} (h : wOk w = true) : unP w = some (wVal w) := by rw [unP_is, if_pos h]

/-- the parts of a text that begins with a stroke -/
def allP? : List (List UInt8) → Option (List (List UInt8))
  | [] => some []
  | w :: ws => match unP w with
    | some v => (allP? ws).map (v :: ·)
    | none => none
theorem allP?_is (ws : List (List UInt8)) : (if ws.all wOk then some (ws.map wVal) else none) = allP? ws := by
  induction ws with
  | nil => rfl
  | cons w ws ih =>
    rw [List.all_cons, wOk_iff]
    cases h : unP w with
    | none => simp [allP?, h]
    | some v =>
      have hv : wVal w = v := by
        have := wVal_get (w := w) (by rw [wOk_iff, h]; rfl)
        rw [h] at this
        exact (Option.some.inj this).symm
      rw [allP?, h, ← ih]
      simp only [Option.isSome_some, Bool.true_and, List.map_cons, hv]
      split <;> simp
theorem parseP_go (t : List UInt8) : parseP (47 :: t) = allP? (spl 47 (t.count 47) t) := by rw [parseP, if_pos rfl, allP?_is]

/-- a part, written, but for the stroke ahead -/
def inner (l : List UInt8) : List UInt8 := rep 47 [126, 49] (rep 126 [126, 48] l)
theorem inner_cons (c : UInt8) (l : List UInt8) : inner (c :: l) = (if c = 126 then [126, 48] else if c = 47 then [126, 49] else [c]) ++ inner l := by
  unfold inner
  have e : rep 126 [126, 48] (c :: l) = (if c = 126 then [126, 48] else [c]) ++ rep 126 [126, 48] l := rfl
  rw [e, rep_append]
  congr 1
  by_cases h1 : c = 126
  · rw [if_pos h1, if_pos h1]; rfl
  · rw [if_neg h1, if_neg h1]
    by_cases h2 : c = 47
    · rw [if_pos h2]; subst h2; rfl
    · rw [if_neg h2]; simp [rep, h2]
theorem escPart_eq (l : List UInt8) : escPart l = 47 :: inner l := rfl
theorem inner_no (l : List UInt8) : (47 : UInt8) ∉ inner l := by
  induction l with
  | nil => simp [inner, rep]
  | cons c l ih =>
    rw [inner_cons]
    intro h
    rcases List.mem_append.1 h with h | h
    · split at h
      · simp at h
      · split at h
        · simp at h
        · simp at h; simp_all
    · exact ih h
theorem unP_inner (l : List UInt8) : unP (inner l) = some l := by
  induction l with
  | nil => rfl
  | cons c l ih =>
    rw [inner_cons]
    by_cases h1 : c = 126
    · rw [if_pos h1]; show unP (126 :: 48 :: inner l) = _; rw [unP_0, ih, h1]; rfl
    · rw [if_neg h1]
      by_cases h2 : c = 47
      · rw [if_pos h2]; show unP (126 :: 49 :: inner l) = _; rw [unP_1, ih, h2]; rfl
      · rw [if_neg h2]; show unP (c :: inner l) = _; rw [unP_ne h1, ih]; rfl

theorem bef_app {c : UInt8} {y : List UInt8} (h : c ∉ y) (r : List UInt8) : bef c (y ++ c :: r) = y := by
  induction y with
  | nil => simp [bef]
  | cons b y ih =>
    have hb : b ≠ c := by rintro rfl; simp at h
    have hy : c ∉ y := fun hm => h (List.mem_cons_of_mem _ hm)
    have e : bef c (b :: (y ++ c :: r)) = b :: bef c (y ++ c :: r) := by simp [bef, hb]
    rw [List.cons_append, e, ih hy]
theorem aft_app {c : UInt8} {y : List UInt8} (h : c ∉ y) (r : List UInt8) : aft c (y ++ c :: r) = r := by
  induction y with
  | nil => simp [aft]
  | cons b y ih =>
    have hb : b ≠ c := by rintro rfl; simp at h
    have hy : c ∉ y := fun hm => h (List.mem_cons_of_mem _ hm)
    have e : aft c (b :: (y ++ c :: r)) = aft c (y ++ c :: r) := by simp [aft, List.dropWhile_cons, hb]
    rw [List.cons_append, e, ih hy]
theorem ptext_cons (x : List UInt8) (xs : List (List UInt8)) : ptext (x :: xs) = 47 :: (inner x ++ ptext xs) := by simp [ptext, escPart_eq]
theorem spl_ptext : ∀ (xs : List (List UInt8)) (x : List UInt8), spl 47 ((inner x ++ ptext xs).count 47) (inner x ++ ptext xs) = (x :: xs).map inner
  | [], x => by
    have h0 : (inner x).count 47 = 0 := List.count_eq_zero.2 (inner_no x)
    simp [ptext, h0, spl]
  | y :: ys, x => by
    have ih := spl_ptext ys y
    have h0 : (inner x).count 47 = 0 := List.count_eq_zero.2 (inner_no x)
    rw [ptext_cons, List.count_append, h0, Nat.zero_add, List.count_cons_self, spl, if_pos (by simp), bef_app (inner_no x), aft_app (inner_no x), ih]
    rfl
theorem allP?_inner (xs : List (List UInt8)) : allP? (xs.map inner) = some xs := by
  induction xs with
  | nil => rfl
  | cons x xs ih => rw [List.map_cons, allP?, unP_inner, ih]; rfl
/-- parts come back -/
theorem parse_text (xs : List (List UInt8)) : parseP (ptext xs) = some xs := by
  cases xs with
  | nil => rfl
  | cons x xs => rw [ptext_cons, parseP_go, spl_ptext, allP?_inner]
end Go.Proofs.YthicgeiljficbaaDoor
