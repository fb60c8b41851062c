/- Plain laws of uri.Dots over lists of bytes: what is left has no dot segments, and stays. -/
import Derived.Test.YthicgeiljficbaaUriQ
namespace Go.Proofs.Ythicgeiljficbaa
set_option linter.unusedSimpArgs false
set_option linter.unusedVariables false
set_option linter.unnecessarySimpa false

def okRun (y : List UInt8) : Prop := y ≠ [46] ∧ y ≠ [46, 46]
/-- a segment with its slash ahead -/
def Seg (x : List UInt8) : Prop := ∃ y, x = 47 :: y ∧ (47 : UInt8) ∉ y ∧ okRun y
/-- what may come first -/
def First (x : List UInt8) : Prop := Seg x ∨ (x ≠ [] ∧ (47 : UInt8) ∉ x ∧ okRun x)
def GoodOut : List (List UInt8) → Prop
  | [] => True
  | x :: r => First x ∧ ∀ z ∈ r, Seg z

theorem bef_no (c : UInt8) (l : List UInt8) : c ∉ bef c l := by
  induction l with
  | nil => simp [bef]
  | cons b l ih =>
    by_cases h : b = c
    · subst h; simp [bef]
    · have e1 : bef c (b :: l) = b :: bef c l := by simp [bef, h]
      rw [e1]
      intro hm
      rcases List.mem_cons.1 hm with hm | hm
      · exact h hm.symm
      · exact ih hm

theorem drop_bef_head (c : UInt8) (l : List UInt8) : l.drop (bef c l).length = [] ∨ ∃ t, l.drop (bef c l).length = c :: t := by
  induction l with
  | nil => left; rfl
  | cons b l ih =>
    by_cases h : b = c
    · subst h; right; exact ⟨l, by simp [bef]⟩
    · have e1 : bef c (b :: l) = b :: bef c l := by simp [bef, h]
      rw [e1]
      simpa using ih

/-- a text is its first segment and what is behind it -/
theorem seg_split (c : UInt8) (t : List UInt8) : (c :: t).take (segLen (c :: t)) = c :: bef 47 t ∧ (c :: t).drop (segLen (c :: t)) = t.drop (bef 47 t).length := by
  unfold segLen
  have e : (c :: t).drop 1 = t := rfl
  rw [e, Nat.add_comm 1]
  simp only [List.take_succ_cons, List.drop_succ_cons, and_true]
  rw [take_bef]

theorem bef_app (y q : List UInt8) (hy : (47 : UInt8) ∉ y) (hq : q = [] ∨ ∃ t, q = 47 :: t) : bef 47 (y ++ q) = y := by
  induction y with
  | nil =>
    rcases hq with rfl | ⟨t, rfl⟩
    · rfl
    · simp [bef]
  | cons b y ih =>
    have hb : ¬ b = 47 := by intro h; subst h; simp at hy
    have hy2 : (47 : UInt8) ∉ y := fun h => hy (List.mem_cons_of_mem _ h)
    have e1 : bef 47 (b :: (y ++ q)) = b :: bef 47 (y ++ q) := by simp [bef, hb]
    rw [List.cons_append, e1, ih hy2]

theorem way_nine {p : List UInt8} {out : List (List UInt8)} {c : UInt8} {y q : List UInt8} (hp : p = c :: (y ++ q)) (hy : (47 : UInt8) ∉ y) (hq : q = [] ∨ ∃ t, q = 47 :: t)
    (h1 : c :: y ≠ [46]) (h2 : c :: y ≠ [46, 46]) (h3 : c :: y ≠ [47, 46]) (h4 : c :: y ≠ [47, 46, 46]) : dotsStep p out = (q, out ++ [c :: y]) := by
  have hb : bef 47 (y ++ q) = y := bef_app y q hy hq
  have hs := seg_split c (y ++ q)
  rw [hb] at hs
  rw [← hp] at hs
  have hd : (y ++ q).drop y.length = q := by simp
  rw [hd] at hs
  have pre : ∀ t, p = t ++ p.drop t.length → p.take t.length = t := fun t h => by rw [h]; simp
  rcases dots_way p out with ⟨h, e⟩ | ⟨h, e⟩ | ⟨c1, c2, c3, hl, e⟩ | ⟨c1, c2, c3, c4, hl, e⟩ | ⟨h, e⟩ | ⟨c1, c2, c3, c4, c5, c6, hl, e⟩ | ⟨h, e⟩ | ⟨c1, c2, c3, c4, c5, c6, c7, c8, hl, hk, e⟩ | ⟨c1, c2, c3, c4, c5, c6, c7, c8, e⟩
  · rw [h] at hs; exact absurd hs.1.symm h1
  · rw [h] at hs; exact absurd hs.1.symm h2
  · obtain ⟨t, rfl⟩ := List.isPrefixOf_iff_prefix.1 c3
    exact absurd (hs.1.symm.trans (by simp [segLen, bef])) h2
  · obtain ⟨t, rfl⟩ := List.isPrefixOf_iff_prefix.1 c4
    exact absurd (hs.1.symm.trans (by simp [segLen, bef])) h1
  · rw [h] at hs; exact absurd hs.1.symm h3
  · obtain ⟨t, rfl⟩ := List.isPrefixOf_iff_prefix.1 c6
    exact absurd (hs.1.symm.trans (by simp [segLen, bef])) h3
  · rw [h] at hs; exact absurd hs.1.symm h4
  · obtain ⟨t, rfl⟩ := List.isPrefixOf_iff_prefix.1 c8
    exact absurd (hs.1.symm.trans (by simp [segLen, bef])) h4
  · rw [e, hs.1, hs.2]

/-- the segment that is put out is none of the four -/
theorem nine_ok {c : UInt8} {t : List UInt8} (c1 : (c :: t == [46]) = false) (c2 : (c :: t == [46, 46]) = false) (c3 : Lib.hasPrefix (c :: t) [46, 46, 47] = false) (c4 : Lib.hasPrefix (c :: t) [46, 47] = false) (c5 : (c :: t == [47, 46]) = false)
    (c6 : Lib.hasPrefix (c :: t) [47, 46, 47] = false) (c7 : (c :: t == [47, 46, 46]) = false) (c8 : Lib.hasPrefix (c :: t) [47, 46, 46, 47] = false) :
    c :: bef 47 t ≠ [46] ∧ c :: bef 47 t ≠ [46, 46] ∧ c :: bef 47 t ≠ [47, 46] ∧ c :: bef 47 t ≠ [47, 46, 46] := by
  have hsp : c :: t = (c :: bef 47 t) ++ t.drop (bef 47 t).length := by
    have h2 := List.take_append_drop (bef 47 t).length t
    rw [take_bef] at h2
    rw [List.cons_append, h2]
  have hq := drop_bef_head 47 t
  refine ⟨?_, ?_, ?_, ?_⟩
  all_goals
    intro h
    rw [h] at hsp
    rcases hq with hq | ⟨u, hq⟩
    · rw [hq] at hsp
      rw [hsp] at c1 c2 c5 c7
      simp at c1 c2 c5 c7
    · rw [hq] at hsp
      rw [hsp] at c3 c4 c6 c8
      simp [Lib.hasPrefix, List.isPrefixOf] at c3 c4 c6 c8

def Inv (p : List UInt8) (out : List (List UInt8)) : Prop := GoodOut out ∧ (out = [] ∨ p = [] ∨ ∃ t, p = 47 :: t)

theorem good_dropLast {out : List (List UInt8)} (h : GoodOut out) : GoodOut out.dropLast := by
  cases out with
  | nil => exact h
  | cons x r =>
    cases r with
    | nil => trivial
    | cons y r =>
      show GoodOut (x :: (y :: r).dropLast)
      exact ⟨h.1, fun z hz => h.2 z ((List.dropLast_sublist _).mem hz)⟩

theorem inv_step {p : List UInt8} {out : List (List UInt8)} (h : Inv p out) (hp : p ≠ []) : Inv (dotsStep p out).1 (dotsStep p out).2 := by
  obtain ⟨hg, ho⟩ := h
  have h46 : ∀ t, p = 46 :: t → out = [] := by
    intro t ht
    rcases ho with ho | ho | ⟨u, hu⟩
    · exact ho
    · exact absurd ho hp
    · rw [ht] at hu; simp at hu
  rcases dots_way p out with ⟨h, e⟩ | ⟨h, e⟩ | ⟨c1, c2, c3, hl, e⟩ | ⟨c1, c2, c3, c4, hl, e⟩ | ⟨h, e⟩ | ⟨c1, c2, c3, c4, c5, c6, hl, e⟩ | ⟨h, e⟩ | ⟨c1, c2, c3, c4, c5, c6, c7, c8, hl, hk, e⟩ | ⟨c1, c2, c3, c4, c5, c6, c7, c8, e⟩
  all_goals rw [e]
  · exact ⟨hg, .inr (.inl rfl)⟩
  · exact ⟨hg, .inr (.inl rfl)⟩
  · obtain ⟨t, ht⟩ := List.isPrefixOf_iff_prefix.1 c3
    exact ⟨hg, .inl (h46 (46 :: 47 :: t) ht.symm)⟩
  · obtain ⟨t, ht⟩ := List.isPrefixOf_iff_prefix.1 c4
    exact ⟨hg, .inl (h46 (47 :: t) ht.symm)⟩
  · exact ⟨hg, .inr (.inr ⟨[], rfl⟩)⟩
  · obtain ⟨t, ht⟩ := List.isPrefixOf_iff_prefix.1 c6
    exact ⟨hg, .inr (.inr ⟨t, by rw [← ht]; rfl⟩)⟩
  · exact ⟨good_dropLast hg, .inr (.inr ⟨[], rfl⟩)⟩
  · exact ⟨good_dropLast hg, .inr (.inr ⟨_, rfl⟩)⟩
  · obtain ⟨c, t, rfl⟩ : ∃ c t, p = c :: t := by cases p with | nil => exact absurd rfl hp | cons c t => exact ⟨c, t, rfl⟩
    obtain ⟨n1, n2, n3, n4⟩ := nine_ok c1 c2 c3 c4 c5 c6 c7 c8
    have hs := seg_split c t
    dsimp only
    rw [hs.1, hs.2]
    refine ⟨?_, .inr (drop_bef_head 47 t)⟩
    by_cases hc : c = 47
    · subst hc
      have hseg : Seg (47 :: bef 47 t) := ⟨bef 47 t, rfl, bef_no 47 t, fun h => n3 (by rw [h]), fun h => n4 (by rw [h])⟩
      cases out with
      | nil => exact ⟨.inl hseg, by simp⟩
      | cons x r =>
        refine ⟨hg.1, ?_⟩
        intro z hz
        rcases List.mem_append.1 hz with hz | hz
        · exact hg.2 z hz
        · simp at hz; subst hz; exact hseg
    · have hout : out = [] := by
        rcases ho with ho | ho | ⟨u, hu⟩
        · exact ho
        · exact absurd ho hp
        · exact absurd (List.cons.inj hu).1 hc
      subst hout
      refine ⟨.inr ⟨by simp, ?_, n1, n2⟩, by simp⟩
      intro hm
      rcases List.mem_cons.1 hm with hm | hm
      · exact hc hm.symm
      · exact bef_no 47 t hm

theorem run_good : ∀ (n : Nat) (p : List UInt8) (out : List (List UInt8)), Inv p out → GoodOut (dotsRun n p out)
  | 0, p, out, h => h.1
  | n + 1, p, out, h => by
    unfold dotsRun
    split
    · exact h.1
    · exact run_good n _ _ (inv_step h (by assumption))

theorem seg_head {r : List (List UInt8)} (h : ∀ z ∈ r, Seg z) : r.flatten = [] ∨ ∃ t, r.flatten = 47 :: t := by
  cases r with
  | nil => left; rfl
  | cons x r =>
    obtain ⟨y, rfl, -⟩ := h x (by simp)
    right; exact ⟨y ++ r.flatten, by simp⟩

theorem first_cons {x : List UInt8} (h : First x) : ∃ c y, x = c :: y ∧ (47 : UInt8) ∉ y ∧ x ≠ [46] ∧ x ≠ [46, 46] ∧ x ≠ [47, 46] ∧ x ≠ [47, 46, 46] := by
  rcases h with ⟨y, rfl, hy, h1, h2⟩ | ⟨hne, hno, h1, h2⟩
  · exact ⟨47, y, rfl, hy, by simp, by simp, by simpa using h1, by simpa using h2⟩
  · cases x with
    | nil => exact absurd rfl hne
    | cons c y =>
      refine ⟨c, y, rfl, fun h => hno (List.mem_cons_of_mem _ h), h1, h2, ?_, ?_⟩
      · rintro h; rw [h] at hno; simp at hno
      · rintro h; rw [h] at hno; simp at hno

/-- what is good stays -/
theorem run_stays : ∀ (rest : List (List UInt8)) (n : Nat) (acc : List (List UInt8)), GoodOut rest → rest.flatten.length ≤ n → dotsRun n rest.flatten acc = acc ++ rest
  | [], n, acc, _, _ => by cases n <;> simp [dotsRun]
  | x :: r, n, acc, h, hn => by
    obtain ⟨c, y, rfl, hy, h1, h2, h3, h4⟩ := first_cons h.1
    have hq := seg_head h.2
    have hp : ((c :: y) :: r).flatten = c :: (y ++ r.flatten) := by simp
    obtain ⟨m, rfl⟩ : ∃ m, n = m + 1 := ⟨n - 1, by rw [hp] at hn; simp at hn; omega⟩
    have hst := way_nine (out := acc) hp hy hq h1 h2 h3 h4
    have hgr : GoodOut r := by
      cases r with
      | nil => trivial
      | cons z r => exact ⟨.inl (h.2 z (by simp)), fun w hw => h.2 w (by simp [hw])⟩
    rw [dotsRun, if_neg (by rw [hp]; simp), hst]
    rw [run_stays r m (acc ++ [c :: y]) hgr (by rw [hp] at hn; simp only [List.length_cons, List.length_append] at hn; omega)]
    simp

theorem dots_good (p : List UInt8) : GoodOut (dotsRun p.length p []) := run_good _ _ _ ⟨trivial, .inl rfl⟩
theorem dots_stays (p : List UInt8) : dotsL (dotsL p) = dotsL p := by
  have hg := dots_good p
  unfold dotsL
  rw [run_stays _ _ [] hg (Nat.le_refl _)]
  rfl

/-- the runs between slashes, read from the left: none is a dot segment -/
def scan : List UInt8 → List UInt8 → Prop
  | cur, [] => okRun cur
  | cur, c :: l => if c = 47 then okRun cur ∧ scan [] l else scan (cur ++ [c]) l

theorem scan_app : ∀ (y cur l : List UInt8), (47 : UInt8) ∉ y → (scan cur (y ++ l) ↔ scan (cur ++ y) l)
  | [], cur, l, _ => by simp
  | b :: y, cur, l, h => by
    have hb : ¬ b = 47 := by intro e; subst e; simp at h
    rw [List.cons_append, scan, if_neg hb, scan_app y (cur ++ [b]) l (fun hm => h (List.mem_cons_of_mem _ hm))]
    simp

theorem scan_segs : ∀ (r : List (List UInt8)) (cur : List UInt8), okRun cur → (∀ z ∈ r, Seg z) → scan cur r.flatten
  | [], cur, h, _ => h
  | x :: r, cur, h, hs => by
    obtain ⟨y, rfl, hy, ho⟩ := hs x (by simp)
    show scan cur (47 :: (y ++ r.flatten))
    rw [scan, if_pos rfl]
    refine ⟨h, ?_⟩
    rw [scan_app y [] r.flatten hy]
    exact scan_segs r _ ho (fun z hz => hs z (by simp [hz]))

theorem scan_dots (p : List UInt8) : scan [] (dotsL p) := by
  have hg := dots_good p
  unfold dotsL
  generalize dotsRun p.length p [] = out at *
  have h0 : okRun [] := ⟨by simp, by simp⟩
  cases out with
  | nil => exact h0
  | cons x r =>
    rcases hg.1 with hs | ⟨hne, hno, hok⟩
    · exact scan_segs (x :: r) [] h0 (fun z hz => by rcases List.mem_cons.1 hz with rfl | hz; exact hs; exact hg.2 z hz)
    · rw [List.flatten_cons, scan_app x [] r.flatten hno]
      exact scan_segs r _ hok hg.2
end Go.Proofs.Ythicgeiljficbaa
