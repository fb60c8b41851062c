/- Plain laws of references over lists of bytes: a text's parts put together again; what is joined to a base. -/
import Derived.Test.YthicgeiljficbaaUriM
namespace Go.Proofs.Ythicgeiljficbaa
open Go.RowKit
set_option linter.unusedSimpArgs false
set_option linter.unusedVariables false
set_option linter.unnecessarySimpa false

theorem split_at (c : UInt8) (l : List UInt8) : bef c l ++ puts (has c l) [[c], aft c l] = l := by
  unfold has puts
  induction l with
  | nil => simp [bef]
  | cons b l ih =>
    by_cases h : b = c
    · subst h; simp [bef, aft]
    · have e1 : bef c (b :: l) = b :: bef c l := by simp [bef, h]
      have e2 : aft c (b :: l) = aft c l := by simp [aft, List.dropWhile_cons, h]
      rw [contains_ne h, e1, e2, List.cons_append, ih]

theorem split_scheme (s : List UInt8) : puts (!(theScheme s).isEmpty) [theScheme s, [58]] ++ noScheme s = s := by
  rcases colon_cases s with ⟨n, hn, h0, hl, hb, e1, e2⟩ | ⟨h0, e1, e2⟩ | ⟨n, hn, h0, hl, hb, e1, e2⟩
  · rw [e1, e2]
    have hne : (s.take n).isEmpty = false := by
      cases s with
      | nil => simp at hl
      | cons a t =>
        obtain ⟨m, rfl⟩ : ∃ m, n = m + 1 := ⟨n - 1, by omega⟩
        rfl
    have h58 : s.getD n 0 = 58 := by
      apply UInt8.toNat_inj.1
      show _ = 58
      have h5 : ((s.getD n 0).toNat : Int) = 58 := beq_iff_eq.1 hb
      omega
    have hd : s.drop n = 58 :: s.drop (n + 1) := by rw [drop_two hl, h58]
    rw [hne]
    simp only [puts, Bool.not_false, if_true, List.flatten_cons, List.flatten_nil, List.append_nil, List.append_assoc, List.cons_append, List.nil_append]
    rw [← hd, List.take_append_drop]
  · rw [e1, e2]; rfl
  · rw [e1, e2]; rfl

theorem split_auth (s : List UInt8) : puts (hasAuth s) [[47, 47], theAuth s] ++ thePath s = s := by
  unfold theAuth thePath puts
  cases h : hasAuth s with
  | false => rfl
  | true =>
    obtain ⟨t, rfl⟩ := List.isPrefixOf_iff_prefix.1 h
    simp only [if_true]
    show ([[47, 47], bef 47 t].flatten ++ t.drop (bef 47 t).length) = 47 :: 47 :: t
    have : bef 47 t ++ t.drop (bef 47 t).length = t := by
      have h1 := take_bef 47 t
      have h2 := List.take_append_drop (bef 47 t).length t
      rw [h1] at h2
      exact h2
    simp only [List.flatten_cons, List.flatten_nil, List.append_nil, List.append_assoc, List.cons_append, List.nil_append]
    rw [this]

/-- P8.1: a reference's parts, put together, are its text -/
theorem text_cut (l : List UInt8) : textU (cutU l) = l := by
  have h1 := split_at 35 l
  have h2 := split_at 63 (bef 35 l)
  have h3 := split_scheme (bef 63 (bef 35 l))
  have h4 := split_auth (noScheme (bef 63 (bef 35 l)))
  unfold textU cutU
  dsimp only
  rw [List.append_assoc (puts _ _) (puts _ _) (thePath _), h4, h3, h2, h1]

theorem absL_yes {l : List UInt8} (h : absL l = true) : parseL l = (cutU l, 0) ∧ (cutU l).sch ≠ [] ∧ (cutU l).hf = false := by
  unfold absL absU at h
  simp only [Bool.and_eq_true, beq_iff_eq, Bool.not_eq_true'] at h
  obtain ⟨⟨h1, h2⟩, h3⟩ := h
  have hp : parseL l = (cutU l, 0) := by
    unfold parseL at h1 ⊢
    split
    · rfl
    · rename_i hn
      rw [if_neg hn] at h1
      simp at h1
  rw [hp] at h2 h3
  exact ⟨hp, by intro h0; rw [h0] at h2; simp at h2, h3⟩

theorem text_sch {u : U} (h : u.sch ≠ []) : textU u ≠ [] := by
  have : u.sch.isEmpty = false := by simpa using h
  unfold textU
  rw [this]
  intro h0
  have h1 := congrArg List.length h0
  simp [puts] at h1

theorem join_err {b l : List UInt8} (h : (joinL b l).2 ≠ 0) : (joinL b l).1 = [] := by
  unfold joinL joinU at h ⊢
  split
  · rename_i h1; rw [if_pos h1] at h; exact absurd rfl h
  · rfl

theorem join_ok {b l : List UInt8} (h : (joinL b l).2 = 0) : absL b = true ∧ (parseL l).2 = 0 ∧ joinL b l = (textU (resolveU (parseL b).1 (parseL l).1), 0) := by
  unfold joinL joinU at h ⊢
  by_cases h1 : ((parseL l).2 == 0 && absL b) = true
  · rw [if_pos h1]
    simp only [Bool.and_eq_true, beq_iff_eq] at h1
    exact ⟨h1.2, h1.1, rfl⟩
  · rw [if_neg h1] at h
    simp at h

theorem parseL_nil : parseL [] = (uzero, 0) := by decide +kernel

theorem aft_none {c : UInt8} {l : List UInt8} (h : has c l = false) : aft c l = [] := (bef_none c l h).2

/-- an empty reference is the base -/
theorem join_empty_ref {b : List UInt8} (h : absL b = true) : joinL b [] = (b, 0) := by
  obtain ⟨hp, hs, hf⟩ := absL_yes h
  unfold joinL joinU
  rw [parseL_nil, hp, h]
  have hfr : (cutU b).frag = [] := aft_none hf
  have e : resolveU (cutU b) uzero = cutU b := by
    generalize cutU b = u at *
    obtain ⟨s, a, p, q, f, ha, hq, hf2⟩ := u
    dsimp only at hf hfr
    subst hf hfr
    rfl
  show (if ((0 : Int) == 0 && true) = true then (textU (resolveU (cutU b) uzero), (0 : Int)) else ([], 80)) = _
  rw [if_pos (show ((0 : Int) == 0 && true) = true from rfl), e, text_cut]

theorem abs_xy : absL [120, 58, 47, 121] = true := by decide +kernel

def withPath (u : U) (p : List UInt8) : U := ⟨u.sch, u.auth, p, u.qry, u.frag, u.ha, u.hq, u.hf⟩
/-- what is absolute stays, without dots -/
theorem join_abs {b : List UInt8} (h : absL b = true) : joinL [120, 58, 47, 121] b = (textU (withPath (cutU b) (dotsL (cutU b).path)), 0) := by
  obtain ⟨hp, hs, hf⟩ := absL_yes h
  unfold joinL joinU
  rw [hp, abs_xy]
  have hse : (cutU b).sch.isEmpty = false := by simpa using hs
  have e : ∀ x, resolveU x (cutU b) = withPath (cutU b) (dotsL (cutU b).path) := by
    intro x
    unfold resolveU
    rw [hse]
    rfl
  show (if ((0 : Int) == 0 && true) = true then (textU (resolveU (parseL [120, 58, 47, 121]).1 (cutU b)), (0 : Int)) else ([], 80)) = _
  rw [if_pos (show ((0 : Int) == 0 && true) = true from rfl), e]

theorem resolve_sch_ne {b u : U} (h : b.sch ≠ []) : (resolveU b u).sch ≠ [] := by
  unfold resolveU
  by_cases hs : u.sch.isEmpty = true
  · rw [if_pos hs]
    unfold fromU
    repeat' split
    all_goals exact h
  · rw [if_neg hs]
    simpa using hs

theorem join_ne {b l : List UInt8} (h : (joinL b l).2 = 0) : (joinL b l).1 ≠ [] := by
  obtain ⟨ha, -, e⟩ := join_ok h
  obtain ⟨hp, hs, -⟩ := absL_yes ha
  rw [e]
  refine text_sch (resolve_sch_ne ?_)
  rw [hp]
  exact hs
end Go.Proofs.Ythicgeiljficbaa
