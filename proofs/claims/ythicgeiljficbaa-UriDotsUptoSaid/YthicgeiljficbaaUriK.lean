/- Package uri over lists of bytes: Resolve, Join, Absolute, Bare. -/
import Derived.Test.YthicgeiljficbaaUriJ
namespace Go.Proofs.Ythicgeiljficbaa
open Go.RowKit
set_option linter.unusedSimpArgs false
set_option linter.unusedVariables false
set_option linter.unnecessarySimpa false

def UZ (n : Nat) (u : U) : Prop := u.sch.length ≤ n ∧ u.auth.length ≤ n ∧ u.path.length ≤ n ∧ u.qry.length ≤ n ∧ u.frag.length ≤ n

theorem from_any (p : Nat) (b u : U) (w : World) (h : Blk w p (ucells u) 57) (hb : b.path.length ≤ 268435456) (hu : u.path.length ≤ 268435456) :
    Calls Try.prog 27 #[.pointer (some ⟨p, 0, none⟩), uval b] w (Sets p (fromU b u) w) := by
  obtain ⟨bs, ba, bp, bq, bf, bha, bhq, bhf⟩ := b
  obtain ⟨s, a, pa, q, f, ha, hq, hf⟩ := u
  dsimp only at hb hu
  unfold fromU
  dsimp only
  cases ha with
  | true => exact from_auth p bs ba bp bq bf s a pa q f bha bhq bhf hq hf (by omega) w h
  | false =>
    rw [if_neg (by decide)]
    by_cases hpa : pa = []
    · rw [if_pos hpa]
      cases hq with
      | true => exact from_empty_q p bs ba bp bq bf s a pa q f bha bhq bhf hf hpa w h
      | false => exact from_empty p bs ba bp bq bf s a pa q f bha bhq bhf hf hpa w h
    · rw [if_neg hpa]
      obtain ⟨c, t, hct⟩ : ∃ c t, pa = c :: t := by cases pa with | nil => exact absurd rfl hpa | cons c t => exact ⟨c, t, rfl⟩
      have hhd : pa.headD 0 = c := by rw [hct]; rfl
      by_cases hc : c = 47
      · have e : joinPath ⟨bs, ba, bp, bq, bf, bha, bhq, bhf⟩ ⟨s, a, pa, q, f, false, hq, hf⟩ = dotsL pa := by
          unfold joinPath; dsimp only; rw [if_pos (by rw [hhd, hc])]
        rw [e]
        exact from_slash p bs ba bp bq bf s a pa q f bha bhq bhf hq hf c t hct (by rw [hc]; rfl) (by omega) w h
      · have hc0 : ((c.toNat : Int) == 47) = false := by
          have : ¬ ((c.toNat : Int) = 47) := by
            intro h0
            apply hc
            apply UInt8.toNat_inj.1
            show _ = 47
            omega
          simpa using this
        have hneg : ¬ (pa.headD 0 = 47) := by rw [hhd]; exact hc
        cases bha with
        | true =>
          by_cases hbp : bp = []
          · have e : joinPath ⟨bs, ba, bp, bq, bf, true, bhq, bhf⟩ ⟨s, a, pa, q, f, false, hq, hf⟩ = dotsL (47 :: pa) := by
              unfold joinPath; dsimp only; rw [if_neg hneg, if_pos (by rw [hbp]; rfl)]
            rw [e]
            exact from_root p bs ba bp bq bf s a pa q f bhq bhf hq hf hbp c t hct hc0 (by omega) w h
          · have e : joinPath ⟨bs, ba, bp, bq, bf, true, bhq, bhf⟩ ⟨s, a, pa, q, f, false, hq, hf⟩ = dotsL (upto bp ++ pa) := by
              unfold joinPath; dsimp only; rw [if_neg hneg, if_neg (by simpa using hbp)]
            rw [e]
            exact from_rel2 p bs ba bp bq bf s a pa q f bhq bhf hq hf hbp c t hct hc0 (by omega) w h
        | false =>
          have e : joinPath ⟨bs, ba, bp, bq, bf, false, bhq, bhf⟩ ⟨s, a, pa, q, f, false, hq, hf⟩ = dotsL (upto bp ++ pa) := by
            unfold joinPath; dsimp only; rw [if_neg hneg, if_neg (by simp)]
          rw [e]
          exact from_rel1 p bs ba bp bq bf s a pa q f bhq bhf hq hf c t hct hc0 (by omega) w h

def resolveU (b u : U) : U := if u.sch.isEmpty then fromU b u else ⟨u.sch, u.auth, dotsL u.path, u.qry, u.frag, u.ha, u.hq, u.hf⟩

/-- the parts of a reference, as a value's cells -/
theorem uval_cells (u : U) : uval u = .agg (ucells u).toArray := rfl

set_option maxRecDepth 100000 in
set_option maxHeartbeats 2000000 in
theorem resolve_sch (bs ba bp bq bf s a pa q f : List UInt8) (bha bhq bhf ha hq hf : Bool) (hsch : s.isEmpty = false) (hp : pa.length ≤ 268435456) (w : World) :
    Calls Try.prog 13 #[.agg #[.string (str bs), .string (str ba), .string (str bp), .string (str bq), .string (str bf), .bool bha, .bool bhq, .bool bhf], .agg #[.string (str s), .string (str a), .string (str pa), .string (str q), .string (str f), .bool ha, .bool hq, .bool hf]] w
      (New (uval ⟨s, a, dotsL pa, q, f, ha, hq, hf⟩) w) := by
  have hse : (str s).toList.isEmpty = false := by rw [str_toList]; exact hsch
  clear hsch
  go_enter Try.func13, Try.ntmps13
  go_wp2_with fail
  have R := (Blk.new ((w.alloc (.cells #[.string (str bs), .string (str ba), .string (str bp), .string (str bq), .string (str bf), .bool bha, .bool bhq, .bool bhf] 27)).alloc (.cells #[.string (str s), .string (str a), .string (str pa), .string (str q), .string (str f), .bool ha, .bool hq, .bool hf] 27)) [.string ⟨#[]⟩, .string ⟨#[]⟩, .string ⟨#[]⟩, .string ⟨#[]⟩, .string ⟨#[]⟩, .bool false, .bool false, .bool false] 27).alloc (.cells #[.string (str s), .string (str a), .string (str pa), .string (str q), .string (str f), .bool ha, .bool hq, .bool hf] 57)
  have V := Blk.new (((w.alloc (.cells #[.string (str bs), .string (str ba), .string (str bp), .string (str bq), .string (str bf), .bool bha, .bool bhq, .bool bhf] 27)).alloc (.cells #[.string (str s), .string (str a), .string (str pa), .string (str q), .string (str f), .bool ha, .bool hq, .bool hf] 27)).alloc (.cells #[.string ⟨#[]⟩, .string ⟨#[]⟩, .string ⟨#[]⟩, .string ⟨#[]⟩, .string ⟨#[]⟩, .bool false, .bool false, .bool false] 27)) [.string (str s), .string (str a), .string (str pa), .string (str q), .string (str f), .bool ha, .bool hq, .bool hf] 57
  have B0 : Below w.heap.size w ((((w.alloc (.cells #[.string (str bs), .string (str ba), .string (str bp), .string (str bq), .string (str bf), .bool bha, .bool bhq, .bool bhf] 27)).alloc (.cells #[.string (str s), .string (str a), .string (str pa), .string (str q), .string (str f), .bool ha, .bool hq, .bool hf] 27)).alloc (.cells #[.string ⟨#[]⟩, .string ⟨#[]⟩, .string ⟨#[]⟩, .string ⟨#[]⟩, .string ⟨#[]⟩, .bool false, .bool false, .bool false] 27)).alloc (.cells #[.string (str s), .string (str a), .string (str pa), .string (str q), .string (str f), .bool ha, .bool hq, .bool hf] 57)) := ((((Below.refl _ _).alloc (Nat.le_refl _) _).alloc (by simp) _).alloc (by simp; omega) _).alloc (by simp; omega) _
  simp only [World.size_alloc] at R V
  refine (dots_any _ (by omega) _).mono ?_
  rintro e w1 ⟨rfl, hb⟩
  have R1 := R.call hb
  have V1 := V.call hb
  have B1 : Below w.heap.size w w1 := RowKit.Below.call B0 hb (by simp; omega)
  clear hb R V B0
  have rc := R1.cell; have rf := R1.froz; have vc := V1.cell; have vf := V1.froz
  have hz := V1.lt
  have HB := Lib.hid B1
  clear R1 V1 B1
  go_wp2_with fail
  refine bodyPost_ret (v := uval ⟨s, a, dotsL pa, q, f, ha, hq, hf⟩) (by simp [results, Try.results13, go_sem, rc, vc, rf, vf, uval, str_nil]) rfl ⟨rfl, ?_⟩
  repeat (first | (with_reducible refine Below.setCell ?_ ?_ _) | (with_reducible refine Below.drew ?_))
  all_goals first | (with_reducible exact HB.out) | (simp; omega) | (simp; done)

set_option maxRecDepth 100000 in
set_option maxHeartbeats 2000000 in
theorem resolve_none (bs ba bp bq bf s a pa q f : List UInt8) (bha bhq bhf ha hq hf : Bool) (r : U) (hr : fromU ⟨bs, ba, bp, bq, bf, bha, bhq, bhf⟩ ⟨s, a, pa, q, f, ha, hq, hf⟩ = r) (hsch : s.isEmpty = true) (hp : pa.length ≤ 268435456) (hbp : bp.length ≤ 268435456) (w : World) :
    Calls Try.prog 13 #[.agg #[.string (str bs), .string (str ba), .string (str bp), .string (str bq), .string (str bf), .bool bha, .bool bhq, .bool bhf], .agg #[.string (str s), .string (str a), .string (str pa), .string (str q), .string (str f), .bool ha, .bool hq, .bool hf]] w
      (New (uval r) w) := by
  have hse : (str s).toList.isEmpty = true := by rw [str_toList]; exact hsch
  clear hsch
  have HR := Lib.hid hr
  clear hr
  go_enter Try.func13, Try.ntmps13
  go_wp2_with fail
  have R := (Blk.new ((w.alloc (.cells #[.string (str bs), .string (str ba), .string (str bp), .string (str bq), .string (str bf), .bool bha, .bool bhq, .bool bhf] 27)).alloc (.cells #[.string (str s), .string (str a), .string (str pa), .string (str q), .string (str f), .bool ha, .bool hq, .bool hf] 27)) [.string ⟨#[]⟩, .string ⟨#[]⟩, .string ⟨#[]⟩, .string ⟨#[]⟩, .string ⟨#[]⟩, .bool false, .bool false, .bool false] 27).alloc (.cells #[.string (str s), .string (str a), .string (str pa), .string (str q), .string (str f), .bool ha, .bool hq, .bool hf] 57)
  have V := Blk.new (((w.alloc (.cells #[.string (str bs), .string (str ba), .string (str bp), .string (str bq), .string (str bf), .bool bha, .bool bhq, .bool bhf] 27)).alloc (.cells #[.string (str s), .string (str a), .string (str pa), .string (str q), .string (str f), .bool ha, .bool hq, .bool hf] 27)).alloc (.cells #[.string ⟨#[]⟩, .string ⟨#[]⟩, .string ⟨#[]⟩, .string ⟨#[]⟩, .string ⟨#[]⟩, .bool false, .bool false, .bool false] 27)) [.string (str s), .string (str a), .string (str pa), .string (str q), .string (str f), .bool ha, .bool hq, .bool hf] 57
  have B0 : Below w.heap.size w ((((w.alloc (.cells #[.string (str bs), .string (str ba), .string (str bp), .string (str bq), .string (str bf), .bool bha, .bool bhq, .bool bhf] 27)).alloc (.cells #[.string (str s), .string (str a), .string (str pa), .string (str q), .string (str f), .bool ha, .bool hq, .bool hf] 27)).alloc (.cells #[.string ⟨#[]⟩, .string ⟨#[]⟩, .string ⟨#[]⟩, .string ⟨#[]⟩, .string ⟨#[]⟩, .bool false, .bool false, .bool false] 27)).alloc (.cells #[.string (str s), .string (str a), .string (str pa), .string (str q), .string (str f), .bool ha, .bool hq, .bool hf] 57)) := ((((Below.refl _ _).alloc (Nat.le_refl _) _).alloc (by simp) _).alloc (by simp; omega) _).alloc (by simp; omega) _
  simp only [World.size_alloc] at R V
  refine (from_any _ ⟨bs, ba, bp, bq, bf, bha, bhq, bhf⟩ ⟨s, a, pa, q, f, ha, hq, hf⟩ _ V hbp hp).mono ?_
  rintro e w1 ⟨rfl, hv, hb⟩
  rw [HR.out] at hv
  have R1 := R.below hb (by omega)
  have V1 := hv
  have B1 : Below w.heap.size w w1 := B0.trans (hb.mono (by omega))
  unfold ucells at V1
  clear hb R V B0 hv
  have rc := R1.cell; have rf := R1.froz; have vc := V1.cell; have vf := V1.froz
  have hz := V1.lt
  have HB := Lib.hid B1
  clear R1 V1 B1
  go_wp2_with fail
  refine bodyPost_ret (v := uval r) (by simp [results, Try.results13, go_sem, rc, vc, rf, vf, uval, str_nil]) rfl ⟨rfl, ?_⟩
  repeat (first | (with_reducible refine Below.setCell ?_ ?_ _) | (with_reducible refine Below.drew ?_))
  all_goals first | (with_reducible exact HB.out) | (simp; omega) | (simp; done)

theorem resolve_any (b u : U) (hb : b.path.length ≤ 268435456) (hu : u.path.length ≤ 268435456) (w : World) :
    Calls Try.prog 13 #[uval b, uval u] w (New (uval (resolveU b u)) w) := by
  obtain ⟨bs, ba, bp, bq, bf, bha, bhq, bhf⟩ := b
  obtain ⟨s, a, pa, q, f, ha, hq, hf⟩ := u
  dsimp only at hb hu
  unfold resolveU
  dsimp only
  cases hs : s.isEmpty with
  | false => exact resolve_sch bs ba bp bq bf s a pa q f bha bhq bhf ha hq hf hs hu w
  | true => exact resolve_none bs ba bp bq bf s a pa q f bha bhq bhf ha hq hf _ rfl hs hu hb w
end Go.Proofs.Ythicgeiljficbaa
