/- Package uri over lists of bytes: Parse, Bare, Absolute. -/
import Derived.Test.YthicgeiljficbaaUriC
namespace Go.Proofs.Ythicgeiljficbaa
open Go.RowKit
set_option linter.unusedSimpArgs false
set_option linter.unusedVariables false
set_option linter.unnecessarySimpa false

theorem scheme_l (l : List UInt8) (hs : l.length ≤ 4294967200) (w : World) :
    Calls Try.prog 15 #[.string (str l)] w (New (.bool (schB l)) w) := by
  have := scheme_any (str l) (by rw [str_size]; omega) w
  rw [str_data] at this
  exact this
theorem plain_l (l o : List UInt8) (hs : l.length ≤ 4294967200) (w : World) :
    Calls Try.prog 16 #[.string (str l), .string ⟨o.toArray⟩] w (Ans (.bool (plainB o l)) w) := by
  have := plain_any (str l) (str o) (by rw [str_size]; omega) w
  rw [str_data, str_data] at this
  exact this
theorem contains_l (l : List UInt8) (c : UInt8) (w : World) :
    Calls Try.prog 18 #[.string (str l), .string ⟨#[c]⟩] w (Ans (.bool (has c l)) w) := by
  have := Try.strings_Contains_one (str l) c w
  rw [str_data] at this
  have e : decide (0 ≤ Lib.indexByte l c) = has c l := by
    rw [indexByte_eq]
    unfold has
    cases h : l.contains c
    · rfl
    · simp
  rw [e] at this
  exact this.mono fun _ _ h => ⟨h.1, h.2.symm⟩

def bytesOk (u : U) : Bool := schB u.sch && plainB [91, 93] u.auth && plainB [47] u.path && plainB [47, 63] u.qry && plainB [47, 63] u.frag
def parseOk (u : U) : Bool := bytesOk u && !(u.sch.isEmpty && !u.ha && has 58 (bef 47 u.path))
def parseVal (u : U) : Value := if parseOk u then .tuple #[uval u, .int .i64 0] else .tuple #[uval uzero, .int .i64 80]
theorem parseVal_yes {u : U} (h : parseOk u = true) : parseVal u = .tuple #[uval u, .int .i64 0] := by rw [parseVal, if_pos h]
theorem parseVal_no {u : U} (h : parseOk u = false) : parseVal u = .tuple #[uval uzero, .int .i64 80] := by rw [parseVal, if_neg (by rw [h]; decide)]

def CutUIs (l : List UInt8) (u : U) : Prop := ∀ w, Calls Try.prog 14 #[.string (str l)] w (New (uval u) w)

set_option maxRecDepth 100000 in
set_option maxHeartbeats 2000000 in
theorem parse_core (l sch auth path qry frag : List UInt8) (ha hq hf : Bool) (C : CutUIs l ⟨sch, auth, path, qry, frag, ha, hq, hf⟩) (h1 : sch.length ≤ 4294967200) (h2 : auth.length ≤ 4294967200) (h3 : path.length ≤ 4294967200)
    (h4 : qry.length ≤ 4294967200) (h5 : frag.length ≤ 4294967200) (w : World) :
    Calls Try.prog 8 #[.string (str l)] w (New (parseVal ⟨sch, auth, path, qry, frag, ha, hq, hf⟩) w) := by
  go_enter Try.func8, Try.ntmps8
  go_wp2_with fail
  refine (C _).mono ?_
  unfold uval
  rintro e w1 ⟨rfl, hb⟩
  have R := (Blk.new w [.string ⟨#[]⟩, .string ⟨#[]⟩, .string ⟨#[]⟩, .string ⟨#[]⟩, .string ⟨#[]⟩, .bool false, .bool false, .bool false] 27).call hb
  have B1 : Below w.heap.size w w1 := RowKit.Below.call ((Below.refl _ _).alloc (Nat.le_refl _) _) hb (by simp; try omega)
  clear hb
  have rc := R.cell; have rf := R.froz
  have hz1 := R.lt
  have HR := Lib.hid R; have HB := Lib.hid B1
  clear R B1
  go_wp2_with fail
  refine (scheme_l _ h1 _).mono ?_
  rintro e w2 ⟨rfl, hb⟩
  have R := (HR.out.alloc _).call hb
  have V := (Blk.new w1 [.string (str sch), .string (str auth), .string (str path), .string (str qry), .string (str frag), .bool ha, .bool hq, .bool hf] 27).call hb
  have B2 : Below w.heap.size w w2 := RowKit.Below.call (HB.out.alloc (by omega) _) hb (by simp; try omega)
  clear hb rc rf HR HB
  have hzw := hz1
  have rc := R.cell; have rf := R.froz; have vc := V.cell; have vf := V.froz
  have hz1 := R.lt; have hz2 := V.lt
  have HR := Lib.hid R; have HV := Lib.hid V; have HB := Lib.hid B2
  clear R V B2
  generalize hs : schB sch = s1
  have HS := Lib.hid hs
  clear hs
  cases s1 with
  | false =>
    go_wp2_with fail
    refine bodyPost_ret (v := .tuple #[uval uzero, .int .i64 80]) (by simp [results, Try.results8, go_sem, rc, vc, rf, vf, uval, uzero, str_nil]) rfl ⟨by rw [parseVal_no]; unfold parseOk bytesOk; rw [HS.out]; rfl, ?_⟩
    repeat (first | (with_reducible refine Below.setCell ?_ ?_ _) | (with_reducible refine Below.drew ?_))
    all_goals first | (with_reducible exact HB.out) | (simp; done)
  | true =>
    go_wp2_with (first | (go_at_call 16; refine (plain_l _ _ (by omega) _).mono ?_; rintro e w' ⟨rfl, rfl⟩))
    all_goals try
      (refine bodyPost_ret (v := .tuple #[uval uzero, .int .i64 80]) (by simp [results, Try.results8, go_sem, rc, vc, rf, vf, uval, uzero, str_nil]) rfl ⟨by rw [parseVal_no]; simp_all [parseOk, bytesOk], ?_⟩
       repeat (first | (with_reducible refine Below.setCell ?_ ?_ _) | (with_reducible refine Below.drew ?_))
       all_goals first | (with_reducible exact HB.out) | (simp; done))
    refine (cut_l _ _ (by omega) _).mono ?_
    rintro e w3 ⟨rfl, hb⟩
    have R := HR.out.call hb
    have V := HV.out.call hb
    have B3 : Below w.heap.size w w3 := RowKit.Below.call HB.out hb (by omega)
    clear hb rc rf vc vf HR HV HB
    have rc := R.cell; have rf := R.froz; have vc := V.cell; have vf := V.froz
    have HR := Lib.hid R; have HV := Lib.hid V; have HB := Lib.hid B3
    clear R V B3
    have hk : Hid (bytesOk ⟨sch, auth, path, qry, frag, ha, hq, hf⟩ = true) := by
      simp only [bytesOk, HS.out]
      simp_all [Hid]
    have hse : (str sch).toList.isEmpty = sch.isEmpty := by rw [str_toList]
    generalize hsi : sch.isEmpty = si at *
    have HSI := Lib.hid hsi
    clear hsi
    go_wp2_with (first | (go_at_call 18; refine (contains_l _ _ _).mono ?_; rintro e w' ⟨rfl, rfl⟩))
    · have hk2 : parseOk ⟨sch, auth, path, qry, frag, ha, hq, hf⟩ = true := by
        have e : parseOk ⟨sch, auth, path, qry, frag, ha, hq, hf⟩ = (bytesOk ⟨sch, auth, path, qry, frag, ha, hq, hf⟩ && !(sch.isEmpty && !ha && has 58 (bef 47 path))) := rfl
        rw [e, hk.out, HSI.out]
        clear hk HSI
        simp_all
      refine bodyPost_ret (v := .tuple #[uval ⟨sch, auth, path, qry, frag, ha, hq, hf⟩, .int .i64 0]) ?_ rfl ⟨?_, ?_⟩
      · simp [results, Try.results8, go_sem, rc, vc, rf, vf, uval, uzero, str_nil]
        try (first | assumption | (apply Bool.eq_false_of_not_eq_true; assumption) | (clear rc rf vc vf; simp_all))
      · rw [parseVal_yes hk2]
      · repeat (first | (with_reducible refine Below.setCell ?_ ?_ _) | (with_reducible refine Below.drew ?_))
        all_goals first | (with_reducible exact HB.out) | (simp; done)
    · have hk2 : parseOk ⟨sch, auth, path, qry, frag, ha, hq, hf⟩ = false := by
        have e : parseOk ⟨sch, auth, path, qry, frag, ha, hq, hf⟩ = (bytesOk ⟨sch, auth, path, qry, frag, ha, hq, hf⟩ && !(sch.isEmpty && !ha && has 58 (bef 47 path))) := rfl
        rw [e, hk.out, HSI.out]
        clear hk HSI
        simp_all
      refine bodyPost_ret (v := .tuple #[uval uzero, .int .i64 80]) ?_ rfl ⟨?_, ?_⟩
      · simp [results, Try.results8, go_sem, rc, vc, rf, vf, uval, uzero, str_nil]
        try (first | assumption | (apply Bool.eq_false_of_not_eq_true; assumption) | (clear rc rf vc vf; simp_all))
      · rw [parseVal_no hk2]
      · repeat (first | (with_reducible refine Below.setCell ?_ ?_ _) | (with_reducible refine Below.drew ?_))
        all_goals first | (with_reducible exact HB.out) | (simp; done)
    · have hk2 : parseOk ⟨sch, auth, path, qry, frag, ha, hq, hf⟩ = true := by
        have e : parseOk ⟨sch, auth, path, qry, frag, ha, hq, hf⟩ = (bytesOk ⟨sch, auth, path, qry, frag, ha, hq, hf⟩ && !(sch.isEmpty && !ha && has 58 (bef 47 path))) := rfl
        rw [e, hk.out, HSI.out]
        clear hk HSI
        simp_all
      refine bodyPost_ret (v := .tuple #[uval ⟨sch, auth, path, qry, frag, ha, hq, hf⟩, .int .i64 0]) ?_ rfl ⟨?_, ?_⟩
      · simp [results, Try.results8, go_sem, rc, vc, rf, vf, uval, uzero, str_nil]
        try (first | assumption | (apply Bool.eq_false_of_not_eq_true; assumption) | (clear rc rf vc vf; simp_all))
      · rw [parseVal_yes hk2]
      · repeat (first | (with_reducible refine Below.setCell ?_ ?_ _) | (with_reducible refine Below.drew ?_))
        all_goals first | (with_reducible exact HB.out) | (simp; done)
    · have hk2 : parseOk ⟨sch, auth, path, qry, frag, ha, hq, hf⟩ = true := by
        have e : parseOk ⟨sch, auth, path, qry, frag, ha, hq, hf⟩ = (bytesOk ⟨sch, auth, path, qry, frag, ha, hq, hf⟩ && !(sch.isEmpty && !ha && has 58 (bef 47 path))) := rfl
        rw [e, hk.out, HSI.out]
        clear hk HSI
        simp_all
      refine bodyPost_ret (v := .tuple #[uval ⟨sch, auth, path, qry, frag, ha, hq, hf⟩, .int .i64 0]) ?_ rfl ⟨?_, ?_⟩
      · simp [results, Try.results8, go_sem, rc, vc, rf, vf, uval, uzero, str_nil]
        try (first | assumption | (apply Bool.eq_false_of_not_eq_true; assumption) | (clear rc rf vc vf; simp_all))
      · rw [parseVal_yes hk2]
      · repeat (first | (with_reducible refine Below.setCell ?_ ?_ _) | (with_reducible refine Below.drew ?_))
        all_goals first | (with_reducible exact HB.out) | (simp; done)

theorem noScheme_le (l : List UInt8) : (noScheme l).length ≤ l.length := by
  unfold noScheme; split
  · rw [List.length_drop]; omega
  · omega
theorem theScheme_le (l : List UInt8) : (theScheme l).length ≤ l.length := by
  unfold theScheme; split
  · rw [List.length_take]; omega
  · simp
theorem theAuth_le (l : List UInt8) : (theAuth l).length ≤ l.length := by
  unfold theAuth; split
  · have := bef_le 47 (l.drop 2); rw [List.length_drop] at this; omega
  · simp
theorem thePath_le (l : List UInt8) : (thePath l).length ≤ l.length := by
  unfold thePath; split
  · rw [List.length_drop, List.length_drop]; omega
  · omega
theorem aft_le (c : UInt8) (l : List UInt8) : (aft c l).length ≤ l.length := by
  have := congrArg List.length (drop_bef c l)
  rw [List.length_drop] at this
  omega
theorem cutU_le (l : List UInt8) : (cutU l).sch.length ≤ l.length ∧ (cutU l).auth.length ≤ l.length ∧ (cutU l).path.length ≤ l.length ∧ (cutU l).qry.length ≤ l.length ∧ (cutU l).frag.length ≤ l.length := by
  have a1 := bef_le 35 l
  have a2 := bef_le 63 (bef 35 l)
  have a3 := noScheme_le (bef 63 (bef 35 l))
  have a4 := theScheme_le (bef 63 (bef 35 l))
  have a5 := theAuth_le (noScheme (bef 63 (bef 35 l)))
  have a6 := thePath_le (noScheme (bef 63 (bef 35 l)))
  have a7 := aft_le 63 (bef 35 l)
  have a8 := aft_le 35 l
  simp only [cutU]
  omega

/-- uri.Parse: what it answers of a text -/
def parseL (l : List UInt8) : U × Int := if parseOk (cutU l) then (cutU l, 0) else (uzero, 80)
theorem parseVal_eq (l : List UInt8) : parseVal (cutU l) = .tuple #[uval (parseL l).1, .int .i64 (parseL l).2] := by
  unfold parseVal parseL
  split <;> rfl

theorem parse_any (l : List UInt8) (hs : l.length ≤ 4294967200) (w : World) :
    Calls Try.prog 8 #[.string (str l)] w (New (.tuple #[uval (parseL l).1, .int .i64 (parseL l).2]) w) := by
  have h := cutU_le l
  have C : CutUIs l (cutU l) := fun w => cut_any l hs w
  rw [← parseVal_eq]
  obtain ⟨h1, h2, h3, h4, h5⟩ := h
  generalize cutU l = u at *
  obtain ⟨sch, auth, path, qry, frag, ha, hq, hf⟩ := u
  exact parse_core l sch auth path qry frag ha hq hf C (Nat.le_trans h1 hs) (Nat.le_trans h2 hs) (Nat.le_trans h3 hs) (Nat.le_trans h4 hs) (Nat.le_trans h5 hs) w
end Go.Proofs.Ythicgeiljficbaa
