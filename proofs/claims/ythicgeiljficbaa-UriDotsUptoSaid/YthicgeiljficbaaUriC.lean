/- Package uri over lists of bytes: cut. -/
import Derived.Test.YthicgeiljficbaaUriB
import Derived.Test.YthicgeiljficbaaBlk
import Derived.BigRegion
namespace Go.Proofs.Ythicgeiljficbaa
open Go.RowKit
set_option linter.unusedSimpArgs false
set_option linter.unusedVariables false
set_option linter.unnecessarySimpa false

attribute [go_sem] str_size
@[go_sem] theorem str_extract (l : List UInt8) (a b : Nat) : (str l).extract a b = str ((l.drop a).take (b - a)) := by
  apply str_of
  rw [Lib.extract_data, str_data]
@[go_sem high] theorem str_extract_end (l : List UInt8) (a : Nat) : (str l).extract a l.length = str (l.drop a) := by
  rw [str_extract, List.take_of_length_le (by rw [List.length_drop]; exact Nat.le_refl _)]
@[go_sem] theorem str_append (a b : List UInt8) : str a ++ str b = str (a ++ b) := by
  apply str_of
  simp [str]
@[go_sem] theorem str_append_lit (a : List UInt8) (b : Array UInt8) : str a ++ ⟨b⟩ = str (a ++ b.toList) := by
  apply str_of
  simp [str]
@[go_sem] theorem lit_append_str (a : List UInt8) (b : Array UInt8) : (⟨b⟩ : ByteArray) ++ str a = str (b.toList ++ a) := by
  apply str_of
  simp [str]
theorem str_toList (l : List UInt8) : (str l).toList = l := by
  rw [Lib.toList_data, str_data]
@[go_sem] theorem str_index (l : List UInt8) (i : Nat) (h : i < (str l).size) : (str l)[i]'h = l.getD i 0 := by
  have := getD_byte (str l) i h
  rw [str_data] at this
  exact this.symm

/-- a reference's parts -/
structure U where
  sch : List UInt8
  auth : List UInt8
  path : List UInt8
  qry : List UInt8
  frag : List UInt8
  ha : Bool
  hq : Bool
  hf : Bool
deriving DecidableEq
def uval (u : U) : Value := .agg #[.string (str u.sch), .string (str u.auth), .string (str u.path), .string (str u.qry), .string (str u.frag), .bool u.ha, .bool u.hq, .bool u.hf]
def uzero : U := ⟨[], [], [], [], [], false, false, false⟩

/-- does byte c stand in l? -/
def has (c : UInt8) (l : List UInt8) : Bool := l.contains c

theorem cut_l (l : List UInt8) (c : UInt8) (hs : l.length ≤ 140737488351232) (w : World) :
    Calls Try.prog 17 #[.string (str l), .string ⟨#[c]⟩] w (New (.tuple #[.string (str (bef c l)), .string (str (aft c l)), .bool (has c l)]) w) := by
  have := cut_one (str l) c w (by rw [str_size]; exact hs)
  unfold cutVal at this
  rw [str_data] at this
  exact this
theorem idxany_l (l : List UInt8) (hs : l.length < 4294967281) (w : World) :
    Calls Try.prog 28 #[.string (str l), .string ⟨#[58, 47]⟩] w (New (.int .i64 (Lib.indexAny l [58, 47])) w) := by
  have := idxany_colsl (str l) (by rw [str_size]; exact hs) w
  rw [str_data] at this
  exact this
theorem cutprefix_l (l p : List UInt8) (w : World) :
    Calls Try.prog 29 #[.string (str l), .string (str p)] w (Ans (.tuple #[.string (str (Lib.trimPrefix l p)), .bool (Lib.hasPrefix l p)]) w) := by
  have := Try.strings_CutPrefix (str l) (str p) w
  rw [str_data, str_data] at this
  exact this.mono fun _ _ h => ⟨h.1, h.2.symm⟩
theorem idxbyte_l (l : List UInt8) (c : Int) (w : World) :
    Calls Try.prog 22 #[.string (str l), .int .u8 c] w (Ans (.int .i64 (Lib.indexByte l c.toNat.toUInt8)) w) := by
  have := Try.strings_IndexByte (str l) c w
  rw [str_data] at this
  exact this.mono fun _ _ h => ⟨h.1, h.2.symm⟩

theorem bcell {W w1 : World} (hb : Below W.heap.size W w1) : (∀ b o, b < W.heap.size → w1.cell? ⟨b, o, none⟩ = W.cell? ⟨b, o, none⟩) ∧ (∀ b o, b < W.heap.size → w1.frozen? ⟨b, o, none⟩ = W.frozen? ⟨b, o, none⟩) :=
  ⟨fun b o h => hb.cell (p := ⟨b, o, none⟩) h, fun b o h => hb.frozen (p := ⟨b, o, none⟩) h⟩

theorem indexAny_lt (chars : List UInt8) : ∀ l : List UInt8, Lib.indexAny l chars < l.length ∨ l = [] := by
  intro l
  induction l with
  | nil => right; rfl
  | cons b l ih =>
    left
    unfold Lib.indexAny
    have hg := Lib.indexAny_ge chars l
    simp only [List.length_cons]
    rcases ih with h | h
    · repeat' split
      all_goals omega
    · subst h
      simp only [Lib.indexAny]
      repeat' split
      all_goals simp_all

theorem bef_snoc (c : UInt8) (l : List UInt8) : bef c (l ++ [c]) = bef c l := by
  induction l with
  | nil => simp [bef]
  | cons b l ih =>
    by_cases h : b = c
    · subst h; simp [bef]
    · have e1 : bef c (b :: (l ++ [c])) = b :: bef c (l ++ [c]) := by simp [bef, h]
      have e2 : bef c (b :: l) = b :: bef c l := by simp [bef, h]
      rw [List.cons_append, e1, e2, ih]

/-- where the scheme's colon stands -/
def colon (s2 : List UInt8) : Bool := decide (0 < Lib.indexAny s2 [58, 47]) && (s2.getD (Lib.indexAny s2 [58, 47]).toNat 0 == 58)
def noScheme (s2 : List UInt8) : List UInt8 := if colon s2 then s2.drop ((Lib.indexAny s2 [58, 47]).toNat + 1) else s2
def theScheme (s2 : List UInt8) : List UInt8 := if colon s2 then s2.take (Lib.indexAny s2 [58, 47]).toNat else []
def hasAuth (s3 : List UInt8) : Bool := Lib.hasPrefix s3 [47, 47]
def theAuth (s3 : List UInt8) : List UInt8 := if hasAuth s3 then bef 47 (s3.drop 2) else []
def thePath (s3 : List UInt8) : List UInt8 := if hasAuth s3 then (s3.drop 2).drop (bef 47 (s3.drop 2)).length else s3
def cutU (l : List UInt8) : U :=
  ⟨theScheme (bef 63 (bef 35 l)), theAuth (noScheme (bef 63 (bef 35 l))), thePath (noScheme (bef 63 (bef 35 l))), aft 63 (bef 35 l), aft 35 l,
    hasAuth (noScheme (bef 63 (bef 35 l))), has 63 (bef 35 l), has 35 l⟩

theorem colon_cases (s2 : List UInt8) :
    (∃ n : Nat, Lib.indexAny s2 [58, 47] = n ∧ 0 < n ∧ n < s2.length ∧ (((s2.getD n 0).toNat : Int) == 58) = true ∧ theScheme s2 = s2.take n ∧ noScheme s2 = s2.drop (n + 1)) ∨
    (Lib.indexAny s2 [58, 47] ≤ 0 ∧ theScheme s2 = [] ∧ noScheme s2 = s2) ∨
    (∃ n : Nat, Lib.indexAny s2 [58, 47] = n ∧ 0 < n ∧ n < s2.length ∧ (((s2.getD n 0).toNat : Int) == 58) = false ∧ theScheme s2 = [] ∧ noScheme s2 = s2) := by
  have hge := Lib.indexAny_ge [58, 47] s2
  have hlt := indexAny_lt [58, 47] s2
  by_cases h0 : Lib.indexAny s2 [58, 47] ≤ 0
  · right; left
    have : colon s2 = false := by simp [colon]; omega
    exact ⟨h0, by rw [theScheme, this]; rfl, by rw [noScheme, this]; rfl⟩
  · have hl : Lib.indexAny s2 [58, 47] < s2.length := by
      rcases hlt with h | h
      · exact h
      · subst h; simp [Lib.indexAny] at h0
    by_cases hb : s2.getD (Lib.indexAny s2 [58, 47]).toNat 0 = 58
    · left
      have : colon s2 = true := by simp [colon]; exact ⟨by omega, by simpa using hb⟩
      refine ⟨(Lib.indexAny s2 [58, 47]).toNat, by omega, by omega, by omega, by rw [hb]; rfl, by rw [theScheme, this]; rfl, by rw [noScheme, this]; rfl⟩
    · right; right
      have : colon s2 = false := by
        simp only [colon, Bool.and_eq_false_iff]
        right; simpa using hb
      refine ⟨(Lib.indexAny s2 [58, 47]).toNat, by omega, by omega, by omega, ?_, by rw [theScheme, this]; rfl, by rw [noScheme, this]; rfl⟩
      have : ¬ ((s2.getD (Lib.indexAny s2 [58, 47]).toNat 0).toNat : Int) = 58 := by
        intro h
        apply hb
        apply UInt8.toNat_inj.1
        show _ = 58
        omega
      simpa using this

/-- a call of strings.Cut, of IndexAny, of CutPrefix, of IndexByte with a known answer -/
def CutIs (l : List UInt8) (c : UInt8) (a b : List UInt8) (x : Bool) : Prop :=
  ∀ w, Calls Try.prog 17 #[.string (str l), .string ⟨#[c]⟩] w (New (.tuple #[.string (str a), .string (str b), .bool x]) w)
def AnyIs (l : List UInt8) (i : Int) : Prop := ∀ w, Calls Try.prog 28 #[.string (str l), .string ⟨#[58, 47]⟩] w (New (.int .i64 i) w)
def PreIs (l p r : List UInt8) (x : Bool) : Prop := ∀ w, Calls Try.prog 29 #[.string (str l), .string ⟨p.toArray⟩] w (Ans (.tuple #[.string (str r), .bool x]) w)
def ByteIs (l : List UInt8) (c : Int) (i : Int) : Prop := ∀ w, Calls Try.prog 22 #[.string (str l), .int .u8 c] w (Ans (.int .i64 i) w)

def LZ (l : List UInt8) : Prop := l.length ≤ 4294967200

-- WALKS
theorem str_nil : str [] = ⟨#[]⟩ := rfl
/-- what uri.cut answers, of its parts -/
def cutEnd (sch s3 r : List UInt8) (ha : Bool) (m : Nat) (q fr : List UInt8) (hq hf : Bool) : Value := uval ⟨sch, if ha then r.take m else [], if ha then r.drop m else s3, q, fr, ha, hq, hf⟩

set_option maxRecDepth 100000 in
set_option maxHeartbeats 2000000 in
theorem cut_core_a (l s1 fr s2 q r : List UInt8) (hf hq ha : Bool) (n : Nat) (m : Nat) (C1 : CutIs l 35 s1 fr hf) (C2 : CutIs s1 63 s2 q hq) (C3 : AnyIs s2 n) (hn : 0 < n) (hl : n < s2.length) (hb58 : (((s2[n]'hl).toNat : Int) == 58) = true) (hz : s2.length ≤ 4294967200)
    (C4 : PreIs (s2.drop (n + 1)) [47, 47] r ha) (C5 : ByteIs (r ++ [47]) 47 m) (hm : m ≤ r.length) (hrz : r.length ≤ 4294967200) (w : World) :
    Calls Try.prog 14 #[.string (str l)] w (New (cutEnd (s2.take n) (s2.drop (n + 1)) r ha m q fr hq hf) w) := by
  go_enter Try.func14, Try.ntmps14
  go_wp2_with fail
  refine (C1 _).mono ?_
  rintro e w1 ⟨rfl, hb⟩
  have R := ((Blk.new w [.string ⟨#[]⟩, .string ⟨#[]⟩, .string ⟨#[]⟩, .string ⟨#[]⟩, .string ⟨#[]⟩, .bool false, .bool false, .bool false] 27).alloc _).call hb
  have V := (Blk.new (w.alloc _) [.string ⟨#[]⟩, .string ⟨#[]⟩, .string ⟨#[]⟩, .string ⟨#[]⟩, .string ⟨#[]⟩, .bool false, .bool false, .bool false] 27).call hb
  have B1 : Below w.heap.size w w1 := RowKit.Below.call (((Below.refl _ _).alloc (Nat.le_refl _) _).alloc (by simp) _) hb (by simp; omega)
  clear hb
  simp only [World.size_alloc] at V
  have rc := R.cell; have rf := R.froz; have vc := V.cell; have vf := V.froz
  have hz1 := V.lt
  have HR := Lib.hid R; have HV := Lib.hid V; have HB := Lib.hid B1
  clear R V B1
  go_wp2_with fail
  refine (C2 _).mono ?_
  rintro e w2 ⟨rfl, hb⟩
  have R := ((HR.out.other _ (by simp)).other _ (by simp)).call hb
  have V := ((HV.out.set 4 (.string (str fr))).set 7 (.bool hf)).call hb
  have B2 : Below w.heap.size w w2 := RowKit.Below.call ((HB.out.setCell (by simp) _).setCell (by simp) _) hb (by simp; omega)
  simp only [List.set] at V
  clear hb rc rf vc vf HR HV HB hz1
  have rc := R.cell; have rf := R.froz; have vc := V.cell; have vf := V.froz
  have hz1 := V.lt
  have HR := Lib.hid R; have HV := Lib.hid V; have HB := Lib.hid B2
  clear R V B2
  go_wp2_with fail
  refine (C3 _).mono ?_
  rintro e w3 ⟨rfl, hb⟩
  have R := ((HR.out.other _ (by simp)).other _ (by simp)).call hb
  have V := ((HV.out.set 3 (.string (str q))).set 6 (.bool hq)).call hb
  have B3 : Below w.heap.size w w3 := RowKit.Below.call ((HB.out.setCell (by simp) _).setCell (by simp) _) hb (by simp; omega)
  simp only [List.set] at V
  clear hb rc rf vc vf HR HV HB hz1
  have rc := R.cell; have rf := R.froz; have vc := V.cell; have vf := V.froz
  have hz1 := V.lt
  have HR := Lib.hid R; have HV := Lib.hid V; have HB := Lib.hid B3
  clear R V B3
  go_wp2_with fail
  go_region
  go_wp2_with fail
  refine (C4 _).mono ?_
  rintro e w4 ⟨rfl, rfl⟩
  obtain ⟨W, hW⟩ : ∃ W, W = (w3.setCell ⟨w.heap.size + 1, 0, none⟩ (.string (str (s2.take n)))).drew := ⟨_, rfl⟩
  rw [← hW]
  have R := (HR.out.other (a := ⟨w.heap.size + 1, 0, none⟩) (.string (str (s2.take n))) (by simp)).drew
  have V := (HV.out.set 0 (.string (str (s2.take n)))).drew
  have B4 := (HB.out.setCell (p := ⟨w.heap.size + 1, 0, none⟩) (by simp) (.string (str (s2.take n)))).drew
  rw [← hW] at R V B4
  simp only [List.set] at V
  clear hW
  clear rc rf vc vf HR HV HB hz1
  have rc := R.cell; have rf := R.froz; have vc := V.cell; have vf := V.froz
  have hz1 := V.lt
  have HR := Lib.hid R; have HV := Lib.hid V; have HB := Lib.hid B4
  clear R V B4
  cases ha with
  | true =>
    go_wp2_with fail
    refine (C5 _).mono ?_
    rintro e w5 ⟨rfl, rfl⟩
    go_wp2_with fail
    go_region
    go_wp2_with fail
    refine bodyPost_ret (v := cutEnd (s2.take n) (s2.drop (n + 1)) r true m q fr hq hf) (by simp [results, Try.results14, go_sem, rc, vc, rf, vf, cutEnd, uval, str_nil]) rfl ⟨rfl, ?_⟩
    repeat (first | (with_reducible refine Below.setCell ?_ ?_ _) | (with_reducible refine Below.drew ?_))
    all_goals first | (with_reducible exact HB.out) | (simp; done)
  | false =>
    go_wp2_with fail
    refine bodyPost_ret (v := cutEnd (s2.take n) (s2.drop (n + 1)) r false m q fr hq hf) (by simp [results, Try.results14, go_sem, rc, vc, rf, vf, cutEnd, uval, str_nil]) rfl ⟨rfl, ?_⟩
    repeat (first | (with_reducible refine Below.setCell ?_ ?_ _) | (with_reducible refine Below.drew ?_))
    all_goals first | (with_reducible exact HB.out) | (simp; done)

set_option maxRecDepth 100000 in
set_option maxHeartbeats 2000000 in
theorem cut_core_b (l s1 fr s2 q r : List UInt8) (hf hq ha : Bool) (n : Int) (m : Nat) (C1 : CutIs l 35 s1 fr hf) (C2 : CutIs s1 63 s2 q hq) (C3 : AnyIs s2 n) (hn : n ≤ 0) (hz : s2.length ≤ 4294967200)
    (C4 : PreIs (s2) [47, 47] r ha) (C5 : ByteIs (r ++ [47]) 47 m) (hm : m ≤ r.length) (hrz : r.length ≤ 4294967200) (w : World) :
    Calls Try.prog 14 #[.string (str l)] w (New (cutEnd ([]) (s2) r ha m q fr hq hf) w) := by
  go_enter Try.func14, Try.ntmps14
  go_wp2_with fail
  refine (C1 _).mono ?_
  rintro e w1 ⟨rfl, hb⟩
  have R := ((Blk.new w [.string ⟨#[]⟩, .string ⟨#[]⟩, .string ⟨#[]⟩, .string ⟨#[]⟩, .string ⟨#[]⟩, .bool false, .bool false, .bool false] 27).alloc _).call hb
  have V := (Blk.new (w.alloc _) [.string ⟨#[]⟩, .string ⟨#[]⟩, .string ⟨#[]⟩, .string ⟨#[]⟩, .string ⟨#[]⟩, .bool false, .bool false, .bool false] 27).call hb
  have B1 : Below w.heap.size w w1 := RowKit.Below.call (((Below.refl _ _).alloc (Nat.le_refl _) _).alloc (by simp) _) hb (by simp; omega)
  clear hb
  simp only [World.size_alloc] at V
  have rc := R.cell; have rf := R.froz; have vc := V.cell; have vf := V.froz
  have hz1 := V.lt
  have HR := Lib.hid R; have HV := Lib.hid V; have HB := Lib.hid B1
  clear R V B1
  go_wp2_with fail
  refine (C2 _).mono ?_
  rintro e w2 ⟨rfl, hb⟩
  have R := ((HR.out.other _ (by simp)).other _ (by simp)).call hb
  have V := ((HV.out.set 4 (.string (str fr))).set 7 (.bool hf)).call hb
  have B2 : Below w.heap.size w w2 := RowKit.Below.call ((HB.out.setCell (by simp) _).setCell (by simp) _) hb (by simp; omega)
  simp only [List.set] at V
  clear hb rc rf vc vf HR HV HB hz1
  have rc := R.cell; have rf := R.froz; have vc := V.cell; have vf := V.froz
  have hz1 := V.lt
  have HR := Lib.hid R; have HV := Lib.hid V; have HB := Lib.hid B2
  clear R V B2
  go_wp2_with fail
  refine (C3 _).mono ?_
  rintro e w3 ⟨rfl, hb⟩
  have R := ((HR.out.other _ (by simp)).other _ (by simp)).call hb
  have V := ((HV.out.set 3 (.string (str q))).set 6 (.bool hq)).call hb
  have B3 : Below w.heap.size w w3 := RowKit.Below.call ((HB.out.setCell (by simp) _).setCell (by simp) _) hb (by simp; omega)
  simp only [List.set] at V
  clear hb rc rf vc vf HR HV HB hz1
  have rc := R.cell; have rf := R.froz; have vc := V.cell; have vf := V.froz
  have hz1 := V.lt
  have HR := Lib.hid R; have HV := Lib.hid V; have HB := Lib.hid B3
  clear R V B3
  go_wp2_with fail
  refine (C4 _).mono ?_
  rintro e W ⟨rfl, rfl⟩
  have R := HR.out
  have V := HV.out
  have B4 := HB.out
  clear rc rf vc vf HR HV HB hz1
  have rc := R.cell; have rf := R.froz; have vc := V.cell; have vf := V.froz
  have hz1 := V.lt
  have HR := Lib.hid R; have HV := Lib.hid V; have HB := Lib.hid B4
  clear R V B4
  cases ha with
  | true =>
    go_wp2_with fail
    refine (C5 _).mono ?_
    rintro e w5 ⟨rfl, rfl⟩
    go_wp2_with fail
    go_region
    go_wp2_with fail
    refine bodyPost_ret (v := cutEnd ([]) (s2) r true m q fr hq hf) (by simp [results, Try.results14, go_sem, rc, vc, rf, vf, cutEnd, uval, str_nil]) rfl ⟨rfl, ?_⟩
    repeat (first | (with_reducible refine Below.setCell ?_ ?_ _) | (with_reducible refine Below.drew ?_))
    all_goals first | (with_reducible exact HB.out) | (simp; done)
  | false =>
    go_wp2_with fail
    refine bodyPost_ret (v := cutEnd ([]) (s2) r false m q fr hq hf) (by simp [results, Try.results14, go_sem, rc, vc, rf, vf, cutEnd, uval, str_nil]) rfl ⟨rfl, ?_⟩
    repeat (first | (with_reducible refine Below.setCell ?_ ?_ _) | (with_reducible refine Below.drew ?_))
    all_goals first | (with_reducible exact HB.out) | (simp; done)

set_option maxRecDepth 100000 in
set_option maxHeartbeats 2000000 in
theorem cut_core_c (l s1 fr s2 q r : List UInt8) (hf hq ha : Bool) (n : Nat) (m : Nat) (C1 : CutIs l 35 s1 fr hf) (C2 : CutIs s1 63 s2 q hq) (C3 : AnyIs s2 n) (hn : 0 < n) (hl : n < s2.length) (hb58 : (((s2[n]'hl).toNat : Int) == 58) = false) (hz : s2.length ≤ 4294967200)
    (C4 : PreIs (s2) [47, 47] r ha) (C5 : ByteIs (r ++ [47]) 47 m) (hm : m ≤ r.length) (hrz : r.length ≤ 4294967200) (w : World) :
    Calls Try.prog 14 #[.string (str l)] w (New (cutEnd ([]) (s2) r ha m q fr hq hf) w) := by
  go_enter Try.func14, Try.ntmps14
  go_wp2_with fail
  refine (C1 _).mono ?_
  rintro e w1 ⟨rfl, hb⟩
  have R := ((Blk.new w [.string ⟨#[]⟩, .string ⟨#[]⟩, .string ⟨#[]⟩, .string ⟨#[]⟩, .string ⟨#[]⟩, .bool false, .bool false, .bool false] 27).alloc _).call hb
  have V := (Blk.new (w.alloc _) [.string ⟨#[]⟩, .string ⟨#[]⟩, .string ⟨#[]⟩, .string ⟨#[]⟩, .string ⟨#[]⟩, .bool false, .bool false, .bool false] 27).call hb
  have B1 : Below w.heap.size w w1 := RowKit.Below.call (((Below.refl _ _).alloc (Nat.le_refl _) _).alloc (by simp) _) hb (by simp; omega)
  clear hb
  simp only [World.size_alloc] at V
  have rc := R.cell; have rf := R.froz; have vc := V.cell; have vf := V.froz
  have hz1 := V.lt
  have HR := Lib.hid R; have HV := Lib.hid V; have HB := Lib.hid B1
  clear R V B1
  go_wp2_with fail
  refine (C2 _).mono ?_
  rintro e w2 ⟨rfl, hb⟩
  have R := ((HR.out.other _ (by simp)).other _ (by simp)).call hb
  have V := ((HV.out.set 4 (.string (str fr))).set 7 (.bool hf)).call hb
  have B2 : Below w.heap.size w w2 := RowKit.Below.call ((HB.out.setCell (by simp) _).setCell (by simp) _) hb (by simp; omega)
  simp only [List.set] at V
  clear hb rc rf vc vf HR HV HB hz1
  have rc := R.cell; have rf := R.froz; have vc := V.cell; have vf := V.froz
  have hz1 := V.lt
  have HR := Lib.hid R; have HV := Lib.hid V; have HB := Lib.hid B2
  clear R V B2
  go_wp2_with fail
  refine (C3 _).mono ?_
  rintro e w3 ⟨rfl, hb⟩
  have R := ((HR.out.other _ (by simp)).other _ (by simp)).call hb
  have V := ((HV.out.set 3 (.string (str q))).set 6 (.bool hq)).call hb
  have B3 : Below w.heap.size w w3 := RowKit.Below.call ((HB.out.setCell (by simp) _).setCell (by simp) _) hb (by simp; omega)
  simp only [List.set] at V
  clear hb rc rf vc vf HR HV HB hz1
  have rc := R.cell; have rf := R.froz; have vc := V.cell; have vf := V.froz
  have hz1 := V.lt
  have HR := Lib.hid R; have HV := Lib.hid V; have HB := Lib.hid B3
  clear R V B3
  go_wp2_with fail
  refine (C4 _).mono ?_
  rintro e W ⟨rfl, rfl⟩
  have R := HR.out
  have V := HV.out
  have B4 := HB.out
  clear rc rf vc vf HR HV HB hz1
  have rc := R.cell; have rf := R.froz; have vc := V.cell; have vf := V.froz
  have hz1 := V.lt
  have HR := Lib.hid R; have HV := Lib.hid V; have HB := Lib.hid B4
  clear R V B4
  cases ha with
  | true =>
    go_wp2_with fail
    refine (C5 _).mono ?_
    rintro e w5 ⟨rfl, rfl⟩
    go_wp2_with fail
    go_region
    go_wp2_with fail
    refine bodyPost_ret (v := cutEnd ([]) (s2) r true m q fr hq hf) (by simp [results, Try.results14, go_sem, rc, vc, rf, vf, cutEnd, uval, str_nil]) rfl ⟨rfl, ?_⟩
    repeat (first | (with_reducible refine Below.setCell ?_ ?_ _) | (with_reducible refine Below.drew ?_))
    all_goals first | (with_reducible exact HB.out) | (simp; done)
  | false =>
    go_wp2_with fail
    refine bodyPost_ret (v := cutEnd ([]) (s2) r false m q fr hq hf) (by simp [results, Try.results14, go_sem, rc, vc, rf, vf, cutEnd, uval, str_nil]) rfl ⟨rfl, ?_⟩
    repeat (first | (with_reducible refine Below.setCell ?_ ?_ _) | (with_reducible refine Below.drew ?_))
    all_goals first | (with_reducible exact HB.out) | (simp; done)

theorem cut_any (l : List UInt8) (hs : l.length ≤ 4294967200) (w : World) :
    Calls Try.prog 14 #[.string (str l)] w (New (uval (cutU l)) w) := by
  have hle1 : (bef 35 l).length ≤ l.length := bef_le _ _
  have hle2 : (bef 63 (bef 35 l)).length ≤ (bef 35 l).length := bef_le _ _
  have C1 : CutIs l 35 (bef 35 l) (aft 35 l) (has 35 l) := fun w => cut_l l 35 (by omega) w
  have C2 : CutIs (bef 35 l) 63 (bef 63 (bef 35 l)) (aft 63 (bef 35 l)) (has 63 (bef 35 l)) := fun w => cut_l _ 63 (by omega) w
  have C3 : AnyIs (bef 63 (bef 35 l)) (Lib.indexAny (bef 63 (bef 35 l)) [58, 47]) := fun w => idxany_l _ (by omega) w
  have P : ∀ s3 : List UInt8, s3.length ≤ 4294967200 → PreIs s3 [47, 47] (Lib.trimPrefix s3 [47, 47]) (hasAuth s3) ∧
      ByteIs (Lib.trimPrefix s3 [47, 47] ++ [47]) 47 ((bef 47 (Lib.trimPrefix s3 [47, 47])).length : Nat) ∧ (Lib.trimPrefix s3 [47, 47]).length ≤ 4294967200 ∧
      (if hasAuth s3 then (Lib.trimPrefix s3 [47, 47]).take (bef 47 (Lib.trimPrefix s3 [47, 47])).length else []) = theAuth s3 ∧
      (if hasAuth s3 then (Lib.trimPrefix s3 [47, 47]).drop (bef 47 (Lib.trimPrefix s3 [47, 47])).length else s3) = thePath s3 := by
    intro s3 h3
    refine ⟨fun w => cutprefix_l s3 [47, 47] w, fun w => ?_, ?_, ?_, ?_⟩
    · have := idxbyte_l (Lib.trimPrefix s3 [47, 47] ++ [47]) 47 w
      have e : Lib.indexByte (Lib.trimPrefix s3 [47, 47] ++ [47]) ((47 : Int).toNat.toUInt8) = ((bef 47 (Lib.trimPrefix s3 [47, 47])).length : Int) := by
        show Lib.indexByte (Lib.trimPrefix s3 [47, 47] ++ [47]) 47 = _
        rw [indexByte_eq, if_pos (by simp), bef_snoc]
      rw [e] at this
      exact this
    · unfold Lib.trimPrefix
      split
      · rw [List.length_drop]; omega
      · exact h3
    · unfold theAuth hasAuth Lib.trimPrefix
      cases h : Lib.hasPrefix s3 [47, 47]
      · rfl
      · simp only [if_true]; exact take_bef _ _
    · unfold thePath hasAuth Lib.trimPrefix
      cases h : Lib.hasPrefix s3 [47, 47]
      · rfl
      · rfl
  have hF : uval (cutU l) = cutEnd (theScheme (bef 63 (bef 35 l))) (noScheme (bef 63 (bef 35 l))) (Lib.trimPrefix (noScheme (bef 63 (bef 35 l))) [47, 47]) (hasAuth (noScheme (bef 63 (bef 35 l)))) (bef 47 (Lib.trimPrefix (noScheme (bef 63 (bef 35 l))) [47, 47])).length
      (aft 63 (bef 35 l)) (aft 35 l) (has 63 (bef 35 l)) (has 35 l) := by
    have hn : (noScheme (bef 63 (bef 35 l))).length ≤ 4294967200 := by
      unfold noScheme
      split
      · rw [List.length_drop]; omega
      · omega
    obtain ⟨-, -, -, h1, h2⟩ := P _ hn
    unfold cutEnd
    rw [h1, h2]
    rfl
  rw [hF]
  rcases colon_cases (bef 63 (bef 35 l)) with ⟨n, hn, h0, hl, hb, e1, e2⟩ | ⟨h0, e1, e2⟩ | ⟨n, hn, h0, hl, hb, e1, e2⟩
  · rw [e1, e2]
    obtain ⟨P1, P2, P3, -, -⟩ := P ((bef 63 (bef 35 l)).drop (n + 1)) (by rw [List.length_drop]; omega)
    rw [hn] at C3
    exact cut_core_a _ _ _ _ _ _ _ _ _ n _ C1 C2 C3 h0 hl (by rw [← hb]; simp [hl]) (by omega) P1 P2 (bef_le _ _) P3 w
  · rw [e1, e2]
    obtain ⟨P1, P2, P3, -, -⟩ := P (bef 63 (bef 35 l)) (by omega)
    exact cut_core_b _ _ _ _ _ _ _ _ _ _ _ C1 C2 C3 h0 (by omega) P1 P2 (bef_le _ _) P3 w
  · rw [e1, e2]
    obtain ⟨P1, P2, P3, -, -⟩ := P (bef 63 (bef 35 l)) (by omega)
    rw [hn] at C3
    exact cut_core_c _ _ _ _ _ _ _ _ _ n _ C1 C2 C3 h0 hl (by rw [← hb]; simp [hl]) (by omega) P1 P2 (bef_le _ _) P3 w
end Go.Proofs.Ythicgeiljficbaa
