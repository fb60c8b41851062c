/- caliperlaw07.PointerParts answers true. -/
import Derived.Test.YthicgeiljficbaaDoorPtrX
import Derived.Test.YthicgeiljficbaaDoorPtrY
import Derived.Test.YthicgeiljficbaaDoorPtrZ
namespace Go.Proofs.YthicgeiljficbaaDoor
open Go.RowKit
set_option linter.unusedSimpArgs false
set_option linter.unusedVariables false
set_option linter.unnecessarySimpa false

def codeU {α : Type} (o : Option α) : Int := if o.isSome then 0 else 70
theorem unesced_form {o : Option (List UInt8)} {w w' : World} {e : Ending} (h : Unesced o w e w') : Below w.heap.size w w' ∧ e = .returned (.tuple #[.string (str (o.getD [])), .int .i64 (codeU o)]) := by
  obtain ⟨hb, rfl⟩ := h
  cases o <;> exact ⟨hb, rfl⟩

set_option maxRecDepth 100000 in
set_option maxHeartbeats 2000000 in
theorem parts_l (l : List UInt8) (v : Value) (xs : List (List UInt8)) (w : World) (hv : Txts w v xs) (hcap : ∀ a n cap, v = .slice a n cap → n ≤ cap) (hl : l.length + (xs.length + xs.flatten.length) ≤ 1048576) (he : EnvV w) :
    Calls Tryd.prog 8 #[.string (str l), v] w (New (.bool true) w) := by
  have HP : Hid (∀ W, Below w.heap.size w W → Calls Tryd.prog 19 #[.string (str l)] W (Parsed (parseP l) W)) := fun W hb => parse_l l (by omega) W (he.call hb).2.1
  have HPR := Lib.hid (fun W => parseR_l l (by omega) W)
  have HU : Hid (∀ W, Below w.heap.size w W → Calls Tryd.prog 22 #[.string (str l)] W (Unesced (unesB l) W)) := by
    intro W hb
    have h8 := he.1
    exact unescape_l l (by omega) W (he.call hb).2.2.1 (by have := hb.size; show 1 < _; omega)
  have HUR := Lib.hid (fun W => unescapeR_l l (by omega) W)
  have HT : Hid (∀ W, Below w.heap.size w W → Calls Tryd.prog 20 #[v] W (New (.string (str (ptext xs))) W)) := fun W hb => ptext_l v xs W (hv.call hb) (by omega) (by omega) (he.call hb).2.1
  have HTR : Hid (∀ W, Below w.heap.size w W → Calls Tryd.prog 26 #[v] W (New (.string (str (ptext xs))) W)) := fun W hb => textR_l v xs W (hv.call hb) (by omega) hcap
  have HE := Lib.hid (fun W => escape_l l (by omega) W)
  have HER := Lib.hid (fun W => escapeR_l l (by omega) W)
  have hps : ((parseP l).getD []).length ≤ 1048577 := by
    cases hp : parseP l with
    | none => simp
    | some ws => have := (parseP_len hp).1; simp only [Option.getD_some]; omega
  have HX : Hid (∀ W u1 u2, Txts W u1 ((parseP l).getD []) → Txts W u2 ((parseP l).getD []) → Calls Tryd.prog 15 #[u1, u2] W (New (.bool true) W)) := by
    intro W u1 u2 h1 h2
    have := texts_l u1 u2 _ _ W h1 h2 (by omega) (by omega)
    rw [show decide ((parseP l).getD [] = (parseP l).getD []) = true from decide_eq_true rfl] at this
    exact this
  have HH : Hid (∀ W, Below w.heap.size w W → Calls Tryd.prog 11 #[] W (New (.bool true) W)) := fun W hb => heads_any W (he.call hb)
  obtain ⟨a, cap, rfl, -⟩ := hv.form
  clear hv he hps hcap
  generalize parseP l = o at *
  generalize unesB l = q at *
  generalize ptext xs = t at *
  generalize esc l = es at *
  go_enter Tryd.func8, Tryd.ntmps8
  go_wp2_with fail
  refine (HP.out _ (Below.refl _ _)).mono ?_
  rintro e w1 ⟨u1, he1, ht1, -, hb1⟩
  have he1' : e = .returned (.tuple #[u1, .int .i64 (codeU o)]) := he1
  subst he1'
  clear he1
  have HT1 := Lib.hid ht1
  obtain ⟨a1, c1, rfl, -⟩ := ht1.form
  have HB1 := Lib.hid hb1
  clear hb1 ht1
  go_wp2_with fail
  refine (HPR.out _).mono ?_
  rintro e w2 ⟨u2, he2, ht2, hb2⟩
  have he2' : e = .returned (.tuple #[u2, .int .i64 (codeU o)]) := he2
  subst he2'
  clear he2
  have HT2 := Lib.hid ht2
  obtain ⟨a2, c2, rfl, -⟩ := ht2.form
  have HT1' := Lib.hid (HT1.out.call hb2)
  have HB2 := Lib.hid (HB1.out.trans (hb2.mono HB1.out.size))
  clear hb2 ht2 HT1
  go_wp2_with fail
  refine (HU.out _ HB2.out).mono ?_
  rintro e w3 h3
  obtain ⟨hb3, rfl⟩ := unesced_form h3
  have HT2' := Lib.hid (HT2.out.call hb3)
  have HT1 := Lib.hid (HT1'.out.call hb3)
  have HB3 := Lib.hid (HB2.out.trans (hb3.mono HB2.out.size))
  clear hb3 h3 HT2 HT1'
  go_wp2_with fail
  refine (HUR.out _).mono ?_
  rintro e w4 h4
  obtain ⟨hb4, rfl⟩ := unesced_form h4
  have HT2 := Lib.hid (HT2'.out.call hb4)
  have HT1' := Lib.hid (HT1.out.call hb4)
  have HB4 := Lib.hid (HB3.out.trans (hb4.mono HB3.out.size))
  clear hb4 h4 HT1 HT2'
  have e1 := str_toList (q.getD [])
  have e2 := str_toList t
  have e3 := str_toList es
  go_wp2_with fail
  refine (HX.out _ _ _ HT1'.out HT2.out).mono ?_
  rintro e w5 ⟨rfl, hb5⟩
  have HB5 := Lib.hid (HB4.out.trans (hb5.mono HB4.out.size))
  clear hb5 HT2 HT1'
  go_wp2_with fail
  refine (HT.out _ HB5.out).mono ?_
  rintro e w6 ⟨rfl, hb6⟩
  have HB6 := Lib.hid (HB5.out.trans (hb6.mono HB5.out.size))
  clear hb6
  go_wp2_with fail
  refine (HTR.out _ HB6.out).mono ?_
  rintro e w7 ⟨rfl, hb7⟩
  have HB7 := Lib.hid (HB6.out.trans (hb7.mono HB6.out.size))
  clear hb7
  go_wp2_with fail
  refine (HE.out _).mono ?_
  rintro e w8 ⟨rfl, hb8⟩
  have HB8 := Lib.hid (HB7.out.trans (hb8.mono HB7.out.size))
  clear hb8
  go_wp2_with fail
  refine (HER.out _).mono ?_
  rintro e w9 ⟨rfl, hb9⟩
  have HB9 := Lib.hid (HB8.out.trans (hb9.mono HB8.out.size))
  clear hb9
  go_wp2_with fail
  refine (HH.out _ HB9.out).mono ?_
  rintro e w10 ⟨rfl, hb10⟩
  have HB10 := Lib.hid (HB9.out.trans (hb10.mono HB9.out.size))
  clear hb10
  go_wp2_with fail
  go_ret
  exact ⟨rfl, HB10.out⟩
end Go.Proofs.YthicgeiljficbaaDoor
