/- Package pointer over lists of bytes: the walk of Parse. -/
import Derived.Test.YthicgeiljficbaaDoorPtrC
namespace Go.Proofs.YthicgeiljficbaaDoor
open Go.RowKit
set_option linter.unusedSimpArgs false
set_option linter.unusedVariables false
set_option linter.unnecessarySimpa false

theorem info_str : (Tryd.prog.info? 9).map (fun i => (i.zero, i.size, i.bytes)) = some (some (.string ⟨#[]⟩), 1, 16) := by kernel_rfl

def RepIs (l : List UInt8) (a b : UInt8) (new r : List UInt8) : Prop := ∀ w, Env w → Calls Tryd.prog 36 #[.string (str l), .string ⟨#[a, b]⟩, .string ⟨new.toArray⟩] w (New (.string (str r)) w)
def CntIs (l : List UInt8) (a b : UInt8) (n : Nat) : Prop := ∀ w, Env w → Calls Tryd.prog 37 #[.string (str l), .string ⟨#[a, b]⟩] w (Ans (.int .i64 (n : Nat)) w)
def Cnt1Is (l : List UInt8) (a : UInt8) (n : Nat) : Prop := ∀ w, Calls Tryd.prog 37 #[.string (str l), .string ⟨#[a]⟩] w (Ans (.int .i64 (n : Nat)) w)
def HasIs (l : List UInt8) (a : UInt8) (x : Bool) : Prop := ∀ w, Calls Tryd.prog 38 #[.string (str l), .string ⟨#[a]⟩] w (Ans (.bool x) w)

theorem parse_nil (w : World) : Calls Tryd.prog 19 #[.string (str [])] w (Parsed (parseP []) w) := by
  have hse : (str ([] : List UInt8)).toList.isEmpty = true := by rw [str_toList]; rfl
  have HP : Hid (∀ v, Txts w v [] → TxB w.heap.size v → Parsed (parseP []) w (.returned (.tuple #[v, .int .i64 0])) w) := fun v hv hq => ⟨v, rfl, hv, hq, Below.refl _ _⟩
  go_enter Tryd.func19, Tryd.ntmps19
  go_wp2_with fail
  go_ret2
  exact HP.out _ (.inl ⟨rfl, none, 0, rfl⟩) (fun _ _ _ h => by cases h)

theorem parse_no (c : UInt8) (t : List UInt8) (hc : ¬ c = 47) (w : World) : Calls Tryd.prog 19 #[.string (str (c :: t))] w (Parsed (parseP (c :: t)) w) := by
  have hse : (str (c :: t)).toList.isEmpty = false := by rw [str_toList]; rfl
  have hb : ((c.toNat : Int) != 47) = true := by
    have : ¬ ((c.toNat : Int) = 47) := by
      intro h0
      apply hc
      apply UInt8.toNat_inj.1
      show _ = 47
      omega
    simpa using this
  have hp : parseP (c :: t) = none := by rw [parseP, if_neg hc]
  have HP : Hid (∀ v, Txts w v [] → TxB w.heap.size v → Parsed (parseP (c :: t)) w (.returned (.tuple #[v, .int .i64 70])) w) := by
    intro v hv hq
    rw [hp]
    exact ⟨v, rfl, hv, hq, Below.refl _ _⟩
  clear hp hc
  go_enter Tryd.func19, Tryd.ntmps19
  go_wp2_with fail
  go_ret2
  exact HP.out _ (.inl ⟨rfl, none, 0, rfl⟩) (fun _ _ _ h => by cases h)

set_option maxRecDepth 100000 in
set_option maxHeartbeats 4000000 in
theorem parse_go (t : List UInt8) (hl : t.length ≤ 67108864) (w : World) (he : Env w) : Calls Tryd.prog 19 #[.string (str (47 :: t))] w (Parsed (parseP (47 :: t)) w) := by
  obtain ⟨i0, hi, hy0, hy1, hy2⟩ := info_parts info_str
  have hse : (str (47 :: t)).toList.isEmpty = false := by rw [str_toList]; rfl
  have HPY : Hid (∀ v w', (spl 47 (t.count 47) t).all wOk = true → Txts w' v ((spl 47 (t.count 47) t).map wVal) → TxB w.heap.size v → Below w.heap.size w w' → Parsed (parseP (47 :: t)) w (.returned (.tuple #[v, .int .i64 0])) w') := by
    intro v w' h hv hq hb
    have hp : parseP (47 :: t) = some ((spl 47 (t.count 47) t).map wVal) := by rw [parseP, if_pos rfl, if_pos h]
    rw [hp]
    exact ⟨v, rfl, hv, hq, hb⟩
  have HPN : Hid (∀ v w', (spl 47 (t.count 47) t).all wOk = false → Txts w' v [] → TxB w.heap.size v → Below w.heap.size w w' → Parsed (parseP (47 :: t)) w (.returned (.tuple #[v, .int .i64 70])) w') := by
    intro v w' h hv hq hb
    have hp : parseP (47 :: t) = none := by rw [parseP, if_pos rfl, if_neg (by rw [h]; decide)]
    rw [hp]
    exact ⟨v, rfl, hv, hq, hb⟩
  have hfl := spl_flat 47 (t.count 47) t
  have hln := spl_length 47 t
  have hcl := List.count_le_length (a := 47) (l := t)
  have HS := Lib.hid (fun W he => split_l t 47 (by omega) W he)
  generalize spl 47 (t.count 47) t = ws at *
  have hn : ws.length ≤ 67108865 := by omega
  clear hln hcl
  have HE := Lib.hid he
  have hez := he.1
  clear he
  generalize hpp : parseP (47 :: t) = pp at *
  clear hpp
  go_enter Tryd.func19, Tryd.ntmps19
  go_wp2_with fail
  refine (HS.out _ HE.out).mono ?_
  rintro e w1 ⟨rfl, hblk, hb1⟩
  have hlt1 := hblk.lt
  have HB1 := Lib.hid hb1
  have HK := Lib.hid hblk
  have HE1 := Lib.hid (HE.out.call hb1)
  clear hblk hb1
  go_wp2_with fail
  go_loopw [4, 6, 7, 17] (fun v _ _ i wr => ∃ k : Nat, k ≤ ws.length ∧ i = .int .i64 k ∧ Hid ((ws.take k).all wOk = true) ∧ Hid (Row wr (w.heap.size + 1) 9 1 v k (strs ((ws.take k).map wVal))) ∧ Hid (Below (w.heap.size + 1) w1 wr)) (fun _ _ _ i _ => ws.length - (intOf i).toNat)
  case atStart => exact ⟨0, Nat.zero_le _, rfl, rfl, Row.nil _ _ _ _, Below.refl _ _⟩
  case round =>
    obtain ⟨k, hk, rfl, hok, HR, HB⟩ := hrel
    by_cases hlt : k < ws.length
    · have HKr := Lib.hid (HK.out.below HB.out (by omega))
      have hcell : wr.cell? ⟨w.heap.size, k, none⟩ = some (.string (str ws[k])) := by
        rw [HKr.out.cell]
        simp [strs, hlt]
      have hle := elem_le hlt
      have HEr := Lib.hid (HE1.out.below HB.out (by omega))
      have hszr := HB.out.size
      have hnx : Hid (∀ j, j = k → (ws.take (j + 1)).all wOk = ((ws.take k).all wOk && wOk ws[k])) := by
        rintro j rfl
        rw [List.take_succ_eq_append_getElem hlt, List.all_append]
        simp only [List.all_cons, List.all_nil, Bool.and_true]
      have hnv : Hid (strs ((ws.take (k + 1)).map wVal) = strs ((ws.take k).map wVal) ++ [.string (str (wVal ws[k]))]) := by
        unfold Hid
        rw [List.take_succ_eq_append_getElem hlt, List.map_append, strs_append]
        rfl
      have hbad : Hid (wOk ws[k] = false → ws.all wOk = false) := by
        intro h
        rw [List.all_eq_false]
        exact ⟨ws[k], List.getElem_mem hlt, by rw [h]; decide⟩
      generalize ws[k] = x at *
      have hx : x.length ≤ 67108864 := by omega
      have R1 : RepIs x 126 48 [] (Lib.replaceAll x [126, 48] []) := fun W he => replace_two_l x 126 48 [] (by decide) (by omega) W he
      have l1 := replaceAll_len [126, 48] [] x (by decide)
      have R2 : RepIs (Lib.replaceAll x [126, 48] []) 126 49 [] (wBare x) := fun W he => replace_two_l _ 126 49 [] (by decide) (by omega) W he
      have N0 : Cnt1Is x 126 (x.count 126) := fun W => count_one_l x 126 W
      have N1 : CntIs x 126 48 (Lib.count x [126, 48]) := fun W he => count_two_l x 126 48 (by omega) W he
      have N2 : CntIs x 126 49 (Lib.count x [126, 49]) := fun W he => count_two_l x 126 49 (by omega) W he
      have HA : HasIs (wBare x) 126 (has 126 (wBare x)) := fun W => contains_l _ 126 W
      have R3 : RepIs x 126 49 [47] (Lib.replaceAll x [126, 49] [47]) := fun W he => replace_two_l x 126 49 [47] (by decide) (by omega) W he
      have l2 := replaceAll_len [126, 49] [47] x (by decide)
      have R4 : RepIs (Lib.replaceAll x [126, 49] [47]) 126 48 [126] (wVal x) := fun W he => replace_two_l _ 126 48 [126] (by decide) (by omega) W he
      have m0 := List.count_le_length (a := 126) (l := x)
      have m1 := Lib.count_le x [126, 48]
      have m2 := Lib.count_le x [126, 49]
      have hwok : Hid (wOk x = ((x.count 126 == Lib.count x [126, 48] + Lib.count x [126, 49]) && !has 126 (wBare x))) := rfl
      generalize has 126 (wBare x) = hb2 at *
      generalize wBare x = ba at *
      generalize Lib.replaceAll x [126, 48] [] = a1 at *
      generalize Lib.replaceAll x [126, 49] [47] = a2 at *
      generalize wVal x = va at *
      generalize x.count 126 = n0 at *
      generalize Lib.count x [126, 48] = n1 at *
      generalize Lib.count x [126, 49] = n2 at *
      clear l1 l2 hle
      go_wp2_with fail
      refine (R1 _ HEr.out).mono ?_
      rintro e w2 ⟨rfl, hb⟩
      have HB2 := Lib.hid (HB.out.trans (hb.mono (by omega)))
      have HR2 := Lib.hid (HR.out.call hb)
      have HE2 := Lib.hid (HEr.out.call hb)
      have hz2 := hb.size
      clear hb
      go_wp2_with fail
      refine (R2 _ HE2.out).mono ?_
      rintro e w3 ⟨rfl, hb⟩
      have HB3 := Lib.hid (HB2.out.trans (hb.mono (by omega)))
      have HR3 := Lib.hid (HR2.out.call hb)
      have HE3 := Lib.hid (HE2.out.call hb)
      have hz3 := hb.size
      clear hb
      go_wp2_with fail
      refine (N0 _).mono ?_
      rintro e w' ⟨rfl, rfl⟩
      go_wp2_with fail
      refine (N1 _ HE3.out).mono ?_
      rintro e w' ⟨rfl, rfl⟩
      go_wp2_with fail
      refine (N2 _ HE3.out).mono ?_
      rintro e w' ⟨rfl, rfl⟩
      go_wp2_with (go_at_call 38; refine (HA _).mono ?_; rintro e w' ⟨rfl, rfl⟩)
      · have hf : wOk x = false := by
          rw [hwok.out]
          simp_all
        go_ret2
        exact HPN.out _ _ (hbad.out hf) (.inl ⟨rfl, none, 0, rfl⟩) (fun _ _ _ h => by cases h) (HB1.out.trans (HB3.out.mono (by omega)))
      · have hf : wOk x = true := by
          have hcnt : n0 = n1 + n2 := by omega
          have hh : hb2 = false := by assumption
          rw [hwok.out, hcnt, hh]
          simp
        have hok2 := Lib.hid ((hnx.out k rfl).trans (by rw [hok.out, hf]))
        refine (R3 _ HE3.out).mono ?_
        rintro e w4 ⟨rfl, hb⟩
        have HB4 := Lib.hid (HB3.out.trans (hb.mono (by omega)))
        have HR4 := Lib.hid (HR3.out.call hb)
        have HE4 := Lib.hid (HE3.out.call hb)
        have hz4 := hb.size
        clear hb
        go_wp2_with fail
        refine (R4 _ HE4.out).mono ?_
        rintro e w5 ⟨rfl, hb⟩
        have HB5 := Lib.hid (HB4.out.trans (hb.mono (by omega)))
        have HR5 := Lib.hid (HR4.out.call hb)
        have hz5 := hb.size
        clear hb
        go_wp2_with (at_builtin; refine wpList_append_row _ rfl _ _ 26 rfl (w.heap.size + 1) 9 i0 (.string ⟨#[]⟩) 1 16 Tryd.underlying26 hi hy0 hy1 hy2 rfl _ _ _ rfl (HR5.out.alloc _) ⟨w5.heap.size, 0, none⟩ 1 1 [.string (str va)] rfl rfl ?c1 ?c2 (by decide) ?c3 ?c4 ?c5 ?c6)
        case c1 => exact cell_one_new _ _ _
        case c2 => intro u hu; simp at hu; subst hu; rfl
        case c3 => unfold maxLen; omega
        case c4 => omega
        case c5 => simp; omega
        case c6 =>
          intro v6 w6 hown hb
          have HR6 : Hid (Row w6 (w.heap.size + 1) 9 1 v6 (k + 1) (strs ((ws.take (k + 1)).map wVal))) := by
            unfold Hid
            rw [hnv.out, List.map_take]
            exact hown
          have HB6 := Lib.hid ((HB5.out.alloc (by omega) _).trans hb)
          clear hown hb
          go_wp2_with fail
          go_roundw
          case measure => simp only [intOf]; omega
          case rel => exact ⟨k + 1, by omega, by go_num, hok2.out, HR6.out, HB6.out⟩
      · have hf : wOk x = false := by
          have hcnt : ¬ n0 = n1 + n2 := by omega
          rw [hwok.out]
          simp [hcnt]
        go_ret2
        exact HPN.out _ _ (hbad.out hf) (.inl ⟨rfl, none, 0, rfl⟩) (fun _ _ _ h => by cases h) (HB1.out.trans (HB3.out.mono (by omega)))
    · obtain rfl : k = ws.length := by omega
      go_wp2_with fail
      go_ret2
      have h1 := hok.out
      have h2 := HR.out
      rw [List.take_length] at h1 h2
      refine HPY.out _ _ h1 (Txts.row (B := w.heap.size + 1) ?_) (fun a n cap ha => by obtain h | ⟨g, cap2, cur, hv, hg, -⟩ := h2.2; (· rw [h.1] at ha; cases ha); (· rw [hv] at ha; cases ha; show _ ≤ g; omega)) (HB1.out.trans (HB.out.mono (by omega)))
      rw [List.length_map]
      exact h2

theorem parse_l (l : List UInt8) (hl : l.length ≤ 67108864) (w : World) (he : Env w) : Calls Tryd.prog 19 #[.string (str l)] w (Parsed (parseP l) w) := by
  cases l with
  | nil => exact parse_nil w
  | cons c t =>
    by_cases hc : c = 47
    · subst hc
      exact parse_go t (by simp at hl; omega) w he
    · exact parse_no c t hc w
end Go.Proofs.YthicgeiljficbaaDoor
