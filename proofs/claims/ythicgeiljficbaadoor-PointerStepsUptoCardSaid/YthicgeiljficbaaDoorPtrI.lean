/- pointer.Unescape. -/
import Derived.Test.YthicgeiljficbaaDoorPtrH
import Derived.Laws.BytesArg
import Derived.Laws.BytesString
namespace Go.Proofs.YthicgeiljficbaaDoor
open Go.RowKit
set_option linter.unusedSimpArgs false
set_option linter.unusedVariables false
set_option linter.unnecessarySimpa false

theorem info_byte : (Tryd.prog.info? 5).map (fun i => (i.zero, i.size, i.bytes)) = some (some (.int .u8 0), 1, 1) := by kernel_rfl

/-- the bytes as cells -/
def byts (l : List UInt8) : List Value := l.map fun c => .int .u8 (c.toNat : Int)
theorem byts_append (a b : List UInt8) : byts (a ++ b) = byts a ++ byts b := by simp [byts]
theorem Byts.row {w : World} {B : Nat} {v : Value} {l : List UInt8} (h : Row w B 5 1 v l.length (byts l)) : Byts w v l := by
  obtain ⟨a, cap, rfl, _⟩ := h.shape
  refine ⟨a, cap, rfl, fun hl => ?_⟩
  obtain ⟨g, cap2, hv, -, -, hlt, hc, -⟩ := h.form hl
  cases hv
  refine ⟨g, 0, rfl, hlt, fun j hj => ?_⟩
  rw [Nat.zero_add, hc j (by omega)]
  simp [byts, hj, List.getD]

theorem strOfNums_str (l : List UInt8) : strOfNums (l.map fun c => (c.toNat : Int)) = str l := by
  apply ByteArray.ext
  apply Array.toList_inj.1
  simp [strOfNums, str, Function.comp_def]
/-- 'string(b)' -/
theorem conv_byts {w : World} {v : Value} {l : List UInt8} (h : Byts w v l) : (convert 51 9 v).run Tryd.prog w = .ok (.string (str l)) w := by
  obtain ⟨a, cap, rfl, h⟩ := h
  by_cases hl : 0 < l.length
  · obtain ⟨b, off, rfl, -, hc⟩ := h hl
    have := run_convert_bytes_arg (P := Tryd.prog) w 51 5 Tryd.underlying51 Tryd.underlying5 b off l.length cap (l.map fun c => (c.toNat : Int)) (by simp) (fun i hi => by
      rw [hc i hi]
      simp [List.getD, hi]) 9 Tryd.underlying9
    rw [this, strOfNums_str]
  · have h0 : l = [] := List.eq_nil_of_length_eq_zero (by omega)
    subst h0
    rw [run_convert_bytes_string w _ _ 5 a _ cap Tryd.underlying51 Tryd.underlying5 Tryd.underlying9]
    cases a with
    | none => rfl
    | some a => simp [Conv.bytesToString, loadCells]; rfl

/-- the text behind the percents -/
def unesc : List UInt8 → Option (List UInt8)
  | [] => some []
  | c :: t => if c = 37 then (match t with
      | a :: b :: t => (match hexN 0 [a, b] with | some n => (unesc t).map (UInt8.ofNat n :: ·) | none => none)
      | _ => none) else (unesc t).map (c :: ·)
theorem unesc_other {c : UInt8} (h : ¬ c = 37) (t : List UInt8) : unesc (c :: t) = (unesc t).map (c :: ·) := by
  rcases t with _ | ⟨a, _ | ⟨b, t⟩⟩ <;> simp [unesc, h]
theorem unesc_two (a b : UInt8) (t : List UInt8) : unesc (37 :: a :: b :: t) = match hexN 0 [a, b] with | some n => (unesc t).map (UInt8.ofNat n :: ·) | none => none := by
  rw [unesc]
  simp
theorem unesc_short {t : List UInt8} (h : t.length < 2) : unesc (37 :: t) = none := by
  rcases t with _ | ⟨a, _ | ⟨b, t⟩⟩
  · simp [unesc]
  · simp [unesc]
  · simp at h; omega
theorem hexN_two {a b : UInt8} {m : Nat} (h : hexN 0 [a, b] = some m) : m < 256 ∧ a ≠ 43 := by
  unfold hexN at h
  cases ha : hexV a with
  | none => rw [ha] at h; simp at h
  | some x =>
    rw [ha] at h
    simp only [hexN] at h
    cases hb : hexV b with
    | none => rw [hb] at h; simp at h
    | some y =>
      rw [hb] at h
      have hx := hexV_lt ha
      have hy := hexV_lt hb
      refine ⟨by simp at h; omega, ?_⟩
      rintro rfl
      have h43 : hexV 43 = none := by decide
      rw [h43] at ha
      simp at ha
/-- what the variables hold -/
def EnvS (W : World) : Prop := ∃ ev, W.cell? ⟨1, 0, none⟩ = some ev ∧ (ev = .nilIface ∨ ∃ te pe, ev = .iface te pe)
theorem EnvS.below {B : Nat} {W W' : World} (h : EnvS W) (hb : Below B W W') (hB : 1 < B) : EnvS W' := by
  obtain ⟨ev, h1, h2⟩ := h
  exact ⟨ev, (hb.cell (p := ⟨1, 0, none⟩) hB).trans h1, h2⟩
/-- what Unescape answers -/
def unesB (l : List UInt8) : Option (List UInt8) := match unesc l with
  | some r => if utfB r then some r else none
  | none => none
def Unesced (o : Option (List UInt8)) (w : World) (e : Ending) (w' : World) : Prop :=
  Below w.heap.size w w' ∧ e = .returned (match o with | some r => .tuple #[.string (str r), .int .i64 0] | none => .tuple #[.string ⟨#[]⟩, .int .i64 70])

set_option maxHeartbeats 2000000 in
set_option maxRecDepth 100000 in
theorem unescape_l (l : List UInt8) (hl : l.length ≤ 67108864) (w : World) (hE : EnvS w) (hw : 1 < w.heap.size) : Calls Tryd.prog 22 #[.string (str l)] w (Unesced (unesB l) w) := by
  obtain ⟨i0, hi, hy0, hy1, hy2⟩ := info_parts info_byte
  have HE := Lib.hid hE
  clear hE
  have hsz := str_size l
  obtain ⟨n, hn⟩ : ∃ n, l.length = n := ⟨_, rfl⟩
  rw [hn] at hsz hl
  have HN := Lib.hid hn
  generalize hu : unesB l = u
  have HU := Lib.hid hu
  clear hu hn
  go_enter Tryd.func22, Tryd.ntmps22
  go_wp2_with fail
  go_loopw [4, 5] (fun v i wr => ∃ (k : Nat) (out : List UInt8), k ≤ n ∧ i = .int .i64 k ∧ out.length ≤ k ∧ Hid (Row wr w.heap.size 5 1 v out.length (byts out)) ∧ Hid (Below w.heap.size w wr) ∧ Hid (unesc l = (unesc (l.drop k)).map (out ++ ·))) (fun _ i _ => n - (intOf i).toNat)
  case atStart => exact ⟨0, [], Nat.zero_le _, rfl, Nat.zero_le _, Row.nil _ _ _ _, Below.refl _ _, Lib.hid (by simp)⟩
  case round =>
    obtain ⟨k, out, hk, rfl, hol, HR, HB, HH⟩ := hrel
    by_cases hlt : k < n
    · have hdrop : l.drop k = l.getD k 0 :: l.drop (k + 1) := drop_two (by rw [HN.out]; exact hlt)
      obtain ⟨c, hcd⟩ : ∃ c : UInt8, l.getD k 0 = c := ⟨_, rfl⟩
      have hby : (str l)[k]'(by rw [hsz]; exact hlt) = c := by rw [← hcd, ← getD_byte, str_data]
      rw [hcd] at hdrop
      have hh := HH.out
      rw [hdrop] at hh
      have hdk : l.length = n := HN.out
      clear HH hdrop
      have HERR : Hid (unesc l = none → u = none) := by
        intro h
        rw [← HU.out]
        simp [unesB, h]
      by_cases hc : c = 37
      · subst hc
        by_cases hs : n - k < 3
        · have hf : u = none := by
            apply HERR.out
            rw [hh]
            have : (l.drop (k + 1)).length < 2 := by rw [List.length_drop]; omega
            rw [unesc_short this]
            rfl
          clear hh hdk
          go_wp2_with fail
          rw [hf]
          refine bodyPost_ret (v := .tuple #[.string ⟨#[]⟩, .int .i64 70]) (by simp [results, Tryd.results22, go_sem]) rfl ⟨HB.out, rfl⟩
        · obtain ⟨a, b, t, htd⟩ : ∃ a b t, l.drop (k + 1) = a :: b :: t := by
            have : 2 ≤ (l.drop (k + 1)).length := by rw [List.length_drop]; omega
            match hq : l.drop (k + 1), this with
            | a :: b :: t, _ => exact ⟨a, b, t, rfl⟩
          have htake : List.take 2 (List.drop (k + 1) l) = [a, b] := by rw [htd]; rfl
          have ht3 : l.drop (k + 2 + 1) = t := by
            have : l.drop (k + 2 + 1) = (l.drop (k + 1)).drop 2 := by rw [List.drop_drop]
            rw [this, htd]; rfl
          have hga : l.getD (k + 1) 0 = a := by
            have : (l.drop (k + 1))[0]? = l[k + 1]? := by simp
            rw [htd] at this
            rw [List.getD, ← this]; rfl
          have hby2 : (str l)[k + 1]'(by rw [hsz]; omega) = a := by rw [← hga, ← getD_byte, str_data]
          rw [htd, unesc_two] at hh
          obtain ⟨ev, hev, hie⟩ := HE.out.below HB.out hw
          have HP := Lib.hid (parse16 (str [a, b]) rfl wr ev hev hie)
          rw [str_data] at HP
          clear hga hev hie
          cases hx : hexN 0 [a, b] with
          | none =>
            rw [hx] at hh HP
            have hf : u = none := HERR.out (by rw [hh]; rfl)
            clear hh
            go_wp2_with (go_at_call 42; refine HP.out.mono ?_; rintro e w2 ⟨hb2, et, ep, rfl⟩)
            rw [hf]
            refine bodyPost_ret (v := .tuple #[.string ⟨#[]⟩, .int .i64 70]) (by simp [results, Tryd.results22, go_sem]) rfl ⟨HB.out.trans (hb2.mono HB.out.size), rfl⟩
          | some m =>
            obtain ⟨hm, ha43⟩ := hexN_two hx
            rw [hx] at hh HP
            have hcn : ¬ (a.toNat : Int) = 43 := by
              intro h
              apply ha43
              apply UInt8.toNat_inj.1
              show a.toNat = 43
              omega
            have hm0 : (0:Int) ≤ m := by omega
            have hm1 : (m:Int) ≤ 255 := by omega
            have hmv : (m : Int) = ((UInt8.ofNat m).toNat : Int) := by
              rw [UInt8.toNat_ofNat']
              omega
            have hh2 : Hid (unesc l = (unesc (l.drop (k + 2 + 1))).map ((out ++ [UInt8.ofNat m]) ++ ·)) := by
              unfold Hid
              rw [ht3, hh]
              show Option.map _ (Option.map _ _) = _
              rw [Option.map_map]
              congr 1
              funext x
              simp
            have HMV := Lib.hid hmv
            clear hh hmv
            go_wp2_with (first | (go_at_call 42; refine HP.out.mono ?_; rintro e w2 ⟨hb2, rfl⟩; have HB2 := Lib.hid (HB.out.trans (hb2.mono HB.out.size)); have HR2 := Lib.hid (HR.out.call hb2); clear hb2) | (at_builtin; refine wpList_append_row _ rfl _ _ 51 rfl w.heap.size 5 i0 (.int .u8 0) 1 1 Tryd.underlying51 hi hy0 hy1 hy2 rfl _ _ _ rfl (HR2.out.alloc _) ⟨w2.heap.size, 0, none⟩ 1 1 [.int .u8 m] rfl rfl ?c1 ?c2 (by decide) ?c3 ?c4 ?c5 ?c6))
            case c1 => exact cell_one_new _ _ _
            case c2 => intro u hu; simp at hu; subst hu; rfl
            case c3 => unfold maxLen; omega
            case c4 => omega
            case c5 => have := HB2.out.size; simp; omega
            case c6 =>
              intro v6 w6 hown hb
              have HR6 : Hid (Row w6 w.heap.size 5 1 v6 (out ++ [UInt8.ofNat m]).length (byts (out ++ [UInt8.ofNat m]))) := by
                unfold Hid
                rw [byts_append, List.length_append]
                show Row w6 w.heap.size 5 1 v6 (out.length + 1) (byts out ++ [.int .u8 ((UInt8.ofNat m).toNat : Int)])
                rw [← HMV.out]
                exact hown
              have hz := HB2.out.size
              have HB6 := Lib.hid ((HB2.out.alloc hz _).trans hb)
              clear hown hb
              go_wp2_with fail
              go_roundw
              case measure => simp only [intOf]; omega
              case rel => exact ⟨k + 2 + 1, out ++ [UInt8.ofNat m], by omega, by go_num, by simp; omega, HR6.out, HB6.out, hh2.out⟩
      · have hh2 : Hid (unesc l = (unesc (l.drop (k + 1))).map ((out ++ [c]) ++ ·)) := by
          unfold Hid
          rw [hh, unesc_other hc, Option.map_map]
          congr 1
          funext x
          simp
        have hcn : ¬ (c.toNat : Int) = 37 := by
          intro h
          apply hc
          apply UInt8.toNat_inj.1
          show c.toNat = 37
          omega
        clear hh hdk
        go_wp2_with (at_builtin; refine wpList_append_row _ rfl _ _ 51 rfl w.heap.size 5 i0 (.int .u8 0) 1 1 Tryd.underlying51 hi hy0 hy1 hy2 rfl _ _ _ rfl (HR.out.alloc _) ⟨wr.heap.size, 0, none⟩ 1 1 [.int .u8 c.toNat] rfl rfl ?c1 ?c2 (by decide) ?c3 ?c4 ?c5 ?c6)
        case c1 => exact cell_one_new _ _ _
        case c2 => intro u hu; simp at hu; subst hu; rfl
        case c3 => unfold maxLen; omega
        case c4 => omega
        case c5 => have := HB.out.size; simp; omega
        case c6 =>
          intro v6 w6 hown hb
          have HR6 : Hid (Row w6 w.heap.size 5 1 v6 (out ++ [c]).length (byts (out ++ [c]))) := by
            unfold Hid
            rw [byts_append, List.length_append]
            exact hown
          have hz := HB.out.size
          have HB6 := Lib.hid ((HB.out.alloc hz _).trans hb)
          clear hown hb
          go_wp2_with fail
          go_roundw
          case measure => simp only [intOf]; omega
          case rel => exact ⟨k + 1, out ++ [c], by omega, by go_num, by simp; omega, HR6.out, HB6.out, hh2.out⟩
    · obtain rfl : k = n := by omega
      have hun : unesc l = some out := by
        have : l.length = k := HN.out
        rw [HH.out, List.drop_eq_nil_of_le (by omega)]
        simp [unesc]
      have hub : u = if utfB out then some out else none := by rw [← HU.out]; simp [unesB, hun]
      have HG := Lib.hid (good_l _ out wr (Byts.row HR.out) (by omega))
      have hconv := conv_byts (Byts.row HR.out)
      clear hun HH
      cases hb : utfB out with
      | false =>
        have HU2 : Hid (u = none) := by rw [hb] at hub; exact hub
        rw [hb] at HG
        clear hub
        go_wp2_with (go_at_call 43; refine HG.out.mono ?_; rintro e w' ⟨rfl, gn, rfl⟩)
        rw [HU2.out]
        refine bodyPost_ret (v := .tuple #[.string ⟨#[]⟩, .int .i64 70]) (by simp [results, Tryd.results22, go_sem]) rfl ⟨HB.out, rfl⟩
      | true =>
        have HU2 : Hid (u = some out) := by rw [hb] at hub; exact hub
        rw [hb] at HG
        clear hub
        go_wp2_with (go_at_call 43; refine HG.out.mono ?_; rintro e w' ⟨rfl, gn, rfl⟩)
        rw [HU2.out]
        refine bodyPost_ret (v := .tuple #[.string (str out), .int .i64 0]) (by simp [results, Tryd.results22, go_sem]) rfl ⟨HB.out, rfl⟩
end Go.Proofs.YthicgeiljficbaaDoor
