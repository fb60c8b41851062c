import Derived.Test.YthicgeiljficbaaDoorMa2
import Derived.Laws.BytesArg
import Derived.Laws.BytesString
import Derived.Shelf.Strings.BuilderK
import Derived.Test.YthicgeiljficbaaDoorMa1
import Derived.Lib.AtoiAllCases
import Derived.Deep.RegionHeld3
import Derived.Laws.EntriesVeiled
/- pointer.Unescape. -/
namespace Go.Proofs.YthicgeiljficbaaDoor
open Go.RowKit
set_option linter.unusedSimpArgs false
set_option linter.unusedVariables false
set_option linter.unnecessarySimpa false

theorem info_byte : (Tryd.prog.info? 5).map (fun i => (i.zero, i.size, i.bytes)) = some (some (.int .u8 0), 1, 1) := by kernel_rfl

/-- the bytes as cells -/
def byts (l : List UInt8) : List Value := l.map fun c => .int .u8 (c.toNat : Int)
theorem byts_append (a b : List UInt8) : byts (a ++ b) = byts a ++ byts b := by simp [byts]
theorem Byts.row {w : World} {B : Nat} {v : Value} {l : List UInt8} (h : Row w B 5 1 v l.length (byts l)) : Byts w v l := by
  obtain ⟨a, cap, rfl, _⟩ := h.shape
  refine ⟨a, cap, rfl, fun hl => ?_⟩
  obtain ⟨g, cap2, hv, -, -, hlt, hc, -⟩ := h.form hl
  cases hv
  refine ⟨g, 0, rfl, hlt, fun j hj => ?_⟩
  rw [Nat.zero_add, hc j (by omega)]
  simp [byts, hj, List.getD]

theorem strOfNums_str (l : List UInt8) : strOfNums (l.map fun c => (c.toNat : Int)) = str l := by
  apply ByteArray.ext
  apply Array.toList_inj.1
  simp [strOfNums, str, Function.comp_def]
/-- 'string(b)' -/
theorem conv_byts {w : World} {v : Value} {l : List UInt8} (h : Byts w v l) : (convert 51 9 v).run Tryd.prog w = .ok (.string (str l)) w := by
  obtain ⟨a, cap, rfl, h⟩ := h
  by_cases hl : 0 < l.length
  · obtain ⟨b, off, rfl, -, hc⟩ := h hl
    have := run_convert_bytes_arg (P := Tryd.prog) w 51 5 Tryd.underlying51 Tryd.underlying5 b off l.length cap (l.map fun c => (c.toNat : Int)) (by simp) (fun i hi => by
      rw [hc i hi]
      simp [List.getD, hi]) 9 Tryd.underlying9
    rw [this, strOfNums_str]
  · have h0 : l = [] := List.eq_nil_of_length_eq_zero (by omega)
    subst h0
    rw [run_convert_bytes_string w _ _ 5 a _ cap Tryd.underlying51 Tryd.underlying5 Tryd.underlying9]
    cases a with
    | none => rfl
    | some a => simp [Conv.bytesToString, loadCells]; rfl

/-- the text behind the percents -/
def unesc : List UInt8 → Option (List UInt8)
  | [] => some []
  | c :: t => if c = 37 then (match t with
      | a :: b :: t => (match hexN 0 [a, b] with | some n => (unesc t).map (UInt8.ofNat n :: ·) | none => none)
      | _ => none) else (unesc t).map (c :: ·)
theorem unesc_other {c : UInt8} (h : ¬ c = 37) (t : List UInt8) : unesc (c :: t) = (unesc t).map (c :: ·) := by
  rcases t with _ | ⟨a, _ | ⟨b, t⟩⟩ <;> simp [unesc, h]
theorem unesc_two (a b : UInt8) (t : List UInt8) : unesc (37 :: a :: b :: t) = match hexN 0 [a, b] with | some n => (unesc t).map (UInt8.ofNat n :: ·) | none => none := by
  rw [unesc]
  simp
theorem unesc_short {t : List UInt8} (h : t.length < 2) : unesc (37 :: t) = none := by
  rcases t with _ | ⟨a, _ | ⟨b, t⟩⟩
  · simp [unesc]
  · simp [unesc]
  · simp at h; omega
theorem hexN_two {a b : UInt8} {m : Nat} (h : hexN 0 [a, b] = some m) : m < 256 ∧ a ≠ 43 := by
  unfold hexN at h
  cases ha : hexV a with
  | none => rw [ha] at h; simp at h
  | some x =>
    rw [ha] at h
    simp only [hexN] at h
    cases hb : hexV b with
    | none => rw [hb] at h; simp at h
    | some y =>
      rw [hb] at h
      have hx := hexV_lt ha
      have hy := hexV_lt hb
      refine ⟨by simp at h; omega, ?_⟩
      rintro rfl
      have h43 : hexV 43 = none := by decide
      rw [h43] at ha
      simp at ha
/-- what the variables hold -/
def EnvS (W : World) : Prop := ∃ ev, W.cell? ⟨1, 0, none⟩ = some ev ∧ (ev = .nilIface ∨ ∃ te pe, ev = .iface te pe)
theorem EnvS.below {B : Nat} {W W' : World} (h : EnvS W) (hb : Below B W W') (hB : 1 < B) : EnvS W' := by
  obtain ⟨ev, h1, h2⟩ := h
  exact ⟨ev, (hb.cell (p := ⟨1, 0, none⟩) hB).trans h1, h2⟩
/-- what Unescape answers -/
def unesB (l : List UInt8) : Option (List UInt8) := match unesc l with
  | some r => if utfB r then some r else none
  | none => none
def Unesced (o : Option (List UInt8)) (w : World) (e : Ending) (w' : World) : Prop :=
  Below w.heap.size w w' ∧ e = .returned (match o with | some r => .tuple #[.string (str r), .int .i64 0] | none => .tuple #[.string ⟨#[]⟩, .int .i64 70])

set_option maxHeartbeats 2000000 in
set_option maxRecDepth 100000 in
theorem unescape_l (l : List UInt8) (hl : l.length ≤ 67108864) (w : World) (hE : EnvS w) (hw : 1 < w.heap.size) : Calls Tryd.prog 22 #[.string (str l)] w (Unesced (unesB l) w) := by
  obtain ⟨i0, hi, hy0, hy1, hy2⟩ := info_parts info_byte
  have HE := Lib.hid hE
  clear hE
  have hsz := str_size l
  obtain ⟨n, hn⟩ : ∃ n, l.length = n := ⟨_, rfl⟩
  rw [hn] at hsz hl
  have HN := Lib.hid hn
  generalize hu : unesB l = u
  have HU := Lib.hid hu
  clear hu hn
  go_enter Tryd.func22, Tryd.ntmps22
  go_wp2_with fail
  go_loopw [4, 5] (fun v i wr => ∃ (k : Nat) (out : List UInt8), k ≤ n ∧ i = .int .i64 k ∧ out.length ≤ k ∧ Hid (Row wr w.heap.size 5 1 v out.length (byts out)) ∧ Hid (Below w.heap.size w wr) ∧ Hid (unesc l = (unesc (l.drop k)).map (out ++ ·))) (fun _ i _ => n - (intOf i).toNat)
  case atStart => exact ⟨0, [], Nat.zero_le _, rfl, Nat.zero_le _, Row.nil _ _ _ _, Below.refl _ _, Lib.hid (by simp)⟩
  case round =>
    obtain ⟨k, out, hk, rfl, hol, HR, HB, HH⟩ := hrel
    by_cases hlt : k < n
    · have hdrop : l.drop k = l.getD k 0 :: l.drop (k + 1) := drop_two (by rw [HN.out]; exact hlt)
      obtain ⟨c, hcd⟩ : ∃ c : UInt8, l.getD k 0 = c := ⟨_, rfl⟩
      have hby : (str l)[k]'(by rw [hsz]; exact hlt) = c := by rw [← hcd, ← getD_byte, str_data]
      rw [hcd] at hdrop
      have hh := HH.out
      rw [hdrop] at hh
      have hdk : l.length = n := HN.out
      clear HH hdrop
      have HERR : Hid (unesc l = none → u = none) := by
        intro h
        rw [← HU.out]
        simp [unesB, h]
      by_cases hc : c = 37
      · subst hc
        by_cases hs : n - k < 3
        · have hf : u = none := by
            apply HERR.out
            rw [hh]
            have : (l.drop (k + 1)).length < 2 := by rw [List.length_drop]; omega
            rw [unesc_short this]
            rfl
          clear hh hdk
          go_wp2_with fail
          rw [hf]
          refine bodyPost_ret (v := .tuple #[.string ⟨#[]⟩, .int .i64 70]) (by simp [results, Tryd.results22, go_sem]) rfl ⟨HB.out, rfl⟩
        · obtain ⟨a, b, t, htd⟩ : ∃ a b t, l.drop (k + 1) = a :: b :: t := by
            have : 2 ≤ (l.drop (k + 1)).length := by rw [List.length_drop]; omega
            match hq : l.drop (k + 1), this with
            | a :: b :: t, _ => exact ⟨a, b, t, rfl⟩
          have htake : List.take 2 (List.drop (k + 1) l) = [a, b] := by rw [htd]; rfl
          have ht3 : l.drop (k + 2 + 1) = t := by
            have : l.drop (k + 2 + 1) = (l.drop (k + 1)).drop 2 := by rw [List.drop_drop]
            rw [this, htd]; rfl
          have hga : l.getD (k + 1) 0 = a := by
            have : (l.drop (k + 1))[0]? = l[k + 1]? := by simp
            rw [htd] at this
            rw [List.getD, ← this]; rfl
          have hby2 : (str l)[k + 1]'(by rw [hsz]; omega) = a := by rw [← hga, ← getD_byte, str_data]
          rw [htd, unesc_two] at hh
          obtain ⟨ev, hev, hie⟩ := HE.out.below HB.out hw
          have HP := Lib.hid (parse16 (str [a, b]) rfl wr ev hev hie)
          rw [str_data] at HP
          clear hga hev hie
          cases hx : hexN 0 [a, b] with
          | none =>
            rw [hx] at hh HP
            have hf : u = none := HERR.out (by rw [hh]; rfl)
            clear hh
            go_wp2_with (go_at_call 42; refine HP.out.mono ?_; rintro e w2 ⟨hb2, et, ep, rfl⟩)
            rw [hf]
            refine bodyPost_ret (v := .tuple #[.string ⟨#[]⟩, .int .i64 70]) (by simp [results, Tryd.results22, go_sem]) rfl ⟨HB.out.trans (hb2.mono HB.out.size), rfl⟩
          | some m =>
            obtain ⟨hm, ha43⟩ := hexN_two hx
            rw [hx] at hh HP
            have hcn : ¬ (a.toNat : Int) = 43 := by
              intro h
              apply ha43
              apply UInt8.toNat_inj.1
              show a.toNat = 43
              omega
            have hm0 : (0:Int) ≤ m := by omega
            have hm1 : (m:Int) ≤ 255 := by omega
            have hmv : (m : Int) = ((UInt8.ofNat m).toNat : Int) := by
              rw [UInt8.toNat_ofNat']
              omega
            have hh2 : Hid (unesc l = (unesc (l.drop (k + 2 + 1))).map ((out ++ [UInt8.ofNat m]) ++ ·)) := by
              unfold Hid
              rw [ht3, hh]
              show Option.map _ (Option.map _ _) = _
              rw [Option.map_map]
              congr 1
              funext x
              simp
            have HMV := Lib.hid hmv
            clear hh hmv
            go_wp2_with (first | (go_at_call 42; refine HP.out.mono ?_; rintro e w2 ⟨hb2, rfl⟩; have HB2 := Lib.hid (HB.out.trans (hb2.mono HB.out.size)); have HR2 := Lib.hid (HR.out.call hb2); clear hb2) | (at_builtin; refine wpList_append_row _ rfl _ _ 51 rfl w.heap.size 5 i0 (.int .u8 0) 1 1 Tryd.underlying51 hi hy0 hy1 hy2 rfl _ _ _ rfl (HR2.out.alloc _) ⟨w2.heap.size, 0, none⟩ 1 1 [.int .u8 m] rfl rfl ?c1 ?c2 (by decide) ?c3 ?c4 ?c5 ?c6))
            case c1 => exact cell_one_new _ _ _
            case c2 => intro u hu; simp at hu; subst hu; rfl
            case c3 => unfold maxLen; omega
            case c4 => omega
            case c5 => have := HB2.out.size; simp; omega
            case c6 =>
              intro v6 w6 hown hb
              have HR6 : Hid (Row w6 w.heap.size 5 1 v6 (out ++ [UInt8.ofNat m]).length (byts (out ++ [UInt8.ofNat m]))) := by
                unfold Hid
                rw [byts_append, List.length_append]
                show Row w6 w.heap.size 5 1 v6 (out.length + 1) (byts out ++ [.int .u8 ((UInt8.ofNat m).toNat : Int)])
                rw [← HMV.out]
                exact hown
              have hz := HB2.out.size
              have HB6 := Lib.hid ((HB2.out.alloc hz _).trans hb)
              clear hown hb
              go_wp2_with fail
              go_roundw
              case measure => simp only [intOf]; omega
              case rel => exact ⟨k + 2 + 1, out ++ [UInt8.ofNat m], by omega, by go_num, by simp; omega, HR6.out, HB6.out, hh2.out⟩
      · have hh2 : Hid (unesc l = (unesc (l.drop (k + 1))).map ((out ++ [c]) ++ ·)) := by
          unfold Hid
          rw [hh, unesc_other hc, Option.map_map]
          congr 1
          funext x
          simp
        have hcn : ¬ (c.toNat : Int) = 37 := by
          intro h
          apply hc
          apply UInt8.toNat_inj.1
          show c.toNat = 37
          omega
        clear hh hdk
        go_wp2_with (at_builtin; refine wpList_append_row _ rfl _ _ 51 rfl w.heap.size 5 i0 (.int .u8 0) 1 1 Tryd.underlying51 hi hy0 hy1 hy2 rfl _ _ _ rfl (HR.out.alloc _) ⟨wr.heap.size, 0, none⟩ 1 1 [.int .u8 c.toNat] rfl rfl ?c1 ?c2 (by decide) ?c3 ?c4 ?c5 ?c6)
        case c1 => exact cell_one_new _ _ _
        case c2 => intro u hu; simp at hu; subst hu; rfl
        case c3 => unfold maxLen; omega
        case c4 => omega
        case c5 => have := HB.out.size; simp; omega
        case c6 =>
          intro v6 w6 hown hb
          have HR6 : Hid (Row w6 w.heap.size 5 1 v6 (out ++ [c]).length (byts (out ++ [c]))) := by
            unfold Hid
            rw [byts_append, List.length_append]
            exact hown
          have hz := HB.out.size
          have HB6 := Lib.hid ((HB.out.alloc hz _).trans hb)
          clear hown hb
          go_wp2_with fail
          go_roundw
          case measure => simp only [intOf]; omega
          case rel => exact ⟨k + 1, out ++ [c], by omega, by go_num, by simp; omega, HR6.out, HB6.out, hh2.out⟩
    · obtain rfl : k = n := by omega
      have hun : unesc l = some out := by
        have : l.length = k := HN.out
        rw [HH.out, List.drop_eq_nil_of_le (by omega)]
        simp [unesc]
      have hub : u = if utfB out then some out else none := by rw [← HU.out]; simp [unesB, hun]
      have HG := Lib.hid (good_l _ out wr (Byts.row HR.out) (by omega))
      have hconv := conv_byts (Byts.row HR.out)
      clear hun HH
      cases hb : utfB out with
      | false =>
        have HU2 : Hid (u = none) := by rw [hb] at hub; exact hub
        rw [hb] at HG
        clear hub
        go_wp2_with (go_at_call 43; refine HG.out.mono ?_; rintro e w' ⟨rfl, gn, rfl⟩)
        rw [HU2.out]
        refine bodyPost_ret (v := .tuple #[.string ⟨#[]⟩, .int .i64 70]) (by simp [results, Tryd.results22, go_sem]) rfl ⟨HB.out, rfl⟩
      | true =>
        have HU2 : Hid (u = some out) := by rw [hb] at hub; exact hub
        rw [hb] at HG
        clear hub
        go_wp2_with (go_at_call 43; refine HG.out.mono ?_; rintro e w' ⟨rfl, gn, rfl⟩)
        rw [HU2.out]
        refine bodyPost_ret (v := .tuple #[.string (str out), .int .i64 0]) (by simp [results, Tryd.results22, go_sem]) rfl ⟨HB.out, rfl⟩
end Go.Proofs.YthicgeiljficbaaDoor

/- (*strings.Builder).WriteByte: the shelf's contract, laid at this dump (as the kit's lay-plain does for others). -/
namespace Go.Proofs.YthicgeiljficbaaDoor
open Go.RowKit Go.Shelf
set_option linter.unusedSimpArgs false
set_option linter.unusedVariables false
set_option linter.unnecessarySimpa false

end Go.Proofs.YthicgeiljficbaaDoor

/- (*strings.Builder).WriteByte, walked: with a frame that keeps other rows of bytes, too. -/
namespace Go.Proofs.YthicgeiljficbaaDoor
open Go.RowKit Go.Shelf
set_option linter.unusedSimpArgs false
set_option linter.unusedVariables false
set_option linter.unnecessarySimpa false

/-- the Builder in block b holds the bytes l; its row lies from block B on -/
def Bl2 (B b : Nat) (l : List UInt8) (w : World) : Prop :=
  ∃ p v, (p = .pointer none ∨ p = .pointer (some ⟨b, 0, none⟩)) ∧ Blk w b [p, v] 71 ∧ w.ownsRow B 5 1 v l.length (byts l)
/-- what lies below block B, but for block b, is as it was; what lies below b, too -/
def But (B b : Nat) (w w' : World) : Prop := Below b w w' ∧ w.heap.size ≤ w'.heap.size ∧ ∀ k, k < B → k ≠ b → w'.heap[k]? = w.heap[k]?
theorem But.refl (B b : Nat) (w : World) : But B b w w := ⟨Below.refl _ _, Nat.le_refl _, fun _ _ _ => rfl⟩
theorem But.trans {B b : Nat} {w w1 w2 : World} (h : But B b w w1) (k : But B b w1 w2) : But B b w w2 :=
  ⟨h.1.trans k.1, Nat.le_trans h.2.1 k.2.1, fun i hi hb => (k.2.2 i hi hb).trans (h.2.2 i hi hb)⟩
theorem But.blk {B b c : Nat} {w w' : World} {cs : List Value} {T : TypeId} (h : But B b w w') (hk : Blk w c cs T) (hc : c < B) (hne : c ≠ b) : Blk w' c cs T := (h.2.2 c hc hne).trans hk

theorem heap_aside (w : World) (ad : Addr) (x : Value) (k : Nat) (h : k ≠ ad.block) : (w.setCell ad x).heap[k]? = w.heap[k]? := Below.heap_setCell _ _ _ _ h
theorem ownsRow_call {w w' : World} {B : Nat} {e : TypeId} {size : Nat} {v : Value} {n : Nat} {xs : List Value} (h : w.ownsRow B e size v n xs) (hb : Below w.heap.size w w') : w'.ownsRow B e size v n xs := by
  refine ⟨h.1, h.2.imp id ?_⟩
  rintro ⟨g, cap, cur, hv, hg, hh, h3⟩
  have hlt : g < w.heap.size := (Array.getElem?_eq_some_iff.1 hh).1
  exact ⟨g, cap, cur, hv, hg, (hb.block _ hlt).trans hh, h3⟩
theorem Bl2.call {B b : Nat} {l : List UInt8} {w w' : World} (h : Bl2 B b l w) (hb : Below w.heap.size w w') : Bl2 B b l w' := by
  obtain ⟨p, v, hp, hk, hr⟩ := h
  exact ⟨p, v, hp, hk.call hb, ownsRow_call hr hb⟩
/-- the base under the Builder's block raised -/
theorem Bl2.nil {b : Nat} {w : World} {p : Value} (h : Blk w b [p, .slice none 0 0] 71) (hp : p = .pointer none ∨ p = .pointer (some ⟨b, 0, none⟩)) (B : Nat) : Bl2 B b [] w := ⟨p, _, hp, h, World.ownsRow_nil _ _ _ _⟩
end Go.Proofs.YthicgeiljficbaaDoor

/- pointer.Escape. -/
namespace Go.Proofs.YthicgeiljficbaaDoor
open Go.RowKit
set_option linter.unusedSimpArgs false
set_option linter.unusedVariables false
set_option linter.unnecessarySimpa false

theorem But.cell {B b : Nat} {w w' : World} (h : But B b w w') {c o : Nat} (hc : c < B) (hne : c ≠ b) : w'.cell? ⟨c, o, none⟩ = w.cell? ⟨c, o, none⟩ := by
  unfold World.cell?
  rw [h.2.2 c hc hne]

end Go.Proofs.YthicgeiljficbaaDoor

/- caliperref01.Good is utf.Good's law; what is escaped comes back. -/
namespace Go.Proofs.YthicgeiljficbaaDoor
open Go.RowKit Go.Proofs.YthicgeiljficbaaDoor.Ref Go.Proofs.YthicgeiljficbaaDoorW.PrintWords
set_option linter.unusedSimpArgs false
set_option linter.unusedVariables false
set_option linter.unnecessarySimpa false

def ints (l : List UInt8) : List Int := l.map fun c => (c.toNat : Int)
theorem rd_ints (l : List UInt8) (i : Nat) (h : i < l.length) : rd (ints l) (i : Int) = ((l.getD i 0).toNat : Int) := by
  unfold rd ints
  simp [List.getD, h]
theorem ints_len (l : List UInt8) : (ints l).length = l.length := by simp [ints]

theorem utfM_zero (a b : Int) (l : List UInt8) : utfM 0 a b l = utfB l := by
  unfold utfB
  cases l <;> simp [utfM]

/-- how many bytes a first one begins, 0: nothing -/
def lenV (c : Int) : Int := (goesV c).1 + 1
theorem goes_lt (c : Int) (h : c < 128) : goesV c = (0, 0, 0) := by unfold goesV; rw [if_pos h]
theorem goes_no (c : Int) (h : 128 ≤ c) (h2 : c < 194 ∨ 244 < c) : goesV c = (-1, 0, 0) := by
  unfold goesV
  rw [if_neg (by omega)]
  rcases h2 with h2 | h2
  · rw [if_pos h2]
  · rw [if_neg (by omega), if_pos h2]
theorem goes_1 (c : Int) (h : 194 ≤ c) (h2 : c < 224) : goesV c = (1, 128, 191) := by
  unfold goesV
  rw [if_neg (by omega), if_neg (by omega), if_neg (by omega), if_pos h2]
theorem goes_2 (c : Int) (h : 224 ≤ c) (h2 : c < 240) : goesV c = (2, if c = 224 then 160 else 128, if c = 237 then 159 else 191) := by
  unfold goesV
  rw [if_neg (by omega), if_neg (by omega), if_neg (by omega), if_neg (by omega)]
  by_cases h3 : c = 224
  · subst h3; rfl
  · rw [if_neg h3, if_neg h3]
    by_cases h4 : c = 237
    · rw [if_pos h4, if_pos h4]
    · rw [if_neg h4, if_neg h4, if_pos h2]
theorem goes_3 (c : Int) (h : 240 ≤ c) (h2 : c ≤ 244) : goesV c = (3, if c = 240 then 144 else 128, if c = 244 then 143 else 191) := by
  unfold goesV
  rw [if_neg (by omega), if_neg (by omega), if_neg (by omega), if_neg (by omega), if_neg (by omega), if_neg (by omega), if_neg (by omega)]
  by_cases h3 : c = 240
  · subst h3; rfl
  · rw [if_neg h3, if_neg h3]
    by_cases h4 : c = 244
    · rw [if_pos h4, if_pos h4]
    · rw [if_neg h4, if_neg h4]
theorem goes_cases (c : Int) (h0 : 0 ≤ c) : (c < 128 ∧ goesV c = (0, 0, 0)) ∨ (128 ≤ c ∧ (c < 194 ∨ 244 < c) ∧ goesV c = (-1, 0, 0)) ∨ (194 ≤ c ∧ c < 224 ∧ goesV c = (1, 128, 191)) ∨
    (224 ≤ c ∧ c < 240 ∧ goesV c = (2, if c = 224 then 160 else 128, if c = 237 then 159 else 191)) ∨ (240 ≤ c ∧ c ≤ 244 ∧ goesV c = (3, if c = 240 then 144 else 128, if c = 244 then 143 else 191)) := by
  by_cases h1 : c < 128
  · exact .inl ⟨h1, goes_lt c h1⟩
  · by_cases h2 : c < 194 ∨ 244 < c
    · exact .inr (.inl ⟨by omega, h2, goes_no c (by omega) h2⟩)
    · by_cases h3 : c < 224
      · exact .inr (.inr (.inl ⟨by omega, h3, goes_1 c (by omega) h3⟩))
      · by_cases h4 : c < 240
        · exact .inr (.inr (.inr (.inl ⟨by omega, h4, goes_2 c (by omega) h4⟩)))
        · exact .inr (.inr (.inr (.inr ⟨by omega, by omega, goes_3 c (by omega) (by omega)⟩)))
theorem length_is (k : Nat) (hk : 2 ≤ k) (c : Int) (h0 : 0 ≤ c) : caliperref01_length.f k c = some (lenV c) := by
  obtain ⟨k, rfl⟩ : ∃ m, k = m + 2 := ⟨k - 2, by omega⟩
  unfold caliperref01_length.f lenV
  rcases goes_cases c h0 with ⟨h1, e⟩ | ⟨h1, h2, e⟩ | ⟨h1, h2, e⟩ | ⟨h1, h2, e⟩ | ⟨h1, h2, e⟩
  · rw [if_pos h1, e]; rfl
  · rw [if_neg (by omega), e]
    rcases h2 with h2 | h2
    · rw [if_neg (by omega), caliperref01_length.j0, if_neg (by simp), if_neg (by omega), caliperref01_length.j1, if_neg (by simp), if_neg (by omega)]; rfl
    · rw [if_pos (by omega), caliperref01_length.j0, if_neg (by simp; omega), if_pos (by omega), caliperref01_length.j1, if_neg (by simp; omega), if_pos (by omega), if_neg (by omega)]; rfl
  · rw [if_neg (by omega), e, if_pos (by omega), caliperref01_length.j0, if_pos (by simp; omega)]; rfl
  · rw [if_neg (by omega), e, if_pos (by omega), caliperref01_length.j0, if_neg (by simp; omega), if_pos (by omega), caliperref01_length.j1, if_pos (by simp; omega)]; rfl
  · rw [if_neg (by omega), e, if_pos (by omega), caliperref01_length.j0, if_neg (by simp; omega), if_pos (by omega), caliperref01_length.j1, if_neg (by simp; omega), if_pos (by omega), if_pos (by omega)]; rfl
theorem second_is (c d : Int) (h1 : 194 ≤ c) (h2 : c ≤ 244) : caliperref01_second.f c d = some (decide ((goesV c).2.1 ≤ d ∧ d ≤ (goesV c).2.2)) := by
  have key : ∀ (a b : Int), (if d ≥ a then some (decide (d ≤ b)) else some false) = some (decide (a ≤ d ∧ d ≤ b)) := by
    intro a b
    by_cases h : d ≥ a
    · rw [if_pos h]; simp [h]
    · rw [if_neg h]; simp [h]
  unfold caliperref01_second.f
  simp only [key]
  rcases goes_cases c (by omega) with ⟨h, e⟩ | ⟨h, h', e⟩ | ⟨h, h', e⟩ | ⟨h, h', e⟩ | ⟨h, h', e⟩
  · omega
  · omega
  · rw [e, if_neg (by omega), if_neg (by omega), if_neg (by omega), if_neg (by omega)]
  · rw [e]
    by_cases h3 : c = 224
    · subst h3; rfl
    · by_cases h4 : c = 237
      · subst h4; rfl
      · rw [if_neg h3, if_neg h4, if_neg (by omega), if_neg (by omega)]; simp only [if_neg h3, if_neg h4]
  · rw [e]
    by_cases h3 : c = 240
    · subst h3; rfl
    · by_cases h4 : c = 244
      · subst h4; rfl
      · rw [if_neg (by omega), if_neg (by omega), if_neg h3, if_neg h4]; simp only [if_neg h3, if_neg h4]

theorem wrap_in {x : Int} (h0 : 0 ≤ x) (h1 : x ≤ 9223372036854775807) : wrap64 x = x := by unfold wrap64; omega

/-- the bytes behind a first one: from byte i of n on -/
theorem step_loop (l : List UInt8) (hl : l.length ≤ 281474976710656) (at_ : Nat) (c : UInt8) (t : List UInt8) (hd : l.drop at_ = c :: t) (h1 : 194 ≤ (c.toNat : Int)) (h2 : (c.toNat : Int) ≤ 244) (n : Nat) (hn : (n : Int) = lenV c.toNat)  :
    ∀ (m i : Nat), 1 ≤ i → n = i + m → at_ + i ≤ l.length → ∀ k, m + 1 ≤ k →
      ∃ (r : Nat) (ok : Bool), caliperref01_step.l0 k (ints l) at_ n i = some ((r : Int), ok) ∧ r ≤ n ∧ at_ + r ≤ l.length ∧ (ok = true → r = n) ∧
        utfM (m : Int) (if i = 1 then (goesV c.toNat).2.1 else 128) (if i = 1 then (goesV c.toNat).2.2 else 191) (l.drop (at_ + i)) = (ok && utfB (l.drop (at_ + n))) := by
  have hlen : at_ < l.length := by
    rcases Nat.lt_or_ge at_ l.length with h | h
    · exact h
    · rw [List.drop_eq_nil_of_le h] at hd; cases hd
  have hc : l.getD at_ 0 = c := by
    have := congrArg (·[0]?) hd
    simp at this
    simp [List.getD, this]
  have hil := ints_len l
  have hn4 : n ≤ 4 := by
    have := goesV_range c.toNat
    unfold lenV at hn
    omega
  clear hn
  have HIL := Lib.hid hil
  clear hil
  intro m
  induction m with
  | zero =>
    intro i hi hni hai k hk
    obtain ⟨k, rfl⟩ : ∃ j, k = j + 1 := ⟨k - 1, by omega⟩
    obtain rfl : n = i := hni
    refine ⟨n, true, ?_, Nat.le_refl _, hai, fun _ => rfl, ?_⟩
    · simp only [caliperref01_step.l0]
      rw [if_neg (by omega)]
    · rw [Bool.true_and]
      exact utfM_zero _ _ _
  | succ m ih =>
    intro i hi hni hai k hk
    obtain ⟨k, rfl⟩ : ∃ j, k = j + 1 := ⟨k - 1, by omega⟩
    have hw : wrap64 ((at_ : Int) + (i : Int)) = ((at_ + i : Nat) : Int) := by rw [wrap_in (by omega) (by omega)]; omega
    have HW := Lib.hid hw
    clear hw
    have hw2 : wrap64 ((i : Int) + 1) = ((i + 1 : Nat) : Int) := by rw [wrap_in (by omega) (by omega)]; omega
    have HW2 := Lib.hid hw2
    clear hw2
    have hm1 : ((m + 1 : Nat) : Int) ≠ 0 := by omega
    have hm2 : ((m + 1 : Nat) : Int) - 1 = (m : Int) := by omega
    have hin : (i : Int) < (n : Int) := by omega
    by_cases hend : at_ + i = l.length
    · have hs : caliperref01_step.l0 (k + 1) (ints l) at_ n i = some ((i : Int), false) := by
        simp only [caliperref01_step.l0]
        rw [if_pos hin, HW.out, HIL.out, if_pos (by omega)]
      refine ⟨i, false, hs, by omega, hai, (fun h => absurd h (by simp)), ?_⟩
      rw [hend, List.drop_length, Bool.false_and]
      simp [utfM]
      omega
    · have hlt : at_ + i < l.length := by omega
      have hr1 := rd_ints l (at_ + i) hlt
      have hr0 := rd_ints l at_ hlen
      rw [hc] at hr0
      have HR0 := Lib.hid hr0
      have HR1 := Lib.hid hr1
      clear hr0 hr1
      have hdd : l.drop (at_ + i) = l.getD (at_ + i) 0 :: l.drop (at_ + (i + 1)) := by
        rw [List.drop_eq_getElem_cons hlt]
        simp [List.getD, hlt, Nat.add_assoc]
      have q1 : n = i + 1 + m := by omega
      have q2 : at_ + (i + 1) ≤ l.length := by omega
      have q3 : m + 1 ≤ k := by omega
      have hne : ¬ i + 1 = 1 := fun e => by have := Nat.succ.inj e; subst this; exact absurd hi (by decide)
      have hih := ih (i + 1) (Nat.le_add_left 1 i) q1 q2 k q3
      rw [if_neg hne, if_neg hne] at hih
      clear q1 q2 q3 hne
      rw [hdd, utfM, if_neg hm1, hm2]
      generalize l.getD (at_ + i) 0 = d at *
      by_cases h11 : i = 1
      · rw [if_pos h11, if_pos h11]
        by_cases hb : (goesV c.toNat).2.1 ≤ (d.toNat : Int) ∧ (d.toNat : Int) ≤ (goesV c.toNat).2.2
        · have hs : caliperref01_step.l0 (k + 1) (ints l) at_ n i = caliperref01_step.l0 k (ints l) at_ n ((i + 1 : Nat) : Int) := by
            simp only [caliperref01_step.l0]
            rw [if_pos hin, HW.out, HIL.out, HW2.out, if_neg (by omega), if_pos (by omega), if_pos (by omega), HR0.out, HR1.out, if_pos (by omega), if_pos (by omega), if_pos (by omega), second_is _ _ h1 h2]
            simp only [Option.bind_some]
            rw [if_pos (decide_eq_true hb), if_neg (by omega)]
          rw [hs, if_neg (by omega), if_neg (by omega)]
          exact hih
        · have hs : caliperref01_step.l0 (k + 1) (ints l) at_ n i = some ((i : Int), false) := by
            simp only [caliperref01_step.l0]
            rw [if_pos hin, HW.out, HIL.out, HW2.out, if_neg (by omega), if_pos (by omega), if_pos (by omega), HR0.out, HR1.out, if_pos (by omega), if_pos (by omega), if_pos (by omega), second_is _ _ h1 h2]
            simp only [Option.bind_some]
            rw [if_neg (by rw [decide_eq_true_eq]; exact hb)]
          refine ⟨i, false, hs, by omega, hai, (fun h => absurd h (by simp)), ?_⟩
          rw [Bool.false_and]
          by_cases hb1 : (d.toNat : Int) < (goesV c.toNat).2.1
          · rw [if_pos hb1]
          · rw [if_neg hb1, if_pos (by omega)]
      · rw [if_neg h11, if_neg h11]
        by_cases hb : 128 ≤ (d.toNat : Int) ∧ (d.toNat : Int) ≤ 191
        · have hs : caliperref01_step.l0 (k + 1) (ints l) at_ n i = caliperref01_step.l0 k (ints l) at_ n ((i + 1 : Nat) : Int) := by
            simp only [caliperref01_step.l0]
            rw [if_pos hin, HW.out, HIL.out, HW2.out, if_neg (by omega), if_pos (by omega), if_pos (by omega), HR0.out, HR1.out, if_neg (by omega), if_pos (by omega), if_neg (by omega), if_neg (by omega)]
          rw [hs, if_neg (by omega), if_neg (by omega)]
          exact hih
        · have hs : caliperref01_step.l0 (k + 1) (ints l) at_ n i = some ((i : Int), false) := by
            simp only [caliperref01_step.l0]
            rw [if_pos hin, HW.out, HIL.out, HW2.out, if_neg (by omega), if_pos (by omega), if_pos (by omega), HR0.out, HR1.out, if_neg (by omega), if_pos (by omega)]
            by_cases hb1 : (d.toNat : Int) < 128
            · rw [if_pos hb1]
            · rw [if_neg hb1, if_pos (by omega)]
          refine ⟨i, false, hs, by omega, hai, (fun h => absurd h (by simp)), ?_⟩
          rw [Bool.false_and]
          by_cases hb1 : (d.toNat : Int) < 128
          · rw [if_pos hb1]
          · rw [if_neg hb1, if_pos (by omega)]

theorem step_is (l : List UInt8) (hl : l.length ≤ 281474976710656) (at_ : Nat) (c : UInt8) (t : List UInt8) (hd : l.drop at_ = c :: t) (k : Nat) (hk : 5 ≤ k) :
    ∃ (r : Nat) (ok : Bool), caliperref01_step.f k (ints l) at_ = some ((r : Int), ok) ∧ at_ + r ≤ l.length ∧ (ok = true → 1 ≤ r) ∧ utfB (l.drop at_) = (ok && utfB (l.drop (at_ + r))) := by
  have hlen : at_ < l.length := by
    rcases Nat.lt_or_ge at_ l.length with h | h
    · exact h
    · rw [List.drop_eq_nil_of_le h] at hd; cases hd
  have hc : l.getD at_ 0 = c := by
    have := congrArg (·[0]?) hd
    simp at this
    simp [List.getD, this]
  have ht : l.drop (at_ + 1) = t := by
    have := congrArg (List.drop 1) hd
    simpa [List.drop_drop, Nat.add_comm] using this
  have hil := ints_len l
  have hr0 := rd_ints l at_ hlen
  rw [hc] at hr0
  have hrg := goesV_range c.toNat
  have hu : utfB (c :: t) = if (goesV c.toNat).1 < 0 then false else utfM (goesV c.toNat).1 (goesV c.toNat).2.1 (goesV c.toNat).2.2 t := by
    unfold utfB
    rw [utfM, if_pos rfl]
  unfold caliperref01_step.f
  rw [if_pos (by omega), if_pos (by omega), hr0, length_is k (by omega) _ (by omega), hd, hu]
  simp only [Option.bind_some]
  have hcs := goes_cases (c.toNat : Int) (by omega)
  by_cases hg : (goesV c.toNat).1 < 0
  · rw [if_pos (by unfold lenV; omega), if_pos hg]
    exact ⟨0, false, rfl, by omega, (fun h => absurd h (by simp)), by simp⟩
  · rw [if_neg (by unfold lenV; omega), if_neg hg]
    obtain ⟨g, hg2⟩ : ∃ g : Nat, (goesV c.toNat).1 = g := ⟨(goesV c.toNat).1.toNat, by omega⟩
    have hn : lenV c.toNat = ((1 + g : Nat) : Int) := by unfold lenV; omega
    rw [hn]
    by_cases h0 : g = 0
    · subst h0
      obtain ⟨k, rfl⟩ : ∃ j, k = j + 1 := ⟨k - 1, by omega⟩
      simp only [caliperref01_step.l0]
      rw [if_neg (by omega)]
      refine ⟨1, true, rfl, by omega, fun _ => by omega, ?_⟩
      rw [hg2, Bool.true_and, ht]
      exact utfM_zero _ _ _
    · have hb : 194 ≤ (c.toNat : Int) ∧ (c.toNat : Int) ≤ 244 := by
        rcases hcs with ⟨h1, e⟩ | ⟨h1, h2, e⟩ | ⟨h1, h2, e⟩ | ⟨h1, h2, e⟩ | ⟨h1, h2, e⟩
        · have := congrArg Prod.fst e; simp only at this; omega
        · have := congrArg Prod.fst e; simp only at this; omega
        all_goals omega
      obtain ⟨r, ok, h1, h2, h3, h4, h5⟩ := step_loop l hl at_ c t hd hb.1 hb.2 (1 + g) hn.symm g 1 (by omega) (by omega) (by omega) k (by omega)
      rw [if_pos rfl, if_pos rfl, ht, ← hg2] at h5
      refine ⟨r, ok, h1, h3, fun h => by have := h4 h; omega, ?_⟩
      rw [h5]
      cases ok with
      | false => simp
      | true => rw [h4 rfl]

theorem good_loop (l : List UInt8) (hl : l.length ≤ 281474976710656) : ∀ (d at_ : Nat), at_ + d = l.length → ∀ k, d + 7 ≤ k → ∃ r, caliperref01_Good.l0 k (ints l) at_ = some (r, utfB (l.drop at_)) := by
  intro d
  induction d using Nat.strongRecOn with
  | _ d ih =>
    intro at_ ha k hk
    obtain ⟨k, rfl⟩ : ∃ j, k = j + 1 := ⟨k - 1, by omega⟩
    have hil := ints_len l
    simp only [caliperref01_Good.l0]
    rw [hil]
    by_cases hlt : at_ < l.length
    · rw [if_pos (by omega)]
      obtain ⟨r, ok, h1, h2, h3, h4⟩ := step_is l hl at_ l[at_] (l.drop (at_ + 1)) (List.drop_eq_getElem_cons hlt) k (by omega)
      rw [h1, h4]
      simp only [Option.bind_some]
      have hw : wrap64 ((at_ : Int) + (r : Int)) = ((at_ + r : Nat) : Int) := by rw [wrap_in (by omega) (by omega)]; omega
      rw [hw]
      cases ok with
      | false => exact ⟨((at_ + r : Nat) : Int), by simp⟩
      | true =>
        have := h3 rfl
        rw [if_pos rfl, Bool.true_and]
        exact ih (l.length - (at_ + r)) (by omega) (at_ + r) (by omega) k (by omega)
    · rw [if_neg (by omega), List.drop_eq_nil_of_le (by omega)]
      exact ⟨_, rfl⟩
theorem good_is (l : List UInt8) (hl : l.length ≤ 281474976710656) : ∃ k r, caliperref01_Good.f k (ints l) = some (r, utfB l) := by
  obtain ⟨r, h⟩ := good_loop l hl l.length 0 (by omega) (l.length + 7) (by omega)
  exact ⟨_, r, h⟩

/-- a row of bytes -/
theorem C_byts {W : World} {v : Value} {l : List UInt8} (h : Byts W v l) (hl : l.length ≤ 281474976710656) : ∃ a cap, v = .slice a (ints l).length cap ∧ Kd.C (Kd.int .u8) W a (ints l).length (ints l) := by
  obtain ⟨a, cap, rfl, h⟩ := h
  have hil := ints_len l
  refine ⟨a, cap, by rw [hil], rfl, by omega, fun hn => ?_⟩
  obtain ⟨b, off, rfl, hlt, hc⟩ := h (by omega)
  refine ⟨_, rfl, fun j p hj => ⟨[.int .u8 p], rfl, rfl, fun i u hu => ?_⟩⟩
  have hjl : j < l.length := by
    have := (List.getElem?_eq_some_iff.1 hj).1
    omega
  obtain rfl : i = 0 := by
    have := (List.getElem?_eq_some_iff.1 hu).1
    simp at this
    exact this
  have hp : p = ((l.getD j 0).toNat : Int) := by
    unfold ints at hj
    simp [hjl] at hj
    simp [List.getD, hjl, ← hj]
  have e : (⟨b, off, none⟩ : Addr).add (j * 1 + 0) = ⟨b, off + j, none⟩ := by
    rw [Nat.mul_one, Nat.add_zero]
    cases j <;> simp [Addr.add]
  have e2 : (Kd.int .u8).sz = 1 := rfl
  rw [e2, e, hc j hjl, ← hp]
  simpa using hu
theorem goodR_l (v : Value) (l : List UInt8) (w : World) (hv : Byts w v l) (hl : l.length ≤ 281474976710656) (hcap : ∀ a n cap, v = .slice a n cap → n ≤ cap) :
    Calls Tryd.prog 23 #[v] w (fun e w' => Below w.heap.size w w' ∧ ∃ n, e = .returned (.tuple #[.int .i64 n, .bool (utfB l)])) := by
  obtain ⟨k, r, h⟩ := good_is l hl
  obtain ⟨a, cap, rfl, hC⟩ := C_byts hv hl
  refine (caliperref01_Good.calls k a cap (ints l) r (utfB l) w hC (hcap _ _ _ rfl) h).mono ?_
  rintro e w' ⟨rfl, hd⟩
  exact ⟨hd.below, r, rfl⟩
end Go.Proofs.YthicgeiljficbaaDoor

/- Values (api.Value) that lie in memory, read as trees; value.Get. -/
namespace Go.Proofs.YthicgeiljficbaaDoor
open Go.RowKit Go.Proofs.YthicgeiljficbaaDoor.Ref Go.Proofs.YthicgeiljficbaaDoorW.PrintWords Go.Proofs.YthicgeiljficbaaDoorW.PrintLast
set_option linter.unusedSimpArgs false
set_option linter.unusedVariables false
set_option linter.unnecessarySimpa false

/-- the cells of a value -/
def vcs (x : S28) (v5 v6 : Value) : List Value := [.int .i64 x.f0, .bool x.f1.f0, .string x.f1.f1, .int .i64 x.f1.f2, .string x.f2, v5, v6]
/-- x lies in W, in these cells -/
def VK (W : World) (x : S28) (v5 v6 : Value) : Prop := ∃ A5 c5 A6 c6, v5 = .slice A5 x.f3.length c5 ∧ v6 = .slice A6 x.f4.length c6 ∧ x.f3.length ≤ c5 ∧ Kd.C k28 W A5 x.f3.length x.f3 ∧ x.f4.length ≤ c6 ∧ Kd.C Kd.string W A6 x.f4.length x.f4
theorem VK.call {W W' : World} {x : S28} {v5 v6 : Value} (h : VK W x v5 v6) (hb : Below W.heap.size W W') : VK W' x v5 v6 := by
  obtain ⟨A5, c5, A6, c6, h1, h2, h3, h4, h5, h6⟩ := h
  exact ⟨A5, c5, A6, c6, h1, h2, h3, Kd.C_below h4 hb, h5, Kd.C_below h6 hb⟩
theorem VK.zero (W : World) : VK W z28 (.slice none 0 0) (.slice none 0 0) := ⟨none, 0, none, 0, rfl, rfl, Nat.le_refl _, Kd.C_nil _ _, Nat.le_refl _, Kd.C_nil _ _⟩

theorem spot_none {w : World} {ad : Addr} {v : Value} (h : w.cell? ad = some v) : ad = ⟨ad.block, ad.off, none⟩ ∧ ad.block < w.heap.size := by
  obtain ⟨b, o, s⟩ := ad
  unfold World.cell? at h
  cases s with
  | some s => simp at h; split at h <;> simp at h
  | none =>
    refine ⟨rfl, ?_⟩
    rcases Nat.lt_or_ge b w.heap.size with h' | h'
    · exact h'
    · simp [Array.getElem?_eq_none h'] at h

/-- the texts of a row that is read -/
theorem C_strs {W : World} {A : Option Addr} {n : Nat} {xs : List ByteArray} (h : Kd.C Kd.string W A n xs) (hn : 0 < n) :
    ∃ b off, A = some ⟨b, off, none⟩ ∧ b < W.heap.size ∧ ∀ j, j < n → W.cell? ⟨b, off + j, none⟩ = some (.string (xs.getD j ByteArray.empty)) := by
  obtain ⟨ad, rfl, h0⟩ := Kd.at_string h 0 (by omega) (by omega)
  have e0 : ad.add (0 : Int).toNat = ad := by simp [Addr.add]
  rw [e0] at h0
  obtain ⟨hs, hlt⟩ := spot_none h0
  refine ⟨ad.block, ad.off, by rw [← hs], hlt, fun j hj => ?_⟩
  obtain ⟨ad2, e2, h2⟩ := Kd.at_string h j (by omega) (by omega)
  cases e2
  have e3 : ad.add (j : Int).toNat = ⟨ad.block, ad.off + j, none⟩ := by
    rw [hs]
    simp only [Int.toNat_natCast]
    by_cases hj0 : j = 0
    · subst hj0; simp [Addr.add]
    · simp [Addr.add, hj0]
  rw [e3] at h2
  rw [h2]
  simp [rdOf]
/-- an element of a row of values -/
theorem C_vals {W : World} {A : Option Addr} {n : Nat} {xs : List S28} (h : Kd.C k28 W A n xs) (hn : 0 < n) :
    ∃ b off, A = some ⟨b, off, none⟩ ∧ b < W.heap.size ∧ ∀ j, j < n → ∃ v5 v6, VK W (xs.getD j z28) v5 v6 ∧ ∀ i u, (vcs (xs.getD j z28) v5 v6)[i]? = some u → W.cell? ⟨b, off + j * 7 + i, none⟩ = some u := by
  obtain ⟨ad, c, rfl, hc, hK, h0⟩ := Kd.C_get h z28 0 (by omega) (by omega)
  have hcl : c.length = 7 := hc
  have h00 := h0 0 (c[0]'(by omega)) (by simp)
  have e0 : ad.add ((0 : Int).toNat * k28.sz + 0) = ad := by simp [Addr.add]
  rw [e0] at h00
  obtain ⟨hs, hlt⟩ := spot_none h00
  refine ⟨ad.block, ad.off, by rw [← hs], hlt, fun j hj => ?_⟩
  obtain ⟨ad2, c2, e2, hc2, hK2, h2⟩ := Kd.C_get h z28 j (by omega) (by omega)
  cases e2
  obtain ⟨A5, c5, A6, c6, rfl, l5, g5, l6, g6⟩ := k28_open hK2
  refine ⟨_, _, ⟨A5, c5, A6, c6, rfl, rfl, l5, g5, l6, g6⟩, fun i u hu => ?_⟩
  have := h2 i u hu
  have e3 : ad.add ((j : Int).toNat * k28.sz + i) = ⟨ad.block, ad.off + j * 7 + i, none⟩ := by
    have hsz : k28.sz = 7 := rfl
    rw [hs, hsz]
    simp only [Int.toNat_natCast]
    by_cases hj0 : j * 7 + i = 0
    · have hj1 : j = 0 := by omega
      have hi1 : i = 0 := by omega
      subst hj1; subst hi1; simp [Addr.add]
    · unfold Addr.add
      rw [if_neg hj0]
      simp [Nat.add_assoc]
  rw [e3] at this
  exact this

/-- what a value found is told as -/
def Found (o : Option S28) (w0 w : World) (e : Ending) (w' : World) : Prop :=
  ∃ v5 v6, e = .returned (.tuple #[.agg (vcs (o.getD z28) v5 v6).toArray, .bool o.isSome]) ∧ VK w0 (o.getD z28) v5 v6 ∧ Below w.heap.size w w'
def getV (ks : List ByteArray) (xs : List S28) (key : ByteArray) : Option S28 := if 0 ≤ Lib.idxOfS ks key then some (xs.getD (Lib.idxOfS ks key).toNat z28) else none
theorem idxOfS_range (ks : List ByteArray) (key : ByteArray) : -1 ≤ Lib.idxOfS ks key ∧ Lib.idxOfS ks key < ks.length := by
  unfold Lib.idxOfS
  have : ∀ (zs : List ByteArray) (i : Nat), Lib.idxFromS zs key i = -1 ∨ ((i : Int) ≤ Lib.idxFromS zs key i ∧ Lib.idxFromS zs key i < i + zs.length) := by
    intro zs
    induction zs with
    | nil => intro i; left; rfl
    | cons z zs ih =>
      intro i
      unfold Lib.idxFromS
      split
      · right; simp only [List.length_cons]; omega
      · rcases ih (i + 1) with h | ⟨h1, h2⟩
        · exact .inl h
        · right; simp only [List.length_cons]; omega
  rcases this ks 0 with h | ⟨h1, h2⟩ <;> omega

set_option maxRecDepth 100000 in
set_option maxHeartbeats 2000000 in
theorem get_l (x : S28) (v5 v6 : Value) (key : ByteArray) (w0 w : World) (hx : VK w0 x v5 v6) (hb0 : Below w0.heap.size w0 w) (hlen : x.f4.length ≤ x.f3.length) :
    Calls Tryd.prog 50 #[.agg (vcs x v5 v6).toArray, .string key] w (Found (getV x.f4 x.f3 key) w0 w) := by
  have hz0 := hb0.size
  obtain ⟨A5, c5, A6, c6, rfl, rfl, h5, hC5, h6, hC6⟩ := hx
  have hI : ∀ W, W.heap.size = W.heap.size → Below w.heap.size w W → Calls Tryd.prog 67 #[.slice A6 x.f4.length c6, .string key] W (Ans (.int .i64 (Lib.idxOfS x.f4 key)) W) := by
    intro W _ hb
    by_cases h0 : 0 < x.f4.length
    · obtain ⟨b, off, rfl, hlt, hc⟩ := C_strs hC6 h0
      have := Tryd.slices_Index_string b off x.f4.length c6 x.f4 key W (Nat.le_refl _) hC6.2.1 (fun j hj => by rw [hb.cell (p := ⟨b, off + j, none⟩) (by show b < _; omega), hb0.cell (p := ⟨b, off + j, none⟩) hlt]; exact hc j hj)
      rw [List.take_length] at this
      exact this.mono fun _ _ h => ⟨h.1, h.2.symm⟩
    · have hn : x.f4 = [] := List.eq_nil_of_length_eq_zero (by omega)
      rw [hn]
      exact (Tryd.slices_Index_string_empty A6 c6 key W).mono fun _ _ h => ⟨h.1, h.2.symm⟩
  have hr := idxOfS_range x.f4 key
  have HF : Hid (getV x.f4 x.f3 key = if 0 ≤ Lib.idxOfS x.f4 key then some (x.f3.getD (Lib.idxOfS x.f4 key).toNat z28) else none) := rfl
  have HI := Lib.hid hI
  have HC5 := Lib.hid hC5
  generalize Lib.idxOfS x.f4 key = i at *
  generalize getV x.f4 x.f3 key = g at *
  clear hI hC5 hC6
  show Calls Tryd.prog 50 #[.agg #[.int .i64 x.f0, .bool x.f1.f0, .string x.f1.f1, .int .i64 x.f1.f2, .string x.f2, .slice A5 x.f3.length c5, .slice A6 x.f4.length c6], .string key] w _
  by_cases hi : 0 ≤ i
  · obtain ⟨b, off, rfl, hlt, hv⟩ := C_vals HC5.out (by omega)
    obtain ⟨j, rfl⟩ := Int.eq_ofNat_of_zero_le hi
    obtain ⟨u5, u6, hK, hcells⟩ := hv j (by omega)
    rw [if_pos hi, Int.toNat_natCast] at HF
    have k0 := (hb0.cell (p := ⟨b, off + j * 7 + 0, none⟩) hlt).trans (hcells 0 _ rfl)
    have k1 := (hb0.cell (p := ⟨b, off + j * 7 + 1, none⟩) hlt).trans (hcells 1 _ rfl)
    have k2 := (hb0.cell (p := ⟨b, off + j * 7 + 2, none⟩) hlt).trans (hcells 2 _ rfl)
    have k3 := (hb0.cell (p := ⟨b, off + j * 7 + 3, none⟩) hlt).trans (hcells 3 _ rfl)
    have k4 := (hb0.cell (p := ⟨b, off + j * 7 + 4, none⟩) hlt).trans (hcells 4 _ rfl)
    have k5 := (hb0.cell (p := ⟨b, off + j * 7 + 5, none⟩) hlt).trans (hcells 5 _ rfl)
    have k6 := (hb0.cell (p := ⟨b, off + j * 7 + 6, none⟩) hlt).trans (hcells 6 _ rfl)
    have hjl : j < x.f3.length := by omega
    have hmx : x.f3.length ≤ 9223372036854775807 := HC5.out.2.1
    have hlt : b < w.heap.size := by omega
    clear hcells hv
    obtain ⟨B5, d5, B6, d6, rfl, rfl, hrest⟩ := hK
    have HK : Hid (VK w0 (x.f3.getD j z28) (.slice B5 (x.f3.getD j z28).f3.length d5) (.slice B6 (x.f3.getD j z28).f4.length d6)) := ⟨B5, d5, B6, d6, rfl, rfl, hrest⟩
    clear hrest
    generalize x.f3.getD j z28 = y at *
    simp only [Nat.add_zero] at k0
    go_enter Tryd.func50, Tryd.ntmps50
    go_wp2_with (go_at_call 67; refine (HI.out _ rfl (by repeat (first | (with_reducible exact Below.refl _ _) | (with_reducible refine Below.alloc ?_ (by simp) _)))).mono ?_; rintro e w' ⟨rfl, rfl⟩)
    refine bodyPost_ret (v := .tuple #[.agg (vcs y (.slice B5 y.f3.length d5) (.slice B6 y.f4.length d6)).toArray, .bool true]) (by simp [results, Tryd.results50, go_sem, vcs]) rfl ?_
    have hb : Below w.heap.size w ((w.alloc (.cells #[.int .i64 x.f0, .bool x.f1.f0, .string x.f1.f1, .int .i64 x.f1.f2, .string x.f2, .slice (some ⟨b, off, none⟩) x.f3.length c5, .slice A6 x.f4.length c6] 28)).alloc (.cells #[.int .i64 y.f0, .bool y.f1.f0, .string y.f1.f1, .int .i64 y.f1.f2, .string y.f2, .slice B5 y.f3.length d5, .slice B6 y.f4.length d6] 28)) := ((Below.refl _ _).alloc (Nat.le_refl _) _).alloc (by simp) _
    rw [HF.out]
    exact ⟨_, _, rfl, HK.out, hb⟩
  · rw [if_neg hi] at HF
    have hge : decide (0 ≤ i) = false := decide_eq_false hi
    go_enter Tryd.func50, Tryd.ntmps50
    go_wp2_with (go_at_call 67; refine (HI.out _ rfl (by repeat (first | (with_reducible exact Below.refl _ _) | (with_reducible refine Below.alloc ?_ (by simp) _)))).mono ?_; rintro e w' ⟨rfl, rfl⟩)
    refine bodyPost_ret (v := .tuple #[.agg (vcs z28 (.slice none 0 0) (.slice none 0 0)).toArray, .bool false]) (by simp [results, Tryd.results50, go_sem, vcs, z28, z24]) rfl ?_
    rw [HF.out]
    have hb : Below w.heap.size w ((w.alloc (.cells #[.int .i64 x.f0, .bool x.f1.f0, .string x.f1.f1, .int .i64 x.f1.f2, .string x.f2, .slice A5 x.f3.length c5, .slice A6 x.f4.length c6] 28)).alloc (.cells #[.int .i64 0, .bool false, .string ⟨#[]⟩, .int .i64 0, .string ⟨#[]⟩, .slice none 0 0, .slice none 0 0] 28)) := ((Below.refl _ _).alloc (Nat.le_refl _) _).alloc (by simp) _
    exact ⟨_, _, rfl, VK.zero _, hb⟩
end Go.Proofs.YthicgeiljficbaaDoor

/- pointer.step, pointer.Find over values that are read as trees. -/
namespace Go.Proofs.YthicgeiljficbaaDoor
open Go.RowKit Go.Proofs.YthicgeiljficbaaDoor.Ref Go.Proofs.YthicgeiljficbaaDoorW.PrintWords Go.Proofs.YthicgeiljficbaaDoorW.PrintLast
set_option linter.unusedSimpArgs false
set_option linter.unusedVariables false
set_option linter.unnecessarySimpa false
attribute [local go_sem] vcs

/-- what the variables of the library hold -/
def EnvV (W : World) : Prop := 8 ≤ W.heap.size ∧ Env W ∧ EnvS W ∧ (∃ ev, W.cell? ⟨2, 0, none⟩ = some ev ∧ (ev = .nilIface ∨ ∃ te pe, ev = .iface te pe)) ∧ Lib.TabIs Tryd.prog W "internal/strconv.uint64pow10" .u64 Lib.pow10Tab
theorem glob_pow : Tryd.prog.globalNamed "internal/strconv.uint64pow10" = some 3 := by kernel_rfl
theorem EnvV.below {B : Nat} {W W' : World} (h : EnvV W) (hb : Below B W W') (hB : 8 ≤ B) : EnvV W' := by
  obtain ⟨h0, h1, h2, ⟨ev, h3, h4⟩, h5⟩ := h
  refine ⟨Nat.le_trans h0 hb.size, h1.below hb (by omega), h2.below hb (by show 1 < B; omega), ⟨ev, (hb.cell (p := ⟨2, 0, none⟩) (by show 2 < B; omega)).trans h3, h4⟩, ?_⟩
  unfold Lib.TabIs World.var? at h5 ⊢
  rw [glob_pow] at h5 ⊢
  simp only [Option.bind_some] at h5 ⊢
  rw [hb.block _ (by show 3 < B; omega)]
  exact h5
theorem EnvV.call {W W' : World} (h : EnvV W) (hb : Below W.heap.size W W') : EnvV W' := h.below hb h.1

theorem below_grow' {w : World} (k : Nat) (os : Array Obj) : Below w.heap.size w (Go.Sort.grow (w.drewN k) os) := by
  refine ⟨rfl, rfl, rfl, by simp [Go.Sort.grow], fun i hi => ?_⟩
  exact Go.Sort.heap_grow_old (w.drewN k) os hi
theorem itoa_l (n : Int) (h0 : -9223372036854775808 ≤ n) (h1 : n ≤ 9223372036854775807) (w : World) (he : EnvV w) : Calls Tryd.prog 31 #[.int .i64 n] w (New (.string (str (Lib.itoa n))) w) :=
  (Tryd.strconv_Itoa n h0 h1 w he.2.2.2.2).mono fun _ _ ⟨h, k, os, hw⟩ => ⟨h, hw ▸ below_grow' k os⟩
/-- what a store of a value into a block needs to know of it -/
theorem Blk.seven {W : World} {b : Nat} {x0 x1 x2 x3 x4 x5 x6 : Value} {T : TypeId} (h : Blk W b [x0, x1, x2, x3, x4, x5, x6] T) :
    (W.cell? ⟨b, 0, none⟩ = some x0 ∧ W.cell? ⟨b, 1, none⟩ = some x1 ∧ W.cell? ⟨b, 2, none⟩ = some x2 ∧ W.cell? ⟨b, 3, none⟩ = some x3 ∧ W.cell? ⟨b, 4, none⟩ = some x4 ∧ W.cell? ⟨b, 5, none⟩ = some x5 ∧ W.cell? ⟨b, 6, none⟩ = some x6) ∧
    (W.frozen? ⟨b, 0, none⟩ = false ∧ W.frozen? ⟨b, 1, none⟩ = false ∧ W.frozen? ⟨b, 2, none⟩ = false ∧ W.frozen? ⟨b, 3, none⟩ = false ∧ W.frozen? ⟨b, 4, none⟩ = false ∧ W.frozen? ⟨b, 5, none⟩ = false ∧ W.frozen? ⟨b, 6, none⟩ = false) ∧ W.shape? b = some (T, 7) :=
  ⟨⟨h.cell 0, h.cell 1, h.cell 2, h.cell 3, h.cell 4, h.cell 5, h.cell 6⟩, ⟨h.froz 0, h.froz 1, h.froz 2, h.froz 3, h.froz 4, h.froz 5, h.froz 6⟩, h.shape⟩
/-- how Atoi ends: a number, or none -/
def atoiV (l : List UInt8) : Option Int := match Lib.atoiAll l with
  | .ok v => some v
  | _ => none
def Atoid (o : Option Int) (w : World) (e : Ending) (w' : World) : Prop := Below w.heap.size w w' ∧
  match o with
  | some v => e = .returned (.tuple #[.int .i64 v, .nilIface])
  | none => ∃ n p, e = .returned (.tuple #[.int .i64 n, .iface 105 p])
theorem atoi_l (l : List UInt8) (hl : l.length ≤ 1073741824) (w : World) (he : EnvV w) : Calls Tryd.prog 51 #[.string (str l)] w (Atoid (atoiV l) w) := by
  obtain ⟨h0, h1, ⟨es, h2, h3⟩, ⟨er, h4, h5⟩, h6⟩ := he
  unfold Atoid atoiV
  cases hx : Lib.atoiAll l with
  | ok v =>
    refine (Tryd.strconv_Atoi_ok (str l) (by rw [str_size]; omega) v (by rw [str_data]; exact hx) w).mono ?_
    rintro e w' ⟨h, rfl | ⟨t, rfl⟩⟩
    · exact ⟨Below.refl _ _, h⟩
    · refine ⟨?_, h⟩
      exact Lib.bytesWorld_below _ _ _
  | range =>
    refine (Tryd.strconv_Atoi_range (str l) (by rw [str_size]; omega) (by rw [str_data]; exact hx) er w h4 h5).mono ?_
    rintro e w' ⟨N, h, _, _, hb⟩
    exact ⟨hb, _, _, h⟩
  | _ =>
    refine (Any.strconv_Atoi_syntax Tryd.laysC172 (str l) (by rw [str_size]; omega) (by rw [str_data]; exact hx) es w h2 h3).mono ?_
    rintro e w' ⟨N, h, _, _, hb⟩
    exact ⟨hb, _, _, h⟩
theorem atoiV_bounds {l : List UInt8} {v : Int} (h : atoiV l = some v) : -9223372036854775808 ≤ v ∧ v ≤ 9223372036854775807 := by
  unfold atoiV at h
  cases hx : Lib.atoiAll l with
  | ok u => rw [hx] at h; injection h with h; subst h; exact Lib.atoiAll_bounds hx
  | range => rw [hx] at h; cases h
  | _ => rw [hx] at h; cases h

/-- what a part leads to -/
def stepV (x : S28) (p : List UInt8) : Option S28 :=
  if x.f0 = 6 then getV x.f4 x.f3 (str p)
  else if x.f0 = 5 then (match atoiV p with
    | some n => if Lib.itoa n = p then (if 0 ≤ n then (if n < x.f3.length then some (x.f3.getD n.toNat z28) else none) else none) else none
    | _ => none)
  else none

theorem VK.open {W : World} {x : S28} {v5 v6 : Value} (h : VK W x v5 v6) : ∃ A5 c5 A6 c6, v5 = .slice A5 x.f3.length c5 ∧ v6 = .slice A6 x.f4.length c6 := by
  obtain ⟨A5, c5, A6, c6, h1, h2, _⟩ := h
  exact ⟨A5, c5, A6, c6, h1, h2⟩

def boxed (x : S28) (v5 v6 : Value) : Obj := .cells #[.int .i64 x.f0, .bool x.f1.f0, .string x.f1.f1, .int .i64 x.f1.f2, .string x.f2, v5, v6] 28
set_option maxRecDepth 100000 in
set_option maxHeartbeats 2000000 in
theorem step_obj (x : S28) (v5 v6 : Value) (p : List UInt8) (w0 w : World) (hx : VK w0 x v5 v6) (h0 : Below w0.heap.size w0 w) (hlen : x.f4.length ≤ x.f3.length) (h6 : x.f0 = 6) :
    Calls Tryd.prog 29 #[.agg (vcs x v5 v6).toArray, .string (str p)] w (Found (getV x.f4 x.f3 (str p)) w0 w) := by
  have hb0 : ∀ a b : Obj, Below w.heap.size w ((w.alloc a).alloc b) := fun a b => ((Below.refl _ _).alloc (Nat.le_refl _) _).alloc (by simp) _
  have HG : ∀ a b : Obj, Calls Tryd.prog 50 #[.agg #[.int .i64 x.f0, .bool x.f1.f0, .string x.f1.f1, .int .i64 x.f1.f2, .string x.f2, v5, v6], .string (str p)] ((w.alloc a).alloc b) (Found (getV x.f4 x.f3 (str p)) w0 ((w.alloc a).alloc b)) := fun a b => get_l x v5 v6 (str p) w0 _ hx (h0.trans ((hb0 a b).mono h0.size)) hlen
  obtain ⟨A5, c5, A6, c6, rfl, rfl⟩ := hx.open
  have HG' := Lib.hid HG
  have HB0 := Lib.hid hb0
  clear HG hb0 hx h0
  generalize getV x.f4 x.f3 (str p) = g at *
  show Calls Tryd.prog 29 #[.agg #[.int .i64 x.f0, .bool x.f1.f0, .string x.f1.f1, .int .i64 x.f1.f2, .string x.f2, .slice A5 x.f3.length c5, .slice A6 x.f4.length c6], .string (str p)] w _
  rw [h6] at HG' ⊢
  clear h6
  go_enter Tryd.func29, Tryd.ntmps29
  go_wp2_with fail
  refine (HG'.out _ _).mono ?_
  rintro e w1 ⟨u5, u6, rfl, hK, hb⟩
  have hz := hb.size
  simp only [World.size_alloc] at hz
  obtain ⟨B5, d5, B6, d6, rfl, rfl⟩ := hK.open
  have hk := Blk.call (Blk.new (w.alloc _) [.int .i64 0, .bool false, .string ⟨#[]⟩, .int .i64 0, .string ⟨#[]⟩, .slice none 0 0, .slice none 0 0] 28) hb
  have HB1 := Lib.hid ((HB0.out _ _).trans (hb.mono (by simp; omega)))
  have HK1 := Lib.hid hK
  obtain ⟨⟨a0, a1, a2, a3, a4, a5, a6⟩, ⟨f0, f1, f2, f3, f4, f5, f6⟩, hs⟩ := hk.seven
  clear hb hK
  rw [World.size_alloc] at a0 a1 a2 a3 a4 a5 a6 f0 f1 f2 f3 f4 f5 f6 hs
  clear hk
  go_wp2_with fail
  refine bodyPost_ret (v := .tuple #[.agg (vcs (g.getD z28) (.slice B5 (g.getD z28).f3.length d5) (.slice B6 (g.getD z28).f4.length d6)).toArray, .bool g.isSome]) ?_ rfl ?_
  · simp [results, Tryd.results29, go_sem, vcs, a0, a1, a2, a3, a4, a5, a6, hs]
  · refine ⟨_, _, rfl, HK1.out, ?_⟩
    repeat (first | (with_reducible exact HB1.out) | (with_reducible refine Below.setCell ?_ ?_ _))
    all_goals (show _ ≤ w.heap.size + 1; omega)

theorem step_other (x : S28) (v5 v6 : Value) (p : List UInt8) (w0 w : World) (hx : VK w0 x v5 v6) (h5 : x.f0 ≠ 5) (h6 : x.f0 ≠ 6) :
    Calls Tryd.prog 29 #[.agg (vcs x v5 v6).toArray, .string (str p)] w (Found none w0 w) := by
  obtain ⟨A5, c5, A6, c6, rfl, rfl⟩ := hx.open
  show Calls Tryd.prog 29 #[.agg #[.int .i64 x.f0, .bool x.f1.f0, .string x.f1.f1, .int .i64 x.f1.f2, .string x.f2, .slice A5 x.f3.length c5, .slice A6 x.f4.length c6], .string (str p)] w _
  have e5 : (x.f0 == 5) = false := by simpa using h5
  have e6 : (x.f0 == 6) = false := by simpa using h6
  go_enter Tryd.func29, Tryd.ntmps29
  go_wp2_with fail
  refine bodyPost_ret (v := .tuple #[.agg (vcs z28 (.slice none 0 0) (.slice none 0 0)).toArray, .bool false]) (by simp [results, Tryd.results29, go_sem, vcs, z28, z24]) rfl ?_
  refine ⟨_, _, rfl, VK.zero _, ?_⟩
  exact ((Below.refl _ _).alloc (Nat.le_refl _) _).alloc (by simp) _

/-- the way behind Atoi -/
def arrV (x : S28) (p : List UInt8) : Option S28 := match atoiV p with
    | some n => if Lib.itoa n = p then (if 0 ≤ n then (if n < x.f3.length then some (x.f3.getD n.toNat z28) else none) else none) else none
    | _ => none
set_option maxRecDepth 100000 in
set_option maxHeartbeats 2000000 in
theorem step_arr (x : S28) (v5 v6 : Value) (p : List UInt8) (hp : p.length ≤ 1073741824) (w0 w : World) (hx : VK w0 x v5 v6) (h0 : Below w0.heap.size w0 w) (he : EnvV w) (h5 : x.f0 = 5) :
    Calls Tryd.prog 29 #[.agg (vcs x v5 v6).toArray, .string (str p)] w (Found (arrV x p) w0 w) := by
  have hb0 : ∀ a b : Obj, Below w.heap.size w ((w.alloc a).alloc b) := fun a b => ((Below.refl _ _).alloc (Nat.le_refl _) _).alloc (by simp) _
  have HA := Lib.hid (fun a b : Obj => atoi_l p hp ((w.alloc a).alloc b) (he.call (hb0 a b)))
  have HE := Lib.hid he
  have HX := Lib.hid hx
  obtain ⟨A5, c5, A6, c6, rfl, rfl, hl5, hC5, -, -⟩ := hx
  have hmx : x.f3.length ≤ 9223372036854775807 := hC5.2.1
  have HB0 := Lib.hid hb0
  have hz0 := h0.size
  have H0 := Lib.hid h0
  have HC5 := Lib.hid hC5
  have HR : Hid (arrV x p = match atoiV p with
    | some n => if Lib.itoa n = p then (if 0 ≤ n then (if n < x.f3.length then some (x.f3.getD n.toNat z28) else none) else none) else none
    | _ => none) := rfl
  clear hb0 he h0 hC5
  show Calls Tryd.prog 29 #[.agg #[.int .i64 x.f0, .bool x.f1.f0, .string x.f1.f1, .int .i64 x.f1.f2, .string x.f2, .slice A5 x.f3.length c5, .slice A6 x.f4.length c6], .string (str p)] w _
  rw [h5]
  clear h5
  have hzv : Found none w0 w (.returned (.tuple #[.agg (vcs z28 (.slice none 0 0) (.slice none 0 0)).toArray, .bool false])) w := ⟨_, _, rfl, VK.zero _, Below.refl _ _⟩
  clear hzv
  go_enter Tryd.func29, Tryd.ntmps29
  go_wp2_with fail
  refine (HA.out _ _).mono ?_
  rintro e w1 ⟨hb, he⟩
  have hz := hb.size
  simp only [World.size_alloc] at hz
  have hk := Blk.call (Blk.new (w.alloc _) [.int .i64 0, .bool false, .string ⟨#[]⟩, .int .i64 0, .string ⟨#[]⟩, .slice none 0 0, .slice none 0 0] 28) hb
  have hk2 := Blk.call (Blk.alloc (Blk.new w [.int .i64 5, .bool x.f1.f0, .string x.f1.f1, .int .i64 x.f1.f2, .string x.f2, .slice A5 x.f3.length c5, .slice A6 x.f4.length c6] 28) _) hb
  rw [World.size_alloc] at hk
  have HB1 := Lib.hid ((HB0.out _ _).trans (hb.mono (by simp; omega)))
  have HK := Lib.hid hk
  have HK2 := Lib.hid hk2
  have h3 := HK2.out.cell 5
  simp only [List.getElem?_cons_succ, List.getElem?_cons_zero] at h3
  have HE1 := Lib.hid (HE.out.call HB1.out)
  clear hb hk hk2
  by_cases hok : ∃ n, atoiV p = some n
  · obtain ⟨n, hn⟩ := hok
    have hbd := atoiV_bounds hn
    rw [hn] at he HR
    obtain rfl := he
    have HI := Lib.hid (itoa_l n hbd.1 hbd.2 w1 HE1.out)
    have e1 := str_toList (Lib.itoa n)
    have e2 := str_toList p
    have hq : Hid (Lib.itoa n = p ↔ (Lib.itoa n == p) = true) := by unfold Hid; simp
    have HR' : Hid (arrV x p = if Lib.itoa n = p then (if 0 ≤ n then (if n < x.f3.length then some (x.f3.getD n.toNat z28) else none) else none) else none) := HR.out
    clear HR hn
    generalize Lib.itoa n = q at *
    by_cases hqp : (q == p) = true
    · have hqp' := hq.out.2 hqp
      rw [if_pos hqp'] at HR'
      clear hqp' hq
      by_cases h0 : 0 ≤ n
      · have hd0 : decide (0 ≤ n) = true := decide_eq_true h0
        rw [if_pos h0] at HR'
        by_cases h1 : n < x.f3.length
        · have hd1 : decide (n < (x.f3.length : Int)) = true := decide_eq_true h1
          rw [if_pos h1] at HR'
          obtain ⟨j, rfl⟩ := Int.eq_ofNat_of_zero_le h0
          obtain ⟨b, off, rfl, hlt, hv⟩ := C_vals HC5.out (by omega)
          obtain ⟨u5, u6, hK, hcells⟩ := hv j (by omega)
          have k0 := hcells 0 _ rfl
          have k1 := hcells 1 _ rfl
          have k2 := hcells 2 _ rfl
          have k3 := hcells 3 _ rfl
          have k4 := hcells 4 _ rfl
          have k5 := hcells 5 _ rfl
          have k6 := hcells 6 _ rfl
          obtain ⟨B5, d5, B6, d6, rfl, rfl⟩ := hK.open
          have HK7 := Lib.hid hK
          clear hcells hv hK
          simp only [Nat.add_zero] at k0
          rw [Int.toNat_natCast] at HR'
          generalize x.f3.getD j z28 = y at *
          have HR2 := Lib.hid HR'
          clear HR'
          go_wp2_with (go_at_call 31; refine HI.out.mono ?_; rintro e w2 ⟨rfl, hb2⟩; have hk' := HK.out.call hb2; have hk2' := HK2.out.call hb2; have h5' := hk2'.cell 5; simp only [List.getElem?_cons_succ, List.getElem?_cons_zero] at h5'; obtain ⟨⟨a0, a1, a2, a3, a4, a5, a6⟩, ⟨f0, f1, f2, f3, f4, f5, f6⟩, hs⟩ := hk'.seven; have HB2 := Lib.hid (HB1.out.trans (hb2.mono HB1.out.size)); have hw := H0.out.trans (HB2.out.mono hz0); have c0 := (hw.cell (p := ⟨b, off + j * 7, none⟩) hlt).trans k0; have c1 := (hw.cell (p := ⟨b, off + j * 7 + 1, none⟩) hlt).trans k1; have c2 := (hw.cell (p := ⟨b, off + j * 7 + 2, none⟩) hlt).trans k2; have c3 := (hw.cell (p := ⟨b, off + j * 7 + 3, none⟩) hlt).trans k3; have c4 := (hw.cell (p := ⟨b, off + j * 7 + 4, none⟩) hlt).trans k4; have c5' := (hw.cell (p := ⟨b, off + j * 7 + 5, none⟩) hlt).trans k5; have c6' := (hw.cell (p := ⟨b, off + j * 7 + 6, none⟩) hlt).trans k6; clear hw k0 k1 k2 k3 k4 k5 k6; clear hk' hk2' hb2)
          refine bodyPost_ret (v := .tuple #[.agg (vcs y (.slice B5 y.f3.length d5) (.slice B6 y.f4.length d6)).toArray, .bool true]) (by simp [results, Tryd.results29, go_sem, vcs, a0, a1, a2, a3, a4, a5, a6, hs]) rfl ?_
          rw [HR2.out]
          refine ⟨_, _, rfl, HK7.out, ?_⟩
          repeat (first | (with_reducible exact HB2.out) | (with_reducible refine Below.setCell ?_ ?_ _))
          all_goals (show _ ≤ w.heap.size + 1; omega)
        · have hd1 : decide (n < (x.f3.length : Int)) = false := decide_eq_false h1
          rw [if_neg h1] at HR'
          have HR2 := Lib.hid HR'
          clear HR'
          obtain ⟨j, rfl⟩ := Int.eq_ofNat_of_zero_le h0
          go_wp2_with (go_at_call 31; refine HI.out.mono ?_; rintro e w2 ⟨rfl, hb2⟩; have hk' := HK.out.call hb2; have hk2' := HK2.out.call hb2; have h5' := hk2'.cell 5; simp only [List.getElem?_cons_succ, List.getElem?_cons_zero] at h5'; obtain ⟨⟨a0, a1, a2, a3, a4, a5, a6⟩, ⟨f0, f1, f2, f3, f4, f5, f6⟩, hs⟩ := hk'.seven; have HB2 := Lib.hid (HB1.out.trans (hb2.mono HB1.out.size)); clear hk' hk2' hb2)
          refine bodyPost_ret (v := .tuple #[.agg (vcs z28 (.slice none 0 0) (.slice none 0 0)).toArray, .bool false]) (by simp [results, Tryd.results29, go_sem, vcs, z28, z24, a0, a1, a2, a3, a4, a5, a6, hs]) rfl ?_
          rw [HR2.out]
          refine ⟨_, _, rfl, VK.zero _, ?_⟩
          repeat (first | (with_reducible exact HB2.out) | (with_reducible refine Below.setCell ?_ ?_ _))
          all_goals (show _ ≤ w.heap.size + 1; omega)
      · have hd0 : decide (0 ≤ n) = false := decide_eq_false h0
        rw [if_neg h0] at HR'
        have HR2 := Lib.hid HR'
        clear HR'
        go_wp2_with (go_at_call 31; refine HI.out.mono ?_; rintro e w2 ⟨rfl, hb2⟩; have hk' := HK.out.call hb2; have hk2' := HK2.out.call hb2; have h5' := hk2'.cell 5; simp only [List.getElem?_cons_succ, List.getElem?_cons_zero] at h5'; obtain ⟨⟨a0, a1, a2, a3, a4, a5, a6⟩, ⟨f0, f1, f2, f3, f4, f5, f6⟩, hs⟩ := hk'.seven; have HB2 := Lib.hid (HB1.out.trans (hb2.mono HB1.out.size)); clear hk' hk2' hb2)
        refine bodyPost_ret (v := .tuple #[.agg (vcs z28 (.slice none 0 0) (.slice none 0 0)).toArray, .bool false]) (by simp [results, Tryd.results29, go_sem, vcs, z28, z24, a0, a1, a2, a3, a4, a5, a6, hs]) rfl ?_
        rw [HR2.out]
        refine ⟨_, _, rfl, VK.zero _, ?_⟩
        repeat (first | (with_reducible exact HB2.out) | (with_reducible refine Below.setCell ?_ ?_ _))
        all_goals (show _ ≤ w.heap.size + 1; omega)
    · have hqp' : ¬ q = p := fun h => hqp (hq.out.1 h)
      rw [if_neg hqp'] at HR'
      have hqf : (q == p) = false := by simpa using hqp
      have HR2 := Lib.hid HR'
      clear HR' hqp' hq hqp
      go_wp2_with (go_at_call 31; refine HI.out.mono ?_; rintro e w2 ⟨rfl, hb2⟩; have hk' := HK.out.call hb2; have hk2' := HK2.out.call hb2; have h5' := hk2'.cell 5; simp only [List.getElem?_cons_succ, List.getElem?_cons_zero] at h5'; obtain ⟨⟨a0, a1, a2, a3, a4, a5, a6⟩, ⟨f0, f1, f2, f3, f4, f5, f6⟩, hs⟩ := hk'.seven; have HB2 := Lib.hid (HB1.out.trans (hb2.mono HB1.out.size)); clear hk' hk2' hb2)
      refine bodyPost_ret (v := .tuple #[.agg (vcs z28 (.slice none 0 0) (.slice none 0 0)).toArray, .bool false]) (by simp [results, Tryd.results29, go_sem, vcs, z28, z24, a0, a1, a2, a3, a4, a5, a6, hs]) rfl ?_
      rw [HR2.out]
      refine ⟨_, _, rfl, VK.zero _, ?_⟩
      repeat (first | (with_reducible exact HB2.out) | (with_reducible refine Below.setCell ?_ ?_ _))
      all_goals (show _ ≤ w.heap.size + 1; omega)
  · have hn : atoiV p = none := by
      cases h : atoiV p with
      | none => rfl
      | some n => exact absurd ⟨n, h⟩ hok
    have hr : arrV x p = none := by rw [HR.out, hn]
    have he' : ∃ n q, e = .returned (.tuple #[.int .i64 n, .iface 105 q]) := by rw [hn] at he; exact he
    clear hn
    obtain ⟨n, q, rfl⟩ := he'
    have HRR := Lib.hid hr
    obtain ⟨⟨a0, a1, a2, a3, a4, a5, a6⟩, ⟨f0, f1, f2, f3, f4, f5, f6⟩, hs⟩ := HK.out.seven
    clear he HR hr hok
    go_wp2_with fail
    refine bodyPost_ret (v := .tuple #[.agg (vcs z28 (.slice none 0 0) (.slice none 0 0)).toArray, .bool false]) (by simp [results, Tryd.results29, go_sem, vcs, z28, z24, a0, a1, a2, a3, a4, a5, a6, hs]) rfl ?_
    rw [HRR.out]
    refine ⟨_, _, rfl, VK.zero _, ?_⟩
    repeat (first | (with_reducible exact HB1.out) | (with_reducible refine Below.setCell ?_ ?_ _))
    all_goals (show _ ≤ w.heap.size + 1; omega)

theorem step_l (x : S28) (v5 v6 : Value) (p : List UInt8) (hp : p.length ≤ 1073741824) (w0 w : World) (hx : VK w0 x v5 v6) (h0 : Below w0.heap.size w0 w) (he : EnvV w) (hlen : x.f0 = 6 → x.f4.length ≤ x.f3.length) :
    Calls Tryd.prog 29 #[.agg (vcs x v5 v6).toArray, .string (str p)] w (Found (stepV x p) w0 w) := by
  unfold stepV
  by_cases h6 : x.f0 = 6
  · rw [if_pos h6]; exact step_obj x v5 v6 p w0 w hx h0 (hlen h6) h6
  · rw [if_neg h6]
    by_cases h5 : x.f0 = 5
    · rw [if_pos h5]; exact step_arr x v5 v6 p hp w0 w hx h0 he h5
    · rw [if_neg h5]; exact step_other x v5 v6 p w0 w hx h5 h6
end Go.Proofs.YthicgeiljficbaaDoor

/- pointer.Find over values that are read as trees. -/
namespace Go.Proofs.YthicgeiljficbaaDoor
open Go.RowKit Go.Proofs.YthicgeiljficbaaDoor.Ref Go.Proofs.YthicgeiljficbaaDoorW.PrintWords Go.Proofs.YthicgeiljficbaaDoorW.PrintLast
set_option linter.unusedSimpArgs false
set_option linter.unusedVariables false
set_option linter.unnecessarySimpa false
attribute [local go_sem] vcs

/-- an object's keys have values, all the way down -/
inductive OkT : S28 → Prop
  | mk (x : S28) (h1 : x.f0 = 6 → x.f4.length = x.f3.length) (h2 : ∀ y, y ∈ x.f3 → OkT y) : OkT x
theorem OkT.same {x : S28} (h : OkT x) : x.f0 = 6 → x.f4.length = x.f3.length := by cases h; assumption
theorem OkT.keys {x : S28} (h : OkT x) (h6 : x.f0 = 6) : x.f4.length ≤ x.f3.length := Nat.le_of_eq (h.same h6)
theorem OkT.sub {x y : S28} (h : OkT x) (hy : y ∈ x.f3) : OkT y := by
  cases h with
  | mk _ _ h2 => exact h2 y hy
theorem getV_mem {ks : List ByteArray} {xs : List S28} {key : ByteArray} {y : S28} (hl : ks.length ≤ xs.length) (h : getV ks xs key = some y) : y ∈ xs := by
  unfold getV at h
  split at h
  · obtain ⟨_, h2⟩ := idxOfS_range ks key
    have hlt : (Lib.idxOfS ks key).toNat < xs.length := by omega
    simp only [Option.some.injEq] at h
    rw [← h]
    simp [List.getD, hlt]
  · simp at h
theorem stepV_mem {x y : S28} {p : List UInt8} (hx : x.f0 = 6 → x.f4.length ≤ x.f3.length) (h : stepV x p = some y) : y ∈ x.f3 := by
  unfold stepV at h
  split at h
  · rename_i h6; exact getV_mem (hx h6) h
  · split at h
    · split at h
      · rename_i n hn
        split at h
        · split at h
          · split at h
            · rename_i h0 h1
              simp only [Option.some.injEq] at h
              rw [← h]
              have hlt : n.toNat < x.f3.length := by omega
              simp [List.getD, hlt]
            · simp at h
          · simp at h
        · simp at h
      · simp at h
    · simp at h

theorem wVal_len (w : List UInt8) : (wVal w).length ≤ 4 * w.length + 3 := by
  have h1 := replaceAll_len [126, 49] [47] w (by decide)
  have h2 := replaceAll_len [126, 48] [126] (Lib.replaceAll w [126, 49] [47]) (by decide)
  unfold wVal
  omega
theorem parseP_len {l : List UInt8} {ws : List (List UInt8)} (h : parseP l = some ws) : ws.length ≤ l.length ∧ ∀ p, p ∈ ws → p.length ≤ 4 * l.length + 3 := by
  cases l with
  | nil =>
    rw [parseP] at h
    cases h
    exact ⟨Nat.le_refl _, fun p hp => absurd hp (by simp)⟩
  | cons c t =>
    rw [parseP] at h
    by_cases h1 : c = 47
    · rw [if_pos h1] at h
      by_cases h2 : (spl 47 (t.count 47) t).all wOk = true
      · rw [if_pos h2] at h
        have hc := List.count_le_length (a := 47) (l := t)
        have hlen := spl_length 47 t
        have hfl := spl_flat 47 (t.count 47) t
        generalize spl 47 (t.count 47) t = ss at *
        cases h
        refine ⟨by rw [List.length_map, List.length_cons]; omega, fun p hp => ?_⟩
        obtain ⟨q, hq, rfl⟩ := List.mem_map.1 hp
        obtain ⟨j, hj, rfl⟩ := List.getElem_of_mem hq
        have h1 := elem_le hj
        have h2 := wVal_len ss[j]
        rw [List.length_cons]
        omega
      · rw [if_neg h2] at h; cases h
    · rw [if_neg h1] at h; cases h

def walkV (x : S28) : List (List UInt8) → Option S28
  | [] => some x
  | p :: ps => match stepV x p with
    | some y => walkV y ps
    | none => none
def findV (x : S28) (l : List UInt8) : Option S28 × Int := match parseP l with
  | none => (none, 70)
  | some ws => match walkV x ws with
    | some y => (some y, 0)
    | none => (none, 71)
/-- what Find tells -/
def Told (o : Option S28 × Int) (w0 w : World) (e : Ending) (w' : World) : Prop :=
  ∃ v5 v6, e = .returned (.tuple #[.agg (vcs (o.1.getD z28) v5 v6).toArray, .int .i64 o.2]) ∧ VK w0 (o.1.getD z28) v5 v6 ∧ Below w.heap.size w w'
theorem cell_aside (w : World) (a : Addr) (v : Value) (b o : Nat) (h : b ≠ a.block) : (w.setCell a v).cell? ⟨b, o, none⟩ = w.cell? ⟨b, o, none⟩ := by
  unfold World.cell?
  rw [heap_aside _ _ _ _ h]
def zcs : List Value := [.int .i64 0, .bool false, .string ⟨#[]⟩, .int .i64 0, .string ⟨#[]⟩, .slice none 0 0, .slice none 0 0]

set_option maxRecDepth 100000 in
set_option maxHeartbeats 4000000 in
theorem find_l (x : S28) (v5 v6 : Value) (l : List UInt8) (hl : l.length ≤ 67108864) (w0 w : World) (hx : VK w0 x v5 v6) (h0 : Below w0.heap.size w0 w) (he : EnvV w) (hok : OkT x) :
    Calls Tryd.prog 12 #[.agg (vcs x v5 v6).toArray, .string (str l)] w (Told (findV x l) w0 w) := by
  have hb0 : ∀ a b : Obj, Below w.heap.size w ((w.alloc a).alloc b) := fun a b => ((Below.refl _ _).alloc (Nat.le_refl _) _).alloc (by simp) _
  have HP := Lib.hid (fun a b : Obj => parse_l l hl ((w.alloc a).alloc b) (he.call (hb0 a b)).2.1)
  have HE := Lib.hid he
  have HX := Lib.hid hx
  have HB0 := Lib.hid hb0
  have HOK := Lib.hid hok
  have H0 := Lib.hid h0
  have hz0 := h0.size
  have he8 := he.1
  have HF : Hid (findV x l = match parseP l with
    | none => (none, 70)
    | some ws => match walkV x ws with
      | some y => (some y, 0)
      | none => (none, 71)) := rfl
  obtain ⟨A5, c5, A6, c6, rfl, rfl⟩ := hx.open
  clear hx hb0 he h0 hok
  generalize findV x l = F at *
  have HPL : Hid (∀ ws, parseP l = some ws → ws.length ≤ 67108865 ∧ ∀ p, p ∈ ws → p.length ≤ 1073741824) := by
    intro ws h
    obtain ⟨h1, h2⟩ := parseP_len h
    exact ⟨by omega, fun p hp => by have := h2 p hp; omega⟩
  generalize hpp : parseP l = pp at *
  clear hpp
  show Calls Tryd.prog 12 #[.agg #[.int .i64 x.f0, .bool x.f1.f0, .string x.f1.f1, .int .i64 x.f1.f2, .string x.f2, .slice A5 x.f3.length c5, .slice A6 x.f4.length c6], .string (str l)] w _
  go_enter Tryd.func12, Tryd.ntmps12
  go_wp2_with fail
  refine (HP.out _ _).mono ?_
  rintro e w1 ⟨v, rfl, ht, hvb, hb⟩
  have hz := hb.size
  simp only [World.size_alloc] at hz
  have hk := Blk.call (Blk.new (w.alloc _) zcs 28) hb
  have hk2 := Blk.call (Blk.alloc (Blk.new w [.int .i64 x.f0, .bool x.f1.f0, .string x.f1.f1, .int .i64 x.f1.f2, .string x.f2, .slice A5 x.f3.length c5, .slice A6 x.f4.length c6] 28) _) hb
  rw [World.size_alloc] at hk
  have HB1 := Lib.hid ((HB0.out _ _).trans (hb.mono (by simp; omega)))
  have HK := Lib.hid hk
  have HK2 := Lib.hid hk2
  have HE1 := Lib.hid (HE.out.call HB1.out)
  clear hb hk hk2
  cases pp with
  | none =>
    obtain ⟨⟨a0, a1, a2, a3, a4, a5, a6⟩, ⟨f0, f1, f2, f3, f4, f5, f6⟩, hs⟩ := HK.out.seven
    obtain ⟨va, vc, rfl, -⟩ := ht.form
    clear ht HPL
    go_wp2_with fail
    refine bodyPost_ret (v := .tuple #[.agg (vcs z28 (.slice none 0 0) (.slice none 0 0)).toArray, .int .i64 70]) (by simp [results, Tryd.results12, go_sem, vcs, z28, z24, a0, a1, a2, a3, a4, a5, a6, hs]) rfl ?_
    rw [HF.out]
    refine ⟨_, _, rfl, VK.zero _, ?_⟩
    repeat (first | (with_reducible exact HB1.out) | (with_reducible refine Below.setCell ?_ ?_ _))
    all_goals (show _ ≤ w.heap.size + 1; omega)
  | some ws =>
    obtain ⟨hw1, hw2⟩ := HPL.out ws rfl
    have ht' : Txts w1 v ws := ht
    obtain ⟨va, vc, rfl, hcells⟩ := ht'.form
    have HC := Lib.hid hcells
    clear ht ht' hcells HPL
    go_wp2_with fail
    have HW2 := Lib.hid hw2
    clear hw2
    have HF' : Hid (F = match walkV x ws with | some y => (some y, 0) | none => (none, 71)) := HF.out
    clear HF
    go_loopw [23] (fun i wr => ∃ (k : Nat) (y : S28) (u5 u6 : Value), k ≤ ws.length ∧ i = .int .i64 k ∧ Hid (walkV x ws = walkV y (ws.drop k)) ∧ Hid (OkT y) ∧ Hid (VK w0 y u5 u6) ∧ Hid (Blk wr w.heap.size (vcs y u5 u6) 28) ∧ Hid (Blk wr (w.heap.size + 1) zcs 28) ∧ Hid (Below w.heap.size w wr) ∧ Hid (∀ b o, b < w1.heap.size → b ≠ w.heap.size → wr.cell? ⟨b, o, none⟩ = w1.cell? ⟨b, o, none⟩) ∧ w1.heap.size ≤ wr.heap.size) (fun i _ => ws.length - (intOf i).toNat)
    case atStart => exact ⟨0, x, _, _, Nat.zero_le _, rfl, rfl, HOK.out, HX.out, HK2.out, HK.out, HB1.out, fun _ _ _ _ => rfl, Nat.le_refl _⟩
    case round =>
      obtain ⟨k, y, u5, u6, hk, rfl, HWk, HOy, HVy, HY, HZ, HB, HCR, hzr⟩ := hrel
      obtain ⟨B5, d5, B6, d6, rfl, rfl⟩ := HVy.out.open
      obtain ⟨⟨a0, a1, a2, a3, a4, a5, a6⟩, ⟨f0, f1, f2, f3, f4, f5, f6⟩, hs⟩ := HZ.out.seven
      obtain ⟨⟨b0, b1, b2, b3, b4, b5, b6⟩, -, -⟩ := HY.out.seven
      by_cases hlt : k < ws.length
      · obtain ⟨b, off, rfl, hbl, hcs⟩ := HC.out (by omega)
        have hcell : wr.cell? ⟨b, off + k, none⟩ = some (.string (str ws[k])) := by
          have hge := hvb _ _ _ rfl
          rw [HCR.out b _ hbl (by simp only [World.size_alloc] at hge; show b ≠ w.heap.size; omega)]
          exact hcs k hlt
        have hplen := HW2.out ws[k] (List.getElem_mem hlt)
        have HS := Lib.hid (step_l y _ _ ws[k] hplen w0 wr HVy.out (H0.out.trans (HB.out.mono hz0)) (HE.out.call HB.out) HOy.out.keys)
        have HWk2 : Hid (walkV x ws = match stepV y ws[k] with | some z => walkV z (ws.drop (k + 1)) | none => none) := by
          unfold Hid
          rw [HWk.out, List.drop_eq_getElem_cons hlt]
          rfl
        have HM : Hid (∀ z, stepV y ws[k] = some z → OkT z) := fun z hz => HOy.out.sub (stepV_mem HOy.out.keys hz)
        clear hplen hcs
        generalize ws[k] = p at *
        generalize stepV y p = o at *
        go_wp2_with fail
        refine HS.out.mono ?_
        rintro e w2 ⟨e5, e6, rfl, hV, hb2⟩
        obtain ⟨D5, g5, D6, g6, rfl, rfl⟩ := hV.open
        have hz2 := hb2.size
        have HV2 := Lib.hid hV
        have HY2 := Lib.hid (HY.out.call hb2)
        have HZ2 := Lib.hid (HZ.out.call hb2)
        have HB2 := Lib.hid (HB.out.trans (hb2.mono HB.out.size))
        have HCR2 : Hid (∀ b o, b < w1.heap.size → b ≠ w.heap.size → w2.cell? ⟨b, o, none⟩ = w1.cell? ⟨b, o, none⟩) := fun b o h1 h2 => (hb2.cell (p := ⟨b, o, none⟩) (by show b < _; omega)).trans (HCR.out b o h1 h2)
        obtain ⟨⟨q0, q1, q2, q3, q4, q5, q6⟩, ⟨r0, r1, r2, r3, r4, r5, r6⟩, hs2⟩ := HZ2.out.seven
        obtain ⟨⟨t0, t1, t2, t3, t4, t5, t6⟩, ⟨v0, v1, v2, v3, v4, v5, v6⟩, hs3⟩ := HY2.out.seven
        have hlt1 : w.heap.size < w2.heap.size := by omega
        have hlt2 : w.heap.size + 1 < w2.heap.size := by omega
        clear hb2 hV a0 a1 a2 a3 a4 a5 a6 f0 f1 f2 f3 f4 f5 f6 hs b0 b1 b2 b3 b4 b5 b6
        cases o with
        | none =>
          have HN : Hid (F = (none, 71)) := by
            unfold Hid
            rw [HF'.out, HWk2.out]
          clear HWk2 HM
          go_wp2_with fail
          refine bodyPost_ret (v := .tuple #[.agg (vcs z28 (.slice none 0 0) (.slice none 0 0)).toArray, .int .i64 71]) (by simp [results, Tryd.results12, go_sem, vcs, z28, z24, q0, q1, q2, q3, q4, q5, q6, hs2, hlt1, hlt2]) rfl ?_
          rw [HN.out]
          refine ⟨_, _, rfl, VK.zero _, ?_⟩
          repeat (first | (with_reducible exact HB2.out) | (with_reducible refine Below.setCell ?_ ?_ _) | (with_reducible refine Below.alloc ?_ ?_ _))
          all_goals first | (simp; done) | (simp; omega)
        | some z =>
          have HWz : Hid (walkV x ws = walkV z (ws.drop (k + 1))) := HWk2.out
          have HOz := Lib.hid (HM.out z rfl)
          clear HWk2 HM
          go_wp2_with fail
          go_roundw
          case measure => simp only [intOf]; omega
          case rel =>
            refine ⟨k + 1, z, _, _, by omega, by go_num, HWz.out, HOz.out, HV2.out, ?_, ?_, ?_, ?_, ?_⟩
            · exact ((((((((HY2.out.set 0 (.int .i64 z.f0)).set 1 (.bool z.f1.f0)).set 2 (.string z.f1.f1)).set 3 (.int .i64 z.f1.f2)).set 4 (.string z.f2)).set 5 (.slice D5 z.f3.length g5)).set 6 (.slice D6 z.f4.length g6)).alloc _).shut rfl
            · exact ((((((((HZ2.out.other _ (by simp)).other _ (by simp)).other _ (by simp)).other _ (by simp)).other _ (by simp)).other _ (by simp)).other _ (by simp)).alloc _)
            · refine Lib.hid ?_
              repeat (first | (with_reducible exact HB2.out) | (with_reducible refine Below.setCell ?_ ?_ _) | (with_reducible refine Below.alloc ?_ ?_ _))
              all_goals first | (simp; done) | (simp; omega)
            · intro b o h1 h2
              rw [World.cell?_alloc_lt _ _ _ (by simp; omega)]
              rw [cell_aside _ _ _ _ _ h2, cell_aside _ _ _ _ _ h2, cell_aside _ _ _ _ _ h2, cell_aside _ _ _ _ _ h2, cell_aside _ _ _ _ _ h2, cell_aside _ _ _ _ _ h2, cell_aside _ _ _ _ _ h2]
              exact HCR2.out b o h1 h2
            · simp; omega
      · obtain rfl : k = ws.length := by omega
        have HN : Hid (F = (some y, 0)) := by
          unfold Hid
          rw [HF'.out, HWk.out, List.drop_length]
          rfl
        go_wp2_with fail
        refine bodyPost_ret (v := .tuple #[.agg (vcs y (.slice B5 y.f3.length d5) (.slice B6 y.f4.length d6)).toArray, .int .i64 0]) (by simp [results, Tryd.results12, go_sem, vcs, a0, a1, a2, a3, a4, a5, a6, hs]) rfl ?_
        rw [HN.out]
        refine ⟨_, _, rfl, HVy.out, ?_⟩
        repeat (first | (with_reducible exact HB.out) | (with_reducible refine Below.setCell ?_ ?_ _))
        all_goals (show _ ≤ w.heap.size + 1; omega)
end Go.Proofs.YthicgeiljficbaaDoor

/- A slice of the call's own, grown by append: what else is there stays as it is. -/
namespace Go.Proofs.YthicgeiljficbaaDoor
open Go.RowKit
set_option linter.unusedSimpArgs false
set_option linter.unusedVariables false
set_option linter.unnecessarySimpa false

/-- from w, where a slice is v, to w', where it is v': but for the slice's row all is as it was; the row is the old one, or new -/
structure Fr (v v' : Value) (w w' : World) : Prop where
  os : w'.os = w.os
  tape : w'.tape = w.tape
  output : w'.output = w.output
  size : w.heap.size ≤ w'.heap.size
  keep : ∀ k, k < w.heap.size → v.ownBlock ≠ some k → w'.heap[k]? = w.heap[k]?
  own : ∀ k, v'.ownBlock = some k → v.ownBlock = some k ∨ w.heap.size ≤ k
theorem Fr.of_below {v : Value} {w w' : World} (h : Below w.heap.size w w') : Fr v v w w' := ⟨h.os, h.tape, h.output, h.size, fun k hk _ => h.block k hk, fun _ h => .inl h⟩
theorem Fr.refl (v : Value) (w : World) : Fr v v w w := .of_below (Below.refl _ _)
theorem Fr.trans {v1 v2 v3 : Value} {w1 w2 w3 : World} (h : Fr v1 v2 w1 w2) (k : Fr v2 v3 w2 w3) : Fr v1 v3 w1 w3 where
  os := k.os.trans h.os
  tape := k.tape.trans h.tape
  output := k.output.trans h.output
  size := Nat.le_trans h.size k.size
  keep i hi hne := (k.keep i (Nat.lt_of_lt_of_le hi h.size) (fun e => (h.own i e).elim hne (by omega))).trans (h.keep i hi hne)
  own i hi := by
    rcases k.own i hi with h2 | h2
    · exact h.own i h2
    · exact .inr (Nat.le_trans h.size h2)
theorem Fr.new (v : Value) (w : World) (W : World) (hb : Below W.heap.size W w) {n cap : Nat} {o : Obj} (hs : w.heap.size = W.heap.size := by rfl) : Fr v (.slice (some ⟨W.heap.size, 0, none⟩) n cap) W (w.alloc o) := by
  have hb2 : Below W.heap.size W (w.alloc o) := hb.alloc hb.size _
  exact ⟨hb2.os, hb2.tape, hb2.output, hb2.size, fun k hk _ => hb2.block k hk, fun k hk => .inr (by simp [Value.ownBlock] at hk; omega)⟩

section
variable {P : Program} (w : World)
theorem run_append_fr (B : Nat) (t ty e : TypeId) (i : TypeInfo) (z : Value) (size bytes : Nat) (ht : P.underlying t = some (.slice e)) (hi : P.info? e = some i) (hz : i.zero = some z)
    (hsize : i.size = size) (hby : i.bytes = bytes) (hzs : z.cells.size = size)
    (v : Value) (n : Nat) (xs : List Value) (hown : Row w B e size v n xs)
    (a : Addr) (m c : Nat) (news : List Value) (hl : news.length = m * size) (hnews : ∀ j u, news[j]? = some u → w.cell? (a.add j) = some u) (h1 : ∀ u ∈ news, u.oneCell' = true)
    (hm : 0 < m) (h63 : n + m ≤ maxLen) (hbytes : (n + m) * bytes ≤ 140737488355328) (hbase : B ≤ w.heap.size) :
    ∃ v' w', (Builtin.append_ #[t, t] ty #[v, .slice (some a) m c]).run P w = .ok v' w' ∧ Row w' B e size v' (n + m) (xs ++ news) ∧ Fr v v' w w' := by
  subst hsize
  subst hby
  have hsmall : n + m ≤ 9223372036854775807 := by simp only [maxLen] at h63; omega
  have hlen : (xs ++ news).length = (n + m) * i.size := by rw [List.length_append, hown.1, hl, Nat.add_mul]
  have grown : ∀ (old : Nat), old < n + m →
      Row (w.drew.alloc (.cells (xs.toArray ++ news.toArray ++ Builtin.zeroCells z.cells (grownCap w (n + m) old e - (n + m))) e)) B e i.size
        (.slice (some ⟨w.heap.size, 0, none⟩) (n + m) (grownCap w (n + m) old e)) (n + m) (xs ++ news) ∧
      Fr v (.slice (some ⟨w.heap.size, 0, none⟩) (n + m) (grownCap w (n + m) old e)) w (w.drew.alloc (.cells (xs.toArray ++ news.toArray ++ Builtin.zeroCells z.cells (grownCap w (n + m) old e - (n + m))) e)) := by
    intro old ho
    have hge := grownCap_ge w (n + m) old e
    refine ⟨⟨hlen, .inr ⟨w.heap.size, _, _, rfl, hbase, heap_alloc_new w.drew _, hge, ?_, ?_⟩⟩, Fr.new _ _ _ (Below.refl _ _).drew⟩
    · simp only [Array.size_append, List.size_toArray, size_zeroCells, hzs, hown.1, hl, ← Nat.add_mul]
      exact Nat.mul_le_mul_right _ (by omega)
    · simp only [Array.toList_append, List.append_assoc]
      rw [← List.append_assoc, ← hlen]
      exact List.take_left
  rcases hown.2 with ⟨rfl, rfl⟩ | ⟨g, cap, cur, rfl, hbg, hg, hnc, hcs, htake⟩
  · have hx : xs = [] := List.eq_nil_of_length_eq_zero (by simpa using hown.1)
    subst hx
    have hr := run_append_nil (P := P) w t ty e i z ht hi hz a m c news hl hnews (by omega) (by omega) (by have hb := hbytes; simp only [Nat.zero_add] at hb; omega)
    have hgr := grown 0 (by omega)
    simp only [Nat.zero_add, List.nil_append, Array.empty_append] at hgr ⊢
    exact ⟨_, _, hr, hgr.1, hgr.2⟩
  · by_cases hroom : n + m ≤ cap
    · have hfit : n * i.size + news.length ≤ cur.size := by rw [hl, ← Nat.add_mul]; exact Nat.le_trans (Nat.mul_le_mul_right _ hroom) hcs
      have hr := run_append_room (P := P) w t ty e i ht hi g n cap cur hg a m c news hl hnews h1 hroom hfit
      refine ⟨_, _, hr, ⟨hlen, .inr ⟨g, cap, _, rfl, hbg, setRow_heap w g cur _ e _ hg, hroom, ?_, ?_⟩⟩, ⟨rfl, rfl, rfl, by simp, fun k hk hne => setRow_other w g k _ (by rintro rfl; exact hne rfl), fun k hk => .inl hk⟩⟩
      · simp only [List.size_toArray, List.length_append, List.length_take, List.length_drop, Array.length_toList]
        omega
      · rw [htake, ← hlen]
        exact List.take_left
    · have holds : ∀ j u, xs[j]? = some u → w.cell? ((⟨g, 0, none⟩ : Addr).add j) = some u := by
        intro j u hj
        have hjl : j < xs.length := (List.getElem?_eq_some_iff.1 hj).1
        rw [hown.1] at hjl
        rw [← htake] at hj
        rw [List.getElem?_take, if_pos hjl] at hj
        have ea : (⟨g, 0, none⟩ : Addr).add j = ⟨g, j, none⟩ := by cases j <;> simp [Addr.add]
        rw [ea]
        simp only [World.cell?, hg]
        simpa using hj
      have hr := run_append_grow (P := P) w t ty e i z ht hi hz ⟨g, 0, none⟩ n cap xs hown.1 holds a m c news hl hnews (by omega) (by omega) (growslice_fits (by omega) hbytes)
      have hgr := grown cap (by omega)
      exact ⟨_, _, hr, hgr.1, hgr.2⟩

theorem wpList_append_fr {ops : Array Oper} {rest : List Oper} {o : Oper} {a : Act} {Q : Exit → Act → World → Prop} (hgd : o.guard = none) (s x : Operand) (t : TypeId)
    (ho : o.op = .call { callee := .builtin .append, args := #[s, x], argTypes := #[t, t] })
    (B : Nat) (e : TypeId) (i : TypeInfo) (z : Value) (size bytes : Nat) (ht : P.underlying t = some (.slice e)) (hi : P.info? e = some i) (hz : i.zero = some z)
    (hsize : i.size = size) (hby : i.bytes = bytes) (hzs : z.cells.size = size)
    (v : Value) (n : Nat) (xs : List Value) (hs : a.eval s = v) (hown : Row w B e size v n xs)
    (ad : Addr) (m c : Nat) (news : List Value) (hx : a.eval x = .slice (some ad) m c) (hl : news.length = m * size) (hnews : ∀ j u, news[j]? = some u → w.cell? (ad.add j) = some u) (h1 : ∀ u ∈ news, u.oneCell' = true)
    (hm : 0 < m) (h63 : n + m ≤ maxLen) (hbytes : (n + m) * bytes ≤ 140737488355328) (hbase : B ≤ w.heap.size)
    (h : ∀ v' w', Row w' B e size v' (n + m) (xs ++ news) → Fr v v' w w' → wpList P ops Q rest (a.put o.dst v') w') : wpList P ops Q (o :: rest) a w :=
  wpList_plain hgd fun _ hK => by
    obtain ⟨v', w', hr, h2, h3⟩ := run_append_fr (P := P) w B t o.type e i z size bytes ht hi hz hsize hby hzs v n xs hown ad m c news hl hnews h1 hm h63 hbytes hbase
    unfold Oper.wp execOp
    simp only [ho, resolve, invoke, builtin, Sem.run_bind, Sem.run_pure, Result.andThen_ok, List.map_toArray, List.map_cons, List.map_nil, hs, hx, hr]
    exact hK _ _ (h v' w' h2 h3)
end
end Go.Proofs.YthicgeiljficbaaDoor

/- pointer.All over values that are read as trees. -/
namespace Go.Proofs.YthicgeiljficbaaDoor
open Go.RowKit Go.Proofs.YthicgeiljficbaaDoor.Ref Go.Proofs.YthicgeiljficbaaDoorW.PrintWords Go.Proofs.YthicgeiljficbaaDoorW.PrintLast
set_option linter.unusedSimpArgs false
set_option linter.unusedVariables false
set_option linter.unnecessarySimpa false
attribute [local go_sem] vcs

/-- how a member or an element is named -/
def nameP (k : Int) (ks : List ByteArray) (i : Nat) : List UInt8 := if k = 6 then (ks.getD i ByteArray.empty).data.toList else Lib.itoa i
mutual
/-- all pointers from here on -/
def allP (at_ : List UInt8) : S28 → List (List UInt8)
  | ⟨k, _, _, l, ks⟩ => at_ :: allL at_ k ks 0 l
def allL (at_ : List UInt8) (k : Int) (ks : List ByteArray) (i : Nat) : List S28 → List (List UInt8)
  | [] => []
  | y :: ys => allP (at_ ++ escPart (nameP k ks i)) y ++ allL at_ k ks (i + 1) ys
end
theorem allP_eq (a : List UInt8) (x : S28) : allP a x = a :: allL a x.f0 x.f4 0 x.f3 := by cases x; rw [allP]
theorem allL_drop (a : List UInt8) (k : Int) (ks : List ByteArray) (l : List S28) (i : Nat) (h : i < l.length) :
    allL a k ks i (l.drop i) = allP (a ++ escPart (nameP k ks i)) (l.getD i z28) ++ allL a k ks (i + 1) (l.drop (i + 1)) := by
  rw [List.drop_eq_getElem_cons h, allL]
  simp [List.getD, h]
theorem mem_allL {a : List UInt8} {k : Int} {ks : List ByteArray} {l : List S28} {i : Nat} (h : i < l.length) {p : List UInt8} (hp : p ∈ allP (a ++ escPart (nameP k ks i)) (l.getD i z28)) : p ∈ allL a k ks 0 l := by
  have : ∀ (j : Nat) (l2 : List S28) (n : Nat), n < l2.length → p ∈ allP (a ++ escPart (nameP k ks (j + n))) (l2.getD n z28) → p ∈ allL a k ks j l2 := by
    intro j l2
    induction l2 generalizing j with
    | nil => intro n hn; simp at hn
    | cons y ys ih =>
      intro n hn hm
      rw [allL]
      cases n with
      | zero => exact List.mem_append.2 (.inl (by simpa using hm))
      | succ n =>
        refine List.mem_append.2 (.inr (ih (j + 1) n (by simpa using hn) ?_))
        have e : j + 1 + n = j + (n + 1) := by omega
        rw [e]
        simpa using hm
  exact this 0 l i h (by simpa using hp)
theorem self_mem (a : List UInt8) (x : S28) : a ∈ allP a x := by rw [allP_eq]; simp

theorem rep_ge (c : UInt8) (new l : List UInt8) (h : 1 ≤ new.length) : l.length ≤ (rep c new l).length := by
  induction l with
  | nil => simp
  | cons b l ih =>
    have e : rep c new (b :: l) = (if b = c then new else [b]) ++ rep c new l := rfl
    rw [e, List.length_append, List.length_cons]
    split
    · omega
    · simp only [List.length_cons, List.length_nil]; omega
theorem escPart_ge (l : List UInt8) : l.length ≤ (escPart l).length := by
  have h1 := rep_ge 126 [126, 48] l (by decide)
  have h2 := rep_ge 47 [126, 49] (rep 126 [126, 48] l) (by decide)
  unfold escPart
  rw [List.length_cons]
  omega
/-- likewise, but for block Bo, where the slice's own variable lies -/
structure FrB (Bo : Nat) (v v' : Value) (w w' : World) : Prop where
  os : w'.os = w.os
  tape : w'.tape = w.tape
  output : w'.output = w.output
  size : w.heap.size ≤ w'.heap.size
  keep : ∀ k, k < w.heap.size → k ≠ Bo → v.ownBlock ≠ some k → w'.heap[k]? = w.heap[k]?
  own : ∀ k, v'.ownBlock = some k → v.ownBlock = some k ∨ w.heap.size ≤ k
theorem Fr.frB {v v' : Value} {w w' : World} (h : Fr v v' w w') (Bo : Nat) : FrB Bo v v' w w' := ⟨h.os, h.tape, h.output, h.size, fun k hk _ hne => h.keep k hk hne, h.own⟩
theorem FrB.of_below {Bo : Nat} {v : Value} {w w' : World} (h : Below w.heap.size w w') : FrB Bo v v w w' := (Fr.of_below h).frB Bo
theorem FrB.trans {Bo : Nat} {v1 v2 v3 : Value} {w1 w2 w3 : World} (h : FrB Bo v1 v2 w1 w2) (k : FrB Bo v2 v3 w2 w3) : FrB Bo v1 v3 w1 w3 where
  os := k.os.trans h.os
  tape := k.tape.trans h.tape
  output := k.output.trans h.output
  size := Nat.le_trans h.size k.size
  keep i hi hb hne := (k.keep i (Nat.lt_of_lt_of_le hi h.size) hb (fun e => (h.own i e).elim hne (by omega))).trans (h.keep i hi hb hne)
  own i hi := by
    rcases k.own i hi with h2 | h2
    · exact h.own i h2
    · exact .inr (Nat.le_trans h.size h2)
theorem FrB.set {Bo : Nat} {v v' : Value} {w w' : World} (h : FrB Bo v v' w w') (u : Value) (o : Nat) : FrB Bo v v' w (w'.setCell ⟨Bo, o, none⟩ u) :=
  ⟨h.os, h.tape, h.output, by simpa using h.size, fun k hk hb hne => (heap_aside _ _ _ _ hb).trans (h.keep k hk hb hne), h.own⟩
theorem FrB.blk {Bo b : Nat} {v v' : Value} {w w' : World} {cs : List Value} {T : TypeId} (h : FrB Bo v v' w w') (hk : Blk w b cs T) (hb : b ≠ Bo) (hv : v.ownBlock ≠ some b) : Blk w' b cs T := (h.keep b hk.lt hb hv).trans hk
/-- what lies below a block B stays, if the slice's variable and its row lie from B on -/
theorem FrB.below {Bo B : Nat} {v v' : Value} {w w' : World} (h : FrB Bo v v' w w') (hB : B ≤ Bo) (hv : ∀ k, v.ownBlock = some k → B ≤ k) (hs : B ≤ w.heap.size) : Below B w w' :=
  ⟨h.os, h.tape, h.output, h.size, fun k hk => h.keep k (by omega) (by omega) (fun e => by have := hv k e; omega)⟩
theorem Row.own_ne {w : World} {B b : Nat} {e T : TypeId} {size n : Nat} {v : Value} {xs cs : List Value} (h : Row w B e size v n xs) (hk : Blk w b cs T) (hT : e ≠ T) : v.ownBlock ≠ some b := by
  rcases h.2 with ⟨rfl, -⟩ | ⟨g, cap, cur, rfl, -, hh, -⟩
  · simp [Value.ownBlock]
  · intro hb
    simp only [Value.ownBlock, Option.some.injEq] at hb
    subst hb
    unfold Blk at hk
    rw [hh] at hk
    injection hk with hk
    injection hk with _ h2 _
    exact hT h2
theorem Row.base {w : World} {B : Nat} {e : TypeId} {size n : Nat} {v : Value} {xs : List Value} (h : Row w B e size v n xs) : ∀ k, v.ownBlock = some k → B ≤ k := by
  intro k hk
  rcases h.2 with ⟨rfl, -⟩ | ⟨g, cap, cur, rfl, hg, -⟩
  · simp [Value.ownBlock] at hk
  · simp only [Value.ownBlock, Option.some.injEq] at hk
    omega

/-- a store into a block of another type -/
theorem Row.aside' {w : World} {B b : Nat} {e T : TypeId} {size n : Nat} {v : Value} {xs cs : List Value} (h : Row w B e size v n xs) (o : Nat) (x : Value) {w' : World} (hk : Blk w' b cs T) (hT : e ≠ T) (hw : w' = w.setCell ⟨b, o, none⟩ x := by rfl) : Row w' B e size v n xs := by
  subst hw
  refine ⟨h.1, h.2.imp id ?_⟩
  rintro ⟨g, cap, cur, hv, hg, hh, h3⟩
  refine ⟨g, cap, cur, hv, hg, (heap_aside w ⟨b, o, none⟩ x g ?_).trans hh, h3⟩
  rintro rfl
  unfold Blk at hk
  simp only [World.setCell, Array.getElem?_modify] at hk
  rw [if_pos trivial, hh] at hk
  simp only [Option.map_some, Option.some.injEq] at hk
  injection hk with _ h2 _
  exact hT h2
def fnW (Bo Bw : Nat) : Value := .func (.func 32) #[] #[.pointer (some ⟨Bo, 0, none⟩), .pointer (some ⟨Bw, 0, none⟩)]
/-- what a walk does: the pointers are put behind those that were there -/
def Walked (B Bo : Nat) (v : Value) (xs : List (List UInt8)) (w : World) (e : Ending) (w' : World) : Prop :=
  e = .returned (.tuple #[]) ∧ ∃ v', Blk w' Bo [v'] 26 ∧ Row w' B 9 1 v' xs.length (strs xs) ∧ FrB Bo v v' w w'

set_option maxRecDepth 100000 in
set_option maxHeartbeats 1000000 in
theorem walk_l (w0 : World) (B Bo Bw : Nat) (hB0 : w0.heap.size ≤ B) (hBo0 : w0.heap.size ≤ Bo) (hBw0 : w0.heap.size ≤ Bw) (hne : Bw ≠ Bo) (h8 : 8 ≤ w0.heap.size) (x : S28) (hx : OkT x) :
    ∀ (a : List UInt8) (v5 v6 v : Value) (xs : List (List UInt8)) (w : World), VK w0 x v5 v6 → Below w0.heap.size w0 w → EnvV w → Blk w Bo [v] 26 → Blk w Bw [fnW Bo Bw] 63 → Row w B 9 1 v xs.length (strs xs) → B ≤ w.heap.size →
      (∀ p, p ∈ allP a x → p.length ≤ 268435456) → xs.length + (allP a x).length ≤ 1099511627776 →
      Calls Tryd.prog 32 #[.string (str a), .agg (vcs x v5 v6).toArray, .pointer (some ⟨Bo, 0, none⟩), .pointer (some ⟨Bw, 0, none⟩)] w (Walked B Bo v (xs ++ allP a x) w) := by
  induction hx with
  | mk x h1 h2 ih =>
  intro a v5 v6 v xs w hx h0 he ho hw hr hB hlen hcnt
  obtain ⟨i0, hi, hy0, hy1, hy2⟩ := info_parts info_str
  obtain ⟨va, vcap, rfl, hvc⟩ := hr.shape
  have hrl : (strs xs).length = xs.length := strs_length xs
  have HO := Lib.hid ho
  have HW := Lib.hid hw
  have HR := Lib.hid hr
  have HE := Lib.hid he
  have H0 := Lib.hid h0
  have HX := Lib.hid hx
  have IH := Lib.hid ih
  have H1 := Lib.hid h1
  have HL := Lib.hid hlen
  have hcell := ho.cell 0
  simp only [List.getElem?_cons_zero] at hcell
  have hlo := ho.lt
  have hne1 : (Value.slice va xs.length vcap).ownBlock ≠ some Bo := hr.own_ne ho (by decide)
  have hne2 : (Value.slice va xs.length vcap).ownBlock ≠ some Bw := hr.own_ne hw (by decide)
  obtain ⟨A5, c5, A6, c6, rfl, rfl⟩ := hx.open
  have HXS : Hid (xs ++ allP a x = (xs ++ [a]) ++ allL a x.f0 x.f4 0 x.f3) := by
    unfold Hid
    rw [allP_eq]
    simp
  have hn1 : xs.length + 1 ≤ 1099511627776 := by
    rw [allP_eq] at hcnt
    simp only [List.length_cons] at hcnt
    omega
  have HCN := Lib.hid hcnt
  clear hx h0 he ho hw hr ih h1 h2 hlen hcnt
  show Calls Tryd.prog 32 #[.string (str a), .agg #[.int .i64 x.f0, .bool x.f1.f0, .string x.f1.f1, .int .i64 x.f1.f2, .string x.f2, .slice A5 x.f3.length c5, .slice A6 x.f4.length c6], .pointer (some ⟨Bo, 0, none⟩), .pointer (some ⟨Bw, 0, none⟩)] w _
  go_enter Tryd.func32, Tryd.ntmps32
  go_wp2_with (at_builtin; refine wpList_append_fr _ rfl _ _ 26 rfl B 9 i0 (.string ⟨#[]⟩) 1 16 Tryd.underlying26 hi hy0 hy1 hy2 rfl _ _ _ rfl ((HR.out.alloc _).alloc _) ⟨w.heap.size + 1, 0, none⟩ 1 1 [.string (str a)] rfl rfl ?c1 ?c2 (by decide) ?c3 ?c4 ?c5 ?c6)
  case c1 => intro j u h; have := cell_one_new (w.alloc (boxed x (.slice A5 x.f3.length c5) (.slice A6 x.f4.length c6))) (.string (str a)) 9 j u h; rw [World.size_alloc] at this; exact this
  case c2 => intro u hu; simp at hu; subst hu; rfl
  case c3 => unfold maxLen; omega
  case c4 => omega
  case c5 => simp; omega
  case c6 =>
    intro v1 w1 hr1 hf1
    obtain ⟨va1, cap1, rfl, -⟩ := hr1.shape
    have hz1 := hf1.size
    simp only [World.size_alloc] at hz1
    have hbx : Blk ((w.alloc (boxed x (.slice A5 x.f3.length c5) (.slice A6 x.f4.length c6))).alloc (.cells #[.string (str a)] 9)) w.heap.size (vcs x (.slice A5 x.f3.length c5) (.slice A6 x.f4.length c6)) 28 := (Blk.new w (vcs x (.slice A5 x.f3.length c5) (.slice A6 x.f4.length c6)) 28).alloc _
    have hrow2 := (HR.out.alloc (boxed x (.slice A5 x.f3.length c5) (.slice A6 x.f4.length c6))).alloc (.cells #[.string (str a)] 9)
    have hne5 := hrow2.own_ne hbx (by decide)
    have hF1 := ((FrB.of_below (Bo := Bo) (v := .slice va xs.length vcap) (((Below.refl w.heap.size w).alloc (Nat.le_refl _) (boxed x (.slice A5 x.f3.length c5) (.slice A6 x.f4.length c6))).alloc (by simp) (.cells #[.string (str a)] 9)))).trans (hf1.frB Bo)
    have hX1 := (hf1.frB Bo).blk hbx (by omega) hne5
    have hO1 : Blk w1 Bo [.slice va xs.length vcap] 26 := (hf1.keep Bo (by simp; omega) hne1).trans ((HO.out.alloc _).alloc _)
    have hW1 : Blk w1 Bw [fnW Bo Bw] 63 := (hf1.keep Bw (by have := HW.out.lt; simp; omega) hne2).trans ((HW.out.alloc _).alloc _)
    have hX2 : Blk (w1.setCell ⟨Bo, 0, none⟩ (.slice va1 (xs.length + 1) cap1)) w.heap.size (vcs x (.slice A5 x.f3.length c5) (.slice A6 x.f4.length c6)) 28 := hX1.other _ (by show w.heap.size ≠ Bo; omega)
    have hO2 := hO1.set 0 (.slice va1 (xs.length + 1) cap1)
    have hW2 : Blk (w1.setCell ⟨Bo, 0, none⟩ (.slice va1 (xs.length + 1) cap1)) Bw [fnW Bo Bw] 63 := hW1.other _ hne
    have hF2 := hF1.set (.slice va1 (xs.length + 1) cap1) 0
    have hoc := hO1.cell 0
    have hof := hO1.froz 0
    have hos := hO1.shape
    simp only [List.getElem?_cons_zero] at hoc
    have hx5 := hX2.cell 5
    have hx5 : (w1.setCell ⟨Bo, 0, none⟩ (.slice va1 (xs.length + 1) cap1)).cell? ⟨w.heap.size, 5, none⟩ = some (.slice A5 x.f3.length c5) := hx5
    have HF2 := Lib.hid hF2
    have HO2 := Lib.hid hO2
    have HW2 := Lib.hid hW2
    have HX2 := Lib.hid hX2
    have HR1 := Lib.hid hr1
    clear hr1 hf1 hbx hrow2 hne5 hF1 hX1 hO1 hW1 hX2 hO2 hW2 hF2
    go_wp2_with fail
    go_loopw [16] (fun i wr => ∃ (k : Nat) (done : List (List UInt8)) (v' : Value), k ≤ x.f3.length ∧ i = .int .i64 k ∧ Hid (xs ++ allP a x = done ++ allL a x.f0 x.f4 k (x.f3.drop k)) ∧ Hid (Blk wr Bo [v'] 26) ∧ Hid (Blk wr Bw [fnW Bo Bw] 63) ∧ Hid (Blk wr w.heap.size (vcs x (.slice A5 x.f3.length c5) (.slice A6 x.f4.length c6)) 28) ∧ Hid (Row wr B 9 1 v' done.length (strs done)) ∧ Hid (FrB Bo (.slice va xs.length vcap) v' w wr)) (fun i _ => x.f3.length - (intOf i).toNat)
    case atStart => exact ⟨0, xs ++ [a], _, Nat.zero_le _, rfl, HXS.out, HO2.out, HW2.out, HX2.out, by rw [strs_append, List.length_append]; exact HR1.out.aside' _ _ HO2.out (by decide), HF2.out⟩
    case round =>
      obtain ⟨k, done, v', hk, rfl, HD, HOr, HWr, HXr, HRr, HFr⟩ := hrel
      have hzr := HFr.out.size
      have hBoL : Bo < wr.heap.size := HOr.out.lt
      by_cases hlt : k < x.f3.length
      · have hbw := HFr.out.below hBo0 (fun j hj => Nat.le_trans hB0 (HR.out.base j hj)) (by omega)
        have hbr := H0.out.trans hbw
        have HEr := Lib.hid (HE.out.below hbw h8)
        obtain ⟨A5', c5', A6', c6', e5, e6, hl5, hC5, hl6, hC6⟩ := HX.out
        cases e5
        cases e6
        obtain ⟨b, off, rfl, hbl, hv⟩ := C_vals hC5 (by omega)
        obtain ⟨u5, u6, hK, hcells⟩ := hv k hlt
        have k0 := (hbr.cell (p := ⟨b, off + k * 7, none⟩) hbl).trans (hcells 0 _ rfl)
        have k1 := (hbr.cell (p := ⟨b, off + k * 7 + 1, none⟩) hbl).trans (hcells 1 _ rfl)
        have k2 := (hbr.cell (p := ⟨b, off + k * 7 + 2, none⟩) hbl).trans (hcells 2 _ rfl)
        have k3 := (hbr.cell (p := ⟨b, off + k * 7 + 3, none⟩) hbl).trans (hcells 3 _ rfl)
        have k4 := (hbr.cell (p := ⟨b, off + k * 7 + 4, none⟩) hbl).trans (hcells 4 _ rfl)
        have k5 := (hbr.cell (p := ⟨b, off + k * 7 + 5, none⟩) hbl).trans (hcells 5 _ rfl)
        have k6 := (hbr.cell (p := ⟨b, off + k * 7 + 6, none⟩) hbl).trans (hcells 6 _ rfl)
        have hmem : x.f3.getD k z28 ∈ x.f3 := by simp [List.getD, hlt]
        have hmx : x.f3.length ≤ 9223372036854775807 := hC5.2.1
        have hdr := allL_drop a x.f0 x.f4 x.f3 k hlt
        have hsub : ∀ q, q ∈ allP (a ++ escPart (nameP x.f0 x.f4 k)) (x.f3.getD k z28) → q.length ≤ 268435456 := fun q hq => HL.out q (by rw [allP_eq]; exact List.mem_cons_of_mem _ (mem_allL hlt hq))
        have hself := hsub _ (self_mem _ _)
        have hge := escPart_ge (nameP x.f0 x.f4 k)
        rw [List.length_append] at hself
        have hlen2 := congrArg List.length HD.out
        rw [hdr] at hlen2
        simp only [List.length_append] at hlen2
        have hcn := HCN.out
        have IHy := IH.out _ hmem (a ++ escPart (nameP x.f0 x.f4 k)) u5 u6 v' done
        have HDn : Hid (xs ++ allP a x = (done ++ allP (a ++ escPart (nameP x.f0 x.f4 k)) (x.f3.getD k z28)) ++ allL a x.f0 x.f4 (k + 1) (x.f3.drop (k + 1))) := by
          unfold Hid
          rw [HD.out, hdr, List.append_assoc]
        have HREC : Hid (∀ W, Below wr.heap.size wr W → Calls Tryd.prog 32 #[.string (str (a ++ escPart (nameP x.f0 x.f4 k))), .agg (vcs (x.f3.getD k z28) u5 u6).toArray, .pointer (some ⟨Bo, 0, none⟩), .pointer (some ⟨Bw, 0, none⟩)] W (Walked B Bo v' (done ++ allP (a ++ escPart (nameP x.f0 x.f4 k)) (x.f3.getD k z28)) W)) := by
          intro W hW
          refine IHy W hK (hbr.trans (hW.mono (by omega))) (HEr.out.call hW) (HOr.out.call hW) (HWr.out.call hW) (HRr.out.call hW) (by have := hW.size; omega) hsub ?_
          omega
        clear IHy hsub hdr hlen2 hcn hcells hv hbr hbw
        have HCK : Hid (x.f0 = 6 → ∃ b6 o6, A6 = some ⟨b6, o6, none⟩ ∧ b6 < w0.heap.size ∧ x.f4.length = x.f3.length ∧ w0.cell? ⟨b6, o6 + k, none⟩ = some (.string (str (nameP x.f0 x.f4 k)))) := by
          intro h6
          have hs := H1.out h6
          obtain ⟨b6, o6, hA, hb6, hc⟩ := C_strs hC6 (by omega)
          refine ⟨b6, o6, hA, hb6, hs, ?_⟩
          rw [hc k (by omega), nameP, if_pos h6, str_self]
        have HNK : Hid (x.f0 ≠ 6 → nameP x.f0 x.f4 k = Lib.itoa k) := fun h6 => by rw [nameP, if_neg h6]
        clear hC5 hC6
        have HI := Lib.hid (fun o : Obj => itoa_l k (by omega) (by omega) (wr.alloc o) (HEr.out.call ((Below.refl _ _).alloc (Nat.le_refl _) _)))
        obtain ⟨B5, d5, B6, d6, rfl, rfl⟩ := hK.open
        have HKy := Lib.hid hK
        clear hK
        generalize nameP x.f0 x.f4 k = p at *
        generalize x.f3.getD k z28 = y at *
        go_wp2_with fail
        refine (HI.out _).mono ?_
        rintro e w4 ⟨rfl, hb4⟩
        have hz4 := hb4.size
        simp only [World.size_alloc] at hz4
        have HB4 := Lib.hid (((Below.refl wr.heap.size wr).alloc (Nat.le_refl _) _).trans (hb4.mono (by simp)))
        have hY4 := (Blk.new wr (vcs y (.slice B5 y.f3.length d5) (.slice B6 y.f4.length d6)) 28).call hb4
        have HY4 := Lib.hid hY4
        have hX4 := HXr.out.call HB4.out
        have x0 := hX4.cell 0
        have x6 := hX4.cell 6
        have x0 : w4.cell? ⟨w.heap.size, 0, none⟩ = some (.int .i64 x.f0) := x0
        have x6 : w4.cell? ⟨w.heap.size, 6, none⟩ = some (.slice A6 x.f4.length c6) := x6
        have fn4 : w4.cell? ⟨Bw, 0, none⟩ = some (.func (.func 32) #[] #[.pointer (some ⟨Bo, 0, none⟩), .pointer (some ⟨Bw, 0, none⟩)]) := (HWr.out.call HB4.out).cell 0
        obtain ⟨⟨y0, y1, y2, y3, y4, y5, y6⟩, -, -⟩ := hY4.seven
        have hz4' : wr.heap.size ≤ w4.drew.heap.size := by show wr.heap.size ≤ w4.heap.size; omega
        have hpl : p.length ≤ 268435456 := by omega
        have HPT : Hid (∀ W, Below wr.heap.size wr W → Calls Tryd.prog 33 #[.string (str p)] W (New (.string (str (escPart p))) W)) := fun W hW => part_l p hpl W (HEr.out.call hW).2.1
        have hadd : ∀ wx, (Op.stringOp .add (str a) (str (escPart p))).run Tryd.prog wx = .ok (.string (str (a ++ escPart p))) wx := fun wx => by rw [run_string_add_sum wx _ _ (by rw [str_size, str_size]; omega), str_append]
        have hal : a.length + (escPart p).length ≤ 9223372036854775807 := by omega
        have H04 : Hid (Below w0.heap.size w0 w4) := (H0.out.trans ((HFr.out.below hBo0 (fun j hj => Nat.le_trans hB0 (HR.out.base j hj)) (by omega)))).trans (HB4.out.mono (by omega))
        have hrt : Hid (∀ w6 v6, Blk w6 Bo [v6] 26 → FrB Bo v' v6 wr w6 → Blk w6 Bw [fnW Bo Bw] 63 ∧ Blk w6 w.heap.size (vcs x (.slice (some ⟨b, off, none⟩) x.f3.length c5) (.slice A6 x.f4.length c6)) 28) := fun w6 v6 _ hf => ⟨hf.blk HWr.out hne (HRr.out.own_ne HWr.out (by decide)), hf.blk HXr.out (by have := HOr.out.lt; omega) (HRr.out.own_ne HXr.out (by decide))⟩
        clear hb4 hY4 hX4 k0 k1 k2 k3 k4 k5 k6 hself hge hmem hpl
        by_cases h6 : x.f0 = 6
        · obtain ⟨b6, o6, rfl, hb6, hl6, hkc⟩ := HCK.out h6
          have hkc4 := (H04.out.cell (p := ⟨b6, o6 + k, none⟩) hb6).trans hkc
          have hk6 : k < x.f4.length := by omega
          have hmx6 : x.f4.length ≤ 9223372036854775807 := by omega
          have ht : (x.f0 == 6) = true := by simpa using h6
          clear hkc h6 hl6
          go_wp2_with fail
          go_region_held3 (fun w' => w'.cell? ⟨Bw, 0, none⟩ = some (.func (.func 32) #[] #[.pointer (some ⟨Bo, 0, none⟩), .pointer (some ⟨Bw, 0, none⟩)]) ∧ w'.cell? ⟨wr.heap.size, 0, none⟩ = some (.int .i64 y.f0) ∧ w'.cell? ⟨wr.heap.size, 1, none⟩ = some (.bool y.f1.f0) ∧ w'.cell? ⟨wr.heap.size, 2, none⟩ = some (.string y.f1.f1) ∧ w'.cell? ⟨wr.heap.size, 3, none⟩ = some (.int .i64 y.f1.f2) ∧ w'.cell? ⟨wr.heap.size, 4, none⟩ = some (.string y.f2) ∧ w'.cell? ⟨wr.heap.size, 5, none⟩ = some (.slice B5 y.f3.length d5) ∧ w'.cell? ⟨wr.heap.size, 6, none⟩ = some (.slice B6 y.f4.length d6)) (first | exact ⟨fn6, q0, q1, q2, q3, q4, q5, q6⟩ | exact ⟨fn5, z0, z1, z2, z3, z4, z5, z6⟩ | exact ⟨fn4, y0, y1, y2, y3, y4, y5, y6⟩) (first
            | (go_at_call 33; refine (HPT.out _ HB4.out.drew).mono ?_; rintro e w5 ⟨rfl, hb5⟩; have hz5 := hb5.size; have HB5 := Lib.hid (HB4.out.drew.trans (hb5.mono hz4')); have fn5 : w5.cell? ⟨Bw, 0, none⟩ = some (.func (.func 32) #[] #[.pointer (some ⟨Bo, 0, none⟩), .pointer (some ⟨Bw, 0, none⟩)]) := (HWr.out.call HB5.out).cell 0; have HY5 := Lib.hid (HY4.out.drew.call hb5); obtain ⟨⟨z0, z1, z2, z3, z4, z5, z6⟩, -, -⟩ := HY5.out.seven; clear hb5)
            | (go_at_call 32; refine (HREC.out _ HB5.out).mono ?_; rintro e w6 ⟨rfl, v6, ho6, hr6, hf6⟩; have HO6 := Lib.hid ho6; have HR6 := Lib.hid hr6; have HF6 := Lib.hid ((FrB.of_below HB5.out).trans hf6); have fn6 : w6.cell? ⟨Bw, 0, none⟩ = some (.func (.func 32) #[] #[.pointer (some ⟨Bo, 0, none⟩), .pointer (some ⟨Bw, 0, none⟩)]) := (HF6.out.blk HWr.out hne (HRr.out.own_ne HWr.out (by decide))).cell 0; obtain ⟨⟨q0, q1, q2, q3, q4, q5, q6⟩, -, -⟩ := (hf6.blk HY5.out (by omega) ((HRr.out.call HB5.out).own_ne HY5.out (by decide))).seven; clear ho6 hr6 hf6))
          go_wp2_with fail
          go_roundw
          case measure => simp only [intOf]; omega
          case rel => exact ⟨k + 1, _, v6, by omega, by go_num, HDn.out, HO6.out, (hrt.out _ _ HO6.out HF6.out).1, (hrt.out _ _ HO6.out HF6.out).2, HR6.out, HFr.out.trans HF6.out⟩
        · have ht : (x.f0 == 6) = false := by simpa using h6
          have hp := HNK.out h6
          subst hp
          clear h6
          go_wp2_with fail
          go_region_held3 (fun w' => w'.cell? ⟨Bw, 0, none⟩ = some (.func (.func 32) #[] #[.pointer (some ⟨Bo, 0, none⟩), .pointer (some ⟨Bw, 0, none⟩)]) ∧ w'.cell? ⟨wr.heap.size, 0, none⟩ = some (.int .i64 y.f0) ∧ w'.cell? ⟨wr.heap.size, 1, none⟩ = some (.bool y.f1.f0) ∧ w'.cell? ⟨wr.heap.size, 2, none⟩ = some (.string y.f1.f1) ∧ w'.cell? ⟨wr.heap.size, 3, none⟩ = some (.int .i64 y.f1.f2) ∧ w'.cell? ⟨wr.heap.size, 4, none⟩ = some (.string y.f2) ∧ w'.cell? ⟨wr.heap.size, 5, none⟩ = some (.slice B5 y.f3.length d5) ∧ w'.cell? ⟨wr.heap.size, 6, none⟩ = some (.slice B6 y.f4.length d6)) (first | exact ⟨fn6, q0, q1, q2, q3, q4, q5, q6⟩ | exact ⟨fn5, z0, z1, z2, z3, z4, z5, z6⟩ | exact ⟨fn4, y0, y1, y2, y3, y4, y5, y6⟩) (first
            | (go_at_call 33; refine (HPT.out _ HB4.out.drew).mono ?_; rintro e w5 ⟨rfl, hb5⟩; have hz5 := hb5.size; have HB5 := Lib.hid (HB4.out.drew.trans (hb5.mono hz4')); have fn5 : w5.cell? ⟨Bw, 0, none⟩ = some (.func (.func 32) #[] #[.pointer (some ⟨Bo, 0, none⟩), .pointer (some ⟨Bw, 0, none⟩)]) := (HWr.out.call HB5.out).cell 0; have HY5 := Lib.hid (HY4.out.drew.call hb5); obtain ⟨⟨z0, z1, z2, z3, z4, z5, z6⟩, -, -⟩ := HY5.out.seven; clear hb5)
            | (go_at_call 32; refine (HREC.out _ HB5.out).mono ?_; rintro e w6 ⟨rfl, v6, ho6, hr6, hf6⟩; have HO6 := Lib.hid ho6; have HR6 := Lib.hid hr6; have HF6 := Lib.hid ((FrB.of_below HB5.out).trans hf6); have fn6 : w6.cell? ⟨Bw, 0, none⟩ = some (.func (.func 32) #[] #[.pointer (some ⟨Bo, 0, none⟩), .pointer (some ⟨Bw, 0, none⟩)]) := (HF6.out.blk HWr.out hne (HRr.out.own_ne HWr.out (by decide))).cell 0; obtain ⟨⟨q0, q1, q2, q3, q4, q5, q6⟩, -, -⟩ := (hf6.blk HY5.out (by omega) ((HRr.out.call HB5.out).own_ne HY5.out (by decide))).seven; clear ho6 hr6 hf6))
          go_wp2_with fail
          go_roundw
          case measure => simp only [intOf]; omega
          case rel => exact ⟨k + 1, _, v6, by omega, by go_num, HDn.out, HO6.out, (hrt.out _ _ HO6.out HF6.out).1, (hrt.out _ _ HO6.out HF6.out).2, HR6.out, HFr.out.trans HF6.out⟩
      · obtain rfl : k = x.f3.length := by omega
        have HDf : Hid (xs ++ allP a x = done) := by
          unfold Hid
          rw [HD.out, List.drop_length, allL, List.append_nil]
        go_wp2_with fail
        refine bodyPost_ret (v := .tuple #[]) (by simp [results, Tryd.results32, go_sem]) rfl ?_
        refine ⟨rfl, v', HOr.out, ?_, HFr.out⟩
        rw [HDf.out]
        exact HRr.out
end Go.Proofs.YthicgeiljficbaaDoor

/- pointer.All: all pointers of a value. -/
namespace Go.Proofs.YthicgeiljficbaaDoor
open Go.RowKit Go.Proofs.YthicgeiljficbaaDoor.Ref Go.Proofs.YthicgeiljficbaaDoorW.PrintWords Go.Proofs.YthicgeiljficbaaDoorW.PrintLast
set_option linter.unusedSimpArgs false
set_option linter.unusedVariables false
set_option linter.unnecessarySimpa false
attribute [local go_sem] vcs

/-- what All answers -/
def Alled (xs : List (List UInt8)) (w : World) (e : Ending) (w' : World) : Prop := ∃ v, e = .returned v ∧ Row w' w.heap.size 9 1 v xs.length (strs xs) ∧ Below w.heap.size w w'

set_option maxRecDepth 100000 in
set_option maxHeartbeats 1000000 in
theorem all_l (x : S28) (v5 v6 : Value) (w0 w : World) (hx : VK w0 x v5 v6) (h0 : Below w0.heap.size w0 w) (h8 : 8 ≤ w0.heap.size) (he : EnvV w) (hok : OkT x) (hlen : ∀ p ∈ allP [] x, p.length ≤ 268435456) (hcnt : (allP [] x).length ≤ 1099511627776) :
    Calls Tryd.prog 16 #[.agg (vcs x v5 v6).toArray] w (Alled (allP [] x) w) := by
  have hz0 := h0.size
  have hb3 : ∀ a b c : Obj, Below w.heap.size w (((w.alloc a).alloc b).alloc c) := fun a b c => (((Below.refl _ _).alloc (Nat.le_refl _) _).alloc (by simp) _).alloc (by simp; omega) _
  have HW : Hid (∀ W, Below w.heap.size w W → Blk W (w.heap.size + 1) [.slice none 0 0] 26 → Blk W (w.heap.size + 2) [fnW (w.heap.size + 1) (w.heap.size + 2)] 63 →
      Calls Tryd.prog 32 #[.string ⟨#[]⟩, .agg (vcs x v5 v6).toArray, .pointer (some ⟨w.heap.size + 1, 0, none⟩), .pointer (some ⟨w.heap.size + 2, 0, none⟩)] W (Walked w.heap.size (w.heap.size + 1) (.slice none 0 0) (allP [] x) W)) := by
    intro W hb ho hw
    exact walk_l w0 w.heap.size (w.heap.size + 1) (w.heap.size + 2) hz0 (by omega) (by omega) (by omega) h8 x hok [] v5 v6 _ [] W hx (h0.trans (hb.mono hz0)) (he.call hb) ho hw (Row.nil _ _ _ _) hb.size hlen (by simpa using hcnt)
  generalize allP [] x = xs at *
  obtain ⟨A5, c5, A6, c6, rfl, rfl⟩ := hx.open
  clear hx h0 he hok hlen hcnt
  show Calls Tryd.prog 16 #[.agg #[.int .i64 x.f0, .bool x.f1.f0, .string x.f1.f1, .int .i64 x.f1.f2, .string x.f2, .slice A5 x.f3.length c5, .slice A6 x.f4.length c6]] w _
  go_enter Tryd.func16, Tryd.ntmps16
  go_wp2_with fail
  refine (HW.out _ (hb3 _ _ _) ?_ ?_).mono ?_
  · have := (Blk.new (w.alloc (.cells #[.int .i64 x.f0, .bool x.f1.f0, .string x.f1.f1, .int .i64 x.f1.f2, .string x.f2, .slice A5 x.f3.length c5, .slice A6 x.f4.length c6] 28)) [.slice none 0 0] 26).alloc (.cells #[fnW (w.heap.size + 1) (w.heap.size + 2)] 63)
    rw [World.size_alloc] at this
    exact this
  · have := Blk.new ((w.alloc (.cells #[.int .i64 x.f0, .bool x.f1.f0, .string x.f1.f1, .int .i64 x.f1.f2, .string x.f2, .slice A5 x.f3.length c5, .slice A6 x.f4.length c6] 28)).alloc (.cells #[.slice none 0 0] 26)) [fnW (w.heap.size + 1) (w.heap.size + 2)] 63
    rw [World.size_alloc, World.size_alloc] at this
    exact this
  · rintro e w' ⟨rfl, v', ho, hr, hf⟩
    have HB := Lib.hid ((hb3 _ _ _).trans (hf.below (B := w.heap.size) (by omega) (fun k hk => by simp [Value.ownBlock] at hk) (by simp; omega)))
    have hcell := ho.cell 0
    simp only [List.getElem?_cons_zero] at hcell
    have HR := Lib.hid hr
    clear hr hf ho
    go_wp2_with fail
    go_ret
    exact ⟨_, rfl, HR.out, HB.out⟩
end Go.Proofs.YthicgeiljficbaaDoor

/- caliperlaw07.heads answers true. -/
namespace Go.Proofs.YthicgeiljficbaaDoor
open Go.RowKit Go.Proofs.YthicgeiljficbaaDoor.Ref Go.Proofs.YthicgeiljficbaaDoorW.PrintWords Go.Proofs.YthicgeiljficbaaDoorW.PrintLast
set_option linter.unusedSimpArgs false
set_option linter.unusedVariables false
set_option linter.unnecessarySimpa false
attribute [local go_sem] vcs

def yesV : S28 := ⟨2, z24, ⟨#[]⟩, [], []⟩
def fiveV : S28 := ⟨5, z24, ⟨#[]⟩, [yesV], []⟩
theorem h_parse : parseP [47, 97, 126, 49, 98, 47, 126, 48, 49] = some [[97, 47, 98], [126, 49]] := by decide +kernel
theorem h_bad : parseP [97] = none := by decide +kernel
theorem h_unesc : unesB [97, 37, 67, 51, 37, 65, 57] = some [97, 195, 169] := by decide +kernel
theorem h_find : findV fiveV [47, 48] = (some yesV, 0) := by kernel_rfl
theorem h_none : findV fiveV [47, 48, 48] = (none, 71) := by kernel_rfl
theorem ok_yes : OkT yesV := .mk _ (fun h => by simp [yesV] at h) (fun y hy => by simp [yesV] at hy)
theorem ok_five : OkT fiveV := .mk _ (fun h => by simp [fiveV] at h) (fun y hy => by simp [fiveV] at hy; subst hy; exact ok_yes)
theorem h_all : allP [] fiveV = [[], [47, 48]] := by
  rw [allP_eq]
  show [] :: (allP ([] ++ escPart (nameP 5 [] 0)) yesV ++ []) = _
  rw [allP_eq]
  decide +kernel

theorem VK.yes (W : World) : VK W yesV (.slice none 0 0) (.slice none 0 0) := ⟨none, 0, none, 0, rfl, rfl, Nat.le_refl _, Kd.C_nil _ _, Nat.le_refl _, Kd.C_nil _ _⟩
/-- a row of one value -/
theorem C_one {W : World} {b : Nat} {y : S28} {v5 v6 : Value} (h : Blk W b (vcs y v5 v6) 28) (hk : VK W y v5 v6) : Kd.C k28 W (some ⟨b, 0, none⟩) 1 [y] := by
  obtain ⟨A5, c5, A6, c6, rfl, rfl, h5, h5', h6, h6'⟩ := hk
  refine ⟨rfl, by decide, fun _ => ⟨_, rfl, fun j p hj => ?_⟩⟩
  obtain rfl : j = 0 := by
    have := (List.getElem?_eq_some_iff.1 hj).1
    simp at this
    exact this
  obtain rfl : y = p := by simpa using hj
  refine ⟨_, rfl, k28_mk W y h5 h5' h6 h6', fun i u hu => ?_⟩
  have e : (⟨b, 0, none⟩ : Addr).add (0 * k28.sz + i) = ⟨b, i, none⟩ := by
    rw [Nat.zero_mul, Nat.zero_add]
    cases i <;> simp [Addr.add]
  rw [e, h.cell]
  exact hu

set_option maxRecDepth 100000 in
set_option maxHeartbeats 4000000 in
theorem heads_any (w : World) (he : EnvV w) : Calls Tryd.prog 11 #[] w (New (.bool true) w) := by
  have hz8 := he.1
  have HE := Lib.hid he
  have HP : Hid (∀ W, Below w.heap.size w W → Calls Tryd.prog 19 #[.string ⟨#[47, 97, 126, 49, 98, 47, 126, 48, 49]⟩] W (Parsed (some [[97, 47, 98], [126, 49]]) W)) := by
    intro W hb
    have := parse_l [47, 97, 126, 49, 98, 47, 126, 48, 49] (by decide) W (he.call hb).2.1
    rw [h_parse] at this
    exact this
  have HB : Hid (∀ W, Below w.heap.size w W → Calls Tryd.prog 19 #[.string ⟨#[97]⟩] W (Parsed none W)) := by
    intro W hb
    have := parse_l [97] (by decide) W (he.call hb).2.1
    rw [h_bad] at this
    exact this
  have HU : Hid (∀ W, Below w.heap.size w W → Calls Tryd.prog 22 #[.string ⟨#[97, 37, 67, 51, 37, 65, 57]⟩] W (fun e W' => Below W.heap.size W W' ∧ e = .returned (.tuple #[.string ⟨#[97, 195, 169]⟩, .int .i64 0]))) := by
    intro W hb
    have := unescape_l [97, 37, 67, 51, 37, 65, 57] (by decide) W (he.call hb).2.2.1 (by have := hb.size; show 1 < _; omega)
    rw [h_unesc] at this
    exact this
  have HV : Hid (∀ (b : Nat) W, Blk W b (vcs yesV (.slice none 0 0) (.slice none 0 0)) 28 → VK W fiveV (.slice (some ⟨b, 0, none⟩) 1 1) (.slice none 0 0)) :=
    fun b W hk => ⟨_, _, _, _, rfl, rfl, Nat.le_refl _, C_one hk (VK.yes W), Nat.le_refl _, Kd.C_nil _ _⟩
  have HF : Hid (∀ (b : Nat) W, Below w.heap.size w W → Blk W b (vcs yesV (.slice none 0 0) (.slice none 0 0)) 28 → Calls Tryd.prog 12 #[.agg #[.int .i64 5, .bool false, .string ⟨#[]⟩, .int .i64 0, .string ⟨#[]⟩, .slice (some ⟨b, 0, none⟩) 1 1, .slice none 0 0], .string ⟨#[47, 48]⟩] W (fun e W' => ∃ A5 c5 A6 c6, e = .returned (.tuple #[.agg #[.int .i64 2, .bool false, .string ⟨#[]⟩, .int .i64 0, .string ⟨#[]⟩, .slice A5 0 c5, .slice A6 0 c6], .int .i64 0]) ∧ Below W.heap.size W W')) := by
    intro b W hb hk
    have := find_l fiveV _ _ [47, 48] (by decide) W W (HV.out b W hk) (Below.refl _ _) (he.call hb) ok_five
    rw [h_find] at this
    refine this.mono ?_
    rintro e W' ⟨x5, x6, rfl, hv, hb⟩
    obtain ⟨A5, c5, A6, c6, rfl, rfl⟩ := hv.open
    exact ⟨A5, c5, A6, c6, rfl, hb⟩
  have HN : Hid (∀ (b : Nat) W, Below w.heap.size w W → Blk W b (vcs yesV (.slice none 0 0) (.slice none 0 0)) 28 → Calls Tryd.prog 12 #[.agg #[.int .i64 5, .bool false, .string ⟨#[]⟩, .int .i64 0, .string ⟨#[]⟩, .slice (some ⟨b, 0, none⟩) 1 1, .slice none 0 0], .string ⟨#[47, 48, 48]⟩] W (fun e W' => ∃ A5 c5 A6 c6, e = .returned (.tuple #[.agg #[.int .i64 0, .bool false, .string ⟨#[]⟩, .int .i64 0, .string ⟨#[]⟩, .slice A5 0 c5, .slice A6 0 c6], .int .i64 71]) ∧ Below W.heap.size W W')) := by
    intro b W hb hk
    have := find_l fiveV _ _ [47, 48, 48] (by decide) W W (HV.out b W hk) (Below.refl _ _) (he.call hb) ok_five
    rw [h_none] at this
    refine this.mono ?_
    rintro e W' ⟨x5, x6, rfl, hv, hb⟩
    obtain ⟨A5, c5, A6, c6, rfl, rfl⟩ := hv.open
    exact ⟨A5, c5, A6, c6, rfl, hb⟩
  have HA : Hid (∀ (b : Nat) W, Below w.heap.size w W → Blk W b (vcs yesV (.slice none 0 0) (.slice none 0 0)) 28 → Calls Tryd.prog 16 #[.agg #[.int .i64 5, .bool false, .string ⟨#[]⟩, .int .i64 0, .string ⟨#[]⟩, .slice (some ⟨b, 0, none⟩) 1 1, .slice none 0 0]] W (Alled [[], [47, 48]] W)) := by
    intro b W hb hk
    have h8 : 8 ≤ W.heap.size := by have := hb.size; omega
    have := all_l fiveV _ _ W W (HV.out b W hk) (Below.refl _ _) h8 (he.call hb) ok_five (by rw [h_all]; intro p hp; simp at hp; rcases hp with rfl | rfl <;> decide) (by rw [h_all]; decide)
    rw [h_all] at this
    exact this
  clear he
  go_enter Tryd.func11, Tryd.ntmps11
  go_wp2_with fail
  refine (HP.out _ (Below.refl _ _)).mono ?_
  rintro e w1 ⟨v1, rfl, ht1, -, hb1⟩
  have HT1 : Hid (Txts w1 v1 [[97, 47, 98], [126, 49]]) := ht1
  obtain ⟨a1, n1, rfl, -⟩ := ht1.form
  have hz1 := hb1.size
  have HB1 := Lib.hid hb1
  clear ht1 hb1
  go_wp2_with fail
  have hk := (Blk.new w1 (vcs yesV (.slice none 0 0) (.slice none 0 0)) 28).alloc (.cells (vcs fiveV (.slice (some ⟨w1.heap.size, 0, none⟩) 1 1) (.slice none 0 0)).toArray 28)
  have hf := Blk.new (w1.alloc (.cells (vcs yesV (.slice none 0 0) (.slice none 0 0)).toArray 28)) (vcs fiveV (.slice (some ⟨w1.heap.size, 0, none⟩) 1 1) (.slice none 0 0)) 28
  rw [World.size_alloc] at hf
  have hb2 : Below w.heap.size w ((w1.alloc (.cells (vcs yesV (.slice none 0 0) (.slice none 0 0)).toArray 28)).alloc (.cells (vcs fiveV (.slice (some ⟨w1.heap.size, 0, none⟩) 1 1) (.slice none 0 0)).toArray 28)) := (HB1.out.alloc hz1 _).alloc (by simp; omega) _
  have HT2 := Lib.hid (HT1.out.call (((Below.refl w1.heap.size w1).alloc (Nat.le_refl _) (.cells (vcs yesV (.slice none 0 0) (.slice none 0 0)).toArray 28)).alloc (by simp) (.cells (vcs fiveV (.slice (some ⟨w1.heap.size, 0, none⟩) 1 1) (.slice none 0 0)).toArray 28)))
  refine (HF.out w1.heap.size _ hb2 hk).mono ?_
  rintro e w3 ⟨A5, c5, A6, c6, rfl, hb3⟩
  have HK3 := Lib.hid (hk.call hb3)
  have HF3 := Lib.hid (hf.call hb3)
  have HT3 := Lib.hid (HT2.out.call hb3)
  have HB3 := Lib.hid (hb2.trans (hb3.mono hb2.size))
  have hz3 : w1.heap.size + 1 < w3.heap.size := hf.call hb3 |>.lt
  obtain ⟨⟨q0, q1, q2, q3, q4, q5, q6⟩, -, -⟩ := HF3.out.seven
  simp only [fiveV, yesV, z24] at q0 q1 q2 q3 q4 q5 q6
  clear hk hf hb2 hb3 HT1 HT2 HB1
  go_wp2_with fail
  have hb4 : Below w3.heap.size w3 (w3.alloc (.cells #[.int .i64 2, .bool false, .string ⟨#[]⟩, .int .i64 0, .string ⟨#[]⟩, .slice A5 0 c5, .slice A6 0 c6] 28)) := (Below.refl _ _).alloc (Nat.le_refl _) _
  have hr4 := Blk.new w3 [.int .i64 2, .bool false, .string ⟨#[]⟩, .int .i64 0, .string ⟨#[]⟩, .slice A5 0 c5, .slice A6 0 c6] 28
  refine (HN.out w1.heap.size _ (HB3.out.trans (hb4.mono (by omega))) (HK3.out.call hb4)).mono ?_
  rintro e w5 ⟨B5, d5, B6, d6, rfl, hb5⟩
  have hb35 := hb4.trans (hb5.mono hb4.size)
  have HK5 := Lib.hid (HK3.out.call hb35)
  have HF5 := Lib.hid (HF3.out.call hb35)
  have HT5 := Lib.hid (HT3.out.call hb35)
  have HR5 := Lib.hid (hr4.call hb5)
  have HB5 := Lib.hid (HB3.out.trans (hb35.mono (by omega)))
  have hz5 : w3.heap.size < w5.heap.size := (hr4.call hb5).lt
  clear hb4 hr4 hb5 hb35 HK3 HF3 HT3 HB3 q0 q1 q2 q3 q4 q5 q6
  go_wp2_with fail
  have hb6 : Below w5.heap.size w5 (w5.alloc (.cells #[.int .i64 0, .bool false, .string ⟨#[]⟩, .int .i64 0, .string ⟨#[]⟩, .slice B5 0 d5, .slice B6 0 d6] 28)) := (Below.refl _ _).alloc (Nat.le_refl _) _
  refine (HB.out _ (HB5.out.trans (hb6.mono (by omega)))).mono ?_
  rintro e w7 ⟨v7, rfl, ht7, -, hb7⟩
  obtain ⟨a7, n7, rfl, -⟩ := ht7.form
  have hb57 := hb6.trans (hb7.mono hb6.size)
  clear hb6 hb7 ht7
  have HB7 := Lib.hid (HB5.out.trans (hb57.mono (by omega)))
  have hz7 := hb57.size
  have HB57 := Lib.hid hb57
  clear hb57
  go_wp2_with fail
  refine (HU.out _ HB7.out).mono ?_
  rintro e w8 ⟨hb8, rfl⟩
  have hb58 := HB57.out.trans (hb8.mono hz7)
  have HK8 := Lib.hid (HK5.out.call hb58)
  have HF8 := Lib.hid (HF5.out.call hb58)
  have HT8 := Lib.hid (HT5.out.call hb58)
  have HR8 := Lib.hid (HR5.out.call hb58)
  have HB8 := Lib.hid (HB5.out.trans (hb58.mono (by omega)))
  have hz8' := hb58.size
  have r0 : w8.cell? ⟨w3.heap.size, 0, none⟩ = some (.int .i64 2) := HR8.out.cell 0
  clear HB57 hb8 hb58 HK5 HF5 HT5 HR5 HB5 HB7
  go_wp2_with fail
  have hb9 : Below w8.heap.size w8 (w8.alloc (.cells #[.string ⟨#[97, 47, 98]⟩, .string ⟨#[126, 49]⟩] 9)) := (Below.refl _ _).alloc (Nat.le_refl _) _
  have ht9 : Txts (w8.alloc (.cells #[.string ⟨#[97, 47, 98]⟩, .string ⟨#[126, 49]⟩] 9)) (.slice (some ⟨w8.heap.size, 0, none⟩) 2 2) [[97, 47, 98], [126, 49]] := Txts.blk (xs := [[97, 47, 98], [126, 49]]) (Blk.new w8 _ _) 2
  have hx := texts_l _ _ _ _ _ (HT8.out.call hb9) ht9 (by decide) (by decide)
  rw [show decide (([[97, 47, 98], [126, 49]] : List (List UInt8)) = [[97, 47, 98], [126, 49]]) = true from by decide] at hx
  have HX := Lib.hid hx
  have HB9 := Lib.hid hb9
  have HR9 := Lib.hid (HR8.out.call hb9)
  clear hx hb9 ht9
  refine HX.out.mono ?_
  rintro e w10 ⟨rfl, hb10⟩
  have hb := HB9.out.trans (hb10.mono HB9.out.size)
  have HK10 := Lib.hid (HK8.out.call hb)
  have HF10 := Lib.hid (HF8.out.call hb)
  have hR10 := HR8.out.call hb
  have HB10 := Lib.hid (HB8.out.trans (hb.mono (by omega)))
  have hz10 := hb.size
  have r10 : w10.cell? ⟨w3.heap.size, 0, none⟩ = some (.int .i64 2) := hR10.cell 0
  obtain ⟨⟨q0, q1, q2, q3, q4, q5, q6⟩, -, -⟩ := HF10.out.seven
  simp only [fiveV, yesV, z24] at q0 q1 q2 q3 q4 q5 q6
  clear hb hb10 hR10 r0 HK8 HF8 HT8 HR8 HB8 HB9 HX HR9
  go_wp2_with fail
  refine (HA.out w1.heap.size _ HB10.out HK10.out).mono ?_
  rintro e w11 ⟨v11, rfl, hrow, hb11⟩
  obtain ⟨a11, n11, rfl, -⟩ := hrow.shape
  have HB11 := Lib.hid (HB10.out.trans (hb11.mono (by omega)))
  clear hrow hb11
  go_wp2_with fail
  go_ret
  exact ⟨rfl, HB11.out⟩
end Go.Proofs.YthicgeiljficbaaDoor

/- caliperlaw07.PointerEscapes answers true. -/
namespace Go.Proofs.YthicgeiljficbaaDoor
open Go.RowKit
set_option linter.unusedSimpArgs false
set_option linter.unusedVariables false
set_option linter.unnecessarySimpa false

/-- a text's bytes, anew -/
theorem conv_row (s : ByteArray) (w : World) : ∃ cap W', (convert 9 51 (.string s)).run Tryd.prog w = .ok (.slice (some ⟨w.heap.size, 0, none⟩) s.size cap) W' ∧
    s.size ≤ cap ∧ Below w.heap.size w W' ∧ w.heap.size < W'.heap.size ∧ ∀ j, j < s.size → W'.cell? ⟨w.heap.size, j, none⟩ = some (.int .u8 (s.data.toList.getD j 0).toNat) := by
  refine ⟨_, _, Lib.run_convert_string_bytes w 9 51 5 s Tryd.underlying9 Tryd.underlying51 Tryd.underlying5, grownCap_ge _ _ _ _, ?_, ?_, ?_⟩
  · exact Lib.bytesWorld_below _ _ _
  · rw [Lib.bytesWorld_size]; omega
  · exact fun j hj => Lib.bytesWorld_cell w _ s j hj
theorem conv_good (l : List UInt8) (hl : l.length ≤ 67108864) (w : World) : ∃ cap W', (convert 9 51 (.string (str l))).run Tryd.prog w = .ok (.slice (some ⟨w.heap.size, 0, none⟩) l.length cap) W' ∧
    Below w.heap.size w W' ∧ Calls Tryd.prog 23 #[.slice (some ⟨w.heap.size, 0, none⟩) l.length cap] W' (fun e w' => Below w.heap.size w w' ∧ ∃ n, e = .returned (.tuple #[.int .i64 n, .bool (utfB l)])) := by
  obtain ⟨cap, W', h1, h2, h3, h4, h5⟩ := conv_row (str l) w
  rw [str_size] at h1 h2 h5
  rw [str_data] at h5
  refine ⟨cap, W', h1, h3, (goodR_l _ l W' ⟨_, cap, rfl, fun _ => ⟨w.heap.size, 0, rfl, h4, fun j hj => ?_⟩⟩ (by omega) (fun a n c h => by cases h; exact h2)).mono ?_⟩
  · rw [Nat.zero_add]; exact h5 j hj
  · rintro e w' ⟨hb, n, rfl⟩
    exact ⟨h3.trans (hb.mono h3.size), n, rfl⟩

end Go.Proofs.YthicgeiljficbaaDoor

/- Is a text valid? (caliperref06.valid) -/
namespace Go.Proofs.YthicgeiljficbaaDoor
open Go.RowKit
set_option maxHeartbeats 1000000 in
theorem valid_b (s : ByteArray) (hs : s.size ≤ 67108864) (w : World) : Calls Tryd.prog 49 #[.string s] w fun e w' => e = .returned (.bool (utfB s.data.toList)) ∧ Below w.heap.size w w' := by
  obtain ⟨cap, W', h1, h2, h3⟩ := conv_good s.data.toList hs w
  rw [str_self] at h1
  have HB := Lib.hid h2
  have HG := Lib.hid h3
  clear h2 h3
  generalize utfB s.data.toList = b at *
  go_enter Tryd.func49, Tryd.ntmps49
  go_wp2_with fail
  refine HG.out.mono ?_
  rintro e w' ⟨hb, n, rfl⟩
  go_wp2_with fail
  go_ret
  exact ⟨rfl, hb⟩
end Go.Proofs.YthicgeiljficbaaDoor

