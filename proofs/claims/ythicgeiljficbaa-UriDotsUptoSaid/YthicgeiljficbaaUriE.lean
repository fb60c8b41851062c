/- Package uri over lists of bytes: Text. -/
import Derived.Test.YthicgeiljficbaaUriD
import Derived.Test.YthicgeiljficbaaBld
import Derived.Deep.Strs
namespace Go.Proofs.Ythicgeiljficbaa
open Go.RowKit
set_option linter.unusedSimpArgs false
set_option linter.unusedVariables false
set_option linter.unnecessarySimpa false

def strs (xs : List (List UInt8)) : List Value := xs.map fun l => .string (str l)

theorem flatten_take_le (xs : List (List UInt8)) (k : Nat) : (xs.take k).flatten.length ≤ xs.flatten.length := by
  have h := congrArg List.length (congrArg List.flatten (List.take_append_drop k xs))
  rw [List.flatten_append, List.length_append] at h
  omega
theorem flatten_take_succ (xs : List (List UInt8)) (k : Nat) (h : k < xs.length) : (xs.take (k + 1)).flatten = (xs.take k).flatten ++ xs[k] := by
  rw [List.take_succ_eq_append_getElem h, List.flatten_append]
  simp

set_option maxRecDepth 100000 in
set_option maxHeartbeats 1000000 in
theorem put_yes (B b bk : Nat) (l : List UInt8) (xs : List (List UInt8)) (w : World) (h : Bld B b l w) (hbk : Blk w bk (strs xs) 9) (hne : bk ≠ b) (hn : xs.length ≤ 16) (hl : l.length + xs.flatten.length ≤ 140737488355328) (hBw : B ≤ w.heap.size) :
    Calls Try.prog 24 #[.bool true, .slice (some ⟨bk, 0, none⟩) xs.length xs.length, .pointer (some ⟨b, 0, none⟩)] w fun e w' => e = .returned (.tuple #[]) ∧ Bld B b (l ++ xs.flatten) w' ∧ Below B w w' ∧ Lib.OthersKept 5 (some b) w w' := by
  go_enter Try.func24, Try.ntmps24
  go_wp2_with fail
  go_loopw [6, 9] (fun _ i wr => ∃ k : Nat, k ≤ xs.length ∧ i = .int .i64 k ∧ Hid (Bld B b (l ++ (xs.take k).flatten) wr) ∧ Hid (Below B w wr) ∧ Hid (Lib.OthersKept 5 (some b) w wr)) (fun _ i _ => xs.length - (intOf i).toNat)
  case atStart => exact ⟨0, Nat.zero_le _, rfl, by simpa [Hid] using h, Below.refl _ _, Lib.OthersKept.refl _ _ _⟩
  case round =>
    obtain ⟨k, hk, rfl, HD, HB, HO⟩ := hrel
    by_cases hlt : k < xs.length
    · have HK := Lib.hid (hbk.kept HO.out hne (by decide))
      have hcell : wr.cell? ⟨bk, k, none⟩ = some (.string (str xs[k])) := by
        rw [HK.out.cell]
        simp [strs, hlt]
      have hle := flatten_take_le xs (k + 1)
      rw [flatten_take_succ xs k hlt, List.length_append] at hle
      have hsz := HB.out.size
      generalize hx : xs[k] = x at *
      have HX := Lib.hid hx
      clear hx
      go_wp2_with (go_at_call 25; refine (writeString_l B b _ _ _ HD.out (by rw [List.length_append]; omega) (by omega)).mono ?_; rintro e w2 ⟨rfl, h1, h2, h3⟩)
      go_roundw
      case measure => simp only [intOf]; omega
      case rel => exact ⟨k + 1, by omega, by go_num, by rw [flatten_take_succ xs k hlt, HX.out, ← List.append_assoc]; exact h1, HB.out.trans h2, HO.out.trans h3⟩
    · obtain rfl : k = xs.length := by omega
      go_wp2_with fail
      go_end0
      exact ⟨rfl, by have := HD.out; rwa [List.take_length] at this, HB.out, HO.out⟩

set_option maxRecDepth 100000 in
set_option maxHeartbeats 1000000 in
theorem put_no (b bk : Nat) (xs : List (List UInt8)) (w : World) (hbk : Blk w bk (strs xs) 9) (hn : xs.length ≤ 16) :
    Calls Try.prog 24 #[.bool false, .slice (some ⟨bk, 0, none⟩) xs.length xs.length, .pointer (some ⟨b, 0, none⟩)] w (Ans (.tuple #[]) w) := by
  go_enter Try.func24, Try.ntmps24
  go_wp2_with fail
  have HK := Lib.hid hbk
  clear hbk
  go_loop [6, 9] (fun _ i => ∃ k : Nat, k ≤ xs.length ∧ i = .int .i64 k) (fun _ i => xs.length - (intOf i).toNat)
  case atStart => exact ⟨0, Nat.zero_le _, rfl⟩
  case round =>
    obtain ⟨k, hk, rfl⟩ := hrel
    by_cases hlt : k < xs.length
    · have hcell : w.cell? ⟨bk, k, none⟩ = some (.string (str xs[k])) := by
        rw [HK.out.cell]
        simp [strs, hlt]
      go_wp2_with fail
      go_round
      case measure => simp only [intOf]; omega
      case rel => exact ⟨k + 1, by omega, by go_num⟩
    · obtain rfl : k = xs.length := by omega
      go_wp2_with fail
      go_end0
      exact ⟨rfl, rfl⟩

/-- what a call of put puts -/
def puts (ok : Bool) (xs : List (List UInt8)) : List UInt8 := if ok then xs.flatten else []

theorem puts_le (ok : Bool) (xs : List (List UInt8)) : (puts ok xs).length ≤ xs.flatten.length := by
  unfold puts; split
  · exact Nat.le_refl _
  · simp

theorem put_any (ok : Bool) (B b bk : Nat) (l : List UInt8) (xs : List (List UInt8)) (w : World) (h : Bld B b l w) (hbk : Blk w bk (strs xs) 9) (hne : bk ≠ b) (hn : xs.length ≤ 16) (hl : l.length + xs.flatten.length ≤ 140737488355328) (hBw : B ≤ w.heap.size) :
    Calls Try.prog 24 #[.bool ok, .slice (some ⟨bk, 0, none⟩) xs.length xs.length, .pointer (some ⟨b, 0, none⟩)] w fun e w' => e = .returned (.tuple #[]) ∧ Bld B b (l ++ puts ok xs) w' ∧ Below B w w' := by
  cases ok with
  | true => exact (put_yes B b bk l xs w h hbk hne hn hl hBw).mono fun _ _ h => ⟨h.1, h.2.1, h.2.2.1⟩
  | false =>
    refine (put_no b bk xs w hbk hn).mono ?_
    rintro e w' ⟨rfl, rfl⟩
    exact ⟨rfl, by simpa [puts] using h, Below.refl _ _⟩

def textU (u : U) : List UInt8 := puts (!u.sch.isEmpty) [u.sch, [58]] ++ puts u.ha [[47, 47], u.auth] ++ u.path ++ puts u.hq [[63], u.qry] ++ puts u.hf [[35], u.frag]

set_option maxRecDepth 100000 in
set_option maxHeartbeats 2000000 in
theorem text_core (sch auth path qry frag : List UInt8) (ha hq hf : Bool) (h1 : sch.length ≤ 4294967200) (h2 : auth.length ≤ 4294967200) (h3 : path.length ≤ 4294967200)
    (h4 : qry.length ≤ 4294967200) (h5 : frag.length ≤ 4294967200) (w : World) :
    Calls Try.prog 11 #[uval ⟨sch, auth, path, qry, frag, ha, hq, hf⟩] w (New (.string (str (textU ⟨sch, auth, path, qry, frag, ha, hq, hf⟩))) w) := by
  unfold uval
  dsimp only
  have hse : (str sch).toList.isEmpty = sch.isEmpty := by rw [str_toList]
  generalize hsi : sch.isEmpty = si at *
  have HSI := Lib.hid hsi
  clear hsi
  go_enter Try.func11, Try.ntmps11
  go_wp2_with fail
  have D := (Bld.fresh (w.alloc (.cells #[.string (str sch), .string (str auth), .string (str path), .string (str qry), .string (str frag), .bool ha, .bool hq, .bool hf] 27))).alloc (.cells (strs [sch, [58]]).toArray 9)
  have K := Blk.new ((w.alloc (.cells #[.string (str sch), .string (str auth), .string (str path), .string (str qry), .string (str frag), .bool ha, .bool hq, .bool hf] 27)).alloc (.cells #[.pointer none, .slice none 0 0] 48)) (strs [sch, [58]]) 9
  have R := ((Blk.new w [.string (str sch), .string (str auth), .string (str path), .string (str qry), .string (str frag), .bool ha, .bool hq, .bool hf] 27).alloc (.cells #[.pointer none, .slice none 0 0] 48)).alloc (.cells (strs [sch, [58]]).toArray 9)
  have B0 : Below w.heap.size w (((w.alloc (.cells #[.string (str sch), .string (str auth), .string (str path), .string (str qry), .string (str frag), .bool ha, .bool hq, .bool hf] 27)).alloc (.cells #[.pointer none, .slice none 0 0] 48)).alloc (.cells (strs [sch, [58]]).toArray 9)) :=
    (((Below.refl _ _).alloc (Nat.le_refl _) _).alloc (by simp) _).alloc (by simp; omega) _
  simp only [World.size_alloc] at D K
  have q1 := puts_le (!si) [sch, [58]]; have q2 := puts_le ha [[47, 47], auth]; have q3 := puts_le true [path]; have q4 := puts_le hq [[63], qry]
  simp only [List.flatten_cons, List.flatten_nil, List.append_nil, List.length_append, List.length_cons, List.length_nil] at q1 q2 q3 q4
  refine (put_any (!si) (w.heap.size + 1) (w.heap.size + 1) (w.heap.size + 1 + 1) [] [sch, [58]] _ D K (by omega) (by simp) (by simp; omega) (by simp)).mono ?_
  rintro e w1 ⟨rfl, D1, hb⟩
  have R1 := R.below hb (by omega)
  have B1 := B0.trans (hb.mono (by omega))
  have hz1 : w.heap.size + 1 < w1.heap.size := by have := hb.size; simp at this; omega
  clear hb
  have rc := R1.cell
  have HR1 := Lib.hid R1; have HB1 := Lib.hid B1; have HD1 := Lib.hid D1
  clear R1 B1 D1 R B0 D K
  go_wp2_with fail
  clear rc
  have D := HD1.out.alloc (.cells (strs [[47, 47], auth]).toArray 9)
  have K := Blk.new w1 (strs [[47, 47], auth]) 9
  have R := HR1.out.alloc (.cells (strs [[47, 47], auth]).toArray 9)
  have B := HB1.out.alloc (by omega) (.cells (strs [[47, 47], auth]).toArray 9)
  refine (put_any ha (w.heap.size + 1) (w.heap.size + 1) w1.heap.size _ [[47, 47], auth] _ D K (by omega) (by simp) ?_ (by simp; omega)).mono ?_
  · simp only [List.flatten_cons, List.flatten_nil, List.append_nil, List.length_append, List.length_cons, List.length_nil]
    omega
  rintro e w2 ⟨rfl, D2, hb⟩
  have R2 := R.below hb (by omega)
  have B2 := B.trans (hb.mono (by omega))
  have hz2 : w.heap.size + 1 < w2.heap.size := by have := hb.size; simp at this; omega
  clear hb
  have rc := R2.cell
  have HR2 := Lib.hid R2; have HB2 := Lib.hid B2; have HD2 := Lib.hid D2
  clear R2 B2 D2 HR1 HB1 HD1 D K R B hz1
  go_wp2_with fail
  clear rc
  have D := HD2.out.alloc (.cells (strs [path]).toArray 9)
  have K := Blk.new w2 (strs [path]) 9
  have R := HR2.out.alloc (.cells (strs [path]).toArray 9)
  have B := HB2.out.alloc (by omega) (.cells (strs [path]).toArray 9)
  refine (put_any true (w.heap.size + 1) (w.heap.size + 1) w2.heap.size _ [path] _ D K (by omega) (by simp) ?_ (by simp; omega)).mono ?_
  · simp only [List.flatten_cons, List.flatten_nil, List.append_nil, List.length_append, List.length_cons, List.length_nil]
    omega
  rintro e w3 ⟨rfl, D3, hb⟩
  have R3 := R.below hb (by omega)
  have B3 := B.trans (hb.mono (by omega))
  have hz3 : w.heap.size + 1 < w3.heap.size := by have := hb.size; simp at this; omega
  clear hb
  have rc := R3.cell
  have HR3 := Lib.hid R3; have HB3 := Lib.hid B3; have HD3 := Lib.hid D3
  clear R3 B3 D3 HR2 HB2 HD2 D K R B hz2
  go_wp2_with fail
  clear rc
  have D := HD3.out.alloc (.cells (strs [[63], qry]).toArray 9)
  have K := Blk.new w3 (strs [[63], qry]) 9
  have R := HR3.out.alloc (.cells (strs [[63], qry]).toArray 9)
  have B := HB3.out.alloc (by omega) (.cells (strs [[63], qry]).toArray 9)
  refine (put_any hq (w.heap.size + 1) (w.heap.size + 1) w3.heap.size _ [[63], qry] _ D K (by omega) (by simp) ?_ (by simp; omega)).mono ?_
  · simp only [List.flatten_cons, List.flatten_nil, List.append_nil, List.length_append, List.length_cons, List.length_nil]
    omega
  rintro e w4 ⟨rfl, D4, hb⟩
  have R4 := R.below hb (by omega)
  have B4 := B.trans (hb.mono (by omega))
  have hz4 : w.heap.size + 1 < w4.heap.size := by have := hb.size; simp at this; omega
  clear hb
  have rc := R4.cell
  have HR4 := Lib.hid R4; have HB4 := Lib.hid B4; have HD4 := Lib.hid D4
  clear R4 B4 D4 HR3 HB3 HD3 D K R B hz3
  go_wp2_with fail
  clear rc
  have D := HD4.out.alloc (.cells (strs [[35], frag]).toArray 9)
  have K := Blk.new w4 (strs [[35], frag]) 9
  have R := HR4.out.alloc (.cells (strs [[35], frag]).toArray 9)
  have B := HB4.out.alloc (by omega) (.cells (strs [[35], frag]).toArray 9)
  refine (put_any hf (w.heap.size + 1) (w.heap.size + 1) w4.heap.size _ [[35], frag] _ D K (by omega) (by simp) ?_ (by simp; omega)).mono ?_
  · simp only [List.flatten_cons, List.flatten_nil, List.append_nil, List.length_append, List.length_cons, List.length_nil]
    omega
  rintro e w5 ⟨rfl, D5, hb⟩
  have R5 := R.below hb (by omega)
  have B5 := B.trans (hb.mono (by omega))
  have hz5 : w.heap.size + 1 < w5.heap.size := by have := hb.size; simp at this; omega
  clear hb
  have rc := R5.cell
  have HR5 := Lib.hid R5; have HB5 := Lib.hid B5; have HD5 := Lib.hid D5
  clear R5 B5 D5 HR4 HB4 HD4 D K R B hz4
  go_wp2_with fail
  clear rc
  refine (string_l _ _ _ _ HD5.out (by omega)).mono ?_
  rintro e w6 ⟨rfl, hb⟩
  go_wp2_with fail
  go_ret
  refine ⟨?_, HB5.out.trans (hb.mono (by omega))⟩
  have e : textU ⟨sch, auth, path, qry, frag, ha, hq, hf⟩ = puts (!si) [sch, [58]] ++ (puts ha [[47, 47], auth] ++ (puts true [path] ++ (puts hq [[63], qry] ++ puts hf [[35], frag]))) := by
    unfold textU
    rw [show puts true [path] = path from by simp [puts], ← HSI.out]
    simp only [List.append_assoc]
  rw [e]
  rfl

theorem text_any (u : U) (h : u.sch.length ≤ 4294967200 ∧ u.auth.length ≤ 4294967200 ∧ u.path.length ≤ 4294967200 ∧ u.qry.length ≤ 4294967200 ∧ u.frag.length ≤ 4294967200) (w : World) :
    Calls Try.prog 11 #[uval u] w (New (.string (str (textU u))) w) := by
  obtain ⟨sch, auth, path, qry, frag, ha, hq, hf⟩ := u
  exact text_core sch auth path qry frag ha hq hf h.1 h.2.1 h.2.2.1 h.2.2.2.1 h.2.2.2.2 w
end Go.Proofs.Ythicgeiljficbaa
