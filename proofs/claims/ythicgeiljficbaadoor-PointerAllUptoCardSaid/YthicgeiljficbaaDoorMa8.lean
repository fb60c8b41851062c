import Derived.Test.YthicgeiljficbaaDoorMa3
import Derived.Deep.Upon
import Derived.Test.YthicgeiljficbaaDoorMa6
import Derived.Test.YthicgeiljficbaaDoorMa7
import Derived.Deep.DeepCutAuto
import Derived.BigQuiet
/- caliperref06.Check, Depth, Same: what they answer of trees. -/
namespace Go.Proofs.YthicgeiljficbaaDoor
open Go.RowKit Go.Proofs.YthicgeiljficbaaDoor.Ref Go.Proofs.YthicgeiljficbaaDoorW.PrintWords Go.Proofs.YthicgeiljficbaaDoorW.PrintLast
set_option linter.unusedSimpArgs false
set_option linter.unusedVariables false
set_option linter.unnecessarySimpa false

theorem depth_ex (x : S28) (ht : Tree x) : bulkT x ≤ 1048576 → ∀ k, fuelT x ≤ k → ∃ r, caliperref06_Depth.f k x.f0 x.f1.f0 x.f1.f1 x.f1.f2 x.f2 x.f3 x.f4 = some r := by
  induction ht with
  | mk x h ih =>
    intro hb k hk
    rw [fuelT_eq] at hk
    have hbx := hb
    rw [bulkT_eq] at hbx
    have hl := bulkL_len x.f3
    obtain ⟨k, rfl⟩ : ∃ j, k = j + 1 := ⟨k - 1, by omega⟩
    rw [caliperref06_Depth.f]
    split
    · exact ⟨_, rfl⟩
    · have loop : ∀ d i, i + d = x.f3.length → ∀ (m : Int) k, d + 1 + fuelL x.f3 ≤ k → ∃ r, caliperref06_Depth.l0 k m i x.f0 x.f1.f0 x.f1.f1 x.f1.f2 x.f2 x.f3 x.f4 = some r := by
        intro d
        induction d with
        | zero =>
          intro i hi m k hk
          obtain ⟨k, rfl⟩ : ∃ j, k = j + 1 := ⟨k - 1, by omega⟩
          rw [caliperref06_Depth.l0, if_neg (by omega)]
          exact ⟨_, rfl⟩
        | succ d ihd =>
          intro i hi m k hk
          obtain ⟨k, rfl⟩ : ∃ j, k = j + 1 := ⟨k - 1, by omega⟩
          have hil : i < x.f3.length := by omega
          have hmem : x.f3.getD i z28 ∈ x.f3 := by simp [List.getD, hil]
          have hrd : rd_T28 x.f3 (i : Int) = x.f3.getD i z28 := by unfold rd_T28; rw [Int.toNat_natCast]
          have hfm := fuel_mem hmem
          have hbm := bulk_mem hmem
          obtain ⟨r, hr⟩ := ih _ hmem (by omega) k (by omega)
          rw [caliperref06_Depth.l0, if_pos (by omega), if_pos (by omega), hrd, hr]
          simp only [Option.bind_some]
          rw [wrT1 i (by omega)]
          exact ihd (i + 1) (by omega) _ k (by omega)
      exact loop x.f3.length 0 (by omega) 0 k (by omega)
def Deep6 (w : World) (e : Ending) (w' : World) : Prop := ∃ r : Int, e = .returned (.int .i64 r) ∧ Below w.heap.size w w'
theorem depthR_l (x : S28) (v5 v6 : Value) (w0 w : World) (hx : VK w0 x v5 v6) (h0 : Below w0.heap.size w0 w) (hb : bulkT x ≤ 1048576) : Calls Tryd.prog 10 #[.agg (vcs x v5 v6).toArray] w (Deep6 w) := by
  obtain ⟨r, hf⟩ := depth_ex x (tree x) hb (fuelT x) (Nat.le_refl _)
  obtain ⟨A5, c5, A6, c6, rfl, rfl, l5, g5, l6, g6⟩ := hx
  refine (caliperref06_Depth.calls (fuelT x) x.f0 x.f1.f0 x.f1.f1 x.f1.f2 x.f2 A5 c5 x.f3 A6 c6 x.f4 r w (Kd.C_below g5 h0) l5 (Kd.C_below g6 h0) l6 hf).mono ?_
  rintro e w' ⟨rfl, hb'⟩
  exact ⟨r, rfl, hb'⟩

def sameT (k : Nat) (x : S28) : Option Bool := caliperref06_Same.f k x.f0 x.f1.f0 x.f1.f1 x.f1.f2 x.f2 x.f3 x.f4 x.f0 x.f1.f0 x.f1.f1 x.f1.f2 x.f2 x.f3 x.f4
theorem same_ex (x : S28) (ht : Tree x) : bulkT x ≤ 1048576 → ∀ k, fuelT x ≤ k → sameT k x = some true := by
  induction ht with
  | mk x h ih =>
    intro hb k hk
    rw [fuelT_eq] at hk
    have hbx := hb
    rw [bulkT_eq] at hbx
    have hl := bulkL_len x.f3
    have hkl := keys_len x.f4
    have hmul : (x.f4.length + 1) * (x.f4.length + 3) = x.f4.length * (x.f4.length + 3) + (x.f4.length + 3) := by rw [Nat.add_mul, Nat.one_mul]
    rw [hmul] at hk
    have l1 : ∀ d i, i + d = x.f3.length → ∀ k, d + 1 + fuelL x.f3 ≤ k → caliperref06_Same.l1 k i x.f0 x.f1.f0 x.f1.f1 x.f1.f2 x.f2 x.f3 x.f4 x.f0 x.f1.f0 x.f1.f1 x.f1.f2 x.f2 x.f3 x.f4 = some true := by
      intro d
      induction d with
      | zero =>
        intro i hi k hk
        obtain ⟨k, rfl⟩ : ∃ j, k = j + 1 := ⟨k - 1, by omega⟩
        rw [caliperref06_Same.l1, if_neg (by omega)]
      | succ d ihd =>
        intro i hi k hk
        obtain ⟨k, rfl⟩ : ∃ j, k = j + 1 := ⟨k - 1, by omega⟩
        have hil : i < x.f3.length := by omega
        have hmem : x.f3.getD i z28 ∈ x.f3 := by simp [List.getD, hil]
        have hrd : rd_T28 x.f3 (i : Int) = x.f3.getD i z28 := by unfold rd_T28; rw [Int.toNat_natCast]
        have hfm := fuel_mem hmem
        have hbm := bulk_mem hmem
        have hr := ih _ hmem (by omega) k (by omega)
        unfold sameT at hr
        rw [caliperref06_Same.l1, if_pos (by omega), if_pos (by omega), if_pos (by omega), hrd, hr]
        simp only [Option.bind_some]
        rw [if_pos trivial, wrT1 i (by omega)]
        exact ihd (i + 1) (by omega) k (by omega)
    have l0 : ∀ d i, i + d = x.f4.length → ∀ k, d + 2 + (x.f3.length + fuelL x.f3) ≤ k → caliperref06_Same.l0 k i x.f0 x.f1.f0 x.f1.f1 x.f1.f2 x.f2 x.f3 x.f4 x.f0 x.f1.f0 x.f1.f1 x.f1.f2 x.f2 x.f3 x.f4 = some true := by
      intro d
      induction d with
      | zero =>
        intro i hi k hk
        obtain ⟨k, rfl⟩ : ∃ j, k = j + 1 := ⟨k - 1, by omega⟩
        rw [caliperref06_Same.l0, if_neg (by omega)]
        exact l1 x.f3.length 0 (by omega) k (by omega)
      | succ d ihd =>
        intro i hi k hk
        obtain ⟨k, rfl⟩ : ∃ j, k = j + 1 := ⟨k - 1, by omega⟩
        rw [caliperref06_Same.l0, if_pos (by omega), if_pos (by omega), if_pos (by omega), if_pos rfl, wrT1 i (by omega)]
        exact ihd (i + 1) (by omega) k (by omega)
    obtain ⟨k, rfl⟩ : ∃ j, k = j + 2 := ⟨k - 2, by omega⟩
    unfold sameT
    rw [caliperref06_Same.f, if_pos rfl, if_neg (by simp), if_pos rfl, if_pos rfl]
    have e : ((x.f4.length : Int) != (x.f4.length : Int)) = false := by simp
    rw [e, caliperref06_Same.j0, if_neg (by simp)]
    have hz : x.f4.length ≤ x.f4.length * (x.f4.length + 3) := Nat.le_mul_of_pos_right _ (by omega)
    exact l0 x.f4.length 0 (by omega) k (by omega)
/-- the same tree twice -/
theorem sameR_l (x : S28) (v5 v6 u5 u6 : Value) (w0 w : World) (hx : VK w0 x v5 v6) (hy : VK w0 x u5 u6) (h0 : Below w0.heap.size w0 w) (hb : bulkT x ≤ 1048576) :
    Calls Tryd.prog 14 #[.agg (vcs x v5 v6).toArray, .agg (vcs x u5 u6).toArray] w (New (.bool true) w) := by
  have hf := same_ex x (tree x) hb (fuelT x) (Nat.le_refl _)
  unfold sameT at hf
  obtain ⟨A5, c5, A6, c6, rfl, rfl, l5, g5, l6, g6⟩ := hx
  obtain ⟨B5, d5, B6, d6, rfl, rfl, m5, k5, m6, k6⟩ := hy
  exact caliperref06_Same.calls (fuelT x) x.f0 x.f1.f0 x.f1.f1 x.f1.f2 x.f2 A5 c5 x.f3 A6 c6 x.f4 x.f0 x.f1.f0 x.f1.f1 x.f1.f2 x.f2 B5 d5 x.f3 B6 d6 x.f4 true w (Kd.C_below g5 h0) l5 (Kd.C_below g6 h0) l6 (Kd.C_below k5 h0) m5 (Kd.C_below k6 h0) m6 hf
end Go.Proofs.YthicgeiljficbaaDoor

namespace Go.Proofs.YthicgeiljficbaaDoor
open Go.RowKit Go.Proofs.YthicgeiljficbaaDoor.Ref Go.Proofs.YthicgeiljficbaaDoorW.PrintWords Go.Proofs.YthicgeiljficbaaDoorW.PrintLast
set_option linter.unusedSimpArgs false
set_option linter.unusedVariables false
set_option linter.unnecessarySimpa false

/-- what is kept through the region: blocks of a value each, all that lies below -/
structure SL (w W : World) (L : List (Nat × List Value)) : Prop where
  k : ∀ p ∈ L, Blk W p.1 p.2 28
  b : Below w.heap.size w W
theorem SL.k0 {w W : World} {b : Nat} {cs : List Value} {L : List (Nat × List Value)} (h : SL w W ((b, cs) :: L)) : Blk W b cs 28 := h.k _ List.mem_cons_self
theorem SL.k1 {w W : World} {b : Nat} {cs : List Value} {p : Nat × List Value} {L : List (Nat × List Value)} (h : SL w W (p :: (b, cs) :: L)) : Blk W b cs 28 := h.k (b, cs) (by simp)
theorem SL.k2 {w W : World} {b : Nat} {cs : List Value} {p q : Nat × List Value} {L : List (Nat × List Value)} (h : SL w W (p :: q :: (b, cs) :: L)) : Blk W b cs 28 := h.k (b, cs) (by simp)
theorem SL.two {w W : World} {b1 b2 : Nat} {c1 c2 : List Value} (h1 : Blk W b1 c1 28) (h2 : Blk W b2 c2 28) (h : Below w.heap.size w W) : SL w W [(b1, c1), (b2, c2)] := by
  refine ⟨?_, h⟩
  intro r hr
  simp only [List.mem_cons, List.not_mem_nil, or_false] at hr
  rcases hr with rfl | rfl
  · exact h1
  · exact h2
theorem SL.drew {w W : World} {L : List (Nat × List Value)} (h : SL w W L) : SL w W.drew L := ⟨fun p hp => (h.k p hp).drew, h.b.drew⟩
theorem SL.alloc {w W : World} {L : List (Nat × List Value)} (h : SL w W L) (o : Obj) : SL w (W.alloc o) L := ⟨fun p hp => (h.k p hp).alloc o, h.b.alloc h.b.size o⟩
theorem SL.call {w W W' : World} {L : List (Nat × List Value)} (h : SL w W L) (hb : Below W.heap.size W W') : SL w W' L := ⟨fun p hp => (h.k p hp).call hb, h.b.trans (hb.mono h.b.size)⟩
theorem SL.new {w W : World} {p q : Nat × List Value} (h : SL w W [p, q]) :
    SL w (W.alloc (.cells #[.int .i64 0, .bool false, .string ⟨#[]⟩, .int .i64 0, .string ⟨#[]⟩, .slice none 0 0, .slice none 0 0] 28)) [p, q, (W.heap.size, [.int .i64 0, .bool false, .string ⟨#[]⟩, .int .i64 0, .string ⟨#[]⟩, .slice none 0 0, .slice none 0 0])] := by
  refine ⟨?_, h.b.alloc h.b.size _⟩
  intro r hr
  simp only [List.mem_cons, List.not_mem_nil, or_false] at hr
  rcases hr with rfl | rfl | rfl
  · exact (h.k _ (by simp)).alloc _
  · exact (h.k _ (by simp)).alloc _
  · exact Blk.new W _ _
theorem Fr.blk {v v' : Value} {w w' : World} {b : Nat} {cs : List Value} {T : TypeId} (h : Fr v v' w w') (hk : Blk w b cs T) (hv : v.ownBlock ≠ some b) : Blk w' b cs T := (h.keep b hk.lt hv).trans hk
end Go.Proofs.YthicgeiljficbaaDoor

/- caliperref06.Size; caliperlaw07.PointerAll answers true. Printed by gen_an.py. -/
namespace Go.Proofs.YthicgeiljficbaaDoor
open Go.RowKit Go.Proofs.YthicgeiljficbaaDoor.Ref Go.Proofs.YthicgeiljficbaaDoorW.PrintWords Go.Proofs.YthicgeiljficbaaDoorW.PrintLast
set_option linter.unusedSimpArgs false
set_option linter.unusedVariables false
set_option linter.unnecessarySimpa false
attribute [local go_sem] vcs

theorem sizeL_take : ∀ (l : List S28) (k : Nat), k < l.length → sizeL (l.take (k + 1)) = sizeL (l.take k) + sizeT (l.getD k z28)
  | [], k, h => by simp at h
  | y :: ys, 0, h => by simp [sizeL]
  | y :: ys, k + 1, h => by
    have ih := sizeL_take ys k (by simpa using h)
    rw [List.take_succ_cons, sizeL, ih, List.take_succ_cons, sizeL, List.getD_cons_succ]
    omega
theorem sizeL_take_le (l : List S28) (k : Nat) : sizeL (l.take k) ≤ sizeL l := by
  induction l generalizing k with
  | nil => simp [sizeL]
  | cons y ys ih =>
    cases k with
    | zero => simp [sizeL]
    | succ k =>
      rw [List.take_succ_cons, sizeL, sizeL]
      have := ih k
      omega

set_option maxRecDepth 100000 in
set_option maxHeartbeats 4000000 in
theorem sizeR_l (w0 : World) (x : S28) (ht : Tree x) : bulkT x ≤ 1048576 → ∀ (v5 v6 : Value) (w : World), VK w0 x v5 v6 → Below w0.heap.size w0 w →
    Calls Tryd.prog 18 #[.agg (vcs x v5 v6).toArray] w (New (.int .i64 (sizeT x)) w) := by
  induction ht with
  | mk x h ih =>
  intro hb v5 v6 w hx h0
  have hsz := size_le x (.mk x h)
  have hsx := sizeT_eq x
  have hz0 := h0.size
  have H0 := Lib.hid h0
  have HX := Lib.hid hx
  have HS : Hid (sizeT x = 1 + sizeL x.f3) := hsx
  have IH : Hid (∀ y, y ∈ x.f3 → ∀ (v5 v6 : Value) (w : World), VK w0 y v5 v6 → Below w0.heap.size w0 w → Calls Tryd.prog 18 #[.agg (vcs y v5 v6).toArray] w (New (.int .i64 (sizeT y)) w)) := fun y hy => ih y hy (by have := bulk_mem hy; rw [bulkT_eq] at hb; omega)
  obtain ⟨A5, c5, A6, c6, rfl, rfl, hl5, hC5, -, -⟩ := hx
  have hmx : x.f3.length ≤ 9223372036854775807 := hC5.2.1
  have HC5 := Lib.hid hC5
  have HT := Lib.hid (sizeL_take x.f3)
  have HTL := Lib.hid (sizeL_take_le x.f3)
  have hmax : sizeL x.f3 ≤ 1048576 := by omega
  clear hsx h0 ih h hb hC5
  show Calls Tryd.prog 18 #[.agg #[.int .i64 x.f0, .bool x.f1.f0, .string x.f1.f1, .int .i64 x.f1.f2, .string x.f2, .slice A5 x.f3.length c5, .slice A6 x.f4.length c6]] w _
  go_enter Tryd.func18, Tryd.ntmps18
  go_wp2_with fail
  have HB1 : Hid (∀ ob : Obj, Below w.heap.size w (w.alloc ob)) := fun ob => (Below.refl _ _).alloc (Nat.le_refl _) _
  go_loopw [3, 4] (fun n i wr => ∃ k : Nat, k ≤ x.f3.length ∧ i = .int .i64 k ∧ n = .int .i64 ((1 + sizeL (x.f3.take k) : Nat) : Int) ∧ Hid (Blk wr w.heap.size [.int .i64 x.f0, .bool x.f1.f0, .string x.f1.f1, .int .i64 x.f1.f2, .string x.f2, .slice A5 x.f3.length c5, .slice A6 x.f4.length c6] 28) ∧ Hid (Below w.heap.size w wr)) (fun _ i _ => x.f3.length - (intOf i).toNat)
  case atStart => exact ⟨0, Nat.zero_le _, rfl, by simp [sizeL], Blk.new w [.int .i64 x.f0, .bool x.f1.f0, .string x.f1.f1, .int .i64 x.f1.f2, .string x.f2, .slice A5 x.f3.length c5, .slice A6 x.f4.length c6] 28, HB1.out _⟩
  case round =>
    obtain ⟨k, hk, rfl, rfl, HK, HB⟩ := hrel
    obtain ⟨⟨q0, q1, q2, q3, q4, q5, q6⟩, -, -⟩ := HK.out.seven
    by_cases hlt : k < x.f3.length
    · obtain ⟨b, off, rfl, hbl, hv⟩ := C_vals HC5.out (by omega)
      obtain ⟨u5, u6, hK, hcells⟩ := hv k hlt
      have hw := H0.out.trans (HB.out.mono hz0)
      have k0 := (hw.cell (p := ⟨b, off + k * 7 + 0, none⟩) hbl).trans (hcells 0 _ rfl)
      have k1 := (hw.cell (p := ⟨b, off + k * 7 + 1, none⟩) hbl).trans (hcells 1 _ rfl)
      have k2 := (hw.cell (p := ⟨b, off + k * 7 + 2, none⟩) hbl).trans (hcells 2 _ rfl)
      have k3 := (hw.cell (p := ⟨b, off + k * 7 + 3, none⟩) hbl).trans (hcells 3 _ rfl)
      have k4 := (hw.cell (p := ⟨b, off + k * 7 + 4, none⟩) hbl).trans (hcells 4 _ rfl)
      have k5 := (hw.cell (p := ⟨b, off + k * 7 + 5, none⟩) hbl).trans (hcells 5 _ rfl)
      have k6 := (hw.cell (p := ⟨b, off + k * 7 + 6, none⟩) hbl).trans (hcells 6 _ rfl)
      simp only [Nat.add_zero] at k0
      have hmem : x.f3.getD k z28 ∈ x.f3 := by simp [List.getD, hlt]
      have HR := Lib.hid (IH.out _ hmem u5 u6 wr hK hw)
      obtain ⟨B5, d5, B6, d6, rfl, rfl⟩ := hK.open
      have hnx := Lib.hid (HT.out k hlt)
      have hle := HTL.out (k + 1)
      rw [hnx.out] at hle
      clear hcells hv hw hK hmem
      generalize x.f3.getD k z28 = y at *
      generalize sizeT y = m at *
      generalize hsk : sizeL (x.f3.take k) = sk at *
      go_wp2_with (go_at_call 18; refine HR.out.mono ?_; rintro e w2 ⟨rfl, hb2⟩; have HK2 := Lib.hid (HK.out.call hb2); have HB2 := Lib.hid (HB.out.trans (hb2.mono HB.out.size)); clear hb2)
      go_roundw
      case measure => simp only [intOf]; omega
      case rel => exact ⟨k + 1, by omega, by go_num, by rw [hnx.out]; congr 1; omega, HK2.out, HB2.out⟩
    · obtain rfl : k = x.f3.length := by omega
      go_wp2_with fail
      go_ret
      refine ⟨?_, HB.out⟩
      have e : 1 + sizeL (x.f3.take x.f3.length) = sizeT x := by rw [List.take_length, HS.out]
      show Ending.returned (.int .i64 ((1 + sizeL (x.f3.take x.f3.length) : Nat) : Int)) = _
      rw [e]

/-- s7 points to the value that was found -/
def PointsA (o : S28) (w0 : World) (s7 s8 : Value) (W : World) : Prop :=
  ∃ (g : Nat) (y5 y6 : Value), s7 = .pointer (some ⟨g, 0, none⟩) ∧ s8 = .int .i64 0 ∧ Hid (Blk W g (vcs o y5 y6) 28) ∧ Hid (VK w0 o y5 y6)
theorem checkS_l (x : S28) (v5 v6 : Value) (w0 w : World) (hx : VK w0 x v5 v6) (h0 : Below w0.heap.size w0 w) (hb : bulkT x ≤ 1048576) :
    Calls Tryd.prog 9 #[.agg (vcs x v5 v6).toArray] w (fun e w' => ∃ r : Int, e = .returned (.int .i64 r) ∧ (r = 0 → OkS x) ∧ Below w.heap.size w w') := by
  obtain ⟨b, h1, -⟩ := right_ex x (tree x) hb 10000 (fuelT x) (Nat.le_refl _)
  have h2 := right_true x (tree x) hb (fuelT x) 10000
  rw [h1] at h2
  unfold rightT at h1
  have hf : caliperref06_Check.f (fuelT x) x.f0 x.f1.f0 x.f1.f1 x.f1.f2 x.f2 x.f3 x.f4 = some (if b = true then 0 else 60) := by
    unfold caliperref06_Check.f
    rw [h1]
    cases b <;> rfl
  obtain ⟨A5, c5, A6, c6, rfl, rfl, l5, g5, l6, g6⟩ := hx
  refine (caliperref06_Check.calls (fuelT x) x.f0 x.f1.f0 x.f1.f1 x.f1.f2 x.f2 A5 c5 x.f3 A6 c6 x.f4 _ w (Kd.C_below g5 h0) l5 (Kd.C_below g6 h0) l6 hf).mono ?_
  rintro e w' ⟨rfl, hb'⟩
  refine ⟨_, rfl, fun h => ?_, hb'⟩
  cases b with
  | true => exact h2 rfl
  | false => simp at h
theorem all_len50 (x : S28) (ht : Tree x) : bulkT x ≤ 1048576 → ∀ a p, p ∈ allP a x → p.length ≤ a.length + 50 * bulkT x := by
  induction ht with
  | mk x h ih =>
    intro hb a p hp
    have hbx := hb
    rw [bulkT_eq] at hbx ⊢
    have hl := bulkL_len x.f3
    rw [allP_eq] at hp
    rcases List.mem_cons.1 hp with rfl | hp
    · omega
    · obtain ⟨j, hj, hm⟩ := allL_mem x.f3 0 hp
      have hmem : x.f3.getD j z28 ∈ x.f3 := by simp [List.getD, hj]
      have hbm := bulk_mem hmem
      rw [Nat.zero_add] at hm
      have h1 := ih _ hmem (by omega) _ _ hm
      have h2 := name_len x j (by omega)
      have h3 := inner_len (nameP x.f0 x.f4 j)
      have h4 : (escPart (nameP x.f0 x.f4 j)).length = (inner (nameP x.f0 x.f4 j)).length + 1 := by rw [escPart_eq, List.length_cons]
      rw [List.length_append] at h1
      omega
theorem below_drewNA {B : Nat} {w W : World} (h : Below B w W) (n : Nat) : Below B w (W.drewN n) := ⟨h.os, h.tape, h.output, h.size, h.block⟩
theorem cell_allocs {W : World} {b o : Nat} {u : Option Value} (h : W.cell? ⟨b, o, none⟩ = u) (hb : b < W.heap.size) (ob : Obj) : (W.alloc ob).cell? ⟨b, o, none⟩ = u := (World.cell?_alloc_lt _ _ _ hb).trans h
theorem all_first (x : S28) : (allP [] x).getD 0 [] = [] := by rw [allP_eq]; rfl

set_option maxRecDepth 100000 in
set_option maxHeartbeats 8000000 in
theorem lawAll_l (x : S28) (v5 v6 : Value) (w : World) (hx : VK w x v5 v6) (hn : bulkT x ≤ 1048576) (he : EnvV w) :
    Calls Tryd.prog 4 #[.agg (vcs x v5 v6).toArray] w (New (.bool true) w) := by
  have HC := Lib.hid (fun W (h : Below w.heap.size w W) => checkS_l x v5 v6 w W hx h hn)
  have HD := Lib.hid (fun W (h : Below w.heap.size w W) => depthR_l x v5 v6 w W hx h hn)
  have HZ := Lib.hid (fun W (h : Below w.heap.size w W) => sizeR_l w x (tree x) hn v5 v6 W hx h)
  have HH : Hid (∀ W, Below w.heap.size w W → Calls Tryd.prog 11 #[] W (New (.bool true) W)) := fun W hb => heads_any W (he.call hb)
  have HE := Lib.hid he
  have h8 := he.1
  have HX := Lib.hid hx
  have HSM := Lib.hid (fun W y5 y6 (hy : VK w x y5 y6) (h : Below w.heap.size w W) => sameR_l x y5 y6 v5 v6 w W hy hx h hn)
  obtain ⟨A5, c5, A6, c6, rfl, rfl⟩ := hx.open
  have hb1 : ∀ o : Obj, Below w.heap.size w (w.alloc o) := fun o => (Below.refl _ _).alloc (Nat.le_refl _) _
  have HB1 := Lib.hid hb1
  have hcnt : sizeT x = (allP [] x).length := (all_count x (tree x) []).symm
  have hsl := size_le x (tree x)
  have hs1 := sizeT_eq x
  have HFIRST := Lib.hid (all_first x)
  clear hx he hb1
  show Calls Tryd.prog 4 #[.agg #[.int .i64 x.f0, .bool x.f1.f0, .string x.f1.f1, .int .i64 x.f1.f2, .string x.f2, .slice A5 x.f3.length c5, .slice A6 x.f4.length c6]] w _
  go_enter Tryd.func4, Tryd.ntmps4
  go_wp2_with fail
  refine (HC.out _ (HB1.out _)).mono ?_
  rintro e w1 ⟨r, rfl, hr, hbw⟩
  have HK1 : Hid (Blk w1 w.heap.size [.int .i64 x.f0, .bool x.f1.f0, .string x.f1.f1, .int .i64 x.f1.f2, .string x.f2, .slice A5 x.f3.length c5, .slice A6 x.f4.length c6] 28) := (Blk.new w [.int .i64 x.f0, .bool x.f1.f0, .string x.f1.f1, .int .i64 x.f1.f2, .string x.f2, .slice A5 x.f3.length c5, .slice A6 x.f4.length c6] 28).call hbw
  have HW1 := Lib.hid ((HB1.out _).trans (hbw.mono (by simp)))
  have HR := Lib.hid hr
  clear hbw hr
  obtain ⟨⟨q0, q1, q2, q3, q4, q5, q6⟩, -, -⟩ := HK1.out.seven
  by_cases h0 : r = 0
  · subst h0
    have HO : Hid (OkS x) := HR.out rfl
    go_wp2_with fail
    refine (HD.out _ HW1.out).mono ?_
    rintro e w2 ⟨d, rfl, hbw⟩
    have HK2 := Lib.hid (HK1.out.call hbw)
    have HW2 := Lib.hid (HW1.out.trans (hbw.mono HW1.out.size))
    clear hbw q0 q1 q2 q3 q4 q5 q6 HK1 HW1
    obtain ⟨⟨q0, q1, q2, q3, q4, q5, q6⟩, -, -⟩ := HK2.out.seven
    by_cases hd : d > 200
    · go_wp2_with fail
      refine (HH.out _ HW2.out).mono ?_
      rintro e w3 ⟨rfl, hb3⟩
      go_wp2_with fail
      go_ret
      exact ⟨rfl, HW2.out.trans (hb3.mono HW2.out.size)⟩
    · have hd' : d ≤ 200 := by omega
      clear hd
      go_wp2_with fail
      refine (HZ.out _ HW2.out).mono ?_
      rintro e w3 ⟨rfl, hbw⟩
      have HK3 := Lib.hid (HK2.out.call hbw)
      have HW3 := Lib.hid (HW2.out.trans (hbw.mono HW2.out.size))
      clear hbw q0 q1 q2 q3 q4 q5 q6 HK2 HW2
      obtain ⟨⟨q0, q1, q2, q3, q4, q5, q6⟩, -, -⟩ := HK3.out.seven
      by_cases hs : ((sizeT x : Nat) : Int) > 300
      · go_wp2_with fail
        refine (HH.out _ HW3.out).mono ?_
        rintro e w4 ⟨rfl, hb4⟩
        go_wp2_with fail
        go_ret
        exact ⟨rfl, HW3.out.trans (hb4.mono HW3.out.size)⟩
      · have hs' : ((sizeT x : Nat) : Int) ≤ 300 := by omega
        clear hs
        have hal : ∀ p ∈ allP [] x, p.length ≤ 67108864 := fun p hp => by
          have := all_len50 x (tree x) (by omega) [] p hp
          simp only [List.length_nil] at this
          omega
        have hal2 : ∀ p ∈ allP [] x, p.length ≤ 268435456 := fun p hp => by have := hal p hp; omega
        have hlp : ∀ (i : Nat) (h : i < (allP [] x).length), ((allP [] x)[i]).length ≤ 67108864 := fun i h => hal _ (List.getElem_mem h)
        have HP : Hid (∀ W, Below w.heap.size w W → Calls Tryd.prog 16 #[.agg #[.int .i64 x.f0, .bool x.f1.f0, .string x.f1.f1, .int .i64 x.f1.f2, .string x.f2, .slice A5 x.f3.length c5, .slice A6 x.f4.length c6]] W (Alled (allP [] x) W)) := fun W h => all_l x _ _ w W HX.out h h8 (HE.out.call h) HO.out.ok hal2 (by omega)
        have HF : Hid (∀ (i : Nat) (hi : i < (allP [] x).length) W, Below w.heap.size w W → Calls Tryd.prog 12 #[.agg #[.int .i64 x.f0, .bool x.f1.f0, .string x.f1.f1, .int .i64 x.f1.f2, .string x.f2, .slice A5 x.f3.length c5, .slice A6 x.f4.length c6], .string (str (allP [] x)[i])] W (Told (findV x (allP [] x)[i]) w W)) := fun i hi W h => find_l x _ _ _ (hlp i hi) w W HX.out h (HE.out.call h) HO.out.ok
        have HFV : Hid (∀ (i : Nat) (hi : i < (allP [] x).length), ∃ y, findV x (allP [] x)[i] = (some y, 0) ∧ (i = 0 → y = x)) := fun i hi => allP_find x HO.out hn hi
        have HNE : Hid (∀ (i j : Nat) (hi : i < (allP [] x).length) (hj : j < (allP [] x).length), i < j → (allP [] x)[i] ≠ (allP [] x)[j]) := fun i j hi hj => allP_apart x HO.out hn hi hj
        generalize allP [] x = ps at *
        clear hal hal2 hlp
        go_wp2_with fail
        refine (HP.out _ HW3.out).mono ?_
        rintro e w4 ⟨v4, rfl, hr4, hb4⟩
        obtain ⟨g4, cap4, rfl, -, -, hg4, hc4, -⟩ := hr4.form (by omega)
        have HROW : Hid (∀ (j : Nat) (hj : j < ps.length), w4.cell? ⟨g4, j, none⟩ = some (.string (str ps[j]))) := fun j hj => by
          rw [hc4 j (by omega)]
          simp [strs, hj]
        have HK4 := Lib.hid (HK3.out.call hb4)
        have HW4 := Lib.hid (HW3.out.trans (hb4.mono HW3.out.size))
        clear hb4 hr4 hc4 q0 q1 q2 q3 q4 q5 q6 HK3 HW3
        obtain ⟨⟨q0, q1, q2, q3, q4, q5, q6⟩, -, -⟩ := HK4.out.seven
        go_wp2_with fail
        refine (HZ.out _ HW4.out).mono ?_
        rintro e w5 ⟨rfl, hbw⟩
        have HK5 := Lib.hid (HK4.out.call hbw)
        have HW5 := Lib.hid (HW4.out.trans (hbw.mono HW4.out.size))
        have HROW5 : Hid (∀ (j : Nat) (hj : j < ps.length), w5.cell? ⟨g4, j, none⟩ = some (.string (str ps[j]))) := fun j hj => (hbw.cell (p := ⟨g4, j, none⟩) hg4).trans (HROW.out j hj)
        have hg5 : g4 < w5.heap.size := Nat.lt_of_lt_of_le hg4 hbw.size
        clear hbw q0 q1 q2 q3 q4 q5 q6 HK4 HW4 HROW
        have hpl : 0 < ps.length := by omega
        have p0 : w5.cell? ⟨g4, 0, none⟩ = some (.string ⟨#[]⟩) := by
          rw [HROW5.out 0 hpl]
          have := HFIRST.out
          simp only [List.getD, List.getElem?_eq_getElem hpl, Option.getD_some] at this
          rw [this]
          rfl
        rw [hcnt]
        go_wp2_with fail
        go_loopw [4] (fun i wr => ∃ k : Nat, k ≤ ps.length ∧ i = .int .i64 k ∧ Hid (Below w5.heap.size w5 wr)) (fun i _ => ps.length - (intOf i).toNat)
        case atStart => exact ⟨0, Nat.zero_le _, rfl, Below.refl _ _⟩
        case round =>
          clear p0
          obtain ⟨k, hk, rfl, HB⟩ := hrel
          have HWr := Lib.hid (HW5.out.trans (HB.out.mono HW5.out.size))
          by_cases hlt : k < ps.length
          · have HKr := Lib.hid (HK5.out.call HB.out)
            have cA : wr.cell? ⟨g4, k, none⟩ = some (.string (str ps[k])) := (HB.out.cell (p := ⟨g4, k, none⟩) hg5).trans (HROW5.out k hlt)
            obtain ⟨y, hfy, hy0⟩ := HFV.out k hlt
            have HFk := Lib.hid (HF.out k hlt)
            rw [hfy] at HFk
            have HY0 := Lib.hid hy0
            have hgr : g4 < wr.heap.size := Nat.lt_of_lt_of_le hg5 HB.out.size
            have hvr : w.heap.size < wr.heap.size := HKr.out.lt
            clear hfy hy0
            obtain ⟨pk, hpk⟩ : ∃ pk, ps[k] = pk := ⟨_, rfl⟩
            rw [hpk] at cA HFk
            go_wp2_with fail
            go_cut [5, 6] (fun s5 s6 W => PointsA y w s5 s6 W ∧ Hid (Below w5.heap.size w5 W))
            case first =>
              go_region_held3 (fun w' => w'.cell? ⟨g4, k, none⟩ = some (.string (str pk)) ∧ w'.cell? ⟨w.heap.size, 0, none⟩ = some (.int .i64 x.f0) ∧ w'.cell? ⟨w.heap.size, 1, none⟩ = some (.bool x.f1.f0) ∧ w'.cell? ⟨w.heap.size, 2, none⟩ = some (.string x.f1.f1) ∧ w'.cell? ⟨w.heap.size, 3, none⟩ = some (.int .i64 x.f1.f2) ∧ w'.cell? ⟨w.heap.size, 4, none⟩ = some (.string x.f2) ∧ w'.cell? ⟨w.heap.size, 5, none⟩ = some (.slice A5 x.f3.length c5) ∧ w'.cell? ⟨w.heap.size, 6, none⟩ = some (.slice A6 x.f4.length c6)) (first | (with_reducible exact held8 cA HKr.out) | (with_reducible exact held8 (cell_drew cA) HKr.out.drew) | (with_reducible exact held8 (cell_allocs cA hgr _) (HKr.out.alloc _)) | (with_reducible exact held8 (cell_drew (cell_allocs cA hgr _)) (HKr.out.alloc _).drew) | (with_reducible exact held8 cB HK6.out) | (with_reducible exact held8 (cell_allocs cB hg6 _) (HK6.out.alloc _)) | (with_reducible exact held8 (cell_store7' cB (Nat.ne_of_lt hgr) _ _ _ _ _ _ _) (HK6.out.store7' (Nat.ne_of_lt hvr) _ _ _ _ _ _ _))) (first
                | (go_at_call 12; have hc := HFk.out wr.drew HWr.out.drew; (with_reducible refine hc.mono ?_); clear hc; rintro e w6 ⟨y5, y6, rfl, hv6, hb6⟩; have HK6 := Lib.hid (HKr.out.drew.call hb6); have HB6 := Lib.hid (HB.out.drew.trans (hb6.mono HB.out.size)); have cB := (hb6.cell (p := ⟨g4, k, none⟩) hgr).trans cA; have hg6 : g4 < w6.heap.size := Nat.lt_of_lt_of_le hgr hb6.size; obtain ⟨D5, d5, D6, d6, rfl, rfl⟩ := hv6.open; have HV6 := Lib.hid hv6; clear hv6 hb6)
                | (go_at_call 12; have hc := fun o => HFk.out (wr.alloc o).drew (HWr.out.alloc HWr.out.size o).drew; (with_reducible refine (hc _).mono ?_); clear hc; rintro e w6 ⟨y5, y6, rfl, hv6, hb6⟩; have HK6 := Lib.hid ((HKr.out.alloc _).drew.call hb6); have HB6 := Lib.hid ((HB.out.alloc HB.out.size _).drew.trans (hb6.mono (HB.out.alloc HB.out.size _).size)); have cB := (hb6.cell (p := ⟨g4, k, none⟩) (Nat.lt_of_lt_of_le hgr (by show wr.heap.size ≤ (wr.alloc _).heap.size; simp))).trans (cell_allocs cA hgr _); have hg6 : g4 < w6.heap.size := Nat.lt_of_lt_of_le hgr (Nat.le_trans (by show wr.heap.size ≤ (wr.alloc _).heap.size; simp) hb6.size); have HA6 := Lib.hid ((Blk.new wr [.int .i64 0, .bool false, .string ⟨#[]⟩, .int .i64 0, .string ⟨#[]⟩, .slice none 0 0, .slice none 0 0] 28).drew.call hb6); obtain ⟨⟨a0, a1, a2, a3, a4, a5, a6⟩, ⟨f0, f1, f2, f3, f4, f5, f6⟩, hsh⟩ := HA6.out.seven; obtain ⟨D5, d5, D6, d6, rfl, rfl⟩ := hv6.open; have HV6 := Lib.hid hv6; clear hv6 hb6))
              all_goals (go_wp2_with fail; go_meet; refine ⟨?_, ?_⟩)
              all_goals first
                | (with_reducible exact Lib.hid (HB6.out.alloc HB6.out.size _))
                | (with_reducible exact Lib.hid (below_store7' HB6.out HB.out.size _ _ _ _ _ _ _))
                | ((with_reducible show PointsA _ _ _ _ (World.alloc _ _)); exact ⟨w6.heap.size, _, _, rfl, rfl, Lib.hid (Blk.new w6 (vcs y (.slice D5 y.f3.length d5) (.slice D6 y.f4.length d6)) 28), HV6⟩)
                | ((with_reducible show PointsA _ _ _ _ (World.setCell _ ⟨wr.heap.size, _, _⟩ _)); exact ⟨wr.heap.size, _, _, rfl, rfl, Lib.hid (HA6.out.set7' (.int .i64 y.f0) (.bool y.f1.f0) (.string y.f1.f1) (.int .i64 y.f1.f2) (.string y.f2) (.slice D5 y.f3.length d5) (.slice D6 y.f4.length d6)), HV6⟩)
            case rest =>
              obtain ⟨⟨g, y5, y6, rfl, rfl, HA7, HV7⟩, HB7⟩ := hcut
              clear HFk HKr HWr HB cA hpk hgr hvr
              rename World => w7
              have HW7 := Lib.hid (HW5.out.trans (HB7.out.mono HW5.out.size))
              have HK7 := Lib.hid (HK5.out.call HB7.out)
              by_cases hk0 : k = 0
              · have ey := HY0.out hk0
                subst ey
                have hkz : ((k : Int) == 0) = true := by subst hk0; rfl
                obtain ⟨E5, n5, E6, n6, rfl, rfl⟩ := HV7.out.open
                obtain ⟨⟨t0, t1, t2, t3, t4, t5, t6⟩, -, -⟩ := Blk.seven HA7.out
                obtain ⟨⟨s0, s1, s2, s3, s4, s5, s6⟩, -, -⟩ := HK7.out.seven
                go_wp2_with fail
                refine (HSM.out _ _ _ HV7.out (by first | exact HW7.out | exact HW7.out.drew)).mono ?_
                rintro e w8 ⟨rfl, hb8⟩
                have HBX := Lib.hid (HB7.out.trans (hb8.mono HB7.out.size))
                clear hb8
                go_wp2_with fail
                go_loopw [7] (fun j wr => ∃ m : Nat, m ≤ k ∧ j = .int .i64 m ∧ Hid (Below w5.heap.size w5 wr)) (fun j _ => k - (intOf j).toNat)
                case atStart => exact ⟨0, Nat.zero_le _, rfl, HBX.out⟩
                case round =>
                  obtain ⟨m, hm, rfl, HBm⟩ := hrel
                  rename World => wm
                  by_cases hmk : m < k
                  · exfalso; omega
                  · obtain rfl : m = k := by omega
                    go_wp2_with fail
                    go_roundw
                    case measure => simp only [intOf]; omega
                    case rel => exact ⟨m + 1, by omega, by go_num, HBm.out⟩
              · have hkz : ((k : Int) == 0) = false := by simp; omega
                have HBX := HB7
                go_wp2_with fail
                go_loopw [7] (fun j wr => ∃ m : Nat, m ≤ k ∧ j = .int .i64 m ∧ Hid (Below w5.heap.size w5 wr)) (fun j _ => k - (intOf j).toNat)
                case atStart => exact ⟨0, Nat.zero_le _, rfl, HBX.out⟩
                case round =>
                  obtain ⟨m, hm, rfl, HBm⟩ := hrel
                  rename World => wm
                  by_cases hmk : m < k
                  · have cM : wm.cell? ⟨g4, m, none⟩ = some (.string (str ps[m])) := (HBm.out.cell (p := ⟨g4, m, none⟩) hg5).trans (HROW5.out m (by omega))
                    have cK : wm.cell? ⟨g4, k, none⟩ = some (.string (str ps[k])) := (HBm.out.cell (p := ⟨g4, k, none⟩) hg5).trans (HROW5.out k hlt)
                    have hne : (ps[m] == ps[k]) = false := by simpa using HNE.out m k (by omega) hlt hmk
                    have e1 := str_toList ps[m]
                    have e2 := str_toList ps[k]
                    have hml : m < ps.length := by omega
                    have hcon : (∀ n : Nat, n < ps.length → (n : Int) < ps.length) := fun n h => by omega
                    generalize ps[m] = pm at *
                    generalize ps[k] = pkk at *
                    go_wp2_with fail
                    go_quiet (fail)
                    go_wp2_with fail
                    go_roundw
                    case measure => simp only [intOf]; omega
                    case rel => exact ⟨m + 1, by omega, by go_num, below_drewNA HBm.out _⟩
                  · obtain rfl : m = k := by omega
                    go_wp2_with fail
                    go_roundw
                    case measure => simp only [intOf]; omega
                    case rel => exact ⟨m + 1, by omega, by go_num, HBm.out⟩
          · obtain rfl : k = ps.length := by omega
            go_wp2_with fail
            refine (HH.out _ HWr.out).mono ?_
            rintro e w6 ⟨rfl, hb6⟩
            go_wp2_with fail
            go_ret
            exact ⟨rfl, HWr.out.trans (hb6.mono HWr.out.size)⟩
  · have hr0 : (r != 0) = true := by simpa using h0
    go_wp2_with fail
    refine (HH.out _ HW1.out).mono ?_
    rintro e w3 ⟨rfl, hb3⟩
    go_wp2_with fail
    go_ret
    exact ⟨rfl, HW1.out.trans (hb3.mono HW1.out.size)⟩
end Go.Proofs.YthicgeiljficbaaDoor

