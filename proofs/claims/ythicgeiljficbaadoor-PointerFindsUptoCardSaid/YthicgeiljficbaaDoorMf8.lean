import Derived.Test.YthicgeiljficbaaDoorMf3
import Derived.Deep.Upon
import Derived.Test.YthicgeiljficbaaDoorMf6
import Derived.Test.YthicgeiljficbaaDoorMf7
/- caliperref06.Check, Depth, Same: what they answer of trees. -/
namespace Go.Proofs.YthicgeiljficbaaDoor
open Go.RowKit Go.Proofs.YthicgeiljficbaaDoor.Ref Go.Proofs.YthicgeiljficbaaDoorW.PrintWords Go.Proofs.YthicgeiljficbaaDoorW.PrintLast
set_option linter.unusedSimpArgs false
set_option linter.unusedVariables false
set_option linter.unnecessarySimpa false

/-- what Check answers -/
def Checked6 (x : S28) (w : World) (e : Ending) (w' : World) : Prop := ∃ r : Int, e = .returned (.int .i64 r) ∧ (r = 0 → OkT x) ∧ Below w.heap.size w w'
theorem checkR_l (x : S28) (v5 v6 : Value) (w0 w : World) (hx : VK w0 x v5 v6) (h0 : Below w0.heap.size w0 w) (hb : bulkT x ≤ 1048576) : Calls Tryd.prog 9 #[.agg (vcs x v5 v6).toArray] w (Checked6 x w) := by
  obtain ⟨b, h1, h2⟩ := right_ex x (tree x) hb 10000 (fuelT x) (Nat.le_refl _)
  unfold rightT at h1
  have hf : caliperref06_Check.f (fuelT x) x.f0 x.f1.f0 x.f1.f1 x.f1.f2 x.f2 x.f3 x.f4 = some (if b = true then 0 else 60) := by
    unfold caliperref06_Check.f
    rw [h1]
    cases b <;> rfl
  obtain ⟨A5, c5, A6, c6, rfl, rfl, l5, g5, l6, g6⟩ := hx
  refine (caliperref06_Check.calls (fuelT x) x.f0 x.f1.f0 x.f1.f1 x.f1.f2 x.f2 A5 c5 x.f3 A6 c6 x.f4 _ w (Kd.C_below g5 h0) l5 (Kd.C_below g6 h0) l6 hf).mono ?_
  rintro e w' ⟨rfl, hb'⟩
  refine ⟨_, rfl, fun h => ?_, hb'⟩
  cases b with
  | true => exact h2 rfl
  | false => simp at h

theorem depth_ex (x : S28) (ht : Tree x) : bulkT x ≤ 1048576 → ∀ k, fuelT x ≤ k → ∃ r, caliperref06_Depth.f k x.f0 x.f1.f0 x.f1.f1 x.f1.f2 x.f2 x.f3 x.f4 = some r := by
  induction ht with
  | mk x h ih =>
    intro hb k hk
    rw [fuelT_eq] at hk
    have hbx := hb
    rw [bulkT_eq] at hbx
    have hl := bulkL_len x.f3
    obtain ⟨k, rfl⟩ : ∃ j, k = j + 1 := ⟨k - 1, by omega⟩
    rw [caliperref06_Depth.f]
    split
    · exact ⟨_, rfl⟩
    · have loop : ∀ d i, i + d = x.f3.length → ∀ (m : Int) k, d + 1 + fuelL x.f3 ≤ k → ∃ r, caliperref06_Depth.l0 k m i x.f0 x.f1.f0 x.f1.f1 x.f1.f2 x.f2 x.f3 x.f4 = some r := by
        intro d
        induction d with
        | zero =>
          intro i hi m k hk
          obtain ⟨k, rfl⟩ : ∃ j, k = j + 1 := ⟨k - 1, by omega⟩
          rw [caliperref06_Depth.l0, if_neg (by omega)]
          exact ⟨_, rfl⟩
        | succ d ihd =>
          intro i hi m k hk
          obtain ⟨k, rfl⟩ : ∃ j, k = j + 1 := ⟨k - 1, by omega⟩
          have hil : i < x.f3.length := by omega
          have hmem : x.f3.getD i z28 ∈ x.f3 := by simp [List.getD, hil]
          have hrd : rd_T28 x.f3 (i : Int) = x.f3.getD i z28 := by unfold rd_T28; rw [Int.toNat_natCast]
          have hfm := fuel_mem hmem
          have hbm := bulk_mem hmem
          obtain ⟨r, hr⟩ := ih _ hmem (by omega) k (by omega)
          rw [caliperref06_Depth.l0, if_pos (by omega), if_pos (by omega), hrd, hr]
          simp only [Option.bind_some]
          rw [wrT1 i (by omega)]
          exact ihd (i + 1) (by omega) _ k (by omega)
      exact loop x.f3.length 0 (by omega) 0 k (by omega)
def Deep6 (w : World) (e : Ending) (w' : World) : Prop := ∃ r : Int, e = .returned (.int .i64 r) ∧ Below w.heap.size w w'
theorem depthR_l (x : S28) (v5 v6 : Value) (w0 w : World) (hx : VK w0 x v5 v6) (h0 : Below w0.heap.size w0 w) (hb : bulkT x ≤ 1048576) : Calls Tryd.prog 10 #[.agg (vcs x v5 v6).toArray] w (Deep6 w) := by
  obtain ⟨r, hf⟩ := depth_ex x (tree x) hb (fuelT x) (Nat.le_refl _)
  obtain ⟨A5, c5, A6, c6, rfl, rfl, l5, g5, l6, g6⟩ := hx
  refine (caliperref06_Depth.calls (fuelT x) x.f0 x.f1.f0 x.f1.f1 x.f1.f2 x.f2 A5 c5 x.f3 A6 c6 x.f4 r w (Kd.C_below g5 h0) l5 (Kd.C_below g6 h0) l6 hf).mono ?_
  rintro e w' ⟨rfl, hb'⟩
  exact ⟨r, rfl, hb'⟩

def sameT (k : Nat) (x : S28) : Option Bool := caliperref06_Same.f k x.f0 x.f1.f0 x.f1.f1 x.f1.f2 x.f2 x.f3 x.f4 x.f0 x.f1.f0 x.f1.f1 x.f1.f2 x.f2 x.f3 x.f4
theorem same_ex (x : S28) (ht : Tree x) : bulkT x ≤ 1048576 → ∀ k, fuelT x ≤ k → sameT k x = some true := by
  induction ht with
  | mk x h ih =>
    intro hb k hk
    rw [fuelT_eq] at hk
    have hbx := hb
    rw [bulkT_eq] at hbx
    have hl := bulkL_len x.f3
    have hkl := keys_len x.f4
    have hmul : (x.f4.length + 1) * (x.f4.length + 3) = x.f4.length * (x.f4.length + 3) + (x.f4.length + 3) := by rw [Nat.add_mul, Nat.one_mul]
    rw [hmul] at hk
    have l1 : ∀ d i, i + d = x.f3.length → ∀ k, d + 1 + fuelL x.f3 ≤ k → caliperref06_Same.l1 k i x.f0 x.f1.f0 x.f1.f1 x.f1.f2 x.f2 x.f3 x.f4 x.f0 x.f1.f0 x.f1.f1 x.f1.f2 x.f2 x.f3 x.f4 = some true := by
      intro d
      induction d with
      | zero =>
        intro i hi k hk
        obtain ⟨k, rfl⟩ : ∃ j, k = j + 1 := ⟨k - 1, by omega⟩
        rw [caliperref06_Same.l1, if_neg (by omega)]
      | succ d ihd =>
        intro i hi k hk
        obtain ⟨k, rfl⟩ : ∃ j, k = j + 1 := ⟨k - 1, by omega⟩
        have hil : i < x.f3.length := by omega
        have hmem : x.f3.getD i z28 ∈ x.f3 := by simp [List.getD, hil]
        have hrd : rd_T28 x.f3 (i : Int) = x.f3.getD i z28 := by unfold rd_T28; rw [Int.toNat_natCast]
        have hfm := fuel_mem hmem
        have hbm := bulk_mem hmem
        have hr := ih _ hmem (by omega) k (by omega)
        unfold sameT at hr
        rw [caliperref06_Same.l1, if_pos (by omega), if_pos (by omega), if_pos (by omega), hrd, hr]
        simp only [Option.bind_some]
        rw [if_pos trivial, wrT1 i (by omega)]
        exact ihd (i + 1) (by omega) k (by omega)
    have l0 : ∀ d i, i + d = x.f4.length → ∀ k, d + 2 + (x.f3.length + fuelL x.f3) ≤ k → caliperref06_Same.l0 k i x.f0 x.f1.f0 x.f1.f1 x.f1.f2 x.f2 x.f3 x.f4 x.f0 x.f1.f0 x.f1.f1 x.f1.f2 x.f2 x.f3 x.f4 = some true := by
      intro d
      induction d with
      | zero =>
        intro i hi k hk
        obtain ⟨k, rfl⟩ : ∃ j, k = j + 1 := ⟨k - 1, by omega⟩
        rw [caliperref06_Same.l0, if_neg (by omega)]
        exact l1 x.f3.length 0 (by omega) k (by omega)
      | succ d ihd =>
        intro i hi k hk
        obtain ⟨k, rfl⟩ : ∃ j, k = j + 1 := ⟨k - 1, by omega⟩
        rw [caliperref06_Same.l0, if_pos (by omega), if_pos (by omega), if_pos (by omega), if_pos rfl, wrT1 i (by omega)]
        exact ihd (i + 1) (by omega) k (by omega)
    obtain ⟨k, rfl⟩ : ∃ j, k = j + 2 := ⟨k - 2, by omega⟩
    unfold sameT
    rw [caliperref06_Same.f, if_pos rfl, if_neg (by simp), if_pos rfl, if_pos rfl]
    have e : ((x.f4.length : Int) != (x.f4.length : Int)) = false := by simp
    rw [e, caliperref06_Same.j0, if_neg (by simp)]
    have hz : x.f4.length ≤ x.f4.length * (x.f4.length + 3) := Nat.le_mul_of_pos_right _ (by omega)
    exact l0 x.f4.length 0 (by omega) k (by omega)
/-- the same tree twice -/
theorem sameR_l (x : S28) (v5 v6 u5 u6 : Value) (w0 w : World) (hx : VK w0 x v5 v6) (hy : VK w0 x u5 u6) (h0 : Below w0.heap.size w0 w) (hb : bulkT x ≤ 1048576) :
    Calls Tryd.prog 14 #[.agg (vcs x v5 v6).toArray, .agg (vcs x u5 u6).toArray] w (New (.bool true) w) := by
  have hf := same_ex x (tree x) hb (fuelT x) (Nat.le_refl _)
  unfold sameT at hf
  obtain ⟨A5, c5, A6, c6, rfl, rfl, l5, g5, l6, g6⟩ := hx
  obtain ⟨B5, d5, B6, d6, rfl, rfl, m5, k5, m6, k6⟩ := hy
  exact caliperref06_Same.calls (fuelT x) x.f0 x.f1.f0 x.f1.f1 x.f1.f2 x.f2 A5 c5 x.f3 A6 c6 x.f4 x.f0 x.f1.f0 x.f1.f1 x.f1.f2 x.f2 B5 d5 x.f3 B6 d6 x.f4 true w (Kd.C_below g5 h0) l5 (Kd.C_below g6 h0) l6 (Kd.C_below k5 h0) m5 (Kd.C_below k6 h0) m6 hf
end Go.Proofs.YthicgeiljficbaaDoor

namespace Go.Proofs.YthicgeiljficbaaDoor
open Go.RowKit Go.Proofs.YthicgeiljficbaaDoor.Ref Go.Proofs.YthicgeiljficbaaDoorW.PrintWords Go.Proofs.YthicgeiljficbaaDoorW.PrintLast
set_option linter.unusedSimpArgs false
set_option linter.unusedVariables false
set_option linter.unnecessarySimpa false

/-- what is kept through the region: blocks of a value each, all that lies below -/
structure SL (w W : World) (L : List (Nat × List Value)) : Prop where
  k : ∀ p ∈ L, Blk W p.1 p.2 28
  b : Below w.heap.size w W
theorem SL.k0 {w W : World} {b : Nat} {cs : List Value} {L : List (Nat × List Value)} (h : SL w W ((b, cs) :: L)) : Blk W b cs 28 := h.k _ List.mem_cons_self
theorem SL.k1 {w W : World} {b : Nat} {cs : List Value} {p : Nat × List Value} {L : List (Nat × List Value)} (h : SL w W (p :: (b, cs) :: L)) : Blk W b cs 28 := h.k (b, cs) (by simp)
theorem SL.k2 {w W : World} {b : Nat} {cs : List Value} {p q : Nat × List Value} {L : List (Nat × List Value)} (h : SL w W (p :: q :: (b, cs) :: L)) : Blk W b cs 28 := h.k (b, cs) (by simp)
theorem SL.two {w W : World} {b1 b2 : Nat} {c1 c2 : List Value} (h1 : Blk W b1 c1 28) (h2 : Blk W b2 c2 28) (h : Below w.heap.size w W) : SL w W [(b1, c1), (b2, c2)] := by
  refine ⟨?_, h⟩
  intro r hr
  simp only [List.mem_cons, List.not_mem_nil, or_false] at hr
  rcases hr with rfl | rfl
  · exact h1
  · exact h2
theorem SL.drew {w W : World} {L : List (Nat × List Value)} (h : SL w W L) : SL w W.drew L := ⟨fun p hp => (h.k p hp).drew, h.b.drew⟩
theorem SL.alloc {w W : World} {L : List (Nat × List Value)} (h : SL w W L) (o : Obj) : SL w (W.alloc o) L := ⟨fun p hp => (h.k p hp).alloc o, h.b.alloc h.b.size o⟩
theorem SL.call {w W W' : World} {L : List (Nat × List Value)} (h : SL w W L) (hb : Below W.heap.size W W') : SL w W' L := ⟨fun p hp => (h.k p hp).call hb, h.b.trans (hb.mono h.b.size)⟩
theorem SL.new {w W : World} {p q : Nat × List Value} (h : SL w W [p, q]) :
    SL w (W.alloc (.cells #[.int .i64 0, .bool false, .string ⟨#[]⟩, .int .i64 0, .string ⟨#[]⟩, .slice none 0 0, .slice none 0 0] 28)) [p, q, (W.heap.size, [.int .i64 0, .bool false, .string ⟨#[]⟩, .int .i64 0, .string ⟨#[]⟩, .slice none 0 0, .slice none 0 0])] := by
  refine ⟨?_, h.b.alloc h.b.size _⟩
  intro r hr
  simp only [List.mem_cons, List.not_mem_nil, or_false] at hr
  rcases hr with rfl | rfl | rfl
  · exact (h.k _ (by simp)).alloc _
  · exact (h.k _ (by simp)).alloc _
  · exact Blk.new W _ _
theorem Fr.blk {v v' : Value} {w w' : World} {b : Nat} {cs : List Value} {T : TypeId} (h : Fr v v' w w') (hk : Blk w b cs T) (hv : v.ownBlock ≠ some b) : Blk w' b cs T := (h.keep b hk.lt hv).trans hk
theorem walk_ok : ∀ (x y : S28) (a : List (List UInt8)), OkT x → walkV x a = some y → OkT y ∧ bulkT y ≤ bulkT x
  | x, y, [], hx, h => by
    rw [walkV] at h
    cases h
    exact ⟨hx, Nat.le_refl _⟩
  | x, y, p :: ps, hx, h => by
    rw [walkV] at h
    cases hs : stepV x p with
    | none => rw [hs] at h; cases h
    | some z =>
      rw [hs] at h
      have hm := stepV_mem hx.keys hs
      have ⟨h1, h2⟩ := walk_ok z y ps (hx.sub hm) h
      refine ⟨h1, ?_⟩
      have := bulk_mem hm
      rw [bulkT_eq x]
      omega
end Go.Proofs.YthicgeiljficbaaDoor

/- caliperlaw07.PointerFinds answers true. -/
namespace Go.Proofs.YthicgeiljficbaaDoor
open Go.RowKit Go.Proofs.YthicgeiljficbaaDoor.Ref Go.Proofs.YthicgeiljficbaaDoorW.PrintWords Go.Proofs.YthicgeiljficbaaDoorW.PrintLast
set_option linter.unusedSimpArgs false
set_option linter.unusedVariables false
set_option linter.unnecessarySimpa false
attribute [local go_sem] vcs

theorem held21 {W : World} {B X Y : Nat} {x0 x1 x2 x3 x4 x5 x6 y0 y1 y2 y3 y4 y5 y6 z0 z1 z2 z3 z4 z5 z6 : Value} {T : TypeId} (h : Blk W B [x0, x1, x2, x3, x4, x5, x6] T) (k : Blk W X [y0, y1, y2, y3, y4, y5, y6] T) (l : Blk W Y [z0, z1, z2, z3, z4, z5, z6] T) :
    W.cell? ⟨B, 0, none⟩ = some x0 ∧ W.cell? ⟨B, 1, none⟩ = some x1 ∧ W.cell? ⟨B, 2, none⟩ = some x2 ∧ W.cell? ⟨B, 3, none⟩ = some x3 ∧ W.cell? ⟨B, 4, none⟩ = some x4 ∧ W.cell? ⟨B, 5, none⟩ = some x5 ∧ W.cell? ⟨B, 6, none⟩ = some x6 ∧ W.cell? ⟨X, 0, none⟩ = some y0 ∧ W.cell? ⟨X, 1, none⟩ = some y1 ∧ W.cell? ⟨X, 2, none⟩ = some y2 ∧ W.cell? ⟨X, 3, none⟩ = some y3 ∧ W.cell? ⟨X, 4, none⟩ = some y4 ∧ W.cell? ⟨X, 5, none⟩ = some y5 ∧ W.cell? ⟨X, 6, none⟩ = some y6 ∧ W.cell? ⟨Y, 0, none⟩ = some z0 ∧ W.cell? ⟨Y, 1, none⟩ = some z1 ∧ W.cell? ⟨Y, 2, none⟩ = some z2 ∧ W.cell? ⟨Y, 3, none⟩ = some z3 ∧ W.cell? ⟨Y, 4, none⟩ = some z4 ∧ W.cell? ⟨Y, 5, none⟩ = some z5 ∧ W.cell? ⟨Y, 6, none⟩ = some z6 := by
  obtain ⟨⟨a0, a1, a2, a3, a4, a5, a6⟩, -, -⟩ := h.seven
  obtain ⟨⟨b0, b1, b2, b3, b4, b5, b6⟩, -, -⟩ := k.seven
  obtain ⟨⟨c0, c1, c2, c3, c4, c5, c6⟩, -, -⟩ := l.seven
  exact ⟨a0, a1, a2, a3, a4, a5, a6, b0, b1, b2, b3, b4, b5, b6, c0, c1, c2, c3, c4, c5, c6⟩

theorem find_bulk (x : S28) (l : List UInt8) (hx : OkT x) (hb : bulkT x ≤ 1048576) : bulkT ((findV x l).1.getD z28) ≤ 1048576 := by
  unfold findV
  cases parseP l with
  | none => show bulkT z28 ≤ 1048576; decide
  | some ws =>
    simp only
    cases h : walkV x ws with
    | none => show bulkT z28 ≤ 1048576; decide
    | some y => have := (walk_ok x y ws hx h).2; show bulkT y ≤ 1048576; omega

set_option maxRecDepth 100000 in
set_option maxHeartbeats 8000000 in
theorem finds_l (x : S28) (v5 v6 : Value) (l : List UInt8) (w : World) (hx : VK w x v5 v6) (hn : bulkT x + l.length ≤ 1048576) (he : EnvV w) :
    Calls Tryd.prog 3 #[.agg (vcs x v5 v6).toArray, .string (str l)] w (New (.bool true) w) := by
  have HC := Lib.hid (fun W (h : Below w.heap.size w W) => checkR_l x v5 v6 w W hx h (by omega))
  have HD := Lib.hid (fun W (h : Below w.heap.size w W) => depthR_l x v5 v6 w W hx h (by omega))
  have HH : Hid (∀ W, Below w.heap.size w W → Calls Tryd.prog 11 #[] W (New (.bool true) W)) := fun W hb => heads_any W (he.call hb)
  have HE := Lib.hid he
  have h8 := he.1
  have HX := Lib.hid hx
  obtain ⟨A5, c5, A6, c6, rfl, rfl⟩ := hx.open
  have hb1 : ∀ o : Obj, Below w.heap.size w (w.alloc o) := fun o => (Below.refl _ _).alloc (Nat.le_refl _) _
  have HB1 := Lib.hid hb1
  clear hx he hb1
  show Calls Tryd.prog 3 #[.agg #[.int .i64 x.f0, .bool x.f1.f0, .string x.f1.f1, .int .i64 x.f1.f2, .string x.f2, .slice A5 x.f3.length c5, .slice A6 x.f4.length c6], .string (str l)] w _
  go_enter Tryd.func3, Tryd.ntmps3
  go_wp2_with fail
  refine (HC.out _ (HB1.out _)).mono ?_
  rintro e w1 ⟨r, rfl, hr, hbw⟩
  have HK1 : Hid (Blk w1 w.heap.size [.int .i64 x.f0, .bool x.f1.f0, .string x.f1.f1, .int .i64 x.f1.f2, .string x.f2, .slice A5 x.f3.length c5, .slice A6 x.f4.length c6] 28) := (Blk.new w [.int .i64 x.f0, .bool x.f1.f0, .string x.f1.f1, .int .i64 x.f1.f2, .string x.f2, .slice A5 x.f3.length c5, .slice A6 x.f4.length c6] 28).call hbw
  have HW1 := Lib.hid ((HB1.out _).trans (hbw.mono (by simp)))
  have HR := Lib.hid hr
  clear hbw hr
  obtain ⟨⟨q0, q1, q2, q3, q4, q5, q6⟩, -, -⟩ := HK1.out.seven
  by_cases h0 : r = 0
  · subst h0
    have HO : Hid (OkT x) := HR.out rfl
    go_wp2_with fail
    refine (HD.out _ HW1.out).mono ?_
    rintro e w2 ⟨d, rfl, hbw⟩
    have HK2 := Lib.hid (HK1.out.call hbw)
    have HW2 := Lib.hid (HW1.out.trans (hbw.mono HW1.out.size))
    clear hbw q0 q1 q2 q3 q4 q5 q6 HK1 HW1
    obtain ⟨⟨q0, q1, q2, q3, q4, q5, q6⟩, -, -⟩ := HK2.out.seven
    by_cases hd : d > 200
    · go_wp2_with fail
      refine (HH.out _ HW2.out).mono ?_
      rintro e w3 ⟨rfl, hb3⟩
      go_wp2_with fail
      go_ret
      exact ⟨rfl, HW2.out.trans (hb3.mono HW2.out.size)⟩
    · have hd' : d ≤ 200 := by omega
      clear hd
      have HF : Hid (∀ W, Below w.heap.size w W → Calls Tryd.prog 12 #[.agg #[.int .i64 x.f0, .bool x.f1.f0, .string x.f1.f1, .int .i64 x.f1.f2, .string x.f2, .slice A5 x.f3.length c5, .slice A6 x.f4.length c6], .string (str l)] W (Told (findV x l) w W)) := fun W h => find_l x _ _ l (by omega) w W HX.out h (HE.out.call h) HO.out
      have HG : Hid (∀ W, Below w.heap.size w W → Calls Tryd.prog 13 #[.agg #[.int .i64 x.f0, .bool x.f1.f0, .string x.f1.f1, .int .i64 x.f1.f2, .string x.f2, .slice A5 x.f3.length c5, .slice A6 x.f4.length c6], .string (str l)] W (Told (findV x l) w W)) := fun W h => findR_l x _ _ l (by omega) w W HX.out h (HE.out.call h) HO.out
      have hal : ∀ p ∈ allP [] x, p.length ≤ 268435456 := fun p hp => by
        have := all_len x (tree x) (by omega) [] p hp
        simp only [List.length_nil] at this
        omega
      have hac : (allP [] x).length ≤ 1048576 := by
        rw [all_count x (tree x)]
        have := size_le x (tree x)
        omega
      have HP : Hid (∀ W, Below w.heap.size w W → Calls Tryd.prog 16 #[.agg #[.int .i64 x.f0, .bool x.f1.f0, .string x.f1.f1, .int .i64 x.f1.f2, .string x.f2, .slice A5 x.f3.length c5, .slice A6 x.f4.length c6]] W (Alled (allP [] x) W)) := fun W h => all_l x _ _ w W HX.out h h8 (HE.out.call h) HO.out hal (by omega)
      have HQ : Hid (∀ W, Below w.heap.size w W → Calls Tryd.prog 17 #[.agg #[.int .i64 x.f0, .bool x.f1.f0, .string x.f1.f1, .int .i64 x.f1.f2, .string x.f2, .slice A5 x.f3.length c5, .slice A6 x.f4.length c6]] W (Alled (allP [] x) W)) := fun W h => allsR_l x _ _ w W HX.out h h8 (HE.out.call h) HO.out (by omega) hal (by omega)
      have hbk := find_bulk x l HO.out (by omega)
      generalize allP [] x = ps at *
      generalize findV x l = fa at *
      clear hal
      go_wp2_with fail
      refine (HF.out _ HW2.out).mono ?_
      rintro e w3 ⟨y5, y6, rfl, hv, hb3⟩
      obtain ⟨D5, d5, D6, d6, rfl, rfl⟩ := hv.open
      have HV := Lib.hid hv
      have HK3 := Lib.hid (HK2.out.call hb3)
      have HW3 := Lib.hid (HW2.out.trans (hb3.mono HW2.out.size))
      clear hb3 hv q0 q1 q2 q3 q4 q5 q6 HK2 HW2
      go_upto_region 4 with (fail)
      have ha := Blk.new w3 [.int .i64 (fa.1.getD z28).f0, .bool (fa.1.getD z28).f1.f0, .string (fa.1.getD z28).f1.f1, .int .i64 (fa.1.getD z28).f1.f2, .string (fa.1.getD z28).f2, .slice D5 (fa.1.getD z28).f3.length d5, .slice D6 (fa.1.getD z28).f4.length d6] 28
      have hk := HK3.out.alloc (.cells #[.int .i64 (fa.1.getD z28).f0, .bool (fa.1.getD z28).f1.f0, .string (fa.1.getD z28).f1.f1, .int .i64 (fa.1.getD z28).f1.f2, .string (fa.1.getD z28).f2, .slice D5 (fa.1.getD z28).f3.length d5, .slice D6 (fa.1.getD z28).f4.length d6] 28)
      have hw := HW3.out.alloc HW3.out.size (.cells #[.int .i64 (fa.1.getD z28).f0, .bool (fa.1.getD z28).f1.f0, .string (fa.1.getD z28).f1.f1, .int .i64 (fa.1.getD z28).f1.f2, .string (fa.1.getD z28).f2, .slice D5 (fa.1.getD z28).f3.length d5, .slice D6 (fa.1.getD z28).f4.length d6] 28)
      obtain ⟨X1, hX1⟩ : ∃ X1, w3.heap.size = X1 := ⟨_, rfl⟩
      rw [hX1] at ha ⊢
      generalize w3.alloc (.cells #[.int .i64 (fa.1.getD z28).f0, .bool (fa.1.getD z28).f1.f0, .string (fa.1.getD z28).f1.f1, .int .i64 (fa.1.getD z28).f1.f2, .string (fa.1.getD z28).f2, .slice D5 (fa.1.getD z28).f3.length d5, .slice D6 (fa.1.getD z28).f4.length d6] 28) = w4 at *
      have HA4 := Lib.hid ha
      have HK4 := Lib.hid hk
      have HW4 := Lib.hid hw
      clear ha hk hw HK3 HW3 hX1
      obtain ⟨⟨q0, q1, q2, q3, q4, q5, q6⟩, -, -⟩ := HK4.out.seven
      go_wp2_with fail
      refine (HG.out _ HW4.out).mono ?_
      rintro e w5 ⟨y5, y6, rfl, hv, hb5⟩
      obtain ⟨E5, e5, E6, e6, rfl, rfl⟩ := hv.open
      have HU := Lib.hid hv
      have HA5 := Lib.hid (HA4.out.call hb5)
      have HK5 := Lib.hid (HK4.out.call hb5)
      have HW5 := Lib.hid (HW4.out.trans (hb5.mono HW4.out.size))
      clear hb5 hv q0 q1 q2 q3 q4 q5 q6 HK4 HW4 HA4
      go_upto_region 5 with (fail)
      have ha := Blk.new w5 [.int .i64 (fa.1.getD z28).f0, .bool (fa.1.getD z28).f1.f0, .string (fa.1.getD z28).f1.f1, .int .i64 (fa.1.getD z28).f1.f2, .string (fa.1.getD z28).f2, .slice E5 (fa.1.getD z28).f3.length e5, .slice E6 (fa.1.getD z28).f4.length e6] 28
      have hk := HK5.out.alloc (.cells #[.int .i64 (fa.1.getD z28).f0, .bool (fa.1.getD z28).f1.f0, .string (fa.1.getD z28).f1.f1, .int .i64 (fa.1.getD z28).f1.f2, .string (fa.1.getD z28).f2, .slice E5 (fa.1.getD z28).f3.length e5, .slice E6 (fa.1.getD z28).f4.length e6] 28)
      have hc := HA5.out.alloc (.cells #[.int .i64 (fa.1.getD z28).f0, .bool (fa.1.getD z28).f1.f0, .string (fa.1.getD z28).f1.f1, .int .i64 (fa.1.getD z28).f1.f2, .string (fa.1.getD z28).f2, .slice E5 (fa.1.getD z28).f3.length e5, .slice E6 (fa.1.getD z28).f4.length e6] 28)
      have hw := HW5.out.alloc HW5.out.size (.cells #[.int .i64 (fa.1.getD z28).f0, .bool (fa.1.getD z28).f1.f0, .string (fa.1.getD z28).f1.f1, .int .i64 (fa.1.getD z28).f1.f2, .string (fa.1.getD z28).f2, .slice E5 (fa.1.getD z28).f3.length e5, .slice E6 (fa.1.getD z28).f4.length e6] 28)
      obtain ⟨X2, hX2⟩ : ∃ X2, w5.heap.size = X2 := ⟨_, rfl⟩
      rw [hX2] at ha ⊢
      generalize w5.alloc (.cells #[.int .i64 (fa.1.getD z28).f0, .bool (fa.1.getD z28).f1.f0, .string (fa.1.getD z28).f1.f1, .int .i64 (fa.1.getD z28).f1.f2, .string (fa.1.getD z28).f2, .slice E5 (fa.1.getD z28).f3.length e5, .slice E6 (fa.1.getD z28).f4.length e6] 28) = w6 at *
      have HC6 := Lib.hid ha
      have HA6 := Lib.hid hc
      have HK6 := Lib.hid hk
      have HW6 := Lib.hid hw
      clear ha hk hw hc HK5 HW5 HA5 hX2
      have HSM := Lib.hid (fun W (h : Below w.heap.size w W) => sameR_l (fa.1.getD z28) _ _ _ _ w W HV.out HU.out h hbk)
      have heq : (fa.2 == fa.2) = true := by simp
      have HT : Hid (∀ W v u, Txts W v ps → Txts W u ps → Calls Tryd.prog 15 #[v, u] W (New (.bool true) W)) := fun W v u h k => by
        have := texts_l v u ps ps W h k (by omega) (by omega)
        rwa [decide_eq_true rfl] at this
      go_region_held3 (fun w' => w'.cell? ⟨w.heap.size, 0, none⟩ = some (.int .i64 x.f0) ∧ w'.cell? ⟨w.heap.size, 1, none⟩ = some (.bool x.f1.f0) ∧ w'.cell? ⟨w.heap.size, 2, none⟩ = some (.string x.f1.f1) ∧ w'.cell? ⟨w.heap.size, 3, none⟩ = some (.int .i64 x.f1.f2) ∧ w'.cell? ⟨w.heap.size, 4, none⟩ = some (.string x.f2) ∧ w'.cell? ⟨w.heap.size, 5, none⟩ = some (.slice A5 x.f3.length c5) ∧ w'.cell? ⟨w.heap.size, 6, none⟩ = some (.slice A6 x.f4.length c6) ∧ w'.cell? ⟨X1, 0, none⟩ = some (.int .i64 (fa.1.getD z28).f0) ∧ w'.cell? ⟨X1, 1, none⟩ = some (.bool (fa.1.getD z28).f1.f0) ∧ w'.cell? ⟨X1, 2, none⟩ = some (.string (fa.1.getD z28).f1.f1) ∧ w'.cell? ⟨X1, 3, none⟩ = some (.int .i64 (fa.1.getD z28).f1.f2) ∧ w'.cell? ⟨X1, 4, none⟩ = some (.string (fa.1.getD z28).f2) ∧ w'.cell? ⟨X1, 5, none⟩ = some (.slice D5 (fa.1.getD z28).f3.length d5) ∧ w'.cell? ⟨X1, 6, none⟩ = some (.slice D6 (fa.1.getD z28).f4.length d6) ∧ w'.cell? ⟨X2, 0, none⟩ = some (.int .i64 (fa.1.getD z28).f0) ∧ w'.cell? ⟨X2, 1, none⟩ = some (.bool (fa.1.getD z28).f1.f0) ∧ w'.cell? ⟨X2, 2, none⟩ = some (.string (fa.1.getD z28).f1.f1) ∧ w'.cell? ⟨X2, 3, none⟩ = some (.int .i64 (fa.1.getD z28).f1.f2) ∧ w'.cell? ⟨X2, 4, none⟩ = some (.string (fa.1.getD z28).f2) ∧ w'.cell? ⟨X2, 5, none⟩ = some (.slice E5 (fa.1.getD z28).f3.length e5) ∧ w'.cell? ⟨X2, 6, none⟩ = some (.slice E6 (fa.1.getD z28).f4.length e6)) (first | (with_reducible exact held21 HK6.out.drew HA6.out.drew HC6.out.drew) | (with_reducible exact held21 HK7.out HA7.out HC7.out) | (with_reducible exact held21 HK8.out HA8.out HC8.out) | (with_reducible exact held21 HK9.out HA9.out HC9.out) | (with_reducible exact held21 HK10.out HA10.out HC10.out) | (with_reducible exact held21 HK11.out HA11.out HC11.out)) (first
        | (go_at_call 14; refine (HSM.out w6.drew HW6.out.drew).mono ?_; rintro e w7 ⟨rfl, hb7⟩; have HW7 := Lib.hid (HW6.out.drew.trans (hb7.mono HW6.out.size)); have HK7 := Lib.hid (HK6.out.drew.call hb7); have HA7 := Lib.hid (HA6.out.drew.call hb7); have HC7 := Lib.hid (HC6.out.drew.call hb7); clear hb7)
        | (go_at_call 16; refine (HP.out w7 HW7.out).mono ?_; rintro e w8 ⟨v8, rfl, hr8, hb8⟩; obtain ⟨a8, c8, rfl, -⟩ := hr8.shape; have HR8 := Lib.hid hr8; have HW8 := Lib.hid (HW7.out.trans (hb8.mono HW7.out.size)); have HK8 := Lib.hid (HK7.out.call hb8); have HA8 := Lib.hid (HA7.out.call hb8); have HC8 := Lib.hid (HC7.out.call hb8); clear hb8 hr8)
        | (go_at_call 17; refine (HQ.out w8 HW8.out).mono ?_; rintro e w9 ⟨v9, rfl, hr9, hb9⟩; obtain ⟨a9, c9, rfl, -⟩ := hr9.shape; have HR9 := Lib.hid hr9; have HR89 := Lib.hid (HR8.out.call hb9); have HW9 := Lib.hid (HW8.out.trans (hb9.mono HW8.out.size)); have HK9 := Lib.hid (HK8.out.call hb9); have HA9 := Lib.hid (HA8.out.call hb9); have HC9 := Lib.hid (HC8.out.call hb9); clear hb9 hr9)
        | (go_at_call 15; refine (HT.out w9 _ _ (Txts.row HR89.out) (Txts.row HR9.out)).mono ?_; rintro e w10 ⟨rfl, hb10⟩; have HW10 := Lib.hid (HW9.out.trans (hb10.mono HW9.out.size)); have HK10 := Lib.hid (HK9.out.call hb10); have HA10 := Lib.hid (HA9.out.call hb10); have HC10 := Lib.hid (HC9.out.call hb10); clear hb10)
        | (go_at_call 11; refine (HH.out w10 HW10.out).mono ?_; rintro e w11 ⟨rfl, hb11⟩; have HW11 := Lib.hid (HW10.out.trans (hb11.mono HW10.out.size)); have HK11 := Lib.hid (HK10.out.call hb11); have HA11 := Lib.hid (HA10.out.call hb11); have HC11 := Lib.hid (HC10.out.call hb11); clear hb11))
      all_goals (go_wp2_with fail; go_ret; exact ⟨rfl, HW11.out⟩)
  · have hr0 : (r != 0) = true := by simpa using h0
    go_wp2_with fail
    refine (HH.out _ HW1.out).mono ?_
    rintro e w3 ⟨rfl, hb3⟩
    go_wp2_with fail
    go_ret
    exact ⟨rfl, HW1.out.trans (hb3.mono HW1.out.size)⟩
end Go.Proofs.YthicgeiljficbaaDoor

