/- caliperref06.Check, Depth, Same: what they answer of trees. -/
import Derived.Test.YthicgeiljficbaaDoorPtrP
import Derived.Deep.Upon
import Derived.Test.YthicgeiljficbaaDoorPtrRt
import Derived.Test.YthicgeiljficbaaDoorRef8
namespace Go.Proofs.YthicgeiljficbaaDoor
open Go.RowKit Go.Proofs.YthicgeiljficbaaDoor.Ref Go.Proofs.YthicgeiljficbaaDoorW.PrintWords Go.Proofs.YthicgeiljficbaaDoorW.PrintLast
set_option linter.unusedSimpArgs false
set_option linter.unusedVariables false
set_option linter.unnecessarySimpa false

/-- what Check answers -/
def Checked6 (x : S28) (w : World) (e : Ending) (w' : World) : Prop := ∃ r : Int, e = .returned (.int .i64 r) ∧ (r = 0 → OkT x) ∧ Below w.heap.size w w'
theorem checkR_l (x : S28) (v5 v6 : Value) (w0 w : World) (hx : VK w0 x v5 v6) (h0 : Below w0.heap.size w0 w) (hb : bulkT x ≤ 1048576) : Calls Tryd.prog 9 #[.agg (vcs x v5 v6).toArray] w (Checked6 x w) := by
  obtain ⟨b, h1, h2⟩ := right_ex x (tree x) hb 10000 (fuelT x) (Nat.le_refl _)
  unfold rightT at h1
  have hf : caliperref06_Check.f (fuelT x) x.f0 x.f1.f0 x.f1.f1 x.f1.f2 x.f2 x.f3 x.f4 = some (if b = true then 0 else 60) := by
    unfold caliperref06_Check.f
    rw [h1]
    cases b <;> rfl
  obtain ⟨A5, c5, A6, c6, rfl, rfl, l5, g5, l6, g6⟩ := hx
  refine (caliperref06_Check.calls (fuelT x) x.f0 x.f1.f0 x.f1.f1 x.f1.f2 x.f2 A5 c5 x.f3 A6 c6 x.f4 _ w (Kd.C_below g5 h0) l5 (Kd.C_below g6 h0) l6 hf).mono ?_
  rintro e w' ⟨rfl, hb'⟩
  refine ⟨_, rfl, fun h => ?_, hb'⟩
  cases b with
  | true => exact h2 rfl
  | false => simp at h

theorem depth_ex (x : S28) (ht : Tree x) : bulkT x ≤ 1048576 → ∀ k, fuelT x ≤ k → ∃ r, caliperref06_Depth.f k x.f0 x.f1.f0 x.f1.f1 x.f1.f2 x.f2 x.f3 x.f4 = some r := by
  induction ht with
  | mk x h ih =>
    intro hb k hk
    rw [fuelT_eq] at hk
    have hbx := hb
    rw [bulkT_eq] at hbx
    have hl := bulkL_len x.f3
    obtain ⟨k, rfl⟩ : ∃ j, k = j + 1 := ⟨k - 1, by omega⟩
    rw [caliperref06_Depth.f]
    split
    · exact ⟨_, rfl⟩
    · have loop : ∀ d i, i + d = x.f3.length → ∀ (m : Int) k, d + 1 + fuelL x.f3 ≤ k → ∃ r, caliperref06_Depth.l0 k m i x.f0 x.f1.f0 x.f1.f1 x.f1.f2 x.f2 x.f3 x.f4 = some r := by
        intro d
        induction d with
        | zero =>
          intro i hi m k hk
          obtain ⟨k, rfl⟩ : ∃ j, k = j + 1 := ⟨k - 1, by omega⟩
          rw [caliperref06_Depth.l0, if_neg (by omega)]
          exact ⟨_, rfl⟩
        | succ d ihd =>
          intro i hi m k hk
          obtain ⟨k, rfl⟩ : ∃ j, k = j + 1 := ⟨k - 1, by omega⟩
          have hil : i < x.f3.length := by omega
          have hmem : x.f3.getD i z28 ∈ x.f3 := by simp [List.getD, hil]
          have hrd : rd_T28 x.f3 (i : Int) = x.f3.getD i z28 := by unfold rd_T28; rw [Int.toNat_natCast]
          have hfm := fuel_mem hmem
          have hbm := bulk_mem hmem
          obtain ⟨r, hr⟩ := ih _ hmem (by omega) k (by omega)
          rw [caliperref06_Depth.l0, if_pos (by omega), if_pos (by omega), hrd, hr]
          simp only [Option.bind_some]
          rw [wrT1 i (by omega)]
          exact ihd (i + 1) (by omega) _ k (by omega)
      exact loop x.f3.length 0 (by omega) 0 k (by omega)
def Deep6 (w : World) (e : Ending) (w' : World) : Prop := ∃ r : Int, e = .returned (.int .i64 r) ∧ Below w.heap.size w w'
theorem depthR_l (x : S28) (v5 v6 : Value) (w0 w : World) (hx : VK w0 x v5 v6) (h0 : Below w0.heap.size w0 w) (hb : bulkT x ≤ 1048576) : Calls Tryd.prog 10 #[.agg (vcs x v5 v6).toArray] w (Deep6 w) := by
  obtain ⟨r, hf⟩ := depth_ex x (tree x) hb (fuelT x) (Nat.le_refl _)
  obtain ⟨A5, c5, A6, c6, rfl, rfl, l5, g5, l6, g6⟩ := hx
  refine (caliperref06_Depth.calls (fuelT x) x.f0 x.f1.f0 x.f1.f1 x.f1.f2 x.f2 A5 c5 x.f3 A6 c6 x.f4 r w (Kd.C_below g5 h0) l5 (Kd.C_below g6 h0) l6 hf).mono ?_
  rintro e w' ⟨rfl, hb'⟩
  exact ⟨r, rfl, hb'⟩

def sameT (k : Nat) (x : S28) : Option Bool := caliperref06_Same.f k x.f0 x.f1.f0 x.f1.f1 x.f1.f2 x.f2 x.f3 x.f4 x.f0 x.f1.f0 x.f1.f1 x.f1.f2 x.f2 x.f3 x.f4
theorem same_ex (x : S28) (ht : Tree x) : bulkT x ≤ 1048576 → ∀ k, fuelT x ≤ k → sameT k x = some true := by
  induction ht with
  | mk x h ih =>
    intro hb k hk
    rw [fuelT_eq] at hk
    have hbx := hb
    rw [bulkT_eq] at hbx
    have hl := bulkL_len x.f3
    have hkl := keys_len x.f4
    have hmul : (x.f4.length + 1) * (x.f4.length + 3) = x.f4.length * (x.f4.length + 3) + (x.f4.length + 3) := by rw [Nat.add_mul, Nat.one_mul]
    rw [hmul] at hk
    have l1 : ∀ d i, i + d = x.f3.length → ∀ k, d + 1 + fuelL x.f3 ≤ k → caliperref06_Same.l1 k i x.f0 x.f1.f0 x.f1.f1 x.f1.f2 x.f2 x.f3 x.f4 x.f0 x.f1.f0 x.f1.f1 x.f1.f2 x.f2 x.f3 x.f4 = some true := by
      intro d
      induction d with
      | zero =>
        intro i hi k hk
        obtain ⟨k, rfl⟩ : ∃ j, k = j + 1 := ⟨k - 1, by omega⟩
        rw [caliperref06_Same.l1, if_neg (by omega)]
      | succ d ihd =>
        intro i hi k hk
        obtain ⟨k, rfl⟩ : ∃ j, k = j + 1 := ⟨k - 1, by omega⟩
        have hil : i < x.f3.length := by omega
        have hmem : x.f3.getD i z28 ∈ x.f3 := by simp [List.getD, hil]
        have hrd : rd_T28 x.f3 (i : Int) = x.f3.getD i z28 := by unfold rd_T28; rw [Int.toNat_natCast]
        have hfm := fuel_mem hmem
        have hbm := bulk_mem hmem
        have hr := ih _ hmem (by omega) k (by omega)
        unfold sameT at hr
        rw [caliperref06_Same.l1, if_pos (by omega), if_pos (by omega), if_pos (by omega), hrd, hr]
        simp only [Option.bind_some]
        rw [if_pos trivial, wrT1 i (by omega)]
        exact ihd (i + 1) (by omega) k (by omega)
    have l0 : ∀ d i, i + d = x.f4.length → ∀ k, d + 2 + (x.f3.length + fuelL x.f3) ≤ k → caliperref06_Same.l0 k i x.f0 x.f1.f0 x.f1.f1 x.f1.f2 x.f2 x.f3 x.f4 x.f0 x.f1.f0 x.f1.f1 x.f1.f2 x.f2 x.f3 x.f4 = some true := by
      intro d
      induction d with
      | zero =>
        intro i hi k hk
        obtain ⟨k, rfl⟩ : ∃ j, k = j + 1 := ⟨k - 1, by omega⟩
        rw [caliperref06_Same.l0, if_neg (by omega)]
        exact l1 x.f3.length 0 (by omega) k (by omega)
      | succ d ihd =>
        intro i hi k hk
        obtain ⟨k, rfl⟩ : ∃ j, k = j + 1 := ⟨k - 1, by omega⟩
        rw [caliperref06_Same.l0, if_pos (by omega), if_pos (by omega), if_pos (by omega), if_pos rfl, wrT1 i (by omega)]
        exact ihd (i + 1) (by omega) k (by omega)
    obtain ⟨k, rfl⟩ : ∃ j, k = j + 2 := ⟨k - 2, by omega⟩
    unfold sameT
    rw [caliperref06_Same.f, if_pos rfl, if_neg (by simp), if_pos rfl, if_pos rfl]
    have e : ((x.f4.length : Int) != (x.f4.length : Int)) = false := by simp
    rw [e, caliperref06_Same.j0, if_neg (by simp)]
    have hz : x.f4.length ≤ x.f4.length * (x.f4.length + 3) := Nat.le_mul_of_pos_right _ (by omega)
    exact l0 x.f4.length 0 (by omega) k (by omega)
/-- the same tree twice -/
theorem sameR_l (x : S28) (v5 v6 u5 u6 : Value) (w0 w : World) (hx : VK w0 x v5 v6) (hy : VK w0 x u5 u6) (h0 : Below w0.heap.size w0 w) (hb : bulkT x ≤ 1048576) :
    Calls Tryd.prog 14 #[.agg (vcs x v5 v6).toArray, .agg (vcs x u5 u6).toArray] w (New (.bool true) w) := by
  have hf := same_ex x (tree x) hb (fuelT x) (Nat.le_refl _)
  unfold sameT at hf
  obtain ⟨A5, c5, A6, c6, rfl, rfl, l5, g5, l6, g6⟩ := hx
  obtain ⟨B5, d5, B6, d6, rfl, rfl, m5, k5, m6, k6⟩ := hy
  exact caliperref06_Same.calls (fuelT x) x.f0 x.f1.f0 x.f1.f1 x.f1.f2 x.f2 A5 c5 x.f3 A6 c6 x.f4 x.f0 x.f1.f0 x.f1.f1 x.f1.f2 x.f2 B5 d5 x.f3 B6 d6 x.f4 true w (Kd.C_below g5 h0) l5 (Kd.C_below g6 h0) l6 (Kd.C_below k5 h0) m5 (Kd.C_below k6 h0) m6 hf
end Go.Proofs.YthicgeiljficbaaDoor

namespace Go.Proofs.YthicgeiljficbaaDoor
open Go.RowKit Go.Proofs.YthicgeiljficbaaDoor.Ref Go.Proofs.YthicgeiljficbaaDoorW.PrintWords Go.Proofs.YthicgeiljficbaaDoorW.PrintLast
set_option linter.unusedSimpArgs false
set_option linter.unusedVariables false
set_option linter.unnecessarySimpa false

set_option maxRecDepth 100000 in
theorem step_append_txts {ops : Array Oper} {o : Oper} {a : Act} {w : World} {K : Act → World → Prop} {Q : Exit → Act → World → Prop} {E : Prop}
    (hg : o.guard = none) (s x : Operand) (ho : o.op = .call { callee := .builtin .append, args := #[s, x], argTypes := #[26, 26] })
    (B : Nat) (v : Value) (xs l : List (List UInt8)) (hs : a.eval s = v) (hown : Row w B 9 1 v xs.length (strs xs))
    (ax : Option Addr) (cx : Nat) (hx : a.eval x = .slice ax l.length cx) (hl : Txts w (.slice ax l.length cx) l) (hb : xs.length + l.length ≤ 1048576) (hB : B ≤ w.heap.size)
    (h : ∀ a' c' w', Row w' B 9 1 (.slice a' (xs ++ l).length c') (xs ++ l).length (strs (xs ++ l)) → Fr v (.slice a' (xs ++ l).length c') w w' → K (a.put o.dst (.slice a' (xs ++ l).length c')) w') :
    if Region.wanted o (yielded ops a.tmps) = true then Oper.wp Tryd.prog o a w K Q else E := by
  have hw : Region.wanted o (yielded ops a.tmps) = true := by simp [Region.wanted, hg]
  rw [if_pos hw]
  obtain ⟨i0, hi, hy0, hy1, hy2⟩ := info_parts info_str
  have key : ∃ a' c' w', (Builtin.append_ #[26, 26] o.type #[v, .slice ax l.length cx]).run Tryd.prog w = .ok (.slice a' (xs ++ l).length c') w' ∧ Row w' B 9 1 (.slice a' (xs ++ l).length c') (xs ++ l).length (strs (xs ++ l)) ∧ Fr v (.slice a' (xs ++ l).length c') w w' := by
    rcases hl with ⟨rfl, -⟩ | ⟨b, off, cap, hv, hlt, hc⟩
    · obtain ⟨a', cap, rfl, hle⟩ := hown.shape
      have hsrc : Src Tryd.prog i0.size 26 (.slice ax 0 cx) 0 [] w := by
        cases ax with
        | none => exact Src.ofNil w Tryd.underlying26 cx
        | some ad => exact Src.ofSlice w Tryd.underlying26 ad 0 cx [] (by simp) (by simp) (by simp)
      refine ⟨a', cap, w, ?_, ?_, ?_⟩
      · simpa using run_append_nothing w 26 26 o.type 9 i0 Tryd.underlying26 hi a' xs.length cap hle _ hsrc
      · simpa using hown
      · simpa using Fr.refl _ w
    · by_cases h0 : l.length = 0
      · obtain rfl := List.eq_nil_of_length_eq_zero h0
        obtain ⟨a', cap', rfl, hle⟩ := hown.shape
        have hsrc : Src Tryd.prog i0.size 26 (.slice ax 0 cx) 0 [] w := by
          cases ax with
          | none => exact Src.ofNil w Tryd.underlying26 cx
          | some ad => exact Src.ofSlice w Tryd.underlying26 ad 0 cx [] (by simp) (by simp) (by simp)
        refine ⟨a', cap', w, ?_, ?_, ?_⟩
        · simpa using run_append_nothing w 26 26 o.type 9 i0 Tryd.underlying26 hi a' xs.length cap' hle _ hsrc
        · simpa using hown
        · simpa using Fr.refl _ w
      · cases hv
        obtain ⟨v', w', hr, h2, h3⟩ := run_append_fr (P := Tryd.prog) w B 26 o.type 9 i0 (.string ⟨#[]⟩) 1 16 Tryd.underlying26 hi hy0 hy1 hy2 rfl v xs.length (strs xs) hown ⟨b, off, none⟩ l.length cx (strs l) (by simp [strs])
          (by
            intro j u hj
            have hjl : j < l.length := by
              have := (List.getElem?_eq_some_iff.1 hj).1
              simpa [strs] using this
            have := hc j hjl
            simp only [strs, List.getElem?_map, List.getElem?_eq_getElem hjl, Option.map_some, Option.some.injEq] at hj
            subst hj
            rw [show (⟨b, off, none⟩ : Addr).add j = ⟨b, off + j, none⟩ from by by_cases hj0 : j = 0 <;> simp [Addr.add, hj0]]
            exact this)
          (by intro u hu; simp only [strs, List.mem_map] at hu; obtain ⟨y, -, rfl⟩ := hu; rfl)
          (by omega) (by simp only [maxLen]; omega) (by omega) hB
        rw [← strs_append, ← List.length_append] at h2
        obtain ⟨a', c', rfl, -⟩ := h2.shape
        exact ⟨a', c', w', hr, h2, h3⟩
  obtain ⟨a', c', w', hr, h2, h3⟩ := key
  unfold Oper.wp execOp
  simp only [ho, resolve, invoke, builtin, Sem.run_bind, Sem.run_pure, Result.andThen_ok, List.map_toArray, List.map_cons, List.map_nil, hs, hx, hr]
  exact h a' c' w' h2 h3
/-- what is kept through the region: blocks of a value each, all that lies below -/
structure SL (w W : World) (L : List (Nat × List Value)) : Prop where
  k : ∀ p ∈ L, Blk W p.1 p.2 28
  b : Below w.heap.size w W
theorem SL.k0 {w W : World} {b : Nat} {cs : List Value} {L : List (Nat × List Value)} (h : SL w W ((b, cs) :: L)) : Blk W b cs 28 := h.k _ List.mem_cons_self
theorem SL.k1 {w W : World} {b : Nat} {cs : List Value} {p : Nat × List Value} {L : List (Nat × List Value)} (h : SL w W (p :: (b, cs) :: L)) : Blk W b cs 28 := h.k (b, cs) (by simp)
theorem SL.k2 {w W : World} {b : Nat} {cs : List Value} {p q : Nat × List Value} {L : List (Nat × List Value)} (h : SL w W (p :: q :: (b, cs) :: L)) : Blk W b cs 28 := h.k (b, cs) (by simp)
theorem SL.two {w W : World} {b1 b2 : Nat} {c1 c2 : List Value} (h1 : Blk W b1 c1 28) (h2 : Blk W b2 c2 28) (h : Below w.heap.size w W) : SL w W [(b1, c1), (b2, c2)] := by
  refine ⟨?_, h⟩
  intro r hr
  simp only [List.mem_cons, List.not_mem_nil, or_false] at hr
  rcases hr with rfl | rfl
  · exact h1
  · exact h2
theorem SL.drew {w W : World} {L : List (Nat × List Value)} (h : SL w W L) : SL w W.drew L := ⟨fun p hp => (h.k p hp).drew, h.b.drew⟩
theorem SL.alloc {w W : World} {L : List (Nat × List Value)} (h : SL w W L) (o : Obj) : SL w (W.alloc o) L := ⟨fun p hp => (h.k p hp).alloc o, h.b.alloc h.b.size o⟩
theorem SL.call {w W W' : World} {L : List (Nat × List Value)} (h : SL w W L) (hb : Below W.heap.size W W') : SL w W' L := ⟨fun p hp => (h.k p hp).call hb, h.b.trans (hb.mono h.b.size)⟩
theorem SL.new {w W : World} {p q : Nat × List Value} (h : SL w W [p, q]) :
    SL w (W.alloc (.cells #[.int .i64 0, .bool false, .string ⟨#[]⟩, .int .i64 0, .string ⟨#[]⟩, .slice none 0 0, .slice none 0 0] 28)) [p, q, (W.heap.size, [.int .i64 0, .bool false, .string ⟨#[]⟩, .int .i64 0, .string ⟨#[]⟩, .slice none 0 0, .slice none 0 0])] := by
  refine ⟨?_, h.b.alloc h.b.size _⟩
  intro r hr
  simp only [List.mem_cons, List.not_mem_nil, or_false] at hr
  rcases hr with rfl | rfl | rfl
  · exact (h.k _ (by simp)).alloc _
  · exact (h.k _ (by simp)).alloc _
  · exact Blk.new W _ _
theorem SL.newAt {w W : World} {p q : Nat × List Value} {H : Nat} (h : SL w W [p, q]) (hH : W.heap.size = H) :
    SL w (W.alloc (.cells #[.int .i64 0, .bool false, .string ⟨#[]⟩, .int .i64 0, .string ⟨#[]⟩, .slice none 0 0, .slice none 0 0] 28)) [p, q, (H, [.int .i64 0, .bool false, .string ⟨#[]⟩, .int .i64 0, .string ⟨#[]⟩, .slice none 0 0, .slice none 0 0])] := hH ▸ h.new
theorem Fr.blk {v v' : Value} {w w' : World} {b : Nat} {cs : List Value} {T : TypeId} (h : Fr v v' w w') (hk : Blk w b cs T) (hv : v.ownBlock ≠ some b) : Blk w' b cs T := (h.keep b hk.lt hv).trans hk
theorem SL.app {w W W' : World} {L : List (Nat × List Value)} {n : Nat} {v v' : Value} {xs : List Value} (h : SL w W L) (hr : Row W w.heap.size 9 1 v n xs) (hf : Fr v v' W W') : SL w W' L :=
  ⟨fun p hp => hf.blk (h.k p hp) (hr.own_ne (h.k p hp) (by decide)), h.b.trans ((hf.frB w.heap.size).below (Nat.le_refl _) hr.base h.b.size)⟩
theorem row_empty (W : World) (B : Nat) (hB : B ≤ W.heap.size) : Row (W.alloc (.cells #[] 9)) B 9 1 (.slice (some ⟨W.heap.size, 0, none⟩) 0 0) ([] : List (List UInt8)).length (strs []) :=
  ⟨rfl, .inr ⟨W.heap.size, 0, #[], rfl, hB, heap_alloc_new W _, Nat.le_refl _, by simp, by simp [strs]⟩⟩
theorem row_emptyAt (W : World) (B : Nat) {H : Nat} (hH : W.heap.size = H) (hB : B ≤ W.heap.size) : Row (W.alloc (.cells #[] 9)) B 9 1 (.slice (some ⟨H, 0, none⟩) 0 0) ([] : List (List UInt8)).length (strs []) := hH ▸ row_empty W B hB
theorem step_app {ops : Array Oper} {o : Oper} {a : Act} {w W : World} {K : Act → World → Prop} {Q : Exit → Act → World → Prop} {E : Prop} {L : List (Nat × List Value)}
    (hg : o.guard = none) (s x : Operand) (ho : o.op = .call { callee := .builtin .append, args := #[s, x], argTypes := #[26, 26] })
    (hS : SL w W L) {v : Value} (xs l ys : List (List UInt8)) (hys : xs ++ l = ys) (hown : Row W w.heap.size 9 1 v xs.length (strs xs))
    {ax : Option Addr} {cx : Nat} (hl : Txts w (.slice ax l.length cx) l) (hb : xs.length + l.length ≤ 1048576) {m : Nat} (hm : ys.length = m) (hs : a.eval s = v) (hx : a.eval x = .slice ax l.length cx)
    (h : ∀ a' c' W', SL w W' L → Row W' w.heap.size 9 1 (.slice a' m c') ys.length (strs ys) → K (a.put o.dst (.slice a' m c')) W') :
    if Region.wanted o (yielded ops a.tmps) = true then Oper.wp Tryd.prog o a W K Q else E := by
  subst hys
  subst hm
  exact step_append_txts hg s x ho w.heap.size v xs l hs hown ax cx hx (hl.call hS.b) hb hS.b.size fun a' c' W' hr hf => h a' c' W' (hS.app hown hf) hr
theorem walk_ok : ∀ (x y : S28) (a : List (List UInt8)), OkT x → walkV x a = some y → OkT y ∧ bulkT y ≤ bulkT x
  | x, y, [], hx, h => by
    rw [walkV] at h
    cases h
    exact ⟨hx, Nat.le_refl _⟩
  | x, y, p :: ps, hx, h => by
    rw [walkV] at h
    cases hs : stepV x p with
    | none => rw [hs] at h; cases h
    | some z =>
      rw [hs] at h
      have hm := stepV_mem hx.keys hs
      have ⟨h1, h2⟩ := walk_ok z y ps (hx.sub hm) h
      refine ⟨h1, ?_⟩
      have := bulk_mem hm
      rw [bulkT_eq x]
      omega
end Go.Proofs.YthicgeiljficbaaDoor
