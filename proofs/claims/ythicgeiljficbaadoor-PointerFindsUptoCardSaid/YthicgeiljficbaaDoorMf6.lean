import Derived.Test.YthicgeiljficbaaDoorRows
import Derived.WalkKit
import Derived.ProofKit
import Derived.Below
import Derived.ChangeSame
import Derived.Test.YthicgeiljficbaaDoorMf3
import Derived.OpenShut
import Derived.Deep.DeepHandedRow
import Derived.Deep.DeepWitnessRowRef
import Derived.Deep.Strs
import Derived.Lib.LaidTab
import Derived.Lib.LaidIn
import Derived.Lib.LaidU8
import Derived.Shelf.Vars
import Derived.Test.YthicgeiljficbaaDoorMf5
import Derived.Test.YthicgeiljficbaaDoorMf1
import Derived.Lib.ItoaMem
import Derived.Lib.ItoaLen
import Derived.Test.YthicgeiljficbaaDoorMf2
import Derived.Deep.RegionHeld3
/- The last step of a law's row, where of the world behind the call no more is known than that what was there is as it was. -/
namespace Go.Proofs.YthicgeiljficbaaDoor
open Go.RowKit Go.WideShapes Go.ChangeShapes
set_option linter.unusedSimpArgs false
set_option linter.unusedVariables false

end Go.Proofs.YthicgeiljficbaaDoor

/- What the rows of caliperlaw07 share: the variables that they list, a world that holds them; slices of texts among the arguments, opened. -/
namespace Go.Proofs.YthicgeiljficbaaDoor
open Go.ChangeShapes Go.WideShapes Go.ChangeAt Go.RowKit Go.Deep
set_option linter.unusedVariables false
set_option linter.unusedSimpArgs false

theorem own : ownKnob Tryd.prog.godebug = none := by kernel_rfl
theorem laidOut : laidOutB Tryd.prog = true := by kernel_rfl
theorem cells_str : Tryd.prog.cellsOf 9 = 1 := by kernel_rfl
theorem cells_u64 : Tryd.prog.cellsOf 78 = 1 := by kernel_rfl

/-- an error variable's cell -/
theorem cell_of_err {W : World} {n : String} {d : DataW Unit} {g : Nat} (hg : Tryd.prog.globalNamed n = some g) (ht : (Tryd.prog.globals[g]?).map (·.type) = some 74)
    (h : Lib.VarReads Tryd.prog W n (.iface "*errors.errorString" d)) : ∃ ev, W.cell? ⟨g, 0, none⟩ = some ev ∧ (ev = .nilIface ∨ ∃ te pe, ev = .iface te pe) := by
  obtain ⟨g', t, cs, fuel, p, hg', ht', hv, hd⟩ := h
  obtain rfl : g = g' := Option.some.inj (hg.symm.trans hg')
  obtain rfl : 74 = t := Option.some.inj (ht.symm.trans ht')
  obtain ⟨_, u, v, hcs, _, _⟩ := iface_of_trod Tryd.underlying74 hd
  refine ⟨.iface u v, ?_, .inr ⟨u, v, rfl⟩⟩
  have hc : cs = #[.iface u v] := by rw [← Array.toList_inj]; exact hcs
  have := World.var?_cell hg (hc ▸ hv) 0
  simpa using this

/-- the list of every row here -/
def laidL : List (String × DataW Unit) := Rows.pointerBackUptoRow.laid
theorem glob_syn : Tryd.prog.globalNamed "strconv.ErrSyntax" = some 1 := by kernel_rfl
theorem glob_ran : Tryd.prog.globalNamed "strconv.ErrRange" = some 2 := by kernel_rfl
theorem type_syn : (Tryd.prog.globals[1]?).map (·.type) = some 74 := by kernel_rfl
theorem type_ran : (Tryd.prog.globals[2]?).map (·.type) = some 74 := by kernel_rfl
theorem type_pow : (Tryd.prog.globals[3]?).map (·.type) = some 120 := by kernel_rfl
theorem cells_pow : Tryd.prog.cellsOf 120 = 20 := by kernel_rfl
theorem pow_eq : (Rows.laid_internal_strconv_uint64pow10 : DataW Unit) = Lib.tabData .u64 Lib.pow10Tab := by kernel_rfl

/-- what the walks need of a world in which a row's call begins -/
theorem env_of {W : World} (hL : laidMetH Tryd.prog laidL W) (hS : W.ShapedOpen Tryd.prog) : EnvV W := by
  have hM : laidMet Tryd.prog laidL W := hL
  have hsyn := cell_of_err glob_syn type_syn (Lib.laidMet.reads hM (.tail _ (.tail _ (.tail _ (.tail _ (.tail _ (.head _)))))))
  have hran := cell_of_err glob_ran type_ran (Lib.laidMet.reads hM (.tail _ (.tail _ (.tail _ (.tail _ (.head _))))))
  have hmax := Go.Proofs.cell_of_shapedOpen_int (g := 0) (zero := #[.int .i64 0]) (t := 3) hS (of_decide_eq_true (by kernel_rfl)) (by kernel_rfl) rfl (by kernel_rfl) (by kernel_rfl) Tryd.underlying3
  have hsz : 8 ≤ W.heap.size := by
    have hz : ∃ zero t, ((begin Tryd.prog (fun _ _ => 0) default).world.heap[7]?).bind Obj.row? = some (zero, t) := by
      have : (((begin Tryd.prog (fun _ _ => 0) default).world.heap[7]?).bind Obj.row?).isSome = true := by kernel_rfl
      obtain ⟨x, hx⟩ := Option.isSome_iff_exists.1 this
      exact ⟨x.1, x.2, hx⟩
    obtain ⟨zero, t, hz⟩ := hz
    obtain ⟨cs, h, _⟩ := hS.1 7 zero t (of_decide_eq_true (by kernel_rfl)) hz
    have := (Array.getElem?_eq_some_iff.1 h).1
    omega
  have hpow : Lib.TabIs Tryd.prog W "internal/strconv.uint64pow10" .u64 Lib.pow10Tab := by
    obtain ⟨g', t', cs, fuel, p, hg', ht', hvar, hd⟩ := Lib.laidMet.reads hM (n := "internal/strconv.uint64pow10") (d := Rows.laid_internal_strconv_uint64pow10) (.tail _ (.tail _ (.head _)))
    obtain rfl : 3 = g' := Option.some.inj (glob_pow.symm.trans hg')
    obtain rfl : 120 = t' := Option.some.inj (type_pow.symm.trans ht')
    rw [pow_eq] at hd
    unfold Lib.TabIs
    rw [hvar, ← Lib.cells_of_tab Tryd.underlying120 Tryd.underlying78 cells_u64 cells_pow hd]
  exact ⟨hsz, ⟨by omega, hmax⟩, hsyn, hran, hpow⟩

/-- a world for the witnesses -/
noncomputable def laidWorld (os : Os) : World :=
  let N := (World.settled Tryd.prog os).heap.size
  let w0 := World.holding Tryd.prog os ⟨#[.cells #[.string ⟨#[118, 97, 108, 117, 101, 32, 111, 117, 116, 32, 111, 102, 32, 114, 97, 110, 103, 101]⟩] 134, .cells #[.string ⟨#[105, 110, 118, 97, 108, 105, 100, 32, 115, 121, 110, 116, 97, 120]⟩] 134], #[], []⟩
  let put (h : Array Obj) (g : Nat) (cs : Array Value) : Array Obj := h.modify g fun
    | .cells _ t frozen => .cells cs t frozen
    | o => o
  let h1 := put w0.heap 6 #[.int .u8 0, .int .u8 1, .int .u8 28, .int .u8 2, .int .u8 29, .int .u8 14, .int .u8 24, .int .u8 3, .int .u8 30, .int .u8 22, .int .u8 20, .int .u8 15, .int .u8 25, .int .u8 17, .int .u8 4, .int .u8 8, .int .u8 31, .int .u8 27, .int .u8 13, .int .u8 23, .int .u8 21, .int .u8 19, .int .u8 16, .int .u8 7, .int .u8 26, .int .u8 12, .int .u8 18, .int .u8 6, .int .u8 11, .int .u8 5, .int .u8 10, .int .u8 9]
  let h2 := put h1 7 #[.int .u8 0, .int .u8 1, .int .u8 56, .int .u8 2, .int .u8 57, .int .u8 49, .int .u8 28, .int .u8 3, .int .u8 61, .int .u8 58, .int .u8 42, .int .u8 50, .int .u8 38, .int .u8 29, .int .u8 17, .int .u8 4, .int .u8 62, .int .u8 47, .int .u8 59, .int .u8 36, .int .u8 45, .int .u8 43, .int .u8 51, .int .u8 22, .int .u8 53, .int .u8 39, .int .u8 33, .int .u8 30, .int .u8 24, .int .u8 18, .int .u8 12, .int .u8 5, .int .u8 63, .int .u8 55, .int .u8 48, .int .u8 27, .int .u8 60, .int .u8 41, .int .u8 37, .int .u8 16, .int .u8 46, .int .u8 35, .int .u8 44, .int .u8 21, .int .u8 52, .int .u8 32, .int .u8 23, .int .u8 11, .int .u8 54, .int .u8 26, .int .u8 40, .int .u8 15, .int .u8 34, .int .u8 20, .int .u8 31, .int .u8 10, .int .u8 25, .int .u8 14, .int .u8 19, .int .u8 9, .int .u8 13, .int .u8 8, .int .u8 7, .int .u8 6]
  let h3 := put h2 3 #[.int .u64 1, .int .u64 10, .int .u64 100, .int .u64 1000, .int .u64 10000, .int .u64 100000, .int .u64 1000000, .int .u64 10000000, .int .u64 100000000, .int .u64 1000000000, .int .u64 10000000000, .int .u64 100000000000, .int .u64 1000000000000, .int .u64 10000000000000, .int .u64 100000000000000, .int .u64 1000000000000000, .int .u64 10000000000000000, .int .u64 100000000000000000, .int .u64 1000000000000000000, .int .u64 10000000000000000000]
  let h4 := put h3 5 #[.int .u8 128, .int .u8 191, .int .u8 160, .int .u8 191, .int .u8 128, .int .u8 159, .int .u8 144, .int .u8 191, .int .u8 128, .int .u8 143, .int .u8 0, .int .u8 0, .int .u8 0, .int .u8 0, .int .u8 0, .int .u8 0, .int .u8 0, .int .u8 0, .int .u8 0, .int .u8 0, .int .u8 0, .int .u8 0, .int .u8 0, .int .u8 0, .int .u8 0, .int .u8 0, .int .u8 0, .int .u8 0, .int .u8 0, .int .u8 0, .int .u8 0, .int .u8 0]
  let h5 := put h4 2 #[.iface 132 (.pointer (some ⟨N, 0, none⟩))]
  let h6 := put h5 1 #[.iface 132 (.pointer (some ⟨N + 1, 0, none⟩))]
  let h7 := put h6 4 (Lib.firstTab.map fun z => Value.int .u8 z).toArray
  { w0 with heap := h7 }
set_option maxRecDepth 1000000 in
theorem laid_met (os : Os) (args : Array Value) : laidMet Tryd.prog laidL ((laidWorld os).forCall (fun _ _ => 0) ⟨#[], args, []⟩).memory :=
  laidMet_of_run' 8 (by kernel_rfl) (by kernel_rfl)

/-! ### Bulk -/
theorem one_le {H : Type} (d : DataW H) : 1 ≤ Rows.uptoBulk d := by
  cases d with
  | lit l => cases l <;> simp [Rows.uptoBulk]
  | nil => simp [Rows.uptoBulk]
  | ptr d => simp [Rows.uptoBulk]
  | slice elems spare => simp [Rows.uptoBulk]
  | agg parts => simp [Rows.uptoBulk]
  | iface t d => simp [Rows.uptoBulk]
  | map entries => simp [Rows.uptoBulk]
  | held h => simp [Rows.uptoBulk]
end Go.Proofs.YthicgeiljficbaaDoor

/- A value among the arguments, opened: a tree, and how much it bears. -/
namespace Go.Proofs.YthicgeiljficbaaDoor
open Go.ChangeShapes Go.WideShapes Go.ChangeAt Go.RowKit Go.Deep Go.Proofs.YthicgeiljficbaaDoor.Ref Go.Proofs.YthicgeiljficbaaDoorW.PrintWords Go.Proofs.YthicgeiljficbaaDoorW.PrintLast
set_option linter.unusedVariables false
set_option linter.unusedSimpArgs false

mutual
/-- values and letters of a tree -/
def bulkT : S28 → Nat
  | ⟨_, n, t, l, ks⟩ => 1 + n.f1.size + t.size + bulkL l + (ks.map fun k => k.size + 1).sum
def bulkL : List S28 → Nat
  | [] => 0
  | x :: xs => bulkT x + bulkL xs
end
theorem bulkT_eq (x : S28) : bulkT x = 1 + x.f1.f1.size + x.f2.size + bulkL x.f3 + (x.f4.map fun k => k.size + 1).sum := by cases x; rw [bulkT]
theorem bulkL_map (n : Nat) (X : Nat → S28) : bulkL ((List.range n).map X) = ((List.range n).map fun i => bulkT (X i)).sum := by
  have : ∀ l : List Nat, bulkL (l.map X) = (l.map fun i => bulkT (X i)).sum := by
    intro l
    induction l with
    | nil => rfl
    | cons a l ih => simp only [List.map_cons, bulkL, ih, List.sum_cons]
  exact this _
theorem bulkAll_map {H : Type} (n : Nat) (D : Nat → DataW H) : Rows.uptoBulkAll ((List.range n).map D) = ((List.range n).map fun i => Rows.uptoBulk (D i)).sum := by
  have : ∀ l : List Nat, Rows.uptoBulkAll (l.map D) = (l.map fun i => Rows.uptoBulk (D i)).sum := by
    intro l
    induction l with
    | nil => rfl
    | cons a l ih => simp only [List.map_cons, Rows.uptoBulkAll, ih, List.sum_cons]
  exact this _
theorem sum_le {n : Nat} {f g : Nat → Nat} (h : ∀ i, i < n → f i ≤ g i) : ((List.range n).map f).sum ≤ ((List.range n).map g).sum := by
  induction n with
  | zero => simp
  | succ n ih =>
    rw [List.range_succ]
    simp only [List.map_append, List.sum_append, List.map_cons, List.map_nil, List.sum_cons, List.sum_nil]
    have := ih fun i hi => h i (by omega)
    have := h n (by omega)
    omega
theorem le_sum {n : Nat} {f : Nat → Nat} : ∀ {i : Nat}, i < n → f i ≤ ((List.range n).map f).sum := by
  induction n with
  | zero => intro i h; omega
  | succ n ih =>
    intro i h
    rw [List.range_succ]
    simp only [List.map_append, List.sum_append, List.map_cons, List.map_nil, List.sum_cons, List.sum_nil]
    rcases Nat.lt_or_ge i n with h' | h'
    · have := ih h'; omega
    · obtain rfl : i = n := by omega
      omega
theorem cells_kind : Tryd.prog.cellsOf 22 = 1 := by kernel_rfl
theorem cells_dec : Tryd.prog.cellsOf 24 = 3 := by kernel_rfl
theorem cells_val : Tryd.prog.cellsOf 28 = 7 := by kernel_rfl
theorem cells_bool : Tryd.prog.cellsOf 4 = 1 := by kernel_rfl
theorem cells_int : Tryd.prog.cellsOf 3 = 1 := by kernel_rfl
theorem cells_vals : Tryd.prog.cellsOf 25 = 1 := by kernel_rfl
theorem cells_strs : Tryd.prog.cellsOf 26 = 1 := by kernel_rfl

section
variable {H : Type} {enc : TypeId × Value → H} {W : World} {base : Nat} {held : Bool}

set_option maxRecDepth 100000 in
/-- a number -/
theorem dec_trod {fuel : Nat} {cs : List Value} {d : DataW H} {p : List MemPlace} (h : DataW.trod enc Tryd.prog W base (fun _ => true) held fuel 24 cs = some (d, p)) :
    ∃ x : S24, cs = [.bool x.f0, .string x.f1, .int .i64 x.f2] ∧ x.f1.size + 1 ≤ Rows.uptoBulk d := by
  obtain ⟨y0, y1, y2, n, hx, hl, h0, h1, h2⟩ := trod_struct3 Tryd.underlying24 h
  rw [cells_dec] at hl
  match cs, hl with
  | [c0, c1, c2], _ =>
    rw [cells_bool] at h0
    rw [cells_str] at h1
    rw [cells_int] at h2
    obtain ⟨b, hb, e0⟩ := DataW.trod_bool Tryd.underlying4 h0
    obtain ⟨s, hs, e1, _⟩ := DataW.trod_string Tryd.underlying9 h1
    obtain ⟨m, hm, e2, _⟩ := DataW.trod_int Tryd.underlying3 h2
    simp at hb hs hm
    refine ⟨⟨b, s, m⟩, by rw [hb, hs, hm], ?_⟩
    cases hx
    rw [e0, e1, e2]
    simp [Rows.uptoBulk, Rows.uptoBulkAll]
    omega
/-- a slice of texts, as the print reads it -/
theorem strs_trod {fuel : Nat} {v : Value} {d : DataW H} {p : List MemPlace} (h : DataW.trod enc Tryd.prog W base (fun _ => true) held fuel 26 [v] = some (d, p)) :
    ∃ (A : Option Addr) (c : Nat) (ks : List ByteArray), v = .slice A ks.length c ∧ ks.length ≤ c ∧ Kd.C Kd.string W A ks.length ks ∧ (ks.map fun k => k.size + 1).sum + 1 ≤ Rows.uptoBulk d := by
  rcases open_strs Tryd.underlying26 Tryd.underlying9 cells_str h with ⟨hc, hx⟩ | ⟨a, len, cap, m, Sx, hc, hb, hl, hm, hmm, hx, hcell⟩
  · cases hc
    cases hx
    exact ⟨none, 0, [], rfl, Nat.le_refl _, Kd.C_nil _ _, by simp [Rows.uptoBulk]⟩
  · cases hc
    cases hx
    rw [if_pos rfl] at hmm
    subst hmm
    refine ⟨some a, m, (List.range len).map Sx, by simp, by simpa using hl, ⟨by simp, by simp; unfold maxLen at hm; omega, fun _ => ⟨a, rfl, fun j q hj => ⟨[.string q], rfl, rfl, fun i u hu => ?_⟩⟩⟩, ?_⟩
    · have hjl : j < len := by
        have := (List.getElem?_eq_some_iff.1 hj).1
        simpa using this
      have hq : q = Sx j := by
        simp [hjl] at hj
        exact hj.symm
      obtain rfl : i = 0 := by
        have := (List.getElem?_eq_some_iff.1 hu).1
        simp at this
        exact this
      have e2 : (Kd.string).sz = 1 := rfl
      rw [e2, Nat.mul_one, Nat.add_zero, (hcell j (by omega)).1, ← hq]
      simpa using hu
    · simp only [Rows.uptoBulk]
      rw [bulkAll_map]
      have : ((List.range len).map fun i => Rows.uptoBulk (DataW.lit (H := H) (.string (Sx i).data.toList))).sum = (((List.range len).map Sx).map fun k => k.size + 1).sum := by
        rw [List.map_map]
        rfl
      omega

set_option maxRecDepth 100000 in
theorem val_trod (N : Nat) : ∀ (fuel : Nat) (cs : List Value) (d : DataW H) (p : List MemPlace), Rows.uptoBulk d ≤ N → DataW.trod enc Tryd.prog W base (fun _ => true) held fuel 28 cs = some (d, p) →
    ∃ (x : S28) (v5 v6 : Value), cs = vcs x v5 v6 ∧ VK W x v5 v6 ∧ bulkT x + 1 ≤ Rows.uptoBulk d := by
  induction N using Nat.strongRecOn with
  | _ N ih =>
    intro fuel cs d p hN h
    obtain ⟨xs, n, rfl, hx, hl, hlen, hf⟩ := DataW.trod_struct Tryd.underlying28 h
    rw [cells_val] at hl
    match cs, hl, xs, hlen with
    | [c0, c1, c2, c3, c4, c5, c6], _, [y0, y1, y2, y3, y4], _ =>
      have h0 : DataW.trod enc Tryd.prog W base (fun _ => true) held n 22 (([c0, c1, c2, c3, c4, c5, c6].drop 0).take (Tryd.prog.cellsOf 22)) = some y0 := hf 0 _ rfl
      rw [cells_kind] at h0
      have h1 : DataW.trod enc Tryd.prog W base (fun _ => true) held n 24 (([c0, c1, c2, c3, c4, c5, c6].drop 1).take (Tryd.prog.cellsOf 24)) = some y1 := hf 1 _ rfl
      rw [cells_dec] at h1
      have h2 : DataW.trod enc Tryd.prog W base (fun _ => true) held n 9 (([c0, c1, c2, c3, c4, c5, c6].drop 4).take (Tryd.prog.cellsOf 9)) = some y2 := hf 2 _ rfl
      rw [cells_str] at h2
      have h3 : DataW.trod enc Tryd.prog W base (fun _ => true) held n 25 (([c0, c1, c2, c3, c4, c5, c6].drop 5).take (Tryd.prog.cellsOf 25)) = some y3 := hf 3 _ rfl
      rw [cells_vals] at h3
      have h4 : DataW.trod enc Tryd.prog W base (fun _ => true) held n 26 (([c0, c1, c2, c3, c4, c5, c6].drop 6).take (Tryd.prog.cellsOf 26)) = some y4 := hf 4 _ rfl
      rw [cells_strs] at h4
      simp only [List.drop_zero, List.drop_succ_cons, List.take_succ_cons, List.take_zero] at h0 h1 h2 h3 h4
      obtain ⟨k, hk, e0, _⟩ := DataW.trod_int Tryd.underlying22 h0
      obtain ⟨x1, hx1, b1⟩ := dec_trod (d := y1.1) (p := y1.2) h1
      obtain ⟨s, hs, e2, _⟩ := DataW.trod_string Tryd.underlying9 h2
      obtain ⟨A6, c6', ks, hv6, hc6, hC6, b4⟩ := strs_trod (d := y4.1) (p := y4.2) h4
      simp at hk hs hx1
      obtain ⟨rfl, rfl, rfl⟩ := hx1
      subst hk
      subst hs
      subst hv6
      have hd : d = .agg [y0.1, y1.1, y2.1, y3.1, y4.1] := by cases hx; rfl
      have e2' : Rows.uptoBulk y2.1 = s.size + 1 := by rw [e2]; rfl
      have e0' : Rows.uptoBulk y0.1 = 1 := by rw [e0]; rfl
      rcases open_slice Tryd.underlying25 (fuel := n) h3 with ⟨hc, hx3⟩ | ⟨a, len, cap, m, n', D, Pl, hc, hb, hlc, hm, hmm, hx3, hel⟩
      · cases hc
        refine ⟨⟨k, x1, s, [], ks⟩, _, _, rfl, ⟨none, 0, A6, c6', rfl, rfl, Nat.le_refl _, Kd.C_nil _ _, hc6, hC6⟩, ?_⟩
        rw [hd, bulkT_eq]
        simp only [Rows.uptoBulk, Rows.uptoBulkAll, bulkL]
        have := one_le y3.1
        omega
      · cases hc
        rw [if_pos rfl] at hmm
        subst hmm
        have hy3 : y3.1 = .slice ((List.range len).map D) ((List.range (m - len)).map fun j => D (len + j)) := by rw [hx3]
        have hb3 : ((List.range len).map fun i => Rows.uptoBulk (D i)).sum + 1 ≤ Rows.uptoBulk y3.1 := by
          rw [hy3]
          simp only [Rows.uptoBulk]
          rw [bulkAll_map]
          omega
        have hlt : ∀ i, i < len → Rows.uptoBulk (D i) < N := by
          intro i hi
          have h1 : Rows.uptoBulk (D i) ≤ ((List.range len).map fun i => Rows.uptoBulk (D i)).sum := le_sum (f := fun i => Rows.uptoBulk (D i)) hi
          have h2 : Rows.uptoBulk y3.1 + 1 ≤ Rows.uptoBulk d := by
            rw [hd]
            simp only [Rows.uptoBulk, Rows.uptoBulkAll]
            omega
          omega
        have each : ∀ i, i < len → ∃ x : S28, (∃ v5 v6, VK W x v5 v6 ∧ ∀ j u, (vcs x v5 v6)[j]? = some u → W.cell? (a.add (i * 7 + j)) = some u) ∧ bulkT x + 1 ≤ Rows.uptoBulk (D i) := by
          intro i hi
          obtain ⟨cs', h1, h2⟩ := hel i (by omega)
          rw [cells_val] at h1
          obtain ⟨x, v5, v6, rfl, hv, hbk⟩ := ih _ (hlt i hi) n' cs' (D i) (Pl i) (Nat.le_refl _) h2
          obtain ⟨_, hcl, hcell⟩ := World.cells?_some h1
          refine ⟨x, ⟨v5, v6, hv, fun j u hu => ?_⟩, hbk⟩
          have hj : j < 7 := (List.getElem?_eq_some_iff.1 hu).1
          have := hcell j hj
          rw [hu, Addr.add_add] at this
          exact this
        haveI : Inhabited S28 := ⟨z28⟩
        obtain ⟨X, hX⟩ := choose_lt each
        refine ⟨⟨k, x1, s, (List.range len).map X, ks⟩, .slice (some a) len m, .slice A6 ks.length c6', rfl, ⟨some a, m, A6, c6', by simp, rfl, by simpa using hlc, ?_, hc6, hC6⟩, ?_⟩
        · refine ⟨by simp, by simp; unfold maxLen at hm; omega, fun _ => ⟨a, rfl, fun j q hj => ?_⟩⟩
          have hjl : j < len := by
            have := (List.getElem?_eq_some_iff.1 hj).1
            simpa using this
          have hq : q = X j := by
            simp [hjl] at hj
            exact hj.symm
          obtain ⟨⟨v5, v6, ⟨A5, c5, A6, c6, rfl, rfl, l5, g5, l6, g6⟩, hcell⟩, _⟩ := hX j hjl
          subst hq
          exact ⟨_, rfl, k28_mk W (X j) l5 g5 l6 g6, hcell⟩
        · rw [hd, bulkT_eq]
          simp only [Rows.uptoBulk, Rows.uptoBulkAll]
          rw [bulkL_map]
          have h1 : ((List.range len).map fun i => bulkT (X i)).sum ≤ ((List.range len).map fun i => Rows.uptoBulk (D i)).sum := sum_le fun i hi => by have := (hX i hi).2; omega
          omega
end

set_option maxRecDepth 100000 in
/-- a value among the arguments -/
theorem val_of {H : Type} {enc : TypeId × Value → H} {W : World} {r : Reach} {base : Nat} {held : Bool} {v : Value} {d : DataW H} {p : List MemPlace} (hv : Value.okWide Tryd.prog W r base 28 v)
    (h : ∃ fuel, DataW.trod enc Tryd.prog W 0 (fun _ => true) held fuel 28 v.cells.toList = some (d, p)) : ∃ (x : S28) (v5 v6 : Value), v = .agg (vcs x v5 v6).toArray ∧ VK W x v5 v6 ∧ bulkT x + 1 ≤ Rows.uptoBulk d := by
  obtain ⟨fuel, hf⟩ := h
  obtain ⟨cs, rfl, _⟩ := okWide_struct Tryd.underlying28 hv
  obtain ⟨x, v5, v6, hc, hV, hb⟩ := val_trod _ fuel _ d p (Nat.le_refl _) hf
  exact ⟨x, v5, v6, by rw [← hc]; simp [Value.cells], hV, hb⟩
end Go.Proofs.YthicgeiljficbaaDoor

/- Plain: caliperref03.Check, caliperref06.right, Check, Depth come to an end at every tree; what is right has as many keys as values. -/
namespace Go.Proofs.YthicgeiljficbaaDoor
open Go.RowKit Go.Proofs.YthicgeiljficbaaDoor.Ref Go.Proofs.YthicgeiljficbaaDoorW.PrintWords Go.Proofs.YthicgeiljficbaaDoorW.PrintLast
set_option linter.unusedSimpArgs false
set_option linter.unusedVariables false
set_option linter.unnecessarySimpa false

/-- every tree is one -/
inductive Tree : S28 → Prop
  | mk (x : S28) (h : ∀ y, y ∈ x.f3 → Tree y) : Tree x
theorem wrT1 (n : Nat) (h : n ≤ 281474976710656) : wrap64 ((n : Int) + 1) = ((n + 1 : Nat) : Int) := by unfold wrap64; omega
theorem tree_all : ∀ n (x : S28), bulkT x ≤ n → Tree x := by
  intro n
  induction n with
  | zero => intro x h; rw [bulkT_eq] at h; omega
  | succ n ih =>
    intro x h
    refine .mk x fun y hy => ih y ?_
    have : ∀ l : List S28, y ∈ l → bulkT y ≤ bulkL l := by
      intro l
      induction l with
      | nil => intro h; cases h
      | cons z l ihl =>
        intro h
        rw [bulkL]
        rcases List.mem_cons.1 h with rfl | h
        · omega
        · have := ihl h; omega
    have := this _ hy
    rw [bulkT_eq] at h
    omega
theorem tree (x : S28) : Tree x := tree_all _ x (Nat.le_refl _)
theorem bulk_mem {y : S28} {l : List S28} (h : y ∈ l) : bulkT y ≤ bulkL l := by
  induction l with
  | nil => cases h
  | cons z l ihl =>
    rw [bulkL]
    rcases List.mem_cons.1 h with rfl | h
    · omega
    · have := ihl h; omega
theorem bulkL_len (l : List S28) : l.length ≤ bulkL l := by
  induction l with
  | nil => simp
  | cons z l ih => rw [bulkL, bulkT_eq, List.length_cons]; omega
theorem keys_le {k : ByteArray} {ks : List ByteArray} (h : k ∈ ks) : k.size + 1 ≤ (ks.map fun k => k.size + 1).sum := by
  induction ks with
  | nil => cases h
  | cons z ks ih =>
    simp only [List.map_cons, List.sum_cons]
    rcases List.mem_cons.1 h with rfl | h
    · omega
    · have := ih h; omega
theorem keys_len (ks : List ByteArray) : ks.length ≤ (ks.map fun k => k.size + 1).sum := by
  induction ks with
  | nil => simp
  | cons z ks ih => simp only [List.map_cons, List.sum_cons, List.length_cons]; omega
theorem wrs (n : Nat) (h : 1 ≤ n) (h2 : n ≤ 281474976710656) : wrap64 ((n : Int) - 1) = ((n - 1 : Nat) : Int) := by unfold wrap64; omega

theorem digit_ex (c : Int) : ∃ b, caliperref03_digit.f c = some b := by unfold caliperref03_digit.f; split <;> exact ⟨_, rfl⟩
/-- a number's Check ends -/
theorem dec_ex (g : Bool) (s : ByteArray) (e : Int) (hs : s.size ≤ 1048576) : ∀ k, s.size + 2 ≤ k → ∃ r, caliperref03_Check.f k g s e = some r := by
  have loop : ∀ d i, i + d = s.size → 0 < s.size → ∀ k, d + 1 ≤ k → ∃ r, caliperref03_Check.l0 k (s.size : Int) (i : Int) g s e = some r := by
    intro d
    induction d with
    | zero =>
      intro i hi h0 k hk
      obtain ⟨k, rfl⟩ : ∃ j, k = j + 1 := ⟨k - 1, by omega⟩
      rw [caliperref03_Check.l0, if_neg (by omega)]
      have h1 := wrs s.size h0 (by omega)
      rw [h1]
      split
      · exact ⟨_, rfl⟩
      · rw [if_pos (by omega)]
        split
        · exact ⟨_, rfl⟩
        · rw [if_pos (by omega), if_pos (by omega)]
          split
          · exact ⟨_, rfl⟩
          · split
            · exact ⟨_, rfl⟩
            · split <;> exact ⟨_, rfl⟩
    | succ d ih =>
      intro i hi h0 k hk
      obtain ⟨k, rfl⟩ : ∃ j, k = j + 1 := ⟨k - 1, by omega⟩
      rw [caliperref03_Check.l0, if_pos (by omega), if_pos (by omega), if_pos (by omega)]
      obtain ⟨b, hb⟩ := digit_ex (bt s i)
      rw [hb]
      simp only [Option.bind_some]
      cases b with
      | false => exact ⟨2, by simp⟩
      | true =>
        rw [if_pos rfl, wrT1 i (by omega)]
        exact ih (i + 1) (by omega) h0 k (by omega)
  intro k hk
  unfold caliperref03_Check.f
  by_cases h0 : s.size = 0
  · rw [if_pos (by omega)]
    split
    · exact ⟨_, rfl⟩
    · split <;> exact ⟨_, rfl⟩
  · rw [if_neg (by omega)]
    exact loop s.size 0 (by omega) (by omega) k (by omega)
theorem valid_ex (s : ByteArray) (hs : s.size ≤ 1048576) : ∃ b, caliperref06_valid.f s = some b := by
  unfold caliperref06_valid.f
  rw [if_pos (by omega)]
  exact ⟨_, rfl⟩

mutual
/-- rounds enough -/
def fuelT : S28 → Nat
  | ⟨_, n, _, l, ks⟩ => 10 + n.f1.size + (ks.length + 1) * (ks.length + 3) + 2 * l.length + fuelL l
def fuelL : List S28 → Nat
  | [] => 0
  | x :: xs => fuelT x + fuelL xs
end
theorem fuelT_eq (x : S28) : fuelT x = 10 + x.f1.f1.size + (x.f4.length + 1) * (x.f4.length + 3) + 2 * x.f3.length + fuelL x.f3 := by cases x; rw [fuelT]
theorem fuel_mem {y : S28} {l : List S28} (h : y ∈ l) : fuelT y ≤ fuelL l := by
  induction l with
  | nil => cases h
  | cons z l ihl =>
    rw [fuelL]
    rcases List.mem_cons.1 h with rfl | h
    · omega
    · have := ihl h; omega

/-- right of a tree -/
def rightT (k : Nat) (x : S28) (lev : Int) : Option Bool := caliperref06_right.f k x.f0 x.f1.f0 x.f1.f1 x.f1.f2 x.f2 x.f3 x.f4 lev
def RightOk (x : S28) (o : Option Bool) : Prop := ∃ b, o = some b ∧ (b = true → OkT x)

theorem l2_ex (x : S28) (hb : bulkT x ≤ 1048576) (hx : x.f0 = 6 → x.f4.length = x.f3.length) (ih : ∀ y, y ∈ x.f3 → ∀ lev k, fuelT y ≤ k → RightOk y (rightT k y lev)) (lev : Int) :
    ∀ d i, i + d = x.f3.length → (∀ j, j < i → OkT (x.f3.getD j z28)) → ∀ k, d + 1 + fuelL x.f3 ≤ k → RightOk x (caliperref06_right.l2 k lev i x.f0 x.f1.f0 x.f1.f1 x.f1.f2 x.f2 x.f3 x.f4) := by
  have hl := bulkL_len x.f3
  rw [bulkT_eq] at hb
  intro d
  induction d with
  | zero =>
    intro i hi hj k hk
    obtain ⟨k, rfl⟩ : ∃ j, k = j + 1 := ⟨k - 1, by omega⟩
    rw [caliperref06_right.l2, if_neg (by omega)]
    refine ⟨true, rfl, fun _ => .mk x hx fun y hy => ?_⟩
    obtain ⟨j, hjl, rfl⟩ := List.getElem_of_mem hy
    have := hj j (by omega)
    simpa [List.getD, hjl] using this
  | succ d ihd =>
    intro i hi hj k hk
    obtain ⟨k, rfl⟩ : ∃ j, k = j + 1 := ⟨k - 1, by omega⟩
    have hil : i < x.f3.length := by omega
    have hmem : x.f3.getD i z28 ∈ x.f3 := by simp [List.getD, hil]
    have hrd : rd_T28 x.f3 (i : Int) = x.f3.getD i z28 := by unfold rd_T28; rw [Int.toNat_natCast]
    have hfm := fuel_mem hmem
    obtain ⟨b, h1, h2⟩ := ih _ hmem (wrap64 (lev - 1)) k (by omega)
    unfold rightT at h1
    rw [caliperref06_right.l2, if_pos (by omega), if_pos (by omega), hrd, h1]
    simp only [Option.bind_some]
    cases b with
    | false => exact ⟨false, by simp, fun h => by cases h⟩
    | true =>
      rw [if_pos rfl, wrT1 i (by omega)]
      refine ihd (i + 1) (by omega) (fun j hj2 => ?_) k (by omega)
      rcases Nat.lt_or_ge j i with h | h
      · exact hj j h
      · obtain rfl : j = i := by omega
        exact h2 rfl

theorem l01_ex (x : S28) (hb : bulkT x ≤ 1048576) (lev : Int) (h2 : ∀ k, x.f3.length + 1 + fuelL x.f3 ≤ k → RightOk x (caliperref06_right.l2 k lev 0 x.f0 x.f1.f0 x.f1.f1 x.f1.f2 x.f2 x.f3 x.f4)) :
    ∀ d i, i + d = x.f4.length → ∀ k, d * (x.f4.length + 3) + 2 + (x.f3.length + 1 + fuelL x.f3) ≤ k → RightOk x (caliperref06_right.l0 k lev i x.f0 x.f1.f0 x.f1.f1 x.f1.f2 x.f2 x.f3 x.f4) := by
  have hkl := keys_len x.f4
  have hkb := hb
  rw [bulkT_eq] at hkb
  intro d
  induction d with
  | zero =>
    intro i hi k hk
    obtain ⟨k, rfl⟩ : ∃ j, k = j + 1 := ⟨k - 1, by omega⟩
    rw [caliperref06_right.l0, if_neg (by omega)]
    exact h2 k (by omega)
  | succ d ihd =>
    intro i hi k hk
    obtain ⟨k, rfl⟩ : ∃ j, k = j + 1 := ⟨k - 1, by omega⟩
    have hil : i < x.f4.length := by omega
    have hmem : rdOf ByteArray.empty x.f4 (i : Int) ∈ x.f4 := by simp [rdOf, hil]
    have hkm := keys_le hmem
    obtain ⟨b, hv⟩ := valid_ex (rdOf ByteArray.empty x.f4 (i : Int)) (by omega)
    rw [caliperref06_right.l0, if_pos (by omega), if_pos (by omega), hv]
    simp only [Option.bind_some]
    cases b with
    | false => exact ⟨false, by simp, fun h => by cases h⟩
    | true =>
      rw [if_pos rfl]
      have hmul : (d + 1) * (x.f4.length + 3) = d * (x.f4.length + 3) + (x.f4.length + 3) := by rw [Nat.add_mul, Nat.one_mul]
      rw [hmul] at hk
      have inner : ∀ e j, j + e = i → ∀ k, e + 1 + (d * (x.f4.length + 3) + 2 + (x.f3.length + 1 + fuelL x.f3)) ≤ k → RightOk x (caliperref06_right.l1 k lev i j x.f0 x.f1.f0 x.f1.f1 x.f1.f2 x.f2 x.f3 x.f4) := by
        intro e
        induction e with
        | zero =>
          intro j hj k hk
          obtain ⟨k, rfl⟩ : ∃ q, k = q + 1 := ⟨k - 1, by omega⟩
          rw [caliperref06_right.l1, if_neg (by omega), wrT1 i (by omega)]
          exact ihd (i + 1) (by omega) k (by omega)
        | succ e ihe =>
          intro j hj k hk
          obtain ⟨k, rfl⟩ : ∃ q, k = q + 1 := ⟨k - 1, by omega⟩
          rw [caliperref06_right.l1, if_pos (by omega), if_pos (by omega), if_pos (by omega), if_pos (by omega), if_pos (by omega)]
          split
          · exact ⟨false, rfl, fun h => by cases h⟩
          · rw [wrT1 j (by omega)]
            exact ihe (j + 1) (by omega) k (by omega)
      exact inner i 0 (by omega) k (by omega)

theorem j2_ex (x : S28) (lev : Int) (b : Bool) (k : Nat) (h : RightOk x (caliperref06_right.l0 k lev 0 x.f0 x.f1.f0 x.f1.f1 x.f1.f2 x.f2 x.f3 x.f4)) : RightOk x (caliperref06_right.j2 (k + 1) lev b x.f0 x.f1.f0 x.f1.f1 x.f1.f2 x.f2 x.f3 x.f4) := by
  rw [caliperref06_right.j2]
  cases b with
  | true => exact ⟨false, by simp, fun h => by cases h⟩
  | false => rw [if_neg (by simp)]; exact h
theorem j1_ex (x : S28) (hb : bulkT x ≤ 1048576) (lev : Int) (b : Bool) (k : Nat) (hk : x.f1.f1.size + 2 ≤ k + 1) (h : b = false → RightOk x (caliperref06_right.l0 k lev 0 x.f0 x.f1.f0 x.f1.f1 x.f1.f2 x.f2 x.f3 x.f4)) :
    RightOk x (caliperref06_right.j1 (k + 2) lev b x.f0 x.f1.f0 x.f1.f1 x.f1.f2 x.f2 x.f3 x.f4) := by
  rw [bulkT_eq] at hb
  rw [caliperref06_right.j1]
  cases b with
  | true => exact ⟨false, by simp, fun h => by cases h⟩
  | false =>
    rw [if_neg (by simp)]
    obtain ⟨r, hr⟩ := dec_ex x.f1.f0 x.f1.f1 x.f1.f2 (by omega) (k + 1) hk
    obtain ⟨v, hv⟩ := valid_ex x.f2 (by omega)
    rw [hr]
    simp only [Option.bind_some]
    have hj := h rfl
    split
    · rw [hv]
      simp only [Option.bind_some]
      split
      · split
        · exact j2_ex x lev _ k hj
        · exact j2_ex x lev _ k hj
      · exact j2_ex x lev _ k hj
    · exact j2_ex x lev _ k hj
theorem j0_ex (x : S28) (hb : bulkT x ≤ 1048576) (lev : Int) (b : Bool) (k : Nat) (hk : x.f1.f1.size + 2 ≤ k + 1) (h : (x.f0 = 6 → x.f4.length = x.f3.length) → RightOk x (caliperref06_right.l0 k lev 0 x.f0 x.f1.f0 x.f1.f1 x.f1.f2 x.f2 x.f3 x.f4)) :
    RightOk x (caliperref06_right.j0 (k + 3) lev b x.f0 x.f1.f0 x.f1.f1 x.f1.f2 x.f2 x.f3 x.f4) := by
  rw [caliperref06_right.j0]
  cases b with
  | true => exact ⟨false, by simp, fun h => by cases h⟩
  | false =>
    rw [if_neg (by simp)]
    have any : ∀ b, (b = false → x.f0 = 6 → x.f4.length = x.f3.length) → RightOk x (caliperref06_right.j1 (k + 2) lev b x.f0 x.f1.f0 x.f1.f1 x.f1.f2 x.f2 x.f3 x.f4) := fun b hbb => j1_ex x hb lev b k hk (fun e => h (hbb e))
    have six : (((x.f4.length : Int) != (x.f3.length : Int)) = false → x.f0 = 6 → x.f4.length = x.f3.length) := fun e _ => by
      have := bne_eq_false_iff_eq.1 e
      omega
    split
    · split
      · exact any _ (fun e => by cases e)
      · split
        · exact any _ six
        · split
          · exact any _ (fun e => by cases e)
          · exact any _ (fun _ e => absurd e (by assumption))
    · split
      · exact any _ six
      · split
        · exact any _ (fun e => by cases e)
        · exact any _ (fun _ e => absurd e (by assumption))
theorem right_ex (x : S28) (ht : Tree x) : bulkT x ≤ 1048576 → ∀ lev k, fuelT x ≤ k → RightOk x (rightT k x lev) := by
  induction ht with
  | mk x h ih =>
    intro hb lev k hk
    rw [fuelT_eq] at hk
    have hbx := hb
    rw [bulkT_eq] at hbx
    obtain ⟨k, rfl⟩ : ∃ j, k = j + 4 := ⟨k - 4, by omega⟩
    have hmul : (x.f4.length + 1) * (x.f4.length + 3) = x.f4.length * (x.f4.length + 3) + (x.f4.length + 3) := by rw [Nat.add_mul, Nat.one_mul]
    rw [hmul] at hk
    have hl0 : (x.f0 = 6 → x.f4.length = x.f3.length) → RightOk x (caliperref06_right.l0 k lev 0 x.f0 x.f1.f0 x.f1.f1 x.f1.f2 x.f2 x.f3 x.f4) := by
      intro hx
      refine l01_ex x hb lev (fun k hk => ?_) x.f4.length 0 (by omega) k (by omega)
      refine l2_ex x hb hx (fun y hy lev k hk => ih y hy ?_ lev k hk) lev x.f3.length 0 (by omega) (fun j hj => absurd hj (Nat.not_lt_zero _)) k hk
      have := bulk_mem hy
      omega
    have any : ∀ b, RightOk x (caliperref06_right.j0 (k + 3) lev b x.f0 x.f1.f0 x.f1.f1 x.f1.f2 x.f2 x.f3 x.f4) := fun b => j0_ex x hb lev b k (by omega) hl0
    unfold rightT
    rw [caliperref06_right.f]
    repeat' split
    all_goals exact any _
end Go.Proofs.YthicgeiljficbaaDoor

/- Plain: a number's text read again; what a search for an element's place finds; how long and how many the pointers of a tree are. -/
namespace Go.Proofs.YthicgeiljficbaaDoor
open Go.RowKit Go.Proofs.YthicgeiljficbaaDoor.Ref Go.Proofs.YthicgeiljficbaaDoorW.PrintWords Go.Proofs.YthicgeiljficbaaDoorW.PrintLast
set_option linter.unusedSimpArgs false
set_option linter.unusedVariables false
set_option linter.unnecessarySimpa false

theorem dig_byte (d : Nat) (h : d < 10) : (UInt8.ofNat (48 + d)).toNat = 48 + d := by
  rw [UInt8.toNat_ofNat']
  omega
theorem pu_snoc (c : UInt8) (hc : 48 ≤ c.toNat ∧ c.toNat ≤ 57) : ∀ (l : List UInt8) (acc v : Nat), Lib.parseUint10 acc l = .ok v → v * 10 + (c.toNat - 48) < 18446744073709551616 → Lib.parseUint10 acc (l ++ [c]) = .ok (v * 10 + (c.toNat - 48))
  | [], acc, v, h, hf => by
    simp only [Lib.parseUint10] at h
    injection h with h
    subst h
    simp only [List.nil_append, Lib.parseUint10]
    rw [if_pos hc, if_neg (by omega), if_neg (by omega)]
  | b :: r, acc, v, h, hf => by
    simp only [Lib.parseUint10] at h
    simp only [List.cons_append, Lib.parseUint10]
    split at h
    · rename_i hb
      split at h
      · cases h
      · rename_i h1
        split at h
        · cases h
        · rename_i h2
          rw [if_pos hb, if_neg h1, if_neg h2]
          exact pu_snoc c hc r _ v h hf
    · cases h
theorem pu_dec (u : Nat) : u < 18446744073709551616 → Lib.parseUint10 0 (Lib.decDigits u) = .ok u := by
  induction u using Nat.strongRecOn with
  | _ u ih =>
    intro hu
    by_cases h : u < 10
    · rw [Lib.decDigits_one h]
      have hd := dig_byte u h
      simp only [Lib.parseUint10]
      rw [hd, if_pos (by omega), if_neg (by omega), if_neg (by omega)]
      congr 1
      omega
    · rw [Lib.decDigits, dif_neg h]
      have hd := dig_byte (u % 10) (by omega)
      rw [pu_snoc (UInt8.ofNat (48 + u % 10)) (by omega) _ 0 _ (ih (u / 10) (by omega) (by omega)) (by omega), hd]
      congr 1
      omega
theorem dec_digits (u : Nat) : ∀ c ∈ Lib.decDigits u, 48 ≤ c.toNat ∧ c.toNat ≤ 57 := by
  induction u using Nat.strongRecOn with
  | _ u ih =>
    intro c hc
    by_cases h : u < 10
    · rw [Lib.decDigits_one h] at hc
      obtain rfl := List.mem_singleton.1 hc
      have := dig_byte u h
      omega
    · rw [Lib.decDigits, dif_neg h] at hc
      rcases List.mem_append.1 hc with hc | hc
      · exact ih _ (by omega) c hc
      · obtain rfl := List.mem_singleton.1 hc
        have := dig_byte (u % 10) (by omega)
        omega
theorem atoi_itoa (n : Nat) (h : n < 9223372036854775808) : atoiV (Lib.itoa (n : Int)) = some (n : Int) := by
  rw [Lib.itoa_nonneg]
  have hp := pu_dec n (by omega)
  have hd := dec_digits n
  have e : Lib.atoiAll (Lib.decDigits n) = .ok (n : Int) := by
    cases hl : Lib.decDigits n with
    | nil =>
      have h1 := Lib.decDigits_length n
      have h2 := Lib.nDigits_pos n
      rw [hl] at h1
      simp at h1
      omega
    | cons c r =>
      rw [hl] at hp hd
      have hc := hd c (by simp)
      unfold Lib.atoiAll
      simp only
      rw [if_neg (by omega : ¬ (c.toNat = 43 ∨ c.toNat = 45))]
      unfold Lib.parseMag
      rw [if_neg (by simp), hp]
      simp only
      rw [if_neg (by omega), if_neg (by omega), if_neg (by omega)]
  unfold atoiV
  rw [e]
theorem arr_some {x : S28} {p : List UInt8} {j : Nat} (hj : j < x.f3.length) (hl : x.f3.length ≤ 9223372036854775807) (h : Lib.itoa (j : Int) = p) : arrV x p = some (x.f3.getD j z28) := by
  subst h
  unfold arrV
  rw [atoi_itoa j (by omega)]
  simp only
  rw [if_pos trivial, if_pos (by omega), if_pos (by omega), Int.toNat_natCast]
theorem arr_none {x : S28} {p : List UInt8} (h : ∀ j : Nat, j < x.f3.length → Lib.itoa (j : Int) ≠ p) : arrV x p = none := by
  unfold arrV
  split
  · rename_i n hn
    by_cases h1 : Lib.itoa n = p
    · rw [if_pos h1]
      by_cases h2 : 0 ≤ n
      · rw [if_pos h2]
        by_cases h3 : n < x.f3.length
        · obtain ⟨j, rfl⟩ := Int.eq_ofNat_of_zero_le h2
          exact absurd h1 (h j (by omega))
        · rw [if_neg h3]
      · rw [if_neg h2]
    · rw [if_neg h1]
  · rfl

/-! ### The pointers of a tree -/
mutual
def sizeT : S28 → Nat
  | ⟨_, _, _, l, _⟩ => 1 + sizeL l
def sizeL : List S28 → Nat
  | [] => 0
  | x :: xs => sizeT x + sizeL xs
end
theorem sizeT_eq (x : S28) : sizeT x = 1 + sizeL x.f3 := by cases x; rw [sizeT]
theorem size_le (x : S28) (ht : Tree x) : sizeT x ≤ bulkT x := by
  induction ht with
  | mk x h ih =>
    rw [sizeT_eq, bulkT_eq]
    have : ∀ l : List S28, (∀ y ∈ l, sizeT y ≤ bulkT y) → sizeL l ≤ bulkL l := by
      intro l
      induction l with
      | nil => intro _; simp [sizeL, bulkL]
      | cons z l ihl =>
        intro hl
        rw [sizeL, bulkL]
        have h1 := hl z (by simp)
        have h2 := ihl fun y hy => hl y (by simp [hy])
        omega
    have := this x.f3 ih
    omega
theorem allL_mem {a p : List UInt8} {k : Int} {ks : List ByteArray} : ∀ (l : List S28) (i : Nat), p ∈ allL a k ks i l → ∃ j, j < l.length ∧ p ∈ allP (a ++ escPart (nameP k ks (i + j))) (l.getD j z28)
  | [], i, h => by rw [allL] at h; cases h
  | y :: ys, i, h => by
    rw [allL] at h
    rcases List.mem_append.1 h with h | h
    · exact ⟨0, by simp, by simpa using h⟩
    · obtain ⟨j, hj, hm⟩ := allL_mem ys (i + 1) h
      refine ⟨j + 1, by simpa using hj, ?_⟩
      have e : i + (j + 1) = i + 1 + j := by omega
      rw [e]
      simpa using hm
theorem all_count (x : S28) (ht : Tree x) : ∀ a, (allP a x).length = sizeT x := by
  induction ht with
  | mk x h ih =>
    intro a
    rw [allP_eq, sizeT_eq, List.length_cons]
    have : ∀ (l : List S28) (i : Nat), (∀ y ∈ l, ∀ a, (allP a y).length = sizeT y) → (allL a x.f0 x.f4 i l).length = sizeL l := by
      intro l
      induction l with
      | nil => intro i _; simp [allL, sizeL]
      | cons z l ihl =>
        intro i hl
        rw [allL, sizeL, List.length_append, hl z (by simp), ihl (i + 1) fun y hy => hl y (by simp [hy])]
    rw [this x.f3 0 ih]
    omega
theorem name_len (x : S28) (i : Nat) (hi : i ≤ 1048576) : (nameP x.f0 x.f4 i).length ≤ 21 + (x.f4.map fun k => k.size + 1).sum := by
  unfold nameP
  split
  · by_cases h : i < x.f4.length
    · have hm : x.f4.getD i ByteArray.empty ∈ x.f4 := by simp [List.getD, h]
      have := keys_le hm
      have e : (x.f4.getD i ByteArray.empty).data.toList.length = (x.f4.getD i ByteArray.empty).size := Array.length_toList
      omega
    · have e : x.f4.getD i ByteArray.empty = ByteArray.empty := by simp [List.getD, h]
      rw [e]
      simp
  · have := Lib.itoa_length_le (i : Int) (by omega) (by omega)
    omega
theorem all_len (x : S28) (ht : Tree x) : bulkT x ≤ 1048576 → ∀ a p, p ∈ allP a x → p.length ≤ a.length + 100 * bulkT x := by
  induction ht with
  | mk x h ih =>
    intro hb a p hp
    have hbx := hb
    rw [bulkT_eq] at hbx ⊢
    have hl := bulkL_len x.f3
    rw [allP_eq] at hp
    rcases List.mem_cons.1 hp with rfl | hp
    · omega
    · obtain ⟨j, hj, hm⟩ := allL_mem x.f3 0 hp
      have hmem : x.f3.getD j z28 ∈ x.f3 := by simp [List.getD, hj]
      have hbm := bulk_mem hmem
      rw [Nat.zero_add] at hm
      have h1 := ih _ hmem (by omega) _ _ hm
      have h2 := name_len x j (by omega)
      have h3 := escPart_len (nameP x.f0 x.f4 j)
      rw [List.length_append] at h1
      omega
end Go.Proofs.YthicgeiljficbaaDoor

/- Plain law: what pointer.Parse reads of a text, byte by byte; parts come back. -/
namespace Go.Proofs.YthicgeiljficbaaDoor
open Go.RowKit
set_option linter.unusedSimpArgs false
set_option linter.unusedVariables false
set_option linter.unnecessarySimpa false

/-- each a b of l by 'new' -/
def rep2 (a b : UInt8) (new : List UInt8) : List UInt8 → List UInt8
  | [] => []
  | [c] => [c]
  | c :: d :: t => if c = a ∧ d = b then new ++ rep2 a b new t else c :: rep2 a b new (d :: t)
def cnt2 (a b : UInt8) : List UInt8 → Nat
  | [] => 0
  | [_] => 0
  | c :: d :: t => if c = a ∧ d = b then 1 + cnt2 a b t else cnt2 a b (d :: t)
theorem rep2_ne {a b c : UInt8} {new : List UInt8} (h : c ≠ a) (t : List UInt8) : rep2 a b new (c :: t) = c :: rep2 a b new t := by
  cases t with
  | nil => rfl
  | cons d t => rw [rep2, if_neg (fun e => h e.1)]
theorem rep2_hit (a b : UInt8) (new t : List UInt8) : rep2 a b new (a :: b :: t) = new ++ rep2 a b new t := by rw [rep2, if_pos ⟨rfl, rfl⟩]
theorem rep2_miss {a b d : UInt8} {new : List UInt8} (h : d ≠ b) (t : List UInt8) : rep2 a b new (a :: d :: t) = a :: rep2 a b new (d :: t) := by rw [rep2, if_neg (fun e => h e.2)]
theorem cnt2_ne {a b c : UInt8} (h : c ≠ a) (t : List UInt8) : cnt2 a b (c :: t) = cnt2 a b t := by
  cases t with
  | nil => rfl
  | cons d t => rw [cnt2, if_neg (fun e => h e.1)]
theorem cnt2_hit (a b : UInt8) (t : List UInt8) : cnt2 a b (a :: b :: t) = 1 + cnt2 a b t := by rw [cnt2, if_pos ⟨rfl, rfl⟩]
theorem cnt2_miss {a b d : UInt8} (h : d ≠ b) (t : List UInt8) : cnt2 a b (a :: d :: t) = cnt2 a b (d :: t) := by rw [cnt2, if_neg (fun e => h e.2)]

theorem pre_hit (a b : UInt8) (t : List UInt8) : ([a, b] : List UInt8).isPrefixOf (a :: b :: t) = true := by simp [List.isPrefixOf]
theorem pre_miss {a b c d : UInt8} (h : ¬ (c = a ∧ d = b)) (t : List UInt8) : ([a, b] : List UInt8).isPrefixOf (c :: d :: t) = false := by
  by_cases h1 : c = a
  · have h2 : ¬ b = d := fun e => h ⟨h1, e.symm⟩
    simp [List.isPrefixOf, h2]
  · have h2 : ¬ a = c := fun e => h1 e.symm
    simp [List.isPrefixOf, h2]
theorem index_hit2 (a b : UInt8) (t : List UInt8) : Lib.index (a :: b :: t) [a, b] = ((0 : Nat) : Int) := by rw [Lib.index, if_pos (pre_hit a b t)]; rfl
theorem index_miss2 {a b c : UInt8} {t : List UInt8} (h : ([a, b] : List UInt8).isPrefixOf (c :: t) = false) : Lib.index (c :: t) [a, b] = if Lib.index t [a, b] == -1 then -1 else Lib.index t [a, b] + 1 := by
  rw [Lib.index, if_neg (by rw [h]; simp)]
theorem count_cons {a b c : UInt8} {t : List UInt8} (h : ([a, b] : List UInt8).isPrefixOf (c :: t) = false) : Lib.count (c :: t) [a, b] = Lib.count t [a, b] := by
  have hi := index_miss2 h
  have hg := Lib.index_ge t [a, b]
  by_cases h1 : Lib.index t [a, b] = -1
  · rw [h1] at hi
    rw [Lib.count_miss (by simpa using hi), Lib.count_miss h1]
  · obtain ⟨i, h2⟩ : ∃ i : Nat, Lib.index t [a, b] = i := ⟨(Lib.index t [a, b]).toNat, by omega⟩
    rw [h2] at hi
    have h3 : Lib.index (c :: t) [a, b] = ((i + 1 : Nat) : Int) := by
      rw [hi, if_neg (by simp)]
      omega
    rw [Lib.count_hit (by simp) h3, Lib.count_hit (by simp) h2]
    have : (c :: t).drop (i + 1 + [a, b].length) = t.drop (i + [a, b].length) := by
      rw [show i + 1 + [a, b].length = (i + [a, b].length) + 1 from by omega]
      rfl
    rw [this]
theorem replaceK_cons {a b c : UInt8} {new t : List UInt8} (h : ([a, b] : List UInt8).isPrefixOf (c :: t) = false) (k : Nat) : Lib.replaceK [a, b] new k (c :: t) = c :: Lib.replaceK [a, b] new k t := by
  have hi := index_miss2 h
  have hg := Lib.index_ge t [a, b]
  cases k with
  | zero => rfl
  | succ k =>
    by_cases h1 : Lib.index t [a, b] = -1
    · rw [h1] at hi
      have h2 : Lib.index (c :: t) [a, b] = -1 := by simpa using hi
      rw [Lib.replaceK, if_pos (beq_iff_eq.2 h2), Lib.replaceK, if_pos (beq_iff_eq.2 h1)]
    · obtain ⟨i, h2⟩ : ∃ i : Nat, Lib.index t [a, b] = i := ⟨(Lib.index t [a, b]).toNat, by omega⟩
      rw [h2] at hi
      have h3 : Lib.index (c :: t) [a, b] = ((i + 1 : Nat) : Int) := by
        rw [hi, if_neg (by simp)]
        omega
      rw [Lib.replaceK_hit _ _ _ _ _ h3, Lib.replaceK_hit _ _ _ _ _ h2]
      have : (c :: t).drop (i + 1 + [a, b].length) = t.drop (i + [a, b].length) := by
        rw [show i + 1 + [a, b].length = (i + [a, b].length) + 1 from by omega]
        rfl
      rw [this]
      rfl
theorem count_two (a b : UInt8) (l : List UInt8) : Lib.count l [a, b] = cnt2 a b l := by
  induction l using cnt2.induct (a := a) (b := b) with
  | case1 => rfl
  | case2 c => rw [count_cons (by simp [List.isPrefixOf])]; rfl
  | case3 c d t h ih =>
    obtain ⟨rfl, rfl⟩ := h
    rw [cnt2_hit, Lib.count_hit (by simp) (index_hit2 c d t), ← ih]
    rfl
  | case4 c d t h ih => rw [cnt2, if_neg h, count_cons (pre_miss h t), ih]
theorem replaceK_two (a b : UInt8) (new l : List UInt8) : Lib.replaceK [a, b] new (cnt2 a b l) l = rep2 a b new l := by
  induction l using cnt2.induct (a := a) (b := b) with
  | case1 => rfl
  | case2 c => rfl
  | case3 c d t h ih =>
    obtain ⟨rfl, rfl⟩ := h
    rw [cnt2_hit, Nat.add_comm, Lib.replaceK_hit _ _ _ _ _ (index_hit2 c d t), rep2_hit, ← ih]
    rfl
  | case4 c d t h ih => rw [cnt2, if_neg h, rep2, if_neg h, replaceK_cons (pre_miss h t), ih]
theorem replaceAll_two (a b : UInt8) (new l : List UInt8) (h : ¬ [a, b] = new) : Lib.replaceAll l [a, b] new = rep2 a b new l := by
  unfold Lib.replaceAll Lib.replace
  rw [if_neg (by simpa using h)]
  have : Lib.replaceNum l [a, b] (-1) = cnt2 a b l := by
    unfold Lib.replaceNum
    rw [if_pos (Or.inl (by decide)), count_two]
  rw [this, replaceK_two]

/-- a part as it is read -/
def unP : List UInt8 → Option (List UInt8)
  | [] => some []
  | c :: t => if c = 126 then (match t with
      | d :: t => if d = 48 then (unP t).map (126 :: ·) else if d = 49 then (unP t).map (47 :: ·) else none
      | [] => none) else (unP t).map (c :: ·)
theorem unP_ne {c : UInt8} (h : c ≠ 126) (t : List UInt8) : unP (c :: t) = (unP t).map (c :: ·) := by
  cases t <;> simp [unP, h]
theorem unP_0 (t : List UInt8) : unP (126 :: 48 :: t) = (unP t).map (126 :: ·) := by simp [unP]
theorem unP_1 (t : List UInt8) : unP (126 :: 49 :: t) = (unP t).map (47 :: ·) := by simp [unP]
theorem unP_bad {d : UInt8} (h0 : d ≠ 48) (h1 : d ≠ 49) (t : List UInt8) : unP (126 :: d :: t) = none := by simp [unP, h0, h1]
theorem unP_end : unP [126] = none := by simp [unP]

def wB (w : List UInt8) : List UInt8 := rep2 126 49 [] (rep2 126 48 [] w)
def wV (w : List UInt8) : List UInt8 := rep2 126 48 [126] (rep2 126 49 [47] w)
theorem wBare_eq (w : List UInt8) : wBare w = wB w := by unfold wBare wB; rw [replaceAll_two _ _ _ _ (by decide), replaceAll_two _ _ _ _ (by decide)]
theorem wVal_eq (w : List UInt8) : wVal w = wV w := by unfold wVal wV; rw [replaceAll_two _ _ _ _ (by decide), replaceAll_two _ _ _ _ (by decide)]
theorem wB_0 (t : List UInt8) : wB (126 :: 48 :: t) = wB t := by unfold wB; rw [rep2_hit]; rfl
theorem wB_1 (t : List UInt8) : wB (126 :: 49 :: t) = wB t := by unfold wB; rw [rep2_miss (by decide), rep2_ne (c := 49) (by decide), rep2_hit]; rfl
theorem wB_ne {c : UInt8} (h : c ≠ 126) (t : List UInt8) : wB (c :: t) = c :: wB t := by unfold wB; rw [rep2_ne h, rep2_ne h]
theorem wV_0 (t : List UInt8) : wV (126 :: 48 :: t) = 126 :: wV t := by unfold wV; rw [rep2_miss (by decide), rep2_ne (c := 48) (by decide), rep2_hit]; rfl
theorem wV_1 (t : List UInt8) : wV (126 :: 49 :: t) = 47 :: wV t := by
  unfold wV
  rw [rep2_hit]
  exact rep2_ne (by decide) _
theorem wV_ne {c : UInt8} (h : c ≠ 126) (t : List UInt8) : wV (c :: t) = c :: wV t := by unfold wV; rw [rep2_ne h, rep2_ne h]

theorem parts_ind {P : List UInt8 → Prop} (h0 : P []) (h1 : ∀ t, P t → P (126 :: 48 :: t)) (h2 : ∀ t, P t → P (126 :: 49 :: t)) (h3 : ∀ c t, c ≠ 126 → P t → P (c :: t)) (h4 : ∀ d t, d ≠ 48 → d ≠ 49 → P (d :: t) → P (126 :: d :: t)) (h5 : P [126]) : ∀ l, P l := by
  have : ∀ (n : Nat) (l : List UInt8), l.length ≤ n → P l := by
    intro n
    induction n with
    | zero => intro l hl; obtain rfl := List.eq_nil_of_length_eq_zero (by omega : l.length = 0); exact h0
    | succ n ih =>
      intro l hl
      cases l with
      | nil => exact h0
      | cons c t =>
        by_cases hc : c = 126
        · subst hc
          cases t with
          | nil => exact h5
          | cons d t =>
            simp only [List.length_cons] at hl
            by_cases hd : d = 48
            · subst hd; exact h1 t (ih t (by omega))
            · by_cases hd1 : d = 49
              · subst hd1; exact h2 t (ih t (by omega))
              · exact h4 d t hd hd1 (ih _ (by simp only [List.length_cons]; omega))
        · exact h3 c t hc (ih t (by simp only [List.length_cons] at hl; omega))
  exact fun l => this l.length l (Nat.le_refl _)
/-- no more than there are; as many, where none is wrong -/
theorem cnt_le (l : List UInt8) : cnt2 126 48 l + cnt2 126 49 l ≤ l.count 126 ∧ (unP l = none → cnt2 126 48 l + cnt2 126 49 l < l.count 126) := by
  induction l using parts_ind with
  | h0 => simp [cnt2, unP]
  | h1 t ih => rw [cnt2_hit, cnt2_miss (by decide), cnt2_ne (c := 48) (by decide), List.count_cons_self, List.count_cons_of_ne (by decide), unP_0]; simp only [Option.map_eq_none_iff]; exact ⟨by omega, fun h => by have := ih.2 h; omega⟩
  | h2 t ih => rw [cnt2_miss (by decide), cnt2_ne (c := 49) (by decide), cnt2_hit, List.count_cons_self, List.count_cons_of_ne (by decide), unP_1]; simp only [Option.map_eq_none_iff]; exact ⟨by omega, fun h => by have := ih.2 h; omega⟩
  | h3 c t h ih => rw [cnt2_ne h, cnt2_ne h, List.count_cons_of_ne h, unP_ne h]; simp only [Option.map_eq_none_iff]; exact ih
  | h4 d t h0 h1 ih => rw [cnt2_miss h0, cnt2_miss h1, List.count_cons_self]; omega
  | h5 => decide
/-- where none is wrong -/
theorem unP_some (l : List UInt8) : ∀ v, unP l = some v → l.count 126 = cnt2 126 48 l + cnt2 126 49 l ∧ has 126 (wB l) = false ∧ wV l = v := by
  induction l using parts_ind with
  | h0 => intro v h; simp [unP] at h; subst h; decide
  | h1 t ih =>
    intro v h
    rw [unP_0] at h
    simp only [Option.map_eq_some_iff] at h
    obtain ⟨u, hu, rfl⟩ := h
    obtain ⟨a, b, c⟩ := ih u hu
    rw [cnt2_hit, cnt2_miss (by decide), cnt2_ne (c := 48) (by decide), List.count_cons_self, List.count_cons_of_ne (by decide), wB_0, wV_0, c]
    exact ⟨by omega, b, rfl⟩
  | h2 t ih =>
    intro v h
    rw [unP_1] at h
    simp only [Option.map_eq_some_iff] at h
    obtain ⟨u, hu, rfl⟩ := h
    obtain ⟨a, b, c⟩ := ih u hu
    rw [cnt2_miss (by decide), cnt2_ne (c := 49) (by decide), cnt2_hit, List.count_cons_self, List.count_cons_of_ne (by decide), wB_1, wV_1, c]
    exact ⟨by omega, b, rfl⟩
  | h3 c t h ih =>
    intro v hv
    rw [unP_ne h] at hv
    simp only [Option.map_eq_some_iff] at hv
    obtain ⟨u, hu, rfl⟩ := hv
    obtain ⟨a, b, d⟩ := ih u hu
    rw [cnt2_ne h, cnt2_ne h, List.count_cons_of_ne h, wB_ne h, wV_ne h, d]
    refine ⟨a, ?_, rfl⟩
    unfold has at b ⊢
    rw [contains_ne h]
    exact b
  | h4 d t h0 h1 ih => intro v h; rw [unP_bad h0 h1] at h; cases h
  | h5 => intro v h; simp [unP] at h
theorem unP_is (w : List UInt8) : unP w = if wOk w then some (wVal w) else none := by
  have hc := cnt_le w
  have hs := unP_some w
  unfold wOk
  rw [wVal_eq, wBare_eq, count_two, count_two]
  cases h : unP w with
  | none =>
    have := hc.2 h
    rw [if_neg]
    intro e
    rw [Bool.and_eq_true, beq_iff_eq] at e
    omega
  | some v =>
    obtain ⟨a, b, c⟩ := hs v h
    rw [a, b, c]
    simp
theorem wOk_iff (w : List UInt8) : wOk w = (unP w).isSome := by rw [unP_is]; split <;> simp [*]
theorem wVal_get {w : List UInt8} (h : wOk w = true) : unP w = some (wVal w) := by rw [unP_is, if_pos h]

/-- the parts of a text that begins with a stroke -/
def allP? : List (List UInt8) → Option (List (List UInt8))
  | [] => some []
  | w :: ws => match unP w with
    | some v => (allP? ws).map (v :: ·)
    | none => none
theorem allP?_is (ws : List (List UInt8)) : (if ws.all wOk then some (ws.map wVal) else none) = allP? ws := by
  induction ws with
  | nil => rfl
  | cons w ws ih =>
    rw [List.all_cons, wOk_iff]
    cases h : unP w with
    | none => simp [allP?, h]
    | some v =>
      have hv : wVal w = v := by
        have := wVal_get (w := w) (by rw [wOk_iff, h]; rfl)
        rw [h] at this
        exact (Option.some.inj this).symm
      rw [allP?, h, ← ih]
      simp only [Option.isSome_some, Bool.true_and, List.map_cons, hv]
      split <;> simp
theorem parseP_go (t : List UInt8) : parseP (47 :: t) = allP? (spl 47 (t.count 47) t) := by rw [parseP, if_pos rfl, allP?_is]

/-- a part, written, but for the stroke ahead -/
def inner (l : List UInt8) : List UInt8 := rep 47 [126, 49] (rep 126 [126, 48] l)
theorem inner_cons (c : UInt8) (l : List UInt8) : inner (c :: l) = (if c = 126 then [126, 48] else if c = 47 then [126, 49] else [c]) ++ inner l := by
  unfold inner
  have e : rep 126 [126, 48] (c :: l) = (if c = 126 then [126, 48] else [c]) ++ rep 126 [126, 48] l := rfl
  rw [e, rep_append]
  congr 1
  by_cases h1 : c = 126
  · rw [if_pos h1, if_pos h1]; rfl
  · rw [if_neg h1, if_neg h1]
    by_cases h2 : c = 47
    · rw [if_pos h2]; subst h2; rfl
    · rw [if_neg h2]; simp [rep, h2]
end Go.Proofs.YthicgeiljficbaaDoor

/- caliperref07.Parse, Part, Text are pointer's laws. -/
namespace Go.Proofs.YthicgeiljficbaaDoor
open Go.RowKit Go.Proofs.YthicgeiljficbaaDoor.Ref Go.Proofs.YthicgeiljficbaaDoorW.PrintWords Go.Proofs.YthicgeiljficbaaDoorW.PrintLast
set_option linter.unusedSimpArgs false
set_option linter.unusedVariables false
set_option linter.unnecessarySimpa false

theorem wr1 (n : Nat) (h : n ≤ 281474976710656) : wrap64 ((n : Int) + 1) = ((n + 1 : Nat) : Int) := by unfold wrap64; omega
theorem wr2 (n : Nat) (h : n ≤ 281474976710656) : wrap64 (wrap64 ((n : Int) + 1) + 1) = ((n + 2 : Nat) : Int) := by rw [wr1 n h]; unfold wrap64; omega
theorem bt_str (l : List UInt8) (i : Nat) (h : i < l.length) : bt (str l) (i : Int) = ((l.getD i 0).toNat : Int) := by
  have hs : i < (str l).size := by rw [str_size]; exact h
  unfold bt
  rw [dif_pos (by simpa using hs)]
  have := str_index l i hs
  simp only [Int.toNat_natCast, this]
theorem drop_c {l : List UInt8} {i : Nat} {c : UInt8} {t : List UInt8} (h : l.drop i = c :: t) : i < l.length ∧ l.getD i 0 = c ∧ l.drop (i + 1) = t := by
  have hlt : i < l.length := by
    rcases Nat.lt_or_ge i l.length with h' | h'
    · exact h'
    · rw [List.drop_eq_nil_of_le h'] at h; cases h
  rw [List.drop_eq_getElem_cons hlt] at h
  injection h with h1 h2
  exact ⟨hlt, by simp [List.getD, hlt, h1], h2⟩
theorem ext_one {l : List UInt8} {i : Nat} {c : UInt8} {t : List UInt8} (h : l.drop i = c :: t) : (str l).extract i (i + 1) = str [c] := by
  rw [str_extract, h]
  simp
theorem eqc (c d : UInt8) : (c.toNat : Int) = (d.toNat : Int) ↔ c = d := by
  constructor
  · intro h; exact UInt8.toNat_inj.1 (by omega)
  · rintro rfl; rfl

/-- the parts behind the first stroke: w is what the present one has -/
def rdP (w : List UInt8) : List UInt8 → Option (List (List UInt8))
  | [] => some [w]
  | c :: t => if c = 47 then (rdP [] t).map (w :: ·) else if c = 126 then (match t with
      | d :: t => if d = 48 then rdP (w ++ [126]) t else if d = 49 then rdP (w ++ [47]) t else none
      | [] => none) else rdP (w ++ [c]) t
theorem rdP_stroke (w t : List UInt8) : rdP w (47 :: t) = (rdP [] t).map (w :: ·) := by cases t <;> simp [rdP]
theorem rdP_ne {c : UInt8} (h1 : c ≠ 47) (h2 : c ≠ 126) (w t : List UInt8) : rdP w (c :: t) = rdP (w ++ [c]) t := by cases t <;> simp [rdP, h1, h2]
theorem rdP_0 (w t : List UInt8) : rdP w (126 :: 48 :: t) = rdP (w ++ [126]) t := by simp [rdP]
theorem rdP_1 (w t : List UInt8) : rdP w (126 :: 49 :: t) = rdP (w ++ [47]) t := by simp [rdP]
theorem rdP_bad {d : UInt8} (h0 : d ≠ 48) (h1 : d ≠ 49) (w t : List UInt8) : rdP w (126 :: d :: t) = none := by simp [rdP, h0, h1]
theorem rdP_end (w : List UInt8) : rdP w [126] = none := by simp [rdP]

theorem spl_cons {c b : UInt8} (h : b ≠ c) : ∀ (n : Nat) (t : List UInt8), ∃ p ps, spl c n t = p :: ps ∧ spl c n (b :: t) = (b :: p) :: ps
  | 0, t => ⟨t, [], rfl, rfl⟩
  | n + 1, t => by
    unfold spl
    rw [contains_ne h]
    by_cases hc : t.contains c = true
    · rw [if_pos hc, if_pos hc]
      have e1 : bef c (b :: t) = b :: bef c t := by simp [bef, h]
      have e2 : aft c (b :: t) = aft c t := by simp [aft, List.dropWhile_cons, h]
      rw [e1, e2]
      exact ⟨_, _, rfl, rfl⟩
    · rw [if_neg hc, if_neg hc]
      exact ⟨_, _, rfl, rfl⟩
theorem spl_stroke (t : List UInt8) : spl 47 ((47 :: t).count 47) (47 :: t) = [] :: spl 47 (t.count 47) t := by
  rw [List.count_cons_self, spl, if_pos (by simp)]
  simp [bef, aft]

def pre (w : List UInt8) : Option (List UInt8) → Option (List (List UInt8)) → Option (List (List UInt8))
  | some v, some vs => some ((w ++ v) :: vs)
  | _, _ => none
theorem rdP_is (s : List UInt8) : ∀ w, ∃ p ps, spl 47 (s.count 47) s = p :: ps ∧ rdP w s = pre w (unP p) (allP? ps) := by
  have step : ∀ (c : UInt8) (t : List UInt8), c ≠ 47 → ∀ p ps, spl 47 (t.count 47) t = p :: ps → spl 47 ((c :: t).count 47) (c :: t) = (c :: p) :: ps := by
    intro c t h p ps hp
    rw [List.count_cons_of_ne h]
    obtain ⟨q, qs, h1, h2⟩ := spl_cons h (t.count 47) t
    rw [h1] at hp
    cases hp
    exact h2
  have main : ∀ (n : Nat) (s : List UInt8), s.length ≤ n → ∀ w, ∃ p ps, spl 47 (s.count 47) s = p :: ps ∧ rdP w s = pre w (unP p) (allP? ps) := by
    intro n
    induction n with
    | zero =>
      intro s hs w
      obtain rfl := List.eq_nil_of_length_eq_zero (by omega : s.length = 0)
      exact ⟨[], [], rfl, by simp [rdP, unP, allP?, pre]⟩
    | succ n ih =>
      intro s hs w
      cases s with
      | nil => exact ⟨[], [], rfl, by simp [rdP, unP, allP?, pre]⟩
      | cons c t =>
        simp only [List.length_cons] at hs
        by_cases h1 : c = 47
        · subst h1
          refine ⟨[], _, spl_stroke t, ?_⟩
          obtain ⟨p, ps, h2, h3⟩ := ih t (by omega) []
          rw [rdP_stroke, h3, h2]
          show _ = pre w (some []) (allP? (p :: ps))
          rw [allP?]
          cases unP p with
          | none => rfl
          | some v => cases allP? ps <;> simp [pre]
        · by_cases h2 : c = 126
          · subst h2
            cases t with
            | nil => exact ⟨[126], [], rfl, by rw [rdP_end, unP_end]; rfl⟩
            | cons d t =>
              simp only [List.length_cons] at hs
              by_cases h3 : d = 48
              · subst h3
                obtain ⟨p, ps, h4, h5⟩ := ih t (by omega) (w ++ [126])
                refine ⟨126 :: 48 :: p, ps, step _ _ (by decide) _ _ (step _ _ (by decide) _ _ h4), ?_⟩
                rw [rdP_0, h5, unP_0]
                cases unP p <;> cases allP? ps <;> simp [pre]
              · by_cases h4 : d = 49
                · subst h4
                  obtain ⟨p, ps, h5, h6⟩ := ih t (by omega) (w ++ [47])
                  refine ⟨126 :: 49 :: p, ps, step _ _ (by decide) _ _ (step _ _ (by decide) _ _ h5), ?_⟩
                  rw [rdP_1, h6, unP_1]
                  cases unP p <;> cases allP? ps <;> simp [pre]
                · rw [rdP_bad h3 h4]
                  by_cases h5 : d = 47
                  · subst h5
                    exact ⟨[126], _, step _ _ (by decide) _ _ (spl_stroke t), by rw [unP_end]; rfl⟩
                  · obtain ⟨p, ps, h6, -⟩ := ih t (by omega) w
                    refine ⟨126 :: d :: p, ps, step _ _ (by decide) _ _ (step _ _ h5 _ _ h6), ?_⟩
                    rw [unP_bad h3 h4]
                    rfl
          · obtain ⟨p, ps, h3, h4⟩ := ih t (by omega) (w ++ [c])
            refine ⟨c :: p, ps, step _ _ h1 _ _ h3, ?_⟩
            rw [rdP_ne h1 h2, h4, unP_ne h2]
            cases unP p <;> cases allP? ps <;> simp [pre]
  exact main s.length s (Nat.le_refl _)
theorem rdP_all (s : List UInt8) : rdP [] s = allP? (spl 47 (s.count 47) s) := by
  obtain ⟨p, ps, h1, h2⟩ := rdP_is s []
  rw [h1, h2, allP?]
  cases unP p with
  | none => rfl
  | some v => cases allP? ps <;> simp [pre]
theorem parseP_rd (t : List UInt8) : parseP (47 :: t) = rdP [] t := by rw [parseP_go, rdP_all]

/-- what the reference's loop comes to -/
def outP (done : List (List UInt8)) : Option (List (List UInt8)) → List ByteArray × Int
  | some ps => ((done ++ ps).map str, 0)
  | none => ([], 70)
theorem outP_stroke (done : List (List UInt8)) (w : List UInt8) (o : Option (List (List UInt8))) : outP done (o.map (w :: ·)) = outP (done ++ [w]) o := by
  cases o <;> simp [outP]
theorem beq_toNat (c d : UInt8) : ((c.toNat : Int) == (d.toNat : Int)) = (c == d) := by
  by_cases h : c = d
  · subst h; simp
  · have : ¬ (c.toNat : Int) = (d.toNat : Int) := fun e => h ((eqc c d).1 e)
    rw [beq_eq_false_iff_ne.2 this, beq_eq_false_iff_ne.2 h]
theorem ne_toNat {c d : UInt8} (h : c ≠ d) : ¬ (c.toNat : Int) = (d.toNat : Int) := fun e => h ((eqc c d).1 e)

theorem l0_at (l : List UInt8) (k i : Nat) (xs : List ByteArray) (w : ByteArray) (c : UInt8) (t : List UInt8) (h : l.drop i = c :: t) : caliperref07_Parse.l0 (k + 1) (str l) xs w i = caliperref07_Parse.j1 k (str l) xs w i (c == 47) := by
  obtain ⟨h1, h2, h3⟩ := drop_c h
  have hs := str_size l
  have e : ((c.toNat : Int) == 47) = (c == 47) := beq_toNat c 47
  simp only [caliperref07_Parse.l0]
  rw [hs, if_pos (by omega), if_neg (by omega), if_pos (by omega), if_pos (by omega), bt_str l i h1, h2, e]
theorem parse_loop (l : List UInt8) (hl : l.length ≤ 67108864) : ∀ (d i : Nat) (done : List (List UInt8)) (w : List UInt8), i + d = l.length → done.length ≤ i → w.length ≤ i → ∀ k, 3 * d + 4 ≤ k →
    caliperref07_Parse.l0 k (str l) (done.map str) (str w) i = some (outP done (rdP w (l.drop i))) := by
  have hs := str_size l
  intro d
  induction d using Nat.strongRecOn with
  | _ d ih =>
    intro i done w hi hdn hw k hk
    have hws := str_size w
    obtain ⟨k, rfl⟩ : ∃ j, k = j + 3 := ⟨k - 3, by omega⟩
    by_cases hend : i = l.length
    · subst hend
      obtain ⟨k, rfl⟩ : ∃ j, k = j + 1 := ⟨k - 1, by omega⟩
      rw [List.drop_length, rdP]
      have e1 : caliperref07_Parse.l0 (k + 1 + 3) (str l) (done.map str) (str w) (l.length : Nat) = caliperref07_Parse.j1 (k + 1 + 2) (str l) (done.map str) (str w) (l.length : Nat) true := by
        rw [caliperref07_Parse.l0, hs, if_pos (by omega), if_pos rfl]
      have e2 : caliperref07_Parse.j1 (k + 1 + 2) (str l) (done.map str) (str w) (l.length : Nat) true = caliperref07_Parse.l0 (k + 1 + 1) (str l) (done.map str ++ [str w]) ⟨#[]⟩ ((l.length + 1 : Nat) : Int) := by
        rw [caliperref07_Parse.j1, if_pos rfl, List.length_map, if_pos (by omega), wr1 l.length (by omega)]
      have e3 : caliperref07_Parse.l0 (k + 1 + 1) (str l) (done.map str ++ [str w]) ⟨#[]⟩ ((l.length + 1 : Nat) : Int) = some (done.map str ++ [str w], 0) := by
        rw [caliperref07_Parse.l0, hs, if_neg (by omega)]
      rw [e1, e2, e3]
      simp [outP]
    · obtain ⟨c, t, hd⟩ : ∃ c t, l.drop i = c :: t := by
        cases h : l.drop i with
        | nil => have := List.drop_eq_nil_iff.1 h; omega
        | cons c t => exact ⟨c, t, rfl⟩
      obtain ⟨h1, h2, h3⟩ := drop_c hd
      rw [l0_at l (k + 2) i _ _ c t hd, hd]
      by_cases c47 : c = 47
      · subst c47
        rw [rdP_stroke, outP_stroke]
        have e2 : caliperref07_Parse.j1 (k + 2) (str l) (done.map str) (str w) i ((47 : UInt8) == 47) = caliperref07_Parse.l0 (k + 1) (str l) ((done ++ [w]).map str) (str []) ((i + 1 : Nat) : Int) := by
          rw [caliperref07_Parse.j1, if_pos (by decide), List.length_map, if_pos (by omega), wr1 i (by omega), List.map_append]
          rfl
        rw [e2, ← h3]
        exact ih (l.length - (i + 1)) (by omega) (i + 1) (done ++ [w]) [] (by omega) (by simp; omega) (by simp) (k + 1) (by omega)
      · have e47 : (c == 47) = false := by simpa using c47
        rw [e47]
        have hbt := bt_str l i h1
        rw [h2] at hbt
        by_cases c126 : c = 126
        · subst c126
          have hb : ((126 : UInt8).toNat : Int) = 126 := rfl
          rw [hb] at hbt
          have e2 : caliperref07_Parse.j1 (k + 2) (str l) (done.map str) (str w) i false = if i + 1 < l.length then caliperref07_Parse.j2 (k + 1) (str l) (done.map str) (str w) i (l.getD (i + 1) 0 == 48) else caliperref07_Parse.j2 (k + 1) (str l) (done.map str) (str w) i false := by
            rw [caliperref07_Parse.j1, if_neg (by simp), hs, if_pos (by omega), if_pos (by omega), hbt, if_pos rfl, wr1 i (by omega)]
            by_cases h4 : i + 1 < l.length
            · rw [if_pos (by omega), if_pos (by omega), bt_str l (i + 1) h4, if_pos h4]
              have := beq_toNat (l.getD (i + 1) 0) 48
              have e48 : ((48 : UInt8).toNat : Int) = 48 := rfl
              rw [e48] at this
              rw [this]
            · rw [if_neg (by omega), if_neg h4]
          rw [e2]
          by_cases h4 : i + 1 < l.length
          · rw [if_pos h4]
            obtain ⟨e, t2, ht2⟩ : ∃ e t2, t = e :: t2 := by
              cases t with
              | nil => rw [List.drop_eq_nil_iff] at h3; omega
              | cons e t2 => exact ⟨e, t2, rfl⟩
            subst ht2
            obtain ⟨h5, h6, h7⟩ := drop_c h3
            have h7 : l.drop (i + 2) = t2 := h7
            rw [h6]
            have hbt2 := bt_str l (i + 1) h4
            rw [h6] at hbt2
            by_cases c48 : e = 48
            · subst c48
              have e3 : caliperref07_Parse.j2 (k + 1) (str l) (done.map str) (str w) i ((48 : UInt8) == 48) = caliperref07_Parse.l0 k (str l) (done.map str) (str (w ++ [126])) ((i + 2 : Nat) : Int) := by
                rw [caliperref07_Parse.j2, if_pos (by decide), hws, if_pos (by omega), wr2 i (by omega), str_append_lit]
              rw [e3, rdP_0, ← h7]
              exact ih (l.length - (i + 2)) (by omega) (i + 2) done (w ++ [126]) (by omega) (by omega) (by simp; omega) k (by omega)
            · have e48 : (e == 48) = false := by simpa using c48
              rw [e48]
              by_cases c49 : e = 49
              · subst c49
                have hb9 : ((49 : UInt8).toNat : Int) = 49 := rfl
                rw [hb9] at hbt2
                have e3 : caliperref07_Parse.j2 (k + 1) (str l) (done.map str) (str w) i false = caliperref07_Parse.l0 k (str l) (done.map str) (str (w ++ [47])) ((i + 2 : Nat) : Int) := by
                  rw [caliperref07_Parse.j2, if_neg (by simp), hs, wr2 i (by omega), wr1 i (by omega), if_pos (by omega), if_pos (by omega), hbt2, if_pos rfl, hws, if_pos (by omega), str_append_lit]
                rw [e3, rdP_1, ← h7]
                exact ih (l.length - (i + 2)) (by omega) (i + 2) done (w ++ [47]) (by omega) (by omega) (by simp; omega) k (by omega)
              · have e3 : caliperref07_Parse.j2 (k + 1) (str l) (done.map str) (str w) i false = some ([], 70) := by
                  have hn : ¬ (e.toNat : Int) = 49 := ne_toNat c49
                  rw [caliperref07_Parse.j2, if_neg (by simp), hs, wr2 i (by omega), wr1 i (by omega), if_pos (by omega), if_pos (by omega), hbt2, if_neg hn]
                rw [e3, rdP_bad c48 c49]
                rfl
          · rw [if_neg h4]
            have ht : t = [] := by rw [← h3]; exact List.drop_eq_nil_of_le (by omega)
            subst ht
            have e3 : caliperref07_Parse.j2 (k + 1) (str l) (done.map str) (str w) i false = some ([], 70) := by
              rw [caliperref07_Parse.j2, if_neg (by simp), hs, wr2 i (by omega), wr1 i (by omega), if_neg (by omega)]
            rw [e3, rdP_end]
            rfl
        · have hn : ¬ (c.toNat : Int) = 126 := ne_toNat c126
          have e2 : caliperref07_Parse.j1 (k + 2) (str l) (done.map str) (str w) i false = caliperref07_Parse.l0 (k + 1) (str l) (done.map str) (str (w ++ [c])) ((i + 1 : Nat) : Int) := by
            have hx : ((str l).extract ((i : Int)).toNat (((i + 1 : Nat) : Int)).toNat) = str [c] := by
              rw [Int.toNat_natCast, Int.toNat_natCast]
              exact ext_one hd
            have hz : (str [c]).size = 1 := rfl
            rw [caliperref07_Parse.j1, if_neg (by simp), hs, if_pos (by omega), if_pos (by omega), hbt, if_neg hn, wr1 i (by omega), if_pos (by omega), if_pos (by omega), hx, hws, hz, if_pos (by omega), str_append]
          rw [e2, rdP_ne c47 c126, ← h3]
          exact ih (l.length - (i + 1)) (by omega) (i + 1) done (w ++ [c]) (by omega) (by omega) (by simp; omega) (k + 1) (by omega)

theorem parseR_is (l : List UInt8) (hl : l.length ≤ 67108864) : ∃ k, caliperref07_Parse.f k (str l) = some (outP [] (parseP l)) := by
  have hs := str_size l
  cases l with
  | nil =>
    refine ⟨0, ?_⟩
    unfold caliperref07_Parse.f
    rw [if_pos (by rw [str_toList])]
    rfl
  | cons c t =>
    refine ⟨3 * t.length + 5, ?_⟩
    have h1 : ¬ (str (c :: t)).toList = [] := by rw [str_toList]; simp
    have hb := bt_str (c :: t) 0 (by simp)
    have hb0 : bt (str (c :: t)) 0 = (c.toNat : Int) := hb
    unfold caliperref07_Parse.f
    rw [if_neg h1, hs, if_pos (by simp only [List.length_cons]; omega), hb0]
    by_cases hc : c = 47
    · subst hc
      have e47 : ((47 : UInt8).toNat : Int) = 47 := rfl
      rw [if_pos e47, parseP_rd]
      exact parse_loop (47 :: t) hl t.length 1 [] [] (by simp; omega) (by simp) (by simp) _ (by omega)
    · have hn : ¬ (c.toNat : Int) = 47 := ne_toNat hc
      rw [if_neg hn, parseP, if_neg hc]
      rfl
end Go.Proofs.YthicgeiljficbaaDoor

/- caliperref07.Part, Text; the reference's contracts in pointer's words. -/
namespace Go.Proofs.YthicgeiljficbaaDoor
open Go.RowKit Go.Proofs.YthicgeiljficbaaDoor.Ref Go.Proofs.YthicgeiljficbaaDoorW.PrintWords Go.Proofs.YthicgeiljficbaaDoorW.PrintLast
set_option linter.unusedSimpArgs false
set_option linter.unusedVariables false
set_option linter.unnecessarySimpa false

theorem part_loop (l : List UInt8) (hl : l.length ≤ 67108864) : ∀ (d i : Nat) (acc : List UInt8), i + d = l.length → acc.length ≤ 2 * i + 1 → ∀ k, d + 1 ≤ k →
    caliperref07_Part.l0 k (str l) (str acc) i = some (str (acc ++ inner (l.drop i))) := by
  have hs := str_size l
  intro d
  induction d with
  | zero =>
    intro i acc hi ha k hk
    obtain ⟨k, rfl⟩ : ∃ j, k = j + 1 := ⟨k - 1, by omega⟩
    have e1 : caliperref07_Part.l0 (k + 1) (str l) (str acc) i = some (str acc) := by rw [caliperref07_Part.l0, hs, if_neg (by omega)]
    rw [e1, List.drop_eq_nil_of_le (by omega)]
    simp [inner, rep]
  | succ d ih =>
    intro i acc hi ha k hk
    obtain ⟨k, rfl⟩ : ∃ j, k = j + 1 := ⟨k - 1, by omega⟩
    have has := str_size acc
    obtain ⟨c, t, hd⟩ : ∃ c t, l.drop i = c :: t := by
      cases h : l.drop i with
      | nil => have := List.drop_eq_nil_iff.1 h; omega
      | cons c t => exact ⟨c, t, rfl⟩
    obtain ⟨h1, h2, h3⟩ := drop_c hd
    have hbt := bt_str l i h1
    rw [h2] at hbt
    have hx : ((str l).extract ((i : Int)).toNat (((i + 1 : Nat) : Int)).toNat) = str [c] := by
      rw [Int.toNat_natCast, Int.toNat_natCast]
      exact ext_one hd
    have hz : (str [c]).size = 1 := rfl
    rw [hd, inner_cons, ← h3, ← List.append_assoc]
    by_cases c126 : c = 126
    · subst c126
      have hb : ((126 : UInt8).toNat : Int) = 126 := rfl
      rw [hb] at hbt
      have e1 : caliperref07_Part.l0 (k + 1) (str l) (str acc) i = caliperref07_Part.l0 k (str l) (str (acc ++ [126, 48])) ((i + 1 : Nat) : Int) := by
        rw [caliperref07_Part.l0, hs, if_pos (by omega), if_pos (by omega), hbt, if_pos rfl, has, if_pos (by omega), wr1 i (by omega), str_append_lit]
      rw [e1, if_pos rfl]
      exact ih (i + 1) _ (by omega) (by simp; omega) k (by omega)
    · have hn : ¬ (c.toNat : Int) = 126 := ne_toNat c126
      rw [if_neg c126]
      by_cases c47 : c = 47
      · subst c47
        have hb : ((47 : UInt8).toNat : Int) = 47 := rfl
        rw [hb] at hbt
        have e1 : caliperref07_Part.l0 (k + 1) (str l) (str acc) i = caliperref07_Part.l0 k (str l) (str (acc ++ [126, 49])) ((i + 1 : Nat) : Int) := by
          rw [caliperref07_Part.l0, hs, if_pos (by omega), if_pos (by omega), hbt, if_neg (by omega), if_pos rfl, has, if_pos (by omega), wr1 i (by omega), str_append_lit]
        rw [e1, if_pos rfl]
        exact ih (i + 1) _ (by omega) (by simp; omega) k (by omega)
      · have hn2 : ¬ (c.toNat : Int) = 47 := ne_toNat c47
        have e1 : caliperref07_Part.l0 (k + 1) (str l) (str acc) i = caliperref07_Part.l0 k (str l) (str (acc ++ [c])) ((i + 1 : Nat) : Int) := by
          rw [caliperref07_Part.l0, hs, if_pos (by omega), if_pos (by omega), hbt, if_neg hn, if_neg hn2, wr1 i (by omega), if_pos (by omega), if_pos (by omega), hx, has, hz, if_pos (by omega), str_append]
        rw [e1, if_neg c47]
        exact ih (i + 1) _ (by omega) (by simp; omega) k (by omega)
theorem partR_is (l : List UInt8) (hl : l.length ≤ 67108864) (k : Nat) (hk : l.length + 1 ≤ k) : caliperref07_Part.f k (str l) = some (str (escPart l)) := by
  have := part_loop l hl l.length 0 [47] (by omega) (by simp) k hk
  exact this
/-- a row of texts, as the print tells it -/
theorem txts_R {W : World} {base : Nat} {ok : Nat → Prop} {v : Value} {xs : List (List UInt8)} (h : Kd.R Kd.string 9 W base ok v (xs.map str)) : Txts W v xs := by
  obtain ⟨A, c, rfl, hc, hC⟩ := Kd.R_reads h
  rw [List.length_map] at hc hC ⊢
  by_cases h0 : xs.length = 0
  · obtain rfl := List.eq_nil_of_length_eq_zero h0
    exact .inl ⟨rfl, _, _, rfl⟩
  · obtain ⟨b, off, rfl, hlt, hcell⟩ := C_strs hC (by omega)
    refine .inr ⟨b, off, c, rfl, hlt, fun j hj => ?_⟩
    rw [hcell j hj]
    simp [hj]
theorem Txts.C {W : World} {v : Value} {xs : List (List UInt8)} (h : Txts W v xs) (hn : xs.length ≤ 1048576) : ∃ A c, v = .slice A (xs.map str).length c ∧ Kd.C Kd.string W A (xs.map str).length (xs.map str) := by
  obtain ⟨A, c, rfl, hc⟩ := h.form
  refine ⟨A, c, by rw [List.length_map], rfl, by rw [List.length_map]; omega, fun h0 => ?_⟩
  rw [List.length_map] at h0
  obtain ⟨b, off, rfl, hlt, hcell⟩ := hc h0
  refine ⟨_, rfl, fun j p hj => ⟨[.string p], rfl, rfl, fun i u hu => ?_⟩⟩
  have hjl : j < xs.length := by
    have := (List.getElem?_eq_some_iff.1 hj).1
    rw [List.length_map] at this
    exact this
  obtain rfl : i = 0 := by
    have := (List.getElem?_eq_some_iff.1 hu).1
    simp at this
    exact this
  have hp : p = str xs[j] := by
    simp [hjl] at hj
    exact hj.symm
  have e : (⟨b, off, none⟩ : Addr).add (j * 1 + 0) = ⟨b, off + j, none⟩ := by
    rw [Nat.mul_one, Nat.add_zero]
    cases j <;> simp [Addr.add]
  have e2 : (Kd.string).sz = 1 := rfl
  rw [e2, e, hcell j hjl, ← hp]
  simpa using hu

end Go.Proofs.YthicgeiljficbaaDoor

/- caliperref06.Get, caliperref07.Find: walked by hand. -/
namespace Go.Proofs.YthicgeiljficbaaDoor
open Go.RowKit Go.Proofs.YthicgeiljficbaaDoor.Ref Go.Proofs.YthicgeiljficbaaDoorW.PrintWords Go.Proofs.YthicgeiljficbaaDoorW.PrintLast
set_option linter.unusedSimpArgs false
set_option linter.unusedVariables false
set_option linter.unnecessarySimpa false
attribute [local go_sem] vcs

theorem getV_at {ks : List ByteArray} {xs : List S28} {key : ByteArray} {k : Nat} (hk : k < ks.length) (h : ks.getD k ByteArray.empty = key) (hne : ∀ j, j < k → ks.getD j ByteArray.empty ≠ key) : getV ks xs key = some (xs.getD k z28) := by
  have := Lib.idxOfS_hit ks ks.length k key hk (Nat.le_refl _) h hne
  rw [List.take_length] at this
  unfold getV
  rw [this, if_pos (by omega), Int.toNat_natCast]
theorem getV_not {ks : List ByteArray} {xs : List S28} {key : ByteArray} (hne : ∀ j, j < ks.length → ks.getD j ByteArray.empty ≠ key) : getV ks xs key = none := by
  have := Lib.idxOfS_miss ks ks.length key hne
  rw [List.take_length] at this
  unfold getV
  rw [this, if_neg (by omega)]
theorem parseR_b (l : List UInt8) (hl : l.length ≤ 67108864) (w : World) :
    Calls Tryd.prog 24 #[.string (str l)] w (fun e w' => ∃ v, e = .returned (.tuple #[v, .int .i64 (if (parseP l).isSome then 0 else 70)]) ∧ Txts w' v ((parseP l).getD []) ∧ (∀ k, v.ownBlock = some k → w.heap.size ≤ k) ∧ Below w.heap.size w w') := by
  obtain ⟨k, h⟩ := parseR_is l hl
  refine (caliperref07_Parse.calls k (str l) (outP [] (parseP l)).1 (outP [] (parseP l)).2 w h).mono ?_
  rintro e w' ⟨v, rfl, hR, hb⟩
  have hbase := Kd.R_base hR
  cases hp : parseP l with
  | none => rw [hp] at hR; exact ⟨v, rfl, txts_R (xs := []) hR, hbase, hb⟩
  | some ps => rw [hp] at hR; exact ⟨v, rfl, txts_R (xs := ps) (by simpa [outP] using hR), hbase, hb⟩
theorem Blk.store7' {W : World} {b : Nat} {cs : List Value} {T : TypeId} (h : Blk W b cs T) {k : Nat} (hk : b ≠ k) (v0 v1 v2 v3 v4 v5 v6 : Value) :
    Blk (((((((W.setCell ⟨k, 0, none⟩ v0).setCell ⟨k, 1, none⟩ v1).setCell ⟨k, 2, none⟩ v2).setCell ⟨k, 3, none⟩ v3).setCell ⟨k, 4, none⟩ v4).setCell ⟨k, 5, none⟩ v5).setCell ⟨k, 6, none⟩ v6) b cs T :=
  ((((((h.other v0 hk).other v1 hk).other v2 hk).other v3 hk).other v4 hk).other v5 hk).other v6 hk
theorem Blk.set7' {W : World} {b : Nat} {x0 x1 x2 x3 x4 x5 x6 : Value} {T : TypeId} (h : Blk W b [x0, x1, x2, x3, x4, x5, x6] T) (v0 v1 v2 v3 v4 v5 v6 : Value) :
    Blk (((((((W.setCell ⟨b, 0, none⟩ v0).setCell ⟨b, 1, none⟩ v1).setCell ⟨b, 2, none⟩ v2).setCell ⟨b, 3, none⟩ v3).setCell ⟨b, 4, none⟩ v4).setCell ⟨b, 5, none⟩ v5).setCell ⟨b, 6, none⟩ v6) b [v0, v1, v2, v3, v4, v5, v6] T :=
  ((((((h.set 0 v0).set 1 v1).set 2 v2).set 3 v3).set 4 v4).set 5 v5).set 6 v6
theorem below_store7' {B : Nat} {w W : World} (h : Below B w W) {k : Nat} (hk : B ≤ k) (v0 v1 v2 v3 v4 v5 v6 : Value) :
    Below B w (((((((W.setCell ⟨k, 0, none⟩ v0).setCell ⟨k, 1, none⟩ v1).setCell ⟨k, 2, none⟩ v2).setCell ⟨k, 3, none⟩ v3).setCell ⟨k, 4, none⟩ v4).setCell ⟨k, 5, none⟩ v5).setCell ⟨k, 6, none⟩ v6) :=
  ((((((h.setCell hk v0).setCell hk v1).setCell hk v2).setCell hk v3).setCell hk v4).setCell hk v5).setCell hk v6
theorem cell_store7' {W : World} {b o : Nat} {u : Option Value} (h : W.cell? ⟨b, o, none⟩ = u) {k : Nat} (hk : b ≠ k) (v0 v1 v2 v3 v4 v5 v6 : Value) :
    (((((((W.setCell ⟨k, 0, none⟩ v0).setCell ⟨k, 1, none⟩ v1).setCell ⟨k, 2, none⟩ v2).setCell ⟨k, 3, none⟩ v3).setCell ⟨k, 4, none⟩ v4).setCell ⟨k, 5, none⟩ v5).setCell ⟨k, 6, none⟩ v6).cell? ⟨b, o, none⟩ = u := by
  rw [cell_aside _ _ _ _ _ hk, cell_aside _ _ _ _ _ hk, cell_aside _ _ _ _ _ hk, cell_aside _ _ _ _ _ hk, cell_aside _ _ _ _ _ hk, cell_aside _ _ _ _ _ hk, cell_aside _ _ _ _ _ hk]
  exact h
theorem held8 {W : World} {b off B : Nat} {p x0 x1 x2 x3 x4 x5 x6 : Value} {T : TypeId} (c : W.cell? ⟨b, off, none⟩ = some p) (y : Blk W B [x0, x1, x2, x3, x4, x5, x6] T) :
    W.cell? ⟨b, off, none⟩ = some p ∧ W.cell? ⟨B, 0, none⟩ = some x0 ∧ W.cell? ⟨B, 1, none⟩ = some x1 ∧ W.cell? ⟨B, 2, none⟩ = some x2 ∧ W.cell? ⟨B, 3, none⟩ = some x3 ∧ W.cell? ⟨B, 4, none⟩ = some x4 ∧ W.cell? ⟨B, 5, none⟩ = some x5 ∧ W.cell? ⟨B, 6, none⟩ = some x6 := ⟨c, y.seven.1⟩
/-- cells of memory -/
def Kcells (W : World) (b off : Nat) (cs : List Value) : Prop := ∀ i u, cs[i]? = some u → W.cell? ⟨b, off + i, none⟩ = some u
theorem cell_drew {W : World} {a : Addr} {u : Option Value} (h : W.cell? a = u) : W.drew.cell? a = u := h

theorem ba_iff (a b : ByteArray) : a.data.toList = b.data.toList ↔ a = b := ⟨fun e => by rw [← str_self a, ← str_self b, e], fun e => by rw [e]⟩
theorem ba_toList (a : ByteArray) : a.toList = a.data.toList := by
  have h := str_toList a.data.toList
  rw [str_self] at h
  exact h

set_option maxRecDepth 100000 in
set_option maxHeartbeats 4000000 in
theorem getR_l (x : S28) (v5 v6 : Value) (key : ByteArray) (w0 w : World) (hx : VK w0 x v5 v6) (hb0 : Below w0.heap.size w0 w) (hlen : x.f4.length ≤ x.f3.length) :
    Calls Tryd.prog 30 #[.agg (vcs x v5 v6).toArray, .string key] w (Found (getV x.f4 x.f3 key) w0 w) := by
  have hz0 := hb0.size
  obtain ⟨A5, c5, A6, c6, rfl, rfl, h5, hC5, h6, hC6⟩ := hx
  have HC5 := Lib.hid hC5
  have HC6 := Lib.hid hC6
  have hm6 : x.f4.length ≤ 9223372036854775807 := hC6.2.1
  have hm5 : x.f3.length ≤ 9223372036854775807 := hC5.2.1
  have H0 := Lib.hid hb0
  have HHit : Hid (∀ k, k < x.f4.length → x.f4.getD k ByteArray.empty = key → (∀ j, j < k → x.f4.getD j ByteArray.empty ≠ key) → getV x.f4 x.f3 key = some (x.f3.getD k z28)) := fun k h1 h2 h3 => getV_at h1 h2 h3
  have HMiss : Hid ((∀ j, j < x.f4.length → x.f4.getD j ByteArray.empty ≠ key) → getV x.f4 x.f3 key = none) := getV_not
  clear hC5 hC6 hb0
  show Calls Tryd.prog 30 #[.agg #[.int .i64 x.f0, .bool x.f1.f0, .string x.f1.f1, .int .i64 x.f1.f2, .string x.f2, .slice A5 x.f3.length c5, .slice A6 x.f4.length c6], .string key] w _
  generalize getV x.f4 x.f3 key = g at *
  go_enter Tryd.func30, Tryd.ntmps30
  go_wp2_with fail
  have hb2 : ∀ a b : Obj, Below w.heap.size w ((w.alloc a).alloc b) := fun a b => ((Below.refl _ _).alloc (Nat.le_refl _) _).alloc (by simp) _
  have HB2 := Lib.hid hb2
  clear hb2
  have HK := Lib.hid (Blk.alloc (Blk.new w [.int .i64 x.f0, .bool x.f1.f0, .string x.f1.f1, .int .i64 x.f1.f2, .string x.f2, .slice A5 x.f3.length c5, .slice A6 x.f4.length c6] 28) (.cells zcs.toArray 28))
  have HZ := Lib.hid (Blk.new (w.alloc (.cells #[.int .i64 x.f0, .bool x.f1.f0, .string x.f1.f1, .int .i64 x.f1.f2, .string x.f2, .slice A5 x.f3.length c5, .slice A6 x.f4.length c6] 28)) zcs 28)
  go_loopw [6] (fun i wr => ∃ k : Nat, k ≤ x.f4.length ∧ i = .int .i64 k ∧ Hid (∀ j, j < k → x.f4.getD j ByteArray.empty ≠ key) ∧ Hid (Blk wr w.heap.size [.int .i64 x.f0, .bool x.f1.f0, .string x.f1.f1, .int .i64 x.f1.f2, .string x.f2, .slice A5 x.f3.length c5, .slice A6 x.f4.length c6] 28) ∧ Hid (Blk wr (w.heap.size + 1) zcs 28) ∧ Hid (Below w.heap.size w wr)) (fun i _ => x.f4.length - (intOf i).toNat)
  case atStart =>
    refine ⟨0, Nat.zero_le _, rfl, fun j hj => absurd hj (Nat.not_lt_zero _), HK.out, ?_, HB2.out _ _⟩
    have := HZ.out
    rw [World.size_alloc] at this
    exact this
  case round =>
    obtain ⟨k, hk, rfl, HN, HKr, HZr, HB⟩ := hrel
    obtain ⟨⟨a0, a1, a2, a3, a4, a5, a6⟩, ⟨f0, f1, f2, f3, f4, f5, f6⟩, hs⟩ := HZr.out.seven
    obtain ⟨⟨b0, b1, b2, b3, b4, b5, b6⟩, -, -⟩ := HKr.out.seven
    by_cases hlt : k < x.f4.length
    · have hw := H0.out.trans (HB.out.mono hz0)
      obtain ⟨b, off, rfl, hbl, hcs⟩ := C_strs HC6.out (by omega)
      have hcell := (hw.cell (p := ⟨b, off + k, none⟩) hbl).trans (hcs k hlt)
      obtain ⟨b3', off3, rfl, hbl3, hv⟩ := C_vals HC5.out (by omega)
      obtain ⟨u5, u6, hK, hcells⟩ := hv k (by omega)
      have k0 := (hw.cell (p := ⟨b3', off3 + k * 7 + 0, none⟩) hbl3).trans (hcells 0 _ rfl)
      have k1 := (hw.cell (p := ⟨b3', off3 + k * 7 + 1, none⟩) hbl3).trans (hcells 1 _ rfl)
      have k2 := (hw.cell (p := ⟨b3', off3 + k * 7 + 2, none⟩) hbl3).trans (hcells 2 _ rfl)
      have k3 := (hw.cell (p := ⟨b3', off3 + k * 7 + 3, none⟩) hbl3).trans (hcells 3 _ rfl)
      have k4 := (hw.cell (p := ⟨b3', off3 + k * 7 + 4, none⟩) hbl3).trans (hcells 4 _ rfl)
      have k5 := (hw.cell (p := ⟨b3', off3 + k * 7 + 5, none⟩) hbl3).trans (hcells 5 _ rfl)
      have k6 := (hw.cell (p := ⟨b3', off3 + k * 7 + 6, none⟩) hbl3).trans (hcells 6 _ rfl)
      simp only [Nat.add_zero] at k0
      obtain ⟨B5, d5, B6, d6, rfl, rfl⟩ := hK.open
      have HKv := Lib.hid hK
      have hkl : k < x.f3.length := by omega
      have hHit := Lib.hid (HHit.out k hlt)
      clear hcs hv hcells hw hK
      have HQ : Hid ((x.f4.getD k ByteArray.empty).data.toList = key.data.toList ↔ x.f4.getD k ByteArray.empty = key) := by
        unfold Hid
        exact ba_iff _ _
      have HN1 : Hid (x.f4.getD k ByteArray.empty ≠ key → ∀ j, j < k + 1 → x.f4.getD j ByteArray.empty ≠ key) := fun h j hj => by
        rcases Nat.lt_or_ge j k with h1 | h1
        · exact HN.out j h1
        · obtain rfl : j = k := by omega
          exact h
      generalize x.f4.getD k ByteArray.empty = kk at *
      generalize x.f3.getD k z28 = y at *
      have e1 := ba_toList kk
      have e2 := ba_toList key
      by_cases hq : (kk.data.toList == key.data.toList) = true
      · have hG : Hid (g = some y) := hHit.out (HQ.out.1 (by simpa using hq)) HN.out
        clear hHit HN HN1
        go_wp2_with fail
        refine bodyPost_ret (v := .tuple #[.agg (vcs y (.slice B5 y.f3.length d5) (.slice B6 y.f4.length d6)).toArray, .bool true]) (by simp [results, Tryd.results30, go_sem, vcs, a0, a1, a2, a3, a4, a5, a6, f0, f1, f2, f3, f4, f5, f6, hs]) rfl ?_
        rw [hG.out]
        refine ⟨_, _, rfl, HKv.out, ?_⟩
        repeat (first | (with_reducible exact HB.out) | (with_reducible refine Below.setCell ?_ ?_ _))
        all_goals (show _ ≤ w.heap.size + 1; omega)
      · have hqf : (kk.data.toList == key.data.toList) = false := by simpa using hq
        have HN2 := Lib.hid (HN1.out (fun h => hq (by simpa using HQ.out.2 h)))
        clear hHit HN1 hq
        go_wp2_with fail
        go_roundw
        case measure => simp only [intOf]; omega
        case rel => exact ⟨k + 1, by omega, by go_num, HN2.out, HKr.out, HZr.out, HB.out⟩
    · obtain rfl : k = x.f4.length := by omega
      have hG : Hid (g = none) := HMiss.out HN.out
      go_wp2_with fail
      refine bodyPost_ret (v := .tuple #[.agg (vcs z28 (.slice none 0 0) (.slice none 0 0)).toArray, .bool false]) (by simp [results, Tryd.results30, go_sem, vcs, z28, z24, a0, a1, a2, a3, a4, a5, a6, f0, f1, f2, f3, f4, f5, f6, hs]) rfl ?_
      rw [hG.out]
      refine ⟨_, _, rfl, VK.zero _, ?_⟩
      repeat (first | (with_reducible exact HB.out) | (with_reducible refine Below.setCell ?_ ?_ _))
      all_goals (show _ ≤ w.heap.size + 1; omega)
end Go.Proofs.YthicgeiljficbaaDoor

/- caliperref07.Find: walked by hand. Printed by gen_find.py. -/
namespace Go.Proofs.YthicgeiljficbaaDoor
open Go.RowKit Go.Proofs.YthicgeiljficbaaDoor.Ref Go.Proofs.YthicgeiljficbaaDoorW.PrintWords Go.Proofs.YthicgeiljficbaaDoorW.PrintLast
set_option linter.unusedSimpArgs false
set_option linter.unusedVariables false
set_option linter.unnecessarySimpa false
attribute [local go_sem] vcs

set_option maxRecDepth 100000 in
set_option maxHeartbeats 8000000 in
theorem findR_l (x : S28) (v5 v6 : Value) (l : List UInt8) (hl : l.length ≤ 67108864) (w0 w : World) (hx : VK w0 x v5 v6) (h0 : Below w0.heap.size w0 w) (he : EnvV w) (hok : OkT x) :
    Calls Tryd.prog 13 #[.agg (vcs x v5 v6).toArray, .string (str l)] w (Told (findV x l) w0 w) := by
  have hb0 : ∀ a b : Obj, Below w.heap.size w ((w.alloc a).alloc b) := fun a b => ((Below.refl _ _).alloc (Nat.le_refl _) _).alloc (by simp) _
  have HP := Lib.hid (fun a b : Obj => parseR_b l hl ((w.alloc a).alloc b))
  have HE := Lib.hid he
  have HX := Lib.hid hx
  have HB0 := Lib.hid hb0
  have HOK := Lib.hid hok
  have H0 := Lib.hid h0
  have hz0 := h0.size
  have he8 := he.1
  have HF : Hid (findV x l = match parseP l with
    | none => (none, 70)
    | some ws => match walkV x ws with
      | some y => (some y, 0)
      | none => (none, 71)) := rfl
  obtain ⟨A5, c5, A6, c6, rfl, rfl⟩ := hx.open
  clear hx hb0 he h0 hok
  generalize findV x l = F at *
  have HPL : Hid (∀ ws, parseP l = some ws → ws.length ≤ 67108865 ∧ ∀ p, p ∈ ws → p.length ≤ 1073741824) := by
    intro ws h
    obtain ⟨h1, h2⟩ := parseP_len h
    exact ⟨by omega, fun p hp => by have := h2 p hp; omega⟩
  generalize hpp : parseP l = pp at *
  clear hpp
  show Calls Tryd.prog 13 #[.agg #[.int .i64 x.f0, .bool x.f1.f0, .string x.f1.f1, .int .i64 x.f1.f2, .string x.f2, .slice A5 x.f3.length c5, .slice A6 x.f4.length c6], .string (str l)] w _
  go_enter Tryd.func13, Tryd.ntmps13
  go_wp2_with fail
  refine (HP.out _ _).mono ?_
  rintro e w1 ⟨v, rfl, ht, hvb, hb⟩
  have hz := hb.size
  simp only [World.size_alloc] at hz
  have hk := Blk.call (Blk.new (w.alloc _) zcs 28) hb
  have hk2 := Blk.call (Blk.alloc (Blk.new w [.int .i64 x.f0, .bool x.f1.f0, .string x.f1.f1, .int .i64 x.f1.f2, .string x.f2, .slice A5 x.f3.length c5, .slice A6 x.f4.length c6] 28) _) hb
  rw [World.size_alloc] at hk
  have HB1 := Lib.hid ((HB0.out _ _).trans (hb.mono (by simp; omega)))
  have HK := Lib.hid hk
  have HK2 := Lib.hid hk2
  have HE1 := Lib.hid (HE.out.call HB1.out)
  clear hb hk hk2
  cases pp with
  | none =>
    obtain ⟨⟨a0, a1, a2, a3, a4, a5, a6⟩, ⟨f0, f1, f2, f3, f4, f5, f6⟩, hs⟩ := HK.out.seven
    obtain ⟨va, vc, rfl, -⟩ := ht.form
    clear ht HPL
    go_wp2_with fail
    refine bodyPost_ret (v := .tuple #[.agg (vcs z28 (.slice none 0 0) (.slice none 0 0)).toArray, .int .i64 70]) (by simp [results, Tryd.results13, go_sem, vcs, z28, z24, a0, a1, a2, a3, a4, a5, a6, hs]) rfl ?_
    rw [HF.out]
    refine ⟨_, _, rfl, VK.zero _, ?_⟩
    repeat (first | (with_reducible exact HB1.out) | (with_reducible refine Below.setCell ?_ ?_ _))
    all_goals (show _ ≤ w.heap.size + 1; omega)
  | some ws =>
    obtain ⟨hw1, hw2⟩ := HPL.out ws rfl
    have ht' : Txts w1 v ws := ht
    obtain ⟨va, vc, rfl, hcells⟩ := ht'.form
    have HC := Lib.hid hcells
    clear ht ht' hcells HPL
    go_wp2_with fail
    have HW2 := Lib.hid hw2
    clear hw2
    have HF' : Hid (F = match walkV x ws with | some y => (some y, 0) | none => (none, 71)) := HF.out
    clear HF
    go_loopw [8] (fun i wr => ∃ (k : Nat) (y : S28) (u5 u6 : Value), k ≤ ws.length ∧ i = .int .i64 k ∧ Hid (walkV x ws = walkV y (ws.drop k)) ∧ Hid (OkT y) ∧ Hid (VK w0 y u5 u6) ∧ Hid (Blk wr w.heap.size (vcs y u5 u6) 28) ∧ Hid (Blk wr (w.heap.size + 1) zcs 28) ∧ Hid (Below w.heap.size w wr) ∧ Hid (∀ b o, b < w1.heap.size → b ≠ w.heap.size → wr.cell? ⟨b, o, none⟩ = w1.cell? ⟨b, o, none⟩) ∧ w1.heap.size ≤ wr.heap.size) (fun i _ => ws.length - (intOf i).toNat)
    case atStart => exact ⟨0, x, _, _, Nat.zero_le _, rfl, rfl, HOK.out, HX.out, HK2.out, HK.out, HB1.out, fun _ _ _ _ => rfl, Nat.le_refl _⟩
    case round =>
      obtain ⟨k, y, u5, u6, hk, rfl, HWk, HOy, HVy, HY, HZ, HB, HCR, hzr⟩ := hrel
      obtain ⟨B5, d5, B6, d6, rfl, rfl⟩ := HVy.out.open
      by_cases hlt : k < ws.length
      · obtain ⟨b, off, rfl, hbl, hcs⟩ := HC.out (by omega)
        have HCELL : Hid (∀ W, Below wr.heap.size wr W → W.cell? ⟨b, off + k, none⟩ = some (.string (str ws[k]))) := fun W hW => by
          rw [hW.cell (p := ⟨b, off + k, none⟩) (by show b < _; omega), HCR.out b _ hbl (by have hge := hvb b rfl; simp only [World.size_alloc] at hge; show b ≠ w.heap.size; omega)]
          exact hcs k hlt
        have hplen := HW2.out ws[k] (List.getElem_mem hlt)
        have HWk2 : Hid (walkV x ws = match stepV y ws[k] with | some z => walkV z (ws.drop (k + 1)) | none => none) := by
          unfold Hid
          rw [HWk.out, List.drop_eq_getElem_cons hlt]
          rfl
        have HM : Hid (∀ z, stepV y ws[k] = some z → OkT z) := fun z hz => HOy.out.sub (stepV_mem HOy.out.keys hz)
        have HG : Hid (y.f0 = 6 → ∀ W, Below w.heap.size w W → Calls Tryd.prog 30 #[.agg #[.int .i64 y.f0, .bool y.f1.f0, .string y.f1.f1, .int .i64 y.f1.f2, .string y.f2, .slice B5 y.f3.length d5, .slice B6 y.f4.length d6], .string (str ws[k])] W (Found (getV y.f4 y.f3 (str ws[k])) w0 W)) := fun h6 W hW => getR_l y _ _ (str ws[k]) w0 W HVy.out (H0.out.trans (hW.mono hz0)) (HOy.out.keys h6)
        have HS6 : Hid (y.f0 = 6 → stepV y ws[k] = getV y.f4 y.f3 (str ws[k])) := fun h => by unfold stepV; rw [if_pos h]
        have HS5 : Hid (y.f0 = 5 → stepV y ws[k] = arrV y ws[k]) := fun h => by unfold stepV; rw [if_neg (by omega), if_pos h]; rfl
        have HS0 : Hid (y.f0 ≠ 5 → y.f0 ≠ 6 → stepV y ws[k] = none) := fun h h2 => by unfold stepV; rw [if_neg h2, if_neg h]
        clear hplen hcs
        generalize ws[k] = p at *
        generalize hst : stepV y p = st at *
        clear hst
        obtain ⟨⟨b0, b1, b2, b3, b4, b5, b6⟩, ⟨i0, i1, i2, i3, i4, i5, i6⟩, hsy⟩ := HY.out.seven
        have hlt1 : w.heap.size < wr.heap.size := HY.out.lt
        have hlt2 : w.heap.size + 1 < wr.heap.size := HZ.out.lt
        go_upto_region 9 with (fail)
        obtain ⟨X, hX⟩ : ∃ X, wr.heap.size = X := ⟨_, rfl⟩
        have hxa := Blk.new wr [.int .i64 0, .bool false, .string ⟨#[]⟩, .int .i64 0, .string ⟨#[]⟩, .slice none 0 0, .slice none 0 0] 28
        have hya := HY.out.alloc (.cells #[.int .i64 0, .bool false, .string ⟨#[]⟩, .int .i64 0, .string ⟨#[]⟩, .slice none 0 0, .slice none 0 0] 28)
        have hza := HZ.out.alloc (.cells #[.int .i64 0, .bool false, .string ⟨#[]⟩, .int .i64 0, .string ⟨#[]⟩, .slice none 0 0, .slice none 0 0] 28)
        have hba := (Below.refl wr.heap.size wr).alloc (Nat.le_refl _) (.cells #[.int .i64 0, .bool false, .string ⟨#[]⟩, .int .i64 0, .string ⟨#[]⟩, .slice none 0 0, .slice none 0 0] 28)
        have hsa : (wr.alloc (.cells #[.int .i64 0, .bool false, .string ⟨#[]⟩, .int .i64 0, .string ⟨#[]⟩, .slice none 0 0, .slice none 0 0] 28)).heap.size = X + 1 := by simp [hX]
        rw [hX] at hxa
        generalize wr.alloc (.cells #[.int .i64 0, .bool false, .string ⟨#[]⟩, .int .i64 0, .string ⟨#[]⟩, .slice none 0 0, .slice none 0 0] 28) = wa at *
        have HXa := Lib.hid hxa
        have HYa : Hid (Blk wa w.heap.size [.int .i64 y.f0, .bool y.f1.f0, .string y.f1.f1, .int .i64 y.f1.f2, .string y.f2, .slice B5 y.f3.length d5, .slice B6 y.f4.length d6] 28) := hya
        have HZa := Lib.hid hza
        have HBa := Lib.hid (HB.out.trans (hba.mono HB.out.size))
        have HCa := Lib.hid (fun W (h : Below wa.heap.size wa W) => HCELL.out W (hba.trans (h.mono hba.size)))
        have HCRa : Hid (∀ b o, b < w1.heap.size → b ≠ w.heap.size → wa.cell? ⟨b, o, none⟩ = w1.cell? ⟨b, o, none⟩) := fun b o h1 h2 => (hba.cell (p := ⟨b, o, none⟩) (by show b < _; omega)).trans (HCR.out b o h1 h2)
        clear hxa hya hza hba b0 b1 b2 b3 b4 b5 b6 i0 i1 i2 i3 i4 i5 i6 hsy HCELL HCR HB HY HZ
        have hzw : w1.heap.size ≤ X := by omega
        have hX1 : w.heap.size + 1 < X := by omega
        rw [hX]
        clear hX hzr hlt1 hlt2
        clear wr
        have hlt1 : w.heap.size < wa.heap.size := by omega
        have hlt2 : w.heap.size + 1 < wa.heap.size := by omega
        obtain ⟨⟨y0, y1, y2, y3, y4, y5, y6⟩, ⟨i0, i1, i2, i3, i4, i5, i6⟩, hsy⟩ := HYa.out.seven
        obtain ⟨⟨x0, x1, x2, x3, x4, x5, x6⟩, ⟨j0, j1, j2, j3, j4, j5, j6⟩, hsx⟩ := HXa.out.seven
        have cA := HCa.out wa (Below.refl _ _)
        have hBX : w.heap.size ≠ X := by omega
        have hbX : b ≠ X := by omega
        by_cases h6 : y.f0 = 6
        · have t6 : (y.f0 == 6) = true := by simpa using h6
          have t5 : (y.f0 == 5) = false := by simp; omega
          have HGG := Lib.hid (HG.out h6)
          have HSG := HS6.out h6
          clear HG HS6 HS5 HS0 h6
          generalize hgo : getV y.f4 y.f3 (str p) = o at *
          clear hgo
          have HS := Lib.hid HSG
          clear HSG
          go_upto_region 10 with (fail)
          go_region_held3 (fun w' => w'.cell? ⟨b, off + k, none⟩ = some (.string (str p)) ∧ w'.cell? ⟨w.heap.size, 0, none⟩ = some (.int .i64 y.f0) ∧ w'.cell? ⟨w.heap.size, 1, none⟩ = some (.bool y.f1.f0) ∧ w'.cell? ⟨w.heap.size, 2, none⟩ = some (.string y.f1.f1) ∧ w'.cell? ⟨w.heap.size, 3, none⟩ = some (.int .i64 y.f1.f2) ∧ w'.cell? ⟨w.heap.size, 4, none⟩ = some (.string y.f2) ∧ w'.cell? ⟨w.heap.size, 5, none⟩ = some (.slice B5 y.f3.length d5) ∧ w'.cell? ⟨w.heap.size, 6, none⟩ = some (.slice B6 y.f4.length d6)) (first | (with_reducible exact held8 cA HYa.out) | (with_reducible exact held8 (cell_drew cA) HYa.out.drew) | (with_reducible exact held8 cB HY2'.out) | (with_reducible exact held8 (cell_store7' cB hbX _ _ _ _ _ _ _) (HY2'.out.store7' hBX _ _ _ _ _ _ _))) (first | (go_at_call 30; refine (HGG.out _ HBa.out.drew).mono ?_; rintro e w2 ⟨e5, e6, rfl, hvo, hb2⟩; have HVo := Lib.hid hvo; have HX2' := Lib.hid (HXa.out.drew.call hb2); have HY2' := Lib.hid (HYa.out.drew.call hb2); have HZ2' := Lib.hid (HZa.out.drew.call hb2); have HB2' := Lib.hid (HBa.out.drew.trans (hb2.mono HBa.out.size)); have hz2s : wa.heap.size ≤ w2.heap.size := hb2.size; have HCR2' : Hid (∀ b o', b < w1.heap.size → b ≠ w.heap.size → w2.cell? ⟨b, o', none⟩ = w1.cell? ⟨b, o', none⟩) := fun b o' h1 h2 => (hb2.cell (p := ⟨b, o', none⟩) (by show b < wa.heap.size; omega)).trans (HCRa.out b o' h1 h2); obtain ⟨D5, g5, D6, g6, rfl, rfl⟩ := hvo.open; obtain ⟨⟨c0, c1, c2, c3, c4, c5, c6⟩, ⟨j0, j1, j2, j3, j4, j5, j6⟩, hsx⟩ := HX2'.out.seven; have cB := HCa.out w2 ((Below.refl wa.heap.size wa).drew.trans hb2); clear hvo hb2))
          all_goals rename_i hheld; clear hheld c0 c1 c2 c3 c4 c5 c6 j0 j1 j2 j3 j4 j5 j6 hsx cB y0 y1 y2 y3 y4 y5 y6 i0 i1 i2 i3 i4 i5 i6 hsy x0 x1 x2 x3 x4 x5 x6 cA
          all_goals
            have hx3 := HX2'.out.set7' (.int .i64 (o.getD z28).f0) (.bool (o.getD z28).f1.f0) (.string (o.getD z28).f1.f1) (.int .i64 (o.getD z28).f1.f2) (.string (o.getD z28).f2) (.slice D5 (o.getD z28).f3.length g5) (.slice D6 (o.getD z28).f4.length g6)
            have hy3 := HY2'.out.store7' hBX (.int .i64 (o.getD z28).f0) (.bool (o.getD z28).f1.f0) (.string (o.getD z28).f1.f1) (.int .i64 (o.getD z28).f1.f2) (.string (o.getD z28).f2) (.slice D5 (o.getD z28).f3.length g5) (.slice D6 (o.getD z28).f4.length g6)
            have hz3 := HZ2'.out.store7' (show w.heap.size + 1 ≠ X by omega) (.int .i64 (o.getD z28).f0) (.bool (o.getD z28).f1.f0) (.string (o.getD z28).f1.f1) (.int .i64 (o.getD z28).f1.f2) (.string (o.getD z28).f2) (.slice D5 (o.getD z28).f3.length g5) (.slice D6 (o.getD z28).f4.length g6)
            have hb3 := below_store7' HB2'.out (show w.heap.size ≤ X by omega) (.int .i64 (o.getD z28).f0) (.bool (o.getD z28).f1.f0) (.string (o.getD z28).f1.f1) (.int .i64 (o.getD z28).f1.f2) (.string (o.getD z28).f2) (.slice D5 (o.getD z28).f3.length g5) (.slice D6 (o.getD z28).f4.length g6)
            have hcr3 : ∀ b o', b < w1.heap.size → b ≠ w.heap.size → (((((((w2.setCell ⟨X, 0, none⟩ (.int .i64 (o.getD z28).f0)).setCell ⟨X, 1, none⟩ (.bool (o.getD z28).f1.f0)).setCell ⟨X, 2, none⟩ (.string (o.getD z28).f1.f1)).setCell ⟨X, 3, none⟩ (.int .i64 (o.getD z28).f1.f2)).setCell ⟨X, 4, none⟩ (.string (o.getD z28).f2)).setCell ⟨X, 5, none⟩ (.slice D5 (o.getD z28).f3.length g5)).setCell ⟨X, 6, none⟩ (.slice D6 (o.getD z28).f4.length g6)).cell? ⟨b, o', none⟩ = w1.cell? ⟨b, o', none⟩ := fun b o' h1 h2 => cell_store7' (HCR2'.out b o' h1 h2) (by omega) _ _ _ _ _ _ _
            have hz3s : (((((((w2.setCell ⟨X, 0, none⟩ (.int .i64 (o.getD z28).f0)).setCell ⟨X, 1, none⟩ (.bool (o.getD z28).f1.f0)).setCell ⟨X, 2, none⟩ (.string (o.getD z28).f1.f1)).setCell ⟨X, 3, none⟩ (.int .i64 (o.getD z28).f1.f2)).setCell ⟨X, 4, none⟩ (.string (o.getD z28).f2)).setCell ⟨X, 5, none⟩ (.slice D5 (o.getD z28).f3.length g5)).setCell ⟨X, 6, none⟩ (.slice D6 (o.getD z28).f4.length g6)).heap.size = w2.heap.size := by simp
            obtain ⟨w3, hw3⟩ : ∃ w3, w3 = (((((((w2.setCell ⟨X, 0, none⟩ (.int .i64 (o.getD z28).f0)).setCell ⟨X, 1, none⟩ (.bool (o.getD z28).f1.f0)).setCell ⟨X, 2, none⟩ (.string (o.getD z28).f1.f1)).setCell ⟨X, 3, none⟩ (.int .i64 (o.getD z28).f1.f2)).setCell ⟨X, 4, none⟩ (.string (o.getD z28).f2)).setCell ⟨X, 5, none⟩ (.slice D5 (o.getD z28).f3.length g5)).setCell ⟨X, 6, none⟩ (.slice D6 (o.getD z28).f4.length g6)) := ⟨_, rfl⟩
            rw [← hw3] at hx3 hy3 hz3 hb3 hcr3 hz3s ⊢
            have HX3 := Lib.hid hx3
            have HY3 := Lib.hid hy3
            have HZ3 := Lib.hid hz3
            have HB3 := Lib.hid hb3
            have HCR3 := Lib.hid hcr3
            have hzz3 : w1.heap.size ≤ w3.heap.size := by omega
            clear hx3 hy3 hz3 hb3 hcr3
            clear hw3
            obtain ⟨⟨q0, q1, q2, q3, q4, q5, q6⟩, ⟨r0, r1, r2, r3, r4, r5, r6⟩, hs2⟩ := HZ3.out.seven
            obtain ⟨⟨t0, t1, t2, t3, t4, t5', t6'⟩, ⟨g0, g1, g2, g3, g4, g5', g6'⟩, hs3⟩ := HY3.out.seven
            obtain ⟨⟨x0, x1, x2, x3, x4, x5, x6⟩, -, -⟩ := HX3.out.seven
            have hlt1 : w.heap.size < w3.heap.size := HY3.out.lt
            have hlt2 : w.heap.size + 1 < w3.heap.size := HZ3.out.lt
            cases o with
            | none =>
              have HN : Hid (F = (none, 71)) := by
                unfold Hid
                rw [HF'.out, HWk2.out, HS.out]
              clear HWk2 HM
              go_wp2_with fail
              refine bodyPost_ret (v := .tuple #[.agg (vcs z28 (.slice none 0 0) (.slice none 0 0)).toArray, .int .i64 71]) (by simp [results, Tryd.results13, go_sem, vcs, z28, z24, q0, q1, q2, q3, q4, q5, q6, r0, r1, r2, r3, r4, r5, r6, hs2, hlt1, hlt2]) rfl ?_
              rw [HN.out]
              refine ⟨_, _, rfl, VK.zero _, ?_⟩
              repeat (first | (with_reducible exact HB3.out) | (with_reducible refine Below.setCell ?_ ?_ _) | (with_reducible refine Below.alloc ?_ ?_ _))
              all_goals first | (show _ ≤ w.heap.size + 1; omega) | (simp; done) | (simp; omega)
            | some z =>
              have HWz : Hid (walkV x ws = walkV z (ws.drop (k + 1))) := by
                unfold Hid
                rw [HWk2.out, HS.out]
              have HOz := Lib.hid (HM.out z HS.out)
              have HVz : Hid (VK w0 z (.slice D5 z.f3.length g5) (.slice D6 z.f4.length g6)) := HVo.out
              clear HWk2 HM HS HVo
              go_wp2_with fail
              go_roundw
              case measure => simp only [intOf]; omega
              case rel =>
                refine ⟨k + 1, z, _, _, by omega, by go_num, HWz.out, HOz.out, HVz.out, ?_, ?_, ?_, ?_, ?_⟩
                · exact (HY3.out.set7' (.int .i64 z.f0) (.bool z.f1.f0) (.string z.f1.f1) (.int .i64 z.f1.f2) (.string z.f2) (.slice D5 z.f3.length g5) (.slice D6 z.f4.length g6)).shut rfl
                · exact HZ3.out.store7' (by simp) _ _ _ _ _ _ _
                · exact Lib.hid (below_store7' HB3.out (Nat.le_refl _) _ _ _ _ _ _ _)
                · intro b o h1 h2
                  rw [cell_store7' rfl h2]
                  exact HCR3.out b o h1 h2
                · simp; omega
        · by_cases h5 : y.f0 = 5
          · have t6 : (y.f0 == 6) = false := by simpa using h6
            have t5 : (y.f0 == 5) = true := by simpa using h5
            have HSA := HS5.out h5
            obtain ⟨B5', d5', B6', d6', eB5, eB6, hl5, hC5, -, -⟩ := HVy.out
            cases eB5
            cases eB6
            have hmax : y.f3.length ≤ 9223372036854775807 := hC5.2.1
            have HC5 := Lib.hid hC5
            have HA1 : Hid (∀ j : Nat, j < y.f3.length → Lib.itoa (j : Int) = p → arrV y p = some (y.f3.getD j z28)) := fun j hj h => arr_some hj hmax h
            have HA0 : Hid ((∀ j : Nat, j < y.f3.length → Lib.itoa (j : Int) ≠ p) → arrV y p = none) := arr_none
            have HS' := Lib.hid HSA
            clear HSA HG HS6 HS5 HS0 h6 h5 hC5
            generalize arrV y p = av at *
            go_upto_region 12 with (fail)
            go_wp2_with fail
            go_loopw [9, 11] (fun fd n w3 => ∃ (m : Nat) (o : Option S28) (D5 : Option Addr) (g5 : Nat) (D6 : Option Addr) (g6 : Nat), m ≤ y.f3.length ∧ n = .int .i64 m ∧ fd = .bool o.isSome ∧ Hid (o = none → ∀ j : Nat, j < m → Lib.itoa (j : Int) ≠ p) ∧ Hid (∀ z, o = some z → st = some z) ∧ Hid (VK w0 (o.getD z28) (.slice D5 (o.getD z28).f3.length g5) (.slice D6 (o.getD z28).f4.length g6)) ∧ Hid (Blk w3 X [.int .i64 (o.getD z28).f0, .bool (o.getD z28).f1.f0, .string (o.getD z28).f1.f1, .int .i64 (o.getD z28).f1.f2, .string (o.getD z28).f2, .slice D5 (o.getD z28).f3.length g5, .slice D6 (o.getD z28).f4.length g6] 28) ∧ Hid (Blk w3 w.heap.size [.int .i64 y.f0, .bool y.f1.f0, .string y.f1.f1, .int .i64 y.f1.f2, .string y.f2, .slice B5 y.f3.length d5, .slice B6 y.f4.length d6] 28) ∧ Hid (Blk w3 (w.heap.size + 1) zcs 28) ∧ Hid (Below w.heap.size w w3) ∧ Hid (∀ b o', b < w1.heap.size → b ≠ w.heap.size → w3.cell? ⟨b, o', none⟩ = w1.cell? ⟨b, o', none⟩) ∧ w3.cell? ⟨b, off + k, none⟩ = some (.string (str p)) ∧ wa.heap.size ≤ w3.heap.size) (fun _ n _ => y.f3.length - (intOf n).toNat)
            case atStart => exact ⟨0, none, none, 0, none, 0, Nat.zero_le _, rfl, rfl, fun _ j hj => absurd hj (Nat.not_lt_zero _), (fun z h => by cases h), VK.zero _, HXa.out, HYa.out, HZa.out, HBa.out, HCRa.out, cA, Nat.le_refl _⟩
            case round =>
              clear y0 y1 y2 y3 y4 y5 y6 i0 i1 i2 i3 i4 i5 i6 hsy x0 x1 x2 x3 x4 x5 x6 j0 j1 j2 j3 j4 j5 j6 hsx cA
              obtain ⟨m, o, D5, g5, D6, g6, hm, rfl, rfl, HNo, HSo, HVo, HX3, HY3, HZ3, HB3, HCR3, cL, hza⟩ := hrel
              rename World => w3
              have hzz3 : w1.heap.size ≤ w3.heap.size := by omega
              cases o with
              | some z =>
                have HS : Hid (st = some z) := HSo.out z rfl
                clear HNo HSo HS' HA0 HA1
                obtain ⟨⟨q0, q1, q2, q3, q4, q5, q6⟩, ⟨r0, r1, r2, r3, r4, r5, r6⟩, hs2⟩ := HZ3.out.seven
                obtain ⟨⟨t0, t1, t2, t3, t4, t5', t6'⟩, ⟨g0, g1, g2, g3, g4, g5', g6'⟩, hs3⟩ := HY3.out.seven
                obtain ⟨⟨x0, x1, x2, x3, x4, x5, x6⟩, -, -⟩ := HX3.out.seven
                have hlt1 : w.heap.size < w3.heap.size := HY3.out.lt
                have hlt2 : w.heap.size + 1 < w3.heap.size := HZ3.out.lt
                have gN : Option.isSome (some z) = true := rfl
                by_cases hml : m < y.f3.length
                · skip
                  have HWz : Hid (walkV x ws = walkV z (ws.drop (k + 1))) := by
                    unfold Hid
                    rw [HWk2.out, HS.out]
                  have HOz := Lib.hid (HM.out z HS.out)
                  have HVz : Hid (VK w0 z (.slice D5 z.f3.length g5) (.slice D6 z.f4.length g6)) := HVo.out
                  clear HWk2 HM HS HVo
                  go_wp2_with fail
                  go_roundw
                  case measure => simp only [intOf]; omega
                  case rel =>
                    refine ⟨k + 1, z, _, _, by omega, by go_num, HWz.out, HOz.out, HVz.out, ?_, ?_, ?_, ?_, ?_⟩
                    · exact (HY3.out.set7' (.int .i64 z.f0) (.bool z.f1.f0) (.string z.f1.f1) (.int .i64 z.f1.f2) (.string z.f2) (.slice D5 z.f3.length g5) (.slice D6 z.f4.length g6)).shut rfl
                    · exact HZ3.out.store7' (by simp) _ _ _ _ _ _ _
                    · exact Lib.hid (below_store7' HB3.out (Nat.le_refl _) _ _ _ _ _ _ _)
                    · intro b o h1 h2
                      rw [cell_store7' rfl h2]
                      exact HCR3.out b o h1 h2
                    · simp; omega
                · skip
                  have HWz : Hid (walkV x ws = walkV z (ws.drop (k + 1))) := by
                    unfold Hid
                    rw [HWk2.out, HS.out]
                  have HOz := Lib.hid (HM.out z HS.out)
                  have HVz : Hid (VK w0 z (.slice D5 z.f3.length g5) (.slice D6 z.f4.length g6)) := HVo.out
                  clear HWk2 HM HS HVo
                  go_wp2_with fail
                  go_roundw
                  case measure => simp only [intOf]; omega
                  case rel =>
                    refine ⟨k + 1, z, _, _, by omega, by go_num, HWz.out, HOz.out, HVz.out, ?_, ?_, ?_, ?_, ?_⟩
                    · exact (HY3.out.set7' (.int .i64 z.f0) (.bool z.f1.f0) (.string z.f1.f1) (.int .i64 z.f1.f2) (.string z.f2) (.slice D5 z.f3.length g5) (.slice D6 z.f4.length g6)).shut rfl
                    · exact HZ3.out.store7' (by simp) _ _ _ _ _ _ _
                    · exact Lib.hid (below_store7' HB3.out (Nat.le_refl _) _ _ _ _ _ _ _)
                    · intro b o h1 h2
                      rw [cell_store7' rfl h2]
                      exact HCR3.out b o h1 h2
                    · simp; omega
              | none =>
                by_cases hml : m < y.f3.length
                · have HI : Hid (∀ W, Below w.heap.size w W → Calls Tryd.prog 31 #[.int .i64 m] W (New (.string (str (Lib.itoa m))) W)) := fun W h => itoa_l m (by omega) (by omega) W (HE.out.call h)
                  have HNm := HNo.out rfl
                  have HQ1 := HA1.out m hml
                  have e1 := str_toList (Lib.itoa m)
                  have e2 := str_toList p
                  have HN1 : Hid (Lib.itoa (m : Int) ≠ p → ∀ j : Nat, j < m + 1 → Lib.itoa (j : Int) ≠ p) := fun h j hj => by
                    rcases Nat.lt_or_ge j m with h1 | h1
                    · exact HNm j h1
                    · obtain rfl : j = m := by omega
                      exact h
                  obtain ⟨bl, ofl, rfl, hbll, hv⟩ := C_vals HC5.out (by omega)
                  obtain ⟨u5', u6', hK, hcells⟩ := hv m hml
                  obtain ⟨E5, n5, E6, n6, rfl, rfl⟩ := hK.open
                  have HK' := Lib.hid hK
                  have HVC : Hid (∀ W, Below w.heap.size w W → Kcells W bl (ofl + m * 7) (vcs (y.f3.getD m z28) (.slice E5 (y.f3.getD m z28).f3.length n5) (.slice E6 (y.f3.getD m z28).f4.length n6))) := fun W h i u hu => ((H0.out.trans (h.mono hz0)).cell (p := ⟨bl, ofl + m * 7 + i, none⟩) hbll).trans (hcells i u hu)
                  clear hv hcells hK HNo HSo HNm
                  generalize Lib.itoa (m : Int) = q at *
                  generalize y.f3.getD m z28 = z at *
                  have HZZ := HQ1
                  clear HQ1
                  by_cases hq : (q == p) = true
                  · have hq' : q = p := by simpa using hq
                    have HSz : Hid (st = some z) := HS'.out.trans (HZZ hq')
                    clear hq' HZZ HN1 HA0 HA1 HS'
                    have gN : Option.isSome (none : Option S28) = false := rfl
                    obtain ⟨⟨t0, t1, t2, t3, t4, t5', t6'⟩, -, -⟩ := HY3.out.seven
                    go_wp2_with fail
                    go_region_held3 (fun w' => w'.cell? ⟨b, off + k, none⟩ = some (.string (str p))) (first | (with_reducible exact cL) | (with_reducible exact cell_drew cL) | (with_reducible exact cM)) (first | (go_at_call 31; refine (HI.out _ HB3.out.drew).mono ?_; rintro e w4 ⟨rfl, hb4⟩; have cM := (hb4.cell (p := ⟨b, off + k, none⟩) (by show b < w3.heap.size; omega)).trans cL; have hz4 : w3.heap.size ≤ w4.heap.size := hb4.size; have HX2' := Lib.hid (HX3.out.drew.call hb4); have HY2' := Lib.hid (HY3.out.drew.call hb4); have HZ2' := Lib.hid (HZ3.out.drew.call hb4); have HB2' := Lib.hid (HB3.out.drew.trans (hb4.mono HB3.out.size)); have HCR2' : Hid (∀ b o', b < w1.heap.size → b ≠ w.heap.size → w4.cell? ⟨b, o', none⟩ = w1.cell? ⟨b, o', none⟩) := fun b o' h1 h2 => (hb4.cell (p := ⟨b, o', none⟩) (by show b < w3.heap.size; omega)).trans (HCR3.out b o' h1 h2); clear hb4))
                    all_goals clear t0 t1 t2 t3 t4 t5' t6' cL
                    have hh := HVC.out w4 HB2'.out
                    have k0 : w4.cell? ⟨bl, ofl + m * 7, none⟩ = some (.int .i64 z.f0) := hh 0 _ rfl
                    have k1 : w4.cell? ⟨bl, ofl + m * 7 + 1, none⟩ = some (.bool z.f1.f0) := hh 1 _ rfl
                    have k2 : w4.cell? ⟨bl, ofl + m * 7 + 2, none⟩ = some (.string z.f1.f1) := hh 2 _ rfl
                    have k3 : w4.cell? ⟨bl, ofl + m * 7 + 3, none⟩ = some (.int .i64 z.f1.f2) := hh 3 _ rfl
                    have k4 : w4.cell? ⟨bl, ofl + m * 7 + 4, none⟩ = some (.string z.f2) := hh 4 _ rfl
                    have k5 : w4.cell? ⟨bl, ofl + m * 7 + 5, none⟩ = some (.slice E5 z.f3.length n5) := hh 5 _ rfl
                    have k6 : w4.cell? ⟨bl, ofl + m * 7 + 6, none⟩ = some (.slice E6 z.f4.length n6) := hh 6 _ rfl
                    obtain ⟨⟨y0, y1, y2, y3, y4, y5, y6⟩, -, -⟩ := HY2'.out.seven
                    obtain ⟨⟨x0, x1, x2, x3, x4, x5, x6⟩, ⟨j0, j1, j2, j3, j4, j5, j6⟩, hsx⟩ := HX2'.out.seven
                    clear hh
                    go_wp2_with fail
                    go_roundw
                    case measure => simp only [intOf]; omega
                    case rel =>
                      refine ⟨m + 1, some z, E5, n5, E6, n6, by omega, by go_num, rfl, (fun h => by cases h), (fun z' h => by cases h; exact HSz.out), HK'.out, ?_, ?_, ?_, ?_, ?_, ?_, ?_⟩
                      · exact HX2'.out.set7' _ _ _ _ _ _ _
                      · exact HY2'.out.store7' hBX _ _ _ _ _ _ _
                      · exact HZ2'.out.store7' (by omega) _ _ _ _ _ _ _
                      · exact Lib.hid (below_store7' HB2'.out (by omega) _ _ _ _ _ _ _)
                      · exact fun b o' h1 h2 => cell_store7' (HCR2'.out b o' h1 h2) (by omega) _ _ _ _ _ _ _
                      · exact cell_store7' cM hbX _ _ _ _ _ _ _
                      · simp; omega
                  · have hqf : (q == p) = false := by simpa using hq
                    have HN2 := HN1.out (by simpa using hq)
                    clear HZZ HN1 HA0 HA1 HS' hq
                    have gN : Option.isSome (none : Option S28) = false := rfl
                    obtain ⟨⟨t0, t1, t2, t3, t4, t5', t6'⟩, -, -⟩ := HY3.out.seven
                    go_wp2_with fail
                    go_region_held3 (fun w' => w'.cell? ⟨b, off + k, none⟩ = some (.string (str p))) (first | (with_reducible exact cL) | (with_reducible exact cell_drew cL) | (with_reducible exact cM)) (first | (go_at_call 31; refine (HI.out _ HB3.out.drew).mono ?_; rintro e w4 ⟨rfl, hb4⟩; have cM := (hb4.cell (p := ⟨b, off + k, none⟩) (by show b < w3.heap.size; omega)).trans cL; have hz4 : w3.heap.size ≤ w4.heap.size := hb4.size; have HX2' := Lib.hid (HX3.out.drew.call hb4); have HY2' := Lib.hid (HY3.out.drew.call hb4); have HZ2' := Lib.hid (HZ3.out.drew.call hb4); have HB2' := Lib.hid (HB3.out.drew.trans (hb4.mono HB3.out.size)); have HCR2' : Hid (∀ b o', b < w1.heap.size → b ≠ w.heap.size → w4.cell? ⟨b, o', none⟩ = w1.cell? ⟨b, o', none⟩) := fun b o' h1 h2 => (hb4.cell (p := ⟨b, o', none⟩) (by show b < w3.heap.size; omega)).trans (HCR3.out b o' h1 h2); clear hb4))
                    all_goals clear t0 t1 t2 t3 t4 t5' t6' cL
                    go_wp2_with fail
                    go_roundw
                    case measure => simp only [intOf]; omega
                    case rel => exact ⟨m + 1, none, D5, g5, D6, g6, by omega, by go_num, rfl, fun _ => HN2, (fun z' h => by cases h), HVo.out, HX2'.out, HY2'.out, HZ2'.out, HB2'.out, HCR2'.out, cM, by omega⟩
                · obtain rfl : m = y.f3.length := by omega
                  have HS : Hid (st = none) := HS'.out.trans (HA0.out (HNo.out rfl))
                  have gN : Option.isSome (none : Option S28) = false := rfl
                  clear HNo HSo HS' HA0 HA1
                  obtain ⟨⟨q0, q1, q2, q3, q4, q5, q6⟩, ⟨r0, r1, r2, r3, r4, r5, r6⟩, hs2⟩ := HZ3.out.seven
                  obtain ⟨⟨t0, t1, t2, t3, t4, t5', t6'⟩, ⟨g0, g1, g2, g3, g4, g5', g6'⟩, hs3⟩ := HY3.out.seven
                  obtain ⟨⟨x0, x1, x2, x3, x4, x5, x6⟩, -, -⟩ := HX3.out.seven
                  have hlt1 : w.heap.size < w3.heap.size := HY3.out.lt
                  have hlt2 : w.heap.size + 1 < w3.heap.size := HZ3.out.lt
                  have HN : Hid (F = (none, 71)) := by
                    unfold Hid
                    rw [HF'.out, HWk2.out, HS.out]
                  clear HWk2 HM
                  go_wp2_with fail
                  refine bodyPost_ret (v := .tuple #[.agg (vcs z28 (.slice none 0 0) (.slice none 0 0)).toArray, .int .i64 71]) (by simp [results, Tryd.results13, go_sem, vcs, z28, z24, q0, q1, q2, q3, q4, q5, q6, r0, r1, r2, r3, r4, r5, r6, hs2, hlt1, hlt2]) rfl ?_
                  rw [HN.out]
                  refine ⟨_, _, rfl, VK.zero _, ?_⟩
                  repeat (first | (with_reducible exact HB3.out) | (with_reducible refine Below.setCell ?_ ?_ _) | (with_reducible refine Below.alloc ?_ ?_ _))
                  all_goals first | (show _ ≤ w.heap.size + 1; omega) | (simp; done) | (simp; omega)
          · have t6 : (y.f0 == 6) = false := by simpa using h6
            have t5 : (y.f0 == 5) = false := by simpa using h5
            have HS := Lib.hid (HS0.out h5 h6)
            have HX3 := HXa
            have HY3 := HYa
            have HZ3 := HZa
            have HB3 := HBa
            clear HG HS6 HS5 HS0 h6 h5 y0 y1 y2 y3 y4 y5 y6 i0 i1 i2 i3 i4 i5 i6 hsy x0 x1 x2 x3 x4 x5 x6 j0 j1 j2 j3 j4 j5 j6 hsx cA hlt1 hlt2
            obtain ⟨⟨q0, q1, q2, q3, q4, q5, q6⟩, ⟨r0, r1, r2, r3, r4, r5, r6⟩, hs2⟩ := HZ3.out.seven
            obtain ⟨⟨t0, t1, t2, t3, t4, t5', t6'⟩, ⟨g0, g1, g2, g3, g4, g5', g6'⟩, hs3⟩ := HY3.out.seven
            obtain ⟨⟨x0, x1, x2, x3, x4, x5, x6⟩, -, -⟩ := HX3.out.seven
            have hlt1 : w.heap.size < wa.heap.size := HY3.out.lt
            have hlt2 : w.heap.size + 1 < wa.heap.size := HZ3.out.lt
            have HN : Hid (F = (none, 71)) := by
              unfold Hid
              rw [HF'.out, HWk2.out, HS.out]
            clear HWk2 HM
            go_wp2_with fail
            refine bodyPost_ret (v := .tuple #[.agg (vcs z28 (.slice none 0 0) (.slice none 0 0)).toArray, .int .i64 71]) (by simp [results, Tryd.results13, go_sem, vcs, z28, z24, q0, q1, q2, q3, q4, q5, q6, r0, r1, r2, r3, r4, r5, r6, hs2, hlt1, hlt2]) rfl ?_
            rw [HN.out]
            refine ⟨_, _, rfl, VK.zero _, ?_⟩
            repeat (first | (with_reducible exact HB3.out) | (with_reducible refine Below.setCell ?_ ?_ _) | (with_reducible refine Below.alloc ?_ ?_ _))
            all_goals first | (show _ ≤ w.heap.size + 1; omega) | (simp; done) | (simp; omega)
      · obtain rfl : k = ws.length := by omega
        obtain ⟨⟨a0, a1, a2, a3, a4, a5, a6⟩, ⟨f0, f1, f2, f3, f4, f5, f6⟩, hs⟩ := HZ.out.seven
        obtain ⟨⟨b0, b1, b2, b3, b4, b5, b6⟩, -, -⟩ := HY.out.seven
        have HN : Hid (F = (some y, 0)) := by
          unfold Hid
          rw [HF'.out, HWk.out, List.drop_length]
          rfl
        go_wp2_with fail
        refine bodyPost_ret (v := .tuple #[.agg (vcs y (.slice B5 y.f3.length d5) (.slice B6 y.f4.length d6)).toArray, .int .i64 0]) (by simp [results, Tryd.results13, go_sem, vcs, a0, a1, a2, a3, a4, a5, a6, hs]) rfl ?_
        rw [HN.out]
        refine ⟨_, _, rfl, HVy.out, ?_⟩
        repeat (first | (with_reducible exact HB.out) | (with_reducible refine Below.setCell ?_ ?_ _))
        all_goals (show _ ≤ w.heap.size + 1; omega)
end Go.Proofs.YthicgeiljficbaaDoor

/- caliperref07.all, All: walked by hand. Printed by gen_all.py. -/
namespace Go.Proofs.YthicgeiljficbaaDoor
open Go.RowKit Go.Proofs.YthicgeiljficbaaDoor.Ref Go.Proofs.YthicgeiljficbaaDoorW.PrintWords Go.Proofs.YthicgeiljficbaaDoorW.PrintLast
set_option linter.unusedSimpArgs false
set_option linter.unusedVariables false
set_option linter.unnecessarySimpa false
attribute [local go_sem] vcs

theorem Fr.blk' {v v' : Value} {w w' : World} {b : Nat} {cs : List Value} {T : TypeId} (h : Fr v v' w w') (hk : Blk w b cs T) (hv : v.ownBlock ≠ some b) : Blk w' b cs T := (h.keep b hk.lt hv).trans hk
theorem Fr.below' {B : Nat} {v v' : Value} {w w' : World} (h : Fr v v' w w') (hv : ∀ k, v.ownBlock = some k → B ≤ k) (hs : B ≤ w.heap.size) : Below B w w' := (h.frB w.heap.size).below hs hv hs
theorem heldE {W : World} {B b off : Nat} {p x0 x1 x2 x3 x4 x5 x6 : Value} (c : W.cell? ⟨B, 5, none⟩ = some p) (h : Kcells W b off [x0, x1, x2, x3, x4, x5, x6]) :
    W.cell? ⟨B, 5, none⟩ = some p ∧ W.cell? ⟨b, off, none⟩ = some x0 ∧ W.cell? ⟨b, off + 1, none⟩ = some x1 ∧ W.cell? ⟨b, off + 2, none⟩ = some x2 ∧ W.cell? ⟨b, off + 3, none⟩ = some x3 ∧ W.cell? ⟨b, off + 4, none⟩ = some x4 ∧ W.cell? ⟨b, off + 5, none⟩ = some x5 ∧ W.cell? ⟨b, off + 6, none⟩ = some x6 :=
  ⟨c, h 0 _ rfl, h 1 _ rfl, h 2 _ rfl, h 3 _ rfl, h 4 _ rfl, h 5 _ rfl, h 6 _ rfl⟩
theorem heldEd {W : World} {B b off : Nat} {p x0 x1 x2 x3 x4 x5 x6 : Value} (c : W.cell? ⟨B, 5, none⟩ = some p) (h : Kcells W b off [x0, x1, x2, x3, x4, x5, x6]) :
    W.drew.cell? ⟨B, 5, none⟩ = some p ∧ W.drew.cell? ⟨b, off, none⟩ = some x0 ∧ W.drew.cell? ⟨b, off + 1, none⟩ = some x1 ∧ W.drew.cell? ⟨b, off + 2, none⟩ = some x2 ∧ W.drew.cell? ⟨b, off + 3, none⟩ = some x3 ∧ W.drew.cell? ⟨b, off + 4, none⟩ = some x4 ∧ W.drew.cell? ⟨b, off + 5, none⟩ = some x5 ∧ W.drew.cell? ⟨b, off + 6, none⟩ = some x6 := heldE (W := W.drew) c h
theorem partR_l (l : List UInt8) (hl : l.length ≤ 67108864) (w : World) : Calls Tryd.prog 46 #[.string (str l)] w (New (.string (str (escPart l))) w) := by
  refine (caliperref07_Part.calls _ (str l) _ w (partR_is l hl _ (Nat.le_refl _))).mono ?_
  rintro e w' ⟨rfl, hd⟩
  exact ⟨rfl, hd.below⟩
/-- what all does: the pointers are put behind those that were there -/
def AllRd (B : Nat) (v : Value) (ys : List (List UInt8)) (w : World) (e : Ending) (w' : World) : Prop :=
  ∃ v', e = .returned v' ∧ Row w' B 9 1 v' ys.length (strs ys) ∧ Fr v v' w w'

set_option maxRecDepth 100000 in
set_option maxHeartbeats 8000000 in
theorem allR_l (w0 : World) (B : Nat) (hB0 : w0.heap.size ≤ B) (h8 : 8 ≤ w0.heap.size) (x : S28) (hx : OkT x) : bulkT x ≤ 1048576 →
    ∀ (a : List UInt8) (v5 v6 v : Value) (xs : List (List UInt8)) (w : World), VK w0 x v5 v6 → Below w0.heap.size w0 w → EnvV w → Row w B 9 1 v xs.length (strs xs) → B ≤ w.heap.size →
      (∀ p, p ∈ allP a x → p.length ≤ 268435456) → xs.length + (allP a x).length ≤ 1099511627776 →
      Calls Tryd.prog 34 #[v, .string (str a), .agg (vcs x v5 v6).toArray] w (AllRd B v (xs ++ allP a x) w) := by
  induction hx with
  | mk x h1 h2 ih =>
  intro hbulk a v5 v6 v xs w hx h0 he hr hB hlen hcnt
  obtain ⟨i0, hi, hy0, hy1, hy2⟩ := info_parts info_str
  obtain ⟨va, vcap, rfl, hvc⟩ := hr.shape
  have hrl : (strs xs).length = xs.length := strs_length xs
  have HR := Lib.hid hr
  have HE := Lib.hid he
  have H0 := Lib.hid h0
  have hz0 := h0.size
  have HX := Lib.hid hx
  have hbx := hbulk
  rw [bulkT_eq] at hbx
  have hbl := bulkL_len x.f3
  have IH : Hid (∀ y, y ∈ x.f3 → ∀ (a : List UInt8) (v5 v6 v : Value) (xs : List (List UInt8)) (w : World), VK w0 y v5 v6 → Below w0.heap.size w0 w → EnvV w → Row w B 9 1 v xs.length (strs xs) → B ≤ w.heap.size →
      (∀ p, p ∈ allP a y → p.length ≤ 268435456) → xs.length + (allP a y).length ≤ 1099511627776 →
      Calls Tryd.prog 34 #[v, .string (str a), .agg (vcs y v5 v6).toArray] w (AllRd B v (xs ++ allP a y) w)) := fun y hy => ih y hy (by have := bulk_mem hy; omega)
  have HNL : Hid (∀ k, k < x.f3.length → (nameP x.f0 x.f4 k).length ≤ 67108864) := fun k hk => by
    have := name_len x k (by omega)
    omega
  have H1 := Lib.hid h1
  have HL := Lib.hid hlen
  have HRB : Hid (∀ k, (Value.slice va xs.length vcap).ownBlock = some k → w0.heap.size ≤ k) := fun k hk => Nat.le_trans hB0 (hr.base k hk)
  obtain ⟨A5, c5, A6, c6, rfl, rfl⟩ := hx.open
  have HXS : Hid (xs ++ allP a x = (xs ++ [a]) ++ allL a x.f0 x.f4 0 x.f3) := by
    unfold Hid
    rw [allP_eq]
    simp
  have hn1 : xs.length + 1 ≤ 1099511627776 := by
    rw [allP_eq] at hcnt
    simp only [List.length_cons] at hcnt
    omega
  have HCN := Lib.hid hcnt
  clear hx h0 he hr ih h1 h2 hlen hcnt hbx hbl hbulk
  show Calls Tryd.prog 34 #[.slice va xs.length vcap, .string (str a), .agg #[.int .i64 x.f0, .bool x.f1.f0, .string x.f1.f1, .int .i64 x.f1.f2, .string x.f2, .slice A5 x.f3.length c5, .slice A6 x.f4.length c6]] w _
  go_enter Tryd.func34, Tryd.ntmps34
  go_wp2_with (at_builtin; refine wpList_append_fr _ rfl _ _ 26 rfl B 9 i0 (.string ⟨#[]⟩) 1 16 Tryd.underlying26 hi hy0 hy1 hy2 rfl _ _ _ rfl ((HR.out.alloc _).alloc _) ⟨w.heap.size + 1, 0, none⟩ 1 1 [.string (str a)] rfl rfl ?c1 ?c2 (by decide) ?c3 ?c4 ?c5 ?c6)
  case c1 => intro j u h; have := cell_one_new (w.alloc (boxed x (.slice A5 x.f3.length c5) (.slice A6 x.f4.length c6))) (.string (str a)) 9 j u h; rw [World.size_alloc] at this; exact this
  case c2 => intro u hu; simp at hu; subst hu; rfl
  case c3 => unfold maxLen; omega
  case c4 => omega
  case c5 => simp; omega
  case c6 =>
    intro v1 w1 hr1 hf1
    obtain ⟨va1, cap1, rfl, -⟩ := hr1.shape
    have hz1 := hf1.size
    simp only [World.size_alloc] at hz1
    have hbx : Blk ((w.alloc (boxed x (.slice A5 x.f3.length c5) (.slice A6 x.f4.length c6))).alloc (.cells #[.string (str a)] 9)) w.heap.size [.int .i64 x.f0, .bool x.f1.f0, .string x.f1.f1, .int .i64 x.f1.f2, .string x.f2, .slice A5 x.f3.length c5, .slice A6 x.f4.length c6] 28 := (Blk.new w [.int .i64 x.f0, .bool x.f1.f0, .string x.f1.f1, .int .i64 x.f1.f2, .string x.f2, .slice A5 x.f3.length c5, .slice A6 x.f4.length c6] 28).alloc _
    have hrow2 := (HR.out.alloc (boxed x (.slice A5 x.f3.length c5) (.slice A6 x.f4.length c6))).alloc (.cells #[.string (str a)] 9)
    have hne5 := hrow2.own_ne hbx (by decide)
    have HF1 := Lib.hid ((Fr.of_below (v := .slice va xs.length vcap) (((Below.refl w.heap.size w).alloc (Nat.le_refl _) (boxed x (.slice A5 x.f3.length c5) (.slice A6 x.f4.length c6))).alloc (by simp) (.cells #[.string (str a)] 9))).trans hf1)
    have HX1 := Lib.hid (hf1.blk' hbx hne5)
    have HR1 : Hid (Row w1 B 9 1 (.slice va1 (xs.length + 1) cap1) (xs ++ [a]).length (strs (xs ++ [a]))) := by
      unfold Hid
      rw [strs_append, List.length_append]
      exact hr1
    clear hr1 hf1 hbx hrow2 hne5
    go_wp2_with fail
    go_loopw [0, 7] (fun u i wr => ∃ (k : Nat) (done : List (List UInt8)) (v' : Value), k ≤ x.f3.length ∧ i = .int .i64 k ∧ u = v' ∧ Hid (xs ++ allP a x = done ++ allL a x.f0 x.f4 k (x.f3.drop k)) ∧ Hid (Blk wr w.heap.size [.int .i64 x.f0, .bool x.f1.f0, .string x.f1.f1, .int .i64 x.f1.f2, .string x.f2, .slice A5 x.f3.length c5, .slice A6 x.f4.length c6] 28) ∧ Hid (Row wr B 9 1 v' done.length (strs done)) ∧ Hid (Fr (.slice va xs.length vcap) v' w wr)) (fun _ i _ => x.f3.length - (intOf i).toNat)
    case atStart => exact ⟨0, xs ++ [a], _, Nat.zero_le _, rfl, rfl, HXS.out, HX1.out, HR1.out, HF1.out⟩
    case round =>
      obtain ⟨k, done, v', hk, rfl, rfl, HD, HXr, HRr, HFr⟩ := hrel
      obtain ⟨vr, capr, rfl, -⟩ := HRr.out.shape
      have hzr := HFr.out.size
      obtain ⟨⟨z0, z1, z2, z3, z4, z5, z6⟩, -, -⟩ := HXr.out.seven
      by_cases hlt : k < x.f3.length
      · have hbw := HFr.out.below' HRB.out hz0
        have hbr := H0.out.trans hbw
        have HEr := Lib.hid (HE.out.below hbw h8)
        obtain ⟨A5', c5', A6', c6', e5, e6, hl5, hC5, hl6, hC6⟩ := HX.out
        cases e5
        cases e6
        obtain ⟨b, off, rfl, hbl, hv⟩ := C_vals hC5 (by omega)
        obtain ⟨u5, u6, hK, hcells⟩ := hv k hlt
        have hmem : x.f3.getD k z28 ∈ x.f3 := by simp [List.getD, hlt]
        have hmx : x.f3.length ≤ 9223372036854775807 := hC5.2.1
        have hdr := allL_drop a x.f0 x.f4 x.f3 k hlt
        have hsub : ∀ q, q ∈ allP (a ++ escPart (nameP x.f0 x.f4 k)) (x.f3.getD k z28) → q.length ≤ 268435456 := fun q hq => HL.out q (by rw [allP_eq]; exact List.mem_cons_of_mem _ (mem_allL hlt hq))
        have hself := hsub _ (self_mem _ _)
        rw [List.length_append] at hself
        have hlen2 := congrArg List.length HD.out
        rw [hdr] at hlen2
        simp only [List.length_append] at hlen2
        have hcn := HCN.out
        have IHy := IH.out _ hmem (a ++ escPart (nameP x.f0 x.f4 k)) u5 u6 (.slice vr done.length capr) done
        have HDn : Hid (xs ++ allP a x = (done ++ allP (a ++ escPart (nameP x.f0 x.f4 k)) (x.f3.getD k z28)) ++ allL a x.f0 x.f4 (k + 1) (x.f3.drop (k + 1))) := by
          unfold Hid
          rw [HD.out, hdr, List.append_assoc]
        have HREC : Hid (∀ W, Below wr.heap.size wr W → Calls Tryd.prog 34 #[.slice vr done.length capr, .string (str (a ++ escPart (nameP x.f0 x.f4 k))), .agg (vcs (x.f3.getD k z28) u5 u6).toArray] W (AllRd B (.slice vr done.length capr) (done ++ allP (a ++ escPart (nameP x.f0 x.f4 k)) (x.f3.getD k z28)) W)) := by
          intro W hW
          refine IHy W hK (hbr.trans (hW.mono (by omega))) (HEr.out.call hW) (HRr.out.call hW) (by have := hW.size; omega) hsub ?_
          omega
        have HVW : Hid (∀ W, Below w0.heap.size w W → Kcells W b (off + k * 7) (vcs (x.f3.getD k z28) u5 u6)) := fun W h i u hu => ((H0.out.trans h).cell (p := ⟨b, off + k * 7 + i, none⟩) hbl).trans (hcells i u hu)
        have HVC : Hid (∀ W, Below wr.heap.size wr W → Kcells W b (off + k * 7) (vcs (x.f3.getD k z28) u5 u6)) := fun W h => HVW.out W (hbw.trans (h.mono (by omega)))
        have HCK : Hid (x.f0 = 6 → ∃ b6 o6, A6 = some ⟨b6, o6, none⟩ ∧ x.f4.length = x.f3.length ∧ ∀ W, Below wr.heap.size wr W → W.cell? ⟨b6, o6 + k, none⟩ = some (.string (str (nameP x.f0 x.f4 k)))) := by
          intro h6
          have hs := H1.out h6
          obtain ⟨b6, o6, hA, hb6, hc⟩ := C_strs hC6 (by omega)
          refine ⟨b6, o6, hA, hs, fun W hW => ?_⟩
          rw [(hbr.trans (hW.mono (by omega))).cell (p := ⟨b6, o6 + k, none⟩) hb6, hc k (by omega), nameP, if_pos h6, str_self]
        have HNK : Hid (x.f0 ≠ 6 → nameP x.f0 x.f4 k = Lib.itoa k) := fun h6 => by rw [nameP, if_neg h6]
        have hpl := HNL.out k hlt
        have HI := Lib.hid (itoa_l k (by omega) (by omega) wr HEr.out)
        obtain ⟨B5, d5, B6, d6, rfl, rfl⟩ := hK.open
        clear hC5 hC6 IHy hsub hdr hlen2 hcn hcells hv hbr hbw hK hmem
        generalize nameP x.f0 x.f4 k = p at *
        generalize x.f3.getD k z28 = y at *
        go_wp2_with fail
        refine HI.out.mono ?_
        rintro e w4 ⟨rfl, hb4⟩
        have hz4 := hb4.size
        have HB4 := Lib.hid hb4
        have HX4 := Lib.hid (HXr.out.call hb4)
        obtain ⟨⟨x50, x51, x52, x53, x5e, x54, x5f⟩, -, -⟩ := HX4.out.seven
        have hz4' : wr.heap.size ≤ w4.drew.heap.size := hz4
        have HVC4 : Hid (Kcells w4 b (off + k * 7) [.int .i64 y.f0, .bool y.f1.f0, .string y.f1.f1, .int .i64 y.f1.f2, .string y.f2, .slice B5 y.f3.length d5, .slice B6 y.f4.length d6]) := HVC.out _ HB4.out
        have HPT : Hid (∀ W, Below wr.heap.size wr W → Calls Tryd.prog 46 #[.string (str p)] W (New (.string (str (escPart p))) W)) := fun W hW => partR_l p hpl W
        have hadd : ∀ wx, (Op.stringOp .add (str a) (str (escPart p))).run Tryd.prog wx = .ok (.string (str (a ++ escPart p))) wx := fun wx => by rw [run_string_add_sum wx _ _ (by rw [str_size, str_size]; omega), str_append]
        have hal : a.length + (escPart p).length ≤ 9223372036854775807 := by omega
        clear hb4 hself hpl z0 z1 z2 z3 z4 z5 z6
        by_cases h6 : x.f0 = 6
        · obtain ⟨b6, o6, rfl, hl6', hkc⟩ := HCK.out h6
          have hkc4 := hkc _ HB4.out
          have hk6 : k < x.f4.length := by omega
          have hmx6 : x.f4.length ≤ 9223372036854775807 := by omega
          have ht : (x.f0 == 6) = true := by simpa using h6
          clear hkc h6 hl6'
          go_wp2_with fail
          go_region_held3 (fun w' => w'.cell? ⟨w.heap.size, 5, none⟩ = some (.slice (some ⟨b, off, none⟩) x.f3.length c5) ∧ w'.cell? ⟨b, off + k * 7, none⟩ = some (.int .i64 y.f0) ∧ w'.cell? ⟨b, off + k * 7 + 1, none⟩ = some (.bool y.f1.f0) ∧ w'.cell? ⟨b, off + k * 7 + 2, none⟩ = some (.string y.f1.f1) ∧ w'.cell? ⟨b, off + k * 7 + 3, none⟩ = some (.int .i64 y.f1.f2) ∧ w'.cell? ⟨b, off + k * 7 + 4, none⟩ = some (.string y.f2) ∧ w'.cell? ⟨b, off + k * 7 + 5, none⟩ = some (.slice B5 y.f3.length d5) ∧ w'.cell? ⟨b, off + k * 7 + 6, none⟩ = some (.slice B6 y.f4.length d6)) (first | (with_reducible exact heldE x54 HVC4.out) | (with_reducible exact heldE (cell_drew x54) HVC4.out) | (with_reducible exact heldEd x54 HVC4.out) | (with_reducible exact heldE x55 HVC5.out) | (with_reducible exact heldE x56 HVC6.out)) (first
                      | (go_at_call 46; refine (HPT.out w4.drew HB4.out.drew).mono ?_; rintro e w5 ⟨rfl, hb5⟩; have hz5 := hb5.size; have HB5 := Lib.hid (HB4.out.drew.trans (hb5.mono hz4')); have HX5 := Lib.hid (HX4.out.drew.call hb5); have x55 : w5.cell? ⟨w.heap.size, 5, none⟩ = some (.slice (some ⟨b, off, none⟩) x.f3.length c5) := HX5.out.cell 5; have HVC5 : Hid (Kcells w5 b (off + k * 7) [.int .i64 y.f0, .bool y.f1.f0, .string y.f1.f1, .int .i64 y.f1.f2, .string y.f2, .slice B5 y.f3.length d5, .slice B6 y.f4.length d6]) := HVC.out _ HB5.out; clear hb5)
                      | (go_at_call 34; refine (HREC.out w5 HB5.out).mono ?_; rintro e w6 ⟨v6, rfl, hr6, hf6⟩; have HR6 := Lib.hid hr6; have hne6 := (HRr.out.call HB5.out).own_ne HX5.out (by decide); have HX6 := Lib.hid (hf6.blk' HX5.out hne6); have x56 : w6.cell? ⟨w.heap.size, 5, none⟩ = some (.slice (some ⟨b, off, none⟩) x.f3.length c5) := HX6.out.cell 5; have HF6 := Lib.hid ((Fr.of_below HB5.out).trans hf6); have HVC6 : Hid (Kcells w6 b (off + k * 7) [.int .i64 y.f0, .bool y.f1.f0, .string y.f1.f1, .int .i64 y.f1.f2, .string y.f2, .slice B5 y.f3.length d5, .slice B6 y.f4.length d6]) := Lib.hid (HVW.out _ (((HFr.out.trans HF6.out)).below' HRB.out hz0)); obtain ⟨va6, cap6, rfl, -⟩ := hr6.shape; clear hr6 hf6 hne6))
          go_wp2_with fail
          go_roundw
          case measure => simp only [intOf]; omega
          case rel => exact ⟨k + 1, _, _, by omega, by go_num, (by simp only [List.length_append]), HDn.out, HX6.out, HR6.out, HFr.out.trans HF6.out⟩
        · have ht : (x.f0 == 6) = false := by simpa using h6
          have hp := HNK.out h6
          subst hp
          clear h6
          go_wp2_with fail
          go_region_held3 (fun w' => w'.cell? ⟨w.heap.size, 5, none⟩ = some (.slice (some ⟨b, off, none⟩) x.f3.length c5) ∧ w'.cell? ⟨b, off + k * 7, none⟩ = some (.int .i64 y.f0) ∧ w'.cell? ⟨b, off + k * 7 + 1, none⟩ = some (.bool y.f1.f0) ∧ w'.cell? ⟨b, off + k * 7 + 2, none⟩ = some (.string y.f1.f1) ∧ w'.cell? ⟨b, off + k * 7 + 3, none⟩ = some (.int .i64 y.f1.f2) ∧ w'.cell? ⟨b, off + k * 7 + 4, none⟩ = some (.string y.f2) ∧ w'.cell? ⟨b, off + k * 7 + 5, none⟩ = some (.slice B5 y.f3.length d5) ∧ w'.cell? ⟨b, off + k * 7 + 6, none⟩ = some (.slice B6 y.f4.length d6)) (first | (with_reducible exact heldE x54 HVC4.out) | (with_reducible exact heldE (cell_drew x54) HVC4.out) | (with_reducible exact heldEd x54 HVC4.out) | (with_reducible exact heldE x55 HVC5.out) | (with_reducible exact heldE x56 HVC6.out)) (first
                      | (go_at_call 46; refine (HPT.out w4.drew HB4.out.drew).mono ?_; rintro e w5 ⟨rfl, hb5⟩; have hz5 := hb5.size; have HB5 := Lib.hid (HB4.out.drew.trans (hb5.mono hz4')); have HX5 := Lib.hid (HX4.out.drew.call hb5); have x55 : w5.cell? ⟨w.heap.size, 5, none⟩ = some (.slice (some ⟨b, off, none⟩) x.f3.length c5) := HX5.out.cell 5; have HVC5 : Hid (Kcells w5 b (off + k * 7) [.int .i64 y.f0, .bool y.f1.f0, .string y.f1.f1, .int .i64 y.f1.f2, .string y.f2, .slice B5 y.f3.length d5, .slice B6 y.f4.length d6]) := HVC.out _ HB5.out; clear hb5)
                      | (go_at_call 34; refine (HREC.out w5 HB5.out).mono ?_; rintro e w6 ⟨v6, rfl, hr6, hf6⟩; have HR6 := Lib.hid hr6; have hne6 := (HRr.out.call HB5.out).own_ne HX5.out (by decide); have HX6 := Lib.hid (hf6.blk' HX5.out hne6); have x56 : w6.cell? ⟨w.heap.size, 5, none⟩ = some (.slice (some ⟨b, off, none⟩) x.f3.length c5) := HX6.out.cell 5; have HF6 := Lib.hid ((Fr.of_below HB5.out).trans hf6); have HVC6 : Hid (Kcells w6 b (off + k * 7) [.int .i64 y.f0, .bool y.f1.f0, .string y.f1.f1, .int .i64 y.f1.f2, .string y.f2, .slice B5 y.f3.length d5, .slice B6 y.f4.length d6]) := Lib.hid (HVW.out _ (((HFr.out.trans HF6.out)).below' HRB.out hz0)); obtain ⟨va6, cap6, rfl, -⟩ := hr6.shape; clear hr6 hf6 hne6))
          go_wp2_with fail
          go_roundw
          case measure => simp only [intOf]; omega
          case rel => exact ⟨k + 1, _, _, by omega, by go_num, (by simp only [List.length_append]), HDn.out, HX6.out, HR6.out, HFr.out.trans HF6.out⟩
      · obtain rfl : k = x.f3.length := by omega
        have HDf : Hid (xs ++ allP a x = done) := by
          unfold Hid
          rw [HD.out, List.drop_length, allL, List.append_nil]
        go_wp2_with fail
        go_ret
        refine ⟨_, rfl, ?_, HFr.out⟩
        rw [HDf.out]
        exact HRr.out

set_option maxRecDepth 100000 in
set_option maxHeartbeats 1000000 in
theorem allsR_l (x : S28) (v5 v6 : Value) (w0 w : World) (hx : VK w0 x v5 v6) (h0 : Below w0.heap.size w0 w) (h8 : 8 ≤ w0.heap.size) (he : EnvV w) (hok : OkT x) (hbulk : bulkT x ≤ 1048576) (hlen : ∀ p ∈ allP [] x, p.length ≤ 268435456) (hcnt : (allP [] x).length ≤ 1099511627776) :
    Calls Tryd.prog 17 #[.agg (vcs x v5 v6).toArray] w (Alled (allP [] x) w) := by
  have hz0 := h0.size
  have hb1 : ∀ a : Obj, Below w.heap.size w (w.alloc a) := fun a => (Below.refl _ _).alloc (Nat.le_refl _) _
  have HW : Hid (∀ W, Below w.heap.size w W → Calls Tryd.prog 34 #[.slice none 0 0, .string ⟨#[]⟩, .agg (vcs x v5 v6).toArray] W (AllRd w.heap.size (.slice none 0 0) (allP [] x) W)) := by
    intro W hb
    have := allR_l w0 w.heap.size hz0 h8 x hok hbulk [] v5 v6 (.slice none 0 0) [] W hx (h0.trans (hb.mono hz0)) (he.call hb) (Row.nil _ _ _ _) hb.size hlen (by simpa using hcnt)
    exact this
  generalize allP [] x = xs at *
  obtain ⟨A5, c5, A6, c6, rfl, rfl⟩ := hx.open
  clear hx h0 he hok hlen hcnt
  have HB1 := Lib.hid hb1
  clear hb1
  show Calls Tryd.prog 17 #[.agg #[.int .i64 x.f0, .bool x.f1.f0, .string x.f1.f1, .int .i64 x.f1.f2, .string x.f2, .slice A5 x.f3.length c5, .slice A6 x.f4.length c6]] w _
  go_enter Tryd.func17, Tryd.ntmps17
  go_wp2_with fail
  refine (HW.out _ (HB1.out _)).mono ?_
  rintro e w' ⟨v', rfl, hr, hf⟩
  have HB := Lib.hid ((HB1.out _).trans (hf.below' (B := w.heap.size) (fun k hk => by simp [Value.ownBlock] at hk) (by simp)))
  have HR := Lib.hid hr
  obtain ⟨va, vc, rfl, -⟩ := hr.shape
  clear hr hf
  go_wp2_with fail
  go_ret
  exact ⟨_, rfl, HR.out, HB.out⟩
end Go.Proofs.YthicgeiljficbaaDoor

