import Derived.Test.YthicgeiljficbaaDoorRows
import Derived.WalkKit
import Derived.ProofKit
import Derived.Below
import Derived.ChangeSame
import Derived.Test.YthicgeiljficbaaDoorMa3
import Derived.OpenShut
import Derived.Deep.DeepHandedRow
import Derived.Deep.DeepWitnessRowRef
import Derived.Deep.Strs
import Derived.Lib.LaidTab
import Derived.Lib.LaidIn
import Derived.Lib.LaidU8
import Derived.Shelf.Vars
import Derived.Test.YthicgeiljficbaaDoorMa5
import Derived.Test.YthicgeiljficbaaDoorMa1
import Derived.Lib.ItoaMem
import Derived.Lib.ItoaLen
import Derived.Test.YthicgeiljficbaaDoorMa2
import Derived.Deep.RegionHeld3
/- The last step of a law's row, where of the world behind the call no more is known than that what was there is as it was. -/
namespace Go.Proofs.YthicgeiljficbaaDoor
open Go.RowKit Go.WideShapes Go.ChangeShapes
set_option linter.unusedSimpArgs false
set_option linter.unusedVariables false

end Go.Proofs.YthicgeiljficbaaDoor

/- What the rows of caliperlaw07 share: the variables that they list, a world that holds them; slices of texts among the arguments, opened. -/
namespace Go.Proofs.YthicgeiljficbaaDoor
open Go.ChangeShapes Go.WideShapes Go.ChangeAt Go.RowKit Go.Deep
set_option linter.unusedVariables false
set_option linter.unusedSimpArgs false

theorem own : ownKnob Tryd.prog.godebug = none := by kernel_rfl
theorem laidOut : laidOutB Tryd.prog = true := by kernel_rfl
theorem cells_str : Tryd.prog.cellsOf 9 = 1 := by kernel_rfl
theorem cells_u64 : Tryd.prog.cellsOf 78 = 1 := by kernel_rfl

/-- an error variable's cell -/
theorem cell_of_err {W : World} {n : String} {d : DataW Unit} {g : Nat} (hg : Tryd.prog.globalNamed n = some g) (ht : (Tryd.prog.globals[g]?).map (·.type) = some 74)
    (h : Lib.VarReads Tryd.prog W n (.iface "*errors.errorString" d)) : ∃ ev, W.cell? ⟨g, 0, none⟩ = some ev ∧ (ev = .nilIface ∨ ∃ te pe, ev = .iface te pe) := by
  obtain ⟨g', t, cs, fuel, p, hg', ht', hv, hd⟩ := h
  obtain rfl : g = g' := Option.some.inj (hg.symm.trans hg')
  obtain rfl : 74 = t := Option.some.inj (ht.symm.trans ht')
  obtain ⟨_, u, v, hcs, _, _⟩ := iface_of_trod Tryd.underlying74 hd
  refine ⟨.iface u v, ?_, .inr ⟨u, v, rfl⟩⟩
  have hc : cs = #[.iface u v] := by rw [← Array.toList_inj]; exact hcs
  have := World.var?_cell hg (hc ▸ hv) 0
  simpa using this

/-- the list of every row here -/
def laidL : List (String × DataW Unit) := Rows.pointerBackUptoRow.laid
theorem glob_syn : Tryd.prog.globalNamed "strconv.ErrSyntax" = some 1 := by kernel_rfl
theorem glob_ran : Tryd.prog.globalNamed "strconv.ErrRange" = some 2 := by kernel_rfl
theorem type_syn : (Tryd.prog.globals[1]?).map (·.type) = some 74 := by kernel_rfl
theorem type_ran : (Tryd.prog.globals[2]?).map (·.type) = some 74 := by kernel_rfl
theorem type_pow : (Tryd.prog.globals[3]?).map (·.type) = some 120 := by kernel_rfl
theorem cells_pow : Tryd.prog.cellsOf 120 = 20 := by kernel_rfl
theorem pow_eq : (Rows.laid_internal_strconv_uint64pow10 : DataW Unit) = Lib.tabData .u64 Lib.pow10Tab := by kernel_rfl

/-- what the walks need of a world in which a row's call begins -/
theorem env_of {W : World} (hL : laidMetH Tryd.prog laidL W) (hS : W.ShapedOpen Tryd.prog) : EnvV W := by
  have hM : laidMet Tryd.prog laidL W := hL
  have hsyn := cell_of_err glob_syn type_syn (Lib.laidMet.reads hM (.tail _ (.tail _ (.tail _ (.tail _ (.tail _ (.head _)))))))
  have hran := cell_of_err glob_ran type_ran (Lib.laidMet.reads hM (.tail _ (.tail _ (.tail _ (.tail _ (.head _))))))
  have hmax := Go.Proofs.cell_of_shapedOpen_int (g := 0) (zero := #[.int .i64 0]) (t := 3) hS (of_decide_eq_true (by kernel_rfl)) (by kernel_rfl) rfl (by kernel_rfl) (by kernel_rfl) Tryd.underlying3
  have hsz : 8 ≤ W.heap.size := by
    have hz : ∃ zero t, ((begin Tryd.prog (fun _ _ => 0) default).world.heap[7]?).bind Obj.row? = some (zero, t) := by
      have : (((begin Tryd.prog (fun _ _ => 0) default).world.heap[7]?).bind Obj.row?).isSome = true := by kernel_rfl
      obtain ⟨x, hx⟩ := Option.isSome_iff_exists.1 this
      exact ⟨x.1, x.2, hx⟩
    obtain ⟨zero, t, hz⟩ := hz
    obtain ⟨cs, h, _⟩ := hS.1 7 zero t (of_decide_eq_true (by kernel_rfl)) hz
    have := (Array.getElem?_eq_some_iff.1 h).1
    omega
  have hpow : Lib.TabIs Tryd.prog W "internal/strconv.uint64pow10" .u64 Lib.pow10Tab := by
    obtain ⟨g', t', cs, fuel, p, hg', ht', hvar, hd⟩ := Lib.laidMet.reads hM (n := "internal/strconv.uint64pow10") (d := Rows.laid_internal_strconv_uint64pow10) (.tail _ (.tail _ (.head _)))
    obtain rfl : 3 = g' := Option.some.inj (glob_pow.symm.trans hg')
    obtain rfl : 120 = t' := Option.some.inj (type_pow.symm.trans ht')
    rw [pow_eq] at hd
    unfold Lib.TabIs
    rw [hvar, ← Lib.cells_of_tab Tryd.underlying120 Tryd.underlying78 cells_u64 cells_pow hd]
  exact ⟨hsz, ⟨by omega, hmax⟩, hsyn, hran, hpow⟩

/-- a world for the witnesses -/
noncomputable def laidWorld (os : Os) : World :=
  let N := (World.settled Tryd.prog os).heap.size
  let w0 := World.holding Tryd.prog os ⟨#[.cells #[.string ⟨#[118, 97, 108, 117, 101, 32, 111, 117, 116, 32, 111, 102, 32, 114, 97, 110, 103, 101]⟩] 134, .cells #[.string ⟨#[105, 110, 118, 97, 108, 105, 100, 32, 115, 121, 110, 116, 97, 120]⟩] 134], #[], []⟩
  let put (h : Array Obj) (g : Nat) (cs : Array Value) : Array Obj := h.modify g fun
    | .cells _ t frozen => .cells cs t frozen
    | o => o
  let h1 := put w0.heap 6 #[.int .u8 0, .int .u8 1, .int .u8 28, .int .u8 2, .int .u8 29, .int .u8 14, .int .u8 24, .int .u8 3, .int .u8 30, .int .u8 22, .int .u8 20, .int .u8 15, .int .u8 25, .int .u8 17, .int .u8 4, .int .u8 8, .int .u8 31, .int .u8 27, .int .u8 13, .int .u8 23, .int .u8 21, .int .u8 19, .int .u8 16, .int .u8 7, .int .u8 26, .int .u8 12, .int .u8 18, .int .u8 6, .int .u8 11, .int .u8 5, .int .u8 10, .int .u8 9]
  let h2 := put h1 7 #[.int .u8 0, .int .u8 1, .int .u8 56, .int .u8 2, .int .u8 57, .int .u8 49, .int .u8 28, .int .u8 3, .int .u8 61, .int .u8 58, .int .u8 42, .int .u8 50, .int .u8 38, .int .u8 29, .int .u8 17, .int .u8 4, .int .u8 62, .int .u8 47, .int .u8 59, .int .u8 36, .int .u8 45, .int .u8 43, .int .u8 51, .int .u8 22, .int .u8 53, .int .u8 39, .int .u8 33, .int .u8 30, .int .u8 24, .int .u8 18, .int .u8 12, .int .u8 5, .int .u8 63, .int .u8 55, .int .u8 48, .int .u8 27, .int .u8 60, .int .u8 41, .int .u8 37, .int .u8 16, .int .u8 46, .int .u8 35, .int .u8 44, .int .u8 21, .int .u8 52, .int .u8 32, .int .u8 23, .int .u8 11, .int .u8 54, .int .u8 26, .int .u8 40, .int .u8 15, .int .u8 34, .int .u8 20, .int .u8 31, .int .u8 10, .int .u8 25, .int .u8 14, .int .u8 19, .int .u8 9, .int .u8 13, .int .u8 8, .int .u8 7, .int .u8 6]
  let h3 := put h2 3 #[.int .u64 1, .int .u64 10, .int .u64 100, .int .u64 1000, .int .u64 10000, .int .u64 100000, .int .u64 1000000, .int .u64 10000000, .int .u64 100000000, .int .u64 1000000000, .int .u64 10000000000, .int .u64 100000000000, .int .u64 1000000000000, .int .u64 10000000000000, .int .u64 100000000000000, .int .u64 1000000000000000, .int .u64 10000000000000000, .int .u64 100000000000000000, .int .u64 1000000000000000000, .int .u64 10000000000000000000]
  let h4 := put h3 5 #[.int .u8 128, .int .u8 191, .int .u8 160, .int .u8 191, .int .u8 128, .int .u8 159, .int .u8 144, .int .u8 191, .int .u8 128, .int .u8 143, .int .u8 0, .int .u8 0, .int .u8 0, .int .u8 0, .int .u8 0, .int .u8 0, .int .u8 0, .int .u8 0, .int .u8 0, .int .u8 0, .int .u8 0, .int .u8 0, .int .u8 0, .int .u8 0, .int .u8 0, .int .u8 0, .int .u8 0, .int .u8 0, .int .u8 0, .int .u8 0, .int .u8 0, .int .u8 0]
  let h5 := put h4 2 #[.iface 132 (.pointer (some ⟨N, 0, none⟩))]
  let h6 := put h5 1 #[.iface 132 (.pointer (some ⟨N + 1, 0, none⟩))]
  let h7 := put h6 4 (Lib.firstTab.map fun z => Value.int .u8 z).toArray
  { w0 with heap := h7 }
set_option maxRecDepth 1000000 in
theorem laid_met (os : Os) (args : Array Value) : laidMet Tryd.prog laidL ((laidWorld os).forCall (fun _ _ => 0) ⟨#[], args, []⟩).memory :=
  laidMet_of_run' 8 (by kernel_rfl) (by kernel_rfl)

/-! ### Bulk -/
theorem one_le {H : Type} (d : DataW H) : 1 ≤ Rows.uptoBulk d := by
  cases d with
  | lit l => cases l <;> simp [Rows.uptoBulk]
  | nil => simp [Rows.uptoBulk]
  | ptr d => simp [Rows.uptoBulk]
  | slice elems spare => simp [Rows.uptoBulk]
  | agg parts => simp [Rows.uptoBulk]
  | iface t d => simp [Rows.uptoBulk]
  | map entries => simp [Rows.uptoBulk]
  | held h => simp [Rows.uptoBulk]
end Go.Proofs.YthicgeiljficbaaDoor

/- A value among the arguments, opened: a tree, and how much it bears. -/
namespace Go.Proofs.YthicgeiljficbaaDoor
open Go.ChangeShapes Go.WideShapes Go.ChangeAt Go.RowKit Go.Deep Go.Proofs.YthicgeiljficbaaDoor.Ref Go.Proofs.YthicgeiljficbaaDoorW.PrintWords Go.Proofs.YthicgeiljficbaaDoorW.PrintLast
set_option linter.unusedVariables false
set_option linter.unusedSimpArgs false

mutual
/-- values and letters of a tree -/
def bulkT : S28 → Nat
  | ⟨_, n, t, l, ks⟩ => 1 + n.f1.size + t.size + bulkL l + (ks.map fun k => k.size + 1).sum
def bulkL : List S28 → Nat
  | [] => 0
  | x :: xs => bulkT x + bulkL xs
end
theorem bulkT_eq (x : S28) : bulkT x = 1 + x.f1.f1.size + x.f2.size + bulkL x.f3 + (x.f4.map fun k => k.size + 1).sum := by cases x; rw [bulkT]
theorem bulkL_map (n : Nat) (X : Nat → S28) : bulkL ((List.range n).map X) = ((List.range n).map fun i => bulkT (X i)).sum := by
  have : ∀ l : List Nat, bulkL (l.map X) = (l.map fun i => bulkT (X i)).sum := by
    intro l
    induction l with
    | nil => rfl
    | cons a l ih => simp only [List.map_cons, bulkL, ih, List.sum_cons]
  exact this _
theorem bulkAll_map {H : Type} (n : Nat) (D : Nat → DataW H) : Rows.uptoBulkAll ((List.range n).map D) = ((List.range n).map fun i => Rows.uptoBulk (D i)).sum := by
  have : ∀ l : List Nat, Rows.uptoBulkAll (l.map D) = (l.map fun i => Rows.uptoBulk (D i)).sum := by
    intro l
    induction l with
    | nil => rfl
    | cons a l ih => simp only [List.map_cons, Rows.uptoBulkAll, ih, List.sum_cons]
  exact this _
theorem sum_le {n : Nat} {f g : Nat → Nat} (h : ∀ i, i < n → f i ≤ g i) : ((List.range n).map f).sum ≤ ((List.range n).map g).sum := by
  induction n with
  | zero => simp
  | succ n ih =>
    rw [List.range_succ]
    simp only [List.map_append, List.sum_append, List.map_cons, List.map_nil, List.sum_cons, List.sum_nil]
    have := ih fun i hi => h i (by omega)
    have := h n (by omega)
    omega
theorem le_sum {n : Nat} {f : Nat → Nat} : ∀ {i : Nat}, i < n → f i ≤ ((List.range n).map f).sum := by
  induction n with
  | zero => intro i h; omega
  | succ n ih =>
    intro i h
    rw [List.range_succ]
    simp only [List.map_append, List.sum_append, List.map_cons, List.map_nil, List.sum_cons, List.sum_nil]
    rcases Nat.lt_or_ge i n with h' | h'
    · have := ih h'; omega
    · obtain rfl : i = n := by omega
      omega
theorem cells_kind : Tryd.prog.cellsOf 22 = 1 := by kernel_rfl
theorem cells_dec : Tryd.prog.cellsOf 24 = 3 := by kernel_rfl
theorem cells_val : Tryd.prog.cellsOf 28 = 7 := by kernel_rfl
theorem cells_bool : Tryd.prog.cellsOf 4 = 1 := by kernel_rfl
theorem cells_int : Tryd.prog.cellsOf 3 = 1 := by kernel_rfl
theorem cells_vals : Tryd.prog.cellsOf 25 = 1 := by kernel_rfl
theorem cells_strs : Tryd.prog.cellsOf 26 = 1 := by kernel_rfl

section
variable {H : Type} {enc : TypeId × Value → H} {W : World} {base : Nat} {held : Bool}

set_option maxRecDepth 100000 in
/-- a number -/
theorem dec_trod {fuel : Nat} {cs : List Value} {d : DataW H} {p : List MemPlace} (h : DataW.trod enc Tryd.prog W base (fun _ => true) held fuel 24 cs = some (d, p)) :
    ∃ x : S24, cs = [.bool x.f0, .string x.f1, .int .i64 x.f2] ∧ x.f1.size + 1 ≤ Rows.uptoBulk d := by
  obtain ⟨y0, y1, y2, n, hx, hl, h0, h1, h2⟩ := trod_struct3 Tryd.underlying24 h
  rw [cells_dec] at hl
  match cs, hl with
  | [c0, c1, c2], _ =>
    rw [cells_bool] at h0
    rw [cells_str] at h1
    rw [cells_int] at h2
    obtain ⟨b, hb, e0⟩ := DataW.trod_bool Tryd.underlying4 h0
    obtain ⟨s, hs, e1, _⟩ := DataW.trod_string Tryd.underlying9 h1
    obtain ⟨m, hm, e2, _⟩ := DataW.trod_int Tryd.underlying3 h2
    simp at hb hs hm
    refine ⟨⟨b, s, m⟩, by rw [hb, hs, hm], ?_⟩
    cases hx
    rw [e0, e1, e2]
    simp [Rows.uptoBulk, Rows.uptoBulkAll]
    omega
/-- a slice of texts, as the print reads it -/
theorem strs_trod {fuel : Nat} {v : Value} {d : DataW H} {p : List MemPlace} (h : DataW.trod enc Tryd.prog W base (fun _ => true) held fuel 26 [v] = some (d, p)) :
    ∃ (A : Option Addr) (c : Nat) (ks : List ByteArray), v = .slice A ks.length c ∧ ks.length ≤ c ∧ Kd.C Kd.string W A ks.length ks ∧ (ks.map fun k => k.size + 1).sum + 1 ≤ Rows.uptoBulk d := by
  rcases open_strs Tryd.underlying26 Tryd.underlying9 cells_str h with ⟨hc, hx⟩ | ⟨a, len, cap, m, Sx, hc, hb, hl, hm, hmm, hx, hcell⟩
  · cases hc
    cases hx
    exact ⟨none, 0, [], rfl, Nat.le_refl _, Kd.C_nil _ _, by simp [Rows.uptoBulk]⟩
  · cases hc
    cases hx
    rw [if_pos rfl] at hmm
    subst hmm
    refine ⟨some a, m, (List.range len).map Sx, by simp, by simpa using hl, ⟨by simp, by simp; unfold maxLen at hm; omega, fun _ => ⟨a, rfl, fun j q hj => ⟨[.string q], rfl, rfl, fun i u hu => ?_⟩⟩⟩, ?_⟩
    · have hjl : j < len := by
        have := (List.getElem?_eq_some_iff.1 hj).1
        simpa using this
      have hq : q = Sx j := by
        simp [hjl] at hj
        exact hj.symm
      obtain rfl : i = 0 := by
        have := (List.getElem?_eq_some_iff.1 hu).1
        simp at this
        exact this
      have e2 : (Kd.string).sz = 1 := rfl
      rw [e2, Nat.mul_one, Nat.add_zero, (hcell j (by omega)).1, ← hq]
      simpa using hu
    · simp only [Rows.uptoBulk]
      rw [bulkAll_map]
      have : ((List.range len).map fun i => Rows.uptoBulk (DataW.lit (H := H) (.string (Sx i).data.toList))).sum = (((List.range len).map Sx).map fun k => k.size + 1).sum := by
        rw [List.map_map]
        rfl
      omega

set_option maxRecDepth 100000 in
theorem val_trod (N : Nat) : ∀ (fuel : Nat) (cs : List Value) (d : DataW H) (p : List MemPlace), Rows.uptoBulk d ≤ N → DataW.trod enc Tryd.prog W base (fun _ => true) held fuel 28 cs = some (d, p) →
    ∃ (x : S28) (v5 v6 : Value), cs = vcs x v5 v6 ∧ VK W x v5 v6 ∧ bulkT x + 1 ≤ Rows.uptoBulk d := by
  induction N using Nat.strongRecOn with
  | _ N ih =>
    intro fuel cs d p hN h
    obtain ⟨xs, n, rfl, hx, hl, hlen, hf⟩ := DataW.trod_struct Tryd.underlying28 h
    rw [cells_val] at hl
    match cs, hl, xs, hlen with
    | [c0, c1, c2, c3, c4, c5, c6], _, [y0, y1, y2, y3, y4], _ =>
      have h0 : DataW.trod enc Tryd.prog W base (fun _ => true) held n 22 (([c0, c1, c2, c3, c4, c5, c6].drop 0).take (Tryd.prog.cellsOf 22)) = some y0 := hf 0 _ rfl
      rw [cells_kind] at h0
      have h1 : DataW.trod enc Tryd.prog W base (fun _ => true) held n 24 (([c0, c1, c2, c3, c4, c5, c6].drop 1).take (Tryd.prog.cellsOf 24)) = some y1 := hf 1 _ rfl
      rw [cells_dec] at h1
      have h2 : DataW.trod enc Tryd.prog W base (fun _ => true) held n 9 (([c0, c1, c2, c3, c4, c5, c6].drop 4).take (Tryd.prog.cellsOf 9)) = some y2 := hf 2 _ rfl
      rw [cells_str] at h2
      have h3 : DataW.trod enc Tryd.prog W base (fun _ => true) held n 25 (([c0, c1, c2, c3, c4, c5, c6].drop 5).take (Tryd.prog.cellsOf 25)) = some y3 := hf 3 _ rfl
      rw [cells_vals] at h3
      have h4 : DataW.trod enc Tryd.prog W base (fun _ => true) held n 26 (([c0, c1, c2, c3, c4, c5, c6].drop 6).take (Tryd.prog.cellsOf 26)) = some y4 := hf 4 _ rfl
      rw [cells_strs] at h4
      simp only [List.drop_zero, List.drop_succ_cons, List.take_succ_cons, List.take_zero] at h0 h1 h2 h3 h4
      obtain ⟨k, hk, e0, _⟩ := DataW.trod_int Tryd.underlying22 h0
      obtain ⟨x1, hx1, b1⟩ := dec_trod (d := y1.1) (p := y1.2) h1
      obtain ⟨s, hs, e2, _⟩ := DataW.trod_string Tryd.underlying9 h2
      obtain ⟨A6, c6', ks, hv6, hc6, hC6, b4⟩ := strs_trod (d := y4.1) (p := y4.2) h4
      simp at hk hs hx1
      obtain ⟨rfl, rfl, rfl⟩ := hx1
      subst hk
      subst hs
      subst hv6
      have hd : d = .agg [y0.1, y1.1, y2.1, y3.1, y4.1] := by cases hx; rfl
      have e2' : Rows.uptoBulk y2.1 = s.size + 1 := by rw [e2]; rfl
      have e0' : Rows.uptoBulk y0.1 = 1 := by rw [e0]; rfl
      rcases open_slice Tryd.underlying25 (fuel := n) h3 with ⟨hc, hx3⟩ | ⟨a, len, cap, m, n', D, Pl, hc, hb, hlc, hm, hmm, hx3, hel⟩
      · cases hc
        refine ⟨⟨k, x1, s, [], ks⟩, _, _, rfl, ⟨none, 0, A6, c6', rfl, rfl, Nat.le_refl _, Kd.C_nil _ _, hc6, hC6⟩, ?_⟩
        rw [hd, bulkT_eq]
        simp only [Rows.uptoBulk, Rows.uptoBulkAll, bulkL]
        have := one_le y3.1
        omega
      · cases hc
        rw [if_pos rfl] at hmm
        subst hmm
        have hy3 : y3.1 = .slice ((List.range len).map D) ((List.range (m - len)).map fun j => D (len + j)) := by rw [hx3]
        have hb3 : ((List.range len).map fun i => Rows.uptoBulk (D i)).sum + 1 ≤ Rows.uptoBulk y3.1 := by
          rw [hy3]
          simp only [Rows.uptoBulk]
          rw [bulkAll_map]
          omega
        have hlt : ∀ i, i < len → Rows.uptoBulk (D i) < N := by
          intro i hi
          have h1 : Rows.uptoBulk (D i) ≤ ((List.range len).map fun i => Rows.uptoBulk (D i)).sum := le_sum (f := fun i => Rows.uptoBulk (D i)) hi
          have h2 : Rows.uptoBulk y3.1 + 1 ≤ Rows.uptoBulk d := by
            rw [hd]
            simp only [Rows.uptoBulk, Rows.uptoBulkAll]
            omega
          omega
        have each : ∀ i, i < len → ∃ x : S28, (∃ v5 v6, VK W x v5 v6 ∧ ∀ j u, (vcs x v5 v6)[j]? = some u → W.cell? (a.add (i * 7 + j)) = some u) ∧ bulkT x + 1 ≤ Rows.uptoBulk (D i) := by
          intro i hi
          obtain ⟨cs', h1, h2⟩ := hel i (by omega)
          rw [cells_val] at h1
          obtain ⟨x, v5, v6, rfl, hv, hbk⟩ := ih _ (hlt i hi) n' cs' (D i) (Pl i) (Nat.le_refl _) h2
          obtain ⟨_, hcl, hcell⟩ := World.cells?_some h1
          refine ⟨x, ⟨v5, v6, hv, fun j u hu => ?_⟩, hbk⟩
          have hj : j < 7 := (List.getElem?_eq_some_iff.1 hu).1
          have := hcell j hj
          rw [hu, Addr.add_add] at this
          exact this
        haveI : Inhabited S28 := ⟨z28⟩
        obtain ⟨X, hX⟩ := choose_lt each
        refine ⟨⟨k, x1, s, (List.range len).map X, ks⟩, .slice (some a) len m, .slice A6 ks.length c6', rfl, ⟨some a, m, A6, c6', by simp, rfl, by simpa using hlc, ?_, hc6, hC6⟩, ?_⟩
        · refine ⟨by simp, by simp; unfold maxLen at hm; omega, fun _ => ⟨a, rfl, fun j q hj => ?_⟩⟩
          have hjl : j < len := by
            have := (List.getElem?_eq_some_iff.1 hj).1
            simpa using this
          have hq : q = X j := by
            simp [hjl] at hj
            exact hj.symm
          obtain ⟨⟨v5, v6, ⟨A5, c5, A6, c6, rfl, rfl, l5, g5, l6, g6⟩, hcell⟩, _⟩ := hX j hjl
          subst hq
          exact ⟨_, rfl, k28_mk W (X j) l5 g5 l6 g6, hcell⟩
        · rw [hd, bulkT_eq]
          simp only [Rows.uptoBulk, Rows.uptoBulkAll]
          rw [bulkL_map]
          have h1 : ((List.range len).map fun i => bulkT (X i)).sum ≤ ((List.range len).map fun i => Rows.uptoBulk (D i)).sum := sum_le fun i hi => by have := (hX i hi).2; omega
          omega
end

set_option maxRecDepth 100000 in
/-- a value among the arguments -/
theorem val_of {H : Type} {enc : TypeId × Value → H} {W : World} {r : Reach} {base : Nat} {held : Bool} {v : Value} {d : DataW H} {p : List MemPlace} (hv : Value.okWide Tryd.prog W r base 28 v)
    (h : ∃ fuel, DataW.trod enc Tryd.prog W 0 (fun _ => true) held fuel 28 v.cells.toList = some (d, p)) : ∃ (x : S28) (v5 v6 : Value), v = .agg (vcs x v5 v6).toArray ∧ VK W x v5 v6 ∧ bulkT x + 1 ≤ Rows.uptoBulk d := by
  obtain ⟨fuel, hf⟩ := h
  obtain ⟨cs, rfl, _⟩ := okWide_struct Tryd.underlying28 hv
  obtain ⟨x, v5, v6, hc, hV, hb⟩ := val_trod _ fuel _ d p (Nat.le_refl _) hf
  exact ⟨x, v5, v6, by rw [← hc]; simp [Value.cells], hV, hb⟩
end Go.Proofs.YthicgeiljficbaaDoor

/- Plain: caliperref03.Check, caliperref06.right, Check, Depth come to an end at every tree; what is right has as many keys as values. -/
namespace Go.Proofs.YthicgeiljficbaaDoor
open Go.RowKit Go.Proofs.YthicgeiljficbaaDoor.Ref Go.Proofs.YthicgeiljficbaaDoorW.PrintWords Go.Proofs.YthicgeiljficbaaDoorW.PrintLast
set_option linter.unusedSimpArgs false
set_option linter.unusedVariables false
set_option linter.unnecessarySimpa false

/-- every tree is one -/
inductive Tree : S28 → Prop
  | mk (x : S28) (h : ∀ y, y ∈ x.f3 → Tree y) : Tree x
theorem wrT1 (n : Nat) (h : n ≤ 281474976710656) : wrap64 ((n : Int) + 1) = ((n + 1 : Nat) : Int) := by unfold wrap64; omega
theorem tree_all : ∀ n (x : S28), bulkT x ≤ n → Tree x := by
  intro n
  induction n with
  | zero => intro x h; rw [bulkT_eq] at h; omega
  | succ n ih =>
    intro x h
    refine .mk x fun y hy => ih y ?_
    have : ∀ l : List S28, y ∈ l → bulkT y ≤ bulkL l := by
      intro l
      induction l with
      | nil => intro h; cases h
      | cons z l ihl =>
        intro h
        rw [bulkL]
        rcases List.mem_cons.1 h with rfl | h
        · omega
        · have := ihl h; omega
    have := this _ hy
    rw [bulkT_eq] at h
    omega
theorem tree (x : S28) : Tree x := tree_all _ x (Nat.le_refl _)
theorem bulk_mem {y : S28} {l : List S28} (h : y ∈ l) : bulkT y ≤ bulkL l := by
  induction l with
  | nil => cases h
  | cons z l ihl =>
    rw [bulkL]
    rcases List.mem_cons.1 h with rfl | h
    · omega
    · have := ihl h; omega
theorem bulkL_len (l : List S28) : l.length ≤ bulkL l := by
  induction l with
  | nil => simp
  | cons z l ih => rw [bulkL, bulkT_eq, List.length_cons]; omega
theorem keys_le {k : ByteArray} {ks : List ByteArray} (h : k ∈ ks) : k.size + 1 ≤ (ks.map fun k => k.size + 1).sum := by
  induction ks with
  | nil => cases h
  | cons z ks ih =>
    simp only [List.map_cons, List.sum_cons]
    rcases List.mem_cons.1 h with rfl | h
    · omega
    · have := ih h; omega
theorem keys_len (ks : List ByteArray) : ks.length ≤ (ks.map fun k => k.size + 1).sum := by
  induction ks with
  | nil => simp
  | cons z ks ih => simp only [List.map_cons, List.sum_cons, List.length_cons]; omega
theorem wrs (n : Nat) (h : 1 ≤ n) (h2 : n ≤ 281474976710656) : wrap64 ((n : Int) - 1) = ((n - 1 : Nat) : Int) := by unfold wrap64; omega

theorem digit_ex (c : Int) : ∃ b, caliperref03_digit.f c = some b := by unfold caliperref03_digit.f; split <;> exact ⟨_, rfl⟩
/-- a number's Check ends -/
theorem dec_ex (g : Bool) (s : ByteArray) (e : Int) (hs : s.size ≤ 1048576) : ∀ k, s.size + 2 ≤ k → ∃ r, caliperref03_Check.f k g s e = some r := by
  have loop : ∀ d i, i + d = s.size → 0 < s.size → ∀ k, d + 1 ≤ k → ∃ r, caliperref03_Check.l0 k (s.size : Int) (i : Int) g s e = some r := by
    intro d
    induction d with
    | zero =>
      intro i hi h0 k hk
      obtain ⟨k, rfl⟩ : ∃ j, k = j + 1 := ⟨k - 1, by omega⟩
      rw [caliperref03_Check.l0, if_neg (by omega)]
      have h1 := wrs s.size h0 (by omega)
      rw [h1]
      split
      · exact ⟨_, rfl⟩
      · rw [if_pos (by omega)]
        split
        · exact ⟨_, rfl⟩
        · rw [if_pos (by omega), if_pos (by omega)]
          split
          · exact ⟨_, rfl⟩
          · split
            · exact ⟨_, rfl⟩
            · split <;> exact ⟨_, rfl⟩
    | succ d ih =>
      intro i hi h0 k hk
      obtain ⟨k, rfl⟩ : ∃ j, k = j + 1 := ⟨k - 1, by omega⟩
      rw [caliperref03_Check.l0, if_pos (by omega), if_pos (by omega), if_pos (by omega)]
      obtain ⟨b, hb⟩ := digit_ex (bt s i)
      rw [hb]
      simp only [Option.bind_some]
      cases b with
      | false => exact ⟨2, by simp⟩
      | true =>
        rw [if_pos rfl, wrT1 i (by omega)]
        exact ih (i + 1) (by omega) h0 k (by omega)
  intro k hk
  unfold caliperref03_Check.f
  by_cases h0 : s.size = 0
  · rw [if_pos (by omega)]
    split
    · exact ⟨_, rfl⟩
    · split <;> exact ⟨_, rfl⟩
  · rw [if_neg (by omega)]
    exact loop s.size 0 (by omega) (by omega) k (by omega)
theorem valid_ex (s : ByteArray) (hs : s.size ≤ 1048576) : ∃ b, caliperref06_valid.f s = some b := by
  unfold caliperref06_valid.f
  rw [if_pos (by omega)]
  exact ⟨_, rfl⟩

mutual
/-- rounds enough -/
def fuelT : S28 → Nat
  | ⟨_, n, _, l, ks⟩ => 10 + n.f1.size + (ks.length + 1) * (ks.length + 3) + 2 * l.length + fuelL l
def fuelL : List S28 → Nat
  | [] => 0
  | x :: xs => fuelT x + fuelL xs
end
theorem fuelT_eq (x : S28) : fuelT x = 10 + x.f1.f1.size + (x.f4.length + 1) * (x.f4.length + 3) + 2 * x.f3.length + fuelL x.f3 := by cases x; rw [fuelT]
theorem fuel_mem {y : S28} {l : List S28} (h : y ∈ l) : fuelT y ≤ fuelL l := by
  induction l with
  | nil => cases h
  | cons z l ihl =>
    rw [fuelL]
    rcases List.mem_cons.1 h with rfl | h
    · omega
    · have := ihl h; omega

/-- right of a tree -/
def rightT (k : Nat) (x : S28) (lev : Int) : Option Bool := caliperref06_right.f k x.f0 x.f1.f0 x.f1.f1 x.f1.f2 x.f2 x.f3 x.f4 lev
def RightOk (x : S28) (o : Option Bool) : Prop := ∃ b, o = some b ∧ (b = true → OkT x)

theorem l2_ex (x : S28) (hb : bulkT x ≤ 1048576) (hx : x.f0 = 6 → x.f4.length = x.f3.length) (ih : ∀ y, y ∈ x.f3 → ∀ lev k, fuelT y ≤ k → RightOk y (rightT k y lev)) (lev : Int) :
    ∀ d i, i + d = x.f3.length → (∀ j, j < i → OkT (x.f3.getD j z28)) → ∀ k, d + 1 + fuelL x.f3 ≤ k → RightOk x (caliperref06_right.l2 k lev i x.f0 x.f1.f0 x.f1.f1 x.f1.f2 x.f2 x.f3 x.f4) := by
  have hl := bulkL_len x.f3
  rw [bulkT_eq] at hb
  intro d
  induction d with
  | zero =>
    intro i hi hj k hk
    obtain ⟨k, rfl⟩ : ∃ j, k = j + 1 := ⟨k - 1, by omega⟩
    rw [caliperref06_right.l2, if_neg (by omega)]
    refine ⟨true, rfl, fun _ => .mk x hx fun y hy => ?_⟩
    obtain ⟨j, hjl, rfl⟩ := List.getElem_of_mem hy
    have := hj j (by omega)
    simpa [List.getD, hjl] using this
  | succ d ihd =>
    intro i hi hj k hk
    obtain ⟨k, rfl⟩ : ∃ j, k = j + 1 := ⟨k - 1, by omega⟩
    have hil : i < x.f3.length := by omega
    have hmem : x.f3.getD i z28 ∈ x.f3 := by simp [List.getD, hil]
    have hrd : rd_T28 x.f3 (i : Int) = x.f3.getD i z28 := by unfold rd_T28; rw [Int.toNat_natCast]
    have hfm := fuel_mem hmem
    obtain ⟨b, h1, h2⟩ := ih _ hmem (wrap64 (lev - 1)) k (by omega)
    unfold rightT at h1
    rw [caliperref06_right.l2, if_pos (by omega), if_pos (by omega), hrd, h1]
    simp only [Option.bind_some]
    cases b with
    | false => exact ⟨false, by simp, fun h => by cases h⟩
    | true =>
      rw [if_pos rfl, wrT1 i (by omega)]
      refine ihd (i + 1) (by omega) (fun j hj2 => ?_) k (by omega)
      rcases Nat.lt_or_ge j i with h | h
      · exact hj j h
      · obtain rfl : j = i := by omega
        exact h2 rfl

theorem l01_ex (x : S28) (hb : bulkT x ≤ 1048576) (lev : Int) (h2 : ∀ k, x.f3.length + 1 + fuelL x.f3 ≤ k → RightOk x (caliperref06_right.l2 k lev 0 x.f0 x.f1.f0 x.f1.f1 x.f1.f2 x.f2 x.f3 x.f4)) :
    ∀ d i, i + d = x.f4.length → ∀ k, d * (x.f4.length + 3) + 2 + (x.f3.length + 1 + fuelL x.f3) ≤ k → RightOk x (caliperref06_right.l0 k lev i x.f0 x.f1.f0 x.f1.f1 x.f1.f2 x.f2 x.f3 x.f4) := by
  have hkl := keys_len x.f4
  have hkb := hb
  rw [bulkT_eq] at hkb
  intro d
  induction d with
  | zero =>
    intro i hi k hk
    obtain ⟨k, rfl⟩ : ∃ j, k = j + 1 := ⟨k - 1, by omega⟩
    rw [caliperref06_right.l0, if_neg (by omega)]
    exact h2 k (by omega)
  | succ d ihd =>
    intro i hi k hk
    obtain ⟨k, rfl⟩ : ∃ j, k = j + 1 := ⟨k - 1, by omega⟩
    have hil : i < x.f4.length := by omega
    have hmem : rdOf ByteArray.empty x.f4 (i : Int) ∈ x.f4 := by simp [rdOf, hil]
    have hkm := keys_le hmem
    obtain ⟨b, hv⟩ := valid_ex (rdOf ByteArray.empty x.f4 (i : Int)) (by omega)
    rw [caliperref06_right.l0, if_pos (by omega), if_pos (by omega), hv]
    simp only [Option.bind_some]
    cases b with
    | false => exact ⟨false, by simp, fun h => by cases h⟩
    | true =>
      rw [if_pos rfl]
      have hmul : (d + 1) * (x.f4.length + 3) = d * (x.f4.length + 3) + (x.f4.length + 3) := by rw [Nat.add_mul, Nat.one_mul]
      rw [hmul] at hk
      have inner : ∀ e j, j + e = i → ∀ k, e + 1 + (d * (x.f4.length + 3) + 2 + (x.f3.length + 1 + fuelL x.f3)) ≤ k → RightOk x (caliperref06_right.l1 k lev i j x.f0 x.f1.f0 x.f1.f1 x.f1.f2 x.f2 x.f3 x.f4) := by
        intro e
        induction e with
        | zero =>
          intro j hj k hk
          obtain ⟨k, rfl⟩ : ∃ q, k = q + 1 := ⟨k - 1, by omega⟩
          rw [caliperref06_right.l1, if_neg (by omega), wrT1 i (by omega)]
          exact ihd (i + 1) (by omega) k (by omega)
        | succ e ihe =>
          intro j hj k hk
          obtain ⟨k, rfl⟩ : ∃ q, k = q + 1 := ⟨k - 1, by omega⟩
          rw [caliperref06_right.l1, if_pos (by omega), if_pos (by omega), if_pos (by omega), if_pos (by omega), if_pos (by omega)]
          split
          · exact ⟨false, rfl, fun h => by cases h⟩
          · rw [wrT1 j (by omega)]
            exact ihe (j + 1) (by omega) k (by omega)
      exact inner i 0 (by omega) k (by omega)

theorem j2_ex (x : S28) (lev : Int) (b : Bool) (k : Nat) (h : RightOk x (caliperref06_right.l0 k lev 0 x.f0 x.f1.f0 x.f1.f1 x.f1.f2 x.f2 x.f3 x.f4)) : RightOk x (caliperref06_right.j2 (k + 1) lev b x.f0 x.f1.f0 x.f1.f1 x.f1.f2 x.f2 x.f3 x.f4) := by
  rw [caliperref06_right.j2]
  cases b with
  | true => exact ⟨false, by simp, fun h => by cases h⟩
  | false => rw [if_neg (by simp)]; exact h
theorem j1_ex (x : S28) (hb : bulkT x ≤ 1048576) (lev : Int) (b : Bool) (k : Nat) (hk : x.f1.f1.size + 2 ≤ k + 1) (h : b = false → RightOk x (caliperref06_right.l0 k lev 0 x.f0 x.f1.f0 x.f1.f1 x.f1.f2 x.f2 x.f3 x.f4)) :
    RightOk x (caliperref06_right.j1 (k + 2) lev b x.f0 x.f1.f0 x.f1.f1 x.f1.f2 x.f2 x.f3 x.f4) := by
  rw [bulkT_eq] at hb
  rw [caliperref06_right.j1]
  cases b with
  | true => exact ⟨false, by simp, fun h => by cases h⟩
  | false =>
    rw [if_neg (by simp)]
    obtain ⟨r, hr⟩ := dec_ex x.f1.f0 x.f1.f1 x.f1.f2 (by omega) (k + 1) hk
    obtain ⟨v, hv⟩ := valid_ex x.f2 (by omega)
    rw [hr]
    simp only [Option.bind_some]
    have hj := h rfl
    split
    · rw [hv]
      simp only [Option.bind_some]
      split
      · split
        · exact j2_ex x lev _ k hj
        · exact j2_ex x lev _ k hj
      · exact j2_ex x lev _ k hj
    · exact j2_ex x lev _ k hj
theorem j0_ex (x : S28) (hb : bulkT x ≤ 1048576) (lev : Int) (b : Bool) (k : Nat) (hk : x.f1.f1.size + 2 ≤ k + 1) (h : (x.f0 = 6 → x.f4.length = x.f3.length) → RightOk x (caliperref06_right.l0 k lev 0 x.f0 x.f1.f0 x.f1.f1 x.f1.f2 x.f2 x.f3 x.f4)) :
    RightOk x (caliperref06_right.j0 (k + 3) lev b x.f0 x.f1.f0 x.f1.f1 x.f1.f2 x.f2 x.f3 x.f4) := by
  rw [caliperref06_right.j0]
  cases b with
  | true => exact ⟨false, by simp, fun h => by cases h⟩
  | false =>
    rw [if_neg (by simp)]
    have any : ∀ b, (b = false → x.f0 = 6 → x.f4.length = x.f3.length) → RightOk x (caliperref06_right.j1 (k + 2) lev b x.f0 x.f1.f0 x.f1.f1 x.f1.f2 x.f2 x.f3 x.f4) := fun b hbb => j1_ex x hb lev b k hk (fun e => h (hbb e))
    have six : (((x.f4.length : Int) != (x.f3.length : Int)) = false → x.f0 = 6 → x.f4.length = x.f3.length) := fun e _ => by
      have := bne_eq_false_iff_eq.1 e
      omega
    split
    · split
      · exact any _ (fun e => by cases e)
      · split
        · exact any _ six
        · split
          · exact any _ (fun e => by cases e)
          · exact any _ (fun _ e => absurd e (by assumption))
    · split
      · exact any _ six
      · split
        · exact any _ (fun e => by cases e)
        · exact any _ (fun _ e => absurd e (by assumption))
theorem right_ex (x : S28) (ht : Tree x) : bulkT x ≤ 1048576 → ∀ lev k, fuelT x ≤ k → RightOk x (rightT k x lev) := by
  induction ht with
  | mk x h ih =>
    intro hb lev k hk
    rw [fuelT_eq] at hk
    have hbx := hb
    rw [bulkT_eq] at hbx
    obtain ⟨k, rfl⟩ : ∃ j, k = j + 4 := ⟨k - 4, by omega⟩
    have hmul : (x.f4.length + 1) * (x.f4.length + 3) = x.f4.length * (x.f4.length + 3) + (x.f4.length + 3) := by rw [Nat.add_mul, Nat.one_mul]
    rw [hmul] at hk
    have hl0 : (x.f0 = 6 → x.f4.length = x.f3.length) → RightOk x (caliperref06_right.l0 k lev 0 x.f0 x.f1.f0 x.f1.f1 x.f1.f2 x.f2 x.f3 x.f4) := by
      intro hx
      refine l01_ex x hb lev (fun k hk => ?_) x.f4.length 0 (by omega) k (by omega)
      refine l2_ex x hb hx (fun y hy lev k hk => ih y hy ?_ lev k hk) lev x.f3.length 0 (by omega) (fun j hj => absurd hj (Nat.not_lt_zero _)) k hk
      have := bulk_mem hy
      omega
    have any : ∀ b, RightOk x (caliperref06_right.j0 (k + 3) lev b x.f0 x.f1.f0 x.f1.f1 x.f1.f2 x.f2 x.f3 x.f4) := fun b => j0_ex x hb lev b k (by omega) hl0
    unfold rightT
    rw [caliperref06_right.f]
    repeat' split
    all_goals exact any _
end Go.Proofs.YthicgeiljficbaaDoor

/- Plain: a number's text read again; what a search for an element's place finds; how long and how many the pointers of a tree are. -/
namespace Go.Proofs.YthicgeiljficbaaDoor
open Go.RowKit Go.Proofs.YthicgeiljficbaaDoor.Ref Go.Proofs.YthicgeiljficbaaDoorW.PrintWords Go.Proofs.YthicgeiljficbaaDoorW.PrintLast
set_option linter.unusedSimpArgs false
set_option linter.unusedVariables false
set_option linter.unnecessarySimpa false

theorem dig_byte (d : Nat) (h : d < 10) : (UInt8.ofNat (48 + d)).toNat = 48 + d := by
  rw [UInt8.toNat_ofNat']
  omega
theorem pu_snoc (c : UInt8) (hc : 48 ≤ c.toNat ∧ c.toNat ≤ 57) : ∀ (l : List UInt8) (acc v : Nat), Lib.parseUint10 acc l = .ok v → v * 10 + (c.toNat - 48) < 18446744073709551616 → Lib.parseUint10 acc (l ++ [c]) = .ok (v * 10 + (c.toNat - 48))
  | [], acc, v, h, hf => by
    simp only [Lib.parseUint10] at h
    injection h with h
    subst h
    simp only [List.nil_append, Lib.parseUint10]
    rw [if_pos hc, if_neg (by omega), if_neg (by omega)]
  | b :: r, acc, v, h, hf => by
    simp only [Lib.parseUint10] at h
    simp only [List.cons_append, Lib.parseUint10]
    split at h
    · rename_i hb
      split at h
      · cases h
      · rename_i h1
        split at h
        · cases h
        · rename_i h2
          rw [if_pos hb, if_neg h1, if_neg h2]
          exact pu_snoc c hc r _ v h hf
    · cases h
theorem pu_dec (u : Nat) : u < 18446744073709551616 → Lib.parseUint10 0 (Lib.decDigits u) = .ok u := by
  induction u using Nat.strongRecOn with
  | _ u ih =>
    intro hu
    by_cases h : u < 10
    · rw [Lib.decDigits_one h]
      have hd := dig_byte u h
      simp only [Lib.parseUint10]
      rw [hd, if_pos (by omega), if_neg (by omega), if_neg (by omega)]
      congr 1
      omega
    · rw [Lib.decDigits, dif_neg h]
      have hd := dig_byte (u % 10) (by omega)
      rw [pu_snoc (UInt8.ofNat (48 + u % 10)) (by omega) _ 0 _ (ih (u / 10) (by omega) (by omega)) (by omega), hd]
      congr 1
      omega
theorem dec_digits (u : Nat) : ∀ c ∈ Lib.decDigits u, 48 ≤ c.toNat ∧ c.toNat ≤ 57 := by
  induction u using Nat.strongRecOn with
  | _ u ih =>
    intro c hc
    by_cases h : u < 10
    · rw [Lib.decDigits_one h] at hc
      obtain rfl := List.mem_singleton.1 hc
      have := dig_byte u h
      omega
    · rw [Lib.decDigits, dif_neg h] at hc
      rcases List.mem_append.1 hc with hc | hc
      · exact ih _ (by omega) c hc
      · obtain rfl := List.mem_singleton.1 hc
        have := dig_byte (u % 10) (by omega)
        omega
theorem atoi_itoa (n : Nat) (h : n < 9223372036854775808) : atoiV (Lib.itoa (n : Int)) = some (n : Int) := by
  rw [Lib.itoa_nonneg]
  have hp := pu_dec n (by omega)
  have hd := dec_digits n
  have e : Lib.atoiAll (Lib.decDigits n) = .ok (n : Int) := by
    cases hl : Lib.decDigits n with
    | nil =>
      have h1 := Lib.decDigits_length n
      have h2 := Lib.nDigits_pos n
      rw [hl] at h1
      simp at h1
      omega
    | cons c r =>
      rw [hl] at hp hd
      have hc := hd c (by simp)
      unfold Lib.atoiAll
      simp only
      rw [if_neg (by omega : ¬ (c.toNat = 43 ∨ c.toNat = 45))]
      unfold Lib.parseMag
      rw [if_neg (by simp), hp]
      simp only
      rw [if_neg (by omega), if_neg (by omega), if_neg (by omega)]
  unfold atoiV
  rw [e]
theorem itoa_inj {m n : Nat} (hm : m < 9223372036854775808) (hn : n < 9223372036854775808) (h : Lib.itoa (m : Int) = Lib.itoa (n : Int)) : m = n := by
  have a := atoi_itoa m hm
  rw [h, atoi_itoa n hn] at a
  injection a with a
  omega
theorem arr_some {x : S28} {p : List UInt8} {j : Nat} (hj : j < x.f3.length) (hl : x.f3.length ≤ 9223372036854775807) (h : Lib.itoa (j : Int) = p) : arrV x p = some (x.f3.getD j z28) := by
  subst h
  unfold arrV
  rw [atoi_itoa j (by omega)]
  simp only
  rw [if_pos trivial, if_pos (by omega), if_pos (by omega), Int.toNat_natCast]
/-! ### The pointers of a tree -/
mutual
def sizeT : S28 → Nat
  | ⟨_, _, _, l, _⟩ => 1 + sizeL l
def sizeL : List S28 → Nat
  | [] => 0
  | x :: xs => sizeT x + sizeL xs
end
theorem sizeT_eq (x : S28) : sizeT x = 1 + sizeL x.f3 := by cases x; rw [sizeT]
theorem size_le (x : S28) (ht : Tree x) : sizeT x ≤ bulkT x := by
  induction ht with
  | mk x h ih =>
    rw [sizeT_eq, bulkT_eq]
    have : ∀ l : List S28, (∀ y ∈ l, sizeT y ≤ bulkT y) → sizeL l ≤ bulkL l := by
      intro l
      induction l with
      | nil => intro _; simp [sizeL, bulkL]
      | cons z l ihl =>
        intro hl
        rw [sizeL, bulkL]
        have h1 := hl z (by simp)
        have h2 := ihl fun y hy => hl y (by simp [hy])
        omega
    have := this x.f3 ih
    omega
theorem allL_mem {a p : List UInt8} {k : Int} {ks : List ByteArray} : ∀ (l : List S28) (i : Nat), p ∈ allL a k ks i l → ∃ j, j < l.length ∧ p ∈ allP (a ++ escPart (nameP k ks (i + j))) (l.getD j z28)
  | [], i, h => by rw [allL] at h; cases h
  | y :: ys, i, h => by
    rw [allL] at h
    rcases List.mem_append.1 h with h | h
    · exact ⟨0, by simp, by simpa using h⟩
    · obtain ⟨j, hj, hm⟩ := allL_mem ys (i + 1) h
      refine ⟨j + 1, by simpa using hj, ?_⟩
      have e : i + (j + 1) = i + 1 + j := by omega
      rw [e]
      simpa using hm
theorem all_count (x : S28) (ht : Tree x) : ∀ a, (allP a x).length = sizeT x := by
  induction ht with
  | mk x h ih =>
    intro a
    rw [allP_eq, sizeT_eq, List.length_cons]
    have : ∀ (l : List S28) (i : Nat), (∀ y ∈ l, ∀ a, (allP a y).length = sizeT y) → (allL a x.f0 x.f4 i l).length = sizeL l := by
      intro l
      induction l with
      | nil => intro i _; simp [allL, sizeL]
      | cons z l ihl =>
        intro i hl
        rw [allL, sizeL, List.length_append, hl z (by simp), ihl (i + 1) fun y hy => hl y (by simp [hy])]
    rw [this x.f3 0 ih]
    omega
theorem name_len (x : S28) (i : Nat) (hi : i ≤ 1048576) : (nameP x.f0 x.f4 i).length ≤ 21 + (x.f4.map fun k => k.size + 1).sum := by
  unfold nameP
  split
  · by_cases h : i < x.f4.length
    · have hm : x.f4.getD i ByteArray.empty ∈ x.f4 := by simp [List.getD, h]
      have := keys_le hm
      have e : (x.f4.getD i ByteArray.empty).data.toList.length = (x.f4.getD i ByteArray.empty).size := Array.length_toList
      omega
    · have e : x.f4.getD i ByteArray.empty = ByteArray.empty := by simp [List.getD, h]
      rw [e]
      simp
  · have := Lib.itoa_length_le (i : Int) (by omega) (by omega)
    omega
end Go.Proofs.YthicgeiljficbaaDoor

/- Plain law: what pointer.Parse reads of a text, byte by byte; parts come back. -/
namespace Go.Proofs.YthicgeiljficbaaDoor
open Go.RowKit
set_option linter.unusedSimpArgs false
set_option linter.unusedVariables false
set_option linter.unnecessarySimpa false

/-- each a b of l by 'new' -/
def rep2 (a b : UInt8) (new : List UInt8) : List UInt8 → List UInt8
  | [] => []
  | [c] => [c]
  | c :: d :: t => if c = a ∧ d = b then new ++ rep2 a b new t else c :: rep2 a b new (d :: t)
def cnt2 (a b : UInt8) : List UInt8 → Nat
  | [] => 0
  | [_] => 0
  | c :: d :: t => if c = a ∧ d = b then 1 + cnt2 a b t else cnt2 a b (d :: t)
theorem rep2_ne {a b c : UInt8} {new : List UInt8} (h : c ≠ a) (t : List UInt8) : rep2 a b new (c :: t) = c :: rep2 a b new t := by
  cases t with
  | nil => rfl
  | cons d t => rw [rep2, if_neg (fun e => h e.1)]
theorem rep2_hit (a b : UInt8) (new t : List UInt8) : rep2 a b new (a :: b :: t) = new ++ rep2 a b new t := by rw [rep2, if_pos ⟨rfl, rfl⟩]
theorem rep2_miss {a b d : UInt8} {new : List UInt8} (h : d ≠ b) (t : List UInt8) : rep2 a b new (a :: d :: t) = a :: rep2 a b new (d :: t) := by rw [rep2, if_neg (fun e => h e.2)]
theorem cnt2_ne {a b c : UInt8} (h : c ≠ a) (t : List UInt8) : cnt2 a b (c :: t) = cnt2 a b t := by
  cases t with
  | nil => rfl
  | cons d t => rw [cnt2, if_neg (fun e => h e.1)]
theorem cnt2_hit (a b : UInt8) (t : List UInt8) : cnt2 a b (a :: b :: t) = 1 + cnt2 a b t := by rw [cnt2, if_pos ⟨rfl, rfl⟩]
theorem cnt2_miss {a b d : UInt8} (h : d ≠ b) (t : List UInt8) : cnt2 a b (a :: d :: t) = cnt2 a b (d :: t) := by rw [cnt2, if_neg (fun e => h e.2)]

theorem pre_hit (a b : UInt8) (t : List UInt8) : ([a, b] : List UInt8).isPrefixOf (a :: b :: t) = true := by simp [List.isPrefixOf]
theorem pre_miss {a b c d : UInt8} (h : ¬ (c = a ∧ d = b)) (t : List UInt8) : ([a, b] : List UInt8).isPrefixOf (c :: d :: t) = false := by
  by_cases h1 : c = a
  · have h2 : ¬ b = d := fun e => h ⟨h1, e.symm⟩
    simp [List.isPrefixOf, h2]
  · have h2 : ¬ a = c := fun e => h1 e.symm
    simp [List.isPrefixOf, h2]
theorem index_hit2 (a b : UInt8) (t : List UInt8) : Lib.index (a :: b :: t) [a, b] = ((0 : Nat) : Int) := by rw [Lib.index, if_pos (pre_hit a b t)]; rfl
theorem index_miss2 {a b c : UInt8} {t : List UInt8} (h : ([a, b] : List UInt8).isPrefixOf (c :: t) = false) : Lib.index (c :: t) [a, b] = if Lib.index t [a, b] == -1 then -1 else Lib.index t [a, b] + 1 := by
  rw [Lib.index, if_neg (by rw [h]; simp)]
theorem count_cons {a b c : UInt8} {t : List UInt8} (h : ([a, b] : List UInt8).isPrefixOf (c :: t) = false) : Lib.count (c :: t) [a, b] = Lib.count t [a, b] := by
  have hi := index_miss2 h
  have hg := Lib.index_ge t [a, b]
  by_cases h1 : Lib.index t [a, b] = -1
  · rw [h1] at hi
    rw [Lib.count_miss (by simpa using hi), Lib.count_miss h1]
  · obtain ⟨i, h2⟩ : ∃ i : Nat, Lib.index t [a, b] = i := ⟨(Lib.index t [a, b]).toNat, by omega⟩
    rw [h2] at hi
    have h3 : Lib.index (c :: t) [a, b] = ((i + 1 : Nat) : Int) := by
      rw [hi, if_neg (by simp)]
      omega
    rw [Lib.count_hit (by simp) h3, Lib.count_hit (by simp) h2]
    have : (c :: t).drop (i + 1 + [a, b].length) = t.drop (i + [a, b].length) := by
      rw [show i + 1 + [a, b].length = (i + [a, b].length) + 1 from by omega]
      rfl
    rw [this]
theorem replaceK_cons {a b c : UInt8} {new t : List UInt8} (h : ([a, b] : List UInt8).isPrefixOf (c :: t) = false) (k : Nat) : Lib.replaceK [a, b] new k (c :: t) = c :: Lib.replaceK [a, b] new k t := by
  have hi := index_miss2 h
  have hg := Lib.index_ge t [a, b]
  cases k with
  | zero => rfl
  | succ k =>
    by_cases h1 : Lib.index t [a, b] = -1
    · rw [h1] at hi
      have h2 : Lib.index (c :: t) [a, b] = -1 := by simpa using hi
      rw [Lib.replaceK, if_pos (beq_iff_eq.2 h2), Lib.replaceK, if_pos (beq_iff_eq.2 h1)]
    · obtain ⟨i, h2⟩ : ∃ i : Nat, Lib.index t [a, b] = i := ⟨(Lib.index t [a, b]).toNat, by omega⟩
      rw [h2] at hi
      have h3 : Lib.index (c :: t) [a, b] = ((i + 1 : Nat) : Int) := by
        rw [hi, if_neg (by simp)]
        omega
      rw [Lib.replaceK_hit _ _ _ _ _ h3, Lib.replaceK_hit _ _ _ _ _ h2]
      have : (c :: t).drop (i + 1 + [a, b].length) = t.drop (i + [a, b].length) := by
        rw [show i + 1 + [a, b].length = (i + [a, b].length) + 1 from by omega]
        rfl
      rw [this]
      rfl
theorem count_two (a b : UInt8) (l : List UInt8) : Lib.count l [a, b] = cnt2 a b l := by
  induction l using cnt2.induct (a := a) (b := b) with
  | case1 => rfl
  | case2 c => rw [count_cons (by simp [List.isPrefixOf])]; rfl
  | case3 c d t h ih =>
    obtain ⟨rfl, rfl⟩ := h
    rw [cnt2_hit, Lib.count_hit (by simp) (index_hit2 c d t), ← ih]
    rfl
  | case4 c d t h ih => rw [cnt2, if_neg h, count_cons (pre_miss h t), ih]
theorem replaceK_two (a b : UInt8) (new l : List UInt8) : Lib.replaceK [a, b] new (cnt2 a b l) l = rep2 a b new l := by
  induction l using cnt2.induct (a := a) (b := b) with
  | case1 => rfl
  | case2 c => rfl
  | case3 c d t h ih =>
    obtain ⟨rfl, rfl⟩ := h
    rw [cnt2_hit, Nat.add_comm, Lib.replaceK_hit _ _ _ _ _ (index_hit2 c d t), rep2_hit, ← ih]
    rfl
  | case4 c d t h ih => rw [cnt2, if_neg h, rep2, if_neg h, replaceK_cons (pre_miss h t), ih]
theorem replaceAll_two (a b : UInt8) (new l : List UInt8) (h : ¬ [a, b] = new) : Lib.replaceAll l [a, b] new = rep2 a b new l := by
  unfold Lib.replaceAll Lib.replace
  rw [if_neg (by simpa using h)]
  have : Lib.replaceNum l [a, b] (-1) = cnt2 a b l := by
    unfold Lib.replaceNum
    rw [if_pos (Or.inl (by decide)), count_two]
  rw [this, replaceK_two]

/-- a part as it is read -/
def unP : List UInt8 → Option (List UInt8)
  | [] => some []
  | c :: t => if c = 126 then (match t with
      | d :: t => if d = 48 then (unP t).map (126 :: ·) else if d = 49 then (unP t).map (47 :: ·) else none
      | [] => none) else (unP t).map (c :: ·)
theorem unP_ne {c : UInt8} (h : c ≠ 126) (t : List UInt8) : unP (c :: t) = (unP t).map (c :: ·) := by
  cases t <;> simp [unP, h]
theorem unP_0 (t : List UInt8) : unP (126 :: 48 :: t) = (unP t).map (126 :: ·) := by simp [unP]
theorem unP_1 (t : List UInt8) : unP (126 :: 49 :: t) = (unP t).map (47 :: ·) := by simp [unP]
theorem unP_bad {d : UInt8} (h0 : d ≠ 48) (h1 : d ≠ 49) (t : List UInt8) : unP (126 :: d :: t) = none := by simp [unP, h0, h1]
def wB (w : List UInt8) : List UInt8 := rep2 126 49 [] (rep2 126 48 [] w)
def wV (w : List UInt8) : List UInt8 := rep2 126 48 [126] (rep2 126 49 [47] w)
theorem wBare_eq (w : List UInt8) : wBare w = wB w := by unfold wBare wB; rw [replaceAll_two _ _ _ _ (by decide), replaceAll_two _ _ _ _ (by decide)]
theorem wVal_eq (w : List UInt8) : wVal w = wV w := by unfold wVal wV; rw [replaceAll_two _ _ _ _ (by decide), replaceAll_two _ _ _ _ (by decide)]
theorem wB_0 (t : List UInt8) : wB (126 :: 48 :: t) = wB t := by unfold wB; rw [rep2_hit]; rfl
theorem wB_1 (t : List UInt8) : wB (126 :: 49 :: t) = wB t := by unfold wB; rw [rep2_miss (by decide), rep2_ne (c := 49) (by decide), rep2_hit]; rfl
theorem wB_ne {c : UInt8} (h : c ≠ 126) (t : List UInt8) : wB (c :: t) = c :: wB t := by unfold wB; rw [rep2_ne h, rep2_ne h]
theorem wV_0 (t : List UInt8) : wV (126 :: 48 :: t) = 126 :: wV t := by unfold wV; rw [rep2_miss (by decide), rep2_ne (c := 48) (by decide), rep2_hit]; rfl
theorem wV_1 (t : List UInt8) : wV (126 :: 49 :: t) = 47 :: wV t := by
  unfold wV
  rw [rep2_hit]
  exact rep2_ne (by decide) _
theorem wV_ne {c : UInt8} (h : c ≠ 126) (t : List UInt8) : wV (c :: t) = c :: wV t := by unfold wV; rw [rep2_ne h, rep2_ne h]

theorem parts_ind {P : List UInt8 → Prop} (h0 : P []) (h1 : ∀ t, P t → P (126 :: 48 :: t)) (h2 : ∀ t, P t → P (126 :: 49 :: t)) (h3 : ∀ c t, c ≠ 126 → P t → P (c :: t)) (h4 : ∀ d t, d ≠ 48 → d ≠ 49 → P (d :: t) → P (126 :: d :: t)) (h5 : P [126]) : ∀ l, P l := by
  have : ∀ (n : Nat) (l : List UInt8), l.length ≤ n → P l := by
    intro n
    induction n with
    | zero => intro l hl; obtain rfl := List.eq_nil_of_length_eq_zero (by omega : l.length = 0); exact h0
    | succ n ih =>
      intro l hl
      cases l with
      | nil => exact h0
      | cons c t =>
        by_cases hc : c = 126
        · subst hc
          cases t with
          | nil => exact h5
          | cons d t =>
            simp only [List.length_cons] at hl
            by_cases hd : d = 48
            · subst hd; exact h1 t (ih t (by omega))
            · by_cases hd1 : d = 49
              · subst hd1; exact h2 t (ih t (by omega))
              · exact h4 d t hd hd1 (ih _ (by simp only [List.length_cons]; omega))
        · exact h3 c t hc (ih t (by simp only [List.length_cons] at hl; omega))
  exact fun l => this l.length l (Nat.le_refl _)
/-- no more than there are; as many, where none is wrong -/
theorem cnt_le (l : List UInt8) : cnt2 126 48 l + cnt2 126 49 l ≤ l.count 126 ∧ (unP l = none → cnt2 126 48 l + cnt2 126 49 l < l.count 126) := by
  induction l using parts_ind with
  | h0 => simp [cnt2, unP]
  | h1 t ih => rw [cnt2_hit, cnt2_miss (by decide), cnt2_ne (c := 48) (by decide), List.count_cons_self, List.count_cons_of_ne (by decide), unP_0]; simp only [Option.map_eq_none_iff]; exact ⟨by omega, fun h => by have := ih.2 h; omega⟩
  | h2 t ih => rw [cnt2_miss (by decide), cnt2_ne (c := 49) (by decide), cnt2_hit, List.count_cons_self, List.count_cons_of_ne (by decide), unP_1]; simp only [Option.map_eq_none_iff]; exact ⟨by omega, fun h => by have := ih.2 h; omega⟩
  | h3 c t h ih => rw [cnt2_ne h, cnt2_ne h, List.count_cons_of_ne h, unP_ne h]; simp only [Option.map_eq_none_iff]; exact ih
  | h4 d t h0 h1 ih => rw [cnt2_miss h0, cnt2_miss h1, List.count_cons_self]; omega
  | h5 => decide
/-- where none is wrong -/
theorem unP_some (l : List UInt8) : ∀ v, unP l = some v → l.count 126 = cnt2 126 48 l + cnt2 126 49 l ∧ has 126 (wB l) = false ∧ wV l = v := by
  induction l using parts_ind with
  | h0 => intro v h; simp [unP] at h; subst h; decide
  | h1 t ih =>
    intro v h
    rw [unP_0] at h
    simp only [Option.map_eq_some_iff] at h
    obtain ⟨u, hu, rfl⟩ := h
    obtain ⟨a, b, c⟩ := ih u hu
    rw [cnt2_hit, cnt2_miss (by decide), cnt2_ne (c := 48) (by decide), List.count_cons_self, List.count_cons_of_ne (by decide), wB_0, wV_0, c]
    exact ⟨by omega, b, rfl⟩
  | h2 t ih =>
    intro v h
    rw [unP_1] at h
    simp only [Option.map_eq_some_iff] at h
    obtain ⟨u, hu, rfl⟩ := h
    obtain ⟨a, b, c⟩ := ih u hu
    rw [cnt2_miss (by decide), cnt2_ne (c := 49) (by decide), cnt2_hit, List.count_cons_self, List.count_cons_of_ne (by decide), wB_1, wV_1, c]
    exact ⟨by omega, b, rfl⟩
  | h3 c t h ih =>
    intro v hv
    rw [unP_ne h] at hv
    simp only [Option.map_eq_some_iff] at hv
    obtain ⟨u, hu, rfl⟩ := hv
    obtain ⟨a, b, d⟩ := ih u hu
    rw [cnt2_ne h, cnt2_ne h, List.count_cons_of_ne h, wB_ne h, wV_ne h, d]
    refine ⟨a, ?_, rfl⟩
    unfold has at b ⊢
    rw [contains_ne h]
    exact b
  | h4 d t h0 h1 ih => intro v h; rw [unP_bad h0 h1] at h; cases h
  | h5 => intro v h; simp [unP] at h
theorem unP_is (w : List UInt8) : unP w = if wOk w then some (wVal w) else none := by
  have hc := cnt_le w
  have hs := unP_some w
  unfold wOk
  rw [wVal_eq, wBare_eq, count_two, count_two]
  cases h : unP w with
  | none =>
    have := hc.2 h
    rw [if_neg]
    intro e
    rw [Bool.and_eq_true, beq_iff_eq] at e
    omega
  | some v =>
    obtain ⟨a, b, c⟩ := hs v h
    rw [a, b, c]
    simp
theorem wOk_iff (w : List UInt8) : wOk w = (unP w).isSome := by rw [unP_is]; split <;> simp [*]
theorem wVal_get {w : List UInt8} (h : wOk w = true) : unP w = some (wVal w) := by rw [unP_is, if_pos h]

/-- the parts of a text that begins with a stroke -/
def allP? : List (List UInt8) → Option (List (List UInt8))
  | [] => some []
  | w :: ws => match unP w with
    | some v => (allP? ws).map (v :: ·)
    | none => none
theorem allP?_is (ws : List (List UInt8)) : (if ws.all wOk then some (ws.map wVal) else none) = allP? ws := by
  induction ws with
  | nil => rfl
  | cons w ws ih =>
    rw [List.all_cons, wOk_iff]
    cases h : unP w with
    | none => simp [allP?, h]
    | some v =>
      have hv : wVal w = v := by
        have := wVal_get (w := w) (by rw [wOk_iff, h]; rfl)
        rw [h] at this
        exact (Option.some.inj this).symm
      rw [allP?, h, ← ih]
      simp only [Option.isSome_some, Bool.true_and, List.map_cons, hv]
      split <;> simp
theorem parseP_go (t : List UInt8) : parseP (47 :: t) = allP? (spl 47 (t.count 47) t) := by rw [parseP, if_pos rfl, allP?_is]

/-- a part, written, but for the stroke ahead -/
def inner (l : List UInt8) : List UInt8 := rep 47 [126, 49] (rep 126 [126, 48] l)
theorem inner_cons (c : UInt8) (l : List UInt8) : inner (c :: l) = (if c = 126 then [126, 48] else if c = 47 then [126, 49] else [c]) ++ inner l := by
  unfold inner
  have e : rep 126 [126, 48] (c :: l) = (if c = 126 then [126, 48] else [c]) ++ rep 126 [126, 48] l := rfl
  rw [e, rep_append]
  congr 1
  by_cases h1 : c = 126
  · rw [if_pos h1, if_pos h1]; rfl
  · rw [if_neg h1, if_neg h1]
    by_cases h2 : c = 47
    · rw [if_pos h2]; subst h2; rfl
    · rw [if_neg h2]; simp [rep, h2]
theorem escPart_eq (l : List UInt8) : escPart l = 47 :: inner l := rfl
theorem inner_no (l : List UInt8) : (47 : UInt8) ∉ inner l := by
  induction l with
  | nil => simp [inner, rep]
  | cons c l ih =>
    rw [inner_cons]
    intro h
    rcases List.mem_append.1 h with h | h
    · split at h
      · simp at h
      · split at h
        · simp at h
        · simp at h; simp_all
    · exact ih h
theorem unP_inner (l : List UInt8) : unP (inner l) = some l := by
  induction l with
  | nil => rfl
  | cons c l ih =>
    rw [inner_cons]
    by_cases h1 : c = 126
    · rw [if_pos h1]; show unP (126 :: 48 :: inner l) = _; rw [unP_0, ih, h1]; rfl
    · rw [if_neg h1]
      by_cases h2 : c = 47
      · rw [if_pos h2]; show unP (126 :: 49 :: inner l) = _; rw [unP_1, ih, h2]; rfl
      · rw [if_neg h2]; show unP (c :: inner l) = _; rw [unP_ne h1, ih]; rfl

theorem bef_app {c : UInt8} {y : List UInt8} (h : c ∉ y) (r : List UInt8) : bef c (y ++ c :: r) = y := by
  induction y with
  | nil => simp [bef]
  | cons b y ih =>
    have hb : b ≠ c := by rintro rfl; simp at h
    have hy : c ∉ y := fun hm => h (List.mem_cons_of_mem _ hm)
    have e : bef c (b :: (y ++ c :: r)) = b :: bef c (y ++ c :: r) := by simp [bef, hb]
    rw [List.cons_append, e, ih hy]
theorem aft_app {c : UInt8} {y : List UInt8} (h : c ∉ y) (r : List UInt8) : aft c (y ++ c :: r) = r := by
  induction y with
  | nil => simp [aft]
  | cons b y ih =>
    have hb : b ≠ c := by rintro rfl; simp at h
    have hy : c ∉ y := fun hm => h (List.mem_cons_of_mem _ hm)
    have e : aft c (b :: (y ++ c :: r)) = aft c (y ++ c :: r) := by simp [aft, List.dropWhile_cons, hb]
    rw [List.cons_append, e, ih hy]
theorem ptext_cons (x : List UInt8) (xs : List (List UInt8)) : ptext (x :: xs) = 47 :: (inner x ++ ptext xs) := by simp [ptext, escPart_eq]
theorem spl_ptext : ∀ (xs : List (List UInt8)) (x : List UInt8), spl 47 ((inner x ++ ptext xs).count 47) (inner x ++ ptext xs) = (x :: xs).map inner
  | [], x => by
    have h0 : (inner x).count 47 = 0 := List.count_eq_zero.2 (inner_no x)
    simp [ptext, h0, spl]
  | y :: ys, x => by
    have ih := spl_ptext ys y
    have h0 : (inner x).count 47 = 0 := List.count_eq_zero.2 (inner_no x)
    rw [ptext_cons, List.count_append, h0, Nat.zero_add, List.count_cons_self, spl, if_pos (by simp), bef_app (inner_no x), aft_app (inner_no x), ih]
    rfl
theorem allP?_inner (xs : List (List UInt8)) : allP? (xs.map inner) = some xs := by
  induction xs with
  | nil => rfl
  | cons x xs ih => rw [List.map_cons, allP?, unP_inner, ih]; rfl
/-- parts come back -/
theorem parse_text (xs : List (List UInt8)) : parseP (ptext xs) = some xs := by
  cases xs with
  | nil => rfl
  | cons x xs => rw [ptext_cons, parseP_go, spl_ptext, allP?_inner]
end Go.Proofs.YthicgeiljficbaaDoor

/- Plain: what is right is so all the way down; the pointers of a right tree are unlike each other, and each leads somewhere. -/
namespace Go.Proofs.YthicgeiljficbaaDoor
open Go.RowKit Go.Proofs.YthicgeiljficbaaDoor.Ref Go.Proofs.YthicgeiljficbaaDoorW.PrintWords Go.Proofs.YthicgeiljficbaaDoorW.PrintLast
set_option linter.unusedSimpArgs false
set_option linter.unusedVariables false
set_option linter.unnecessarySimpa false

/-- right all the way down: as many keys as values, keys unlike each other, no elements but in arrays and objects -/
inductive OkS : S28 → Prop
  | mk (x : S28) (h1 : x.f0 = 6 → x.f4.length = x.f3.length) (h2 : x.f0 = 6 → x.f4.Nodup) (h3 : x.f0 ≠ 5 → x.f0 ≠ 6 → x.f3 = []) (h4 : ∀ y, y ∈ x.f3 → OkS y) : OkS x
theorem OkS.ok {x : S28} (h : OkS x) : OkT x := by
  induction h with
  | mk x h1 h2 h3 h4 ih => exact .mk x h1 ih

/-- the keys from i on are unlike those before them -/
def Apart (x : S28) (i : Nat) : Prop := ∀ q, i ≤ q → q < x.f4.length → ∀ p, p < q → x.f4.getD p ByteArray.empty ≠ x.f4.getD q ByteArray.empty
theorem l2_true (x : S28) (hb : x.f3.length ≤ 1048576) (lev : Int) : ∀ k i : Nat, caliperref06_right.l2 k lev i x.f0 x.f1.f0 x.f1.f1 x.f1.f2 x.f2 x.f3 x.f4 = some true →
    ∀ j, i ≤ j → j < x.f3.length → ∃ k' lev', rightT k' (x.f3.getD j z28) lev' = some true := by
  intro k
  induction k with
  | zero => intro i h; simp [caliperref06_right.l2] at h
  | succ k ih =>
    intro i h j hij hj
    have hrd : rd_T28 x.f3 (i : Int) = x.f3.getD i z28 := by unfold rd_T28; rw [Int.toNat_natCast]
    rw [caliperref06_right.l2, if_pos (by omega), if_pos (by omega), hrd] at h
    obtain ⟨t, h1, h2⟩ := Option.bind_eq_some_iff.1 h
    cases t with
    | false => simp at h2
    | true =>
      rw [if_pos rfl, wrT1 i (by omega)] at h2
      by_cases e : j = i
      · subst e; exact ⟨k, _, h1⟩
      · exact ih (i + 1) h2 j (by omega) hj
theorem l01_true (x : S28) (hb : x.f4.length ≤ 1048576) (lev : Int) : ∀ k : Nat,
    (∀ i : Nat, caliperref06_right.l0 k lev i x.f0 x.f1.f0 x.f1.f1 x.f1.f2 x.f2 x.f3 x.f4 = some true → Apart x i ∧ ∃ k', caliperref06_right.l2 k' lev 0 x.f0 x.f1.f0 x.f1.f1 x.f1.f2 x.f2 x.f3 x.f4 = some true) ∧
    (∀ q p : Nat, q < x.f4.length → caliperref06_right.l1 k lev q p x.f0 x.f1.f0 x.f1.f1 x.f1.f2 x.f2 x.f3 x.f4 = some true →
      (∀ p', p ≤ p' → p' < q → x.f4.getD p' ByteArray.empty ≠ x.f4.getD q ByteArray.empty) ∧ Apart x (q + 1) ∧ ∃ k', caliperref06_right.l2 k' lev 0 x.f0 x.f1.f0 x.f1.f1 x.f1.f2 x.f2 x.f3 x.f4 = some true) := by
  intro k
  induction k with
  | zero => exact ⟨fun i h => by simp [caliperref06_right.l0] at h, fun q p _ h => by simp [caliperref06_right.l1] at h⟩
  | succ k ih =>
    refine ⟨fun i h => ?_, fun q p hq h => ?_⟩
    · by_cases hi : i < x.f4.length
      · rw [caliperref06_right.l0, if_pos (by omega), if_pos (by omega)] at h
        obtain ⟨t, h1, h2⟩ := Option.bind_eq_some_iff.1 h
        cases t with
        | false => simp at h2
        | true =>
          rw [if_pos rfl] at h2
          obtain ⟨g1, g2, g3⟩ := ih.2 i 0 hi h2
          refine ⟨fun q hq1 hq2 p hp => ?_, g3⟩
          by_cases e : q = i
          · subst e; exact g1 p (by omega) hp
          · exact g2 q (by omega) hq2 p hp
      · rw [caliperref06_right.l0, if_neg (by omega)] at h
        exact ⟨fun q hq1 hq2 => by omega, k, h⟩
    · by_cases hp : p < q
      · have e1 : rdOf ByteArray.empty x.f4 (p : Int) = x.f4.getD p ByteArray.empty := by simp [rdOf]
        have e2 : rdOf ByteArray.empty x.f4 (q : Int) = x.f4.getD q ByteArray.empty := by simp [rdOf]
        rw [caliperref06_right.l1, if_pos (by omega), if_pos (by omega), if_pos (by omega), if_pos (by omega), if_pos (by omega), e1, e2] at h
        split at h
        · simp at h
        · rename_i hne
          rw [wrT1 p (by omega)] at h
          obtain ⟨g1, g2, g3⟩ := ih.2 q (p + 1) hq h
          refine ⟨fun p' h1 h2 => ?_, g2, g3⟩
          by_cases e : p' = p
          · subst e; exact fun e => hne (by rw [e])
          · exact g1 p' (by omega) h2
      · rw [caliperref06_right.l1, if_neg (by omega), wrT1 q (by omega)] at h
        obtain ⟨g1, g2⟩ := ih.1 (q + 1) h
        exact ⟨fun p' h1 h2 => by omega, g1, g2⟩
theorem j1_true (x : S28) (lev : Int) (b : Bool) (k : Nat) (h : caliperref06_right.j1 k lev b x.f0 x.f1.f0 x.f1.f1 x.f1.f2 x.f2 x.f3 x.f4 = some true) :
    b = false ∧ ∃ k', caliperref06_right.l0 k' lev 0 x.f0 x.f1.f0 x.f1.f1 x.f1.f2 x.f2 x.f3 x.f4 = some true := by
  cases k with
  | zero => simp [caliperref06_right.j1] at h
  | succ k =>
    have j2 : ∀ b k, caliperref06_right.j2 k lev b x.f0 x.f1.f0 x.f1.f1 x.f1.f2 x.f2 x.f3 x.f4 = some true → ∃ k', caliperref06_right.l0 k' lev 0 x.f0 x.f1.f0 x.f1.f1 x.f1.f2 x.f2 x.f3 x.f4 = some true := by
      intro b k h
      cases k with
      | zero => simp [caliperref06_right.j2] at h
      | succ k =>
        rw [caliperref06_right.j2] at h
        split at h
        · simp at h
        · exact ⟨k, h⟩
    rw [caliperref06_right.j1] at h
    cases b with
    | true => simp at h
    | false =>
      refine ⟨rfl, ?_⟩
      rw [if_neg (by simp)] at h
      obtain ⟨t, h1, h2⟩ := Option.bind_eq_some_iff.1 h
      split at h2
      · obtain ⟨u, h3, h4⟩ := Option.bind_eq_some_iff.1 h2
        split at h4
        · split at h4
          · exact j2 _ _ h4
          · exact j2 _ _ h4
        · exact j2 _ _ h4
      · exact j2 _ _ h2
theorem j0_true (x : S28) (lev : Int) (b : Bool) (k : Nat) (h : caliperref06_right.j0 k lev b x.f0 x.f1.f0 x.f1.f1 x.f1.f2 x.f2 x.f3 x.f4 = some true) :
    b = false ∧ (x.f0 < 5 → x.f3 = []) ∧ (x.f0 = 6 → x.f4.length = x.f3.length) ∧ ∃ k', caliperref06_right.l0 k' lev 0 x.f0 x.f1.f0 x.f1.f1 x.f1.f2 x.f2 x.f3 x.f4 = some true := by
  cases k with
  | zero => simp [caliperref06_right.j0] at h
  | succ k =>
    rw [caliperref06_right.j0] at h
    cases b with
    | true => simp at h
    | false =>
      refine ⟨rfl, ?_⟩
      rw [if_neg (by simp)] at h
      by_cases h5 : x.f0 < 5
      · rw [if_pos h5] at h
        by_cases hl : (x.f3.length : Int) > 0
        · rw [if_pos hl] at h
          exact absurd (j1_true x lev _ k h).1 (by simp)
        · have he : x.f3 = [] := List.eq_nil_of_length_eq_zero (by omega)
          rw [if_neg hl, if_neg (by omega)] at h
          refine ⟨fun _ => he, fun h6 => by omega, ?_⟩
          split at h
          · exact (j1_true x lev _ k h).2
          · exact (j1_true x lev _ k h).2
      · rw [if_neg h5] at h
        by_cases h6 : x.f0 = 6
        · rw [if_pos h6] at h
          obtain ⟨g1, g2⟩ := j1_true x lev _ k h
          have := bne_eq_false_iff_eq.1 g1
          exact ⟨fun h => absurd h h5, fun _ => by omega, g2⟩
        · rw [if_neg h6] at h
          refine ⟨fun h => absurd h h5, fun h => absurd h h6, ?_⟩
          split at h
          · exact (j1_true x lev _ k h).2
          · exact (j1_true x lev _ k h).2
theorem f_true (x : S28) (lev : Int) (k : Nat) (h : rightT k x lev = some true) : 0 ≤ x.f0 ∧ x.f0 ≤ 6 ∧ (x.f0 < 5 → x.f3 = []) ∧ (x.f0 = 6 → x.f4.length = x.f3.length) ∧ ∃ k', caliperref06_right.l0 k' lev 0 x.f0 x.f1.f0 x.f1.f1 x.f1.f2 x.f2 x.f3 x.f4 = some true := by
  unfold rightT at h
  cases k with
  | zero => simp [caliperref06_right.f] at h
  | succ k =>
    rw [caliperref06_right.f] at h
    by_cases h0 : x.f0 < 0
    · rw [if_pos h0] at h
      exact absurd (j0_true x lev _ k h).1 (by simp)
    · rw [if_neg h0] at h
      by_cases h6 : x.f0 > 6
      · rw [if_pos h6] at h
        exact absurd (j0_true x lev _ k h).1 (by simp)
      · rw [if_neg h6] at h
        refine ⟨by omega, by omega, ?_⟩
        repeat' split at h
        all_goals exact (j0_true x lev _ k h).2
theorem right_true (x : S28) (ht : Tree x) : bulkT x ≤ 1048576 → ∀ k lev, rightT k x lev = some true → OkS x := by
  induction ht with
  | mk x h ih =>
    intro hb k lev hr
    have hbx := hb
    rw [bulkT_eq] at hbx
    have hl := bulkL_len x.f3
    have hkl := keys_len x.f4
    obtain ⟨g0, g6, g1, g2, k1, g3⟩ := f_true x lev k hr
    obtain ⟨a1, k2, a2⟩ := (l01_true x (by omega) lev k1).1 0 g3
    have a3 := l2_true x (by omega) lev k2 0 a2
    refine .mk x g2 (fun _ => ?_) (fun h5 h6 => g1 (by omega)) fun y hy => ?_
    · rw [List.Nodup, List.pairwise_iff_getElem]
      intro i j hi hj hij e
      refine a1 j (Nat.zero_le _) hj i hij ?_
      simpa [List.getD, hi, hj] using e
    · obtain ⟨j, hj, rfl⟩ := List.getElem_of_mem hy
      obtain ⟨k3, lev3, h3⟩ := a3 j (Nat.zero_le _) hj
      have e : x.f3.getD j z28 = x.f3[j] := by simp [List.getD, hj]
      rw [e] at h3
      have := bulk_mem hy
      exact ih _ hy (by omega) k3 lev3 h3

/-! ### Rows of parts -/
mutual
def allQ : S28 → List (List (List UInt8))
  | ⟨k, _, _, l, ks⟩ => [] :: allQL k ks 0 l
def allQL (k : Int) (ks : List ByteArray) (i : Nat) : List S28 → List (List (List UInt8))
  | [] => []
  | y :: ys => (allQ y).map (nameP k ks i :: ·) ++ allQL k ks (i + 1) ys
end
theorem allQ_eq (x : S28) : allQ x = [] :: allQL x.f0 x.f4 0 x.f3 := by cases x; rw [allQ]
theorem all_parts (x : S28) (ht : Tree x) : ∀ a, allP a x = (allQ x).map fun ps => a ++ ptext ps := by
  induction ht with
  | mk x h ih =>
    intro a
    rw [allP_eq, allQ_eq, List.map_cons]
    have e0 : a ++ ptext [] = a := by simp [ptext]
    rw [e0]
    congr 1
    have : ∀ (l : List S28) (i : Nat), (∀ y ∈ l, ∀ a, allP a y = (allQ y).map fun ps => a ++ ptext ps) → allL a x.f0 x.f4 i l = (allQL x.f0 x.f4 i l).map fun ps => a ++ ptext ps := by
      intro l
      induction l with
      | nil => intro i _; rw [allL, allQL]; rfl
      | cons z l ihl =>
        intro i hl
        rw [allL, allQL, List.map_append, hl z (by simp), ihl (i + 1) fun y hy => hl y (by simp [hy]), List.map_map]
        congr 1
        refine List.map_congr_left fun ps _ => ?_
        simp [ptext]
    exact this x.f3 0 ih
theorem allQL_mem {ps : List (List UInt8)} {k : Int} {ks : List ByteArray} : ∀ (l : List S28) (i : Nat), ps ∈ allQL k ks i l → ∃ j, j < l.length ∧ ∃ qs, qs ∈ allQ (l.getD j z28) ∧ ps = nameP k ks (i + j) :: qs
  | [], i, h => by rw [allQL] at h; cases h
  | y :: ys, i, h => by
    rw [allQL] at h
    rcases List.mem_append.1 h with h | h
    · obtain ⟨qs, h1, h2⟩ := List.mem_map.1 h
      exact ⟨0, by simp, qs, by simpa using h1, h2.symm⟩
    · obtain ⟨j, hj, qs, h1, h2⟩ := allQL_mem ys (i + 1) h
      refine ⟨j + 1, by simpa using hj, qs, by simpa using h1, ?_⟩
      rw [h2]
      congr 2
      omega
theorem step_name {x : S28} (hx : OkS x) (hl : x.f3.length ≤ 1048576) {j : Nat} (hj : j < x.f3.length) : stepV x (nameP x.f0 x.f4 j) = some (x.f3.getD j z28) := by
  cases hx with
  | mk _ h1 h2 h3 h4 =>
    unfold stepV
    by_cases h6 : x.f0 = 6
    · rw [if_pos h6]
      have hlen := h1 h6
      have hnd := h2 h6
      rw [List.Nodup, List.pairwise_iff_getElem] at hnd
      have hi : Lib.idxOfS x.f4 (x.f4.getD j ByteArray.empty) = (j : Int) := by
        have := Lib.idxOfS_hit x.f4 x.f4.length j (x.f4.getD j ByteArray.empty) (by omega) (Nat.le_refl _) rfl fun p hp => by
          have := hnd p j (by omega) (by omega) hp
          simpa [List.getD, (by omega : p < x.f4.length), (by omega : j < x.f4.length)] using this
        rwa [List.take_length] at this
      unfold nameP
      rw [if_pos h6, str_self]
      unfold getV
      rw [hi, if_pos (by omega), Int.toNat_natCast]
    · rw [if_neg h6]
      by_cases h5 : x.f0 = 5
      · rw [if_pos h5]
        have hn : nameP x.f0 x.f4 j = Lib.itoa (j : Int) := by unfold nameP; rw [if_neg h6]
        exact arr_some hj (by omega) hn.symm
      · exfalso
        rw [h3 h5 h6] at hj
        simp at hj
theorem name_inj {x : S28} (hx : OkS x) (hl : x.f3.length ≤ 1048576) {i j : Nat} (hi : i < x.f3.length) (hj : j < x.f3.length) (h : nameP x.f0 x.f4 i = nameP x.f0 x.f4 j) : i = j := by
  cases hx with
  | mk _ h1 h2 h3 h4 =>
    by_cases h6 : x.f0 = 6
    · have hlen := h1 h6
      have hnd := h2 h6
      rw [List.Nodup, List.pairwise_iff_getElem] at hnd
      unfold nameP at h
      rw [if_pos h6, if_pos h6] at h
      have e : x.f4.getD i ByteArray.empty = x.f4.getD j ByteArray.empty := by rw [← str_self (x.f4.getD i ByteArray.empty), ← str_self (x.f4.getD j ByteArray.empty), h]
      have e' : x.f4[i]'(by omega) = x.f4[j]'(by omega) := by simpa [List.getD, (by omega : i < x.f4.length), (by omega : j < x.f4.length)] using e
      rcases Nat.lt_trichotomy i j with hij | hij | hij
      · exact absurd e' (hnd i j (by omega) (by omega) hij)
      · exact hij
      · exact absurd e'.symm (hnd j i (by omega) (by omega) hij)
    · unfold nameP at h
      rw [if_neg h6, if_neg h6] at h
      exact itoa_inj (by omega) (by omega) h
theorem all_walk (x : S28) (ht : OkS x) : bulkT x ≤ 1048576 → ∀ ps, ps ∈ allQ x → ∃ y, walkV x ps = some y := by
  induction ht with
  | mk x h1 h2 h3 h4 ih =>
    intro hb ps hp
    have hbx := hb
    rw [bulkT_eq] at hbx
    have hl := bulkL_len x.f3
    rw [allQ_eq] at hp
    rcases List.mem_cons.1 hp with rfl | hp
    · exact ⟨x, rfl⟩
    · obtain ⟨j, hj, qs, hq, rfl⟩ := allQL_mem x.f3 0 hp
      rw [Nat.zero_add]
      have hmem : x.f3.getD j z28 ∈ x.f3 := by simp [List.getD, hj]
      have hbm := bulk_mem hmem
      rw [walkV, step_name (.mk x h1 h2 h3 h4) (by omega) hj]
      exact ih _ hmem (by omega) qs hq
theorem all_nodup (x : S28) (ht : OkS x) : bulkT x ≤ 1048576 → (allQ x).Nodup := by
  induction ht with
  | mk x h1 h2 h3 h4 ih =>
    intro hb
    have hbx := hb
    rw [bulkT_eq] at hbx
    have hlx := bulkL_len x.f3
    rw [allQ_eq, List.nodup_cons]
    refine ⟨fun hm => ?_, ?_⟩
    · obtain ⟨j, hj, qs, hq, he⟩ := allQL_mem x.f3 0 hm
      cases he
    · have : ∀ (l : List S28) (i : Nat), i + l.length = x.f3.length → (∀ y ∈ l, (allQ y).Nodup) → (allQL x.f0 x.f4 i l).Nodup := by
        intro l
        induction l with
        | nil => intro i _ _; rw [allQL]; exact List.nodup_nil
        | cons z l ihl =>
          intro i hi hl
          rw [List.length_cons] at hi
          rw [allQL, List.nodup_append]
          refine ⟨?_, ihl (i + 1) (by omega) fun y hy => hl y (by simp [hy]), ?_⟩
          · have hz := hl z (by simp)
            rw [List.Nodup, List.pairwise_map]
            exact List.Pairwise.imp (fun hne e => hne (List.cons.inj e).2) hz
          · intro p hp q hq e
            obtain ⟨ps, _, rfl⟩ := List.mem_map.1 hp
            obtain ⟨j, hj, qs, _, rfl⟩ := allQL_mem l (i + 1) hq
            have := name_inj (.mk x h1 h2 h3 h4) (by omega) (i := i) (j := i + 1 + j) (by omega) (by omega) (List.cons.inj e).1
            omega
      refine this x.f3 0 (by omega) fun y hy => ?_
      have := bulk_mem hy
      exact ih y hy (by omega)
/-- no pointer twice -/
theorem allP_apart (x : S28) (ht : OkS x) (hb : bulkT x ≤ 1048576) {i j : Nat} (hi : i < (allP [] x).length) (hj : j < (allP [] x).length) (hij : i < j) : (allP [] x)[i] ≠ (allP [] x)[j] := by
  have hn := all_nodup x ht hb
  have he := all_parts x (tree x) []
  have : (allP [] x).Pairwise (· ≠ ·) := by
    rw [he, List.pairwise_map]
    refine List.Pairwise.imp (fun {a b} hne e => hne ?_) hn
    have e1 := parse_text a
    simp only [List.nil_append] at e
    rw [e, parse_text b] at e1
    injection e1 with e1
    exact e1.symm
  exact List.pairwise_iff_getElem.1 this i j hi hj hij
/-- each leads somewhere, the first to the whole -/
theorem allP_find (x : S28) (ht : OkS x) (hb : bulkT x ≤ 1048576) {i : Nat} (hi : i < (allP [] x).length) : ∃ y, findV x (allP [] x)[i] = (some y, 0) ∧ (i = 0 → y = x) := by
  have hm : (allP [] x)[i] ∈ allP [] x := List.getElem_mem hi
  have he := all_parts x (tree x) []
  by_cases h0 : i = 0
  · subst h0
    have e : (allP [] x)[0] = [] := by
      have : allP [] x = [] :: allL [] x.f0 x.f4 0 x.f3 := allP_eq [] x
      simp only [this]
      rfl
    rw [e]
    exact ⟨x, rfl, fun _ => rfl⟩
  · obtain ⟨q, hq⟩ : ∃ q, (allP [] x)[i] = q := ⟨_, rfl⟩
    rw [hq] at hm ⊢
    rw [he] at hm
    obtain ⟨ps, h1, h2⟩ := List.mem_map.1 hm
    obtain ⟨y, hy⟩ := all_walk x ht hb ps h1
    refine ⟨y, ?_, fun h => absurd h h0⟩
    rw [← h2, List.nil_append]
    unfold findV
    rw [parse_text]
    simp only
    rw [hy]
end Go.Proofs.YthicgeiljficbaaDoor

/- caliperref07.Parse, Part, Text are pointer's laws. -/
namespace Go.Proofs.YthicgeiljficbaaDoor
open Go.RowKit Go.Proofs.YthicgeiljficbaaDoor.Ref Go.Proofs.YthicgeiljficbaaDoorW.PrintWords Go.Proofs.YthicgeiljficbaaDoorW.PrintLast
set_option linter.unusedSimpArgs false
set_option linter.unusedVariables false
set_option linter.unnecessarySimpa false

end Go.Proofs.YthicgeiljficbaaDoor

/- caliperref07.Part, Text; the reference's contracts in pointer's words. -/
namespace Go.Proofs.YthicgeiljficbaaDoor
open Go.RowKit Go.Proofs.YthicgeiljficbaaDoor.Ref Go.Proofs.YthicgeiljficbaaDoorW.PrintWords Go.Proofs.YthicgeiljficbaaDoorW.PrintLast
set_option linter.unusedSimpArgs false
set_option linter.unusedVariables false
set_option linter.unnecessarySimpa false

theorem inner_len (l : List UInt8) : (inner l).length ≤ 2 * l.length := by
  induction l with
  | nil => simp [inner, rep]
  | cons c l ih =>
    rw [inner_cons, List.length_append, List.length_cons]
    split
    · simp; omega
    · split
      · simp; omega
      · simp; omega
theorem Txts.C {W : World} {v : Value} {xs : List (List UInt8)} (h : Txts W v xs) (hn : xs.length ≤ 1048576) : ∃ A c, v = .slice A (xs.map str).length c ∧ Kd.C Kd.string W A (xs.map str).length (xs.map str) := by
  obtain ⟨A, c, rfl, hc⟩ := h.form
  refine ⟨A, c, by rw [List.length_map], rfl, by rw [List.length_map]; omega, fun h0 => ?_⟩
  rw [List.length_map] at h0
  obtain ⟨b, off, rfl, hlt, hcell⟩ := hc h0
  refine ⟨_, rfl, fun j p hj => ⟨[.string p], rfl, rfl, fun i u hu => ?_⟩⟩
  have hjl : j < xs.length := by
    have := (List.getElem?_eq_some_iff.1 hj).1
    rw [List.length_map] at this
    exact this
  obtain rfl : i = 0 := by
    have := (List.getElem?_eq_some_iff.1 hu).1
    simp at this
    exact this
  have hp : p = str xs[j] := by
    simp [hjl] at hj
    exact hj.symm
  have e : (⟨b, off, none⟩ : Addr).add (j * 1 + 0) = ⟨b, off + j, none⟩ := by
    rw [Nat.mul_one, Nat.add_zero]
    cases j <;> simp [Addr.add]
  have e2 : (Kd.string).sz = 1 := rfl
  rw [e2, e, hcell j hjl, ← hp]
  simpa using hu

end Go.Proofs.YthicgeiljficbaaDoor

/- caliperref06.Get, caliperref07.Find: walked by hand. -/
namespace Go.Proofs.YthicgeiljficbaaDoor
open Go.RowKit Go.Proofs.YthicgeiljficbaaDoor.Ref Go.Proofs.YthicgeiljficbaaDoorW.PrintWords Go.Proofs.YthicgeiljficbaaDoorW.PrintLast
set_option linter.unusedSimpArgs false
set_option linter.unusedVariables false
set_option linter.unnecessarySimpa false
attribute [local go_sem] vcs

theorem Blk.store7' {W : World} {b : Nat} {cs : List Value} {T : TypeId} (h : Blk W b cs T) {k : Nat} (hk : b ≠ k) (v0 v1 v2 v3 v4 v5 v6 : Value) :
    Blk (((((((W.setCell ⟨k, 0, none⟩ v0).setCell ⟨k, 1, none⟩ v1).setCell ⟨k, 2, none⟩ v2).setCell ⟨k, 3, none⟩ v3).setCell ⟨k, 4, none⟩ v4).setCell ⟨k, 5, none⟩ v5).setCell ⟨k, 6, none⟩ v6) b cs T :=
  ((((((h.other v0 hk).other v1 hk).other v2 hk).other v3 hk).other v4 hk).other v5 hk).other v6 hk
theorem Blk.set7' {W : World} {b : Nat} {x0 x1 x2 x3 x4 x5 x6 : Value} {T : TypeId} (h : Blk W b [x0, x1, x2, x3, x4, x5, x6] T) (v0 v1 v2 v3 v4 v5 v6 : Value) :
    Blk (((((((W.setCell ⟨b, 0, none⟩ v0).setCell ⟨b, 1, none⟩ v1).setCell ⟨b, 2, none⟩ v2).setCell ⟨b, 3, none⟩ v3).setCell ⟨b, 4, none⟩ v4).setCell ⟨b, 5, none⟩ v5).setCell ⟨b, 6, none⟩ v6) b [v0, v1, v2, v3, v4, v5, v6] T :=
  ((((((h.set 0 v0).set 1 v1).set 2 v2).set 3 v3).set 4 v4).set 5 v5).set 6 v6
theorem below_store7' {B : Nat} {w W : World} (h : Below B w W) {k : Nat} (hk : B ≤ k) (v0 v1 v2 v3 v4 v5 v6 : Value) :
    Below B w (((((((W.setCell ⟨k, 0, none⟩ v0).setCell ⟨k, 1, none⟩ v1).setCell ⟨k, 2, none⟩ v2).setCell ⟨k, 3, none⟩ v3).setCell ⟨k, 4, none⟩ v4).setCell ⟨k, 5, none⟩ v5).setCell ⟨k, 6, none⟩ v6) :=
  ((((((h.setCell hk v0).setCell hk v1).setCell hk v2).setCell hk v3).setCell hk v4).setCell hk v5).setCell hk v6
theorem cell_store7' {W : World} {b o : Nat} {u : Option Value} (h : W.cell? ⟨b, o, none⟩ = u) {k : Nat} (hk : b ≠ k) (v0 v1 v2 v3 v4 v5 v6 : Value) :
    (((((((W.setCell ⟨k, 0, none⟩ v0).setCell ⟨k, 1, none⟩ v1).setCell ⟨k, 2, none⟩ v2).setCell ⟨k, 3, none⟩ v3).setCell ⟨k, 4, none⟩ v4).setCell ⟨k, 5, none⟩ v5).setCell ⟨k, 6, none⟩ v6).cell? ⟨b, o, none⟩ = u := by
  rw [cell_aside _ _ _ _ _ hk, cell_aside _ _ _ _ _ hk, cell_aside _ _ _ _ _ hk, cell_aside _ _ _ _ _ hk, cell_aside _ _ _ _ _ hk, cell_aside _ _ _ _ _ hk, cell_aside _ _ _ _ _ hk]
  exact h
theorem held8 {W : World} {b off B : Nat} {p x0 x1 x2 x3 x4 x5 x6 : Value} {T : TypeId} (c : W.cell? ⟨b, off, none⟩ = some p) (y : Blk W B [x0, x1, x2, x3, x4, x5, x6] T) :
    W.cell? ⟨b, off, none⟩ = some p ∧ W.cell? ⟨B, 0, none⟩ = some x0 ∧ W.cell? ⟨B, 1, none⟩ = some x1 ∧ W.cell? ⟨B, 2, none⟩ = some x2 ∧ W.cell? ⟨B, 3, none⟩ = some x3 ∧ W.cell? ⟨B, 4, none⟩ = some x4 ∧ W.cell? ⟨B, 5, none⟩ = some x5 ∧ W.cell? ⟨B, 6, none⟩ = some x6 := ⟨c, y.seven.1⟩
theorem cell_drew {W : World} {a : Addr} {u : Option Value} (h : W.cell? a = u) : W.drew.cell? a = u := h

end Go.Proofs.YthicgeiljficbaaDoor

