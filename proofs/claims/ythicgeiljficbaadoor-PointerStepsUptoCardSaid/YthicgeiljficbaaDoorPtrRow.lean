/- What the rows of caliperlaw07 share: the variables that they list, a world that holds them; slices of texts among the arguments, opened. -/
import Derived.Test.YthicgeiljficbaaDoorRows
import Derived.Test.YthicgeiljficbaaDoorPtrM
import Derived.Test.YthicgeiljficbaaDoorPost
import Derived.WalkKit
import Derived.ProofKit
import Derived.OpenShut
import Derived.Deep.DeepHandedRow
import Derived.Deep.DeepWitnessRowRef
import Derived.Deep.Strs
import Derived.Lib.LaidTab
import Derived.Lib.LaidIn
import Derived.Lib.LaidU8
import Derived.Shelf.Vars
namespace Go.Proofs.YthicgeiljficbaaDoor
open Go.ChangeShapes Go.WideShapes Go.ChangeAt Go.RowKit Go.Deep
set_option linter.unusedVariables false
set_option linter.unusedSimpArgs false

theorem own : ownKnob Tryd.prog.godebug = none := by kernel_rfl
theorem laidOut : laidOutB Tryd.prog = true := by kernel_rfl
theorem cells_str : Tryd.prog.cellsOf 9 = 1 := by kernel_rfl
theorem cells_u64 : Tryd.prog.cellsOf 78 = 1 := by kernel_rfl

/-- an error variable's cell -/
theorem cell_of_err {W : World} {n : String} {d : DataW Unit} {g : Nat} (hg : Tryd.prog.globalNamed n = some g) (ht : (Tryd.prog.globals[g]?).map (·.type) = some 74)
    (h : Lib.VarReads Tryd.prog W n (.iface "*errors.errorString" d)) : ∃ ev, W.cell? ⟨g, 0, none⟩ = some ev ∧ (ev = .nilIface ∨ ∃ te pe, ev = .iface te pe) := by
  obtain ⟨g', t, cs, fuel, p, hg', ht', hv, hd⟩ := h
  obtain rfl : g = g' := Option.some.inj (hg.symm.trans hg')
  obtain rfl : 74 = t := Option.some.inj (ht.symm.trans ht')
  obtain ⟨_, u, v, hcs, _, _⟩ := iface_of_trod Tryd.underlying74 hd
  refine ⟨.iface u v, ?_, .inr ⟨u, v, rfl⟩⟩
  have hc : cs = #[.iface u v] := by rw [← Array.toList_inj]; exact hcs
  have := World.var?_cell hg (hc ▸ hv) 0
  simpa using this

/-- the list of every row here -/
def laidL : List (String × DataW Unit) := Rows.pointerBackUptoRow.laid
theorem glob_syn : Tryd.prog.globalNamed "strconv.ErrSyntax" = some 1 := by kernel_rfl
theorem glob_ran : Tryd.prog.globalNamed "strconv.ErrRange" = some 2 := by kernel_rfl
theorem type_syn : (Tryd.prog.globals[1]?).map (·.type) = some 74 := by kernel_rfl
theorem type_ran : (Tryd.prog.globals[2]?).map (·.type) = some 74 := by kernel_rfl
theorem type_pow : (Tryd.prog.globals[3]?).map (·.type) = some 120 := by kernel_rfl
theorem cells_pow : Tryd.prog.cellsOf 120 = 20 := by kernel_rfl
theorem pow_eq : (Rows.laid_internal_strconv_uint64pow10 : DataW Unit) = Lib.tabData .u64 Lib.pow10Tab := by kernel_rfl

/-- what the walks need of a world in which a row's call begins -/
theorem env_of {W : World} (hL : laidMetH Tryd.prog laidL W) (hS : W.ShapedOpen Tryd.prog) : EnvV W := by
  have hM : laidMet Tryd.prog laidL W := hL
  have hsyn := cell_of_err glob_syn type_syn (Lib.laidMet.reads hM (.tail _ (.tail _ (.tail _ (.tail _ (.tail _ (.head _)))))))
  have hran := cell_of_err glob_ran type_ran (Lib.laidMet.reads hM (.tail _ (.tail _ (.tail _ (.tail _ (.head _))))))
  have hmax := Go.Proofs.cell_of_shapedOpen_int (g := 0) (zero := #[.int .i64 0]) (t := 3) hS (of_decide_eq_true (by kernel_rfl)) (by kernel_rfl) rfl (by kernel_rfl) (by kernel_rfl) Tryd.underlying3
  have hsz : 8 ≤ W.heap.size := by
    have hz : ∃ zero t, ((begin Tryd.prog (fun _ _ => 0) default).world.heap[7]?).bind Obj.row? = some (zero, t) := by
      have : (((begin Tryd.prog (fun _ _ => 0) default).world.heap[7]?).bind Obj.row?).isSome = true := by kernel_rfl
      obtain ⟨x, hx⟩ := Option.isSome_iff_exists.1 this
      exact ⟨x.1, x.2, hx⟩
    obtain ⟨zero, t, hz⟩ := hz
    obtain ⟨cs, h, _⟩ := hS.1 7 zero t (of_decide_eq_true (by kernel_rfl)) hz
    have := (Array.getElem?_eq_some_iff.1 h).1
    omega
  have hpow : Lib.TabIs Tryd.prog W "internal/strconv.uint64pow10" .u64 Lib.pow10Tab := by
    obtain ⟨g', t', cs, fuel, p, hg', ht', hvar, hd⟩ := Lib.laidMet.reads hM (n := "internal/strconv.uint64pow10") (d := Rows.laid_internal_strconv_uint64pow10) (.tail _ (.tail _ (.head _)))
    obtain rfl : 3 = g' := Option.some.inj (glob_pow.symm.trans hg')
    obtain rfl : 120 = t' := Option.some.inj (type_pow.symm.trans ht')
    rw [pow_eq] at hd
    unfold Lib.TabIs
    rw [hvar, ← Lib.cells_of_tab Tryd.underlying120 Tryd.underlying78 cells_u64 cells_pow hd]
  exact ⟨hsz, ⟨by omega, hmax⟩, hsyn, hran, hpow⟩

/-- a world for the witnesses -/
noncomputable def laidWorld (os : Os) : World :=
  let N := (World.settled Tryd.prog os).heap.size
  let w0 := World.holding Tryd.prog os ⟨#[.cells #[.string ⟨#[118, 97, 108, 117, 101, 32, 111, 117, 116, 32, 111, 102, 32, 114, 97, 110, 103, 101]⟩] 134, .cells #[.string ⟨#[105, 110, 118, 97, 108, 105, 100, 32, 115, 121, 110, 116, 97, 120]⟩] 134], #[], []⟩
  let put (h : Array Obj) (g : Nat) (cs : Array Value) : Array Obj := h.modify g fun
    | .cells _ t frozen => .cells cs t frozen
    | o => o
  let h1 := put w0.heap 6 #[.int .u8 0, .int .u8 1, .int .u8 28, .int .u8 2, .int .u8 29, .int .u8 14, .int .u8 24, .int .u8 3, .int .u8 30, .int .u8 22, .int .u8 20, .int .u8 15, .int .u8 25, .int .u8 17, .int .u8 4, .int .u8 8, .int .u8 31, .int .u8 27, .int .u8 13, .int .u8 23, .int .u8 21, .int .u8 19, .int .u8 16, .int .u8 7, .int .u8 26, .int .u8 12, .int .u8 18, .int .u8 6, .int .u8 11, .int .u8 5, .int .u8 10, .int .u8 9]
  let h2 := put h1 7 #[.int .u8 0, .int .u8 1, .int .u8 56, .int .u8 2, .int .u8 57, .int .u8 49, .int .u8 28, .int .u8 3, .int .u8 61, .int .u8 58, .int .u8 42, .int .u8 50, .int .u8 38, .int .u8 29, .int .u8 17, .int .u8 4, .int .u8 62, .int .u8 47, .int .u8 59, .int .u8 36, .int .u8 45, .int .u8 43, .int .u8 51, .int .u8 22, .int .u8 53, .int .u8 39, .int .u8 33, .int .u8 30, .int .u8 24, .int .u8 18, .int .u8 12, .int .u8 5, .int .u8 63, .int .u8 55, .int .u8 48, .int .u8 27, .int .u8 60, .int .u8 41, .int .u8 37, .int .u8 16, .int .u8 46, .int .u8 35, .int .u8 44, .int .u8 21, .int .u8 52, .int .u8 32, .int .u8 23, .int .u8 11, .int .u8 54, .int .u8 26, .int .u8 40, .int .u8 15, .int .u8 34, .int .u8 20, .int .u8 31, .int .u8 10, .int .u8 25, .int .u8 14, .int .u8 19, .int .u8 9, .int .u8 13, .int .u8 8, .int .u8 7, .int .u8 6]
  let h3 := put h2 3 #[.int .u64 1, .int .u64 10, .int .u64 100, .int .u64 1000, .int .u64 10000, .int .u64 100000, .int .u64 1000000, .int .u64 10000000, .int .u64 100000000, .int .u64 1000000000, .int .u64 10000000000, .int .u64 100000000000, .int .u64 1000000000000, .int .u64 10000000000000, .int .u64 100000000000000, .int .u64 1000000000000000, .int .u64 10000000000000000, .int .u64 100000000000000000, .int .u64 1000000000000000000, .int .u64 10000000000000000000]
  let h4 := put h3 5 #[.int .u8 128, .int .u8 191, .int .u8 160, .int .u8 191, .int .u8 128, .int .u8 159, .int .u8 144, .int .u8 191, .int .u8 128, .int .u8 143, .int .u8 0, .int .u8 0, .int .u8 0, .int .u8 0, .int .u8 0, .int .u8 0, .int .u8 0, .int .u8 0, .int .u8 0, .int .u8 0, .int .u8 0, .int .u8 0, .int .u8 0, .int .u8 0, .int .u8 0, .int .u8 0, .int .u8 0, .int .u8 0, .int .u8 0, .int .u8 0, .int .u8 0, .int .u8 0]
  let h5 := put h4 2 #[.iface 132 (.pointer (some ⟨N, 0, none⟩))]
  let h6 := put h5 1 #[.iface 132 (.pointer (some ⟨N + 1, 0, none⟩))]
  let h7 := put h6 4 (Lib.firstTab.map fun z => Value.int .u8 z).toArray
  { w0 with heap := h7 }
set_option maxRecDepth 1000000 in
theorem laid_met (os : Os) (args : Array Value) : laidMet Tryd.prog laidL ((laidWorld os).forCall (fun _ _ => 0) ⟨#[], args, []⟩).memory :=
  laidMet_of_run' 8 (by kernel_rfl) (by kernel_rfl)

/-! ### Bulk -/
theorem one_le {H : Type} (d : DataW H) : 1 ≤ Rows.uptoBulk d := by
  cases d with
  | lit l => cases l <;> simp [Rows.uptoBulk]
  | nil => simp [Rows.uptoBulk]
  | ptr d => simp [Rows.uptoBulk]
  | slice elems spare => simp [Rows.uptoBulk]
  | agg parts => simp [Rows.uptoBulk]
  | iface t d => simp [Rows.uptoBulk]
  | map entries => simp [Rows.uptoBulk]
  | held h => simp [Rows.uptoBulk]
theorem bulk_strs {H : Type} (xs : List (List UInt8)) : Rows.uptoBulkAll (xs.map fun l => (DataW.lit (.string l) : DataW H)) = xs.length + xs.flatten.length := by
  induction xs with
  | nil => rfl
  | cons x xs ih => simp only [List.map_cons, Rows.uptoBulkAll, Rows.uptoBulk, ih, List.length_cons, List.flatten_cons, List.length_append]; omega

/-- a slice of texts among the arguments -/
theorem txts_of {H : Type} {enc : TypeId × Value → H} {W : World} {base : Nat} {held : Bool} {fuel : Nat} {v : Value} {d : DataW H} {p : List MemPlace}
    (h : DataW.trod enc Tryd.prog W base (fun _ => true) held fuel 26 [v] = some (d, p)) : ∃ xs, Txts W v xs ∧ xs.length + xs.flatten.length + 1 ≤ Rows.uptoBulk d := by
  rcases open_strs Tryd.underlying26 Tryd.underlying9 cells_str h with ⟨hc, hx⟩ | ⟨a, len, cap, m, Sx, hc, hb, hl, hm, hmm, hx, hcell⟩
  · cases hc
    cases hx
    exact ⟨[], .inl ⟨rfl, _, _, rfl⟩, by simp [Rows.uptoBulk]⟩
  · cases hc
    cases hx
    rw [if_pos rfl] at hmm
    subst hmm
    have e : (List.range len).map (fun i => (DataW.lit (.string (Sx i).data.toList) : DataW H)) = ((List.range len).map fun i => (Sx i).data.toList).map fun l => .lit (.string l) := by simp [Function.comp_def]
    refine ⟨(List.range len).map fun i => (Sx i).data.toList, ?_, ?_⟩
    · by_cases h0 : len = 0
      · subst h0
        exact .inl ⟨rfl, _, _, rfl⟩
      · obtain ⟨ha, hlt⟩ := spot_none (hcell 0 (by omega)).1
        have ea : a.add 0 = a := by simp [Addr.add]
        rw [ea] at ha hlt
        refine .inr ⟨a.block, a.off, m, by simp [← ha], hlt, fun j hj => ?_⟩
        have hj' : j < len := by simpa using hj
        have := (hcell j (by omega)).1
        have ej : a.add j = ⟨a.block, a.off + j, none⟩ := by
          rw [ha]
          cases j <;> simp [Addr.add]
        rw [ej] at this
        rw [this]
        simp [str_self]
    · simp only [Rows.uptoBulk, e]
      rw [bulk_strs]
      omega
end Go.Proofs.YthicgeiljficbaaDoor
