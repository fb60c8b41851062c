/- What the row of caliperlaw23.ValidNobody needs: the variables that it lists, a world that holds them. Printed by gen_vnrow.py. -/
import Derived.Test.YtilpkcmlffdobaaGreatDoorRows
import Derived.Test.YtilpkcmlffdobaaGreatDoorEvD
import Derived.Test.YtilpkcmlffdobaaGreatDoorLoB
import Derived.WalkKit
import Derived.ProofKit
import Derived.OpenShut
import Derived.Deep.DeepHandedRow
import Derived.Deep.DeepWitnessRowRef
import Derived.Lib.LaidTab
import Derived.Lib.LaidIn
import Derived.Lib.LaidU8
import Derived.LaidHandle
import Derived.Deep.DeepLaidRun
import Derived.Shelf.Vars
namespace Go.Proofs.YtilpkcmlffdobaaGreatDoor
open Go.ChangeShapes Go.WideShapes Go.ChangeAt Go.RowKit
set_option linter.unusedVariables false
set_option linter.unusedSimpArgs false

theorem own : ownKnob Tryz.prog.godebug = none := by kernel_rfl
theorem cells_u8 : Tryz.prog.cellsOf 5 = 1 := by kernel_rfl

/-- the value was returned; what existed is as it was -/
def New (v : Value) (w : World) (e : Ending) (w' : World) : Prop := e = .returned v ∧ Below w.heap.size w w'
/-- what the walk needs of a world in which the row's call begins -/
def EnvV (W : World) : Prop := Ev.EE W ∧ ∃ arr : Array Value, W.heap[1]? = some (.cells arr 602) ∧ arr.toList = Ev.spaceT
theorem vn_l (v : Value) (hv : v.cells.toList = [v] ∧ Ev.oneC v = true) (W : World) (h : EnvV W) : Calls Tryz.prog 3 #[v] W (New (.bool true) W) := by
  obtain ⟨h1, arr, h3, h4⟩ := h
  exact Ev.law_l v hv W h1 h3 h4 (Nat.le_refl _)

/-- the row's list -/
def laidL : List (String × DataW Unit) := Rows.validNobodyUptoRow.laid
def laidD : List (String × DataW Unit) := [("unicode/utf8.first", Rows.laid_unicode_utf8_first), ("unicode/utf8.acceptRanges", Rows.laid_unicode_utf8_acceptRanges), ("strings.asciiSpace", Rows.laid_strings_asciiSpace), ("unicode.White_Space", Rows.laid_unicode_White_Space), ("strconv.ErrSyntax", Rows.laid_strconv_ErrSyntax), ("strconv.ErrRange", Rows.laid_strconv_ErrRange), ("internal/strconv.uint64pow10", Rows.laid_internal_strconv_uint64pow10), ("math/bits.deBruijn32tab", Rows.laid_math_bits_deBruijn32tab), ("math/bits.deBruijn64tab", Rows.laid_math_bits_deBruijn64tab)]
theorem laid_data : (laidL.filter fun x => x.2.handleName?.isNone) = laidD := by kernel_rfl
theorem laid_hand : (laidL.filter fun x => x.2.handleName?.isSome) = [("errors.errorType", Rows.laid_errors_errorType)] := by kernel_rfl
theorem laid_split {W : World} (h : laidMetH Tryz.prog laidL W) : laidMet Tryz.prog laidD W ∧ handlesMet Tryz.prog [("errors.errorType", Rows.laid_errors_errorType)] W := by
  unfold laidMetH at h
  rw [laid_hand, laid_data] at h
  exact h

theorem glob_et : Tryz.prog.globalNamed "errors.errorType" = some 0 := by kernel_rfl
theorem glob_sp : Tryz.prog.globalNamed "strings.asciiSpace" = some 1 := by kernel_rfl
theorem type_sp : (Tryz.prog.globals[1]?).map (·.type) = some 602 := by kernel_rfl
theorem cells_sp : Tryz.prog.cellsOf 602 = 256 := by kernel_rfl
theorem rt_eq : (Tryz.prog.cutTypes.find? (·.1 == "internal/reflectlite.rtype")).map (·.2) = some 562 := by kernel_rfl
theorem one_row : ((List.range Tryz.prog.types.size).filter fun t => Tryz.prog.rowNamed t [101, 114, 114, 111, 114]) = [303] := by kernel_rfl
noncomputable def spaceZ : List Int := Ev.spaceT.map fun v => match v with
  | .int _ n => n
  | _ => 0
theorem sp_eq : (Rows.laid_strings_asciiSpace : DataW Unit) = Lib.tabData .u8 spaceZ := by kernel_rfl
theorem sp_eq2 : spaceZ.map (fun z => Value.int .u8 z) = Ev.spaceT := by kernel_rfl

theorem hand_of {W : World} (h : handlesMet Tryz.prog [("errors.errorType", Rows.laid_errors_errorType)] W) : W.cell? ⟨0, 0, none⟩ = some (.iface 562 (.agg #[.pointer (some ⟨14, 303, none⟩)])) := by
  obtain ⟨name, u, ty, e1, e2, e3, e4, e5⟩ := h _ (List.mem_singleton.2 rfl)
  have en : name = [101, 114, 114, 111, 114] := (Option.some.inj e1).symm
  subst en
  obtain rfl := Option.some.inj (rt_eq.symm.trans e2)
  have hm : ty ∈ (List.range Tryz.prog.types.size).filter fun t => Tryz.prog.rowNamed t [101, 114, 114, 111, 114] := List.mem_filter.2 ⟨List.mem_range.2 e3, e4⟩
  rw [one_row] at hm
  obtain rfl := List.mem_singleton.1 hm
  have hh : typeHandle Tryz.prog 303 = .pointer (some ⟨14, 303, none⟩) := by kernel_rfl
  rw [hh] at e5
  simpa using World.var?_cell glob_et e5 0

theorem env_of {W : World} (hL : laidMetH Tryz.prog laidL W) (hS : W.ShapedOpen Tryz.prog) : EnvV W := by
  obtain ⟨hM, hH⟩ := laid_split hL
  refine ⟨hand_of hH, ?_⟩
  have hz : ∃ zero, ((begin Tryz.prog (fun _ _ => 0) default).world.heap[1]?).bind Obj.row? = some (zero, 602) := by
    have h1 : (((begin Tryz.prog (fun _ _ => 0) default).world.heap[1]?).bind Obj.row?).isSome = true := by kernel_rfl
    have h2 : (((begin Tryz.prog (fun _ _ => 0) default).world.heap[1]?).bind Obj.row?).map (·.2) = some 602 := by kernel_rfl
    obtain ⟨x, hx⟩ := Option.isSome_iff_exists.1 h1
    rw [hx] at h2
    exact ⟨x.1, by rw [hx, ← Option.some.inj h2]⟩
  obtain ⟨zero, hz⟩ := hz
  obtain ⟨cs, h, _⟩ := hS.1 1 zero 602 (of_decide_eq_true (by kernel_rfl)) hz
  refine ⟨cs, h, ?_⟩
  obtain ⟨g', t', cs', fuel, p, hg', ht', hvar, hd⟩ := Lib.laidMet.reads hM (n := "strings.asciiSpace") (d := Rows.laid_strings_asciiSpace) (.tail _ (.tail _ (.head _)))
  obtain rfl : 1 = g' := Option.some.inj (glob_sp.symm.trans hg')
  obtain rfl : 602 = t' := Option.some.inj (type_sp.symm.trans ht')
  rw [sp_eq] at hd
  have hc := Lib.cells_of_tab Tryz.underlying602 Tryz.underlying5 cells_u8 cells_sp hd
  have hv : W.var? Tryz.prog "strings.asciiSpace" = some cs := by
    unfold World.var?
    rw [glob_sp, Option.bind_some, h]
  rw [hv] at hvar
  have e : cs = cs' := Option.some.inj hvar
  rw [e, hc, sp_eq2]

/-- a world for the witnesses -/
noncomputable def laidWorld (os : Os) : World :=
  let N := (World.settled Tryz.prog os).heap.size
  let w0 := World.holding Tryz.prog os ⟨#[.cells #[.int .u16 9, .int .u16 13, .int .u16 1, .int .u16 32, .int .u16 133, .int .u16 101, .int .u16 160, .int .u16 5760, .int .u16 5600, .int .u16 8192, .int .u16 8202, .int .u16 1, .int .u16 8232, .int .u16 8233, .int .u16 1, .int .u16 8239, .int .u16 8287, .int .u16 48, .int .u16 12288, .int .u16 12288, .int .u16 1] 685, .cells #[.slice (some ⟨N + 0, 0, none⟩) 7 7, .slice none 0 0, .int .i64 2] 682, .cells #[.string ⟨#[105, 110, 118, 97, 108, 105, 100, 32, 115, 121, 110, 116, 97, 120]⟩] 665, .cells #[.string ⟨#[118, 97, 108, 117, 101, 32, 111, 117, 116, 32, 111, 102, 32, 114, 97, 110, 103, 101]⟩] 665], #[], []⟩
  let put (h : Array Obj) (g : Nat) (cs : Array Value) : Array Obj := h.modify g fun
    | .cells _ t frozen => .cells cs t frozen
    | o => o
  let h0 := w0.heap
  let h1 := put h0 9 (Lib.firstTab.map fun z => Value.int .u8 z).toArray
  let h2 := put h1 10 #[.int .u8 128, .int .u8 191, .int .u8 160, .int .u8 191, .int .u8 128, .int .u8 159, .int .u8 144, .int .u8 191, .int .u8 128, .int .u8 143, .int .u8 0, .int .u8 0, .int .u8 0, .int .u8 0, .int .u8 0, .int .u8 0, .int .u8 0, .int .u8 0, .int .u8 0, .int .u8 0, .int .u8 0, .int .u8 0, .int .u8 0, .int .u8 0, .int .u8 0, .int .u8 0, .int .u8 0, .int .u8 0, .int .u8 0, .int .u8 0, .int .u8 0, .int .u8 0]
  let h3 := put h2 1 Ev.spaceT.toArray
  let h4 := put h3 6 #[.pointer (some ⟨N + 1, 0, none⟩)]
  let h5 := put h4 3 #[.iface 663 (.pointer (some ⟨N + 2, 0, none⟩))]
  let h6 := put h5 4 #[.iface 663 (.pointer (some ⟨N + 3, 0, none⟩))]
  let h7 := put h6 5 #[.int .u64 1, .int .u64 10, .int .u64 100, .int .u64 1000, .int .u64 10000, .int .u64 100000, .int .u64 1000000, .int .u64 10000000, .int .u64 100000000, .int .u64 1000000000, .int .u64 10000000000, .int .u64 100000000000, .int .u64 1000000000000, .int .u64 10000000000000, .int .u64 100000000000000, .int .u64 1000000000000000, .int .u64 10000000000000000, .int .u64 100000000000000000, .int .u64 1000000000000000000, .int .u64 10000000000000000000]
  let h8 := put h7 11 #[.int .u8 0, .int .u8 1, .int .u8 28, .int .u8 2, .int .u8 29, .int .u8 14, .int .u8 24, .int .u8 3, .int .u8 30, .int .u8 22, .int .u8 20, .int .u8 15, .int .u8 25, .int .u8 17, .int .u8 4, .int .u8 8, .int .u8 31, .int .u8 27, .int .u8 13, .int .u8 23, .int .u8 21, .int .u8 19, .int .u8 16, .int .u8 7, .int .u8 26, .int .u8 12, .int .u8 18, .int .u8 6, .int .u8 11, .int .u8 5, .int .u8 10, .int .u8 9]
  let h9 := put h8 12 #[.int .u8 0, .int .u8 1, .int .u8 56, .int .u8 2, .int .u8 57, .int .u8 49, .int .u8 28, .int .u8 3, .int .u8 61, .int .u8 58, .int .u8 42, .int .u8 50, .int .u8 38, .int .u8 29, .int .u8 17, .int .u8 4, .int .u8 62, .int .u8 47, .int .u8 59, .int .u8 36, .int .u8 45, .int .u8 43, .int .u8 51, .int .u8 22, .int .u8 53, .int .u8 39, .int .u8 33, .int .u8 30, .int .u8 24, .int .u8 18, .int .u8 12, .int .u8 5, .int .u8 63, .int .u8 55, .int .u8 48, .int .u8 27, .int .u8 60, .int .u8 41, .int .u8 37, .int .u8 16, .int .u8 46, .int .u8 35, .int .u8 44, .int .u8 21, .int .u8 52, .int .u8 32, .int .u8 23, .int .u8 11, .int .u8 54, .int .u8 26, .int .u8 40, .int .u8 15, .int .u8 34, .int .u8 20, .int .u8 31, .int .u8 10, .int .u8 25, .int .u8 14, .int .u8 19, .int .u8 9, .int .u8 13, .int .u8 8, .int .u8 7, .int .u8 6]
  let h10 := put h9 0 #[.iface 562 (.agg #[.pointer (some ⟨14, 303, none⟩)])]
  { w0 with heap := h10 }
/-- the memory of the witnesses -/
noncomputable def metW (os : Os) (args : Array Value) : World := ((laidWorld os).forCall (fun _ _ => 0) ⟨#[], args, []⟩).memory
set_option maxRecDepth 1000000 in
theorem met1 (os : Os) (args : Array Value) : (DataW.laidRun Tryz.prog (metW os args) 8 (laidD.map (·.1))).map (·.1) = some laidD := by kernel_rfl
set_option maxRecDepth 1000000 in
theorem met2 (os : Os) (args : Array Value) : (DataW.laidRun Tryz.prog (metW os args) 8 (laidD.map (·.1))).map (fun x => nodupB (x.2.map MemPlace.codeOf)) = some true := by kernel_rfl
set_option maxRecDepth 1000000 in
theorem met3 (os : Os) (args : Array Value) : (DataW.laidRun Tryz.prog (metW os args) 8 (laidD.map (·.1))).map (fun x => laidRowsB Tryz.prog (metW os args) x.2) = some true := by kernel_rfl
set_option maxRecDepth 1000000 in
theorem met4 (os : Os) (args : Array Value) : (laidL.filter fun x => x.2.handleName?.isSome).all (handleAtB Tryz.prog (metW os args)) = true := by kernel_rfl
theorem laid_met (os : Os) (args : Array Value) : laidMetH Tryz.prog laidL ((laidWorld os).forCall (fun _ _ => 0) ⟨#[], args, []⟩).memory :=
  laidMetH_of_parts (by rw [laid_data]; exact laidMet_of_run3 8 (met1 os args) (met2 os args) (met3 os args)) (met4 os args)
end Go.Proofs.YtilpkcmlffdobaaGreatDoor
