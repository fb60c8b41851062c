/- What the rows of caliperlaw19 share: the variables that they list, a world that holds them; numbers among the arguments, opened. Printed by gen_snrow.py. -/
import Derived.Test.YthdnpikgnmdnnaaGreatDoorRows
import Derived.Test.YthdnpikgnmdnnaaGreatDoorDecA
import Derived.WalkKit
import Derived.ProofKit
import Derived.OpenShut
import Derived.Deep.DeepHandedRow
import Derived.Deep.DeepWitnessRowRef
import Derived.Lib.LaidTab
import Derived.Lib.LaidIn
import Derived.Lib.LaidU8
import Derived.Deep.DeepLaidRun
import Derived.Shelf.Vars
namespace Go.Proofs.YthdnpikgnmdnnaaGreatDoor
open Go.ChangeShapes Go.WideShapes Go.ChangeAt Go.RowKit
set_option linter.unusedVariables false
set_option linter.unusedSimpArgs false

theorem own : ownKnob Tryz.prog.godebug = none := by kernel_rfl
theorem laidOut : laidOutB Tryz.prog = true := by kernel_rfl
/-- what the walks need of a world in which a row's call begins -/
def EnvV (W : World) : Prop := 8 ≤ W.heap.size
/-- the list of every row here -/
def laidL : List (String × DataW Unit) := Rows.satNumbersUptoRow.laid
theorem env_of {W : World} (hL : laidMetH Tryz.prog laidL W) (hS : W.ShapedOpen Tryz.prog) : EnvV W := by
  have hz : ∃ zero t, ((begin Tryz.prog (fun _ _ => 0) default).world.heap[7]?).bind Obj.row? = some (zero, t) := by
    have : (((begin Tryz.prog (fun _ _ => 0) default).world.heap[7]?).bind Obj.row?).isSome = true := by kernel_rfl
    obtain ⟨x, hx⟩ := Option.isSome_iff_exists.1 this
    exact ⟨x.1, x.2, hx⟩
  obtain ⟨zero, t, hz⟩ := hz
  obtain ⟨cs, h, _⟩ := hS.1 7 zero t (of_decide_eq_true (by kernel_rfl)) hz
  have := (Array.getElem?_eq_some_iff.1 h).1
  unfold EnvV
  omega

/-- a world for the witnesses -/
noncomputable def laidWorld (os : Os) : World :=
  let N := (World.settled Tryz.prog os).heap.size
  let w0 := World.holding Tryz.prog os ⟨#[], #[], []⟩
  let put (h : Array Obj) (g : Nat) (cs : Array Value) : Array Obj := h.modify g fun
    | .cells _ t frozen => .cells cs t frozen
    | o => o
  let h1 := put w0.heap 6 #[.int .u8 0, .int .u8 1, .int .u8 28, .int .u8 2, .int .u8 29, .int .u8 14, .int .u8 24, .int .u8 3, .int .u8 30, .int .u8 22, .int .u8 20, .int .u8 15, .int .u8 25, .int .u8 17, .int .u8 4, .int .u8 8, .int .u8 31, .int .u8 27, .int .u8 13, .int .u8 23, .int .u8 21, .int .u8 19, .int .u8 16, .int .u8 7, .int .u8 26, .int .u8 12, .int .u8 18, .int .u8 6, .int .u8 11, .int .u8 5, .int .u8 10, .int .u8 9]
  let h2 := put h1 7 #[.int .u8 0, .int .u8 1, .int .u8 56, .int .u8 2, .int .u8 57, .int .u8 49, .int .u8 28, .int .u8 3, .int .u8 61, .int .u8 58, .int .u8 42, .int .u8 50, .int .u8 38, .int .u8 29, .int .u8 17, .int .u8 4, .int .u8 62, .int .u8 47, .int .u8 59, .int .u8 36, .int .u8 45, .int .u8 43, .int .u8 51, .int .u8 22, .int .u8 53, .int .u8 39, .int .u8 33, .int .u8 30, .int .u8 24, .int .u8 18, .int .u8 12, .int .u8 5, .int .u8 63, .int .u8 55, .int .u8 48, .int .u8 27, .int .u8 60, .int .u8 41, .int .u8 37, .int .u8 16, .int .u8 46, .int .u8 35, .int .u8 44, .int .u8 21, .int .u8 52, .int .u8 32, .int .u8 23, .int .u8 11, .int .u8 54, .int .u8 26, .int .u8 40, .int .u8 15, .int .u8 34, .int .u8 20, .int .u8 31, .int .u8 10, .int .u8 25, .int .u8 14, .int .u8 19, .int .u8 9, .int .u8 13, .int .u8 8, .int .u8 7, .int .u8 6]
  let h3 := put h2 2 #[.int .u64 1, .int .u64 10, .int .u64 100, .int .u64 1000, .int .u64 10000, .int .u64 100000, .int .u64 1000000, .int .u64 10000000, .int .u64 100000000, .int .u64 1000000000, .int .u64 10000000000, .int .u64 100000000000, .int .u64 1000000000000, .int .u64 10000000000000, .int .u64 100000000000000, .int .u64 1000000000000000, .int .u64 10000000000000000, .int .u64 100000000000000000, .int .u64 1000000000000000000, .int .u64 10000000000000000000]
  let h4 := put h3 1 #[.int .u8 128, .int .u8 191, .int .u8 160, .int .u8 191, .int .u8 128, .int .u8 159, .int .u8 144, .int .u8 191, .int .u8 128, .int .u8 143, .int .u8 0, .int .u8 0, .int .u8 0, .int .u8 0, .int .u8 0, .int .u8 0, .int .u8 0, .int .u8 0, .int .u8 0, .int .u8 0, .int .u8 0, .int .u8 0, .int .u8 0, .int .u8 0, .int .u8 0, .int .u8 0, .int .u8 0, .int .u8 0, .int .u8 0, .int .u8 0, .int .u8 0, .int .u8 0]
  let h5 := put h4 0 (Lib.firstTab.map fun z => Value.int .u8 z).toArray
  { w0 with heap := h5 }
/-- the memory of the witnesses -/
noncomputable def metW (os : Os) (args : Array Value) : World := ((laidWorld os).forCall (fun _ _ => 0) ⟨#[], args, []⟩).memory
set_option maxRecDepth 1000000 in
theorem met1 (os : Os) (args : Array Value) : (DataW.laidRun Tryz.prog (metW os args) 8 (laidL.map (·.1))).map (·.1) = some laidL := by kernel_rfl
set_option maxRecDepth 1000000 in
theorem met2 (os : Os) (args : Array Value) : (DataW.laidRun Tryz.prog (metW os args) 8 (laidL.map (·.1))).map (fun x => nodupB (x.2.map MemPlace.codeOf)) = some true := by kernel_rfl
set_option maxRecDepth 1000000 in
theorem met3 (os : Os) (args : Array Value) : (DataW.laidRun Tryz.prog (metW os args) 8 (laidL.map (·.1))).map (fun x => laidRowsB Tryz.prog (metW os args) x.2) = some true := by kernel_rfl
theorem laid_met (os : Os) (args : Array Value) : laidMet Tryz.prog laidL ((laidWorld os).forCall (fun _ _ => 0) ⟨#[], args, []⟩).memory :=
  laidMet_of_run3 8 (met1 os args) (met2 os args) (met3 os args)

/-! ### Numbers -/
theorem one_le {H : Type} (d : DataW H) : 1 ≤ Rows.uptoBulk d := by
  cases d with
  | lit l => cases l <;> simp [Rows.uptoBulk]
  | nil => simp [Rows.uptoBulk]
  | ptr d => simp [Rows.uptoBulk]
  | slice elems spare => simp [Rows.uptoBulk]
  | agg parts => simp [Rows.uptoBulk]
  | iface t d => simp [Rows.uptoBulk]
  | map entries => simp [Rows.uptoBulk]
  | held h => simp [Rows.uptoBulk]
theorem cells_dec : Tryz.prog.cellsOf 23 = 3 := by kernel_rfl
theorem cells_bool : Tryz.prog.cellsOf 4 = 1 := by kernel_rfl
theorem cells_int : Tryz.prog.cellsOf 3 = 1 := by kernel_rfl
theorem cells_str : Tryz.prog.cellsOf 9 = 1 := by kernel_rfl
section
variable {H : Type} {enc : TypeId × Value → H} {W : World} {base : Nat} {held : Bool}
set_option maxRecDepth 100000 in
/-- a number's cells -/
theorem dec_trod {fuel : Nat} {cs : List Value} {d : DataW H} {p : List MemPlace} (h : DataW.trod enc Tryz.prog W base (fun _ => true) held fuel 23 cs = some (d, p)) :
    ∃ (n : Bool) (s : ByteArray) (x : Int), cs = [.bool n, .string s, .int .i64 x] ∧ s.size + 1 ≤ Rows.uptoBulk d := by
  obtain ⟨xs, n, rfl, hx, hl, hlen, hf⟩ := DataW.trod_struct Tryz.underlying23 h
  rw [cells_dec] at hl
  match cs, hl, xs, hlen with
  | [c0, c1, c2], _, [y0, y1, y2], _ =>
    have h0 : DataW.trod enc Tryz.prog W base (fun _ => true) held n 4 (([c0, c1, c2].drop 0).take (Tryz.prog.cellsOf 4)) = some y0 := hf 0 _ rfl
    rw [cells_bool] at h0
    have h1 : DataW.trod enc Tryz.prog W base (fun _ => true) held n 9 (([c0, c1, c2].drop 1).take (Tryz.prog.cellsOf 9)) = some y1 := hf 1 _ rfl
    rw [cells_str] at h1
    have h2 : DataW.trod enc Tryz.prog W base (fun _ => true) held n 3 (([c0, c1, c2].drop 2).take (Tryz.prog.cellsOf 3)) = some y2 := hf 2 _ rfl
    rw [cells_int] at h2
    simp only [List.drop_zero, List.drop_succ_cons, List.take_succ_cons, List.take_zero] at h0 h1 h2
    obtain ⟨b, hb, e0⟩ := DataW.trod_bool Tryz.underlying4 h0
    obtain ⟨s, hs, e1, _⟩ := DataW.trod_string Tryz.underlying9 h1
    obtain ⟨m, hm, e2, _⟩ := DataW.trod_int Tryz.underlying3 h2
    simp at hb hs hm
    refine ⟨b, s, m, by rw [hb, hs, hm], ?_⟩
    cases hx
    rw [e0, e1, e2]
    simp [Rows.uptoBulk, Rows.uptoBulkAll]
    omega
set_option maxRecDepth 100000 in
/-- a number among the arguments -/
theorem dec_of {r : Reach} {v : Value} {d : DataW H} {p : List MemPlace} (hv : Value.okWide Tryz.prog W r base 23 v)
    (h : ∃ fuel, DataW.trod enc Tryz.prog W 0 (fun _ => true) held fuel 23 v.cells.toList = some (d, p)) : ∃ (n : Bool) (s : ByteArray) (x : Int), v = dv n s x ∧ s.size + 1 ≤ Rows.uptoBulk d := by
  obtain ⟨fuel, hf⟩ := h
  obtain ⟨cs, rfl, _⟩ := okWide_struct Tryz.underlying23 hv
  obtain ⟨n, s, x, hc, hb⟩ := dec_trod hf
  exact ⟨n, s, x, by unfold dv; rw [show cs = #[.bool n, .string s, .int .i64 x] by apply Array.toList_inj.1; simpa [Value.cells] using hc], hb⟩
end
end Go.Proofs.YthdnpikgnmdnnaaGreatDoor
