/- What the rows of caliperlaw14 need: the variables that they list, a world that holds them; edges among the arguments, opened. -/
import Derived.Test.YtdpkhapcgbheeaaGreatDoorRows
import Derived.Test.YtdpkhapcgbheeaaGreatDoorEvD
import Derived.Test.YtdpkhapcgbheeaaGreatDoorRfC
import Derived.WalkKit
import Derived.ProofKit
import Derived.OpenShut
import Derived.Deep.DeepHandedRow
import Derived.Deep.DeepWitnessRowRef
import Derived.Deep.Strs
import Derived.Lib.LaidTab
import Derived.Lib.LaidIn
import Derived.Lib.LaidU8
import Derived.LaidHandle
import Derived.Deep.DeepLaidRun
import Derived.Shelf.Vars
namespace Go.Proofs.YtdpkhapcgbheeaaGreatDoor
open Go.ChangeShapes Go.WideShapes Go.ChangeAt Go.RowKit Go.Deep
set_option linter.unusedVariables false
set_option linter.unusedSimpArgs false

theorem own : ownKnob Tryz.prog.godebug = none := by kernel_rfl
theorem laidOut : laidOutB Tryz.prog = true := by kernel_rfl
theorem cells_u8 : Tryz.prog.cellsOf 5 = 1 := by kernel_rfl

/-- what the walks need of a world in which the row's call begins -/
def EnvV (W : World) : Prop := Ev.EE W ∧ 12 ≤ W.heap.size ∧ ∃ arr : Array Value, W.heap[1]? = some (.cells arr 242) ∧ arr.toList = Ev.spaceT
theorem EnvV.call {w W : World} (h : EnvV w) (hb : Below w.heap.size w W) : EnvV W := by
  obtain ⟨⟨m, h2⟩, hz, arr, h3, h4⟩ := h
  have hsz : 1 < w.heap.size := (Array.getElem?_eq_some_iff.1 h3).1
  exact ⟨⟨m, by rw [Ev.cell_keep (by simp only; omega) hb]; exact h2⟩, Nat.le_trans hz hb.size, arr, by rw [hb.block _ hsz]; exact h3, h4⟩
theorem heads_any (W : World) (h : EnvV W) : Calls Tryz.prog 5 #[] W fun r w' => r = .returned (.bool true) ∧ Below W.heap.size W w' := by
  obtain ⟨h1, hz, arr, h3, h4⟩ := h
  exact Ev.heads_l W hz h1 (fr := (0, 0)) h3 h4 (Nat.le_refl _)

/-- the row's list -/
def laidL : List (String × DataW Unit) := Rows.refsReachUptoRow.laid
def laidD : List (String × DataW Unit) := [("math/bits.deBruijn32tab", Rows.laid_math_bits_deBruijn32tab), ("math/bits.deBruijn64tab", Rows.laid_math_bits_deBruijn64tab), ("internal/strconv.uint64pow10", Rows.laid_internal_strconv_uint64pow10), ("unicode/utf8.acceptRanges", Rows.laid_unicode_utf8_acceptRanges), ("strconv.ErrRange", Rows.laid_strconv_ErrRange), ("strconv.ErrSyntax", Rows.laid_strconv_ErrSyntax), ("unicode.White_Space", Rows.laid_unicode_White_Space), ("strings.asciiSpace", Rows.laid_strings_asciiSpace), ("unicode/utf8.first", Rows.laid_unicode_utf8_first)]
theorem laid_data : (laidL.filter fun x => x.2.handleName?.isNone) = laidD := by kernel_rfl
theorem laid_hand : (laidL.filter fun x => x.2.handleName?.isSome) = [("errors.errorType", Rows.laid_errors_errorType)] := by kernel_rfl
theorem laid_split {W : World} (h : laidMetH Tryz.prog laidL W) : laidMet Tryz.prog laidD W ∧ handlesMet Tryz.prog [("errors.errorType", Rows.laid_errors_errorType)] W := by
  unfold laidMetH at h
  rw [laid_hand, laid_data] at h
  exact h

theorem glob_et : Tryz.prog.globalNamed "errors.errorType" = some 0 := by kernel_rfl
theorem glob_sp : Tryz.prog.globalNamed "strings.asciiSpace" = some 1 := by kernel_rfl
theorem type_sp : (Tryz.prog.globals[1]?).map (·.type) = some 242 := by kernel_rfl
theorem cells_sp : Tryz.prog.cellsOf 242 = 256 := by kernel_rfl
noncomputable def spaceZ : List Int := Ev.spaceT.map fun v => match v with
  | .int _ n => n
  | _ => 0
theorem sp_eq : (Rows.laid_strings_asciiSpace : DataW Unit) = Lib.tabData .u8 spaceZ := by kernel_rfl
theorem sp_eq2 : spaceZ.map (fun z => Value.int .u8 z) = Ev.spaceT := by kernel_rfl

theorem env_of {W : World} (hL : laidMetH Tryz.prog laidL W) (hS : W.ShapedOpen Tryz.prog) : EnvV W := by
  obtain ⟨hM, hH⟩ := laid_split hL
  have hmax := Go.Proofs.cell_of_shapedOpen_int (g := 2) (zero := #[.int .i64 0]) (t := 3) hS (of_decide_eq_true (by kernel_rfl)) (by kernel_rfl) rfl (by kernel_rfl) (by kernel_rfl) Tryz.underlying3
  have hsz : 12 ≤ W.heap.size := by
    have hz : ∃ zero t, ((begin Tryz.prog (fun _ _ => 0) default).world.heap[11]?).bind Obj.row? = some (zero, t) := by
      have : (((begin Tryz.prog (fun _ _ => 0) default).world.heap[11]?).bind Obj.row?).isSome = true := by kernel_rfl
      obtain ⟨x, hx⟩ := Option.isSome_iff_exists.1 this
      exact ⟨x.1, x.2, hx⟩
    obtain ⟨zero, t, hz⟩ := hz
    obtain ⟨cs, h, _⟩ := hS.1 11 zero t (of_decide_eq_true (by kernel_rfl)) hz
    have := (Array.getElem?_eq_some_iff.1 h).1
    omega
  refine ⟨hmax, hsz, ?_⟩
  have hz : ∃ zero, ((begin Tryz.prog (fun _ _ => 0) default).world.heap[1]?).bind Obj.row? = some (zero, 242) := by
    have h1 : (((begin Tryz.prog (fun _ _ => 0) default).world.heap[1]?).bind Obj.row?).isSome = true := by kernel_rfl
    have h2 : (((begin Tryz.prog (fun _ _ => 0) default).world.heap[1]?).bind Obj.row?).map (·.2) = some 242 := by kernel_rfl
    obtain ⟨x, hx⟩ := Option.isSome_iff_exists.1 h1
    rw [hx] at h2
    exact ⟨x.1, by rw [hx, ← Option.some.inj h2]⟩
  obtain ⟨zero, hz⟩ := hz
  obtain ⟨cs, h, _⟩ := hS.1 1 zero 242 (of_decide_eq_true (by kernel_rfl)) hz
  refine ⟨cs, h, ?_⟩
  obtain ⟨g', t', cs', fuel, p, hg', ht', hvar, hd⟩ := Lib.laidMet.reads hM (n := "strings.asciiSpace") (d := Rows.laid_strings_asciiSpace) (.tail _ (.tail _ (.tail _ (.tail _ (.tail _ (.tail _ (.tail _ (.head _))))))))
  obtain rfl : 1 = g' := Option.some.inj (glob_sp.symm.trans hg')
  obtain rfl : 242 = t' := Option.some.inj (type_sp.symm.trans ht')
  rw [sp_eq] at hd
  have hc := Lib.cells_of_tab Tryz.underlying242 Tryz.underlying5 cells_u8 cells_sp hd
  have hv : W.var? Tryz.prog "strings.asciiSpace" = some cs := by
    unfold World.var?
    rw [glob_sp, Option.bind_some, h]
  rw [hv] at hvar
  have e : cs = cs' := Option.some.inj hvar
  rw [e, hc, sp_eq2]

/-- a world for the witnesses -/
noncomputable def laidWorld (os : Os) : World :=
  let N := (World.settled Tryz.prog os).heap.size
  let w0 := World.holding Tryz.prog os ⟨#[.cells #[.string ⟨#[118, 97, 108, 117, 101, 32, 111, 117, 116, 32, 111, 102, 32, 114, 97, 110, 103, 101]⟩] 295, .cells #[.string ⟨#[105, 110, 118, 97, 108, 105, 100, 32, 115, 121, 110, 116, 97, 120]⟩] 295, .cells #[.int .u16 9, .int .u16 13, .int .u16 1, .int .u16 32, .int .u16 133, .int .u16 101, .int .u16 160, .int .u16 5760, .int .u16 5600, .int .u16 8192, .int .u16 8202, .int .u16 1, .int .u16 8232, .int .u16 8233, .int .u16 1, .int .u16 8239, .int .u16 8287, .int .u16 48, .int .u16 12288, .int .u16 12288, .int .u16 1] 315, .cells #[.slice (some ⟨N + 2, 0, none⟩) 7 7, .slice none 0 0, .int .i64 2] 312], #[], []⟩
  let put (h : Array Obj) (g : Nat) (cs : Array Value) : Array Obj := h.modify g fun
    | .cells _ t frozen => .cells cs t frozen
    | o => o
  let h1 := put w0.heap 9 #[.int .u8 0, .int .u8 1, .int .u8 28, .int .u8 2, .int .u8 29, .int .u8 14, .int .u8 24, .int .u8 3, .int .u8 30, .int .u8 22, .int .u8 20, .int .u8 15, .int .u8 25, .int .u8 17, .int .u8 4, .int .u8 8, .int .u8 31, .int .u8 27, .int .u8 13, .int .u8 23, .int .u8 21, .int .u8 19, .int .u8 16, .int .u8 7, .int .u8 26, .int .u8 12, .int .u8 18, .int .u8 6, .int .u8 11, .int .u8 5, .int .u8 10, .int .u8 9]
  let h2 := put h1 10 #[.int .u8 0, .int .u8 1, .int .u8 56, .int .u8 2, .int .u8 57, .int .u8 49, .int .u8 28, .int .u8 3, .int .u8 61, .int .u8 58, .int .u8 42, .int .u8 50, .int .u8 38, .int .u8 29, .int .u8 17, .int .u8 4, .int .u8 62, .int .u8 47, .int .u8 59, .int .u8 36, .int .u8 45, .int .u8 43, .int .u8 51, .int .u8 22, .int .u8 53, .int .u8 39, .int .u8 33, .int .u8 30, .int .u8 24, .int .u8 18, .int .u8 12, .int .u8 5, .int .u8 63, .int .u8 55, .int .u8 48, .int .u8 27, .int .u8 60, .int .u8 41, .int .u8 37, .int .u8 16, .int .u8 46, .int .u8 35, .int .u8 44, .int .u8 21, .int .u8 52, .int .u8 32, .int .u8 23, .int .u8 11, .int .u8 54, .int .u8 26, .int .u8 40, .int .u8 15, .int .u8 34, .int .u8 20, .int .u8 31, .int .u8 10, .int .u8 25, .int .u8 14, .int .u8 19, .int .u8 9, .int .u8 13, .int .u8 8, .int .u8 7, .int .u8 6]
  let h3 := put h2 6 #[.int .u64 1, .int .u64 10, .int .u64 100, .int .u64 1000, .int .u64 10000, .int .u64 100000, .int .u64 1000000, .int .u64 10000000, .int .u64 100000000, .int .u64 1000000000, .int .u64 10000000000, .int .u64 100000000000, .int .u64 1000000000000, .int .u64 10000000000000, .int .u64 100000000000000, .int .u64 1000000000000000, .int .u64 10000000000000000, .int .u64 100000000000000000, .int .u64 1000000000000000000, .int .u64 10000000000000000000]
  let h4 := put h3 8 #[.int .u8 128, .int .u8 191, .int .u8 160, .int .u8 191, .int .u8 128, .int .u8 159, .int .u8 144, .int .u8 191, .int .u8 128, .int .u8 143, .int .u8 0, .int .u8 0, .int .u8 0, .int .u8 0, .int .u8 0, .int .u8 0, .int .u8 0, .int .u8 0, .int .u8 0, .int .u8 0, .int .u8 0, .int .u8 0, .int .u8 0, .int .u8 0, .int .u8 0, .int .u8 0, .int .u8 0, .int .u8 0, .int .u8 0, .int .u8 0, .int .u8 0, .int .u8 0]
  let h5 := put h4 4 #[.iface 293 (.pointer (some ⟨N, 0, none⟩))]
  let h6 := put h5 3 #[.iface 293 (.pointer (some ⟨N + 1, 0, none⟩))]
  let h7 := put h6 7 (Lib.firstTab.map fun z => Value.int .u8 z).toArray
  let h8 := put h7 5 #[.pointer (some ⟨N + 3, 0, none⟩)]
  let h9 := put h8 1 Ev.spaceT.toArray
  let h10 := put h9 0 #[.iface (((Tryz.prog.cutTypes.find? (·.1 == "internal/reflectlite.rtype")).map (·.2)).getD 0) (.agg #[typeHandle Tryz.prog (((List.range Tryz.prog.types.size).filter fun t => Tryz.prog.rowNamed t [101, 114, 114, 111, 114]).headD 0)])]
  { w0 with heap := h10 }
set_option maxRecDepth 1000000 in
theorem laid_met (os : Os) (args : Array Value) : laidMetH Tryz.prog laidL ((laidWorld os).forCall (fun _ _ => 0) ⟨#[], args, []⟩).memory :=
  laidMetH_of_parts (by rw [laid_data]; exact laidMet_of_run3 8 (by kernel_rfl) (by kernel_rfl) (by kernel_rfl)) (by kernel_rfl)

/-! ### Bulk -/
theorem one_le {H : Type} (d : DataW H) : 1 ≤ Rows.uptoBulk d := by
  cases d with
  | lit l => cases l <;> simp [Rows.uptoBulk]
  | nil => simp [Rows.uptoBulk]
  | ptr d => simp [Rows.uptoBulk]
  | slice elems spare => simp [Rows.uptoBulk]
  | agg parts => simp [Rows.uptoBulk]
  | iface t d => simp [Rows.uptoBulk]
  | map entries => simp [Rows.uptoBulk]
  | held h => simp [Rows.uptoBulk]
theorem bulk_len {H : Type} : ∀ l : List (DataW H), l.length ≤ Rows.uptoBulkAll l
  | [] => by simp [Rows.uptoBulkAll]
  | x :: l => by
    have h1 := one_le x
    have h2 := bulk_len l
    simp only [Rows.uptoBulkAll, List.length_cons]
    omega

theorem cells_str : Tryz.prog.cellsOf 9 = 1 := by kernel_rfl
theorem cells_int : Tryz.prog.cellsOf 3 = 1 := by kernel_rfl
theorem cells_edge : Tryz.prog.cellsOf 30 = 5 := by kernel_rfl
theorem cells_bool : Tryz.prog.cellsOf 4 = 1 := by kernel_rfl
theorem spot_none {w : World} {ad : Addr} {v : Value} (h : w.cell? ad = some v) : ad = ⟨ad.block, ad.off, none⟩ ∧ ad.block < w.heap.size := by
  obtain ⟨b, o, s⟩ := ad
  unfold World.cell? at h
  cases s with
  | some s => simp at h; split at h <;> simp at h
  | none =>
    refine ⟨rfl, ?_⟩
    rcases Nat.lt_or_ge b w.heap.size with h' | h'
    · exact h'
    · simp [Array.getElem?_eq_none h'] at h
theorem choose_lt {α : Type} [Inhabited α] {n : Nat} {p : Nat → α → Prop} (h : ∀ i, i < n → ∃ x, p i x) : ∃ X : Nat → α, ∀ i, i < n → p i (X i) :=
  ⟨fun i => if hi : i < n then Classical.choose (h i hi) else default, fun i hi => by simp only [hi, dif_pos]; exact Classical.choose_spec (h i hi)⟩

section
variable {H : Type} {enc : TypeId × Value → H} {W : World} {base : Nat} {held : Bool}
set_option maxRecDepth 100000 in
theorem edge_trod {fuel : Nat} {cs : List Value} {d : DataW H} {p : List MemPlace} (h : DataW.trod enc Tryz.prog W base (fun _ => true) held fuel 30 cs = some (d, p)) :
    ∃ x : Ed, cs = [.int .i64 x.1, .int .i64 x.2.1, .string (str x.2.2.1), .bool x.2.2.2.1, .string (str x.2.2.2.2)] ∧ (Lit.int .i64 x.1).wf = true ∧ (Lit.int .i64 x.2.1).wf = true := by
  obtain ⟨xs, n, rfl, hx, hl, hlen, hf⟩ := DataW.trod_struct Tryz.underlying30 h
  rw [cells_edge] at hl
  match cs, hl, xs, hlen with
  | [c0, c1, c2, c3, c4], _, [y0, y1, y2, y3, y4], _ =>
    have h0 : DataW.trod enc Tryz.prog W base (fun _ => true) held n 3 (([c0, c1, c2, c3, c4].drop 0).take (Tryz.prog.cellsOf 3)) = some y0 := hf 0 _ rfl
    rw [cells_int] at h0
    have h1 : DataW.trod enc Tryz.prog W base (fun _ => true) held n 3 (([c0, c1, c2, c3, c4].drop 1).take (Tryz.prog.cellsOf 3)) = some y1 := hf 1 _ rfl
    rw [cells_int] at h1
    have h2 : DataW.trod enc Tryz.prog W base (fun _ => true) held n 9 (([c0, c1, c2, c3, c4].drop 2).take (Tryz.prog.cellsOf 9)) = some y2 := hf 2 _ rfl
    rw [cells_str] at h2
    have h3 : DataW.trod enc Tryz.prog W base (fun _ => true) held n 4 (([c0, c1, c2, c3, c4].drop 3).take (Tryz.prog.cellsOf 4)) = some y3 := hf 3 _ rfl
    rw [cells_bool] at h3
    have h4 : DataW.trod enc Tryz.prog W base (fun _ => true) held n 9 (([c0, c1, c2, c3, c4].drop 4).take (Tryz.prog.cellsOf 9)) = some y4 := hf 4 _ rfl
    rw [cells_str] at h4
    simp only [List.drop_zero, List.drop_succ_cons, List.take_succ_cons, List.take_zero] at h0 h1 h2 h3 h4
    obtain ⟨k0, hk0, e0, w0⟩ := DataW.trod_int Tryz.underlying3 h0
    obtain ⟨k1, hk1, e1, w1⟩ := DataW.trod_int Tryz.underlying3 h1
    obtain ⟨s2, hs2, e2, _⟩ := DataW.trod_string Tryz.underlying9 h2
    obtain ⟨b3, hb3, e3⟩ := DataW.trod_bool Tryz.underlying4 h3
    obtain ⟨s4, hs4, e4, _⟩ := DataW.trod_string Tryz.underlying9 h4
    simp at hk0 hk1 hs2 hb3 hs4
    exact ⟨⟨k0, k1, s2.data.toList, b3, s4.data.toList⟩, by rw [hk0, hk1, hs2, hb3, hs4, str_self, str_self], w0, w1⟩

theorem eds_of {fuel : Nat} {v : Value} {d : DataW H} {p : List MemPlace} (h : DataW.trod enc Tryz.prog W base (fun _ => true) held fuel 22 [v] = some (d, p)) :
    ∃ es, Eds W v es ∧ es.length + 1 ≤ Rows.uptoBulk d := by
  rcases open_slice Tryz.underlying22 h with ⟨hc, hx⟩ | ⟨a, len, cap, m, n, D, Pl, hc, hb, hlc, hm, hmm, hx, hel⟩
  · cases hc
    cases hx
    exact ⟨[], ⟨none, 0, rfl, fun h => absurd h (by simp), fun e he => by cases he⟩, by simp [Rows.uptoBulk]⟩
  · cases hc
    cases hx
    rw [if_pos rfl] at hmm
    subst hmm
    have each : ∀ i, i < len → ∃ x : Ed, (∀ j u, [Value.int .i64 x.1, .int .i64 x.2.1, .string (str x.2.2.1), .bool x.2.2.2.1, .string (str x.2.2.2.2)][j]? = some u → W.cell? (a.add (i * 5 + j)) = some u) ∧ (Lit.int .i64 x.1).wf = true ∧ (Lit.int .i64 x.2.1).wf = true := by
      intro i hi
      obtain ⟨cs', h1, h2⟩ := hel i (by omega)
      rw [cells_edge] at h1
      obtain ⟨x, rfl, hwf⟩ := edge_trod h2
      obtain ⟨_, hcl, hcell⟩ := World.cells?_some h1
      refine ⟨x, fun j u hu => ?_, hwf⟩
      have hj : j < 5 := (List.getElem?_eq_some_iff.1 hu).1
      have := hcell j hj
      rw [hu, Addr.add_add] at this
      exact this
    obtain ⟨X, hX⟩ := choose_lt each
    refine ⟨(List.range len).map X, ⟨some a, m, by simp, fun h0 => ?_, fun e he => ?_⟩, ?_⟩
    · have h0 : 0 < len := by simpa using h0
      obtain ⟨ha, hlt⟩ := spot_none ((hX 0 h0).1 0 _ rfl)
      have ea : a.add (0 * 5 + 0) = a := by simp [Addr.add]
      rw [ea] at ha hlt
      have ej : ∀ j, a.add j = ⟨a.block, a.off + j, none⟩ := fun j => by
        rw [ha]
        cases j <;> simp [Addr.add]
      refine ⟨a.block, a.off, by rw [← ha], hlt, fun j hj => ?_⟩
      have hj' : j < len := by simpa using hj
      have q0 := (hX j hj').1 0 _ rfl
      have q1 := (hX j hj').1 1 _ rfl
      have q2 := (hX j hj').1 2 _ rfl
      have q3 := (hX j hj').1 3 _ rfl
      have q4 := (hX j hj').1 4 _ rfl
      rw [ej] at q0 q1 q2 q3 q4
      simp only [List.getElem_map, List.getElem_range]
      exact ⟨q0, q1, q2, q3, q4⟩
    · obtain ⟨i, hi, rfl⟩ := List.mem_map.1 he
      exact (hX i (List.mem_range.1 hi)).2
    · have := bulk_len ((List.range len).map D)
      simp only [List.length_map, List.length_range] at this ⊢
      simp only [Rows.uptoBulk]
      omega
end

end Go.Proofs.YtdpkhapcgbheeaaGreatDoor
