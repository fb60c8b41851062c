/- What the row of caliperlaw24.ReportPlaces needs: the variables that it lists, a world that holds them; misses among the arguments, opened. -/
import Derived.Test.YtjajdppmbkfkjaaGreatDoorRows
import Derived.Test.YtjajdppmbkfkjaaGreatDoorEvD
import Derived.Test.YtjajdppmbkfkjaaGreatDoorPlA
import Derived.WalkKit
import Derived.ProofKit
import Derived.OpenShut
import Derived.Deep.DeepHandedRow
import Derived.Deep.DeepWitnessRowRef
import Derived.Deep.Strs
import Derived.Lib.LaidTab
import Derived.Lib.LaidIn
import Derived.Lib.LaidU8
import Derived.LaidHandle
import Derived.Deep.DeepLaidRun
import Derived.Shelf.Vars
namespace Go.Proofs.YtjajdppmbkfkjaaGreatDoor
open Go.ChangeShapes Go.WideShapes Go.ChangeAt Go.RowKit Go.Deep
set_option linter.unusedVariables false
set_option linter.unusedSimpArgs false

theorem own : ownKnob Tryz.prog.godebug = none := by kernel_rfl
theorem laidOut : laidOutB Tryz.prog = true := by kernel_rfl

/-- what the walks need of a world in which the row's call begins -/
def EnvV (W : World) : Prop := 8 ≤ W.heap.size
theorem heads_any (W : World) (h : EnvV W) : Calls Tryz.prog 7 #[] W fun r w' => r = .returned (.bool true) ∧ Below W.heap.size W w' := Ev.heads_l W h
/-- the row's list -/
def laidL : List (String × DataW Unit) := Rows.reportPlacesUptoRow.laid
theorem env_of {W : World} (hL : laidMetH Tryz.prog laidL W) (hS : W.ShapedOpen Tryz.prog) : EnvV W := by
  have hsz : 8 ≤ W.heap.size := by
    have hz : ∃ zero t, ((begin Tryz.prog (fun _ _ => 0) default).world.heap[7]?).bind Obj.row? = some (zero, t) := by
      have : (((begin Tryz.prog (fun _ _ => 0) default).world.heap[7]?).bind Obj.row?).isSome = true := by kernel_rfl
      obtain ⟨x, hx⟩ := Option.isSome_iff_exists.1 this
      exact ⟨x.1, x.2, hx⟩
    obtain ⟨zero, t, hz⟩ := hz
    obtain ⟨cs, h, _⟩ := hS.1 7 zero t (of_decide_eq_true (by kernel_rfl)) hz
    have := (Array.getElem?_eq_some_iff.1 h).1
    omega
  exact hsz

/-- a world for the witnesses -/
noncomputable def laidWorld (os : Os) : World :=
  let w0 := World.holding Tryz.prog os ⟨#[], #[], []⟩
  let put (h : Array Obj) (g : Nat) (cs : Array Value) : Array Obj := h.modify g fun
    | .cells _ t frozen => .cells cs t frozen
    | o => o
  let h1 := put w0.heap 1 #[.int .u8 0, .int .u8 1, .int .u8 28, .int .u8 2, .int .u8 29, .int .u8 14, .int .u8 24, .int .u8 3, .int .u8 30, .int .u8 22, .int .u8 20, .int .u8 15, .int .u8 25, .int .u8 17, .int .u8 4, .int .u8 8, .int .u8 31, .int .u8 27, .int .u8 13, .int .u8 23, .int .u8 21, .int .u8 19, .int .u8 16, .int .u8 7, .int .u8 26, .int .u8 12, .int .u8 18, .int .u8 6, .int .u8 11, .int .u8 5, .int .u8 10, .int .u8 9]
  let h2 := put h1 2 #[.int .u8 0, .int .u8 1, .int .u8 56, .int .u8 2, .int .u8 57, .int .u8 49, .int .u8 28, .int .u8 3, .int .u8 61, .int .u8 58, .int .u8 42, .int .u8 50, .int .u8 38, .int .u8 29, .int .u8 17, .int .u8 4, .int .u8 62, .int .u8 47, .int .u8 59, .int .u8 36, .int .u8 45, .int .u8 43, .int .u8 51, .int .u8 22, .int .u8 53, .int .u8 39, .int .u8 33, .int .u8 30, .int .u8 24, .int .u8 18, .int .u8 12, .int .u8 5, .int .u8 63, .int .u8 55, .int .u8 48, .int .u8 27, .int .u8 60, .int .u8 41, .int .u8 37, .int .u8 16, .int .u8 46, .int .u8 35, .int .u8 44, .int .u8 21, .int .u8 52, .int .u8 32, .int .u8 23, .int .u8 11, .int .u8 54, .int .u8 26, .int .u8 40, .int .u8 15, .int .u8 34, .int .u8 20, .int .u8 31, .int .u8 10, .int .u8 25, .int .u8 14, .int .u8 19, .int .u8 9, .int .u8 13, .int .u8 8, .int .u8 7, .int .u8 6]
  let h3 := put h2 0 #[.int .u64 1, .int .u64 10, .int .u64 100, .int .u64 1000, .int .u64 10000, .int .u64 100000, .int .u64 1000000, .int .u64 10000000, .int .u64 100000000, .int .u64 1000000000, .int .u64 10000000000, .int .u64 100000000000, .int .u64 1000000000000, .int .u64 10000000000000, .int .u64 100000000000000, .int .u64 1000000000000000, .int .u64 10000000000000000, .int .u64 100000000000000000, .int .u64 1000000000000000000, .int .u64 10000000000000000000]
  let h4 := put h3 4 #[.int .u8 128, .int .u8 191, .int .u8 160, .int .u8 191, .int .u8 128, .int .u8 159, .int .u8 144, .int .u8 191, .int .u8 128, .int .u8 143, .int .u8 0, .int .u8 0, .int .u8 0, .int .u8 0, .int .u8 0, .int .u8 0, .int .u8 0, .int .u8 0, .int .u8 0, .int .u8 0, .int .u8 0, .int .u8 0, .int .u8 0, .int .u8 0, .int .u8 0, .int .u8 0, .int .u8 0, .int .u8 0, .int .u8 0, .int .u8 0, .int .u8 0, .int .u8 0]
  let h7 := put h4 3 (Lib.firstTab.map fun z => Value.int .u8 z).toArray
  { w0 with heap := h7 }
set_option maxRecDepth 1000000 in
theorem laid_met (os : Os) (args : Array Value) : laidMet Tryz.prog laidL ((laidWorld os).forCall (fun _ _ => 0) ⟨#[], args, []⟩).memory :=
  laidMet_of_run' 8 (by kernel_rfl) (by kernel_rfl)

/-! ### Bulk -/
theorem one_le {H : Type} (d : DataW H) : 1 ≤ Rows.uptoBulk d := by
  cases d with
  | lit l => cases l <;> simp [Rows.uptoBulk]
  | nil => simp [Rows.uptoBulk]
  | ptr d => simp [Rows.uptoBulk]
  | slice elems spare => simp [Rows.uptoBulk]
  | agg parts => simp [Rows.uptoBulk]
  | iface t d => simp [Rows.uptoBulk]
  | map entries => simp [Rows.uptoBulk]
  | held h => simp [Rows.uptoBulk]
theorem bulk_len {H : Type} : ∀ l : List (DataW H), l.length ≤ Rows.uptoBulkAll l
  | [] => by simp [Rows.uptoBulkAll]
  | x :: l => by
    have h1 := one_le x
    have h2 := bulk_len l
    simp only [Rows.uptoBulkAll, List.length_cons]
    omega

theorem cells_str : Tryz.prog.cellsOf 9 = 1 := by kernel_rfl
theorem cells_int : Tryz.prog.cellsOf 3 = 1 := by kernel_rfl
theorem cells_miss : Tryz.prog.cellsOf 29 = 3 := by kernel_rfl
theorem spot_none {w : World} {ad : Addr} {v : Value} (h : w.cell? ad = some v) : ad = ⟨ad.block, ad.off, none⟩ ∧ ad.block < w.heap.size := by
  obtain ⟨b, o, s⟩ := ad
  unfold World.cell? at h
  cases s with
  | some s => simp at h; split at h <;> simp at h
  | none =>
    refine ⟨rfl, ?_⟩
    rcases Nat.lt_or_ge b w.heap.size with h' | h'
    · exact h'
    · simp [Array.getElem?_eq_none h'] at h
theorem choose_lt {α : Type} [Inhabited α] {n : Nat} {p : Nat → α → Prop} (h : ∀ i, i < n → ∃ x, p i x) : ∃ X : Nat → α, ∀ i, i < n → p i (X i) :=
  ⟨fun i => if hi : i < n then Classical.choose (h i hi) else default, fun i hi => by simp only [hi, dif_pos]; exact Classical.choose_spec (h i hi)⟩

section
variable {H : Type} {enc : TypeId × Value → H} {W : World} {base : Nat} {held : Bool}
set_option maxRecDepth 100000 in
theorem miss_trod {fuel : Nat} {cs : List Value} {d : DataW H} {p : List MemPlace} (h : DataW.trod enc Tryz.prog W base (fun _ => true) held fuel 29 cs = some (d, p)) :
    ∃ x : Mi, cs = [.int .i64 x.1, .int .i64 x.2.1, .string (str x.2.2)] := by
  obtain ⟨y0, y1, y2, n, hx, hl, h0, h1, h2⟩ := trod_struct3 Tryz.underlying29 h
  rw [cells_miss] at hl
  match cs, hl with
  | [c0, c1, c2], _ =>
    rw [cells_int] at h0 h1
    rw [cells_str] at h2
    obtain ⟨b, hb, e0⟩ := DataW.trod_int Tryz.underlying3 h0
    obtain ⟨m, hm, e1⟩ := DataW.trod_int Tryz.underlying3 h1
    obtain ⟨s, hs, e2, _⟩ := DataW.trod_string Tryz.underlying9 h2
    simp at hb hs hm
    exact ⟨⟨b, m, s.data.toList⟩, by rw [hb, hs, hm, str_self]⟩

theorem mss_of {fuel : Nat} {v : Value} {d : DataW H} {p : List MemPlace} (h : DataW.trod enc Tryz.prog W base (fun _ => true) held fuel 22 [v] = some (d, p)) :
    ∃ ms, Mss W v ms ∧ ms.length + 1 ≤ Rows.uptoBulk d := by
  rcases open_slice Tryz.underlying22 h with ⟨hc, hx⟩ | ⟨a, len, cap, m, n, D, Pl, hc, hb, hlc, hm, hmm, hx, hel⟩
  · cases hc
    cases hx
    exact ⟨[], ⟨none, 0, rfl, fun h => absurd h (by simp)⟩, by simp [Rows.uptoBulk]⟩
  · cases hc
    cases hx
    rw [if_pos rfl] at hmm
    subst hmm
    have each : ∀ i, i < len → ∃ x : Mi, ∀ j u, [Value.int .i64 x.1, .int .i64 x.2.1, .string (str x.2.2)][j]? = some u → W.cell? (a.add (i * 3 + j)) = some u := by
      intro i hi
      obtain ⟨cs', h1, h2⟩ := hel i (by omega)
      rw [cells_miss] at h1
      obtain ⟨x, rfl⟩ := miss_trod h2
      obtain ⟨_, hcl, hcell⟩ := World.cells?_some h1
      refine ⟨x, fun j u hu => ?_⟩
      have hj : j < 3 := (List.getElem?_eq_some_iff.1 hu).1
      have := hcell j hj
      rw [hu, Addr.add_add] at this
      exact this
    obtain ⟨X, hX⟩ := choose_lt each
    refine ⟨(List.range len).map X, ⟨some a, m, by simp, fun h0 => ?_⟩, ?_⟩
    · have h0 : 0 < len := by simpa using h0
      obtain ⟨ha, hlt⟩ := spot_none (hX 0 h0 0 _ rfl)
      have ea : a.add (0 * 3 + 0) = a := by simp [Addr.add]
      rw [ea] at ha hlt
      have ej : ∀ j, a.add j = ⟨a.block, a.off + j, none⟩ := fun j => by
        rw [ha]
        cases j <;> simp [Addr.add]
      refine ⟨a.block, a.off, by rw [← ha], hlt, fun j hj => ?_⟩
      have hj' : j < len := by simpa using hj
      have q0 := hX j hj' 0 _ rfl
      have q1 := hX j hj' 1 _ rfl
      have q2 := hX j hj' 2 _ rfl
      rw [ej] at q0 q1 q2
      simp only [List.getElem_map, List.getElem_range]
      exact ⟨q0, q1, q2⟩
    · have := bulk_len ((List.range len).map D)
      simp only [List.length_map, List.length_range] at this ⊢
      simp only [Rows.uptoBulk]
      omega
end

/-! ### The law's body -/
set_option maxRecDepth 100000 in
set_option maxHeartbeats 2000000 in
theorem rp_l (v : Value) (ms : List Mi) (w : World) (h : Mss w v ms) (hn : ms.length ≤ 1048576) (he : EnvV w) :
    Calls Tryz.prog 3 #[v] w (New (.bool true) w) := by
  have H1 := Lib.hid (places_l v ms w h (by omega))
  have H2 : Hid (∀ W, Below w.heap.size w W → Calls Tryz.prog 6 #[v] W (Told W (uq ms ms.length))) := by
    intro W hb
    refine places_r v ms W ?_ (by omega)
    obtain ⟨a, cap, rfl, hc⟩ := h
    refine ⟨a, cap, rfl, fun h0 => ?_⟩
    obtain ⟨b, off, rfl, hlt, hcell⟩ := hc h0
    refine ⟨b, off, rfl, Nat.lt_of_lt_of_le hlt hb.size, fun j hj => ?_⟩
    rw [hb.cell (p := ⟨b, off + j * 3, none⟩) hlt, hb.cell (p := ⟨b, off + j * 3 + 1, none⟩) hlt, hb.cell (p := ⟨b, off + j * 3 + 2, none⟩) hlt]
    exact hcell j hj
  have H5 : Hid (∀ W, Below w.heap.size w W → Calls Tryz.prog 7 #[] W (New (.bool true) W)) := fun W hb => heads_any W (Nat.le_trans he hb.size)
  have hul := uq_len ms ms.length
  generalize uq ms ms.length = ys at *
  clear h he
  go_enter Tryz.func3, Tryz.ntmps3
  go_wp2_with fail
  refine H1.out.mono ?_
  rintro e w1 ⟨v1, rfl, ht1, hb1⟩
  have HB1 := Lib.hid hb1
  have HT1 := Lib.hid ht1
  clear hb1 ht1
  go_wp2_with fail
  refine (H2.out _ HB1.out).mono ?_
  rintro e w2 ⟨v2, rfl, ht2, hb2⟩
  have HB2 := Lib.hid (HB1.out.trans (hb2.mono HB1.out.size))
  have HT2 := Lib.hid ht2
  have HT1' := Lib.hid (HT1.out.call hb2)
  clear hb2 ht2 HT1
  go_wp2_with fail
  refine (texts_l v1 v2 ys ys w2 HT1'.out HT2.out (by omega) (by omega)).mono ?_
  rintro e w3 ⟨rfl, hb3⟩
  have HB3 := Lib.hid (HB2.out.trans (hb3.mono HB2.out.size))
  clear hb3
  rw [decide_eq_true rfl]
  go_wp2_with fail
  refine (H5.out _ HB3.out).mono ?_
  rintro e w5 ⟨rfl, hb5⟩
  have HB5 := Lib.hid (HB3.out.trans (hb5.mono HB3.out.size))
  clear hb5
  go_wp2_with fail
  go_ret
  exact ⟨rfl, HB5.out⟩
end Go.Proofs.YtjajdppmbkfkjaaGreatDoor
