/- pointer.step, pointer.Find over values that are read as trees. -/
import Derived.Test.YthicgeiljficbaaDoorPtrL
import Derived.Lib.AtoiAllCases
namespace Go.Proofs.YthicgeiljficbaaDoor
open Go.RowKit Go.Proofs.YthicgeiljficbaaDoor.Ref Go.Proofs.YthicgeiljficbaaDoorW.PrintWords Go.Proofs.YthicgeiljficbaaDoorW.PrintLast
set_option linter.unusedSimpArgs false
set_option linter.unusedVariables false
set_option linter.unnecessarySimpa false
attribute [local go_sem] vcs

/-- what the variables of the library hold -/
def EnvV (W : World) : Prop := 8 ≤ W.heap.size ∧ Env W ∧ EnvS W ∧ (∃ ev, W.cell? ⟨2, 0, none⟩ = some ev ∧ (ev = .nilIface ∨ ∃ te pe, ev = .iface te pe)) ∧ Lib.TabIs Tryd.prog W "internal/strconv.uint64pow10" .u64 Lib.pow10Tab
theorem glob_pow : Tryd.prog.globalNamed "internal/strconv.uint64pow10" = some 3 := by kernel_rfl
theorem EnvV.below {B : Nat} {W W' : World} (h : EnvV W) (hb : Below B W W') (hB : 8 ≤ B) : EnvV W' := by
  obtain ⟨h0, h1, h2, ⟨ev, h3, h4⟩, h5⟩ := h
  refine ⟨Nat.le_trans h0 hb.size, h1.below hb (by omega), h2.below hb (by show 1 < B; omega), ⟨ev, (hb.cell (p := ⟨2, 0, none⟩) (by show 2 < B; omega)).trans h3, h4⟩, ?_⟩
  unfold Lib.TabIs World.var? at h5 ⊢
  rw [glob_pow] at h5 ⊢
  simp only [Option.bind_some] at h5 ⊢
  rw [hb.block _ (by show 3 < B; omega)]
  exact h5
theorem EnvV.call {W W' : World} (h : EnvV W) (hb : Below W.heap.size W W') : EnvV W' := h.below hb h.1

theorem below_grow' {w : World} (k : Nat) (os : Array Obj) : Below w.heap.size w (Go.Sort.grow (w.drewN k) os) := by
  refine ⟨rfl, rfl, rfl, by simp [Go.Sort.grow], fun i hi => ?_⟩
  exact Go.Sort.heap_grow_old (w.drewN k) os hi
theorem itoa_l (n : Int) (h0 : -9223372036854775808 ≤ n) (h1 : n ≤ 9223372036854775807) (w : World) (he : EnvV w) : Calls Tryd.prog 31 #[.int .i64 n] w (New (.string (str (Lib.itoa n))) w) :=
  (Tryd.strconv_Itoa n h0 h1 w he.2.2.2.2).mono fun _ _ ⟨h, k, os, hw⟩ => ⟨h, hw ▸ below_grow' k os⟩
/-- what a store of a value into a block needs to know of it -/
theorem Blk.seven {W : World} {b : Nat} {x0 x1 x2 x3 x4 x5 x6 : Value} {T : TypeId} (h : Blk W b [x0, x1, x2, x3, x4, x5, x6] T) :
    (W.cell? ⟨b, 0, none⟩ = some x0 ∧ W.cell? ⟨b, 1, none⟩ = some x1 ∧ W.cell? ⟨b, 2, none⟩ = some x2 ∧ W.cell? ⟨b, 3, none⟩ = some x3 ∧ W.cell? ⟨b, 4, none⟩ = some x4 ∧ W.cell? ⟨b, 5, none⟩ = some x5 ∧ W.cell? ⟨b, 6, none⟩ = some x6) ∧
    (W.frozen? ⟨b, 0, none⟩ = false ∧ W.frozen? ⟨b, 1, none⟩ = false ∧ W.frozen? ⟨b, 2, none⟩ = false ∧ W.frozen? ⟨b, 3, none⟩ = false ∧ W.frozen? ⟨b, 4, none⟩ = false ∧ W.frozen? ⟨b, 5, none⟩ = false ∧ W.frozen? ⟨b, 6, none⟩ = false) ∧ W.shape? b = some (T, 7) :=
  ⟨⟨h.cell 0, h.cell 1, h.cell 2, h.cell 3, h.cell 4, h.cell 5, h.cell 6⟩, ⟨h.froz 0, h.froz 1, h.froz 2, h.froz 3, h.froz 4, h.froz 5, h.froz 6⟩, h.shape⟩
/-- how Atoi ends: a number, or none -/
def atoiV (l : List UInt8) : Option Int := match Lib.atoiAll l with
  | .ok v => some v
  | _ => none
def Atoid (o : Option Int) (w : World) (e : Ending) (w' : World) : Prop := Below w.heap.size w w' ∧
  match o with
  | some v => e = .returned (.tuple #[.int .i64 v, .nilIface])
  | none => ∃ n p, e = .returned (.tuple #[.int .i64 n, .iface 105 p])
theorem atoi_l (l : List UInt8) (hl : l.length ≤ 1073741824) (w : World) (he : EnvV w) : Calls Tryd.prog 51 #[.string (str l)] w (Atoid (atoiV l) w) := by
  obtain ⟨h0, h1, ⟨es, h2, h3⟩, ⟨er, h4, h5⟩, h6⟩ := he
  unfold Atoid atoiV
  cases hx : Lib.atoiAll l with
  | ok v =>
    refine (Tryd.strconv_Atoi_ok (str l) (by rw [str_size]; omega) v (by rw [str_data]; exact hx) w).mono ?_
    rintro e w' ⟨h, rfl | ⟨t, rfl⟩⟩
    · exact ⟨Below.refl _ _, h⟩
    · refine ⟨?_, h⟩
      exact Lib.bytesWorld_below _ _ _
  | range =>
    refine (Tryd.strconv_Atoi_range (str l) (by rw [str_size]; omega) (by rw [str_data]; exact hx) er w h4 h5).mono ?_
    rintro e w' ⟨N, h, _, _, hb⟩
    exact ⟨hb, _, _, h⟩
  | _ =>
    refine (Any.strconv_Atoi_syntax Tryd.laysC172 (str l) (by rw [str_size]; omega) (by rw [str_data]; exact hx) es w h2 h3).mono ?_
    rintro e w' ⟨N, h, _, _, hb⟩
    exact ⟨hb, _, _, h⟩
theorem atoiV_bounds {l : List UInt8} {v : Int} (h : atoiV l = some v) : -9223372036854775808 ≤ v ∧ v ≤ 9223372036854775807 := by
  unfold atoiV at h
  cases hx : Lib.atoiAll l with
  | ok u => rw [hx] at h; injection h with h; subst h; exact Lib.atoiAll_bounds hx
  | range => rw [hx] at h; cases h
  | _ => rw [hx] at h; cases h

/-- what a part leads to -/
def stepV (x : S28) (p : List UInt8) : Option S28 :=
  if x.f0 = 6 then getV x.f4 x.f3 (str p)
  else if x.f0 = 5 then (match atoiV p with
    | some n => if Lib.itoa n = p then (if 0 ≤ n then (if n < x.f3.length then some (x.f3.getD n.toNat z28) else none) else none) else none
    | _ => none)
  else none

theorem VK.open {W : World} {x : S28} {v5 v6 : Value} (h : VK W x v5 v6) : ∃ A5 c5 A6 c6, v5 = .slice A5 x.f3.length c5 ∧ v6 = .slice A6 x.f4.length c6 := by
  obtain ⟨A5, c5, A6, c6, h1, h2, _⟩ := h
  exact ⟨A5, c5, A6, c6, h1, h2⟩

def boxed (x : S28) (v5 v6 : Value) : Obj := .cells #[.int .i64 x.f0, .bool x.f1.f0, .string x.f1.f1, .int .i64 x.f1.f2, .string x.f2, v5, v6] 28
set_option maxRecDepth 100000 in
set_option maxHeartbeats 2000000 in
theorem step_obj (x : S28) (v5 v6 : Value) (p : List UInt8) (w0 w : World) (hx : VK w0 x v5 v6) (h0 : Below w0.heap.size w0 w) (hlen : x.f4.length ≤ x.f3.length) (h6 : x.f0 = 6) :
    Calls Tryd.prog 29 #[.agg (vcs x v5 v6).toArray, .string (str p)] w (Found (getV x.f4 x.f3 (str p)) w0 w) := by
  have hb0 : ∀ a b : Obj, Below w.heap.size w ((w.alloc a).alloc b) := fun a b => ((Below.refl _ _).alloc (Nat.le_refl _) _).alloc (by simp) _
  have HG : ∀ a b : Obj, Calls Tryd.prog 50 #[.agg #[.int .i64 x.f0, .bool x.f1.f0, .string x.f1.f1, .int .i64 x.f1.f2, .string x.f2, v5, v6], .string (str p)] ((w.alloc a).alloc b) (Found (getV x.f4 x.f3 (str p)) w0 ((w.alloc a).alloc b)) := fun a b => get_l x v5 v6 (str p) w0 _ hx (h0.trans ((hb0 a b).mono h0.size)) hlen
  obtain ⟨A5, c5, A6, c6, rfl, rfl⟩ := hx.open
  have HG' := Lib.hid HG
  have HB0 := Lib.hid hb0
  clear HG hb0 hx h0
  generalize getV x.f4 x.f3 (str p) = g at *
  show Calls Tryd.prog 29 #[.agg #[.int .i64 x.f0, .bool x.f1.f0, .string x.f1.f1, .int .i64 x.f1.f2, .string x.f2, .slice A5 x.f3.length c5, .slice A6 x.f4.length c6], .string (str p)] w _
  rw [h6] at HG' ⊢
  clear h6
  go_enter Tryd.func29, Tryd.ntmps29
  go_wp2_with fail
  refine (HG'.out _ _).mono ?_
  rintro e w1 ⟨u5, u6, rfl, hK, hb⟩
  have hz := hb.size
  simp only [World.size_alloc] at hz
  obtain ⟨B5, d5, B6, d6, rfl, rfl⟩ := hK.open
  have hk := Blk.call (Blk.new (w.alloc _) [.int .i64 0, .bool false, .string ⟨#[]⟩, .int .i64 0, .string ⟨#[]⟩, .slice none 0 0, .slice none 0 0] 28) hb
  have HB1 := Lib.hid ((HB0.out _ _).trans (hb.mono (by simp; omega)))
  have HK1 := Lib.hid hK
  obtain ⟨⟨a0, a1, a2, a3, a4, a5, a6⟩, ⟨f0, f1, f2, f3, f4, f5, f6⟩, hs⟩ := hk.seven
  clear hb hK
  rw [World.size_alloc] at a0 a1 a2 a3 a4 a5 a6 f0 f1 f2 f3 f4 f5 f6 hs
  clear hk
  go_wp2_with fail
  refine bodyPost_ret (v := .tuple #[.agg (vcs (g.getD z28) (.slice B5 (g.getD z28).f3.length d5) (.slice B6 (g.getD z28).f4.length d6)).toArray, .bool g.isSome]) ?_ rfl ?_
  · simp [results, Tryd.results29, go_sem, vcs, a0, a1, a2, a3, a4, a5, a6, hs]
  · refine ⟨_, _, rfl, HK1.out, ?_⟩
    repeat (first | (with_reducible exact HB1.out) | (with_reducible refine Below.setCell ?_ ?_ _))
    all_goals (show _ ≤ w.heap.size + 1; omega)

theorem step_other (x : S28) (v5 v6 : Value) (p : List UInt8) (w0 w : World) (hx : VK w0 x v5 v6) (h5 : x.f0 ≠ 5) (h6 : x.f0 ≠ 6) :
    Calls Tryd.prog 29 #[.agg (vcs x v5 v6).toArray, .string (str p)] w (Found none w0 w) := by
  obtain ⟨A5, c5, A6, c6, rfl, rfl⟩ := hx.open
  show Calls Tryd.prog 29 #[.agg #[.int .i64 x.f0, .bool x.f1.f0, .string x.f1.f1, .int .i64 x.f1.f2, .string x.f2, .slice A5 x.f3.length c5, .slice A6 x.f4.length c6], .string (str p)] w _
  have e5 : (x.f0 == 5) = false := by simpa using h5
  have e6 : (x.f0 == 6) = false := by simpa using h6
  go_enter Tryd.func29, Tryd.ntmps29
  go_wp2_with fail
  refine bodyPost_ret (v := .tuple #[.agg (vcs z28 (.slice none 0 0) (.slice none 0 0)).toArray, .bool false]) (by simp [results, Tryd.results29, go_sem, vcs, z28, z24]) rfl ?_
  refine ⟨_, _, rfl, VK.zero _, ?_⟩
  exact ((Below.refl _ _).alloc (Nat.le_refl _) _).alloc (by simp) _

/-- the way behind Atoi -/
def arrV (x : S28) (p : List UInt8) : Option S28 := match atoiV p with
    | some n => if Lib.itoa n = p then (if 0 ≤ n then (if n < x.f3.length then some (x.f3.getD n.toNat z28) else none) else none) else none
    | _ => none
set_option maxRecDepth 100000 in
set_option maxHeartbeats 2000000 in
theorem step_arr (x : S28) (v5 v6 : Value) (p : List UInt8) (hp : p.length ≤ 1073741824) (w0 w : World) (hx : VK w0 x v5 v6) (h0 : Below w0.heap.size w0 w) (he : EnvV w) (h5 : x.f0 = 5) :
    Calls Tryd.prog 29 #[.agg (vcs x v5 v6).toArray, .string (str p)] w (Found (arrV x p) w0 w) := by
  have hb0 : ∀ a b : Obj, Below w.heap.size w ((w.alloc a).alloc b) := fun a b => ((Below.refl _ _).alloc (Nat.le_refl _) _).alloc (by simp) _
  have HA := Lib.hid (fun a b : Obj => atoi_l p hp ((w.alloc a).alloc b) (he.call (hb0 a b)))
  have HE := Lib.hid he
  have HX := Lib.hid hx
  obtain ⟨A5, c5, A6, c6, rfl, rfl, hl5, hC5, -, -⟩ := hx
  have hmx : x.f3.length ≤ 9223372036854775807 := hC5.2.1
  have HB0 := Lib.hid hb0
  have hz0 := h0.size
  have H0 := Lib.hid h0
  have HC5 := Lib.hid hC5
  have HR : Hid (arrV x p = match atoiV p with
    | some n => if Lib.itoa n = p then (if 0 ≤ n then (if n < x.f3.length then some (x.f3.getD n.toNat z28) else none) else none) else none
    | _ => none) := rfl
  clear hb0 he h0 hC5
  show Calls Tryd.prog 29 #[.agg #[.int .i64 x.f0, .bool x.f1.f0, .string x.f1.f1, .int .i64 x.f1.f2, .string x.f2, .slice A5 x.f3.length c5, .slice A6 x.f4.length c6], .string (str p)] w _
  rw [h5]
  clear h5
  have hzv : Found none w0 w (.returned (.tuple #[.agg (vcs z28 (.slice none 0 0) (.slice none 0 0)).toArray, .bool false])) w := ⟨_, _, rfl, VK.zero _, Below.refl _ _⟩
  clear hzv
  go_enter Tryd.func29, Tryd.ntmps29
  go_wp2_with fail
  refine (HA.out _ _).mono ?_
  rintro e w1 ⟨hb, he⟩
  have hz := hb.size
  simp only [World.size_alloc] at hz
  have hk := Blk.call (Blk.new (w.alloc _) [.int .i64 0, .bool false, .string ⟨#[]⟩, .int .i64 0, .string ⟨#[]⟩, .slice none 0 0, .slice none 0 0] 28) hb
  have hk2 := Blk.call (Blk.alloc (Blk.new w [.int .i64 5, .bool x.f1.f0, .string x.f1.f1, .int .i64 x.f1.f2, .string x.f2, .slice A5 x.f3.length c5, .slice A6 x.f4.length c6] 28) _) hb
  rw [World.size_alloc] at hk
  have HB1 := Lib.hid ((HB0.out _ _).trans (hb.mono (by simp; omega)))
  have HK := Lib.hid hk
  have HK2 := Lib.hid hk2
  have h3 := HK2.out.cell 5
  simp only [List.getElem?_cons_succ, List.getElem?_cons_zero] at h3
  have HE1 := Lib.hid (HE.out.call HB1.out)
  clear hb hk hk2
  by_cases hok : ∃ n, atoiV p = some n
  · obtain ⟨n, hn⟩ := hok
    have hbd := atoiV_bounds hn
    rw [hn] at he HR
    obtain rfl := he
    have HI := Lib.hid (itoa_l n hbd.1 hbd.2 w1 HE1.out)
    have e1 := str_toList (Lib.itoa n)
    have e2 := str_toList p
    have hq : Hid (Lib.itoa n = p ↔ (Lib.itoa n == p) = true) := by unfold Hid; simp
    have HR' : Hid (arrV x p = if Lib.itoa n = p then (if 0 ≤ n then (if n < x.f3.length then some (x.f3.getD n.toNat z28) else none) else none) else none) := HR.out
    clear HR hn
    generalize Lib.itoa n = q at *
    by_cases hqp : (q == p) = true
    · have hqp' := hq.out.2 hqp
      rw [if_pos hqp'] at HR'
      clear hqp' hq
      by_cases h0 : 0 ≤ n
      · have hd0 : decide (0 ≤ n) = true := decide_eq_true h0
        rw [if_pos h0] at HR'
        by_cases h1 : n < x.f3.length
        · have hd1 : decide (n < (x.f3.length : Int)) = true := decide_eq_true h1
          rw [if_pos h1] at HR'
          obtain ⟨j, rfl⟩ := Int.eq_ofNat_of_zero_le h0
          obtain ⟨b, off, rfl, hlt, hv⟩ := C_vals HC5.out (by omega)
          obtain ⟨u5, u6, hK, hcells⟩ := hv j (by omega)
          have k0 := hcells 0 _ rfl
          have k1 := hcells 1 _ rfl
          have k2 := hcells 2 _ rfl
          have k3 := hcells 3 _ rfl
          have k4 := hcells 4 _ rfl
          have k5 := hcells 5 _ rfl
          have k6 := hcells 6 _ rfl
          obtain ⟨B5, d5, B6, d6, rfl, rfl⟩ := hK.open
          have HK7 := Lib.hid hK
          clear hcells hv hK
          simp only [Nat.add_zero] at k0
          rw [Int.toNat_natCast] at HR'
          generalize x.f3.getD j z28 = y at *
          have HR2 := Lib.hid HR'
          clear HR'
          go_wp2_with (go_at_call 31; refine HI.out.mono ?_; rintro e w2 ⟨rfl, hb2⟩; have hk' := HK.out.call hb2; have hk2' := HK2.out.call hb2; have h5' := hk2'.cell 5; simp only [List.getElem?_cons_succ, List.getElem?_cons_zero] at h5'; obtain ⟨⟨a0, a1, a2, a3, a4, a5, a6⟩, ⟨f0, f1, f2, f3, f4, f5, f6⟩, hs⟩ := hk'.seven; have HB2 := Lib.hid (HB1.out.trans (hb2.mono HB1.out.size)); have hw := H0.out.trans (HB2.out.mono hz0); have c0 := (hw.cell (p := ⟨b, off + j * 7, none⟩) hlt).trans k0; have c1 := (hw.cell (p := ⟨b, off + j * 7 + 1, none⟩) hlt).trans k1; have c2 := (hw.cell (p := ⟨b, off + j * 7 + 2, none⟩) hlt).trans k2; have c3 := (hw.cell (p := ⟨b, off + j * 7 + 3, none⟩) hlt).trans k3; have c4 := (hw.cell (p := ⟨b, off + j * 7 + 4, none⟩) hlt).trans k4; have c5' := (hw.cell (p := ⟨b, off + j * 7 + 5, none⟩) hlt).trans k5; have c6' := (hw.cell (p := ⟨b, off + j * 7 + 6, none⟩) hlt).trans k6; clear hw k0 k1 k2 k3 k4 k5 k6; clear hk' hk2' hb2)
          refine bodyPost_ret (v := .tuple #[.agg (vcs y (.slice B5 y.f3.length d5) (.slice B6 y.f4.length d6)).toArray, .bool true]) (by simp [results, Tryd.results29, go_sem, vcs, a0, a1, a2, a3, a4, a5, a6, hs]) rfl ?_
          rw [HR2.out]
          refine ⟨_, _, rfl, HK7.out, ?_⟩
          repeat (first | (with_reducible exact HB2.out) | (with_reducible refine Below.setCell ?_ ?_ _))
          all_goals (show _ ≤ w.heap.size + 1; omega)
        · have hd1 : decide (n < (x.f3.length : Int)) = false := decide_eq_false h1
          rw [if_neg h1] at HR'
          have HR2 := Lib.hid HR'
          clear HR'
          obtain ⟨j, rfl⟩ := Int.eq_ofNat_of_zero_le h0
          go_wp2_with (go_at_call 31; refine HI.out.mono ?_; rintro e w2 ⟨rfl, hb2⟩; have hk' := HK.out.call hb2; have hk2' := HK2.out.call hb2; have h5' := hk2'.cell 5; simp only [List.getElem?_cons_succ, List.getElem?_cons_zero] at h5'; obtain ⟨⟨a0, a1, a2, a3, a4, a5, a6⟩, ⟨f0, f1, f2, f3, f4, f5, f6⟩, hs⟩ := hk'.seven; have HB2 := Lib.hid (HB1.out.trans (hb2.mono HB1.out.size)); clear hk' hk2' hb2)
          refine bodyPost_ret (v := .tuple #[.agg (vcs z28 (.slice none 0 0) (.slice none 0 0)).toArray, .bool false]) (by simp [results, Tryd.results29, go_sem, vcs, z28, z24, a0, a1, a2, a3, a4, a5, a6, hs]) rfl ?_
          rw [HR2.out]
          refine ⟨_, _, rfl, VK.zero _, ?_⟩
          repeat (first | (with_reducible exact HB2.out) | (with_reducible refine Below.setCell ?_ ?_ _))
          all_goals (show _ ≤ w.heap.size + 1; omega)
      · have hd0 : decide (0 ≤ n) = false := decide_eq_false h0
        rw [if_neg h0] at HR'
        have HR2 := Lib.hid HR'
        clear HR'
        go_wp2_with (go_at_call 31; refine HI.out.mono ?_; rintro e w2 ⟨rfl, hb2⟩; have hk' := HK.out.call hb2; have hk2' := HK2.out.call hb2; have h5' := hk2'.cell 5; simp only [List.getElem?_cons_succ, List.getElem?_cons_zero] at h5'; obtain ⟨⟨a0, a1, a2, a3, a4, a5, a6⟩, ⟨f0, f1, f2, f3, f4, f5, f6⟩, hs⟩ := hk'.seven; have HB2 := Lib.hid (HB1.out.trans (hb2.mono HB1.out.size)); clear hk' hk2' hb2)
        refine bodyPost_ret (v := .tuple #[.agg (vcs z28 (.slice none 0 0) (.slice none 0 0)).toArray, .bool false]) (by simp [results, Tryd.results29, go_sem, vcs, z28, z24, a0, a1, a2, a3, a4, a5, a6, hs]) rfl ?_
        rw [HR2.out]
        refine ⟨_, _, rfl, VK.zero _, ?_⟩
        repeat (first | (with_reducible exact HB2.out) | (with_reducible refine Below.setCell ?_ ?_ _))
        all_goals (show _ ≤ w.heap.size + 1; omega)
    · have hqp' : ¬ q = p := fun h => hqp (hq.out.1 h)
      rw [if_neg hqp'] at HR'
      have hqf : (q == p) = false := by simpa using hqp
      have HR2 := Lib.hid HR'
      clear HR' hqp' hq hqp
      go_wp2_with (go_at_call 31; refine HI.out.mono ?_; rintro e w2 ⟨rfl, hb2⟩; have hk' := HK.out.call hb2; have hk2' := HK2.out.call hb2; have h5' := hk2'.cell 5; simp only [List.getElem?_cons_succ, List.getElem?_cons_zero] at h5'; obtain ⟨⟨a0, a1, a2, a3, a4, a5, a6⟩, ⟨f0, f1, f2, f3, f4, f5, f6⟩, hs⟩ := hk'.seven; have HB2 := Lib.hid (HB1.out.trans (hb2.mono HB1.out.size)); clear hk' hk2' hb2)
      refine bodyPost_ret (v := .tuple #[.agg (vcs z28 (.slice none 0 0) (.slice none 0 0)).toArray, .bool false]) (by simp [results, Tryd.results29, go_sem, vcs, z28, z24, a0, a1, a2, a3, a4, a5, a6, hs]) rfl ?_
      rw [HR2.out]
      refine ⟨_, _, rfl, VK.zero _, ?_⟩
      repeat (first | (with_reducible exact HB2.out) | (with_reducible refine Below.setCell ?_ ?_ _))
      all_goals (show _ ≤ w.heap.size + 1; omega)
  · have hn : atoiV p = none := by
      cases h : atoiV p with
      | none => rfl
      | some n => exact absurd ⟨n, h⟩ hok
    have hr : arrV x p = none := by rw [HR.out, hn]
    have he' : ∃ n q, e = .returned (.tuple #[.int .i64 n, .iface 105 q]) := by rw [hn] at he; exact he
    clear hn
    obtain ⟨n, q, rfl⟩ := he'
    have HRR := Lib.hid hr
    obtain ⟨⟨a0, a1, a2, a3, a4, a5, a6⟩, ⟨f0, f1, f2, f3, f4, f5, f6⟩, hs⟩ := HK.out.seven
    clear he HR hr hok
    go_wp2_with fail
    refine bodyPost_ret (v := .tuple #[.agg (vcs z28 (.slice none 0 0) (.slice none 0 0)).toArray, .bool false]) (by simp [results, Tryd.results29, go_sem, vcs, z28, z24, a0, a1, a2, a3, a4, a5, a6, hs]) rfl ?_
    rw [HRR.out]
    refine ⟨_, _, rfl, VK.zero _, ?_⟩
    repeat (first | (with_reducible exact HB1.out) | (with_reducible refine Below.setCell ?_ ?_ _))
    all_goals (show _ ≤ w.heap.size + 1; omega)

theorem step_l (x : S28) (v5 v6 : Value) (p : List UInt8) (hp : p.length ≤ 1073741824) (w0 w : World) (hx : VK w0 x v5 v6) (h0 : Below w0.heap.size w0 w) (he : EnvV w) (hlen : x.f0 = 6 → x.f4.length ≤ x.f3.length) :
    Calls Tryd.prog 29 #[.agg (vcs x v5 v6).toArray, .string (str p)] w (Found (stepV x p) w0 w) := by
  unfold stepV
  by_cases h6 : x.f0 = 6
  · rw [if_pos h6]; exact step_obj x v5 v6 p w0 w hx h0 (hlen h6) h6
  · rw [if_neg h6]
    by_cases h5 : x.f0 = 5
    · rw [if_pos h5]; exact step_arr x v5 v6 p hp w0 w hx h0 he h5
    · rw [if_neg h5]; exact step_other x v5 v6 p w0 w hx h5 h6
end Go.Proofs.YthicgeiljficbaaDoor
