/- Values (api.Value) that lie in memory, read as trees; value.Get. -/
import Derived.Test.YthicgeiljficbaaDoorPtrK
import Derived.Test.YthicgeiljficbaaDoorRef0
namespace Go.Proofs.YthicgeiljficbaaDoor
open Go.RowKit Go.Proofs.YthicgeiljficbaaDoor.Ref Go.Proofs.YthicgeiljficbaaDoorW.PrintWords Go.Proofs.YthicgeiljficbaaDoorW.PrintLast
set_option linter.unusedSimpArgs false
set_option linter.unusedVariables false
set_option linter.unnecessarySimpa false

/-- the cells of a value -/
def vcs (x : S28) (v5 v6 : Value) : List Value := [.int .i64 x.f0, .bool x.f1.f0, .string x.f1.f1, .int .i64 x.f1.f2, .string x.f2, v5, v6]
/-- x lies in W, in these cells -/
def VK (W : World) (x : S28) (v5 v6 : Value) : Prop := ∃ A5 c5 A6 c6, v5 = .slice A5 x.f3.length c5 ∧ v6 = .slice A6 x.f4.length c6 ∧ x.f3.length ≤ c5 ∧ Kd.C k28 W A5 x.f3.length x.f3 ∧ x.f4.length ≤ c6 ∧ Kd.C Kd.string W A6 x.f4.length x.f4
theorem VK.call {W W' : World} {x : S28} {v5 v6 : Value} (h : VK W x v5 v6) (hb : Below W.heap.size W W') : VK W' x v5 v6 := by
  obtain ⟨A5, c5, A6, c6, h1, h2, h3, h4, h5, h6⟩ := h
  exact ⟨A5, c5, A6, c6, h1, h2, h3, Kd.C_below h4 hb, h5, Kd.C_below h6 hb⟩
theorem VK.zero (W : World) : VK W z28 (.slice none 0 0) (.slice none 0 0) := ⟨none, 0, none, 0, rfl, rfl, Nat.le_refl _, Kd.C_nil _ _, Nat.le_refl _, Kd.C_nil _ _⟩

theorem spot_none {w : World} {ad : Addr} {v : Value} (h : w.cell? ad = some v) : ad = ⟨ad.block, ad.off, none⟩ ∧ ad.block < w.heap.size := by
  obtain ⟨b, o, s⟩ := ad
  unfold World.cell? at h
  cases s with
  | some s => simp at h; split at h <;> simp at h
  | none =>
    refine ⟨rfl, ?_⟩
    rcases Nat.lt_or_ge b w.heap.size with h' | h'
    · exact h'
    · simp [Array.getElem?_eq_none h'] at h

/-- the texts of a row that is read -/
theorem C_strs {W : World} {A : Option Addr} {n : Nat} {xs : List ByteArray} (h : Kd.C Kd.string W A n xs) (hn : 0 < n) :
    ∃ b off, A = some ⟨b, off, none⟩ ∧ b < W.heap.size ∧ ∀ j, j < n → W.cell? ⟨b, off + j, none⟩ = some (.string (xs.getD j ByteArray.empty)) := by
  obtain ⟨ad, rfl, h0⟩ := Kd.at_string h 0 (by omega) (by omega)
  have e0 : ad.add (0 : Int).toNat = ad := by simp [Addr.add]
  rw [e0] at h0
  obtain ⟨hs, hlt⟩ := spot_none h0
  refine ⟨ad.block, ad.off, by rw [← hs], hlt, fun j hj => ?_⟩
  obtain ⟨ad2, e2, h2⟩ := Kd.at_string h j (by omega) (by omega)
  cases e2
  have e3 : ad.add (j : Int).toNat = ⟨ad.block, ad.off + j, none⟩ := by
    rw [hs]
    simp only [Int.toNat_natCast]
    by_cases hj0 : j = 0
    · subst hj0; simp [Addr.add]
    · simp [Addr.add, hj0]
  rw [e3] at h2
  rw [h2]
  simp [rdOf]
/-- an element of a row of values -/
theorem C_vals {W : World} {A : Option Addr} {n : Nat} {xs : List S28} (h : Kd.C k28 W A n xs) (hn : 0 < n) :
    ∃ b off, A = some ⟨b, off, none⟩ ∧ b < W.heap.size ∧ ∀ j, j < n → ∃ v5 v6, VK W (xs.getD j z28) v5 v6 ∧ ∀ i u, (vcs (xs.getD j z28) v5 v6)[i]? = some u → W.cell? ⟨b, off + j * 7 + i, none⟩ = some u := by
  obtain ⟨ad, c, rfl, hc, hK, h0⟩ := Kd.C_get h z28 0 (by omega) (by omega)
  have hcl : c.length = 7 := hc
  have h00 := h0 0 (c[0]'(by omega)) (by simp)
  have e0 : ad.add ((0 : Int).toNat * k28.sz + 0) = ad := by simp [Addr.add]
  rw [e0] at h00
  obtain ⟨hs, hlt⟩ := spot_none h00
  refine ⟨ad.block, ad.off, by rw [← hs], hlt, fun j hj => ?_⟩
  obtain ⟨ad2, c2, e2, hc2, hK2, h2⟩ := Kd.C_get h z28 j (by omega) (by omega)
  cases e2
  obtain ⟨A5, c5, A6, c6, rfl, l5, g5, l6, g6⟩ := k28_open hK2
  refine ⟨_, _, ⟨A5, c5, A6, c6, rfl, rfl, l5, g5, l6, g6⟩, fun i u hu => ?_⟩
  have := h2 i u hu
  have e3 : ad.add ((j : Int).toNat * k28.sz + i) = ⟨ad.block, ad.off + j * 7 + i, none⟩ := by
    have hsz : k28.sz = 7 := rfl
    rw [hs, hsz]
    simp only [Int.toNat_natCast]
    by_cases hj0 : j * 7 + i = 0
    · have hj1 : j = 0 := by omega
      have hi1 : i = 0 := by omega
      subst hj1; subst hi1; simp [Addr.add]
    · unfold Addr.add
      rw [if_neg hj0]
      simp [Nat.add_assoc]
  rw [e3] at this
  exact this

/-- what a value found is told as -/
def Found (o : Option S28) (w0 w : World) (e : Ending) (w' : World) : Prop :=
  ∃ v5 v6, e = .returned (.tuple #[.agg (vcs (o.getD z28) v5 v6).toArray, .bool o.isSome]) ∧ VK w0 (o.getD z28) v5 v6 ∧ Below w.heap.size w w'
def getV (ks : List ByteArray) (xs : List S28) (key : ByteArray) : Option S28 := if 0 ≤ Lib.idxOfS ks key then some (xs.getD (Lib.idxOfS ks key).toNat z28) else none
def IdxIs (A : Option Addr) (n c : Nat) (x : ByteArray) (r : Int) : Prop := ∀ w, True → Calls Tryd.prog 67 #[.slice A n c, .string x] w (Ans (.int .i64 r) w)

theorem idxOfS_range (ks : List ByteArray) (key : ByteArray) : -1 ≤ Lib.idxOfS ks key ∧ Lib.idxOfS ks key < ks.length := by
  unfold Lib.idxOfS
  have : ∀ (zs : List ByteArray) (i : Nat), Lib.idxFromS zs key i = -1 ∨ ((i : Int) ≤ Lib.idxFromS zs key i ∧ Lib.idxFromS zs key i < i + zs.length) := by
    intro zs
    induction zs with
    | nil => intro i; left; rfl
    | cons z zs ih =>
      intro i
      unfold Lib.idxFromS
      split
      · right; simp only [List.length_cons]; omega
      · rcases ih (i + 1) with h | ⟨h1, h2⟩
        · exact .inl h
        · right; simp only [List.length_cons]; omega
  rcases this ks 0 with h | ⟨h1, h2⟩ <;> omega

set_option maxRecDepth 100000 in
set_option maxHeartbeats 2000000 in
theorem get_l (x : S28) (v5 v6 : Value) (key : ByteArray) (w0 w : World) (hx : VK w0 x v5 v6) (hb0 : Below w0.heap.size w0 w) (hlen : x.f4.length ≤ x.f3.length) :
    Calls Tryd.prog 50 #[.agg (vcs x v5 v6).toArray, .string key] w (Found (getV x.f4 x.f3 key) w0 w) := by
  have hz0 := hb0.size
  obtain ⟨A5, c5, A6, c6, rfl, rfl, h5, hC5, h6, hC6⟩ := hx
  have hI : ∀ W, W.heap.size = W.heap.size → Below w.heap.size w W → Calls Tryd.prog 67 #[.slice A6 x.f4.length c6, .string key] W (Ans (.int .i64 (Lib.idxOfS x.f4 key)) W) := by
    intro W _ hb
    by_cases h0 : 0 < x.f4.length
    · obtain ⟨b, off, rfl, hlt, hc⟩ := C_strs hC6 h0
      have := Tryd.slices_Index_string b off x.f4.length c6 x.f4 key W (Nat.le_refl _) hC6.2.1 (fun j hj => by rw [hb.cell (p := ⟨b, off + j, none⟩) (by show b < _; omega), hb0.cell (p := ⟨b, off + j, none⟩) hlt]; exact hc j hj)
      rw [List.take_length] at this
      exact this.mono fun _ _ h => ⟨h.1, h.2.symm⟩
    · have hn : x.f4 = [] := List.eq_nil_of_length_eq_zero (by omega)
      rw [hn]
      exact (Tryd.slices_Index_string_empty A6 c6 key W).mono fun _ _ h => ⟨h.1, h.2.symm⟩
  have hr := idxOfS_range x.f4 key
  have HF : Hid (getV x.f4 x.f3 key = if 0 ≤ Lib.idxOfS x.f4 key then some (x.f3.getD (Lib.idxOfS x.f4 key).toNat z28) else none) := rfl
  have HI := Lib.hid hI
  have HC5 := Lib.hid hC5
  generalize Lib.idxOfS x.f4 key = i at *
  generalize getV x.f4 x.f3 key = g at *
  clear hI hC5 hC6
  show Calls Tryd.prog 50 #[.agg #[.int .i64 x.f0, .bool x.f1.f0, .string x.f1.f1, .int .i64 x.f1.f2, .string x.f2, .slice A5 x.f3.length c5, .slice A6 x.f4.length c6], .string key] w _
  by_cases hi : 0 ≤ i
  · obtain ⟨b, off, rfl, hlt, hv⟩ := C_vals HC5.out (by omega)
    obtain ⟨j, rfl⟩ := Int.eq_ofNat_of_zero_le hi
    obtain ⟨u5, u6, hK, hcells⟩ := hv j (by omega)
    rw [if_pos hi, Int.toNat_natCast] at HF
    have k0 := (hb0.cell (p := ⟨b, off + j * 7 + 0, none⟩) hlt).trans (hcells 0 _ rfl)
    have k1 := (hb0.cell (p := ⟨b, off + j * 7 + 1, none⟩) hlt).trans (hcells 1 _ rfl)
    have k2 := (hb0.cell (p := ⟨b, off + j * 7 + 2, none⟩) hlt).trans (hcells 2 _ rfl)
    have k3 := (hb0.cell (p := ⟨b, off + j * 7 + 3, none⟩) hlt).trans (hcells 3 _ rfl)
    have k4 := (hb0.cell (p := ⟨b, off + j * 7 + 4, none⟩) hlt).trans (hcells 4 _ rfl)
    have k5 := (hb0.cell (p := ⟨b, off + j * 7 + 5, none⟩) hlt).trans (hcells 5 _ rfl)
    have k6 := (hb0.cell (p := ⟨b, off + j * 7 + 6, none⟩) hlt).trans (hcells 6 _ rfl)
    have hjl : j < x.f3.length := by omega
    have hmx : x.f3.length ≤ 9223372036854775807 := HC5.out.2.1
    have hlt : b < w.heap.size := by omega
    clear hcells hv
    obtain ⟨B5, d5, B6, d6, rfl, rfl, hrest⟩ := hK
    have HK : Hid (VK w0 (x.f3.getD j z28) (.slice B5 (x.f3.getD j z28).f3.length d5) (.slice B6 (x.f3.getD j z28).f4.length d6)) := ⟨B5, d5, B6, d6, rfl, rfl, hrest⟩
    clear hrest
    generalize x.f3.getD j z28 = y at *
    simp only [Nat.add_zero] at k0
    go_enter Tryd.func50, Tryd.ntmps50
    go_wp2_with (go_at_call 67; refine (HI.out _ rfl (by repeat (first | (with_reducible exact Below.refl _ _) | (with_reducible refine Below.alloc ?_ (by simp) _)))).mono ?_; rintro e w' ⟨rfl, rfl⟩)
    refine bodyPost_ret (v := .tuple #[.agg (vcs y (.slice B5 y.f3.length d5) (.slice B6 y.f4.length d6)).toArray, .bool true]) (by simp [results, Tryd.results50, go_sem, vcs]) rfl ?_
    have hb : Below w.heap.size w ((w.alloc (.cells #[.int .i64 x.f0, .bool x.f1.f0, .string x.f1.f1, .int .i64 x.f1.f2, .string x.f2, .slice (some ⟨b, off, none⟩) x.f3.length c5, .slice A6 x.f4.length c6] 28)).alloc (.cells #[.int .i64 y.f0, .bool y.f1.f0, .string y.f1.f1, .int .i64 y.f1.f2, .string y.f2, .slice B5 y.f3.length d5, .slice B6 y.f4.length d6] 28)) := ((Below.refl _ _).alloc (Nat.le_refl _) _).alloc (by simp) _
    rw [HF.out]
    exact ⟨_, _, rfl, HK.out, hb⟩
  · rw [if_neg hi] at HF
    have hge : decide (0 ≤ i) = false := decide_eq_false hi
    go_enter Tryd.func50, Tryd.ntmps50
    go_wp2_with (go_at_call 67; refine (HI.out _ rfl (by repeat (first | (with_reducible exact Below.refl _ _) | (with_reducible refine Below.alloc ?_ (by simp) _)))).mono ?_; rintro e w' ⟨rfl, rfl⟩)
    refine bodyPost_ret (v := .tuple #[.agg (vcs z28 (.slice none 0 0) (.slice none 0 0)).toArray, .bool false]) (by simp [results, Tryd.results50, go_sem, vcs, z28, z24]) rfl ?_
    rw [HF.out]
    have hb : Below w.heap.size w ((w.alloc (.cells #[.int .i64 x.f0, .bool x.f1.f0, .string x.f1.f1, .int .i64 x.f1.f2, .string x.f2, .slice A5 x.f3.length c5, .slice A6 x.f4.length c6] 28)).alloc (.cells #[.int .i64 0, .bool false, .string ⟨#[]⟩, .int .i64 0, .string ⟨#[]⟩, .slice none 0 0, .slice none 0 0] 28)) := ((Below.refl _ _).alloc (Nat.le_refl _) _).alloc (by simp) _
    exact ⟨_, _, rfl, VK.zero _, hb⟩
end Go.Proofs.YthicgeiljficbaaDoor
