/- A value among the arguments, opened: a tree, and how much it bears. -/
import Derived.Test.YthicgeiljficbaaDoorPtrRow
namespace Go.Proofs.YthicgeiljficbaaDoor
open Go.ChangeShapes Go.WideShapes Go.ChangeAt Go.RowKit Go.Deep Go.Proofs.YthicgeiljficbaaDoor.Ref Go.Proofs.YthicgeiljficbaaDoorW.PrintWords Go.Proofs.YthicgeiljficbaaDoorW.PrintLast
set_option linter.unusedVariables false
set_option linter.unusedSimpArgs false

mutual
/-- values and letters of a tree -/
def bulkT : S28 → Nat
  | ⟨_, n, t, l, ks⟩ => 1 + n.f1.size + t.size + bulkL l + (ks.map fun k => k.size + 1).sum
def bulkL : List S28 → Nat
  | [] => 0
  | x :: xs => bulkT x + bulkL xs
end
theorem bulkT_eq (x : S28) : bulkT x = 1 + x.f1.f1.size + x.f2.size + bulkL x.f3 + (x.f4.map fun k => k.size + 1).sum := by cases x; rw [bulkT]
theorem bulkL_map (n : Nat) (X : Nat → S28) : bulkL ((List.range n).map X) = ((List.range n).map fun i => bulkT (X i)).sum := by
  have : ∀ l : List Nat, bulkL (l.map X) = (l.map fun i => bulkT (X i)).sum := by
    intro l
    induction l with
    | nil => rfl
    | cons a l ih => simp only [List.map_cons, bulkL, ih, List.sum_cons]
  exact this _
theorem bulkAll_map {H : Type} (n : Nat) (D : Nat → DataW H) : Rows.uptoBulkAll ((List.range n).map D) = ((List.range n).map fun i => Rows.uptoBulk (D i)).sum := by
  have : ∀ l : List Nat, Rows.uptoBulkAll (l.map D) = (l.map fun i => Rows.uptoBulk (D i)).sum := by
    intro l
    induction l with
    | nil => rfl
    | cons a l ih => simp only [List.map_cons, Rows.uptoBulkAll, ih, List.sum_cons]
  exact this _
theorem sum_le {n : Nat} {f g : Nat → Nat} (h : ∀ i, i < n → f i ≤ g i) : ((List.range n).map f).sum ≤ ((List.range n).map g).sum := by
  induction n with
  | zero => simp
  | succ n ih =>
    rw [List.range_succ]
    simp only [List.map_append, List.sum_append, List.map_cons, List.map_nil, List.sum_cons, List.sum_nil]
    have := ih fun i hi => h i (by omega)
    have := h n (by omega)
    omega
theorem le_sum {n : Nat} {f : Nat → Nat} : ∀ {i : Nat}, i < n → f i ≤ ((List.range n).map f).sum := by
  induction n with
  | zero => intro i h; omega
  | succ n ih =>
    intro i h
    rw [List.range_succ]
    simp only [List.map_append, List.sum_append, List.map_cons, List.map_nil, List.sum_cons, List.sum_nil]
    rcases Nat.lt_or_ge i n with h' | h'
    · have := ih h'; omega
    · obtain rfl : i = n := by omega
      omega
theorem cells_kind : Tryd.prog.cellsOf 22 = 1 := by kernel_rfl
theorem cells_dec : Tryd.prog.cellsOf 24 = 3 := by kernel_rfl
theorem cells_val : Tryd.prog.cellsOf 28 = 7 := by kernel_rfl
theorem cells_bool : Tryd.prog.cellsOf 4 = 1 := by kernel_rfl
theorem cells_int : Tryd.prog.cellsOf 3 = 1 := by kernel_rfl
theorem cells_vals : Tryd.prog.cellsOf 25 = 1 := by kernel_rfl
theorem cells_strs : Tryd.prog.cellsOf 26 = 1 := by kernel_rfl

section
variable {H : Type} {enc : TypeId × Value → H} {W : World} {base : Nat} {held : Bool}

set_option maxRecDepth 100000 in
/-- a number -/
theorem dec_trod {fuel : Nat} {cs : List Value} {d : DataW H} {p : List MemPlace} (h : DataW.trod enc Tryd.prog W base (fun _ => true) held fuel 24 cs = some (d, p)) :
    ∃ x : S24, cs = [.bool x.f0, .string x.f1, .int .i64 x.f2] ∧ x.f1.size + 1 ≤ Rows.uptoBulk d := by
  obtain ⟨y0, y1, y2, n, hx, hl, h0, h1, h2⟩ := trod_struct3 Tryd.underlying24 h
  rw [cells_dec] at hl
  match cs, hl with
  | [c0, c1, c2], _ =>
    rw [cells_bool] at h0
    rw [cells_str] at h1
    rw [cells_int] at h2
    obtain ⟨b, hb, e0⟩ := DataW.trod_bool Tryd.underlying4 h0
    obtain ⟨s, hs, e1, _⟩ := DataW.trod_string Tryd.underlying9 h1
    obtain ⟨m, hm, e2, _⟩ := DataW.trod_int Tryd.underlying3 h2
    simp at hb hs hm
    refine ⟨⟨b, s, m⟩, by rw [hb, hs, hm], ?_⟩
    cases hx
    rw [e0, e1, e2]
    simp [Rows.uptoBulk, Rows.uptoBulkAll]
    omega
/-- a slice of texts, as the print reads it -/
theorem strs_trod {fuel : Nat} {v : Value} {d : DataW H} {p : List MemPlace} (h : DataW.trod enc Tryd.prog W base (fun _ => true) held fuel 26 [v] = some (d, p)) :
    ∃ (A : Option Addr) (c : Nat) (ks : List ByteArray), v = .slice A ks.length c ∧ ks.length ≤ c ∧ Kd.C Kd.string W A ks.length ks ∧ (ks.map fun k => k.size + 1).sum + 1 ≤ Rows.uptoBulk d := by
  rcases open_strs Tryd.underlying26 Tryd.underlying9 cells_str h with ⟨hc, hx⟩ | ⟨a, len, cap, m, Sx, hc, hb, hl, hm, hmm, hx, hcell⟩
  · cases hc
    cases hx
    exact ⟨none, 0, [], rfl, Nat.le_refl _, Kd.C_nil _ _, by simp [Rows.uptoBulk]⟩
  · cases hc
    cases hx
    rw [if_pos rfl] at hmm
    subst hmm
    refine ⟨some a, m, (List.range len).map Sx, by simp, by simpa using hl, ⟨by simp, by simp; unfold maxLen at hm; omega, fun _ => ⟨a, rfl, fun j q hj => ⟨[.string q], rfl, rfl, fun i u hu => ?_⟩⟩⟩, ?_⟩
    · have hjl : j < len := by
        have := (List.getElem?_eq_some_iff.1 hj).1
        simpa using this
      have hq : q = Sx j := by
        simp [hjl] at hj
        exact hj.symm
      obtain rfl : i = 0 := by
        have := (List.getElem?_eq_some_iff.1 hu).1
        simp at this
        exact this
      have e2 : (Kd.string).sz = 1 := rfl
      rw [e2, Nat.mul_one, Nat.add_zero, (hcell j (by omega)).1, ← hq]
      simpa using hu
    · simp only [Rows.uptoBulk]
      rw [bulkAll_map]
      have : ((List.range len).map fun i => Rows.uptoBulk (DataW.lit (H := H) (.string (Sx i).data.toList))).sum = (((List.range len).map Sx).map fun k => k.size + 1).sum := by
        rw [List.map_map]
        rfl
      omega

set_option maxRecDepth 100000 in
theorem val_trod (N : Nat) : ∀ (fuel : Nat) (cs : List Value) (d : DataW H) (p : List MemPlace), Rows.uptoBulk d ≤ N → DataW.trod enc Tryd.prog W base (fun _ => true) held fuel 28 cs = some (d, p) →
    ∃ (x : S28) (v5 v6 : Value), cs = vcs x v5 v6 ∧ VK W x v5 v6 ∧ bulkT x + 1 ≤ Rows.uptoBulk d := by
  induction N using Nat.strongRecOn with
  | _ N ih =>
    intro fuel cs d p hN h
    obtain ⟨xs, n, rfl, hx, hl, hlen, hf⟩ := DataW.trod_struct Tryd.underlying28 h
    rw [cells_val] at hl
    match cs, hl, xs, hlen with
    | [c0, c1, c2, c3, c4, c5, c6], _, [y0, y1, y2, y3, y4], _ =>
      have h0 : DataW.trod enc Tryd.prog W base (fun _ => true) held n 22 (([c0, c1, c2, c3, c4, c5, c6].drop 0).take (Tryd.prog.cellsOf 22)) = some y0 := hf 0 _ rfl
      rw [cells_kind] at h0
      have h1 : DataW.trod enc Tryd.prog W base (fun _ => true) held n 24 (([c0, c1, c2, c3, c4, c5, c6].drop 1).take (Tryd.prog.cellsOf 24)) = some y1 := hf 1 _ rfl
      rw [cells_dec] at h1
      have h2 : DataW.trod enc Tryd.prog W base (fun _ => true) held n 9 (([c0, c1, c2, c3, c4, c5, c6].drop 4).take (Tryd.prog.cellsOf 9)) = some y2 := hf 2 _ rfl
      rw [cells_str] at h2
      have h3 : DataW.trod enc Tryd.prog W base (fun _ => true) held n 25 (([c0, c1, c2, c3, c4, c5, c6].drop 5).take (Tryd.prog.cellsOf 25)) = some y3 := hf 3 _ rfl
      rw [cells_vals] at h3
      have h4 : DataW.trod enc Tryd.prog W base (fun _ => true) held n 26 (([c0, c1, c2, c3, c4, c5, c6].drop 6).take (Tryd.prog.cellsOf 26)) = some y4 := hf 4 _ rfl
      rw [cells_strs] at h4
      simp only [List.drop_zero, List.drop_succ_cons, List.take_succ_cons, List.take_zero] at h0 h1 h2 h3 h4
      obtain ⟨k, hk, e0, _⟩ := DataW.trod_int Tryd.underlying22 h0
      obtain ⟨x1, hx1, b1⟩ := dec_trod (d := y1.1) (p := y1.2) h1
      obtain ⟨s, hs, e2, _⟩ := DataW.trod_string Tryd.underlying9 h2
      obtain ⟨A6, c6', ks, hv6, hc6, hC6, b4⟩ := strs_trod (d := y4.1) (p := y4.2) h4
      simp at hk hs hx1
      obtain ⟨rfl, rfl, rfl⟩ := hx1
      subst hk
      subst hs
      subst hv6
      have hd : d = .agg [y0.1, y1.1, y2.1, y3.1, y4.1] := by cases hx; rfl
      have e2' : Rows.uptoBulk y2.1 = s.size + 1 := by rw [e2]; rfl
      have e0' : Rows.uptoBulk y0.1 = 1 := by rw [e0]; rfl
      rcases open_slice Tryd.underlying25 (fuel := n) h3 with ⟨hc, hx3⟩ | ⟨a, len, cap, m, n', D, Pl, hc, hb, hlc, hm, hmm, hx3, hel⟩
      · cases hc
        refine ⟨⟨k, x1, s, [], ks⟩, _, _, rfl, ⟨none, 0, A6, c6', rfl, rfl, Nat.le_refl _, Kd.C_nil _ _, hc6, hC6⟩, ?_⟩
        rw [hd, bulkT_eq]
        simp only [Rows.uptoBulk, Rows.uptoBulkAll, bulkL]
        have := one_le y3.1
        omega
      · cases hc
        rw [if_pos rfl] at hmm
        subst hmm
        have hy3 : y3.1 = .slice ((List.range len).map D) ((List.range (m - len)).map fun j => D (len + j)) := by rw [hx3]
        have hb3 : ((List.range len).map fun i => Rows.uptoBulk (D i)).sum + 1 ≤ Rows.uptoBulk y3.1 := by
          rw [hy3]
          simp only [Rows.uptoBulk]
          rw [bulkAll_map]
          omega
        have hlt : ∀ i, i < len → Rows.uptoBulk (D i) < N := by
          intro i hi
          have h1 : Rows.uptoBulk (D i) ≤ ((List.range len).map fun i => Rows.uptoBulk (D i)).sum := le_sum (f := fun i => Rows.uptoBulk (D i)) hi
          have h2 : Rows.uptoBulk y3.1 + 1 ≤ Rows.uptoBulk d := by
            rw [hd]
            simp only [Rows.uptoBulk, Rows.uptoBulkAll]
            omega
          omega
        have each : ∀ i, i < len → ∃ x : S28, (∃ v5 v6, VK W x v5 v6 ∧ ∀ j u, (vcs x v5 v6)[j]? = some u → W.cell? (a.add (i * 7 + j)) = some u) ∧ bulkT x + 1 ≤ Rows.uptoBulk (D i) := by
          intro i hi
          obtain ⟨cs', h1, h2⟩ := hel i (by omega)
          rw [cells_val] at h1
          obtain ⟨x, v5, v6, rfl, hv, hbk⟩ := ih _ (hlt i hi) n' cs' (D i) (Pl i) (Nat.le_refl _) h2
          obtain ⟨_, hcl, hcell⟩ := World.cells?_some h1
          refine ⟨x, ⟨v5, v6, hv, fun j u hu => ?_⟩, hbk⟩
          have hj : j < 7 := (List.getElem?_eq_some_iff.1 hu).1
          have := hcell j hj
          rw [hu, Addr.add_add] at this
          exact this
        haveI : Inhabited S28 := ⟨z28⟩
        obtain ⟨X, hX⟩ := choose_lt each
        refine ⟨⟨k, x1, s, (List.range len).map X, ks⟩, .slice (some a) len m, .slice A6 ks.length c6', rfl, ⟨some a, m, A6, c6', by simp, rfl, by simpa using hlc, ?_, hc6, hC6⟩, ?_⟩
        · refine ⟨by simp, by simp; unfold maxLen at hm; omega, fun _ => ⟨a, rfl, fun j q hj => ?_⟩⟩
          have hjl : j < len := by
            have := (List.getElem?_eq_some_iff.1 hj).1
            simpa using this
          have hq : q = X j := by
            simp [hjl] at hj
            exact hj.symm
          obtain ⟨⟨v5, v6, ⟨A5, c5, A6, c6, rfl, rfl, l5, g5, l6, g6⟩, hcell⟩, _⟩ := hX j hjl
          subst hq
          exact ⟨_, rfl, k28_mk W (X j) l5 g5 l6 g6, hcell⟩
        · rw [hd, bulkT_eq]
          simp only [Rows.uptoBulk, Rows.uptoBulkAll]
          rw [bulkL_map]
          have h1 : ((List.range len).map fun i => bulkT (X i)).sum ≤ ((List.range len).map fun i => Rows.uptoBulk (D i)).sum := sum_le fun i hi => by have := (hX i hi).2; omega
          omega
end

set_option maxRecDepth 100000 in
/-- a value among the arguments -/
theorem val_of {H : Type} {enc : TypeId × Value → H} {W : World} {r : Reach} {base : Nat} {held : Bool} {v : Value} {d : DataW H} {p : List MemPlace} (hv : Value.okWide Tryd.prog W r base 28 v)
    (h : ∃ fuel, DataW.trod enc Tryd.prog W 0 (fun _ => true) held fuel 28 v.cells.toList = some (d, p)) : ∃ (x : S28) (v5 v6 : Value), v = .agg (vcs x v5 v6).toArray ∧ VK W x v5 v6 ∧ bulkT x + 1 ≤ Rows.uptoBulk d := by
  obtain ⟨fuel, hf⟩ := h
  obtain ⟨cs, rfl, _⟩ := okWide_struct Tryd.underlying28 hv
  obtain ⟨x, v5, v6, hc, hV, hb⟩ := val_trod _ fuel _ d p (Nat.le_refl _) hf
  exact ⟨x, v5, v6, by rw [← hc]; simp [Value.cells], hV, hb⟩
end Go.Proofs.YthicgeiljficbaaDoor
