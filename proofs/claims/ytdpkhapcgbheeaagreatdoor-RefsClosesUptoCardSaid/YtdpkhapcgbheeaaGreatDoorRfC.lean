/- refs.Reach: a map of edges, a search that goes down. -/
import Derived.Test.YtdpkhapcgbheeaaGreatDoorRfB
import Derived.Maps.OwnOps
import Derived.Maps.OwnRows
import Derived.Maps.GroupsBeside
import Derived.Deep.RegionHeld3
import Derived.Laws.EntriesVeiled
namespace Go.Proofs.YtdpkhapcgbheeaaGreatDoor
open Go.RowKit Go.Maps Go.ChangeShapes
open Go.ChangeMaps (setBlock)
set_option linter.unusedSimpArgs false
set_option linter.unusedVariables false
set_option linter.unnecessarySimpa false

abbrev DU := DataW Unit

theorem law_i : Keyed Tryz.prog 3 := int_keyed Tryz.underlying3
theorem zero_g (w : World) : (zeroValue 25).run Tryz.prog w = .ok (.slice none 0 0) w := by kernel_rfl
theorem zero_i (w : World) : (zeroValue 3).run Tryz.prog w = .ok (.int .i64 0) w := by kernel_rfl

/-- what the map of edges holds: to each number those that it leads to -/
def Dok (D : DU) (f : Int → List Int) : Prop := ∀ x : Int, (D.atKey (.int .i64 x) .nil = .nil ∧ f x = []) ∨ D.atKey (.int .i64 x) .nil = .slice (lits .i64 (f x)) []

theorem lits_inj {xs ys : List Int} (h : lits (H := Unit) .i64 xs = lits .i64 ys) : xs = ys :=
  (List.map_inj_right (fun a b hab => by cases hab; rfl)).1 h

theorem Dok.nil : Dok (.map []) (fun _ => []) := fun x => .inl ⟨rfl, rfl⟩

/-- what is owned at a key is what the map says -/
theorem Dok.at {D : DU} {f : Int → List Int} (h : Dok D f) {w : World} {base : Nat} {e : TypeId} {v : Value} {zs : List Int} {x : Int} (hat : D.atKey (.int .i64 x) .nil = rowDatum .i64 v zs) (ho : w.ownsInts base e .i64 v zs) : zs = f x := by
  rcases h x with ⟨h1, h2⟩ | h1 <;> rcases ho.datum (H := Unit) with ⟨h3, h4⟩ | h3
  · rw [h4, h2]
  · rw [h3, h1] at hat; cases hat
  · rw [h3, h1] at hat; cases hat
  · rw [h3, h1] at hat
    injection hat with h5
    exact (lits_inj h5).symm

theorem Dok.put {D : DU} {f : Int → List Int} (h : Dok D f) (hm : IsMap D) {v : Value} {x y : Int} (hd : rowDatum (H := Unit) .i64 v (f x ++ [y]) = .slice (lits .i64 (f x ++ [y])) []) :
    Dok (D.put (.int .i64 x) (rowDatum .i64 v (f x ++ [y]))) (fun z => f z ++ if x = z then [y] else []) := by
  intro z
  dsimp only
  by_cases hz : x = z
  · subst hz
    rw [if_pos rfl, atKey_put_same (k := .int .i64 x) hm trivial]
    exact .inr hd
  · rw [if_neg hz, atKey_put_other (by intro e; cases e; exact hz rfl), List.append_nil]
    exact h z

theorem Dok.congr {D : DU} {f g : Int → List Int} (h : Dok D f) (e : ∀ x, f x = g x) : Dok D g := fun x => by rw [← e x]; exact h x

theorem grown_refl (W : World) (row : Option Nat) : W.grownBy W row := ⟨rfl, rfl, rfl, Nat.le_refl _, fun _ _ _ => rfl⟩
theorem grown_of_below {w w' : World} (h : Below w.heap.size w w') : w.grownBy w' none := ⟨h.os, h.tape, h.output, h.size, fun k hk _ => h.block k hk⟩
theorem below_of_grown {w w' : World} {B : Nat} {row : Option Nat} (h : w.grownBy w' row) (hB : B ≤ w.heap.size) (hr : ∀ k, row = some k → B ≤ k) : Below B w w' := (Below.refl B w).grown h hB hr

/-- the edges' map in its call -/
structure Grp (w : World) (B : Nat) (f : Int → List Int) (k : Nat) (wr : World) : Prop where
  ex : ∃ D : DU, wr.ownsGroups Tryz.prog 3 (B + 2) 3 .i64 B k D ∧ Dok D f ∧ IsMap D
  bel : Below B w wr
  size : B + 2 ≤ wr.heap.size
  cell : Blk wr (B + 1) [.map (some B)] 53

theorem Grp.call {w wr wr' : World} {B : Nat} {f : Int → List Int} {k : Nat} (h : Grp w B f k wr) (hb : Below wr.heap.size wr wr') : Grp w B f k wr' where
  ex := by
    obtain ⟨D, h1, h2, h3⟩ := h.ex
    exact ⟨D, h1.kept (grown_of_below hb) (by simp) (fun es clock _ x _ => by cases x.val.ownBlock <;> simp), h2, h3⟩
  bel := h.bel.trans (hb.mono (by have := h.size; omega))
  size := Nat.le_trans h.size hb.size
  cell := h.cell.call hb
theorem Grp.drew {w wr : World} {B : Nat} {f : Int → List Int} {k : Nat} (h : Grp w B f k wr) : Grp w B f k wr.drew := ⟨h.ex, h.bel.drew, h.size, h.cell⟩

/-- what is to be had of the map at a key: its slice, and the way back -/
def GrpAt (w : World) (B : Nat) (f : Int → List Int) (k : Nat) (x : Int) (W : World) (v : Value) (D : DU) : Prop :=
  W.ownsInts (B + 2) 3 .i64 v (f x) ∧ (f x).length ≤ k ∧ W.groupBack Tryz.prog 53 3 (B + 2) 3 .i64 B k D (.int .i64 x) (.int .i64 x) v ∧ Dok D f ∧ IsMap D

theorem Grp.at {w wr : World} {B : Nat} {f : Int → List Int} {k : Nat} (h : Grp w B f k wr) (hk : k ≤ 1000000) {x : Int} (hx : (Lit.int .i64 x).wf = true) :
    ∃ v D, (Instr.lookup 53 (.map (some B)) (.int .i64 x) false).run Tryz.prog wr = .ok v wr ∧ GrpAt w B f k x wr v D := by
  obtain ⟨D, h1, h2, h3⟩ := h.ex
  obtain ⟨v, zs, hrun, hat, hoi, hzl, hback⟩ := h1.at law_i Tryz.underlying53 (zero_g _) (by unfold maxLen; omega) (keyOf_int_mk Tryz.underlying3 hx)
  obtain rfl := h2.at hat hoi
  exact ⟨v, D, hrun, hoi, hzl, hback, h2, h3⟩

/-- the append, and the store by the way back -/
theorem GrpAt.step {w W : World} {B : Nat} {f : Int → List Int} {k : Nat} {x y : Int} {v : Value} {D : DU} (h : GrpAt w B f k x W v D) (hb0 : Below B w W) (hsz : B + 2 ≤ W.heap.size) (hc : Blk W (B + 1) [.map (some B)] 53) (hy : (Lit.int .i64 y).wf = true) {W1 W2 : World} {v' : Value}
    (h01 : W.grownBy W1 none) (h12 : W1.grownBy W2 v.ownBlock) (hown : W2.ownsRow (B + 2) 3 1 v' ((f x).length + 1) ((f x).map (Value.int .i64) ++ [.int .i64 y])) (hloc : v'.ownBlock = v.ownBlock ∨ v'.ownBlock = some W1.heap.size) :
    ∃ W3, (Instr.mapUpdate 53 (.map (some B)) (.int .i64 x) v').run Tryz.prog W2 = .ok () W3 ∧ Grp w B (fun z => f z ++ if x = z then [y] else []) (k + 1) W3 ∧ W2.grownBy W3 (some B) := by
  obtain ⟨hoi, hzl, hback, hD, hM⟩ := h
  have hg : W.grownBy W2 v.ownBlock := World.grownBy.trans ⟨h01.os, h01.tape, h01.output, h01.size, fun j hj _ => h01.block j hj (by simp)⟩ h12
  have ha := hoi.kept (row := none) (w' := W1) h01 (by cases v.ownBlock <;> simp)
  have ha := ha.appended hown hy
  obtain ⟨W3, hrun, ho3, hg3⟩ := hback W2 v' (f x ++ [y]) hg ha (by simp; omega) (hloc.imp id fun h => ⟨_, h, h01.size⟩)
  have hlow : ∀ j, v.ownBlock = some j → B + 2 ≤ j := fun j hj => (hoi.1.lt j hj).1
  refine ⟨W3, hrun, ⟨⟨_, ho3, hD.put hM (ha.datum_pos (by simp)), ?_⟩, ?_, ?_, ?_⟩, hg3⟩
  · obtain ⟨es, clock, -, -, -, e, -⟩ := ho3
    exact ⟨_, e⟩
  · exact (hb0.grown hg (by omega) (fun j hj => by have := hlow j hj; omega)).grown hg3 (by have := hg.size; omega) (fun j hj => by cases hj; exact Nat.le_refl _)
  · exact Nat.le_trans hsz (Nat.le_trans hg.size hg3.size)
  · have h1 : B + 1 < W.heap.size := by omega
    unfold Blk at hc ⊢
    rw [hg3.block (B + 1) (Nat.lt_of_lt_of_le h1 hg.size) (by simp), hg.block (B + 1) h1 (fun e => by have := hlow _ e.symm; omega)]
    exact hc

/-- all that is known behind the append and behind the store -/
theorem GrpAt.all {w W : World} {B : Nat} {f : Int → List Int} {k : Nat} {x y : Int} {v : Value} {D : DU} (h : GrpAt w B f k x W v D) (hG : Grp w B f k W) (hy : (Lit.int .i64 y).wf = true) {X : Nat} {cs : List Value} (hX : Blk W X cs 30) (hXB : B + 2 ≤ X) {W1 W2 : World} {v' : Value}
    (h01 : W.grownBy W1 none) (h12 : W1.grownBy W2 v.ownBlock) (hown : W2.ownsRow (B + 2) 3 1 v' ((f x).length + 1) ((f x).map (Value.int .i64) ++ [.int .i64 y])) (hloc : v'.ownBlock = v.ownBlock ∨ v'.ownBlock = some W1.heap.size) :
    ∃ W3, (Instr.mapUpdate 53 (.map (some B)) (.int .i64 x) v').run Tryz.prog W2 = .ok () W3 ∧ Grp w B (fun z => f z ++ if x = z then [y] else []) (k + 1) W3 ∧ (Blk W2 (B + 1) [.map (some B)] 53 ∧ Blk W2 X cs 30) ∧ Blk W3 (B + 1) [.map (some B)] 53 ∧ Blk W3 X cs 30 := by
  obtain ⟨W3, h1, h2, h3⟩ := h.step hG.bel hG.size hG.cell hy h01 h12 hown hloc
  have hX2 : Blk W2 X cs 30 := by
    have hlt := hX.lt
    have hX' := hX
    unfold Blk at hX ⊢
    rw [h12.block X (Nat.lt_of_lt_of_le hlt h01.size) ?_, h01.block X hlt (by simp)]
    · exact hX
    · intro e
      rcases h.1.1.2 with ⟨hv, _⟩ | ⟨g, cap, cur, hv, _, hh, _⟩
      · rw [hv] at e; cases e
      · rw [hv] at e
        cases e
        rw [hX] at hh
        cases hh
  have hC2 : Blk W2 (B + 1) [.map (some B)] 53 := by
    have hC := hG.cell
    have hlt := hC.lt
    unfold Blk at hC ⊢
    rw [h12.block (B + 1) (Nat.lt_of_lt_of_le hlt h01.size) (fun e => by have := (h.1.1.lt _ e.symm).1; omega), h01.block (B + 1) hlt (by simp)]
    exact hC
  refine ⟨W3, h1, h2, ⟨hC2, hX2⟩, h2.cell, ?_⟩
  have hlt := hX2.lt
  unfold Blk at hX2 ⊢
  rw [h3.block X hlt (by simp; omega)]
  exact hX2

theorem held3 {W : World} {B X : Nat} {m c0 c1 : Value} {cs : List Value} {T T' : TypeId} (h : Blk W B [m] T ∧ Blk W X (c0 :: c1 :: cs) T') : W.cell? ⟨B, 0, none⟩ = some m ∧ W.cell? ⟨X, 0, none⟩ = some c0 ∧ W.cell? ⟨X, 1, none⟩ = some c1 := ⟨h.1.cell 0, h.2.cell 0, h.2.cell 1⟩

section
variable {P : Program}
/-- an append as a step of a region that draws -/
theorem step_append_own {ops : Array Oper} {o : Oper} {a : Act} {w : World} {K : Act → World → Prop} {Q : Exit → Act → World → Prop} {E : Prop} (hgd : o.guard = none) (s x : Operand) (t : TypeId)
    (ho : o.op = .call { callee := .builtin .append, args := #[s, x], argTypes := #[t, t] })
    (base : Nat) (e : TypeId) (i : TypeInfo) (z : Value) (size bytes : Nat) (ht : P.underlying t = some (.slice e)) (hi : P.info? e = some i) (hz : i.zero = some z)
    (hsize : i.size = size) (hby : i.bytes = bytes) (hzs : z.cells.size = size) (hsz : 0 < size)
    (v : Value) (n : Nat) (xs : List Value) (hs : a.eval s = v) (hown : w.ownsRow base e size v n xs)
    (ad : Addr) (m c : Nat) (news : List Value) (hx : a.eval x = .slice (some ad) m c) (hl : news.length = m * size) (hnews : ∀ j u, news[j]? = some u → w.cell? (ad.add j) = some u) (h1 : ∀ u ∈ news, u.oneCell' = true)
    (h63 : n + m ≤ maxLen) (hbytes : (n + m) * bytes ≤ 140737488355328) (hbase : base ≤ w.heap.size)
    (h : ∀ v' w', w'.ownsRow base e size v' (n + m) (xs ++ news) → w.grownBy w' v.ownBlock → (v'.ownBlock = v.ownBlock ∨ v'.ownBlock = some w.heap.size) → K (a.put o.dst v') w') :
    if Region.wanted o (yielded ops a.tmps) = true then Oper.wp P o a w K Q else E := by
  have hw : Region.wanted o (yielded ops a.tmps) = true := by simp [Region.wanted, hgd]
  rw [if_pos hw]
  obtain ⟨v', w', hr, h2, h3, h4, h5⟩ := run_append_own_at (P := P) w base t o.type e i z size bytes ht hi hz hsize hby hzs hsz v n xs hown ad m c news hl hnews h1 h63 hbytes hbase
  unfold Oper.wp execOp
  simp only [ho, resolve, invoke, builtin, Sem.run_bind, Sem.run_pure, Result.andThen_ok, List.map_toArray, List.map_cons, List.map_nil, hs, hx, hr]
  exact h v' w' h2 h3 h5
end

/-! ### The search -/
/-- what has been seen -/
def Seen (w : World) (bs : Nat) (S : List Int) : Prop :=
  ∃ (D : DU) (n : Nat), w.ownsMap Tryz.prog 3 (plainElem Tryz.prog 3) bs n D ∧ n ≤ S.length ∧ IsMap D ∧ ∀ x : Int, D.atKey (.int .i64 x) (.lit (.int .i64 0)) = .lit (.int .i64 (if x ∈ S then 1 else 0))

theorem Seen.block {w : World} {bs : Nat} {S : List Int} (h : Seen w bs S) : ∃ es clock, w.heap[bs]? = some (.map es clock) := by
  obtain ⟨D, n, ⟨es, clock, hb, _⟩, _⟩ := h
  exact ⟨es, clock, hb⟩
theorem Seen.call {w w' : World} {bs : Nat} {S : List Int} (h : Seen w bs S) (hb : Below w.heap.size w w') : Seen w' bs S := by
  obtain ⟨D, n, h1, h2⟩ := h
  exact ⟨D, n, h1.kept (grown_of_below hb) (by simp), h2⟩
theorem Seen.look {w : World} {bs : Nat} {S : List Int} (h : Seen w bs S) {x : Int} (hx : (Lit.int .i64 x).wf = true) :
    (Instr.lookup 54 (.map (some bs)) (.int .i64 x) false).run Tryz.prog w = .ok (.int .i64 (if x ∈ S then 1 else 0)) w := by
  obtain ⟨D, n, h1, h2, h3, h4⟩ := h
  obtain ⟨c, hrun, hat, -⟩ := h1.lookup_int law_i Tryz.underlying54 Tryz.underlying3 (zero_i _) (keyOf_int_mk Tryz.underlying3 hx)
  rw [h4 x] at hat
  cases hat
  exact hrun
theorem Seen.mark {w : World} {bs : Nat} {S : List Int} (h : Seen w bs S) (hl : S.length ≤ 1000000) {x : Int} (hx : (Lit.int .i64 x).wf = true) :
    ∃ w', (Instr.mapUpdate 54 (.map (some bs)) (.int .i64 x) (.int .i64 1)).run Tryz.prog w = .ok () w' ∧ Seen w' bs (x :: S) ∧ w.grownBy w' (some bs) := by
  obtain ⟨D, n, h1, h2, h3, h4⟩ := h
  obtain ⟨w', hrun, ho, hg⟩ := h1.update law_i Tryz.underlying54 (by unfold maxLen; omega) (keyOf_int_mk Tryz.underlying3 hx) (plainElem_int (a := 1) Tryz.underlying3 (by decide))
  refine ⟨w', hrun, ⟨_, _, ho, by simp only [List.length_cons]; omega, ?_, fun z => ?_⟩, hg⟩
  · obtain ⟨es, clock, -, -, -, e⟩ := ho
    exact ⟨_, e⟩
  · by_cases hz : x = z
    · subst hz
      rw [atKey_put_same (k := .int .i64 x) h3 trivial, if_pos (List.mem_cons_self ..)]
    · rw [atKey_put_other (by intro e; cases e; exact hz rfl), h4 z]
      have : (z ∈ x :: S) ↔ (z ∈ S) := by
        rw [List.mem_cons]
        have : ¬ z = x := fun e => hz e.symm
        simp [this]
      simp only [this]

/-- the closure that walks -/
abbrev fnR (B c10 c11 : Nat) : Value := .func (.func 12) #[] #[.pointer (some ⟨c10, 0, none⟩), .pointer (some ⟨B + 1, 0, none⟩), .pointer (some ⟨c11, 0, none⟩)]

/-- what holds while the search goes on -/
structure Walk (B bs c10 c11 n : Nat) (f : Int → List Int) (W : World) (S : List Int) : Prop where
  grp : ∃ D : DU, W.ownsGroups Tryz.prog 3 (B + 2) 3 .i64 B n D ∧ Dok D f
  k7 : Blk W (B + 1) [.map (some B)] 53
  seen : Seen W bs S
  k10 : Blk W c10 [.map (some bs)] 54
  k11 : Blk W c11 [fnR B c10 c11] 55
  ne : B ≠ bs

theorem rows_off {W : World} {B n bs : Nat} {D : DU} (h : W.ownsGroups Tryz.prog 3 (B + 2) 3 .i64 B n D) {es' : Array MapEntry} {clock' : Nat} (hb : W.heap[bs]? = some (.map es' clock')) :
    ∀ es clock, W.heap[B]? = some (.map es clock) → ∀ x ∈ es.toList, x.val.ownBlock = none ∨ x.val.ownBlock ≠ some bs := fun es clock hbB x hx => by
  obtain ⟨es2, clock2, hb2, F, _⟩ := h
  obtain ⟨rfl, rfl⟩ : es2 = es ∧ clock2 = clock := by rw [hb2] at hbB; simpa using hbB
  obtain ⟨y, hy⟩ := F.reads x hx
  obtain ⟨z, hz, _⟩ := WideElems.rd_val hy
  obtain ⟨zs, ho, _⟩ := rowElem_inv hz
  rcases ho.1.2 with ⟨hv, _⟩ | ⟨g, cap, cur, hv, _, hh, _⟩
  · rw [hv]; exact .inl rfl
  · rw [hv]
    refine .inr fun e => ?_
    cases e
    rw [hh] at hb
    cases hb

theorem Blk.grown {W W' : World} {b bs : Nat} {cs : List Value} {T : TypeId} (h : Blk W b cs T) (hg : W.grownBy W' (some bs)) {es : Array MapEntry} {clock : Nat} (hb : W.heap[bs]? = some (.map es clock)) : Blk W' b cs T := by
  unfold Blk at h ⊢
  have hne : b ≠ bs := by
    intro e
    subst e
    rw [h] at hb
    cases hb
  rw [hg.block b (Array.getElem?_eq_some_iff.1 h).1 (by simpa using hne)]
  exact h
theorem ints_grown {W W' : World} {B bs : Nat} {v : Value} {zs : List Int} (h : W.ownsInts B 3 .i64 v zs) (hg : W.grownBy W' (some bs)) {es : Array MapEntry} {clock : Nat} (hb : W.heap[bs]? = some (.map es clock)) : W'.ownsInts B 3 .i64 v zs := by
  refine h.kept hg ?_
  rcases h.1.2 with ⟨hv, _⟩ | ⟨g, cap, cur, hv, _, hh, _⟩
  · rw [hv]; exact .inl rfl
  · rw [hv]
    refine .inr fun e => ?_
    cases e
    rw [hh] at hb
    cases hb

/-- the map of what has been seen is written -/
theorem Walk.grown {B bs c10 c11 n : Nat} {f : Int → List Int} {W W' : World} {S S' : List Int} (h : Walk B bs c10 c11 n f W S) (hg : W.grownBy W' (some bs)) (hs : Seen W' bs S') : Walk B bs c10 c11 n f W' S' := by
  obtain ⟨es, clock, hb⟩ := h.seen.block
  obtain ⟨D, h1, h2⟩ := h.grp
  exact ⟨⟨D, h1.kept hg (by simpa using h.ne) (rows_off h1 hb), h2⟩, h.k7.grown hg hb, hs, h.k10.grown hg hb, h.k11.grown hg hb, h.ne⟩
theorem Walk.call {B bs c10 c11 n : Nat} {f : Int → List Int} {W W' : World} {S : List Int} (h : Walk B bs c10 c11 n f W S) (hb : Below W.heap.size W W') : Walk B bs c10 c11 n f W' S := by
  obtain ⟨D, h1, h2⟩ := h.grp
  exact ⟨⟨D, h1.kept (grown_of_below hb) (by simp) (fun es clock _ x _ => by cases x.val.ownBlock <;> simp), h2⟩, h.k7.call hb, h.seen.call hb, h.k10.call hb, h.k11.call hb, h.ne⟩

/-- where a slice of the map lies -/
theorem owned_form {W : World} {B : Nat} {v : Value} {zs : List Int} (h : W.ownsInts B 3 .i64 v zs) : (∃ a cap, v = .slice a zs.length cap) ∧ (0 < zs.length → ∃ g cap, v = .slice (some ⟨g, 0, none⟩) zs.length cap) := by
  rcases h.1.2 with ⟨rfl, h0⟩ | ⟨g, cap, cur, rfl, _⟩
  · exact ⟨⟨none, 0, by rw [h0]⟩, fun h => by omega⟩
  · exact ⟨⟨_, _, rfl⟩, fun _ => ⟨g, cap, rfl⟩⟩
theorem owned_cell {W : World} {B g cap : Nat} {zs : List Int} (h : W.ownsInts B 3 .i64 (.slice (some ⟨g, 0, none⟩) zs.length cap) zs) {j : Nat} (hj : j < zs.length) : W.cell? ⟨g, j, none⟩ = some (.int .i64 zs[j]) := by
  have := h.1.cells (g := g) rfl j (.int .i64 zs[j]) (by simp [hj])
  rwa [show (⟨g, 0, none⟩ : Addr).add j = ⟨g, j, none⟩ from by cases j <;> simp [Addr.add]] at this

/-- what a walk leaves -/
def Went (B bs c10 c11 n N : Nat) (f : Int → List Int) (S : List Int) (x : Int) (W : World) (e : Ending) (W' : World) : Prop :=
  e = .returned (.tuple #[]) ∧ ∃ S', Rf.Dfs f S [x] S' ∧ Walk B bs c10 c11 n f W' S' ∧ S'.length + Rf.left N S' ≤ N ∧ W.grownBy W' (some bs)

theorem wf_small {x : Int} (h0 : 0 ≤ x) (h1 : x < 1000000) : (Lit.int .i64 x).wf = true := WalkArith.wf_i64 (by omega)

set_option maxRecDepth 100000 in
set_option maxHeartbeats 8000000 in
theorem walk_l (B bs c10 c11 n N : Nat) (f : Int → List Int) (hf : ∀ x, ∀ y ∈ f x, 0 ≤ y ∧ y < N) (hN : N ≤ 500) (hn : n ≤ 500) :
    ∀ (m : Nat) (S : List Int) (x : Int) (W : World), Rf.left N S < m → S.length + Rf.left N S ≤ N → 0 ≤ x → x < N → Walk B bs c10 c11 n f W S →
      Calls Tryz.prog 12 #[.int .i64 x, .pointer (some ⟨c10, 0, none⟩), .pointer (some ⟨B + 1, 0, none⟩), .pointer (some ⟨c11, 0, none⟩)] W (Went B bs c10 c11 n N f S x W) := by
  intro m
  induction m with
  | zero => intro S x W hm; omega
  | succ m ih =>
    intro S x W hm hb hx0 hx1 hw
    have hwf := wf_small hx0 (by omega)
    have hr0 := hw.seen.look hwf
    have q10 := hw.k10.cell 0
    simp only [List.getElem?_cons_zero] at q10
    by_cases hx : x ∈ S
    · rw [if_pos hx] at hr0
      have HP : Hid (Went B bs c10 c11 n N f S x W (.returned (.tuple #[])) W) := ⟨rfl, S, .old hx (.nil S), hw, hb, grown_refl _ _⟩
      generalize Went B bs c10 c11 n N f S x W = Post at HP ⊢
      clear hm hb hw ih hf hx
      go_enter Tryz.func12, Tryz.ntmps12
      go_wp2_with fail
      exact bodyPost_ret (v := .tuple #[]) (by simp [results, Tryz.results12, go_sem]) rfl HP.out
    · rw [if_neg hx] at hr0
      have hlt := Rf.left_new hx0 hx1 hx
      obtain ⟨W1, hrun1, hs1, hg1⟩ := hw.seen.mark (by omega) hwf
      have hw1 := hw.grown hg1 hs1
      obtain ⟨D, hD1, hD2⟩ := hw1.grp
      obtain ⟨v, zs, hrun2, hat, hoi, hzl, -⟩ := hD1.at law_i Tryz.underlying53 (zero_g _) (by unfold maxLen; omega) (keyOf_int_mk Tryz.underlying3 hwf)
      obtain rfl := hD2.at hat hoi
      obtain ⟨⟨va, vc, rfl⟩, hvf⟩ := owned_form hoi
      have HVF := Lib.hid hvf
      have HF := Lib.hid (hf x)
      have q7 := hw1.k7.cell 0
      simp only [List.getElem?_cons_zero] at q7
      have HW1 := Lib.hid hw1
      have HO1 := Lib.hid hoi
      have HG1 := Lib.hid hg1
      have HB1 : Hid ((x :: S).length + Rf.left N (x :: S) ≤ N) := by
        unfold Hid
        simp only [List.length_cons]
        omega
      have HIH : Hid (∀ (S' : List Int) (y : Int) (W' : World), Rf.left N S' ≤ Rf.left N (x :: S) → S'.length + Rf.left N S' ≤ N → 0 ≤ y → y < N → Walk B bs c10 c11 n f W' S' →
          Calls Tryz.prog 12 #[.int .i64 y, .pointer (some ⟨c10, 0, none⟩), .pointer (some ⟨B + 1, 0, none⟩), .pointer (some ⟨c11, 0, none⟩)] W' (Went B bs c10 c11 n N f S' y W')) :=
        fun S' y W' h1 h2 h3 h4 h5 => ih S' y W' (by omega) h2 h3 h4 h5
      have HP : Hid (∀ W' Sj, Rf.Dfs f (x :: S) (f x) Sj → Walk B bs c10 c11 n f W' Sj → Sj.length + Rf.left N Sj ≤ N → W.grownBy W' (some bs) → Went B bs c10 c11 n N f S x W (.returned (.tuple #[])) W') := fun W' Sj h1 h2 h3 h4 => ⟨rfl, Sj, .new hx h1 (.nil _), h2, h3, h4⟩
      generalize Went B bs c10 c11 n N f S x W = Post at HP ⊢
      clear hm hb hw ih hf hx hlt hs1 hw1 hD1 hD2 hat hvf hoi hg1
      generalize hL : f x = L at *
      have hll : L.length ≤ 1000000 := by omega
      clear hL hzl
      go_enter Tryz.func12, Tryz.ntmps12
      go_wp2_with fail
      go_loopw [17] (fun i wr => ∃ (j : Nat) (Sj : List Int), j ≤ L.length ∧ i = .int .i64 j ∧ Hid (Rf.Dfs f (x :: S) (L.take j) Sj) ∧ Hid (Walk B bs c10 c11 n f wr Sj) ∧ Hid (Sj.length + Rf.left N Sj ≤ N) ∧ Hid (W.grownBy wr (some bs)) ∧ Hid (wr.ownsInts (B + 2) 3 .i64 (.slice va L.length vc) L)) (fun i _ => L.length - (intOf i).toNat)
      case atStart => exact ⟨0, x :: S, Nat.zero_le _, rfl, by simp only [List.take_zero]; exact Rf.Dfs.nil _, HW1.out, HB1.out, HG1.out, HO1.out⟩
      case round =>
        obtain ⟨j, Sj, hj, rfl, HD, HW, HB, HG, HO⟩ := hrel
        by_cases hjl : j < L.length
        · obtain ⟨g, cap, hv⟩ := HVF.out (by omega)
          cases hv
          have q1 := owned_cell HO.out hjl
          have q11 := HW.out.k11.cell 0
          simp only [List.getElem?_cons_zero] at q11
          have hy := HF.out L[j] (List.getElem_mem hjl)
          have HC := Lib.hid (HIH.out Sj L[j] wr (Rf.left_sub HD.out.sub) HB.out hy.1 hy.2 HW.out)
          have HDD : Hid (∀ S', Rf.Dfs f Sj [L[j]] S' → Rf.Dfs f (x :: S) (L.take (j + 1)) S') := fun S' h => by
            rw [List.take_succ_eq_append_getElem hjl]
            exact HD.out.append h
          have HSB := Lib.hid HW.out.seen.block
          clear hy
          generalize L[j] = y at *
          go_wp2_with fail
          refine HC.out.mono ?_
          rintro e w2 ⟨rfl, S', hd, hw2, hb2, hg2⟩
          have HD2 := Lib.hid (HDD.out _ hd)
          have HW2 := Lib.hid hw2
          have HB2 := Lib.hid hb2
          have HG2 := Lib.hid (HG.out.trans hg2)
          have HO2 : Hid (w2.ownsInts (B + 2) 3 .i64 (.slice (some ⟨g, 0, none⟩) L.length vc) L) := by
            obtain ⟨es, clock, hb⟩ := HSB.out
            exact ints_grown HO.out hg2 hb
          clear hd hw2 hb2 hg2
          go_wp2_with fail
          go_roundw
          case measure => simp only [intOf]; omega
          case rel => exact ⟨j + 1, S', by omega, by go_num, HD2.out, HW2.out, HB2.out, HG2.out, HO2.out⟩
        · obtain rfl : j = L.length := by omega
          have HDf := HD.out
          rw [List.take_length] at HDf
          have HDf := Lib.hid HDf
          go_wp2_with fail
          exact bodyPost_ret (v := .tuple #[]) (by simp [results, Tryz.results12, go_sem]) rfl (HP.out _ _ HDf.out HW.out HB.out HG.out)

/-! ### The whole -/
theorem Grp.begin (w : World) : Grp w w.heap.size (fun _ => []) 0 ((w.alloc (.map #[] 0)).alloc (.cells #[.map (some w.heap.size)] 53)) where
  ex := by
    have h := World.ownsGroups_made (H := Unit) w Tryz.prog 3 3 .i64
    obtain ⟨es, clock, hb, F, hs, hD, hbb, hlen, hap⟩ := h
    rw [MapKept.heap_alloc w _ |>.1] at hb
    cases hb
    refine ⟨.map [], ⟨#[], 0, ?_, ⟨by simp, MapKept.stamped_empty 0, by simp⟩, Nat.le_refl _, rfl, by omega, by simp, by simp⟩, Dok.nil, ⟨_, rfl⟩⟩
    rw [Below.heap_alloc _ _ _ (by simp)]
    exact (MapKept.heap_alloc w _).1
  bel := ((Below.refl w.heap.size w).alloc (Nat.le_refl _) _).alloc (by simp) _
  size := by simp
  cell := by
    have := Blk.new (w.alloc (.map #[] 0)) [.map (some w.heap.size)] 53
    rwa [World.size_alloc] at this

theorem Grp.eq {w wr : World} {B : Nat} {f g : Int → List Int} {k : Nat} (h : Grp w B f k wr) (e : ∀ x, f x = g x) : Grp w B g k wr := by
  have : f = g := funext e
  exact this ▸ h

/-- the search begins -/
theorem Walk.begin {w Wa : World} {B : Nat} {f : Int → List Int} {n : Nat} (h : Grp w B f n Wa) :
    Walk B Wa.heap.size (Wa.heap.size + 1) (Wa.heap.size + 2) n f (((Wa.alloc (.map #[] 0)).alloc (.cells #[.map (some Wa.heap.size)] 54)).alloc (.cells #[fnR B (Wa.heap.size + 1) (Wa.heap.size + 2)] 55)) [] := by
  have hb : Below Wa.heap.size Wa (((Wa.alloc (.map #[] 0)).alloc (.cells #[.map (some Wa.heap.size)] 54)).alloc (.cells #[fnR B (Wa.heap.size + 1) (Wa.heap.size + 2)] 55)) :=
    (((Below.refl _ _).alloc (Nat.le_refl _) _).alloc (by simp) _).alloc (by simp; omega) _
  have hg := h.call hb
  obtain ⟨D, h1, h2, -⟩ := hg.ex
  have hsz := h.size
  refine ⟨⟨D, h1, h2⟩, hg.cell, ?_, ?_, ?_, by omega⟩
  · refine ⟨.map [], 0, ((World.ownsMap_made Wa Tryz.prog 3 _).alloc _).alloc _, Nat.le_refl _, ⟨_, rfl⟩, fun x => rfl⟩
  · have := (Blk.new (Wa.alloc (.map #[] 0)) [.map (some Wa.heap.size)] 54).alloc (.cells #[fnR B (Wa.heap.size + 1) (Wa.heap.size + 2)] 55)
    rwa [World.size_alloc] at this
  · have := Blk.new ((Wa.alloc (.map #[] 0)).alloc (.cells #[.map (some Wa.heap.size)] 54)) [fnR B (Wa.heap.size + 1) (Wa.heap.size + 2)] 55
    rwa [World.size_alloc, World.size_alloc] at this

set_option maxRecDepth 100000 in
set_option maxHeartbeats 8000000 in
theorem reach_l (N s : Nat) (hN : N ≤ 500) (hs : s < N) (v : Value) (es : List Ed) (w : World) (h : Eds w v es) (hl : es.length ≤ 500) :
    Calls Tryz.prog 7 #[.int .i64 N, v, .int .i64 s] w (Found w N (Rf.nx N (prs es)) s) := by
  obtain ⟨ea, ecap, rfl, hc, hwf⟩ := h
  have HC := Lib.hid hc
  clear hc
  obtain ⟨i0, hi, hy0, hy1, hy2⟩ := info_parts info_int
  have hmm := @run_makeMap Tryz.prog
  have HWF := Lib.hid hwf
  clear hwf
  have HT : Hid (∀ v w' S, Rf.Dfs (Rf.nx N (prs es)) [] [(s : Int)] S → InS w' v (Rf.pick N S) → Below w.heap.size w w' → Found w N (Rf.nx N (prs es)) s (.returned v) w') :=
    fun v w' S h1 h2 h3 => ⟨v, S, rfl, h2, h1.all, h3⟩
  generalize Found w N (Rf.nx N (prs es)) s = Post at HT ⊢
  have HFX : Hid (∀ x, ∀ y ∈ Rf.nx N (prs es) x, 0 ≤ y ∧ y < N) := fun x y h => (Rf.mem_nx.1 h).2
  have HB0 := Lib.hid (Grp.begin w)
  have HTK : Hid (prs (es.take es.length) = prs es) := by unfold Hid; rw [List.take_length]
  obtain ⟨n, hny⟩ : ∃ n, es.length = n := ⟨_, rfl⟩
  rw [hny] at hl HTK ⊢
  have HNY := Lib.hid hny
  clear hny
  have ht1 : ((s : Int) < 0) = False := by simp
  have hge0 : ((N : Int) ≤ (s : Int)) = False := by simp; omega
  go_enter Tryz.func7, Tryz.ntmps7
  go_wp2_with fail
  go_loopw [24] (fun i wr => ∃ k c : Nat, k ≤ n ∧ i = .int .i64 k ∧ Hid (c ≤ k) ∧ Hid (Grp w w.heap.size (Rf.nx N (prs (es.take k))) c wr)) (fun i _ => n - (intOf i).toNat)
  case atStart => exact ⟨0, 0, Nat.zero_le _, rfl, Nat.le_refl _, HB0.out⟩
  case round =>
    obtain ⟨k, c, hk, rfl, HCK, HG⟩ := hrel
    by_cases hlt : k < n
    · have hx : k < es.length := by rw [HNY.out]; exact hlt
      obtain ⟨b1, o1, rfl, hb1, g1⟩ := HC.out (by rw [HNY.out]; omega)
      obtain ⟨g1, g2, g3, g4, g5⟩ := g1 k hx
      have q1 := (HG.out.bel.cell (p := ⟨b1, o1 + k * 5, none⟩) hb1).trans g1
      have q2 := (HG.out.bel.cell (p := ⟨b1, o1 + k * 5 + 1, none⟩) hb1).trans g2
      have q3 := (HG.out.bel.cell (p := ⟨b1, o1 + k * 5 + 2, none⟩) hb1).trans g3
      have q4 := (HG.out.bel.cell (p := ⟨b1, o1 + k * 5 + 3, none⟩) hb1).trans g4
      have q5 := (HG.out.bel.cell (p := ⟨b1, o1 + k * 5 + 4, none⟩) hb1).trans g5
      have HTK1 : Hid (∀ x, Rf.nx N (prs (es.take (k + 1))) x = Rf.nx N (prs (es.take k)) x ++ if es[k].1 = x ∧ 0 ≤ es[k].2.1 ∧ es[k].2.1 < N then [es[k].2.1] else []) := fun x => nx_take hx x
      have hwk := HWF.out es[k] (List.getElem_mem hx)
      clear g1 g2 g3 g4 g5
      generalize es[k] = ed at *
      obtain ⟨e1, e2, e3, e4, e5⟩ := ed
      simp only at q1 q2 q3 q4 q5 HTK1 hwk
      by_cases hr : 0 ≤ e2 ∧ e2 < N
      · obtain ⟨hr1, hr2⟩ := hr
        have HFE : Hid (∀ z, (Rf.nx N (prs (es.take k)) z ++ if e1 = z then [e2] else []) = Rf.nx N (prs (es.take (k + 1))) z) := fun z => by
          rw [HTK1.out z]
          by_cases hz : e1 = z
          · rw [if_pos hz, if_pos ⟨hz, hr1, hr2⟩]
          · rw [if_neg hz, if_neg (fun h => hz h.1)]
        have hzr := HG.out.size
        go_wp2_with fail
        have HG1 := Lib.hid (HG.out.call ((Below.refl wr.heap.size wr).alloc (Nat.le_refl _) (.cells #[.int .i64 e1, .int .i64 e2, .string (str e3), .bool e4, .string (str e5)] 30)))
        have HX1 : Hid (Blk (wr.alloc (.cells #[.int .i64 e1, .int .i64 e2, .string (str e3), .bool e4, .string (str e5)] 30)) wr.heap.size [.int .i64 e1, .int .i64 e2, .string (str e3), .bool e4, .string (str e5)] 30) := Blk.new wr _ _
        clear q1 q2 q3 q4 q5
        generalize wr.alloc (.cells #[.int .i64 e1, .int .i64 e2, .string (str e3), .bool e4, .string (str e5)] 30) = W1 at *
        have HGa := Lib.hid (HG1.out.call ((Below.refl W1.heap.size W1).alloc (Nat.le_refl _) (.cells #[.int .i64 e2] 3))).drew
        have HXa := Lib.hid (HX1.out.alloc (.cells #[.int .i64 e2] 3)).drew
        have HP1 : Hid (Blk W1.drew (w.heap.size + 1) [.map (some w.heap.size)] 53 ∧ Blk W1.drew wr.heap.size [.int .i64 e1, .int .i64 e2, .string (str e3), .bool e4, .string (str e5)] 30) := ⟨HG1.out.drew.cell, HX1.out.drew⟩
        have HPa : Hid (Blk (W1.alloc (.cells #[.int .i64 e2] 3)).drew (w.heap.size + 1) [.map (some w.heap.size)] 53 ∧ Blk (W1.alloc (.cells #[.int .i64 e2] 3)).drew wr.heap.size [.int .i64 e1, .int .i64 e2, .string (str e3), .bool e4, .string (str e5)] 30) := ⟨HGa.out.cell, HXa.out⟩
        have hck := HCK.out
        obtain ⟨v1, D1, hr1', ha1⟩ := HG1.out.drew.at (x := e1) (by omega) hwk.1
        obtain ⟨v2, D2, hr2', ha2⟩ := HGa.out.at (x := e1) (by omega) hwk.1
        have HA1 := Lib.hid ha1
        have HA2 := Lib.hid ha2
        have hl1 := ha1.2.1
        have HWK := Lib.hid hwk
        have HN1 : Hid (∀ j u, [Value.int .i64 e2][j]? = some u → (W1.alloc (.cells #[.int .i64 e2] 3)).drew.cell? ((⟨W1.heap.size, 0, none⟩ : Addr).add j) = some u) := cell_one_new W1 (.int .i64 e2) 3
        have HA1a : Hid ((W1.alloc (.cells #[.int .i64 e2] 3)).drew.ownsRow (w.heap.size + 2) 3 1 v1 (Rf.nx N (prs (es.take k)) e1).length ((Rf.nx N (prs (es.take k)) e1).map (Value.int .i64))) := HA1.out.1.1.alloc (.cells #[.int .i64 e2] 3)
        have H01 : Hid (W1.drew.grownBy (W1.alloc (.cells #[.int .i64 e2] 3)).drew none) := World.grownBy_alloc W1.drew (.cells #[.int .i64 e2] 3) none
        have HZ1 : Hid (w.heap.size + 2 ≤ (W1.alloc (.cells #[.int .i64 e2] 3)).drew.heap.size) := HGa.out.size
        clear ha1 ha2 hwk
        go_region_held3 (fun w' => w'.cell? ⟨w.heap.size + 1, 0, none⟩ = some (.map (some w.heap.size)) ∧ w'.cell? ⟨wr.heap.size, 0, none⟩ = some (.int .i64 e1) ∧ w'.cell? ⟨wr.heap.size, 1, none⟩ = some (.int .i64 e2)) (first | exact held3 HP1.out | exact held3 HPa.out | exact held3 HK2.out | exact held3 HK3.out) (first
          | (refine step_append_own rfl (.tmp 43) (.tmp 46) 25 rfl (w.heap.size + 2) 3 i0 (.int .i64 0) 1 8 Tryz.underlying25 hi hy0 hy1 hy2 rfl (by decide) v1 _ _ rfl HA1a.out ⟨W1.heap.size, 0, none⟩ 1 1 [.int .i64 e2] rfl rfl HN1.out (ints_oneCell .i64 [e2]) (by unfold maxLen; omega) (by omega) HZ1.out ?_; intro v' w2 hown' hgrow' hloc'; obtain ⟨W3, hr3, hg3, hk2, hk3⟩ := HA1.out.all HG1.out.drew HWK.out.2 HX1.out.drew hzr H01.out hgrow' hown' hloc'; have HG3 := Lib.hid (hg3.eq HFE.out); have HK2 := Lib.hid hk2; have HK3 := Lib.hid hk3; clear hown' hgrow' hloc' hg3 hk2 hk3)
          | (refine step_append_own rfl (.tmp 43) (.tmp 46) 25 rfl (w.heap.size + 2) 3 i0 (.int .i64 0) 1 8 Tryz.underlying25 hi hy0 hy1 hy2 rfl (by decide) v2 _ _ rfl HA2.out.1.1 ⟨W1.heap.size, 0, none⟩ 1 1 [.int .i64 e2] rfl rfl HN1.out (ints_oneCell .i64 [e2]) (by unfold maxLen; omega) (by omega) HZ1.out ?_; intro v' w2 hown' hgrow' hloc'; obtain ⟨W3, hr3, hg3, hk2, hk3⟩ := HA2.out.all HGa.out HWK.out.2 HXa.out hzr (grown_refl _ _) hgrow' hown' hloc'; have HG3 := Lib.hid (hg3.eq HFE.out); have HK2 := Lib.hid hk2; have HK3 := Lib.hid hk3; clear hown' hgrow' hloc' hg3 hk2 hk3))
        all_goals
          go_wp2_with fail
          go_roundw
          case measure => simp only [intOf]; omega
          case rel => exact ⟨k + 1, c + 1, by omega, by go_num, Nat.succ_le_succ hck, HG3.out⟩
      · have HSK : Hid (Grp w w.heap.size (Rf.nx N (prs (es.take (k + 1)))) c wr) := HG.out.eq fun x => by
          rw [HTK1.out x, if_neg (fun h => hr h.2), List.append_nil]
        have hcell := HG.out.cell
        by_cases hr1 : 0 ≤ e2
        · have hr2 : ¬ e2 < N := fun h => hr ⟨hr1, h⟩
          clear hr hcell
          go_wp2_with fail
          have HG1 := Lib.hid (HSK.out.call ((Below.refl wr.heap.size wr).alloc (Nat.le_refl _) (.cells #[.int .i64 e1, .int .i64 e2, .string (str e3), .bool e4, .string (str e5)] 30)))
          go_roundw
          case measure => simp only [intOf]; omega
          case rel => exact ⟨k + 1, c, by omega, by go_num, Nat.le_succ_of_le HCK.out, HG1.out⟩
        · clear hr hcell
          go_wp2_with fail
          have HG1 := Lib.hid (HSK.out.call ((Below.refl wr.heap.size wr).alloc (Nat.le_refl _) (.cells #[.int .i64 e1, .int .i64 e2, .string (str e3), .bool e4, .string (str e5)] 30)))
          go_roundw
          case measure => simp only [intOf]; omega
          case rel => exact ⟨k + 1, c, by omega, by go_num, Nat.le_succ_of_le HCK.out, HG1.out⟩
    · obtain rfl : k = n := by omega
      rw [HTK.out] at HG
      have hck := HCK.out
      have hcell := HG.out.cell.cell 0
      simp only [List.getElem?_cons_zero] at hcell
      have HWB := Lib.hid (Walk.begin HG.out)
      have hnw : Rf.left N [] ≤ N := left_le N []
      have HCALL : Hid (∀ W, Walk w.heap.size wr.heap.size (wr.heap.size + 1) (wr.heap.size + 2) c (Rf.nx N (prs es)) W [] →
          Calls Tryz.prog 12 #[.int .i64 s, .pointer (some ⟨wr.heap.size + 1, 0, none⟩), .pointer (some ⟨w.heap.size + 1, 0, none⟩), .pointer (some ⟨wr.heap.size + 2, 0, none⟩)] W (Went w.heap.size wr.heap.size (wr.heap.size + 1) (wr.heap.size + 2) c N (Rf.nx N (prs es)) [] s W)) :=
        fun W hW => walk_l w.heap.size wr.heap.size (wr.heap.size + 1) (wr.heap.size + 2) c N (Rf.nx N (prs es)) HFX.out hN (by omega) (N + 1) [] s W (by omega) (by simpa using hnw) (by omega) (by omega) hW
      have HBB := Lib.hid HG.out.bel
      have hzr := HG.out.size
      clear HG hnw
      go_wp2_with fail
      refine (HCALL.out _ HWB.out).mono ?_
      rintro e w5 ⟨rfl, S, hd, hw5, hb5, hg5⟩
      have HB5 : Hid (Below w.heap.size w w5) := (((HBB.out.alloc (by omega) _).alloc (by simp; omega) _).alloc (by simp; omega) _).grown hg5 (by simp; omega) (fun j hj => by cases hj; omega)
      have HD5 := Lib.hid hd
      have HSE := Lib.hid hw5.seen
      have HK10 := Lib.hid hw5.k10
      have HZ5 : Hid (w.heap.size ≤ w5.heap.size) := HB5.out.size
      clear hd hw5 hb5 hg5 HWB HCALL HBB HB0 HFX HC HWF hcell
      go_wp2_with fail
      go_loopw [12, 55] (fun o i wi => ∃ j : Nat, j ≤ N ∧ i = .int .i64 j ∧ Hid (Row wi w5.heap.size 3 1 o (Rf.pick j S).length (ints (Rf.pick j S))) ∧ Hid (Below w5.heap.size w5 wi)) (fun _ i _ => N - (intOf i).toNat)
      case atStart => exact ⟨0, Nat.zero_le _, rfl, Row.nil _ _ _ _, Below.refl _ _⟩
      case round =>
        obtain ⟨j, hj, rfl, HR, HB⟩ := hrel
        by_cases hlt : j < N
        · have hlook := (HSE.out.call HB.out).look (x := (j : Int)) (wf_small (by omega) (by omega))
          have hc10 := (HK10.out.call HB.out).cell 0
          simp only [List.getElem?_cons_zero] at hc10
          have hpl := Rf.pick_le j S
          have hz5 := HB.out.size
          have HP := Lib.hid (Rf.pick_succ j S)
          by_cases hm : (j : Int) ∈ S
          · rw [if_pos hm] at hlook
            rw [if_pos hm] at HP
            go_wp2_with (at_builtin; refine wpList_append_row _ rfl _ _ 25 rfl w5.heap.size 3 i0 (.int .i64 0) 1 8 Tryz.underlying25 hi hy0 hy1 hy2 rfl _ _ _ rfl (HR.out.alloc _) ⟨wr.heap.size, 0, none⟩ 1 1 [.int .i64 j] rfl rfl ?c1 ?c2 (by decide) ?c3 ?c4 ?c5 ?c6)
            case c1 => exact cell_one_new _ _ _
            case c2 => intro u hu; simp at hu; subst hu; rfl
            case c3 => unfold maxLen; omega
            case c4 => omega
            case c5 => simp; omega
            case c6 =>
              intro v6 w6 hown hb
              have HR6 : Hid (Row w6 w5.heap.size 3 1 v6 (Rf.pick (j + 1) S).length (ints (Rf.pick (j + 1) S))) := by
                unfold Hid
                rw [HP.out, List.length_append, ints_append]
                exact hown
              have HB6 := Lib.hid ((HB.out.alloc hz5 (.cells #[.int .i64 j] 3)).trans hb)
              clear hown hb
              go_wp2_with fail
              go_roundw
              case measure => simp only [intOf]; omega
              case rel => exact ⟨j + 1, by omega, by go_num, HR6.out, HB6.out⟩
          · rw [if_neg hm] at hlook
            rw [if_neg hm, List.append_nil] at HP
            go_wp2_with fail
            go_roundw
            case measure => simp only [intOf]; omega
            case rel => exact ⟨j + 1, by omega, by go_num, by rw [HP.out]; exact HR.out, HB.out⟩
        · obtain rfl : j = N := by omega
          go_wp2_with fail
          exact HT.out _ _ S HD5.out (InS.row HR.out) (HB5.out.trans (HB.out.mono HZ5.out))
end Go.Proofs.YtdpkhapcgbheeaaGreatDoor
