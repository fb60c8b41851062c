/- Edges that are read; a row of numbers that is cut at its head and grown at its end. -/
import Derived.Test.YtdpkhapcgbheeaaGreatDoorInA
import Derived.Test.YtdpkhapcgbheeaaGreatDoorRfP
import Derived.Laws.CopyRow
import Derived.Laws.AppendOwn
import Derived.Deep.OwnRows
import Derived.Deep.LoopGhost
namespace Go.Proofs.YtdpkhapcgbheeaaGreatDoor
open Go.RowKit
set_option linter.unusedSimpArgs false
set_option linter.unusedVariables false
set_option linter.unnecessarySimpa false

/-- an edge: from, to, word, same, name -/
abbrev Ed := Int × Int × List UInt8 × Bool × List UInt8
def prs (es : List Ed) : List (Int × Int) := es.map fun e => (e.1, e.2.1)
theorem prs_len (es : List Ed) : (prs es).length = es.length := by simp [prs]

/-- v reads as edges -/
def Eds (w : World) (v : Value) (es : List Ed) : Prop :=
  ∃ a cap, v = .slice a es.length cap ∧ (0 < es.length → ∃ b off, a = some ⟨b, off, none⟩ ∧ b < w.heap.size ∧ ∀ (j : Nat) (h : j < es.length),
    w.cell? ⟨b, off + j * 5, none⟩ = some (.int .i64 (es[j]'h).1) ∧ w.cell? ⟨b, off + j * 5 + 1, none⟩ = some (.int .i64 (es[j]'h).2.1) ∧ w.cell? ⟨b, off + j * 5 + 2, none⟩ = some (.string (str (es[j]'h).2.2.1)) ∧
    w.cell? ⟨b, off + j * 5 + 3, none⟩ = some (.bool (es[j]'h).2.2.2.1) ∧ w.cell? ⟨b, off + j * 5 + 4, none⟩ = some (.string (str (es[j]'h).2.2.2.2))) ∧
    ∀ e ∈ es, (Lit.int .i64 e.1).wf = true ∧ (Lit.int .i64 e.2.1).wf = true

theorem Eds.call {w w' : World} {v : Value} {es : List Ed} (h : Eds w v es) (hb : Below w.heap.size w w') : Eds w' v es := by
  obtain ⟨a, cap, rfl, hc, hwf⟩ := h
  refine ⟨a, cap, rfl, fun h0 => ?_, hwf⟩
  obtain ⟨b, off, rfl, hlt, hcell⟩ := hc h0
  refine ⟨b, off, rfl, Nat.lt_of_lt_of_le hlt hb.size, fun j hj => ?_⟩
  rw [hb.cell (p := ⟨b, off + j * 5, none⟩) hlt, hb.cell (p := ⟨b, off + j * 5 + 1, none⟩) hlt, hb.cell (p := ⟨b, off + j * 5 + 2, none⟩) hlt, hb.cell (p := ⟨b, off + j * 5 + 3, none⟩) hlt, hb.cell (p := ⟨b, off + j * 5 + 4, none⟩) hlt]
  exact hcell j hj

theorem nx_take {n : Int} {es : List Ed} {k : Nat} (h : k < es.length) (x : Int) :
    Rf.nx n (prs (es.take (k + 1))) x = Rf.nx n (prs (es.take k)) x ++ (if es[k].1 = x ∧ 0 ≤ es[k].2.1 ∧ es[k].2.1 < n then [es[k].2.1] else []) := by
  rw [List.take_succ_eq_append_getElem h]
  unfold prs
  rw [List.map_append, Rf.nx_append]
  congr 1
  unfold Rf.nx
  simp only [List.map_cons, List.map_nil, List.filterMap_cons, List.filterMap_nil]
  by_cases hc : es[k].1 = x ∧ 0 ≤ es[k].2.1 ∧ es[k].2.1 < n
  · rw [if_pos hc, if_pos hc]
  · rw [if_neg hc, if_neg hc]
theorem nx_len (n : Int) (es : List (Int × Int)) (x : Int) : (Rf.nx n es x).length ≤ es.length := by
  unfold Rf.nx
  exact List.length_filterMap_le _ _

/-! ### A row cut at its head, grown at its end -/
def Que (w : World) (B : Nat) (v : Value) (xs : List Int) : Prop :=
  (xs = [] ∧ ∃ a, v = .slice (some a) 0 0) ∨
  ∃ g off cap cur, v = .slice (some ⟨g, off, none⟩) xs.length cap ∧ B ≤ g ∧ w.heap[g]? = some (.cells cur 3 (0, 0)) ∧ xs.length ≤ cap ∧ off + cap ≤ cur.size ∧ (cur.toList.drop off).take xs.length = ints xs

theorem Que.call {w w' : World} {B : Nat} {v : Value} {xs : List Int} (h : Que w B v xs) (hb : Below w.heap.size w w') : Que w' B v xs := by
  refine h.imp id ?_
  rintro ⟨g, off, cap, cur, hv, hg, hh, h3⟩
  have hlt : g < w.heap.size := (Array.getElem?_eq_some_iff.1 hh).1
  exact ⟨g, off, cap, cur, hv, hg, (hb.block _ hlt).trans hh, h3⟩
theorem Que.alloc {w : World} {B : Nat} {v : Value} {xs : List Int} (h : Que w B v xs) (o : Obj) : Que (w.alloc o) B v xs :=
  h.call ((Below.refl _ _).alloc (Nat.le_refl _) _)
theorem Que.drew {w : World} {B : Nat} {v : Value} {xs : List Int} (h : Que w B v xs) : Que w.drew B v xs := h
/-- another block is written -/
theorem Que.other {w : World} {B : Nat} {v : Value} {xs : List Int} (h : Que w B v xs) {a : Addr} (x : Value) (hne : a.block < B) : Que (w.setCell a x) B v xs := by
  refine h.imp id ?_
  rintro ⟨g, off, cap, cur, hv, hg, hh, h3⟩
  refine ⟨g, off, cap, cur, hv, hg, ?_, h3⟩
  rw [Below.heap_setCell _ _ _ _ (by omega)]; exact hh
theorem Que.shape {w : World} {B : Nat} {v : Value} {xs : List Int} (h : Que w B v xs) : ∃ a cap, v = .slice (some a) xs.length cap ∧ xs.length ≤ cap := by
  rcases h with ⟨rfl, a, rfl⟩ | ⟨g, off, cap, cur, rfl, _, _, h3, _⟩
  · exact ⟨a, 0, rfl, Nat.le_refl _⟩
  · exact ⟨_, cap, rfl, h3⟩
/-- one element at least: the first -/
theorem Que.first {w : World} {B : Nat} {v : Value} {x : Int} {xs : List Int} (h : Que w B v (x :: xs)) :
    ∃ g off cap, v = .slice (some ⟨g, off, none⟩) (xs.length + 1) (cap + 1) ∧ xs.length ≤ cap ∧ w.cell? ⟨g, off, none⟩ = some (.int .i64 x) ∧ g < w.heap.size ∧ B ≤ g ∧
      Que w B (.slice (some (if cap = 0 then ⟨g, off, none⟩ else ⟨g, off + 1, none⟩)) xs.length cap) xs := by
  rcases h with ⟨h, _⟩ | ⟨g, off, cap, cur, rfl, hg, hh, hn, hcap, htake⟩
  · cases h
  · obtain ⟨c, rfl⟩ : ∃ c, cap = c + 1 := ⟨cap - 1, by simp only [List.length_cons] at hn; omega⟩
    have hlt : g < w.heap.size := (Array.getElem?_eq_some_iff.1 hh).1
    have ho : off < cur.size := by omega
    have hdrop : cur.toList.drop off = cur[off] :: cur.toList.drop (off + 1) := by
      rw [List.drop_eq_getElem_cons (by simpa using ho)]
      simp
    rw [hdrop] at htake
    have htake : cur[off] :: (cur.toList.drop (off + 1)).take xs.length = Value.int .i64 x :: ints xs := htake
    injection htake with h1 h2
    refine ⟨g, off, c, rfl, by simpa using hn, by simp [World.cell?, hh, h1, ho], hlt, hg, ?_⟩
    by_cases hc : c = 0
    · subst hc
      have : xs = [] := List.eq_nil_of_length_eq_zero (by simp only [List.length_cons] at hn; omega)
      subst this
      exact .inl ⟨rfl, _, rfl⟩
    · rw [if_neg hc]
      exact .inr ⟨g, off + 1, c, cur, rfl, hg, hh, by simpa using hn, by omega, h2⟩

section
variable {P : Program} (w : World)
theorem run_append_room_at (t ty e : TypeId) (i : TypeInfo) (ht : P.underlying t = some (.slice e)) (hi : P.info? e = some i)
    (g off sLen sCap : Nat) (cur : Array Value) (hg : w.heap[g]? = some (.cells cur e (0, 0)))
    (a : Addr) (m c : Nat) (news : List Value) (hl : news.length = m * i.size) (hnews : ∀ j u, news[j]? = some u → w.cell? (a.add j) = some u) (h1 : ∀ u ∈ news, u.oneCell' = true)
    (hroom : sLen + m ≤ sCap) (hfit : off + sLen * i.size + news.length ≤ cur.size) :
    (Builtin.append_ #[t, t] ty #[.slice (some ⟨g, off, none⟩) sLen sCap, .slice (some a) m c]).run P w =
      .ok (.slice (some ⟨g, off, none⟩) (sLen + m) sCap) (w.setRow g (cur.toList.take (off + sLen * i.size) ++ news ++ cur.toList.drop (off + sLen * i.size + news.length)).toArray) := by
  have hf := run_firstCells_some (P := P) w i.size m a m c news hl hnews
  have hst := run_storeCells_at P g (off + sLen * i.size) e news 0 cur w hg (by simpa using hfit) h1
  simp only [Nat.add_zero] at hst
  simp [Builtin.append_, run_underlying ht, sizeOf, typeInfo, hi, Builtin.lenOf, hroom, hf, Addr.add_lit, hst]

theorem run_append_que (B : Nat) (i : TypeInfo) (ht : P.underlying 25 = some (.slice 3)) (hi : P.info? 3 = some i) (hz : i.zero = some (.int .i64 0)) (hsize : i.size = 1) (hby : i.bytes = 8)
    (v : Value) (xs : List Int) (hq : Que w B v xs) (z : Int) (a : Addr) (c : Nat) (hnews : w.cell? (a.add 0) = some (.int .i64 z)) (h63 : xs.length ≤ 1000000) (hbase : B ≤ w.heap.size) (ty : TypeId) :
    ∃ v' w', (Builtin.append_ #[25, 25] ty #[v, .slice (some a) 1 c]).run P w = .ok v' w' ∧ Que w' B v' (xs ++ [z]) ∧ Below B w w' := by
  have hnews' : ∀ j u, [Value.int .i64 z][j]? = some u → w.cell? (a.add j) = some u := by
    intro j u hj
    cases j with
    | zero => cases hj; exact hnews
    | succ j => cases hj
  have hone : ∀ u ∈ [Value.int .i64 z], u.oneCell' = true := by intro u hu; simp at hu; subst hu; rfl
  have hzc : (Value.int .i64 0).cells.size = 1 := rfl
  have grown : ∀ (b : Addr) (cap : Nat), (∀ j u, (ints xs)[j]? = some u → w.cell? (b.add j) = some u) → cap < xs.length + 1 →
      ∃ v' w', (Builtin.append_ #[25, 25] ty #[.slice (some b) xs.length cap, .slice (some a) 1 c]).run P w = .ok v' w' ∧ Que w' B v' (xs ++ [z]) ∧ Below B w w' := by
    intro b cap holds hlt
    have hr := run_append_grow (P := P) w 25 ty 3 i (.int .i64 0) ht hi hz b xs.length cap (ints xs) (by rw [hsize, ints_length, Nat.mul_one]) holds a 1 c [.int .i64 z] (by rw [hsize]; rfl) hnews' hlt (by omega)
      (growslice_fits hlt (by rw [hby]; omega))
    have hge := grownCap_ge w (xs.length + 1) cap 3
    refine ⟨_, _, hr, .inr ⟨w.heap.size, 0, grownCap w (xs.length + 1) cap 3, _, by simp, hbase, heap_alloc_new w.drew _, by simpa using hge, ?_, ?_⟩, (Below.refl B w).drew.alloc hbase _⟩
    · simp only [Array.size_append, List.size_toArray, size_zeroCells, hzc, ints_length, List.length_singleton, Nat.mul_one]
      omega
    · have e : (ints xs ++ [Value.int .i64 z]) = ints (xs ++ [z]) := by simp [ints]
      simp only [Array.toList_append, List.drop_zero]
      rw [e]
      have hl : (xs ++ [z]).length = (ints (xs ++ [z])).length := (ints_length _).symm
      rw [hl]
      exact List.take_left
  rcases hq with ⟨rfl, b, rfl⟩ | ⟨g, off, cap, cur, rfl, hbg, hg, hnc, hcs, htake⟩
  · exact grown b 0 (fun j u hj => by cases hj) (by simp)
  · by_cases hroom : xs.length + 1 ≤ cap
    · have hr := run_append_room_at (P := P) w 25 ty 3 i ht hi g off xs.length cap cur hg a 1 c [.int .i64 z] (by rw [hsize]; rfl) hnews' hone hroom (by rw [hsize]; simp; omega)
      refine ⟨_, _, hr, .inr ⟨g, off, cap, _, by simp, hbg, setRow_heap w g cur _ _ _ hg, by simpa using hroom, ?_, ?_⟩, ⟨rfl, rfl, rfl, by simp, fun k hk => setRow_other w g k _ (by omega)⟩⟩
      · simp only [List.size_toArray, List.length_append, List.length_take, List.length_drop, Array.length_toList, hsize, Nat.mul_one, List.length_singleton]
        omega
      · have hoff : off + xs.length ≤ cur.toList.length := by simp; omega
        simp only [hsize, Nat.mul_one]
        have e1 : cur.toList.take (off + xs.length) = cur.toList.take off ++ ints xs := by
          rw [List.take_add, htake]
        rw [e1]
        have e2 : (ints xs ++ [Value.int .i64 z]) = ints (xs ++ [z]) := by simp [ints]
        have e3 : (cur.toList.take off).length = off := by simp; omega
        simp only [List.append_assoc]
        rw [List.drop_append_of_le_length (by omega), List.drop_of_length_le (by omega), List.nil_append, ← List.append_assoc, e2]
        have hl : (xs ++ [z]).length = (ints (xs ++ [z])).length := (ints_length _).symm
        rw [hl]
        exact List.take_left
    · refine grown ⟨g, off, none⟩ cap (fun j u hj => ?_) (by omega)
      have hjl : j < xs.length := by have := (List.getElem?_eq_some_iff.1 hj).1; rwa [ints_length] at this
      rw [← htake, List.getElem?_take, if_pos hjl, List.getElem?_drop] at hj
      have ea : (⟨g, off, none⟩ : Addr).add j = ⟨g, off + j, none⟩ := by cases j <;> simp [Addr.add]
      rw [ea]
      simp only [World.cell?, hg]
      simpa using hj

theorem wpList_append_que {ops : Array Oper} {rest : List Oper} {o : Oper} {a : Act} {Q : Exit → Act → World → Prop} (hgd : o.guard = none) (s x : Operand)
    (ho : o.op = .call { callee := .builtin .append, args := #[s, x], argTypes := #[25, 25] })
    (B : Nat) (i : TypeInfo) (ht : P.underlying 25 = some (.slice 3)) (hi : P.info? 3 = some i) (hz : i.zero = some (.int .i64 0)) (hsize : i.size = 1) (hby : i.bytes = 8)
    (v : Value) (xs : List Int) (hs : a.eval s = v) (hq : Que w B v xs) (z : Int) (ad : Addr) (c : Nat) (hx : a.eval x = .slice (some ad) 1 c) (hnews : w.cell? (ad.add 0) = some (.int .i64 z)) (h63 : xs.length ≤ 1000000) (hbase : B ≤ w.heap.size)
    (h : ∀ v' w', Que w' B v' (xs ++ [z]) → Below B w w' → wpList P ops Q rest (a.put o.dst v') w') : wpList P ops Q (o :: rest) a w :=
  wpList_plain hgd fun _ hK => by
    obtain ⟨v', w', hr, h2, h3⟩ := run_append_que (P := P) w B i ht hi hz hsize hby v xs hq z ad c hnews h63 hbase o.type
    unfold Oper.wp execOp
    simp only [ho, resolve, invoke, builtin, Sem.run_bind, Sem.run_pure, Result.andThen_ok, List.map_toArray, List.map_cons, List.map_nil, hs, hx, hr]
    exact hK _ _ (h v' w' h2 h3)
end

/-! ### Marks -/
def mks (n : Nat) (M : List Int) : List Value := (List.range n).map fun (i : Nat) => .int .i64 (if (i : Int) ∈ M then 1 else 0)
theorem mk_get {n : Nat} {M : List Int} {i : Nat} (h : i < n) : (mks n M)[i]? = some (.int .i64 (if (i : Int) ∈ M then 1 else 0)) := by simp [mks, h]
theorem mk_set {n : Nat} {M : List Int} {i : Nat} (h : i < n) : (mks n M).set i (.int .i64 1) = mks n ((i : Int) :: M) := by
  apply List.ext_getElem?
  intro j
  rw [List.getElem?_set]
  by_cases e : i = j
  · subst e
    rw [if_pos rfl, if_pos (by simp [mks, h]), mk_get h]
    simp
  · rw [if_neg e]
    by_cases hj : j < n
    · rw [mk_get hj, mk_get hj]
      have : ((j : Int) ∈ (i : Int) :: M) ↔ ((j : Int) ∈ M) := by
        rw [List.mem_cons]
        have : ¬ (j : Int) = (i : Int) := by omega
        simp [this]
      simp only [this]
    · simp [mks, hj]
theorem mk_nil (n : Nat) : mks n [] = List.replicate n (.int .i64 0) := by
  apply List.ext_getElem?
  intro j
  by_cases hj : j < n
  · rw [mk_get hj]; simp [hj]
  · simp [mks, hj]
end Go.Proofs.YtdpkhapcgbheeaaGreatDoor
