/- Maps keyed by whole numbers: an insertion, a step of a loop over one. -/
import Derived.Test.YtilpkcmlffdobaaGreatDoorProg
import Derived.WalkKit
import Derived.WalkSpells
import Derived.Lib.Hide
import Derived.Maps.RangeWalk
namespace Go.Proofs.YtilpkcmlffdobaaGreatDoor
open Go.RowKit
open Go.ChangeMaps (setBlock)
set_option linter.unusedSimpArgs false
set_option linter.unusedVariables false
set_option linter.unnecessarySimpa false

/-- all keys are whole numbers -/
def IKeys (l : List MapEntry) : Prop := ∀ e ∈ l, ∃ n, e.key = .int .i64 n

theorem findNow_i (k : Int) : ∀ (l : List MapEntry) (i : Nat), IKeys l →
    ∃ r, Instr.findNow (.int .i64) (.int .i64 k) l i = some r ∧ ((r = none ∧ ∀ e ∈ l, e.key ≠ .int .i64 k) ∨ ∃ j m, r = some (i + j, m.val) ∧ l[j]? = some m ∧ m.key = .int .i64 k)
  | [], i, h => ⟨none, rfl, .inl ⟨rfl, fun e h => by cases h⟩⟩
  | e :: l, i, h => by
    obtain ⟨n, hn⟩ := h e List.mem_cons_self
    by_cases hk : k = n
    · subst hk
      exact ⟨some (i, e.val), by simp [Instr.findNow, Instr.sameNow, hn], .inr ⟨0, e, rfl, rfl, hn⟩⟩
    · obtain ⟨r, h1, h2⟩ := findNow_i k l (i + 1) (fun x hx => h x (List.mem_cons_of_mem _ hx))
      have hkn : (k == n) = false := by simp [hk]
      refine ⟨r, by simp [Instr.findNow, Instr.sameNow, hn, hkn, h1], ?_⟩
      rcases h2 with ⟨rfl, h3⟩ | ⟨j, m, rfl, h3, h4⟩
      · refine .inl ⟨rfl, fun x hx => ?_⟩
        rcases List.mem_cons.1 hx with rfl | hx
        · rw [hn]; intro e; cases e; exact hk rfl
        · exact h3 x hx
      · exact .inr ⟨j + 1, m, by rw [show i + 1 + j = i + (j + 1) by omega], by simpa using h3, h4⟩

/-- block b is a map keyed by whole numbers, its first entries l1 -/
def PreMap (w : World) (b : Nat) (l1 : List MapEntry) : Prop := ∃ es clock l2, w.heap[b]? = some (.map es clock) ∧ es.toList = l1 ++ l2 ∧ IKeys l2

section
variable {P : Program} {t kt et : TypeId} (ht : P.underlying t = some (.map kt et)) (hk : P.underlying kt = some (.int .i64))
include ht hk

theorem run_put {w : World} {b clock : Nat} {es : Array MapEntry} (hb : w.heap[b]? = some (.map es clock)) (hes : IKeys es.toList) (k : Int) (v : Value) :
    ∃ es' clock', (Instr.mapUpdate t (.map (some b)) (.int .i64 k) v).run P w = .ok () (setBlock w b (.map es' clock')) ∧
      (((∀ e ∈ es.toList, e.key ≠ .int .i64 k) ∧ es' = es.push { key := .int .i64 k, val := v, born := clock } ∧ clock' = clock + 1) ∨
       ∃ j m, es.toList[j]? = some m ∧ m.key = .int .i64 k ∧ es' = es.modify j (fun e => { e with key := .int .i64 k, val := v }) ∧ clock' = clock) := by
  obtain ⟨r, h1, h2⟩ := findNow_i k es.toList 0 hes
  have hfk : (Instr.findKey kt (.int .i64 k) es.toList).run P w = .ok r w := by
    simp [Instr.findKey, underlying, hk, h1]
  have hck : ∀ n, (Instr.checkKey false (n + 1) kt (.int .i64 k)).run P w = .ok () w := by
    intro n
    simp [Instr.checkKey, underlying, hk]
  have hck : (Instr.checkKey false 10000 kt (.int .i64 k)).run P w = .ok () w := hck 9999
  rcases h2 with ⟨rfl, h3⟩ | ⟨j, m, rfl, h3, h4⟩
  · refine ⟨_, _, ?_, .inl ⟨h3, rfl, rfl⟩⟩
    simp [Instr.mapUpdate, underlying, ht, getObj, setObj, Sem.run, hb, hck, hfk, setBlock]
  · refine ⟨_, _, ?_, .inr ⟨j, m, h3, h4, rfl, rfl⟩⟩
    have hm : es[j]? = some m := by rw [← h3]; simp
    have hsb : Instr.sameBits 10000 (.int .i64 k) (.int .i64 k) = true := by
      have h : ∀ n, Instr.sameBits (n + 1) (.int .i64 k) (.int .i64 k) = true := by
        intro n
        simp [Instr.sameBits]
      exact h 9999
    simp [Instr.mapUpdate, underlying, ht, getObj, setObj, Sem.run, hb, hck, hfk, hm, h4, Instr.keyThatStays, hsb, setBlock]

/-- an insertion of a key that is not there -/
theorem wpList_ins {w w0 : World} {ops : Array Oper} {rest : List Oper} {o : Oper} {a : Act} {Q : Exit → Act → World → Prop} {B : Nat}
    (hg : o.guard = none) (m x v : Operand) (hop : o.op = Op.insert t m x v)
    (b : Nat) (hm : a.eval m = .map (some b)) (k : Int) (hx : a.eval x = .int .i64 k) (val : Value) (hv : a.eval v = val)
    (es : List MapEntry) (clock : Nat) (hb : w.heap[b]? = some (.map es.toArray clock)) (hes : es.all (fun e => match e.key with | .int .i64 n => !(n == k) | _ => false) = true)
    (hB : B ≤ b) (HB : Below B w0 w)
    (hK : ∀ w', w'.heap[b]? = some (.map (es ++ [({ key := .int .i64 k, val := val, born := clock } : MapEntry)]).toArray (clock + 1)) → Below B w0 w' → w'.heap.size = w.heap.size → wpList P ops Q rest (a.put o.dst undef) w') :
    wpList P ops Q (o :: rest) a w := by
  refine wpList_plain hg fun K' hK' => ?_
  have hik : IKeys es := by
    intro e he
    have := List.all_eq_true.1 hes e he
    split at this
    · exact ⟨_, by assumption⟩
    · cases this
  obtain ⟨es', clock', hrun, h⟩ := run_put ht hk hb (by simpa using hik) k val
  rcases h with ⟨-, rfl, rfl⟩ | ⟨j, e, h1, h2, -, -⟩
  · have hlt : b < w.heap.size := (Array.getElem?_eq_some_iff.1 hb).1
    unfold Oper.wp
    simp [execOp, hop, hm, hx, hv, hrun, Result.andThen]
    refine hK' _ _ (hK _ ?_ (HB.trans ⟨rfl, rfl, rfl, by simp [setBlock], fun i hi => ?_⟩) (by simp [setBlock]))
    · simp [setBlock, Array.getElem?_setIfInBounds, hlt]
    · simp only [setBlock]
      rw [Array.getElem?_setIfInBounds_ne (by omega)]
  · exfalso
    have he := List.mem_of_getElem? h1
    have := List.all_eq_true.1 hes e (by simpa using he)
    rw [h2] at this
    simp at this

/-- .. of a function, at a key that is written out -/
theorem wpList_insF {w w0 : World} {ops : Array Oper} {rest : List Oper} {o : Oper} {a : Act} {Q : Exit → Act → World → Prop} {B : Nat}
    (hg : o.guard = none) (m : Operand) (k : Int) (f : FuncId) (hop : o.op = Op.insert t m (.const (.int .i64 k)) (.func f))
    (b : Nat) (hm : a.eval m = .map (some b))
    (es : List MapEntry) (clock : Nat) (hb : w.heap[b]? = some (.map es.toArray clock)) (hes : es.all (fun e => match e.key with | .int .i64 n => !(n == k) | _ => false) = true)
    (hB : B ≤ b) (HB : Below B w0 w)
    (hK : ∀ w', w'.heap[b]? = some (.map (es ++ [({ key := .int .i64 k, val := .func (.func f) #[] #[], born := clock } : MapEntry)]).toArray (clock + 1)) → Below B w0 w' → w'.heap.size = w.heap.size → wpList P ops Q rest (a.put o.dst undef) w') :
    wpList P ops Q (o :: rest) a w :=
  wpList_ins ht hk hg m (.const (.int .i64 k)) (.func f) hop b hm k rfl (.func (.func f) #[] #[]) rfl es clock hb hes hB HB hK

/-- a store at a key of one's own: the entries ahead, at other keys, stay -/
theorem wpList_upd {w w0 : World} {ops : Array Oper} {rest : List Oper} {o : Oper} {a : Act} {Q : Exit → Act → World → Prop} {B : Nat}
    (hg : o.guard = none) (m x v : Operand) (hop : o.op = Op.mapUpdate t m x v)
    (b : Nat) (hm : a.eval m = .map (some b)) (k : Int) (hx : a.eval x = .int .i64 k) (val : Value) (hv : a.eval v = val)
    (l1 : List MapEntry) (hb : PreMap w b l1) (hes : ∀ e ∈ l1, ∃ n, e.key = .int .i64 n ∧ n ≠ k)
    (hB : B ≤ b) (HB : Below B w0 w)
    (hK : ∀ w', PreMap w' b l1 → Below B w0 w' → (∀ c, c ≠ b → w'.heap[c]? = w.heap[c]?) → w'.heap.size = w.heap.size → wpList P ops Q rest (a.put o.dst undef) w') :
    wpList P ops Q (o :: rest) a w := by
  refine wpList_plain hg fun K' hK' => ?_
  obtain ⟨es, clock, l2, hb, hl, hik⟩ := hb
  have hik' : IKeys es.toList := by
    rw [hl]
    intro e he
    rcases List.mem_append.1 he with he | he
    · obtain ⟨n, hn, -⟩ := hes e he; exact ⟨n, hn⟩
    · exact hik e he
  have hlt : b < w.heap.size := (Array.getElem?_eq_some_iff.1 hb).1
  have hnew : ∀ es' clock', (setBlock w b (.map es' clock')).heap[b]? = some (.map es' clock') := fun es' clock' => by simp [setBlock, Array.getElem?_setIfInBounds, hlt]
  have hold : ∀ es' clock' c, c ≠ b → (setBlock w b (.map es' clock')).heap[c]? = w.heap[c]? := fun es' clock' c hc => by
    simp only [setBlock]
    rw [Array.getElem?_setIfInBounds_ne (Ne.symm hc)]
  have hbel : ∀ es' clock', Below B w0 (setBlock w b (.map es' clock')) := fun es' clock' => HB.trans ⟨rfl, rfl, rfl, by simp [setBlock], fun i hi => hold es' clock' i (by omega)⟩
  obtain ⟨es', clock', hrun, h⟩ := run_put ht hk hb hik' k val
  unfold Oper.wp
  simp [execOp, hop, hm, hx, hv, hrun, Result.andThen]
  refine hK' _ _ (hK _ ?_ (hbel _ _) (hold _ _) (by simp [setBlock]))
  rcases h with ⟨-, rfl, rfl⟩ | ⟨j, e, h1, h2, rfl, rfl⟩
  · refine ⟨_, _, l2 ++ [{ key := .int .i64 k, val := val, born := clock }], hnew _ _, by simp [hl], fun e he => ?_⟩
    rcases List.mem_append.1 he with he | he
    · exact hik e he
    · cases List.mem_singleton.1 he; exact ⟨_, rfl⟩
  · have hj : l1.length ≤ j := by
      rcases Nat.lt_or_ge j l1.length with h | h
      · rw [hl, List.getElem?_append_left h] at h1
        obtain ⟨n, hn, hne⟩ := hes e (List.mem_of_getElem? h1)
        rw [h2] at hn; cases hn; exact absurd rfl hne
      · exact h
    refine ⟨_, _, l2.modify (j - l1.length) (fun e => { e with key := .int .i64 k, val := val }), hnew _ _, ?_, fun e he => ?_⟩
    · rw [Array.toList_modify, hl]
      apply List.ext_getElem?
      intro i
      rw [List.getElem?_modify]
      rcases Nat.lt_or_ge i l1.length with hi | hi
      · have hji : ¬ j = i := by omega
        rw [List.getElem?_append_left hi, List.getElem?_append_left hi]
        simp [hji]
      · rw [List.getElem?_append_right hi, List.getElem?_append_right hi, List.getElem?_modify]
        have e : (j = i) = (j - l1.length = i - l1.length) := by
          apply propext; constructor <;> intro h <;> omega
        simp only [e]
    · obtain ⟨i, hi⟩ := List.getElem?_of_mem he
      rw [List.getElem?_modify] at hi
      cases hx : l2[i]? with
      | none => rw [hx] at hi; simp at hi
      | some y =>
        rw [hx] at hi
        have hy := hik y (List.mem_of_getElem? hx)
        simp at hi
        by_cases e' : j - l1.length = i
        · rw [if_pos e'] at hi; rw [← hi]; exact ⟨_, rfl⟩
        · rw [if_neg e'] at hi; rw [← hi]; exact hy
end

/-- a step of a loop over a map that does not turn -/
theorem wpList_next_is {P : Program} {w : World} {ops : Array Oper} {rest : List Oper} {o : Oper} {a : Act} {Q : Exit → Act → World → Prop}
    (hg : o.guard = none) (it : Operand) (hop : o.op = Op.next it false) (r bm since c0 : Nat) (seen : Array Nat) (es : Array MapEntry) (clock : Nat) (hit : a.eval it = .pointer (some ⟨r, 0, none⟩))
    (hr : w.heap[r]? = some (.mapIter (some bm) since seen c0)) (hb : w.heap[bm]? = some (.map es clock)) (hne : r ≠ bm) (hold : ∀ x ∈ es.toList, x.born < since) (hsc : since ≤ c0) (hnd : (es.toList.map (·.born)).Nodup)
    (hDone : wpList P ops Q rest (a.put o.dst (.tuple #[.bool false])) w)
    (hMore : ∀ e w', e ∈ (leftOf es seen).toList → e ∈ es.toList → w'.heap[r]? = some (.mapIter (some bm) since (seen.push e.born) clock) → (∀ c, c ≠ r → w'.heap[c]? = w.heap[c]?) → w'.heap.size = w.heap.size → w'.os = w.os → w'.tape = w.tape → w'.output = w.output →
      (Instr.entry (.pointer (some ⟨r, 0, none⟩))).run P w' = .ok (.tuple #[e.key, e.val]) w' → wpList P ops Q rest (a.put o.dst (.tuple #[.bool true, e.key, e.val])) w') :
    wpList P ops Q (o :: rest) a w := by
  refine wpList_plain hg fun K' hK' => ?_
  have hlt : r < w.heap.size := (Array.getElem?_eq_some_iff.1 hr).1
  unfold Oper.wp
  rcases run_next_at (P := P) w o.type r bm since c0 seen es clock hr hb hold hsc with ⟨-, hrun⟩ | ⟨e, he, w1, hal, hrun⟩
  · simp [execOp, hop, hit, hrun, Result.andThen]
    exact hK' _ _ hDone
  · simp [execOp, hop, hit, hrun, Result.andThen]
    have hm : e ∈ es.toList := by
      unfold leftOf at he
      simp at he
      simpa using he.1
    have hh : w1.heap = w.heap := by rcases hal with rfl | rfl <;> rfl
    have ho : w1.os = w.os := by rcases hal with rfl | rfl <;> rfl
    have htp : w1.tape = w.tape := by rcases hal with rfl | rfl <;> rfl
    have hou : w1.output = w.output := by rcases hal with rfl | rfl <;> rfl
    have hnew : (setBlock w1 r (.mapIter (some bm) since (seen.push e.born) clock)).heap[r]? = some (.mapIter (some bm) since (seen.push e.born) clock) := by simp [setBlock, Array.getElem?_setIfInBounds, hh, hlt]
    have hoth : ∀ c, c ≠ r → (setBlock w1 r (.mapIter (some bm) since (seen.push e.born) clock)).heap[c]? = w.heap[c]? := fun c hc => by
      simp only [setBlock, hh]
      rw [Array.getElem?_setIfInBounds_ne (Ne.symm hc)]
    exact hK' _ _ (hMore e _ he hm hnew hoth (by simp [setBlock, hh]) ho htp hou (run_entry_at _ r bm since seen es clock e hnew ((hoth bm (Ne.symm hne)).trans hb) hm hnd))
end Go.Proofs.YtilpkcmlffdobaaGreatDoor
