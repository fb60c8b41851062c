/- An evaluator of calls over abstract memory, and that what it answers is what a call answers. Part 4. -/
import Derived.Test.YthdnpikgnmdnnaaGreatDoorEv3
import Derived.Defers
import Derived.RangeFuncIn
import Derived.Recover
namespace Go.Proofs.YthdnpikgnmdnnaaGreatDoor.Ev
set_option linter.unusedSimpArgs false
set_option linter.unusedVariables false
set_option linter.unusedSectionVars false
variable [Tok]
open Go.RowKit
set_option linter.unusedSectionVars false

/-! Regions whose order is drawn: the certificates -/

structure Cer where
  i : Nat
  o : Oper
  pr : Nat
  t : Tr Value
  th : Tr Value
  rd : Option (List Nat)
  s : St
  msk : List (Nat × Nat)
  v : Value
  s1 : St

namespace Cer
noncomputable def s0 (c : Cer) : St := { c.s with msk := c.msk, wl := [] }
noncomputable def wr (c : Cer) : List Nat := oldOf c.s.next c.s1.wl
noncomputable def rcd (ops : List Oper) (c : Cer) : Rec := ⟨c.i, c.o.dst, asksOf ops c.o, c.rd, c.wr, c.s.next, c.s1.next⟩
/-- Has it changed a block? -/
noncomputable def chg (c : Cer) (id : Nat) : Prop := c.s1.h.get id ≠ c.s.h.get id
end Cer

section
variable (T : Tb) (call : Nat → List Value → St → Option (Out × St)) (ops : Array Oper) (nt : Nat) (msk0 : List (Nat × Nat))

/-- What is known of one more certificate. -/
structure Fact (cs : List Cer) (t : Tr Value) (st : St) (c : Cer) (t' : Tr Value) : Prop where
  ii : c.i = cs.length
  op : ops[c.i]? = some c.o
  tt : c.t = t
  ss : c.s = st
  hth : c.th = onlyT t (awayOf c.pr (cs.map (Cer.rcd ops.toList))) (asksOf ops.toList c.o) .nil
  hmsk : c.msk = joinM (abOf st.next c.rd) (hideOf (awayOf c.pr (cs.map (Cer.rcd ops.toList))) msk0)
  run : runVal T call ops.toList c.o c.th c.s0 = some (.val c.v, c.s1)
  back : backE c.i c.o.after.toList = true
  free : allFree (awayOf c.pr (cs.map (Cer.rcd ops.toList))) c.o.dst c.rd c.wr = true
  sight : inSight c.s0 (abOf st.next c.rd) (hideOf (awayOf c.pr (cs.map (Cer.rcd ops.toList))) msk0) c.wr = true
  new : c.wr = [] ∨ c.rd = none ∨ c.s.next = c.s1.next
  put : putT nt t c.o.dst c.v = some t'
  hpr : ∀ m, c.pr.testBit m = true → ∃ e ∈ c.o.after.toList, Region.binds .any e = true ∧ (m = e.on ∨ ∃ j ∈ cs, j.i = e.on ∧ j.pr.testBit m = true)

noncomputable def Cer.nxt (msk0 : List (Nat × Nat)) (c : Cer) : St := { c.s1 with msk := msk0, wl := c.wr ++ c.s.wl }

/-- A row of certificates, the newest first; and the temporaries and the state behind it. -/
inductive Row (t0 : Tr Value) (sB : St) : List Cer → Tr Value → St → Prop
  | nil : Row t0 sB [] t0 sB
  | cons {cs : List Cer} {t : Tr Value} {st : St} {c : Cer} {t' : Tr Value} : Row t0 sB cs t st → Fact T call ops nt msk0 cs t st c t' → Row t0 sB (c :: cs) t' (c.nxt msk0)
end

theorem pred_inv {acc : List (Nat × Nat)} {o : Oper} {m : Nat} (h : (predsOf o acc).testBit m = true) : ∃ e ∈ o.after.toList, Region.binds .any e = true ∧ (m = e.on ∨ ∃ p, acc.lookup e.on = some p ∧ p.testBit m = true) := by
  have key : ∀ (l : List Edge) (s : Nat), (l.foldl (fun s e => cond (Region.binds .any e) (s ||| (1 <<< e.on) ||| ((acc.lookup e.on).getD 0)) s) s).testBit m = true →
      s.testBit m = true ∨ ∃ e ∈ l, Region.binds .any e = true ∧ (m = e.on ∨ ∃ p, acc.lookup e.on = some p ∧ p.testBit m = true) := by
    intro l
    induction l with
    | nil => intro s h; exact .inl h
    | cons e r ih =>
      intro s h
      rw [List.foldl_cons] at h
      rcases ih _ h with h | ⟨e', h1, h2⟩
      · cases hb : Region.binds .any e with
        | false => rw [hb] at h; exact .inl h
        | true =>
          rw [hb] at h
          simp only [cond_true, Nat.testBit_or, Bool.or_eq_true] at h
          rcases h with (h | h) | h
          · exact .inl h
          · refine .inr ⟨e, List.mem_cons_self .., hb, .inl ?_⟩
            rw [Nat.testBit_shiftLeft] at h
            simp only [Bool.and_eq_true, decide_eq_true_eq] at h
            have h3 := Nat.testBit_one_eq_true_iff_self_eq_zero.1 h.2
            omega
          · cases hl : acc.lookup e.on with
            | none => rw [hl] at h; simp at h
            | some p => rw [hl] at h; exact .inr ⟨e, List.mem_cons_self .., hb, .inr ⟨p, hl, h⟩⟩
      · exact .inr ⟨e', List.mem_cons_of_mem _ h1, h2⟩
  rcases key _ _ h with h | h
  · simp at h
  · exact h

theorem lookup_inv {cs : List Cer} {n p : Nat} (h : (cs.map fun c => (c.i, c.pr)).lookup n = some p) : ∃ j ∈ cs, j.i = n ∧ j.pr = p := by
  induction cs with
  | nil => cases h
  | cons c r ih =>
    rw [List.map_cons, List.lookup_cons] at h
    split at h
    · rename_i he
      cases h
      exact ⟨c, List.mem_cons_self .., (eq_of_beq he).symm, rfl⟩
    · obtain ⟨j, h1, h2⟩ := ih h
      exact ⟨j, List.mem_cons_of_mem _ h1, h2⟩

section
variable {T : Tb} {call : Nat → List Value → St → Option (Out × St)} {ops : Array Oper} {nt : Nat} {msk0 : List (Nat × Nat)}

theorem row_of_draw {t0 : Tr Value} {sB : St} {ds : List (Nat × List Value)} : ∀ {l : List Oper} {cs : List Cer} {t : Tr Value} {st : St} {fr' : Fr} {st' : St}, ops.toList.drop cs.length = l → Row T call ops nt msk0 t0 sB cs t st →
    runDraw T call ops.toList nt msk0 cs.length l (cs.map fun c => (c.i, c.pr)) (cs.map (Cer.rcd ops.toList)) ⟨t, ds⟩ st = some (fr', st') →
    ∃ L, L.length = ops.size ∧ Row T call ops nt msk0 t0 sB L fr'.t st' ∧ fr'.ds = ds
  | [], cs, t, st, fr', st', hl, hr, h => by
    cases h
    refine ⟨cs, ?_, hr, rfl⟩
    have h1 : ops.toList.length ≤ cs.length := List.drop_eq_nil_iff.1 hl
    have h2 : ∀ {cs t st}, Row T call ops nt msk0 t0 sB cs t st → cs.length ≤ ops.size := by
      intro cs t st hr
      cases hr with
      | nil => exact Nat.zero_le _
      | cons h1 h2 =>
        have := (Array.getElem?_eq_some_iff.1 h2.op).1
        rw [h2.ii] at this
        simp only [List.length_cons]; omega
    have := h2 hr
    rw [Array.length_toList] at h1
    omega
  | o :: r, cs, t, st, fr', st', hl, hr, h => by
    have ho : ops[cs.length]? = some o := by
      rw [← Array.getElem?_toList, ← Nat.add_zero cs.length, ← List.getElem?_drop, hl]; rfl
    have hl' : ops.toList.drop (cs.length + 1) = r := by
      rw [← List.drop_drop, hl]; rfl
    unfold runDraw at h
    simp only at h
    split at h
    · rename_i v st1 hv
      generalize hq : (backE _ _ && _) = q at h
      cases q with
      | false => cases h
      | true =>
        simp only [cond_true] at h
        simp only [Bool.and_eq_true, Bool.or_eq_true, List.isEmpty_iff, Option.isNone_iff_eq_none] at hq
        obtain ⟨q1, q2, q3, q4⟩ := hq
        split at h
        · rename_i t' ht'
          have hf : Fact T call ops nt msk0 cs t st ⟨cs.length, o, predsOf o (cs.map fun c => (c.i, c.pr)), t, _, _, st, _, v, st1⟩ t' :=
            { ii := rfl, op := ho, tt := rfl, ss := rfl, hth := rfl, hmsk := rfl, run := hv, back := q1, free := q2, sight := q3,
              new := by
                rcases q4 with q4 | q4 | q4
                · exact .inl q4
                · exact .inr (.inl q4)
                · exact .inr (.inr (Nat.eq_of_beq_eq_true q4))
              put := ht'
              hpr := fun m hm => by
                obtain ⟨e, h1, h2, h3⟩ := pred_inv hm
                refine ⟨e, h1, h2, ?_⟩
                rcases h3 with h3 | ⟨p, h3, h4⟩
                · exact .inl h3
                · obtain ⟨j, j1, j2, j3⟩ := lookup_inv h3
                  exact .inr ⟨j, j1, j2, by rw [j3]; exact h4⟩ }
          exact row_of_draw (cs := _ :: cs) hl' (.cons hr hf) h
        · cases h
    · cases h

end
end Go.Proofs.YthdnpikgnmdnnaaGreatDoor.Ev

namespace Go.Proofs.YthdnpikgnmdnnaaGreatDoor.Ev
set_option linter.unusedSimpArgs false
set_option linter.unusedVariables false
set_option linter.unusedSectionVars false
variable [Tok]
open Go.RowKit
set_option linter.unusedSectionVars false

theorem mem_memN {x : Nat} : ∀ {l : List Nat}, memN x l = true ↔ x ∈ l
  | [] => by simp [memN]
  | y :: r => by
    rw [memN, Bool.or_eq_true, mem_memN, List.mem_cons]
    constructor
    · rintro (h | h)
      · exact .inl (Nat.eq_of_beq_eq_true h)
      · exact .inr h
    · rintro (h | h)
      · exact .inl (by rw [h]; exact Nat.beq_refl y)
      · exact .inr h

theorem disj_inv : ∀ {l m : List Nat}, disj l m = true → ∀ x ∈ l, x ∉ m
  | [], m, _, x, hx => by cases hx
  | y :: r, m, h, x, hx => by
    simp only [disj, Bool.and_eq_true, Bool.not_eq_true'] at h
    rcases List.mem_cons.1 hx with rfl | hx
    · intro hm
      rw [mem_memN.2 hm] at h
      cases h.1
    · exact disj_inv h.2 x hx

theorem clear_inv {rd : Option (List Nat)} {wr : List Nat} (h : apart.clear rd wr = true) {b : Nat} (hb : b ∈ wr) : ∃ l, rd = some l ∧ b ∉ l := by
  unfold apart.clear at h
  cases wr with
  | nil => cases hb
  | cons x r =>
    cases rd with
    | none => cases h
    | some l => exact ⟨l, rfl, fun hl => disj_inv h b hl hb⟩

theorem allFree_mem : ∀ {rs : List Rec} {dst : Option Nat} {rd : Option (List Nat)} {wr : List Nat}, allFree rs dst rd wr = true → ∀ x ∈ rs, freeOf x dst rd wr = true
  | [], _, _, _, _, x, hx => by cases hx
  | y :: r, dst, rd, wr, h, x, hx => by
    simp only [allFree, Bool.and_eq_true] at h
    rcases List.mem_cons.1 hx with rfl | hx
    · exact h.1
    · exact allFree_mem h.2 x hx

theorem isDst_iff {d : Nat} : ∀ {rs : List Rec}, isDst d rs = true ↔ ∃ x ∈ rs, x.dst = some d
  | [] => by simp [isDst]
  | y :: r => by
    rw [isDst, Bool.or_eq_true, isDst_iff]
    constructor
    · rintro (h | ⟨x, hx, h⟩)
      · cases hd : y.dst with
        | none => rw [hd] at h; cases h
        | some e => rw [hd] at h; exact ⟨y, List.mem_cons_self .., by rw [hd, Nat.eq_of_beq_eq_true h]⟩
      · exact ⟨x, List.mem_cons_of_mem _ hx, h⟩
    · rintro ⟨x, hx, h⟩
      rcases List.mem_cons.1 hx with rfl | hx
      · left; rw [h]; exact Nat.beq_refl d
      · exact .inr ⟨x, hx, h⟩

theorem onlyT_get {t : Tr Value} {away : List Rec} {d : Nat} {v : Value} : ∀ {asks : List Nat} {th : Tr Value}, (onlyT t away asks th).get d = some v → th.get d = some v ∨ (d ∈ asks ∧ isDst d away = false ∧ t.get d = some v)
  | [], th, h => .inl h
  | e :: r, th, h => by
    rw [onlyT] at h
    rcases onlyT_get h with h | ⟨h1, h2, h3⟩
    · cases hd : isDst e away with
      | true => rw [hd] at h; exact .inl h
      | false =>
        rw [hd] at h
        simp only [cond_false, Tr.get_set] at h
        by_cases he : d = e
        · rw [if_pos he] at h
          exact .inr ⟨by rw [he]; exact List.mem_cons_self .., by rw [he]; exact hd, by rw [he]; exact h⟩
        · rw [if_neg he] at h; exact .inl h
    · exact .inr ⟨List.mem_cons_of_mem _ h1, h2, h3⟩

theorem sight_mem {st : St} {ab hide : List (Nat × Nat)} : ∀ {l : List Nat}, inSight st ab hide l = true → ∀ b ∈ l, ∃ en, st.see b = some en ∧ hidden hide en.fam = false ∧ ∀ m ∈ members st en.fam, hidden ab m = false
  | [], _, b, hb => by cases hb
  | y :: r, h, b, hb => by
    simp only [inSight, Bool.and_eq_true] at h
    rcases List.mem_cons.1 hb with rfl | hb
    · have h1 := h.1
      cases hs : st.see b with
      | none => rw [hs] at h1; cases h1
      | some en =>
        rw [hs] at h1
        simp only [Bool.and_eq_true, Bool.not_eq_true'] at h1
        have key : ∀ {l : List Nat}, inSight.noneHid ab l = true → ∀ m ∈ l, hidden ab m = false := by
          intro l
          induction l with
          | nil => intro _ m hm; cases hm
          | cons x r ih =>
            intro h m hm
            simp only [inSight.noneHid, Bool.and_eq_true, Bool.not_eq_true'] at h
            rcases List.mem_cons.1 hm with rfl | hm
            · exact h.1
            · exact ih h.2 m hm
        exact ⟨en, rfl, h1.1, key h1.2⟩
    · exact sight_mem h.2 b hb

theorem back_mem {i : Nat} : ∀ {l : List Edge}, backE i l = true → ∀ e ∈ l, Region.binds .any e = true → e.on < i
  | [], _, e, he, _ => by cases he
  | y :: r, h, e, he, hb => by
    simp only [backE, Bool.and_eq_true, Bool.or_eq_true, Bool.not_eq_true'] at h
    rcases List.mem_cons.1 he with rfl | he
    · rcases h.1 with h1 | h1
      · rw [hb] at h1; cases h1
      · exact Nat.le_of_ble_eq_true h1
    · exact back_mem h.2 e he hb

section
variable {T : Tb} {call : Nat → List Value → St → Option (Out × St)} {ops : Array Oper} {nt : Nat} {msk0 : List (Nat × Nat)} {t0 : Tr Value} {sB : St}

theorem Row.idx : ∀ {cs : List Cer} {t : Tr Value} {st : St}, Row T call ops nt msk0 t0 sB cs t st → ∀ c ∈ cs, c.i < cs.length := by
  intro cs t st h
  induction h with
  | nil => intro c hc; cases hc
  | cons h1 h2 ih =>
    intro c hc
    rcases List.mem_cons.1 hc with rfl | hc
    · rw [h2.ii]; exact Nat.lt_succ_self _
    · exact Nat.lt_succ_of_lt (ih c hc)

theorem Row.has : ∀ {cs : List Cer} {t : Tr Value} {st : St}, Row T call ops nt msk0 t0 sB cs t st → ∀ i < cs.length, ∃ c ∈ cs, c.i = i := by
  intro cs t st h
  induction h with
  | nil => intro i hi; simp at hi
  | @cons cs t st c t' h1 h2 ih =>
    intro i hi
    by_cases e : i = cs.length
    · exact ⟨c, List.mem_cons_self .., by rw [h2.ii, e]⟩
    · obtain ⟨c', hc', he⟩ := ih i (by simp only [List.length_cons] at hi; omega)
      exact ⟨c', List.mem_cons_of_mem _ hc', he⟩

theorem Row.uniq {cs : List Cer} {t : Tr Value} {st : St} (h : Row T call ops nt msk0 t0 sB cs t st) : ∀ c ∈ cs, ∀ d ∈ cs, c.i = d.i → c = d := by
  induction h with
  | nil => intro c hc; cases hc
  | @cons cs t st c t' h1 h2 ih =>
    intro x hx y hy e
    rcases List.mem_cons.1 hx with hx | hx <;> rcases List.mem_cons.1 hy with hy | hy
    · rw [hx, hy]
    · have := h1.idx y hy; rw [← e, hx, h2.ii] at this; omega
    · have := h1.idx x hx; rw [e, hy, h2.ii] at this; omega
    · exact ih x hx y hy e

theorem Row.split {L : List Cer} {t : Tr Value} {st : St} (h : Row T call ops nt msk0 t0 sB L t st) : ∀ c ∈ L, ∃ cs t1 st1 t2, Row T call ops nt msk0 t0 sB cs t1 st1 ∧ Fact T call ops nt msk0 cs t1 st1 c t2 ∧ (∀ j ∈ L, j.i < c.i → j ∈ cs) ∧ (∀ j ∈ cs, j ∈ L) := by
  induction h with
  | nil => intro c hc; cases hc
  | @cons cs t st c t' h1 h2 ih =>
    intro x hx
    rcases List.mem_cons.1 hx with rfl | hx
    · refine ⟨cs, t, st, t', h1, h2, fun j hj hlt => ?_, fun j hj => List.mem_cons_of_mem _ hj⟩
      rcases List.mem_cons.1 hj with rfl | hj
      · omega
      · exact hj
    · obtain ⟨cs', t1, st1, t2, g1, g2, g3, g4⟩ := ih x hx
      refine ⟨cs', t1, st1, t2, g1, g2, fun j hj hlt => ?_, fun j hj => List.mem_cons_of_mem _ (g4 j hj)⟩
      rcases List.mem_cons.1 hj with hj | hj
      · have := h1.idx x hx; rw [hj, h2.ii] at hlt; omega
      · exact g3 j hj hlt

/-- The state behind a row. -/
structure Rowed (T : Tb) (msk0 : List (Nat × Nat)) (sB : St) (cs : List Cer) (st : St) : Prop where
  abs : Abs T st
  msk : st.msk = msk0
  hi : ∀ j ∈ cs, j.s1.next ≤ st.next
  stp : AStp T sB st

theorem Fact.abs0 {cs : List Cer} {t : Tr Value} {st : St} {c : Cer} {t' : Tr Value} (h : Fact T call ops nt msk0 cs t st c t') (r : Rowed T msk0 sB cs st) : Abs T c.s0 := by
  have hs := h.ss
  unfold Cer.s0
  rw [hs]
  refine abs_mask r.abs fun id hid => ?_
  rw [h.hmsk, ← r.msk]
  exact maskOf_lt r.abs (fun x hx => by
    obtain ⟨j, hj, rfl⟩ := List.mem_map.1 hx
    exact r.hi j hj) id hid

theorem Row.rowed (hac : ACall T call) (hb : Abs T sB) (hm : sB.msk = msk0) {cs : List Cer} {t : Tr Value} {st : St} (h : Row T call ops nt msk0 t0 sB cs t st) : Rowed T msk0 sB cs st := by
  induction h with
  | nil => exact ⟨hb, hm, (fun j hj => by cases hj), .refl hb⟩
  | @cons cs t st c t' h1 h2 ih =>
    have h0 := a_runVal hac (h2.abs0 ih) h2.run
    have hs := h2.ss
    have h3 : AStp T st (c.nxt msk0) := by
      have : AStp T { st with msk := c.msk, wl := [] } c.s1 := by rw [← hs]; exact h0
      have h4 := this.unmask ih.abs fun id hid => by
        rw [h2.hmsk]
        exact hidden_join.2 (.inr (hidden_hideOf.2 (.inr (by rw [← ih.msk]; exact hid))))
      unfold Cer.nxt Cer.wr
      rw [hs, ← ih.msk]
      exact h4
    refine ⟨h3.abs, rfl, fun j hj => ?_, ih.stp.trans h3 hb⟩
    rcases List.mem_cons.1 hj with rfl | hj
    · exact Nat.le_refl _
    · exact Nat.le_trans (ih.hi j hj) h3.next

theorem Row.step (hac : ACall T call) (hb : Abs T sB) (hm : sB.msk = msk0) {cs : List Cer} {t : Tr Value} {st : St} {c : Cer} {t' : Tr Value} (h1 : Row T call ops nt msk0 t0 sB cs t st) (h2 : Fact T call ops nt msk0 cs t st c t') : AStp T st (c.nxt msk0) := by
  have r := h1.rowed hac hb hm
  have hs := h2.ss
  have h0 := a_runVal hac (h2.abs0 r) h2.run
  have : AStp T { st with msk := c.msk, wl := [] } c.s1 := by rw [← hs]; exact h0
  have h4 := this.unmask r.abs fun id hid => by
    rw [h2.hmsk]
    exact hidden_join.2 (.inr (hidden_hideOf.2 (.inr (by rw [← r.msk]; exact hid))))
  unfold Cer.nxt Cer.wr
  rw [hs, ← r.msk]
  exact h4

theorem Row.after (hac : ACall T call) (hb : Abs T sB) (hm : sB.msk = msk0) {cs : List Cer} {t : Tr Value} {st : St} (h : Row T call ops nt msk0 t0 sB cs t st) : ∀ j ∈ cs, Abs T (j.nxt msk0) ∧ AStp T (j.nxt msk0) st := by
  induction h with
  | nil => intro c hc; cases hc
  | @cons cs t st c t' h1 h2 ih =>
    intro j hj
    have hs := h1.step hac hb hm h2
    rcases List.mem_cons.1 hj with rfl | hj
    · exact ⟨hs.abs, .refl hs.abs⟩
    · exact ⟨(ih j hj).1, (ih j hj).2.trans hs (ih j hj).1⟩

theorem Row.cover {cs : List Cer} {t : Tr Value} {st : St} (h : Row T call ops nt msk0 t0 sB cs t st) : ∀ id, sB.next ≤ id → id < st.next → ∃ j ∈ cs, j.s.next ≤ id ∧ id < j.s1.next := by
  induction h with
  | nil => intro id h1 h2; omega
  | @cons cs t st c t' h1 h2 ih =>
    intro id g1 g2
    by_cases e : id < st.next
    · obtain ⟨j, hj, h⟩ := ih id g1 e
      exact ⟨j, List.mem_cons_of_mem _ hj, h⟩
    · exact ⟨c, List.mem_cons_self .., by rw [h2.ss]; omega, g2⟩

theorem Row.wls {cs : List Cer} {t : Tr Value} {st : St} (h : Row T call ops nt msk0 t0 sB cs t st) : ∀ c ∈ cs, ∀ b ∈ c.wr, b ∈ st.wl := by
  induction h with
  | nil => intro c hc; cases hc
  | @cons cs t st c t' h1 h2 ih =>
    intro j hj b hb
    rcases List.mem_cons.1 hj with rfl | hj
    · exact List.mem_append.2 (.inl hb)
    · exact List.mem_append.2 (.inr (by rw [h2.ss]; exact ih j hj b hb))

/-- What is known of a certificate of a row by itself. -/
structure One (T : Tb) (call : Nat → List Value → St → Option (Out × St)) (ops : Array Oper) (nt : Nat) (msk0 : List (Nat × Nat)) (sB : St) (L : List Cer) (c : Cer) : Prop where
  op : ops[c.i]? = some c.o
  abs : Abs T c.s
  abs0 : Abs T c.s0
  msk : c.s.msk = msk0
  fromB : AStp T sB c.s
  stp : AStp T c.s0 c.s1
  run : runVal T call ops.toList c.o c.th c.s0 = some (.val c.v, c.s1)
  back : ∀ e ∈ c.o.after.toList, Region.binds .any e = true → e.on < c.i
  hid0 : ∀ id, hidden msk0 id = true → hidden c.msk id = true
  hidAb : ∀ l id, c.rd = some l → id < c.s.next → id ∉ l → hidden c.msk id = true
  hidInv : ∀ id, hidden c.msk id = true → hidden msk0 id = true ∨ (∃ j ∈ L, j.i < c.i ∧ c.pr.testBit j.i = false ∧ j.s.next ≤ id ∧ id < j.s1.next) ∨ hidden (abOf c.s.next c.rd) id = true
  th : ∀ d v, c.th.get d = some v → d ∈ asksOf ops.toList c.o ∧ c.t.get d = some v
  sight : ∀ b ∈ c.wr, ∃ en, c.s0.see b = some en ∧ (∀ j ∈ L, j.i < c.i → c.pr.testBit j.i = false → ¬ (j.s.next ≤ en.fam ∧ en.fam < j.s1.next)) ∧ ∀ m ∈ members c.s en.fam, hidden (abOf c.s.next c.rd) m = false
  new : c.wr = [] ∨ c.rd = none ∨ c.s.next = c.s1.next
  pr : ∀ m, c.pr.testBit m = true → ∃ e ∈ c.o.after.toList, Region.binds .any e = true ∧ (m = e.on ∨ ∃ j ∈ L, j.i = e.on ∧ j.pr.testBit m = true)
  dlt : ∀ d, c.o.dst = some d → d < nt

/-- What is known of two, of which the first stands before the second in the text. -/
structure Two (T : Tb) (ops : Array Oper) (msk0 : List (Nat × Nat)) (j c : Cer) : Prop where
  stp : AStp T (j.nxt msk0) c.s
  next : j.s1.next ≤ c.s.next
  free : c.pr.testBit j.i = false → freeOf (j.rcd ops.toList) c.o.dst c.rd c.wr = true
  hid : c.pr.testBit j.i = false → ∀ id, j.s.next ≤ id → id < j.s1.next → hidden c.msk id = true
  th : c.pr.testBit j.i = false → ∀ d, j.o.dst = some d → c.th.get d = none

theorem Row.one (hac : ACall T call) (hb : Abs T sB) (hm : sB.msk = msk0) {L : List Cer} {t : Tr Value} {st : St} (h : Row T call ops nt msk0 t0 sB L t st) {c : Cer} (hc : c ∈ L) : One T call ops nt msk0 sB L c := by
  obtain ⟨cs, t1, st1, t2, g1, g2, g3, g4⟩ := h.split c hc
  have r := g1.rowed hac hb hm
  have hs := g2.ss
  have a0 := g2.abs0 r
  have haw : ∀ x, x ∈ awayOf c.pr (cs.map (Cer.rcd ops.toList)) ↔ ∃ j ∈ L, j.i < c.i ∧ c.pr.testBit j.i = false ∧ x = j.rcd ops.toList := by
    intro x
    rw [mem_awayOf]
    constructor
    · rintro ⟨h1, h2⟩
      obtain ⟨j, hj, rfl⟩ := List.mem_map.1 h1
      exact ⟨j, g4 j hj, by rw [g2.ii]; exact g1.idx j hj, h2, rfl⟩
    · rintro ⟨j, hj, h1, h2, rfl⟩
      exact ⟨List.mem_map.2 ⟨j, g3 j hj h1, rfl⟩, h2⟩
  refine
    { op := g2.op, abs := by rw [hs]; exact r.abs, abs0 := a0, msk := by rw [hs]; exact r.msk, fromB := by rw [hs]; exact r.stp, stp := a_runVal hac a0 g2.run, run := g2.run, back := back_mem g2.back
      hid0 := fun id hid => ?_, hidAb := fun l id hl hlt hn => ?_, hidInv := fun id hid => ?_, th := fun d v hd => ?_, sight := fun b hbw => ?_, new := g2.new, pr := fun m hm => ?_, dlt := fun d hd => ?_ }
  · rw [g2.hmsk]; exact hidden_join.2 (.inr (hidden_hideOf.2 (.inr hid)))
  · rw [g2.hmsk]; refine hidden_join.2 (.inl ?_)
    rw [hl]; rw [hs] at hlt
    exact hidden_allBut (Nat.zero_le _) hlt hn
  · rw [g2.hmsk] at hid
    rcases hidden_join.1 hid with h | h
    · exact .inr (.inr (by rw [hs]; exact h))
    · rcases hidden_hideOf.1 h with ⟨x, hx, h1, h2⟩ | h
      · obtain ⟨j, hj, k1, k2, rfl⟩ := (haw x).1 hx
        exact .inr (.inl ⟨j, hj, k1, k2, h1, h2⟩)
      · exact .inl h
  · rw [g2.hth] at hd
    rcases onlyT_get hd with h | ⟨h1, h2, h3⟩
    · cases h
    · exact ⟨h1, by rw [g2.tt]; exact h3⟩
  · obtain ⟨en, h1, h2, h3⟩ := sight_mem g2.sight b hbw
    refine ⟨en, h1, fun j hj k1 k2 hh => ?_, fun m hm => by rw [hs]; exact h3 m hm⟩
    have : hidden (hideOf (awayOf c.pr (cs.map (Cer.rcd ops.toList))) msk0) en.fam = true := hidden_hideOf.2 (.inl ⟨_, (haw _).2 ⟨j, hj, k1, k2, rfl⟩, hh.1, hh.2⟩)
    rw [h2] at this; cases this
  · obtain ⟨e, h1, h2, h3⟩ := g2.hpr m hm
    exact ⟨e, h1, h2, h3.imp id fun ⟨j, hj, k⟩ => ⟨j, g4 j hj, k⟩⟩
  · have hp := g2.put
    rw [hd] at hp
    simp only [putT] at hp
    cases hlt : Nat.blt d nt with
    | false => rw [hlt] at hp; cases hp
    | true => exact Nat.le_of_ble_eq_true hlt

theorem Row.two (hac : ACall T call) (hb : Abs T sB) (hm : sB.msk = msk0) {L : List Cer} {t : Tr Value} {st : St} (h : Row T call ops nt msk0 t0 sB L t st) {j c : Cer} (hj : j ∈ L) (hc : c ∈ L) (hlt : j.i < c.i) : Two T ops msk0 j c := by
  obtain ⟨cs, t1, st1, t2, g1, g2, g3, g4⟩ := h.split c hc
  have r := g1.rowed hac hb hm
  have hs := g2.ss
  have hjc := g3 j hj hlt
  have haw : c.pr.testBit j.i = false → j.rcd ops.toList ∈ awayOf c.pr (cs.map (Cer.rcd ops.toList)) := fun hp => mem_awayOf.2 ⟨List.mem_map.2 ⟨j, hjc, rfl⟩, hp⟩
  refine ⟨by rw [hs]; exact (g1.after hac hb hm j hjc).2, by rw [hs]; exact r.hi j hjc, fun hp => allFree_mem g2.free _ (haw hp), fun hp id h1 h2 => ?_, fun hp d hd => ?_⟩
  · rw [g2.hmsk]; exact hidden_join.2 (.inr (hidden_hideOf.2 (.inl ⟨_, haw hp, h1, h2⟩)))
  · rw [g2.hth]
    cases hg : (onlyT t1 (awayOf c.pr (cs.map (Cer.rcd ops.toList))) (asksOf ops.toList c.o) .nil).get d with
    | none => rfl
    | some v =>
      rcases onlyT_get hg with h | ⟨_, h2, _⟩
      · cases h
      · rw [isDst_iff.2 ⟨_, haw hp, hd⟩] at h2; cases h2

end
end Go.Proofs.YthdnpikgnmdnnaaGreatDoor.Ev

namespace Go.Proofs.YthdnpikgnmdnnaaGreatDoor.Ev
set_option linter.unusedSimpArgs false
set_option linter.unusedVariables false
set_option linter.unusedSectionVars false
variable [Tok]
open Go.RowKit
set_option linter.unusedSectionVars false

/-! What a set of carried-out operations has come to: blocks and temporaries -/

open Classical in
noncomputable def HV (X : Nat → Bool) (V0 : View) : List Cer → View
  | [] => V0
  | c :: cs => fun id => if X c.i = true ∧ c.chg id then c.s1.h.get id else HV X V0 cs id

noncomputable def HT (X : Nat → Bool) (t0 : Tr Value) : List Cer → Nat → Option Value
  | [] => t0.get
  | c :: cs => fun d => if X c.i = true ∧ c.o.dst = some d then some c.v else HT X t0 cs d

theorem HV_congr {X Y : Nat → Bool} {V0 : View} {id : Nat} : ∀ {cs : List Cer}, (∀ c ∈ cs, c.chg id → X c.i = Y c.i) → HV X V0 cs id = HV Y V0 cs id
  | [], _ => rfl
  | c :: cs, h => by
    have ih : HV X V0 cs id = HV Y V0 cs id := HV_congr fun c' hc' => h c' (List.mem_cons_of_mem _ hc')
    simp only [HV]
    by_cases hc : c.chg id
    · rw [h c (List.mem_cons_self ..) hc, ih]
    · rw [if_neg (fun e => hc e.2), if_neg (fun e => hc e.2), ih]

theorem HT_congr {X Y : Nat → Bool} {t0 : Tr Value} {d : Nat} : ∀ {cs : List Cer}, (∀ c ∈ cs, c.o.dst = some d → X c.i = Y c.i) → HT X t0 cs d = HT Y t0 cs d
  | [], _ => rfl
  | c :: cs, h => by
    have ih : HT X t0 cs d = HT Y t0 cs d := HT_congr fun c' hc' => h c' (List.mem_cons_of_mem _ hc')
    simp only [HT]
    by_cases hc : c.o.dst = some d
    · rw [h c (List.mem_cons_self ..) hc, ih]
    · rw [if_neg (fun e => hc e.2), if_neg (fun e => hc e.2), ih]

section
variable {T : Tb} {call : Nat → List Value → St → Option (Out × St)} {ops : Array Oper} {nt : Nat} {msk0 : List (Nat × Nat)} {t0 : Tr Value} {sB : St}
variable (hac : ACall T call) (hb : Abs T sB) (hm : sB.msk = msk0)
include hac hb hm

theorem HV_all {cs : List Cer} {t : Tr Value} {st : St} (h : Row T call ops nt msk0 t0 sB cs t st) (id : Nat) : HV (fun _ => true) sB.see cs id = st.see id := by
  induction h with
  | nil => rfl
  | @cons cs t st c t' h1 h2 ih =>
    have r := h1.rowed hac hb hm
    have o := (Row.cons h1 h2).one hac hb hm (List.mem_cons_self ..)
    have hs := h2.ss
    simp only [HV]
    have hsee : ∀ id, (c.nxt msk0).see id = cond (hidden msk0 id) none (c.s1.h.get id) := fun id => rfl
    have hsee2 : st.see id = cond (hidden msk0 id) none (c.s.h.get id) := by rw [hs, ← r.msk]; rfl
    by_cases hc : c.chg id
    · rw [if_pos ⟨rfl, hc⟩, hsee]
      cases hh : hidden msk0 id with
      | false => rfl
      | true => exact absurd (o.stp.hid id (o.hid0 id hh)) hc
    · rw [if_neg (fun e => hc e.2), ih, hsee, hsee2]
      have : c.s1.h.get id = c.s.h.get id := Classical.byContradiction hc
      rw [this]

theorem HV_at {L : List Cer} {t : Tr Value} {st : St} (h : Row T call ops nt msk0 t0 sB L t st) (id : Nat) : ∀ c ∈ L, HV (fun i => Nat.blt i c.i) sB.see L id = c.s.see id := by
  induction h with
  | nil => intro c hc; cases hc
  | @cons cs t st c t' h1 h2 ih =>
    intro x hx
    simp only [HV]
    have hno : ∀ {a b : Nat}, b ≤ a → ¬ Nat.blt a b = true := fun hab e => by have := Nat.le_of_ble_eq_true e; omega
    rcases List.mem_cons.1 hx with rfl | hx
    · rw [if_neg (fun e => hno (Nat.le_refl _) e.1), h2.ss, ← HV_all hac hb hm h1 id]
      refine HV_congr fun c' hc' _ => ?_
      have := h1.idx c' hc'
      rw [← h2.ii] at this
      exact Nat.ble_eq_true_of_le this
    · have hlt : x.i < c.i := by rw [h2.ii]; exact h1.idx x hx
      rw [if_neg (fun e => hno (Nat.le_of_lt hlt) e.1)]
      exact ih x hx

theorem HT_all {cs : List Cer} {t : Tr Value} {st : St} (h : Row T call ops nt msk0 t0 sB cs t st) (d : Nat) : HT (fun _ => true) t0 cs d = t.get d := by
  induction h with
  | nil => rfl
  | @cons cs t st c t' h1 h2 ih =>
    simp only [HT]
    have hp := h2.put
    cases hd : c.o.dst with
    | none =>
      rw [hd] at hp
      cases hp
      rw [if_neg (fun e => by cases e.2), ih]
    | some e =>
      rw [hd] at hp
      simp only [putT] at hp
      cases hlt : Nat.blt e nt with
      | false => rw [hlt] at hp; cases hp
      | true =>
        rw [hlt] at hp
        cases hp
        rw [Tr.get_set]
        by_cases he : d = e
        · rw [if_pos ⟨by trivial, by rw [he]⟩, if_pos he]
        · rw [if_neg (fun k => he (by cases k.2; rfl)), if_neg he, ih]

theorem HT_at {L : List Cer} {t : Tr Value} {st : St} (h : Row T call ops nt msk0 t0 sB L t st) (d : Nat) : ∀ c ∈ L, HT (fun i => Nat.blt i c.i) t0 L d = c.t.get d := by
  induction h with
  | nil => intro c hc; cases hc
  | @cons cs t st c t' h1 h2 ih =>
    intro x hx
    simp only [HT]
    have hno : ∀ {a b : Nat}, b ≤ a → ¬ Nat.blt a b = true := fun hab e => by have := Nat.le_of_ble_eq_true e; omega
    rcases List.mem_cons.1 hx with rfl | hx
    · rw [if_neg (fun e => hno (Nat.le_refl _) e.1), h2.tt, ← HT_all hac hb hm h1 d]
      refine HT_congr fun c' hc' _ => ?_
      have := h1.idx c' hc'
      rw [← h2.ii] at this
      exact Nat.ble_eq_true_of_le this
    · have hlt : x.i < c.i := by rw [h2.ii]; exact h1.idx x hx
      rw [if_neg (fun e => hno (Nat.le_of_lt hlt) e.1)]
      exact ih x hx

omit hac hb hm in
theorem HV_top {L : List Cer} {t : Tr Value} {st : St} (h : Row T call ops nt msk0 t0 sB L t st) {V0 : View} {Y : Nat → Bool} {id : Nat} : ∀ c ∈ L, Y c.i = true → c.chg id → (∀ k ∈ L, c.i < k.i → Y k.i = true → ¬ k.chg id) → HV Y V0 L id = c.s1.h.get id := by
  induction h with
  | nil => intro c hc; cases hc
  | @cons cs t st c t' h1 h2 ih =>
    intro x hx hY hch hk
    simp only [HV]
    rcases List.mem_cons.1 hx with rfl | hx
    · rw [if_pos ⟨hY, hch⟩]
    · have hlt : x.i < c.i := by rw [h2.ii]; exact h1.idx x hx
      rw [if_neg (fun e => hk c (List.mem_cons_self ..) hlt e.1 e.2)]
      exact ih x hx hY hch fun k hk' => hk k (List.mem_cons_of_mem _ hk')

omit hac hb hm in
theorem HT_top {L : List Cer} {t : Tr Value} {st : St} (h : Row T call ops nt msk0 t0 sB L t st) {Y : Nat → Bool} {d : Nat} : ∀ c ∈ L, Y c.i = true → c.o.dst = some d → (∀ k ∈ L, c.i < k.i → Y k.i = true → k.o.dst ≠ some d) → HT Y t0 L d = some c.v := by
  induction h with
  | nil => intro c hc; cases hc
  | @cons cs t st c t' h1 h2 ih =>
    intro x hx hY hch hk
    simp only [HT]
    rcases List.mem_cons.1 hx with rfl | hx
    · rw [if_pos ⟨hY, hch⟩]
    · have hlt : x.i < c.i := by rw [h2.ii]; exact h1.idx x hx
      rw [if_neg (fun e => hk c (List.mem_cons_self ..) hlt e.1 e.2)]
      exact ih x hx hY hch fun k hk' => hk k (List.mem_cons_of_mem _ hk')

omit hac hb hm in
theorem One.chg_wr {L : List Cer} {c : Cer} (o : One T call ops nt msk0 sB L c) {id : Nat} (h : c.chg id) : hidden c.msk id = false ∧ id < c.s1.next ∧ (id < c.s.next → id ∈ c.wr) := by
  refine ⟨?_, ?_, fun hlt => mem_oldOf.2 ⟨o.stp.old id hlt h, hlt⟩⟩
  · cases hh : hidden c.msk id with
    | false => rfl
    | true => exact absurd (o.stp.hid id hh) h
  · rcases Nat.lt_or_ge id c.s1.next with hlt | hge
    · exact hlt
    · exfalso
      refine h ?_
      have h1 : c.s1.h.get id = none := by
        cases he : c.s1.h.get id with
        | none => rfl
        | some en => have := o.stp.abs.lt id en he; omega
      have h2 : c.s.h.get id = none := by
        cases he : c.s.h.get id with
        | none => rfl
        | some en =>
          have := o.abs.lt id en he
          have hn : c.s.next ≤ c.s1.next := o.stp.next
          omega
      rw [h1, h2]

variable {L : List Cer} {tF : Tr Value} {sF : St} (R : Row T call ops nt msk0 t0 sB L tF sF)
include R

/-- What an earlier one has changed that need not stand before is hidden. -/
theorem early_hid {j c : Cer} (hj : j ∈ L) (hc : c ∈ L) (hlt : j.i < c.i) (hp : c.pr.testBit j.i = false) {id : Nat} (h : j.chg id) : hidden c.msk id = true := by
  have oj := R.one hac hb hm hj
  have oc := R.one hac hb hm hc
  have two := R.two hac hb hm hj hc hlt
  obtain ⟨_, h2, h3⟩ := oj.chg_wr h
  by_cases hid : id < j.s.next
  · have hf := two.free hp
    simp only [freeOf, apart, Bool.and_eq_true] at hf
    obtain ⟨l, hl, hn⟩ := clear_inv hf.1.2 (h3 hid)
    have hnn : j.s.next ≤ j.s1.next := oj.stp.next
    have := two.next
    exact oc.hidAb l id hl (by omega) hn
  · exact two.hid hp id (by omega) h2

/-- What a later one changes that has come before is out of sight. -/
theorem late_hid {c k : Cer} (hc : c ∈ L) (hk : k ∈ L) (hlt : c.i < k.i) (hp : k.pr.testBit c.i = false) {id : Nat} (h : k.chg id) (hid : id < c.s.next) : hidden c.msk id = true := by
  have ok := R.one hac hb hm hk
  have oc := R.one hac hb hm hc
  have two := R.two hac hb hm hc hk hlt
  obtain ⟨_, _, h3⟩ := ok.chg_wr h
  have hnn : c.s.next ≤ c.s1.next := oc.stp.next
  have hn2 := two.next
  have hf := two.free hp
  simp only [freeOf, apart, Bool.and_eq_true] at hf
  obtain ⟨l, hl, hn⟩ := clear_inv hf.1.1 (h3 (by omega))
  exact oc.hidAb l id hl hid hn

/-- Two that may stand either way change nothing in common. -/
theorem both_chg {c k : Cer} (hc : c ∈ L) (hk : k ∈ L) (hlt : c.i < k.i) (hp : k.pr.testBit c.i = false) {id : Nat} (h : k.chg id) : ¬ c.chg id := fun h' => by
  have := early_hid hac hb hm R hc hk hlt hp h'
  rw [((R.one hac hb hm hk).chg_wr h).1] at this
  cases this

/-- A set of operations that holds with each what must stand before it. -/
noncomputable def Shut (L : List Cer) (X : Nat → Bool) : Prop := ∀ j ∈ L, X j.i = true → ∀ m, j.pr.testBit m = true → X m = true

/-- An operation that may come now. -/
structure May (L : List Cer) (X : Nat → Bool) (c : Cer) : Prop where
  shut : Shut L X
  mem : c ∈ L
  out : X c.i = false
  pre : ∀ m, c.pr.testBit m = true → X m = true

omit hac hb hm R in
theorem May.late {X : Nat → Bool} {c : Cer} (m : May L X c) {k : Cer} (hk : k ∈ L) (hX : X k.i = true) : k.pr.testBit c.i = false := by
  cases h : k.pr.testBit c.i with
  | false => rfl
  | true => have := m.shut k hk hX _ h; rw [m.out] at this; cases this

omit hac hb hm R in
theorem May.early {X : Nat → Bool} {c : Cer} (m : May L X c) {j : Cer} (hX : X j.i = false) : c.pr.testBit j.i = false := by
  cases h : c.pr.testBit j.i with
  | false => rfl
  | true => have := m.pre _ h; rw [hX] at this; cases this

theorem seen_same {X : Nat → Bool} {c : Cer} (m : May L X c) {id : Nat} (hid : id < c.s.next) (hh : hidden c.msk id = false) : HV X sB.see L id = c.s.h.get id := by
  have o := R.one hac hb hm m.mem
  have h0 : c.s.see id = c.s.h.get id := by
    refine see_eq ?_
    rw [o.msk]
    cases h : hidden msk0 id with
    | false => rfl
    | true => rw [o.hid0 id h] at hh; cases hh
  rw [← h0, ← HV_at hac hb hm R id c m.mem]
  refine HV_congr fun k hk hch => ?_
  rcases Nat.lt_trichotomy k.i c.i with hlt | heq | hgt
  · rw [show Nat.blt k.i c.i = true from Nat.ble_eq_true_of_le hlt]
    cases hX : X k.i with
    | true => rfl
    | false => rw [early_hid hac hb hm R hk m.mem hlt (m.early hX) hch] at hh; cases hh
  · have hn : Nat.blt k.i c.i = false := by
      cases hn : Nat.blt k.i c.i with
      | false => rfl
      | true => have := Nat.le_of_ble_eq_true hn; omega
    rw [hn, heq]; exact m.out
  · have hn : Nat.blt k.i c.i = false := by
      cases hn : Nat.blt k.i c.i with
      | false => rfl
      | true => have := Nat.le_of_ble_eq_true hn; omega
    rw [hn]
    cases hX : X k.i with
    | false => rfl
    | true => rw [late_hid hac hb hm R m.mem hk hgt (m.late hk hX) hch hid] at hh; cases hh

theorem known_same {X : Nat → Bool} {c : Cer} (m : May L X c) {d : Nat} {v : Value} (h : c.th.get d = some v) : HT X t0 L d = some v := by
  have o := R.one hac hb hm m.mem
  obtain ⟨h1, h2⟩ := o.th d v h
  rw [← h2, ← HT_at hac hb hm R d c m.mem]
  refine HT_congr fun k hk hd => ?_
  rcases Nat.lt_trichotomy k.i c.i with hlt | heq | hgt
  · rw [show Nat.blt k.i c.i = true from Nat.ble_eq_true_of_le hlt]
    cases hX : X k.i with
    | true => rfl
    | false => rw [(R.two hac hb hm hk m.mem hlt).th (m.early hX) d hd] at h; cases h
  · have hn : Nat.blt k.i c.i = false := by
      cases hn : Nat.blt k.i c.i with
      | false => rfl
      | true => have := Nat.le_of_ble_eq_true hn; omega
    rw [hn, heq]; exact m.out
  · have hn : Nat.blt k.i c.i = false := by
      cases hn : Nat.blt k.i c.i with
      | false => rfl
      | true => have := Nat.le_of_ble_eq_true hn; omega
    rw [hn]
    cases hX : X k.i with
    | false => rfl
    | true =>
      have hf := (R.two hac hb hm m.mem hk hgt).free (m.late hk hX)
      unfold freeOf at hf
      rw [hd] at hf
      simp only [Bool.and_eq_true, Bool.not_eq_true'] at hf
      have : memN d (Cer.rcd ops.toList c).asks = true := mem_memN.2 h1
      rw [this] at hf
      cases hf.2.1

noncomputable def with1 (X : Nat → Bool) (i : Nat) : Nat → Bool := fun j => X j || Nat.beq j i

omit hac hb hm R in
theorem with1_ne {X : Nat → Bool} {i j : Nat} (h : j ≠ i) : with1 X i j = X j := by
  unfold with1
  have : Nat.beq j i = false := by
    cases hb : Nat.beq j i with
    | false => rfl
    | true => exact absurd (Nat.eq_of_beq_eq_true hb) h
  rw [this, Bool.or_false]

omit hac hb hm R in
theorem with1_self {X : Nat → Bool} {i : Nat} : with1 X i i = true := by
  unfold with1
  rw [Nat.beq_refl, Bool.or_true]

theorem next_chg {X : Nat → Bool} {c : Cer} (m : May L X c) {id : Nat} (h : c.chg id) : HV (with1 X c.i) sB.see L id = c.s1.h.get id :=
  HV_top R c m.mem with1_self h fun k hk hgt hX hch => both_chg hac hb hm R m.mem hk hgt (m.late hk (by rw [← with1_ne (X := X) (Nat.ne_of_gt hgt)]; exact hX)) hch h

theorem next_same {X : Nat → Bool} {c : Cer} (m : May L X c) {id : Nat} (h : ¬ c.chg id) : HV (with1 X c.i) sB.see L id = HV X sB.see L id :=
  HV_congr fun k hk hch => with1_ne fun e => h (by rw [← R.uniq k hk c m.mem e]; exact hch)

theorem next_t {X : Nat → Bool} {c : Cer} (m : May L X c) {d : Nat} (h : c.o.dst = some d) : HT (with1 X c.i) t0 L d = some c.v :=
  HT_top R c m.mem with1_self h fun k hk hgt hX hd => by
    have hf := (R.two hac hb hm m.mem hk hgt).free (m.late hk (by rw [← with1_ne (X := X) (Nat.ne_of_gt hgt)]; exact hX))
    unfold freeOf at hf
    rw [hd] at hf
    simp only [Bool.and_eq_true, Bool.not_eq_true'] at hf
    have h2 := hf.2.2
    rw [show (Cer.rcd ops.toList c).dst = some d from h] at h2
    simp only [Nat.beq_refl, Bool.not_eq_true'] at h2
    cases h2

theorem next_t_ne {X : Nat → Bool} {c : Cer} (m : May L X c) {d : Nat} (h : c.o.dst ≠ some d) : HT (with1 X c.i) t0 L d = HT X t0 L d :=
  HT_congr fun k hk hd => with1_ne fun e => h (by rw [← R.uniq k hk c m.mem e]; exact hd)

end
end Go.Proofs.YthdnpikgnmdnnaaGreatDoor.Ev

namespace Go.Proofs.YthdnpikgnmdnnaaGreatDoor.Ev
set_option linter.unusedSimpArgs false
set_option linter.unusedVariables false
set_option linter.unusedSectionVars false
variable [Tok]
open Go.RowKit
set_option linter.unusedSectionVars false

theorem HV_none {X : Nat → Bool} {V0 : View} {id : Nat} : ∀ {cs : List Cer}, (∀ c ∈ cs, ¬ c.chg id) → HV X V0 cs id = V0 id
  | [], _ => rfl
  | c :: cs, h => by
    simp only [HV]
    rw [if_neg (fun e => h c (List.mem_cons_self ..) e.2)]
    exact HV_none fun c' hc' => h c' (List.mem_cons_of_mem _ hc')

theorem HV_inv {X : Nat → Bool} {V0 : View} {id : Nat} {en : En} : ∀ {cs : List Cer}, HV X V0 cs id = some en → V0 id = some en ∨ ∃ k ∈ cs, X k.i = true ∧ k.chg id ∧ k.s1.h.get id = some en
  | [], h => .inl h
  | c :: cs, h => by
    simp only [HV] at h
    by_cases hc : X c.i = true ∧ c.chg id
    · rw [if_pos hc] at h
      exact .inr ⟨c, List.mem_cons_self .., hc.1, hc.2, h⟩
    · rw [if_neg hc] at h
      rcases HV_inv h with h | ⟨k, h1, h2⟩
      · exact .inl h
      · exact .inr ⟨k, List.mem_cons_of_mem _ h1, h2⟩

section
variable {T : Tb} {call : Nat → List Value → St → Option (Out × St)} {ops : Array Oper} {nt : Nat} {msk0 : List (Nat × Nat)} {t0 : Tr Value} {sB : St}
variable (hac : ACall T call) (hb : Abs T sB) (hm : sB.msk = msk0)
variable {L : List Cer} {tF : Tr Value} {sF : St} (R : Row T call ops nt msk0 t0 sB L tF sF)
include hac hb hm R

/-- Two operations' numbers of new blocks are apart. -/
theorem lap {j c : Cer} (hj : j ∈ L) (hc : c ∈ L) {id : Nat} (h1 : j.s.next ≤ id) (h2 : id < j.s1.next) (h3 : c.s.next ≤ id) (h4 : id < c.s1.next) : j = c := by
  rcases Nat.lt_trichotomy j.i c.i with hlt | heq | hgt
  · have := (R.two hac hb hm hj hc hlt).next; omega
  · exact R.uniq j hj c hc heq
  · have := (R.two hac hb hm hc hj hgt).next; omega

theorem order {j c : Cer} (hj : j ∈ L) (hc : c ∈ L) {id : Nat} (h1 : j.s.next ≤ id) (h2 : id < c.s.next) : j.i < c.i := by
  have oj := (R.one hac hb hm hj).stp.next
  have oc := (R.one hac hb hm hc).stp.next
  have oj : j.s.next ≤ j.s1.next := oj
  have oc : c.s.next ≤ c.s1.next := oc
  rcases Nat.lt_trichotomy j.i c.i with hlt | heq | hgt
  · exact hlt
  · rw [R.uniq j hj c hc heq] at h1; omega
  · have := (R.two hac hb hm hc hj hgt).next; omega

omit R in
theorem stp_some {a b : St} (h : AStp T a b) {id : Nat} {en : En} (hlt : id < a.next) (he : b.h.get id = some en) : ∃ e, a.h.get id = some e ∧ e.fam = en.fam := by
  cases ha : a.h.get id with
  | none => rw [h.gone id hlt ha] at he; cases he
  | some e => exact ⟨e, rfl, (h.fam id e en ha he).symm⟩

/-- Where an entry comes from, and that its family stays. -/
theorem origin {X : Nat → Bool} (hX : Shut L X) {id : Nat} {en : En} (h : HV X sB.see L id = some en) :
    (id < sB.next ∧ ∃ e, sB.see id = some e ∧ e.fam = en.fam) ∨ ∃ j ∈ L, X j.i = true ∧ j.s.next ≤ id ∧ id < j.s1.next ∧ ∃ e, j.s1.h.get id = some e ∧ e.fam = en.fam := by
  rcases HV_inv h with h | ⟨k, hk, hXk, hch, he⟩
  · exact .inl ⟨hb.lt id en (see_get h), en, h, rfl⟩
  · have o := R.one hac hb hm hk
    obtain ⟨c1, c2, c3⟩ := o.chg_wr hch
    by_cases hid : id < k.s.next
    · obtain ⟨ek, k1, k2⟩ := stp_some hac hb hm (a := k.s0) o.stp hid he
      by_cases hB : id < sB.next
      · obtain ⟨e0, g1, g2⟩ := stp_some hac hb hm o.fromB hB k1
        refine .inl ⟨hB, e0, ?_, g2.trans k2⟩
        rw [see_eq, g1]
        rw [hm]
        cases hh : hidden msk0 id with
        | false => rfl
        | true => rw [o.hid0 id hh] at c1; cases c1
      · obtain ⟨j, hj, j1, j2⟩ := R.cover id (by omega) (Nat.lt_of_lt_of_le c2 ((R.rowed hac hb hm).hi k hk))
        have hlt := order hac hb hm R hj hk j1 hid
        have two := R.two hac hb hm hj hk hlt
        have hp : k.pr.testBit j.i = true := by
          cases hp : k.pr.testBit j.i with
          | true => rfl
          | false => rw [two.hid hp id j1 j2] at c1; cases c1
        obtain ⟨ej, e1, e2⟩ := stp_some hac hb hm two.stp j2 k1
        exact .inr ⟨j, hj, hX k hk hXk _ hp, j1, j2, ej, e1, e2.trans k2⟩
    · exact .inr ⟨k, hk, hXk, by omega, c2, en, he, rfl⟩

/-- Two operations that may stand either way write to no block of one family. -/
theorem one_fam {c k : Cer} (hc : c ∈ L) (hk : k ∈ L) (hlt : c.i < k.i) (hp : k.pr.testBit c.i = false) {b id : Nat} {eb ek : En} (h1 : b ∈ c.wr) (h2 : c.s0.see b = some eb) (h3 : id ∈ k.wr) (h4 : k.s0.see id = some ek) : ek.fam ≠ eb.fam := by
  intro hf
  have oc := R.one hac hb hm hc
  have ok := R.one hac hb hm hk
  have two := R.two hac hb hm hc hk hlt
  have hmem : b ∈ members k.s ek.fam := by
    rw [hf]
    have g1 : b ∈ members c.s0 eb.fam := oc.abs0.own b eb (see_get h2)
    exact two.stp.mem _ _ (oc.stp.mem _ _ g1)
  obtain ⟨ek', g1, _, g2⟩ := ok.sight id h3
  rw [h4] at g1; cases g1
  have g3 := g2 b hmem
  have hfr := two.free hp
  simp only [freeOf, apart, Bool.and_eq_true] at hfr
  obtain ⟨l, hl, hn⟩ := clear_inv hfr.1.2 h1
  rw [hl] at g3
  have hb1 : b < c.s.next := (mem_oldOf.1 h1).2
  have hcn : c.s.next ≤ c.s1.next := oc.stp.next
  have := two.next
  have g4 : hidden (allBut k.s.next 0 l) b = true := hidden_allBut (Nat.zero_le _) (by omega) hn
  have g5 : hidden (allBut k.s.next 0 l) b = false := g3
  rw [g4] at g5
  cases g5

/-- What lies in the family of a block written is in sight of what writes it. -/
theorem fam_seen {X : Nat → Bool} {c : Cer} (m : May L X c) {b id : Nat} {eb en : En} (h1 : b ∈ c.wr) (h2 : c.s0.see b = some eb) (h3 : HV X sB.see L id = some en) (h4 : ¬ c.chg id) (hf : en.fam = eb.fam) :
    id < c.s.next ∧ hidden c.msk id = false := by
  have oc := R.one hac hb hm m.mem
  have hBn : sB.next ≤ c.s.next := oc.fromB.next
  have org := origin hac hb hm R m.shut h3
  obtain ⟨eb', g1, g2, g3⟩ := oc.sight b h1
  rw [h2] at g1; cases g1
  have hcb : eb.fam < c.s.next := oc.abs0.famlt b eb (see_get h2)
  by_cases hid : id < c.s.next
  · refine ⟨hid, ?_⟩
    cases hh : hidden c.msk id with
    | false => rfl
    | true =>
      exfalso
      rcases oc.hidInv id hh with k | ⟨j0, hj0, k1, k2, k3, k4⟩ | k
      · rw [HV_none (fun c' hc' e => by
          have := ((R.one hac hb hm hc').chg_wr e).1
          rw [(R.one hac hb hm hc').hid0 id k] at this; cases this)] at h3
        rw [see_hid (by rw [hm]; exact k)] at h3; cases h3
      · have hB0 : sB.next ≤ j0.s.next := (R.one hac hb hm hj0).fromB.next
        rcases org with ⟨q, _⟩ | ⟨j, hj, _, q1, q2, ej, q3, q4⟩
        · omega
        · have := lap hac hb hm R hj hj0 q1 q2 k3 k4
          subst this
          have oj := R.one hac hb hm hj
          rcases oj.stp.newfam id ej q1 q3 with p | ⟨b2, eb2, p1, p2, p3, p4⟩
          · have : ej.fam < j.s1.next := oj.stp.abs.famlt id ej q3
            exact g2 j hj k1 k2 ⟨by rw [← hf, ← q4]; exact p, by rw [← hf, ← q4]; exact this⟩
          · have hw : b2 ∈ j.wr := mem_oldOf.2 ⟨p1, p2⟩
            rcases oj.new with n | n | n
            · rw [n] at hw; cases hw
            · have hfr := (R.two hac hb hm hj m.mem k1).free k2
              simp only [freeOf, apart, Bool.and_eq_true] at hfr
              obtain ⟨l, hl, _⟩ := clear_inv hfr.1.1 h1
              rw [show (Cer.rcd ops.toList j).rd = j.rd from rfl, n] at hl; cases hl
            · omega
      · -- hidden by what the operation looks at
        have hk : ∀ k ∈ L, k.chg id → X k.i = Nat.blt k.i c.i := by
          intro k hk hch
          have ok := R.one hac hb hm hk
          obtain ⟨w1, w2, w3⟩ := ok.chg_wr hch
          have hno : ∀ {a b : Nat}, b ≤ a → Nat.blt a b = false := fun {a b} hab => by
            cases h : Nat.blt a b with
            | false => rfl
            | true => have := Nat.le_of_ble_eq_true h; omega
          -- the family of what an operation has written there
          have famk : ∀ ek, k.s0.h.get id = some ek → id < k.s.next → ek.fam = en.fam := by
            intro ek hek hidk
            have hek : k.s.h.get id = some ek := hek
            rcases org with ⟨q, e, q1, q2⟩ | ⟨j, hj, _, q1, q2, ej, q3, q4⟩
            · rw [← q2]; exact ok.fromB.fam id e ek (see_get q1) hek
            · have hlt := order hac hb hm R hj hk q1 hidk
              rw [← q4]
              exact (R.two hac hb hm hj hk hlt).stp.fam id ej ek q3 hek
          rcases Nat.lt_trichotomy k.i c.i with hlt | heq | hgt
          · rw [show Nat.blt k.i c.i = true from Nat.ble_eq_true_of_le hlt]
            cases hX : X k.i with
            | true => rfl
            | false =>
              exfalso
              by_cases hidk : id < k.s.next
              · obtain ⟨ek, s1, _, _⟩ := ok.sight id (w3 hidk)
                exact one_fam hac hb hm R hk m.mem hlt (m.early hX) (w3 hidk) s1 h1 h2 (by rw [famk ek (see_get s1) hidk, hf])
              · rcases org with ⟨q, _⟩ | ⟨j, hj, hXj, q1, q2, _⟩
                · have : sB.next ≤ k.s.next := ok.fromB.next
                  omega
                · have := lap hac hb hm R hj hk q1 q2 (by omega) w2
                  rw [this, hX] at hXj; cases hXj
          · exact absurd (by rw [← R.uniq k hk c m.mem heq]; exact hch) h4
          · rw [hno (Nat.le_of_lt hgt)]
            cases hX : X k.i with
            | false => rfl
            | true =>
              exfalso
              have two := R.two hac hb hm m.mem hk hgt
              have hcn : c.s.next ≤ c.s1.next := oc.stp.next
              have hidk : id < k.s.next := by have := two.next; omega
              obtain ⟨ek, s1, _, _⟩ := ok.sight id (w3 hidk)
              exact one_fam hac hb hm R m.mem hk hgt (m.late hk hX) h1 h2 (w3 hidk) s1 (by rw [famk ek (see_get s1) hidk, hf])
        have h5 : c.s.see id = some en := by
          rw [← HV_at hac hb hm R id c m.mem, ← h3]
          exact (HV_congr hk).symm
        have h6 : id ∈ members c.s eb.fam := by rw [← hf]; exact oc.abs.own id en (see_get h5)
        rw [g3 id h6] at k; cases k
  · exfalso
    rcases org with ⟨q, _⟩ | ⟨j, hj, hXj, q1, q2, ej, q3, q4⟩
    · omega
    · have hne : j ≠ c := fun e => by rw [e, m.out] at hXj; cases hXj
      have oj := R.one hac hb hm hj
      have hgt : c.i < j.i := by
        rcases Nat.lt_trichotomy j.i c.i with hlt | heq | hgt
        · have := (R.two hac hb hm hj m.mem hlt).next; omega
        · exact absurd (R.uniq j hj c m.mem heq) hne
        · exact hgt
      have two := R.two hac hb hm m.mem hj hgt
      have hcn : c.s.next ≤ c.s1.next := oc.stp.next
      have htn := two.next
      rcases oj.stp.newfam id ej q1 q3 with p | ⟨b2, eb2, p1, p2, p3, p4⟩
      · have p : j.s.next ≤ ej.fam := p
        rw [q4, hf] at p; omega
      · have hw : b2 ∈ j.wr := mem_oldOf.2 ⟨p1, p2⟩
        rcases oj.new with n | n | n
        · rw [n] at hw; cases hw
        · have hfr := two.free (m.late hj hXj)
          simp only [freeOf, apart, Bool.and_eq_true] at hfr
          obtain ⟨l, hl, _⟩ := clear_inv hfr.1.2 h1
          rw [n] at hl; cases hl
        · omega

end
end Go.Proofs.YthdnpikgnmdnnaaGreatDoor.Ev

namespace Go.Proofs.YthdnpikgnmdnnaaGreatDoor.Ev
set_option linter.unusedSimpArgs false
set_option linter.unusedVariables false
set_option linter.unusedSectionVars false
variable [Tok]
open Go.RowKit
set_option linter.unusedSectionVars false

/-- What holds in the midst of a drawn region. -/
structure Mid (T : Tb) (base : Nat) (E : World → Prop) (nt : Nat) (t0 : Tr Value) (ds : List (Nat × List Value)) (sB sF : St) (L : List Cer) (ι0 : Ren) (w0 : World) (X : Nat → Bool) (ι : Ren) (w : World) (a : Act) : Prop where
  inv : Inv T.n0 base ι (HV X sB.see L) w
  tr : ∀ d x, HT X t0 L d = some x → ∃ y, a.tmps[d]? = some y ∧ Rv ι x y
  size : a.tmps.size = nt
  ds : All2 (DfR ι) ds a.defers
  hE : E w
  le : ι0.le ι
  dom : ∀ id, ι id ≠ ι0 id → ∃ c ∈ L, X c.i = true ∧ c.s.next ≤ id ∧ id < c.s1.next
  frame : ∀ c, c < w0.heap.size → (∀ b z, b ∈ sF.wl → ι b ≠ some (c, z)) → w.heap[c]? = w0.heap[c]?
  newid : ∀ id c z, sB.next ≤ id → ι0 id = none → ι id = some (c, z) → w0.heap.size ≤ c ∨ ∃ b z', b ∈ sF.wl ∧ b < sB.next ∧ ι0 b = some (c, z') ∧ ∀ en, HV X sB.see L id = some en → ∃ eb, sB.h.get b = some eb ∧ eb.fam = en.fam
  os : w.os = w0.os
  tape : w.tape = w0.tape
  output : w.output = w0.output
  grown : w0.heap.size ≤ w.heap.size

section
variable {P : Program} {T : Tb} {base : Nat} {E : World → Prop} (Xc : Ctx P T base E)
variable {call : Nat → List Value → St → Option (Out × St)} {ops : Array Oper} {nt : Nat} {msk0 : List (Nat × Nat)} {t0 : Tr Value} {sB : St} {ds : List (Nat × List Value)}
variable (hac : ACall T call) (hb : Abs T sB) (hm : sB.msk = msk0)
variable {L : List Cer} {tF : Tr Value} {sF : St} (R : Row T call ops nt msk0 t0 sB L tF sF)
variable {ι0 : Ren} {w0 : World} (hf0 : Fresh ι0 sB sF)
include Xc hac hb hm R hf0

theorem Mid.fresh {X : Nat → Bool} {ι : Ren} {w : World} {a : Act} (M : Mid T base E nt t0 ds sB sF L ι0 w0 X ι w a) {c : Cer} (m : May L X c) : ∀ id, c.s.next ≤ id → id < c.s1.next → ι id = none := by
  intro id h1 h2
  by_cases e : ι id = ι0 id
  · rw [e]
    have : sB.next ≤ c.s.next := (R.one hac hb hm m.mem).fromB.next
    have := (R.rowed hac hb hm).hi c m.mem
    exact hf0 id (by omega) (by omega)
  · obtain ⟨j, hj, hX, j1, j2⟩ := M.dom id e
    have := lap hac hb hm R hj m.mem j1 j2 h1 h2
    rw [this, m.out] at hX; cases hX

theorem Mid.sees {X : Nat → Bool} {ι : Ren} {w : World} {a : Act} (_M : Mid T base E nt t0 ds sB sF L ι0 w0 X ι w a) {c : Cer} (m : May L X c) : ∀ id en, c.s0.see id = some en → HV X sB.see L id = some en := by
  intro id en h
  have o := R.one hac hb hm m.mem
  have h1 := see_get h
  have h2 := see_vis h
  rw [seen_same hac hb hm R m (o.abs0.lt id en h1) h2]
  exact h1

theorem Mid.inv0 {X : Nat → Bool} {ι : Ren} {w : World} {a : Act} (M : Mid T base E nt t0 ds sB sF L ι0 w0 X ι w a) {c : Cer} (m : May L X c) : Inv T.n0 base ι c.s0.see w :=
  M.inv.less (M.sees Xc hac hb hm R hf0 m)

/-- Where an old place is written. -/
theorem Mid.hit {X : Nat → Bool} {ι ι' : Ren} {w w' : World} {a : Act} (M : Mid T base E nt t0 ds sB sF L ι0 w0 X ι w a) {c : Cer} (m : May L X c) (s : Stp T base c.s0 c.s1 ι ι' w w') {k b z : Nat} (hk : k < w.heap.size) (h1 : b ∈ c.s1.wl) (h2 : ι' b = some (k, z)) :
    ∃ b' z' eb, b' ∈ c.wr ∧ ι b' = some (k, z') ∧ c.s0.see b' = some eb ∧ HV X sB.see L b' = some eb := by
  have o := R.one hac hb hm m.mem
  have old : ∀ b z, b ∈ c.s1.wl → b < c.s.next → ι b = some (k, z) → ∃ b' z' eb, b' ∈ c.wr ∧ ι b' = some (k, z') ∧ c.s0.see b' = some eb ∧ HV X sB.see L b' = some eb := by
    intro b z g1 g2 g3
    have hw : b ∈ c.wr := mem_oldOf.2 ⟨g1, g2⟩
    obtain ⟨eb, s1, _⟩ := o.sight b hw
    exact ⟨b, z, eb, hw, g3, s1, M.sees Xc hac hb hm R hf0 m b eb s1⟩
  by_cases hlt : b < c.s.next
  · have e : ι' b = ι b := by
      by_cases e : ι' b = ι b
      · exact e
      · have h : c.s.next ≤ b := (s.dom b e).1
        omega
    exact old b z h1 hlt (by rw [← e]; exact h2)
  · have hn : ι b = none := M.fresh Xc hac hb hm R hf0 m b (by omega) (s.abs.wl b h1).2
    rcases s.newid b k z (by show c.s.next ≤ b; omega) hn h2 with h | ⟨b', z', p1, p2, p3, _⟩
    · omega
    · exact old b' z' p1 p2 p3

theorem mid_step {X : Nat → Bool} {ι ι' : Ren} {w w' : World} {a : Act} (M : Mid T base E nt t0 ds sB sF L ι0 w0 X ι w a) {c : Cer} (m : May L X c) (s : Stp T base c.s0 c.s1 ι ι' w w') {v' : Value} (hv : Rv ι' c.v v') :
    Mid T base E nt t0 ds sB sF L ι0 w0 (with1 X c.i) ι' w' (a.put c.o.dst v') := by
  have o := R.one hac hb hm m.mem
  have sees := M.sees Xc hac hb hm R hf0 m
  have fresh := M.fresh Xc hac hb hm R hf0 m
  have hsB : sB.next ≤ c.s.next := o.fromB.next
  have hsF := (R.rowed hac hb hm).hi c m.mem
  have hmsk : c.s1.msk = c.msk := s.msk
  -- what has been changed is in sight
  have seen1 : ∀ id en, HV (with1 X c.i) sB.see L id = some en → c.chg id → c.s1.see id = some en := by
    intro id en h hch
    rw [next_chg hac hb hm R m hch] at h
    rw [see_eq (by rw [hmsk]; exact (o.chg_wr hch).1)]; exact h
  have same : ∀ id en, HV (with1 X c.i) sB.see L id = some en → ¬ c.chg id → HV X sB.see L id = some en := by
    intro id en h hch
    rw [next_same hac hb hm R m hch] at h; exact h
  -- what lies where something is written is in sight
  have near : ∀ id en k z, HV X sB.see L id = some en → ¬ c.chg id → ι id = some (k, z) → k < w.heap.size → (∃ b z', b ∈ c.s1.wl ∧ ι' b = some (k, z')) → c.s1.see id = some en := by
    intro id en k z h hch hι hk ⟨b, z', g1, g2⟩
    obtain ⟨b', z2, eb, p1, p2, p3, p4⟩ := M.hit Xc hac hb hm R hf0 m s hk g1 g2
    have hfam : en.fam = eb.fam := M.inv.fam id b' en eb k z z2 h p4 hι p2
    obtain ⟨q1, q2⟩ := fam_seen hac hb hm R m p1 p3 h hch hfam
    have h5 : c.s.h.get id = some en := by rw [← seen_same hac hb hm R m q1 q2]; exact h
    have h6 : c.s1.h.get id = c.s.h.get id := Classical.byContradiction hch
    rw [see_eq (by rw [hmsk]; exact q2), h6, h5]
  have hgone : ∀ id e1, id < c.s.next → c.s1.h.get id = some e1 → ∃ e, c.s.h.get id = some e ∧ e.fam = e1.fam := by
    intro id e1 h1 h2
    cases he : c.s.h.get id with
    | none => have := s.gone id h1 he; rw [h2] at this; cases this
    | some e => exact ⟨e, rfl, (s.fam id e e1 he h2).symm⟩
  -- an entry in sight beside one out of it, at one place
  have mixed : ∀ i j ei ej k z z', c.s1.see i = some ei → HV X sB.see L j = some ej → ι j = some (k, z') → k < w.heap.size → ι' i = some (k, z) → ei.fam = ej.fam := by
    intro i j ei ej k z z' h1 h2 h3 hk h4
    have hv1 : hidden c.msk i = false := by rw [← hmsk]; exact see_vis h1
    by_cases hi : i < c.s.next
    · obtain ⟨e0, g1, g2⟩ := hgone i ei hi (see_get h1)
      have g3 : HV X sB.see L i = some e0 := by rw [seen_same hac hb hm R m hi hv1]; exact g1
      obtain ⟨k2, z2, g4, _⟩ := M.inv.ob i e0 g3
      have := s.le _ _ g4
      rw [h4] at this; cases this
      rw [← g2]
      exact M.inv.fam i j e0 ej k z z' g3 h2 g4 h3
    · have hlt : i < c.s1.next := s.abs.lt i ei (see_get h1)
      rcases s.newid i k z (by show c.s.next ≤ i; omega) (fresh i (by omega) hlt) h4 with h | ⟨b', z2, p1, p2, p3, p4⟩
      · omega
      · obtain ⟨eb, e1, e2⟩ := p4 ei (see_get h1)
        have hw : b' ∈ c.wr := mem_oldOf.2 ⟨p1, p2⟩
        obtain ⟨eb', s1, _⟩ := o.sight b' hw
        have : eb' = eb := by have := see_get s1; rw [e1] at this; cases this; rfl
        subst this
        rw [← e2]
        exact M.inv.fam b' j eb' ej k z2 z' (sees b' eb' s1) h2 p3 h3
  refine
    { inv := ⟨fun id en h => ?_, fun i j ei ej k z z' h1 h2 h3 h4 => ?_, s.inv.sep, s.inv.glob, s.inv.size⟩
      tr := fun d x hx => ?_
      size := ?_
      ds := ?_
      hE := Xc.keepS s M.inv.size M.hE
      le := Ren.le_trans M.le s.le
      dom := fun id h => ?_
      frame := fun k hk hw => ?_
      newid := fun id k z h1 h2 h3 => ?_
      os := s.os.trans M.os
      tape := s.tape.trans M.tape
      output := s.output.trans M.output
      grown := Nat.le_trans M.grown s.size }
  · -- what a block holds
    by_cases hch : c.chg id
    · exact s.inv.ob id en (seen1 id en h hch)
    · have h' := same id en h hch
      obtain ⟨k, sz, g1, g2⟩ := M.inv.ob id en h'
      by_cases hx : ∃ b z', b ∈ c.s1.wl ∧ ι' b = some (k, z')
      · exact s.inv.ob id en (near id en k sz h' hch g1 g2.lt hx)
      · refine ⟨k, sz, s.le _ _ g1, (g2.world (s.frame k g2.lt fun b z hb e => hx ⟨b, z, hb, e⟩)).mono s.le⟩
  · -- families
    by_cases c1 : c.chg i <;> by_cases c2 : c.chg j
    · exact s.inv.fam i j ei ej k z z' (seen1 i ei h1 c1) (seen1 j ej h2 c2) h3 h4
    · have g := same j ej h2 c2
      obtain ⟨k2, z2, q1, q2⟩ := M.inv.ob j ej g
      have := s.le _ _ q1
      rw [h4] at this; cases this
      exact mixed i j ei ej k z z' (seen1 i ei h1 c1) g q1 q2.lt h3
    · have g := same i ei h1 c1
      obtain ⟨k2, z2, q1, q2⟩ := M.inv.ob i ei g
      have := s.le _ _ q1
      rw [h3] at this; cases this
      exact (mixed j i ej ei k z' z (seen1 j ej h2 c2) g q1 q2.lt h4).symm
    · have g1 := same i ei h1 c1
      have g2 := same j ej h2 c2
      obtain ⟨k2, z2, q1, _⟩ := M.inv.ob i ei g1
      obtain ⟨k3, z3, q3, _⟩ := M.inv.ob j ej g2
      have e1 := s.le _ _ q1
      rw [h3] at e1; cases e1
      have e2 := s.le _ _ q3
      rw [h4] at e2; cases e2
      exact M.inv.fam i j ei ej k z z' g1 g2 q1 q3
  · -- temporaries
    by_cases hd : c.o.dst = some d
    · rw [next_t hac hb hm R m hd] at hx; cases hx
      refine ⟨v', ?_, hv⟩
      have hlt : d < a.tmps.size := by rw [M.size]; exact o.dlt d hd
      rw [hd]
      simp [Act.put, hlt]
    · rw [next_t_ne hac hb hm R m hd] at hx
      obtain ⟨y, g1, g2⟩ := M.tr d x hx
      refine ⟨y, ?_, g2.mono s.le⟩
      cases hdd : c.o.dst with
      | none => exact g1
      | some e =>
        have hne : e ≠ d := fun he => hd (by rw [hdd, he])
        simp only [Act.put]
        rw [Array.getElem?_setIfInBounds_ne hne]
        exact g1
  · cases c.o.dst <;> simp [Act.put, M.size]
  · have h1 : All2 (DfR ι') ds a.defers := M.ds.mono fun x d k => k.mono s.le
    have e : (a.put c.o.dst v').defers = a.defers := by cases c.o.dst <;> rfl
    rw [e]; exact h1
  · by_cases e : ι id = ι0 id
    · have := s.dom id (by rw [e]; exact h)
      exact ⟨c, m.mem, with1_self, this.1, this.2⟩
    · obtain ⟨j, hj, hX, j1, j2⟩ := M.dom id e
      refine ⟨j, hj, ?_, j1, j2⟩
      unfold with1; rw [hX, Bool.true_or]
  · have hle : ∀ b z, b ∈ sF.wl → ι b ≠ some (k, z) := fun b z hb e => hw b z hb (s.le _ _ e)
    have hk' : k < w.heap.size := Nat.lt_of_lt_of_le hk M.grown
    refine (s.frame k hk' fun b z hbw e => ?_).trans (M.frame k hk hle)
    obtain ⟨b', z', eb, p1, p2, _⟩ := M.hit Xc hac hb hm R hf0 m s hk' hbw e
    exact hle b' z' (R.wls c m.mem b' p1) p2
  · cases hι : ι id with
    | some x =>
      have := s.le _ _ hι
      rw [h3] at this; cases this
      rcases M.newid id k z h1 h2 hι with h | ⟨b, z', p1, p2, p3, p4⟩
      · exact .inl h
      · refine .inr ⟨b, z', p1, p2, p3, fun en hen => ?_⟩
        by_cases hch : c.chg id
        · have hs1 := seen1 id en hen hch
          have hlt : id < c.s.next := by
            rcases Nat.lt_or_ge id c.s.next with hlt | hge
            · exact hlt
            · have := fresh id hge (s.abs.lt id en (see_get hs1)); rw [hι] at this; cases this
          obtain ⟨e0, g1, g2⟩ := hgone id en hlt (see_get hs1)
          have g3 : HV X sB.see L id = some e0 := by rw [seen_same hac hb hm R m hlt (o.chg_wr hch).1]; exact g1
          rw [← g2]; exact p4 e0 g3
        · exact p4 en (same id en hen hch)
    | none =>
      have hd := s.dom id (by rw [hι, h3]; simp)
      have hd1 : c.s.next ≤ id := hd.1
      rcases s.newid id k z hd.1 hι h3 with h | ⟨b', z', p1, p2, p3, p4⟩
      · exact .inl (Nat.le_trans M.grown h)
      · have hw : b' ∈ c.wr := mem_oldOf.2 ⟨p1, p2⟩
        obtain ⟨eb', s1, _⟩ := o.sight b' hw
        have hch : ∀ en, HV (with1 X c.i) sB.see L id = some en → c.s1.h.get id = some en := by
          intro en hen
          by_cases hch : c.chg id
          · exact see_get (seen1 id en hen hch)
          · obtain ⟨k2, z2, q1, _⟩ := M.inv.ob id en (same id en hen hch)
            rw [hι] at q1; cases q1
        by_cases hB : b' < sB.next
        · have e : ι b' = ι0 b' := by
            by_cases e : ι b' = ι0 b'
            · exact e
            · obtain ⟨j, hj, _, j1, _⟩ := M.dom b' e
              have : sB.next ≤ j.s.next := (R.one hac hb hm hj).fromB.next
              omega
          refine .inr ⟨b', z', R.wls c m.mem b' hw, hB, by rw [← e]; exact p3, fun en hen => ?_⟩
          obtain ⟨eb, e1, e2⟩ := p4 en (hch en hen)
          obtain ⟨e0, f1, f2⟩ := stp_some hac hb hm o.fromB hB e1
          exact ⟨e0, f1, f2.trans e2⟩
        · have hb0 : ι0 b' = none := hf0 b' (by omega) (by have : b' < c.s.next := p2; have : c.s.next ≤ c.s1.next := s.next; omega)
          rcases M.newid b' k z' (by omega) hb0 p3 with h | ⟨b2, z2, r1, r2, r3, r4⟩
          · exact .inl h
          · refine .inr ⟨b2, z2, r1, r2, r3, fun en hen => ?_⟩
            obtain ⟨eb, e1, e2⟩ := p4 en (hch en hen)
            have : eb' = eb := by have := see_get s1; rw [e1] at this; cases this; rfl
            subst this
            obtain ⟨e0, f1, f2⟩ := r4 eb' (sees b' eb' s1)
            exact ⟨e0, f1, f2.trans e2⟩

end
end Go.Proofs.YthdnpikgnmdnnaaGreatDoor.Ev

namespace Go.Proofs.YthdnpikgnmdnnaaGreatDoor.Ev
set_option linter.unusedSimpArgs false
set_option linter.unusedVariables false
set_option linter.unusedSectionVars false
variable [Tok]
open Go.RowKit
set_option linter.unusedSectionVars false

noncomputable def cnt (X : Nat → Bool) : Nat → Nat
  | 0 => 0
  | n + 1 => cnt X n + cond (X n) 0 1

theorem cnt_all {X : Nat → Bool} : ∀ {n : Nat}, cnt X n = 0 → ∀ i < n, X i = true
  | 0, _, i, hi => by omega
  | n + 1, h, i, hi => by
    simp only [cnt] at h
    cases hX : X n with
    | false => rw [hX] at h; simp at h
    | true =>
      by_cases e : i = n
      · rw [e]; exact hX
      · rw [hX] at h; exact cnt_all (X := X) (by simpa using h) i (by omega)

theorem cnt_with {X : Nat → Bool} {i : Nat} (hX : X i = false) : ∀ {n : Nat}, (n ≤ i → cnt (with1 X i) n = cnt X n) ∧ (i < n → cnt (with1 X i) n + 1 = cnt X n)
  | 0 => ⟨fun _ => rfl, fun h => by omega⟩
  | n + 1 => by
    have ih := cnt_with hX (n := n)
    refine ⟨fun h => ?_, fun h => ?_⟩
    · simp only [cnt]
      rw [ih.1 (by omega), with1_ne (by omega)]
    · simp only [cnt]
      by_cases e : i = n
      · rw [ih.1 (by omega)]
        subst e
        rw [with1_self, hX]; rfl
      · rw [with1_ne (Ne.symm e)]
        have := ih.2 (by omega)
        omega

noncomputable def Xl (listed : Array Bool) : Nat → Bool := fun i => listed.getD i false

theorem Xl_set {listed : Array Bool} {i : Nat} (hi : i < listed.size) : Xl (listed.setIfInBounds i true) = with1 (Xl listed) i := by
  funext j
  by_cases e : j = i
  · subst e
    rw [with1_self]
    simp [Xl, hi]
  · rw [with1_ne e]
    simp [Xl, Array.getElem?_setIfInBounds_ne (Ne.symm e)]

theorem Xl_true {listed : Array Bool} {i : Nat} (hi : i < listed.size) : listed.getD i true = Xl listed i := by
  simp [Xl, hi]

theorem HV_false {X : Nat → Bool} (hX : ∀ i, X i = false) {V0 : View} {id : Nat} : ∀ {cs : List Cer}, HV X V0 cs id = V0 id
  | [] => rfl
  | c :: cs => by
    simp only [HV]
    rw [if_neg (fun e => by rw [hX] at e; cases e.1)]
    exact HV_false hX

theorem HT_false {X : Nat → Bool} (hX : ∀ i, X i = false) {t0 : Tr Value} {d : Nat} : ∀ {cs : List Cer}, HT X t0 cs d = t0.get d
  | [] => rfl
  | c :: cs => by
    simp only [HT]
    rw [if_neg (fun e => by rw [hX] at e; cases e.1)]
    exact HT_false hX

section
variable {P : Program} {T : Tb} {base : Nat} {E : World → Prop} (Xc : Ctx P T base E)
variable {call : Nat → List Value → St → Option (Out × St)} {ops : Array Oper} {nt : Nat} {msk0 : List (Nat × Nat)} {t0 : Tr Value} {sB : St} {ds : List (Nat × List Value)}
variable (hcall : CallOk P T base E call) (hac : ACall T call) (hb : Abs T sB) (hm : sB.msk = msk0)
variable {L : List Cer} {tF : Tr Value} {sF : St} (R : Row T call ops nt msk0 t0 sB L tF sF) (hL : L.length = ops.size)
variable {ι0 : Ren} {w0 : World} (hf0 : Fresh ι0 sB sF) {Q : Exit → Act → World → Prop} {ro : Option Nat}
include Xc hac hb hm R hf0

/-- All has been carried out. -/
theorem Mid.done (hi0 : Inv T.n0 base ι0 sB.see w0) {X : Nat → Bool} {ι : Ren} {w : World} {a : Act} (M : Mid T base E nt t0 ds sB sF L ι0 w0 X ι w a) (hX : ∀ c ∈ L, X c.i = true) :
    Stp T base sB sF ι0 ι w0 w ∧ FrR ι nt ⟨tF, ds⟩ a := by
  have r := R.rowed hac hb hm
  have hv : ∀ id, HV X sB.see L id = sF.see id := fun id => by
    rw [← HV_all hac hb hm R id]
    exact HV_congr fun c hc _ => hX c hc
  have ht : ∀ d, HT X t0 L d = tF.get d := fun d => by
    rw [← HT_all hac hb hm R d]
    exact HT_congr fun c hc _ => hX c hc
  refine ⟨
    { abs := r.abs
      inv := M.inv.less fun id en h => by rw [hv]; exact h
      le := M.le
      dom := fun id h => ?_
      next := r.stp.next
      msk := r.stp.msk
      mem := r.stp.mem
      wl := r.stp.wl
      old := r.stp.old
      hid := r.stp.hid
      fam := r.stp.fam
      gone := r.stp.gone
      newfam := r.stp.newfam
      newid := fun id k z h1 h2 h3 => ?_
      frame := M.frame
      os := M.os
      tape := M.tape
      output := M.output
      size := M.grown }, ⟨fun d x hx => M.tr d x (by rw [ht]; exact hx), M.size, M.ds⟩⟩
  · obtain ⟨j, hj, _, j1, j2⟩ := M.dom id h
    have : sB.next ≤ j.s.next := (R.one hac hb hm hj).fromB.next
    have := r.hi j hj
    exact ⟨by omega, by omega⟩
  · rcases M.newid id k z h1 h2 h3 with h | ⟨b, z', p1, p2, p3, p4⟩
    · exact .inl h
    · refine .inr ⟨b, z', p1, p2, p3, fun en hen => p4 en ?_⟩
      rw [hv, see_eq, hen]
      rw [r.msk, ← hm]
      exact hb.msk id h1

include hcall hL in
theorem any_ok (hcm : ∀ o ∈ ops.toList, Calm ro o) (hi0 : Inv T.n0 base ι0 sB.see w0) (hQ : ∀ ι a w, Stp T base sB sF ι0 ι w0 w → FrR ι nt ⟨tF, ds⟩ a → Q .normal a w) :
    ∀ (fuel : Nat) (listed : Array Bool) (a : Act) (w : World) (ι : Ren), listed.size = ops.size → cnt (Xl listed) ops.size ≤ fuel → Shut L (Xl listed) → Mid T base E nt t0 ds sB sF L ι0 w0 (Xl listed) ι w a → wpAnyIn (FW ro) 0 P .any ops Q fuel listed a w := by
  have hasC : ∀ i < ops.size, ∃ c ∈ L, c.i = i := fun i hi => R.has i (by rw [hL]; exact hi)
  have full : ∀ {listed : Array Bool} {a : Act} {w : World} {ι : Ren}, (∀ i < ops.size, Xl listed i = true) → Mid T base E nt t0 ds sB sF L ι0 w0 (Xl listed) ι w a → Q .normal a w := by
    intro listed a w ι h M
    obtain ⟨h1, h2⟩ := M.done Xc hac hb hm R hf0 hi0 fun c hc => h c.i (by rw [← hL]; exact R.idx c hc)
    exact hQ ι a w h1 h2
  have empty : ∀ {listed : Array Bool}, listed.size = ops.size → Region.ready .any ops listed = [] → ∀ i < ops.size, Xl listed i = true := by
    intro listed hs hr i
    induction i using Nat.strongRecOn with
    | _ i ih =>
      intro hi
      cases hX : Xl listed i with
      | true => rfl
      | false =>
        exfalso
        obtain ⟨c, hc, rfl⟩ := hasC i hi
        have o := R.one hac hb hm hc
        have : c.i ∈ Region.ready .any ops listed := by
          rw [mem_ready]
          refine ⟨by rw [Xl_true (by rw [hs]; exact hi)]; exact hX, c.o, o.op, fun e he hb' => ?_⟩
          have := o.back e (Array.mem_toList_iff.2 he) hb'
          exact ih e.on this (by omega)
        rw [hr] at this; cases this
  intro fuel
  induction fuel with
  | zero =>
    intro listed a w ι hs hc hsh M
    have hall := cnt_all (Nat.le_zero.1 hc)
    refine ⟨?_, full hall M⟩
    cases hr : Region.ready .any ops listed with
    | nil => rfl
    | cons i r =>
      have : i ∈ Region.ready .any ops listed := by rw [hr]; exact List.mem_cons_self ..
      rw [mem_ready] at this
      obtain ⟨h1, o, h2, _⟩ := this
      have hi := (Array.getElem?_eq_some_iff.1 h2).1
      rw [Xl_true (by rw [hs]; exact hi), hall i hi] at h1
      cases h1
  | succ fuel ih =>
    intro listed a w ι hs hcn hsh M
    refine ⟨fun hr => full (empty hs hr) M, fun i hi => ?_⟩
    rw [mem_ready] at hi
    obtain ⟨h1, o, h2, h3⟩ := hi
    have hlt := (Array.getElem?_eq_some_iff.1 h2).1
    have hls : i < listed.size := by rw [hs]; exact hlt
    rw [Xl_true hls] at h1
    obtain ⟨c, hc, rfl⟩ := hasC i hlt
    have one := R.one hac hb hm hc
    have : o = c.o := by have := one.op; rw [h2] at this; cases this; rfl
    subst this
    have pre : ∀ m, c.pr.testBit m = true → Xl listed m = true := by
      intro m hm'
      obtain ⟨e, e1, e2, e3⟩ := one.pr m hm'
      have he := h3 e (Array.mem_toList_iff.1 e1) e2
      rcases e3 with rfl | ⟨j, hj, hji, hjm⟩
      · exact he
      · exact hsh j hj (by rw [hji]; exact he) m hjm
    have m : May L (Xl listed) c := ⟨hsh, hc, h1, pre⟩
    unfold wpOpIn
    rw [h2]
    simp only
    have fin : ∀ {p : Prop} [Decidable p] {x x' y : Prop} {z : FuncId → Prop}, (x → x') → (if p then x else y) → (if p then x' else (∀ f, z f → True) ∧ y) := by
      intro p _ x x' y z hxx h
      by_cases hp : p
      · rw [if_pos hp] at h ⊢; exact hxx h
      · rw [if_neg hp] at h ⊢; exact ⟨fun _ _ => trivial, h⟩
    refine fin (Good.wpIn (call := call) (hcm _ (by have := one.op; rw [← Array.getElem?_toList] at this; exact List.mem_of_getElem? this))) ?_
    refine val_ok Xc hcall one.run one.abs0 (M.inv0 Xc hac hb hm R hf0 m) M.hE (M.fresh Xc hac hb hm R hf0 m) (fun d v hd => M.tr d v (known_same hac hb hm R m hd)) ?_ ?_ ?_
    · intro v hv ι' w' v' hs' hv'
      cases hv
      have M' := mid_step Xc hac hb hm R hf0 M m hs' hv'
      rw [← Xl_set hls] at M'
      refine ih _ _ _ _ (by simp [hs]) ?_ ?_ M'
      · rw [Xl_set hls]
        have := (cnt_with h1 (n := ops.size)).2 hlt
        omega
      · rw [Xl_set hls]
        intro j hj hX x hx
        have : Xl listed x = true := by
          by_cases e : j.i = c.i
          · have := R.uniq j hj c hc e
            subst this
            exact pre x hx
          · exact hsh j hj (by rw [with1_ne e] at hX; exact hX) x hx
        unfold with1; rw [this, Bool.true_or]
    · intro f args hv; cases hv
    · intro v hv; cases hv

end

section
variable {P : Program} {T : Tb} {base : Nat} {E : World → Prop} (Xc : Ctx P T base E)
include Xc

/-- A region whose order is drawn. -/
theorem draw_ok {ro : Option Nat} {call : Nat → List Value → St → Option (Out × St)} (hcall : CallOk P T base E call) (hac : ACall T call) {ops : Array Oper} {nt : Nat} {fr fr' : Fr} {st st' : St}
    (h : runDraw T call ops.toList nt st.msk 0 ops.toList [] [] fr st = some (fr', st')) {ι : Ren} {w : World} {a : Act} (ha : Abs T st) (hi : Inv T.n0 base ι st.see w) (hE : E w) (hf : Fresh ι st st') (hr : FrR ι nt fr a)
    (hcm : ∀ o ∈ ops.toList, Calm ro o) {Q : Exit → Act → World → Prop} (hQ : ∀ ι' a' w', Stp T base st st' ι ι' w w' → FrR ι' nt fr' a' → Q .normal a' w') : wpAnyIn (FW ro) 0 P .any ops Q ops.size (Array.replicate ops.size false) a w := by
  obtain ⟨t, ds⟩ := fr
  obtain ⟨L, hL, R, hds⟩ := row_of_draw (cs := []) (ds := ds) rfl (Row.nil (T := T) (call := call) (ops := ops) (nt := nt) (msk0 := st.msk) (t0 := t) (sB := st)) h
  have hX : ∀ i, Xl (Array.replicate ops.size false) i = false := fun i => by
    simp only [Xl]
    by_cases hi : i < ops.size
    · simp [hi]
    · simp [hi]
  refine any_ok Xc hcall hac ha rfl R hL hf hcm hi (ds := ds) (fun ι' a' w' h1 h2 => hQ ι' a' w' h1 ?_) _ _ a w ι (by simp) ?_ (fun j hj h => by rw [hX] at h; cases h) ?_
  · obtain ⟨tF, dF⟩ := fr'
    simp only at hds
    subst hds
    exact h2
  · have : ∀ n, cnt (Xl (Array.replicate ops.size false)) n = n := by
      intro n
      induction n with
      | zero => rfl
      | succ n ih => simp only [cnt, ih, hX]; rfl
    rw [this]; exact Nat.le_refl _
  · exact
      { inv := hi.less fun id en h => by rw [HV_false hX] at h; exact h
        tr := fun d x h => hr.t d x (by rw [HT_false hX] at h; exact h)
        size := hr.size
        ds := hr.ds
        hE := hE
        le := ι.le_refl
        dom := fun id h => absurd rfl h
        frame := fun _ _ _ => rfl
        newid := fun id c z _ h1 h2 => by rw [h1] at h2; cases h2
        os := rfl, tape := rfl, output := rfl, grown := Nat.le_refl _ }

end
end Go.Proofs.YthdnpikgnmdnnaaGreatDoor.Ev

namespace Go.Proofs.YthdnpikgnmdnnaaGreatDoor.Ev
set_option linter.unusedSimpArgs false
set_option linter.unusedVariables false
set_option linter.unusedSectionVars false
variable [Tok]
open Go.RowKit
set_option linter.unusedSectionVars false

/-! Code and calls -/

theorem initT_get : ∀ (l : List Value) (i : Nat) (t : Tr Value) (d : Nat), (initT l i t).get d = if i ≤ d ∧ d < i + l.length then l[d - i]? else t.get d
  | [], i, t, d => by simp only [initT, List.length_nil]; rw [if_neg (by omega)]
  | v :: r, i, t, d => by
    rw [initT, initT_get r (i + 1) _ d, Tr.get_set]
    simp only [List.length_cons]
    by_cases h : d = i
    · subst h; rw [if_neg (by omega), if_pos rfl, if_pos ⟨Nat.le_refl _, by omega⟩]; simp
    · by_cases h1 : i + 1 ≤ d ∧ d < i + 1 + r.length
      · rw [if_pos h1, if_pos (by omega)]
        obtain ⟨k, hk⟩ : ∃ k, d - i = k + 1 := ⟨d - i - 1, by omega⟩
        rw [hk, show d - (i + 1) = k by omega]; simp
      · rw [if_neg h1, if_neg h, if_neg (by omega)]

/-- A call's first frame. -/
theorem init_fr {ι : Ren} {args : List Value} {args' : Array Value} {nt : Nat} (hr : All2 (Rv ι) args args'.toList) (hlt : args.length ≤ nt) :
    FrR ι nt ⟨initT args 0 .nil, []⟩ { tmps := args' ++ Array.replicate (nt - args'.size) undef, defers := [] } := by
  have hlen : args.length = args'.size := by rw [hr.1, Array.length_toList]
  refine ⟨fun d v hd => ?_, ?_, All2.nil⟩
  · rw [initT_get] at hd
    by_cases h : 0 ≤ d ∧ d < 0 + args.length
    · rw [if_pos h] at hd
      obtain ⟨y, h1, h2⟩ := hr.get hd
      refine ⟨y, ?_, h2⟩
      rw [Nat.sub_zero] at h1
      rw [Array.getElem?_append_left (by omega), ← Array.getElem?_toList]
      exact h1
    · rw [if_neg h] at hd; cases hd
  · simp; omega

noncomputable def resF (tmps : Array Value) : ResultVar → Sem Value
  | .tmp t => pure (tmps.getD t undef)
  | .cell a t => do loadVar t (← asAddr (tmps.getD a undef))

theorem results_eq (fn : Func) (tmps : Array Value) : results fn tmps = (do
    let vs ← fn.results.mapM (resF tmps)
    pure (if h : vs.size = 1 then vs[0] else .tuple vs)) := rfl

section
variable {P : Program} {T : Tb} (hT : TbOk P T) {base : Nat} {ι : Ren} {st : St} {w : World}
include hT

theorem resultOf_ok (hi : Inv T.n0 base ι st.see w) {t : Tr Value} {tmps : Array Value} (ht : TR ι t tmps) {fn : Func} {v : Value} (h : resultOf T st t fn.results.toList = some v) :
    ∃ v', (results fn tmps).run P w = .ok v' w ∧ Rv ι v v' := by
  have key : ∀ (rs : List ResultVar) (vs : List Value), resultOf.go T st t rs = some vs → ∃ vs', (rs.mapM (resF tmps)).run P w = .ok vs' w ∧ All2 (Rv ι) vs vs' := by
    intro rs
    induction rs with
    | nil => intro vs h; cases h; exact ⟨[], by simp, All2.nil⟩
    | cons r rs ih =>
      intro vs h
      cases r with
      | tmp i =>
        simp only [resultOf.go] at h
        cases hv : t.get i with
        | none => rw [hv] at h; cases h
        | some x =>
          rw [hv] at h
          cases hg : resultOf.go T st t rs with
          | none => rw [hg] at h; cases h
          | some xs =>
            rw [hg] at h
            cases h
            obtain ⟨xs', h1, h2⟩ := ih xs hg
            obtain ⟨y, h3, h4⟩ := ht i x hv
            refine ⟨y :: xs', ?_, h2.cons h4⟩
            have h5 : (resF tmps (.tmp i)).run P w = .ok y w := by simp [resF, h3]
            rw [List.mapM_cons]
            simp only [Sem.run_bind, h5, h1, Result.andThen, Sem.run_pure]
      | cell i ty =>
        simp only [resultOf.go] at h
        have cons : ∀ {x x' : Value}, (∃ b o c sz, t.get i = some (.pointer (some ⟨b, o, none⟩)) ∧ tmps[i]? = some (.pointer (some ⟨c, o, none⟩)) ∧ ι b = some (c, sz) ∧ (loadVar ty ⟨c, o, none⟩).run P w = .ok x' w) → Rv ι x x' → (resultOf.go T st t rs).map (x :: ·) = some vs →
            ∃ vs', (((ResultVar.cell i ty) :: rs).mapM (resF tmps)).run P w = .ok vs' w ∧ All2 (Rv ι) vs vs' := by
          intro x x' ⟨b, o, c, sz, h1, h2, h3, h4⟩ hx hg
          cases hgo : resultOf.go T st t rs with
          | none => rw [hgo] at hg; cases hg
          | some xs =>
            rw [hgo] at hg
            cases hg
            obtain ⟨xs', g1, g2⟩ := ih xs hgo
            refine ⟨x' :: xs', ?_, g2.cons hx⟩
            rw [List.mapM_cons]
            have h5 : (resF tmps (.cell i ty)).run P w = .ok x' w := by
              have : tmps.getD i undef = .pointer (some ⟨c, o, none⟩) := by simp [h2]
              simp only [resF, this, asAddr, Sem.run_bind, Sem.run_pure, Result.andThen, h4]
            simp only [Sem.run_bind, h5, g1, Result.andThen, Sem.run_pure]
        split at h
        · rename_i a n hp hag hsz
          cases hc : st.cellsAt a.block a.off n with
          | none => rw [hc] at h; cases h
          | some l =>
            rw [hc] at h
            simp only at h
            obtain ⟨y, h1, h2⟩ := ht i _ hp
            obtain ⟨b, o, c, sz, hb1, rfl, hb⟩ := ptr_inv hT h2
            cases hb1
            obtain ⟨l', k1, k2, k3⟩ := cellsAt_ok hi hc hb
            refine cons (x := .agg ⟨l⟩) (x' := .agg l'.toArray) ⟨b, o, c, sz, hp, h1, hb, ?_⟩ (rv_agg k1) h
            simp [loadVar, run_agg hT hag, run_size hT hsz, run_cells k2 k3]
        · rename_i a hp hag
          cases hc : st.cellsAt a.block a.off 1 with
          | none => rw [hc] at h; cases h
          | some l =>
            rw [hc] at h
            obtain ⟨y, h1, h2⟩ := ht i _ hp
            obtain ⟨b, o, c, sz, hb1, rfl, hb⟩ := ptr_inv hT h2
            cases hb1
            obtain ⟨l', k1, k2, k3⟩ := cellsAt_ok hi hc hb
            match l, h with
            | [u], h =>
              obtain ⟨u', r, rfl, hu, hr⟩ := k1.cons_inv
              have h0 := k3 0 u' rfl
              simp only [Nat.add_zero] at h0
              refine cons (x := u) (x' := u') ⟨b, o, c, sz, hp, h1, hb, ?_⟩ hu h
              simp [loadVar, run_agg hT hag, h0]
        · cases h
  unfold resultOf at h
  cases hg : resultOf.go T st t fn.results.toList with
  | none => rw [hg] at h; cases h
  | some vs =>
    rw [hg] at h
    obtain ⟨vs', h1, h2⟩ := key _ _ hg
    have h3 : (results fn tmps).run P w = .ok (if h : vs'.toArray.size = 1 then vs'.toArray[0] else .tuple vs'.toArray) w := by
      rw [results_eq, Array.mapM_eq_mapM_toList]
      simp only [Sem.run_bind, Sem.run_map, h1, Result.andThen, Sem.run_pure]
    refine ⟨_, h3, ?_⟩
    match vs, h, h2 with
    | [x], h, h2 =>
      obtain ⟨x', rfl, hx⟩ := h2.one
      cases h
      exact hx
    | [], h, h2 =>
      have := h2.nil_inv
      subst this
      cases h
      exact rv_tuple .nil
    | x :: y :: r, h, h2 =>
      cases h
      obtain ⟨x', l2, rfl, hx, h4⟩ := h2.cons_inv
      obtain ⟨y', l3, rfl, hy, h5⟩ := h4.cons_inv
      rw [dif_neg (by simp)]
      exact rv_tuple ((h5.cons hy).cons hx)

end
end Go.Proofs.YthdnpikgnmdnnaaGreatDoor.Ev

namespace Go.Proofs.YthdnpikgnmdnnaaGreatDoor.Ev
set_option linter.unusedSimpArgs false
set_option linter.unusedVariables false
set_option linter.unusedSectionVars false
variable [Tok]
open Go.RowKit
set_option linter.unusedSectionVars false

/-! Records of loops over functions -/

theorem getLoop_run {P : Program} {w : World} {c : Nat} {r : Loop} (h : w.heap[c]? = some (.loop r)) : (Instr.getLoop c).run P w = .ok r w := by
  simp [Instr.getLoop, getObj, Sem.run, h]

theorem dropD_ok {P : Program} {T : Tb} {base : Nat} {st st' : St} {ι : Ren} {w : World} (ha : Abs T st) (hi : Inv T.n0 base ι st.see w) {l c z : Nat} (h : dropD T.n0 l st = some st') (hl : ι l = some (c, z)) :
    ∃ w', (Instr.takeDeferred c).run P w = .ok [] w' ∧ Stp T base st st' ι ι w w' := by
  unfold dropD at h
  split at h
  · rename_i fam hs
    obtain ⟨hn, rfl⟩ := low_some h
    obtain ⟨c', s', k1, q1⟩ := hi.ob l _ hs
    rw [hl] at k1; cases k1
    have q : w.heap[c]? = some (.deferred (some [])) := q1
    exact ⟨_, by simp [Instr.takeDeferred, getObj, setObj, Sem.run, q], step_solo ha hi hs rfl hn none (fun e h => by cases h) hl (.deferred none) (fun e h => by cases h)⟩
  · cases h

/-- A record, as the world holds it. -/
theorem loop_rec {T : Tb} {base : Nat} {st : St} {ι : Ren} {w : World} (hi : Inv T.n0 base ι st.see w) {l c z : Nat} {t : Tr Value} {nt k fam : Nat} {b : Bool} (hs : st.see l = some ⟨.loop t nt k b, fam⟩) (hl : ι l = some (c, z)) :
    ∃ r ps, w.heap[c]? = some (.loop r) ∧ r.state = cond b .busy .ready ∧ r.pending = none ∧ r.tmps.size = nt ∧ TR ι t r.tmps ∧ LP k = some (ps, (r.assign, r.body)) ∧ r.params.toList = ps ∧ calmC r.assign = true ∧ calmC r.body = true := by
  obtain ⟨c', s', k1, q1⟩ := hi.ob l _ hs
  rw [hl] at k1; cases k1
  exact q1

theorem dropL_ok {P : Program} {T : Tb} {base : Nat} {st st' : St} {ι : Ren} {w : World} (ha : Abs T st) (hi : Inv T.n0 base ι st.see w) {l c z : Nat} (h : dropL T.n0 l st = some st') (hl : ι l = some (c, z)) :
    ∃ w', (Instr.endLoop c).run P w = .ok none w' ∧ Stp T base st st' ι ι w w' := by
  unfold dropL at h
  split at h
  · rename_i t nt k fam hs
    obtain ⟨hn, rfl⟩ := low_some h
    obtain ⟨r, ps, q, q1, q2, _⟩ := loop_rec hi hs hl
    refine ⟨_, ?_, step_solo ha hi hs rfl hn none (fun e h => by cases h) hl (.loop { r with state := .exhausted }) (fun e h => by cases h)⟩
    have q1 : r.state = .ready := q1
    simp [Instr.endLoop, getLoop_run q, setObj, Sem.run, q, q1, q2]
  · cases h

theorem markL_ok {T : Tb} {base : Nat} {st st' : St} {ι : Ren} {w : World} (ha : Abs T st) (hi : Inv T.n0 base ι st.see w) {l c z : Nat} {was now : Bool} (h : markL T.n0 l was now st = some st') (hl : ι l = some (c, z)) :
    ∃ r, w.heap[c]? = some (.loop r) ∧ r.state = cond was .busy .ready ∧ r.pending = none ∧ Stp T base st st' ι ι w { w with heap := w.heap.setIfInBounds c (.loop { r with state := cond now .busy .ready, pending := none }) } := by
  unfold markL at h
  split at h
  · rename_i t nt k b fam hs
    cases hb : (b == was) with
    | false => rw [hb] at h; cases h
    | true =>
      rw [hb] at h
      have hb : b = was := by simpa using hb
      subst hb
      obtain ⟨hn, rfl⟩ := low_some h
      obtain ⟨r, ps, q, q1, q2, q3⟩ := loop_rec hi hs hl
      have hcl : c < w.heap.size := (Array.getElem?_eq_some_iff.1 q).1
      refine ⟨r, q, q1, q2, step_solo ha hi hs rfl hn (some ⟨.loop t nt k now, fam⟩) (fun e h => by cases h; exact ⟨rfl, rfl⟩) hl _ (fun e h => ?_)⟩
      cases h
      refine ⟨{ r with state := cond now .busy .ready, pending := none }, ps, ?_, rfl, rfl, q3⟩
      show (w.heap.setIfInBounds c _)[c]? = _
      simp [Array.getElem?_setIfInBounds, hcl]
  · cases h

/-- The loop variables are put. -/
theorem putArgs_ok {ι : Ren} {nt : Nat} : ∀ {ps : List Nat} {args : List Value} {t t' : Tr Value}, putArgs nt ps args t = some t' → ∀ {args' : List Value} {tmps : Array Value}, All2 (Rv ι) args args' → TR ι t tmps → tmps.size = nt →
    args'.length = ps.length ∧ TR ι t' ((ps.zip args').foldl (fun tmps (x : Nat × Value) => tmps.setIfInBounds x.1 x.2) tmps) ∧ ((ps.zip args').foldl (fun tmps (x : Nat × Value) => tmps.setIfInBounds x.1 x.2) tmps).size = nt
  | [], [], t, t', h, args', tmps, har, ht, hs => by
    have := har.nil_inv
    subst this
    cases h
    exact ⟨rfl, ht, hs⟩
  | d :: ds, v :: vs, t, t', h, args', tmps, har, ht, hs => by
    obtain ⟨v', vs', rfl, hv, hvs⟩ := har.cons_inv
    unfold putArgs at h
    cases hb : Nat.blt d nt with
    | false => rw [hb] at h; cases h
    | true =>
      rw [hb] at h
      have hlt : d < tmps.size := by rw [hs]; exact Nat.le_of_ble_eq_true hb
      have ht' : TR ι (t.set d (some v)) (tmps.setIfInBounds d v') := by
        intro i x hx
        rw [Tr.get_set] at hx
        by_cases e : i = d
        · rw [if_pos e] at hx; cases hx
          exact ⟨v', by rw [e]; simp [Array.getElem?_setIfInBounds, hlt], hv⟩
        · rw [if_neg e] at hx
          obtain ⟨x', h1, h2⟩ := ht i x hx
          exact ⟨x', by rw [Array.getElem?_setIfInBounds_ne (Ne.symm e)]; exact h1, h2⟩
      obtain ⟨h1, h2, h3⟩ := putArgs_ok h hvs ht' (by simp [hs])
      exact ⟨by simp [h1], h2, h3⟩
  | [], _ :: _, t, t', h, args', tmps, har, ht, hs => by cases h
  | _ :: _, [], t, t', h, args', tmps, har, ht, hs => by cases h

noncomputable def MoR (ι : Ren) : Option Value → FrameMode → Prop
  | none, m => m = .returning
  | some v, m => ∃ v', Rv ι v v' ∧ m = .panicking [{ v := v', recovered := false }]

theorem MoR.mono {ι ι' : Ren} (h : ι.le ι') {u : Option Value} {m : FrameMode} (r : MoR ι u m) : MoR ι' u m := by
  cases u with
  | none => exact r
  | some v => obtain ⟨v', h1, h2⟩ := r; exact ⟨v', h1.mono h, h2⟩

theorem MoR.run {ι : Ren} {u : Option Value} {m : FrameMode} (r : MoR ι u m) : m ≠ .run := by
  cases u with
  | none => rw [show m = .returning from r]; simp
  | some v => obtain ⟨v', _, h2⟩ := r; rw [h2]; simp

theorem exr_then {ι : Ren} {nt : Nat} {out : Out} {e : Exit} {a : Act} {w : World} {K : Act → World → Prop} {Q : Exit → Act → World → Prop} (h : ExR ι nt out e a) (hn : ∀ fr, out ≠ .norm fr) (hq : Q e a w) : Exit.then K Q e a w := by
  cases out <;> cases e <;> first | exact h.elim | exact hq | exact absurd rfl (hn _)

/-! How a frame leaves, marks of loops over functions among its deferred calls -/

/-- A frame of a function that is on its way out with these deferred calls left ends as R says. -/
noncomputable def LeavesM (P : Program) (fn : Func) (tmps : Array Value) (R : Ending → World → Prop) (ds : List Deferred) (u : FrameMode) (w : World) : Prop :=
  ∀ (fr : Frame) (cs : List Frame), fr.mode = u → fr.defers = ds → fr.tmps = tmps → P.funcs[fr.fn]? = some fn → fr.kind = .normal →
    ∃ e w' fr', R e w' ∧ Comes P (lone fr cs w) (lone fr' cs w') e ∧ fr'.fn = fr.fn ∧ fr'.leaving P w' e

theorem LeavesM.nil {P : Program} {fn : Func} {tmps : Array Value} {R : Ending → World → Prop} {u : FrameMode} {w : World} (h : Leaves P fn tmps R [] u w) : LeavesM P fn tmps R [] u w :=
  fun fr cs h1 h2 h3 h4 h5 => leaves_steps [] u w fr cs h1 h2 h3 h4 h5 h

theorem LeavesM.mark {P : Program} {fn : Func} {tmps : Array Value} {R : Ending → World → Prop} {u : FrameMode} {w w' : World} {d : Deferred} {ds : List Deferred} {r : Nat} (hu : u ≠ .run) (ht : d.target = .collected r)
    (hk : (Instr.takeDeferred r).run P w = .ok [] w') (h : LeavesM P fn tmps R ds u w') : LeavesM P fn tmps R (d :: ds) u w := by
  intro fr cs h1 h2 h3 h4 h5
  have hstep : step P (lone fr cs w) = .next (lone { fr with defers := ds } cs w') := by
    obtain ⟨t, a⟩ := d
    cases ht
    refine step_lone_go ?_
    cases hm : fr.mode with
    | run => exact absurd (h1.symm.trans hm) hu
    | returning => simp [stepG, unwind, hm, h2, Sem.runT_eq, hk, GStep.bare_after]
    | panicking ch => simp [stepG, unwind, hm, h2, Sem.runT_eq, hk, GStep.bare_after]
  obtain ⟨e, w2, fr2, g1, g2, g3, g4⟩ := h { fr with defers := ds } cs h1 rfl h3 h4 h5
  exact ⟨e, w2, fr2, g1, Comes.of_steps (.one hstep) g2, g3, g4⟩

theorem LeavesM.fn {P : Program} {fn : Func} {tmps : Array Value} {R : Ending → World → Prop} {u : FrameMode} {w : World} {d : Deferred} {ds : List Deferred} {fv : Fn} {cap : Array Value} {f : FuncId} {args : Array Value} (hu : u ≠ .run)
    (ht : d.target = .fn fv cap) (hi : (invoke d.target d.args).run P w = .ok (.enter f args) w) (h : CallsD P f args u w fun e u' w' => (∃ v, e = .returned v) ∧ LeavesM P fn tmps R ds (settle u') w') : LeavesM P fn tmps R (d :: ds) u w := by
  intro fr cs h1 h2 h3 h4 h5
  have hs := step_defer (cs := cs) (h1 ▸ hu) h2 ht hi
  obtain ⟨e, u', w', fx, ⟨⟨v, rfl⟩, hR⟩, hsteps, hk, hgo⟩ := h { fr with defers := ds } cs h1
  have hs2 := step_going_returned (c := { { fr with defers := ds } with mode := u' }) (cs := cs) hk hgo
  obtain ⟨e, w2, fr2, g1, g2, g3, g4⟩ := hR { { fr with defers := ds } with mode := settle u' } cs rfl rfl h3 h4 h5
  exact ⟨e, w2, fr2, g1, Comes.of_steps (.head hs (Steps.trans hsteps (.one hs2))) g2, g3, g4⟩

noncomputable def bodyPostM (P : Program) (fn : Func) (R : Ending → World → Prop) : Exit → Act → World → Prop
  | .normal, a, w | .ret, a, w => LeavesM P fn a.tmps R a.defers .returning w
  | .panic ch, a, w => LeavesM P fn a.tmps R a.defers (.panicking ch) w
  | _, _, _ => False

theorem calls_of_marks {P : Program} {f : FuncId} {fn : Func} {c : Code} {args : Array Value} {w : World} {R : Ending → World → Prop} (hf : P.funcs[f]? = some fn) (hb : fn.body = some c)
    (h : c.wp P (bodyPostM P fn R) { tmps := args ++ Array.replicate (fn.ntmps - args.size) undef, defers := [] } w) : Calls P f args w R := by
  intro cs
  have he : Frame.enter P f args .normal = ({ (default : Frame) with fn := f, kind := .normal } : Frame).at { tmps := args ++ Array.replicate (fn.ntmps - args.size) undef, defers := [] } [.code c] := by
    simp [Frame.enter, Frame.at, hf, hb]
  obtain ⟨e, a, w1, hq, harr⟩ := h { (default : Frame) with fn := f, kind := .normal } [] cs
  rw [← he] at harr
  cases e with
  | normal =>
    obtain ⟨e, w2, fr2, g1, g2, g3, g4⟩ := hq { ({ (default : Frame) with fn := f, kind := .normal } : Frame).at a [] with mode := .returning } cs rfl rfl rfl hf rfl
    exact ⟨e, w2, fr2, g1, Comes.of_steps (Steps.trans harr (.one step_end)) g2, g3, g4⟩
  | ret =>
    obtain ⟨todo, hs⟩ := harr
    obtain ⟨e, w2, fr2, g1, g2, g3, g4⟩ := hq { ({ (default : Frame) with fn := f, kind := .normal } : Frame).at a todo with mode := .returning } cs rfl rfl rfl hf rfl
    exact ⟨e, w2, fr2, g1, Comes.of_steps hs g2, g3, g4⟩
  | panic ch =>
    obtain ⟨todo, hs⟩ := harr
    obtain ⟨e, w2, fr2, g1, g2, g3, g4⟩ := hq { ({ (default : Frame) with fn := f, kind := .normal } : Frame).at a todo with mode := .panicking ch } cs rfl rfl rfl hf rfl
    exact ⟨e, w2, fr2, g1, Comes.of_steps hs g2, g3, g4⟩
  | exit id => exact hq.elim
  | goto l => exact hq.elim
  | outgrown => exact hq.elim

section
variable (P : Program) (T : Tb) (base : Nat) (E : World → Prop)

/-- What the table's answers must keep to. -/
noncomputable def OrcOk : Prop := CallOk1 P T base E (orcC T)

noncomputable def CodeOk (n : Nat) : Prop := ∀ ro c nt fr st out st', exec T n (.code c nt fr) st = some (out, st') → rfOk c → (ro = none ∨ calmC c = true) → ∀ (ι : Ren) (w : World) (a : Act), Abs T st → Inv T.n0 base ι st.see w → E w → Fresh ι st st' → FrR ι nt fr a →
  ∀ Q : Exit → Act → World → Prop, (∀ e a' w' ι', Stp T base st st' ι ι' w w' → ExR ι' nt out e a' → Q e a' w') → c.wpIn (FW ro) 0 P Q a w

noncomputable def DCallOk (n : Nat) : Prop := ∀ f args u st out st', exec T n (.dcall f args u) st = some (out, st') → ∀ (ι : Ren) (w : World) (args' : Array Value) (m : FrameMode), Abs T st → Inv T.n0 base ι st.see w → E w → Fresh ι st st' → All2 (Rv ι) args args'.toList → MoR ι u m →
  CallsD P f args' m w fun e m' w' => ∃ ι' fr b v, Stp T base st st' ι ι' w w' ∧ out = .dnorm fr b ∧ e = .returned v ∧ MoR ι' (cond b none u) (settle m')
end

section
variable {P : Program} {T : Tb} {base : Nat} {E : World → Prop} (X : Ctx P T base E) (hO : OrcA T) (hC : OrcOk P T base E)
include X hO hC

theorem dcall_fn {n f : Nat} {args : List Value} {u : Option Value} {st : St} {r : Out × St} (h : exec T n (.dcall f args u) st = some r) : ∃ fn, T.fn.get f = some fn ∧ fn.body.isSome = true := by
  cases n with
  | zero => unfold exec at h; cases h
  | succ n =>
    unfold exec at h
    split at h
    · rename_i fn hf
      split at h
      · rename_i c hb; exact ⟨fn, hf, by rw [hb]; rfl⟩
      · cases h
    · cases h

theorem leave_ok {n : Nat} (hD : DCallOk P T base E n) {fn : Func} {t : Tr Value} {tmps : Array Value} : ∀ {ds : List (Nat × List Value)} {u : Option Value} {st st' : St} {out : Out},
    exec.leave T (fun f args u st => exec T n (.dcall f args u) st) fn t ds u st = some (out, st') → ∀ {ι : Ren} {w : World} {m : FrameMode} {defers : List Deferred}, Abs T st → Inv T.n0 base ι st.see w → E w → Fresh ι st st' → TR ι t tmps →
    All2 (DfR ι) ds defers → MoR ι u m → ∀ {R : Ending → World → Prop}, (∀ ι' w' e, Stp T base st st' ι ι' w w' → EndR ι' out e → R e w') → LeavesM P fn tmps R defers m w
  | [], u, st, st', out, h, ι, w, m, defers, ha, hi, hE, hf, ht, hds, hm, R, hR => by
    have := hds.nil_inv
    subst this
    cases u with
    | none =>
      have hm : m = .returning := hm
      subst hm
      unfold exec.leave at h
      split at h
      · rename_i v hv
        cases h
        obtain ⟨v', h1, h2⟩ := resultOf_ok X.tb hi ht hv
        exact .nil ⟨v', h1, hR ι w _ (.refl ha hi) h2⟩
      · cases h
    | some v =>
      obtain ⟨v', h1, rfl⟩ := hm
      unfold exec.leave at h
      cases h
      exact .nil (hR ι w _ (.refl ha hi) ⟨v', h1, rfl⟩)
  | (f, args) :: ds, u, st, st', out, h, ι, w, m, defers, ha, hi, hE, hf, ht, hds, hm, R, hR => by
    obtain ⟨d, r, rfl, hdr, hr⟩ := hds.cons_inv
    unfold exec.leave at h
    rcases hdr with ⟨hlt, cap, hd1, hd2⟩ | ⟨i, c, z, hi1, hi2, hi3⟩
    · have hbig : Nat.ble UNK f = false := by
        cases hb : Nat.ble UNK f with
        | false => rfl
        | true => have h1 := Nat.le_of_ble_eq_true hb; simp only at hlt; omega
      rw [hbig] at h
      simp only [cond_false] at h
      split at h
      · rename_i fr b st1 hdc
        obtain ⟨g, hg1, hg2⟩ := dcall_fn X hO hC hdc
        have a1 := a_exec T hO _ _ _ _ _ hdc ha
        have a2 := a_leave (fun f args u st out st' h ha => a_exec T hO _ _ _ _ _ h ha) a1.abs h
        have hinv : (invoke d.target d.args).run P w = .ok (.enter f (d.args ++ cap)) w := by
          rw [hd1]
          exact callFunc_run X hg1 hg2 (d.args ++ cap) w
        refine .fn hm.run hd1 hinv ((hD f args u st _ st1 hdc ι w _ m ha hi hE (hf.left a2.next) hd2 hm).mono ?_)
        rintro e m' w' ⟨ι', fr', b', v, s, ho, rfl, hm'⟩
        cases ho
        refine ⟨⟨v, rfl⟩, leave_ok hD h s.abs s.inv (X.keepS s hi.size hE) (hf.right s) (ht.mono s.le) (hr.mono fun x d k => k.mono s.le) hm' ?_⟩
        exact fun ι2 w2 e s2 he => hR ι2 w2 e (s.trans s2 ha hf) he
      · cases h
    · simp only at hi1
      subst hi1
      have hbig : Nat.ble UNK (UNK + i) = true := Nat.ble_eq_true_of_le (Nat.le_add_right _ _)
      rw [hbig, Nat.add_sub_cancel_left] at h
      simp only [cond_true] at h
      split at h
      · rename_i st1 hdd
        obtain ⟨w', h1, s⟩ := dropD_ok (P := P) ha hi hdd hi2
        refine .mark hm.run hi3 h1 (leave_ok hD h s.abs s.inv (X.keepS s hi.size hE) (hf.right s) (ht.mono s.le) (hr.mono fun x d k => k.mono s.le) (hm.mono s.le) ?_)
        exact fun ι2 w2 e s2 he => hR ι2 w2 e (s.trans s2 ha hf) he
      · cases h

/-- One round of a loop over a function. -/
theorem round_ok {n : Nat} (hcode : CodeOk P T base E n) {l : Nat} {args : List Value} {st st' : St} {out : Out} (h : roundA T (fun c nt fr st => exec T n (.code c nt fr) st) l args st = some (out, st'))
    {ι : Ren} {w : World} {args' : Array Value} (ha : Abs T st) (hi : Inv T.n0 base ι st.see w) (hE : E w) (hf : Fresh ι st st') (hr : All2 (Rv ι) args args'.toList) {c z : Nat} (hc : ι l = some (c, z)) :
    ∃ g tmps x y, (Instr.yield c args').run P w = .ok (.round c g tmps x y) w ∧ RoundIn Fence.wide 0 P c g tmps x y w fun e w' => ∃ ι', Stp T base st st' ι ι' w w' ∧ EndR ι' out e := by
  obtain ⟨t, nt, k, fam, ps, a, b, t', fr, st1, st2, fr3, st3, st4, h1, h2, h3, h4, h5, h6, h7, h8⟩ := roundA_inv h
  cases h8
  obtain ⟨r, ps', q, q1, q2, q3, q4, q5, q6, q7, q8⟩ := loop_rec hi h1 hc
  have hlp := X.lp _ _ h2
  rw [q5] at hlp; cases hlp
  obtain ⟨p1, p2, p3⟩ := putArgs_ok h3 hr q4 q3
  have b1 := a_exec T hO _ _ _ _ _ h4 ha
  have b2 := a_markL b1.abs h5
  have b3 := a_exec T hO _ _ _ _ _ h6 b2.abs
  have b4 := a_markL b3.abs h7
  have n1 := b1.next
  have n2 := b2.next
  have n3 := b3.next
  have n4 := b4.next
  refine ⟨r.fn, ((r.params.zip args').foldl (fun tmps (t, a) => tmps.setIfInBounds t a) r.tmps), r.assign, r.body, ?_, ?_⟩
  · have hs : args'.size = r.params.size := by
      have := p1
      rw [← q6] at this
      simpa using this
    simp [Instr.yield, getLoop_run q, hs]
  · have hz : (r.params.zip args').foldl (fun tmps (t, a) => tmps.setIfInBounds t a) r.tmps = (ps.zip args'.toList).foldl (fun tmps (x : Nat × Value) => tmps.setIfInBounds x.1 x.2) r.tmps := by
      rw [← Array.foldl_toList, Array.toList_zip, q6]
    rw [hz]
    refine roundIn_of_wpIn trivial ?_
    refine hcode (some c) _ _ _ _ _ _ h4 (calm_rf q7) (.inr q7) ι w _ ha hi hE (hf.left (by omega)) ⟨p2, p3, .nil⟩ _ ?_
    intro e a1 w1 ι1 s1 he
    cases e with
    | normal =>
      obtain ⟨r1, g1, g2, g3, s2⟩ := markL_ok s1.abs s1.inv h5 (s1.le _ _ hc)
      have g2' : r1.state = .ready := g2
      have hbr : (Instr.beginRound c).run P w1 = .ok () { w1 with heap := w1.heap.setIfInBounds c (.loop { r1 with state := cond true .busy .ready, pending := none }) } := by
        obtain ⟨fn', st', pe', tm', pa', as', bo', de'⟩ := r1
        simp only at g2' g3
        subst g2'; subst g3
        simp [Instr.beginRound, getLoop_run g1, setObj, Sem.run, g1]
      refine ⟨_, hbr, ?_⟩
      refine hcode (some c) _ _ _ _ _ _ h6 (calm_rf q8) (.inr q8) ι1 _ a1 s2.abs s2.inv (X.keepS s2 s1.inv.size (X.keepS s1 hi.size hE)) (((hf.right s1).right s2).left (by omega)) he _ ?_
      intro e a2 w2 ι2 s3 he2
      cases e with
      | normal =>
        obtain ⟨r3, k1, k2, k3, s4⟩ := markL_ok s3.abs s3.inv h7 (s3.le _ _ (s1.le _ _ hc))
        refine ⟨.bool true, _, ?_, ι2, ((s1.trans s2 ha (hf.left (by omega))).trans s3 ha (hf.left (by omega))).trans s4 ha hf, .bool true⟩
        simp [Instr.endRound, getLoop_run k1, setObj, Sem.run, k1]
      | _ => exact he2.elim
    | _ => exact he.elim

theorem call_step {n : Nat} (hcode : CodeOk P T base E n) (hD : DCallOk P T base E n) : CallOk P T base E (fun f args st => exec T (n + 1) (.call f args) st) := by
  intro f args st out st' h ι w args' ha hi hE hf hr
  simp only at h
  unfold exec at h
  cases hbig : Nat.ble UNK f with
  | true =>
    rw [hbig] at h
    simp only [cond_true] at h
    have hge := Nat.le_of_ble_eq_true hbig
    refine ⟨fun hlt => by omega, fun l c z hl hc => ?_⟩
    rw [hl, Nat.add_sub_cancel_left] at h
    exact round_ok X hO hC hcode h ha hi hE hf hr hc
  | false =>
  rw [hbig] at h
  simp only [cond_false] at h
  have hsmall : ¬ UNK ≤ f := fun hle => by rw [Nat.ble_eq_true_of_le hle] at hbig; cases hbig
  split at h
  · rename_i v s ho
    refine ⟨fun _ => hC f args st out st' ?_ ι w args' ha hi hE hf hr, fun l c z hl _ => absurd (by rw [hl]; exact Nat.le_add_right _ _) hsmall⟩
    unfold orcC
    rw [ho]
    exact h
  refine ⟨fun _ => ?_, fun l c z hl _ => absurd (by rw [hl]; exact Nat.le_add_right _ _) hsmall⟩
  split at h
  · rename_i k hk
    split at h
    · rename_i v hv
      cases h
      refine (X.prim f k hk args v hv w args' ι hE hr).mono ?_
      rintro e w' ⟨⟨v', rfl, hv'⟩, h1, h2, h3, h4⟩
      exact ⟨ι, .same ha hi h1 h2 h3 h4, hv'⟩
    · cases h
  · split at h
    · rename_i fn hfn
      split at h
      · rename_i c hc
        cases hle : Nat.ble args.length fn.ntmps with
        | false => rw [hle] at h; cases h
        | true =>
          rw [hle] at h
          simp only [cond_true] at h
          obtain ⟨st0, h, hk⟩ := trim_inv h
          have hl := fun (fr : Fr) (u : Option Value) (s : St) (hs : AStp T st s) (h : exec.leave T (fun f args u st => exec T n (.dcall f args u) st) fn fr.t fr.ds u s = some (out, st0)) =>
            hs.trans (a_leave (fun f args u st out st' h ha => a_exec T hO _ _ _ _ _ h ha) hs.abs h) ha
          have ha0 : AStp T st st0 := by
            split at h
            · rename_i hx; exact hl _ _ _ (a_exec T hO _ _ _ _ _ hx ha) h
            · rename_i hx; exact hl _ _ _ (a_exec T hO _ _ _ _ _ hx ha) h
            · rename_i hx; exact hl _ _ _ (a_exec T hO _ _ _ _ _ hx ha) h
            · cases h
          clear hl
          obtain ⟨hnx, hst⟩ : st'.next = st0.next ∧ ∀ {ι' : Ren} {w' : World}, Stp T base st st0 ι ι' w w' → Stp T base st st' ι ι' w w' := by
            rcases hk with rfl | ⟨k, rfl⟩
            · exact ⟨rfl, fun s => s⟩
            · exact ⟨rfl, fun s => trim_stp ha ha0 hf s⟩
          have hf0 : Fresh ι st st0 := fun id h1 h2 => hf id h1 (by rw [hnx]; exact h2)
          clear hf hk
          have hf := hf0
          suffices hh : Calls P f args' w fun e w' => ∃ ι', Stp T base st st0 ι ι' w w' ∧ EndR ι' out e from hh.mono fun e w' ⟨ι', s, he⟩ => ⟨ι', hst s, he⟩
          clear hst hnx
          refine calls_of_marks (X.tb.fn f fn hfn) hc ?_
          have hrf := X.rf f fn c hfn hc
          have hfr := init_fr hr (Nat.le_of_ble_eq_true hle)
          have key : ∀ {fr : Fr} {u : Option Value} {st1 : St} {ι1 : Ren} {w1 : World} {a1 : Act} {m : FrameMode}, exec.leave T (fun f args u st => exec T n (.dcall f args u) st) fn fr.t fr.ds u st1 = some (out, st0) →
              Stp T base st st1 ι ι1 w w1 → FrR ι1 fn.ntmps fr a1 → MoR ι1 u m → LeavesM P fn a1.tmps (fun e w' => ∃ ι', Stp T base st st0 ι ι' w w' ∧ EndR ι' out e) a1.defers m w1 := by
            intro fr u st1 ι1 w1 a1 m hl s hr1 hm
            refine leave_ok X hO hC hD hl s.abs s.inv (X.keepS s hi.size hE) (hf.right s) hr1.t hr1.ds hm ?_
            exact fun ι' w' e s' he => ⟨ι', s.trans s' ha hf, he⟩
          have nxt : ∀ {fr : Fr} {u : Option Value} {st1 : St}, Abs T st1 → exec.leave T (fun f args u st => exec T n (.dcall f args u) st) fn fr.t fr.ds u st1 = some (out, st0) → st1.next ≤ st0.next := fun h1 hl =>
            (a_leave (fun f args u st out st' h ha => a_exec T hO _ _ _ _ _ h ha) h1 hl).next
          split at h
          · rename_i fr st1 hx
            refine wpIn_wide.1 (hcode none _ _ _ _ _ _ hx hrf (.inl rfl) ι w _ ha hi hE (hf.left (nxt (a_exec T hO _ _ _ _ _ hx ha).abs h)) hfr _ ?_)
            intro e a1 w1 ι1 s he
            cases e <;> first | exact he.elim | exact key h s he rfl
          · rename_i fr st1 hx
            refine wpIn_wide.1 (hcode none _ _ _ _ _ _ hx hrf (.inl rfl) ι w _ ha hi hE (hf.left (nxt (a_exec T hO _ _ _ _ _ hx ha).abs h)) hfr _ ?_)
            intro e a1 w1 ι1 s he
            cases e <;> first | exact he.elim | exact key h s he rfl
          · rename_i v fr st1 hx
            refine wpIn_wide.1 (hcode none _ _ _ _ _ _ hx hrf (.inl rfl) ι w _ ha hi hE (hf.left (nxt (a_exec T hO _ _ _ _ _ hx ha).abs h)) hfr _ ?_)
            intro e a1 w1 ι1 s he
            cases e with
            | panic ch =>
              obtain ⟨⟨v', h1, rfl⟩, h2⟩ := he
              exact key h s h2 ⟨v', h1, rfl⟩
            | _ => exact he.elim
          · cases h
      · cases h
    · cases h

/-- A loop over a function. -/
theorem range_ok {call : Nat → List Value → St → Option (Out × St)} (hcall : CallOk P T base E call) {g : Operand} {ps : Array Tmp} {x y : Code} {nt : Nat} {fr : Fr} {st st' : St} {out : Out}
    (h : rangeFn T call g x y nt fr st = some (out, st')) (hrf : rfOk (.rangeFunc g ps x y)) {ι : Ren} {w : World} {a : Act} (ha : Abs T st) (hi : Inv T.n0 base ι st.see w) (hE : E w) (hf : Fresh ι st st') (hr : FrR ι nt fr a)
    (hac : ACall T call)
    (Q : Exit → Act → World → Prop) (hQ : ∀ e a' w' ι', Stp T base st st' ι ι' w w' → ExR ι' nt out e a' → Q e a' w') : (Code.rangeFunc g ps x y).wpIn (FW none) 0 P Q a w := by
  obtain ⟨f, first, cap, fn, v, s1, s2, k1, k2, k3, k4, k5, k6, k7, k8, k9⟩ := rangeFn_inv h
  cases k9
  have b1 := anew ha .dfr
  have b2 := anew b1.abs (.loop fr.t nt (keyOf y) false)
  have b3 := hac _ _ _ _ _ k7 b2.abs
  have b4 := a_dropL b3.abs k8
  have n1 : (st.new .dfr).2.next = st.next + 1 := rfl
  have n2 : ((st.new .dfr).2.new (.loop fr.t nt (keyOf y) false)).2.next = st.next + 2 := rfl
  have n3 := b3.next
  have n4 := b4.next
  -- the value of the function
  have hg := operand_ok hi hr.t k3
  obtain ⟨first', cap', hev, hf1, hc1⟩ : ∃ first' cap', a.eval g = .func (.func f) first' cap' ∧ All2 (Rv ι) first.toList first'.toList ∧ All2 (Rv ι) cap.toList cap'.toList := by
    generalize a.eval g = gv at hg
    cases hg with
    | func h1 h2 h3 h4 => exact ⟨_, _, rfl, ⟨h1, h2⟩, ⟨h3, h4⟩⟩
  refine wpIn_rangeFunc fun fid _ => ?_
  -- the two blocks
  let w1 : World := { w with heap := w.heap.push (.deferred (some [])) }
  have t1 : Stp T base st (st.new .dfr).2 ι (ι.upd st.next (w.heap.size, 0)) w w1 :=
    step_new ha hi .dfr (.deferred (some [])) 0 (hf _ (Nat.le_refl _) (by omega)) rfl rfl rfl rfl (push_new rfl)
  let rec' : Loop := { state := .ready, pending := none, fn := fid, tmps := a.tmps, params := ps, assign := x, body := y, defers := w.heap.size }
  let w2 : World := { w1 with heap := w1.heap.push (.loop rec') }
  have t2 : Stp T base (st.new .dfr).2 ((st.new .dfr).2.new (.loop fr.t nt (keyOf y) false)).2 (ι.upd st.next (w.heap.size, 0)) ((ι.upd st.next (w.heap.size, 0)).upd (st.next + 1) (w1.heap.size, 0)) w1 w2 := by
    refine step_new t1.abs t1.inv _ (.loop rec') 0 ?_ rfl rfl rfl rfl ⟨rec', ps.toList, push_new rfl, rfl, rfl, hr.size, hr.t.mono (t1.le), hrf, rfl, k1, k2⟩
    exact (hf.right t1) _ (Nat.le_refl _) (by omega)
  have t12 := t1.trans t2 ha (hf.left (by omega))
  generalize hι2 : (ι.upd st.next (w.heap.size, 0)).upd (st.next + 1) (w1.heap.size, 0) = ι2 at t2 t12
  have hl : ι2 (st.next + 1) = some (w1.heap.size, 0) := by rw [← hι2]; exact Ren.upd_self
  have hd : ι2 st.next = some (w.heap.size, 0) := t2.le _ _ Ren.upd_self
  have hE2 := X.keepS t12 hi.size hE
  have hf2 := hf.right t12
  have hargs : All2 (Rv ι2) (first.toList ++ (Value.func (.yield (st.next + 1)) #[] #[] :: cap.toList)) (first' ++ #[Value.func (.yield w1.heap.size) #[] #[]] ++ cap').toList := by
    rw [Array.toList_append, Array.toList_append, List.append_assoc]
    exact (hf1.mono fun _ _ k => k.mono t12.le).append (All2.cons (.yld hl) (hc1.mono fun _ _ k => k.mono t12.le))
  have hcall2 := (hcall _ _ _ _ _ k7 ι2 w2 _ t12.abs t12.inv hE2 (hf2.left n4) hargs).1 k6
  refine ⟨w1.heap.size, [{ target := .collected w.heap.size, args := #[] }], w2, { target := .fn (.func f) cap', args := first' ++ #[.func (.yield w1.heap.size) #[] #[]] }, w2, f, first' ++ #[.func (.yield w1.heap.size) #[] #[]] ++ cap', w2, ?_, ?_, ?_, ?_, ?_, ?_⟩
  · show (Instr.enterLoop fid a.tmps ps x y none).run P w = _
    simp [Instr.enterLoop, newObj, Sem.run, w2, w1, rec']
  · have hc : a.eval (.const (.func (.yield w1.heap.size) #[] #[])) = .func (.yield w1.heap.size) #[] #[] := rfl
    simp [resolve, hev, hc, Deferred.ofValue]
  · exact fun _ _ => trivial
  · exact callFunc_run X k4 k5 _ _
  · intro e; cases e
  · refine callsFW (hcall2.mono ?_)
    rintro e w3 ⟨ι3, t3, he⟩
    cases e with
    | returned v3 =>
      obtain ⟨w4, g1, t4⟩ := dropL_ok (P := P) t3.abs t3.inv k8 (t3.le _ _ hl)
      refine ⟨none, w4, g1, hQ _ _ w4 ι3 ((t12.trans t3 ha (hf.left (by omega))).trans t4 ha hf) ⟨hr.t.mono (Ren.le_trans t12.le t3.le), hr.size, ?_⟩⟩
      exact All2.cons (.inr ⟨st.next, w.heap.size, 0, rfl, t3.le _ _ hd, rfl⟩) (hr.ds.mono fun x d k => k.mono (Ren.le_trans t12.le t3.le))
    | panicked ch => exact he.elim
    | outgrown => exact he.elim

theorem code_step (hmix : P.follows .mixedOrders = true) {n : Nat} (hcode : ∀ k ≤ n, CodeOk P T base E k) (hcall : CallOk P T base E (fun f args st => exec T n (.call f args) st)) : CodeOk P T base E (n + 1) := by
  intro ro c nt fr st out st' h hrf hcm ι w a ha hi hE hf hr Q hQ
  have hac : ACall T (fun f args st => exec T n (.call f args) st) := fun f args st out st' h ha => a_exec T hO _ _ _ _ _ h ha
  have hn := hcode n (Nat.le_refl _)
  unfold exec at h
  cases c <;> simp only at h <;> (try (cases h; done))
  case skip => cases h; exact wpIn_skip (hQ _ a w ι (.refl ha hi) hr)
  case label l => cases h; exact wpIn_label (hQ _ a w ι (.refl ha hi) hr)
  case exit id => cases h; exact wpIn_exit (hQ _ a w ι (.refl ha hi) ⟨rfl, hr⟩)
  case ret => cases h; exact wpIn_ret (hQ _ a w ι (.refl ha hi) hr)
  case region id ops d =>
    have hcl : ∀ o ∈ ops.toList, Calm ro o := by
      intro o ho
      rcases hcm with hcm | hcm
      · exact .inl hcm
      · simp only [calmC] at hcm
        exact .inr (by simpa using List.all_eq_true.1 hcm o ho)
    cases d with
    | true =>
      simp only at h
      split at h
      · rename_i fr1 st1 hx
        cases h
        refine wpIn_region_any hmix ?_
        have hs : Stp T base st st ι ι w { w with drawn := w.drawn + 1 } := .same ha hi rfl rfl rfl rfl
        refine draw_ok X hcall hac hx ha hs.inv (X.keepS hs hi.size hE) hf hr hcl ?_
        exact fun ι' a' w' s hr' => hQ _ a' w' ι' (hs.trans s ha hf) hr'
      · cases h
    | false =>
      simp only at h
      refine wpIn_region ?_
      rw [List.range_eq_range']
      have hl : ops.size = ops.toList.length := by simp
      split at h
      · rename_i fr1 st1 hx
        cases h
        rw [hl]
        exact ops_ok X hcall hac (k := 0) (List.drop_zero) hx hcl ha hi hE hf hr (fun _ ι' a' w' s hr' => hQ _ a' w' ι' s hr') (fun v hv => by cases hv)
      · rename_i fr1 v st1 hx
        cases h
        rw [hl]
        exact ops_ok X hcall hac (k := 0) (List.drop_zero) hx hcl ha hi hE hf hr (fun hv => by cases hv) (fun u hv ι' a' w' v' s hu hr' => by cases hv; exact hQ _ a' w' ι' s ⟨⟨v', hu, rfl⟩, hr'⟩)
      · cases h
  case seq x y =>
    obtain ⟨rf1, rf2⟩ := (hrf : rfOk x ∧ rfOk y)
    have cm1 : ro = none ∨ calmC x = true := hcm.imp id fun h => by simp only [calmC, Bool.and_eq_true] at h; exact h.1
    have cm2 : ro = none ∨ calmC y = true := hcm.imp id fun h => by simp only [calmC, Bool.and_eq_true] at h; exact h.2
    refine wpIn_seq ?_
    split at h
    · rename_i fr1 st1 hx
      have a1 := a_exec T hO _ _ _ _ _ hx ha
      have a2 := a_exec T hO _ _ _ _ _ h a1.abs
      refine hn ro _ _ _ _ _ _ hx rf1 cm1 ι w a ha hi hE (hf.left a2.next) hr _ ?_
      intro e a' w' ι' s he
      cases e with
      | normal =>
        refine hn ro _ _ _ _ _ _ h rf2 cm2 ι' w' a' s.abs s.inv (X.keepS s hi.size hE) (hf.right s) he _ ?_
        exact fun e2 a2 w2 ι2 s2 he2 => hQ e2 a2 w2 ι2 (s.trans s2 ha hf) he2
      | _ => exact he.elim
    · rename_i hne
      refine hn ro _ _ _ _ _ _ h rf1 cm1 ι w a ha hi hE hf hr _ ?_
      intro e a' w' ι' s he
      exact exr_then he (fun fr e => hne fr st' (by rw [← e]; exact h)) (hQ e a' w' ι' s he)
  case cond c x y =>
    obtain ⟨rf1, rf2⟩ := (hrf : rfOk x ∧ rfOk y)
    have cm1 : ro = none ∨ calmC x = true := hcm.imp id fun h => by simp only [calmC, Bool.and_eq_true] at h; exact h.1
    have cm2 : ro = none ∨ calmC y = true := hcm.imp id fun h => by simp only [calmC, Bool.and_eq_true] at h; exact h.2
    have hev : ∀ b, operand T.n0 fr.t c = some (.bool b) → a.eval c = .bool b := by
      intro b hb
      have := operand_ok hi hr.t hb
      generalize a.eval c = x at this
      cases this; rfl
    split at h
    · rename_i hb
      exact wpIn_cond_true (hev _ hb) (hn ro _ _ _ _ _ _ h rf1 cm1 ι w a ha hi hE hf hr _ hQ)
    · rename_i hb
      exact wpIn_cond_false (hev _ hb) (hn ro _ _ _ _ _ _ h rf2 cm2 ι w a ha hi hE hf hr _ hQ)
    · cases h
  case block id x =>
    have rf1 : rfOk x := hrf
    have cm1 : ro = none ∨ calmC x = true := hcm
    refine wpIn_block ?_
    split at h
    · rename_i k fr1 st1 hx
      have hf1 : st1 = st' := by split at h <;> cases h <;> rfl
      subst hf1
      refine hn ro _ _ _ _ _ _ hx rf1 cm1 ι w a ha hi hE hf hr _ ?_
      intro e a' w' ι' s he
      cases e with
      | exit j =>
        obtain ⟨rfl, he⟩ := he
        simp only [Exit.inBlock]
        by_cases e : k = id
        · rw [if_pos e] at h; cases h
          simp only [e, if_true, ite_true]
          first | exact hQ _ a' w' ι' s he | simpa using hQ _ a' w' ι' s he
        · rw [if_neg e] at h; cases h
          simp only [e, if_false, ite_false]
          exact hQ _ a' w' ι' s ⟨rfl, he⟩
      | _ => exact he.elim
    · rename_i hne
      refine hn ro _ _ _ _ _ _ h rf1 cm1 ι w a ha hi hE hf hr _ ?_
      intro e a' w' ι' s he
      cases e with
      | exit j =>
        cases out <;> first | exact he.elim | skip
        exact absurd h (hne _ _ _)
      | _ => exact hQ _ a' w' ι' s he
  case loop x =>
    have rf1 : rfOk x := hrf
    have cm1 : ro = none ∨ calmC x = true := hcm
    refine wpIn_loop_n (fun k a1 w1 => ∃ fr1 st1 ι1, k ≤ n + 1 ∧ exec T k (.code (.loop x) nt fr1) st1 = some (out, st') ∧ Stp T base st st1 ι ι1 w w1 ∧ FrR ι1 nt fr1 a1) (n := n + 1) ⟨fr, st, ι, Nat.le_refl _, ?_, .refl ha hi, hr⟩ ?_
    · unfold exec; exact h
    · rintro k a1 w1 ⟨fr1, st1, ι1, hk, hx, s, hr1⟩
      cases k with
      | zero => unfold exec at hx; cases hx
      | succ j =>
        unfold exec at hx
        simp only at hx
        split at hx
        · rename_i fr2 st2 hx2
          have a1' := a_exec T hO _ _ _ _ _ hx2 s.abs
          have a2' := a_exec T hO _ _ _ _ _ hx a1'.abs
          have hf1 := hf.right s
          refine hcode j (by omega) ro _ _ _ _ _ _ hx2 rf1 cm1 ι1 w1 a1 s.abs s.inv (X.keepS s hi.size hE) (hf1.left a2'.next) hr1 _ ?_
          intro e a' w' ι' s' he
          cases e with
          | normal => exact ⟨j, by omega, fr2, st2, ι', by omega, hx, s.trans s' ha (hf.left a2'.next), he⟩
          | _ => exact he.elim
        · rename_i hne
          refine hcode j (by omega) ro _ _ _ _ _ _ hx rf1 cm1 ι1 w1 a1 s.abs s.inv (X.keepS s hi.size hE) (hf.right s) hr1 _ ?_
          intro e a' w' ι' s' he
          exact exr_then he (fun fr e => hne fr st' (by rw [← e]; exact hx)) (hQ e a' w' ι' (s.trans s' ha hf) he)
  case rangeFunc g ps x y =>
    have hro : ro = none := hcm.resolve_right fun h => by simp only [calmC] at h; cases h
    subst hro
    exact range_ok X hO hC hcall h hrf ha hi hE hf hr hac Q hQ

end
end Go.Proofs.YthdnpikgnmdnnaaGreatDoor.Ev

namespace Go.Proofs.YthdnpikgnmdnnaaGreatDoor.Ev
set_option linter.unusedSimpArgs false
set_option linter.unusedVariables false
set_option linter.unusedSectionVars false
variable [Tok]
open Go.RowKit
set_option linter.unusedSectionVars false

/-! Deferred calls -/

noncomputable def Exit.inBlockS (id : Nat) (Q : Exit → Act → List Frame → World → Prop) : Exit → Act → List Frame → World → Prop
  | .exit id', a, cs, w => if id' = id then Q .normal a cs w else Q (.exit id') a cs w
  | e, a, cs, w => Q e a cs w

theorem wpS_block {P : Program} {Q : Exit → Act → List Frame → World → Prop} {a : Act} {cs : List Frame} {w : World} {id : Nat} {c : Code} (h : c.wpS P (Exit.inBlockS id Q) a cs w) : (Code.block id c).wpS P Q a cs w := by
  intro b k hb hr
  obtain ⟨e, a₁, cs₁, w₁, hq, harr⟩ := h b (.inBlock id :: k) hb hr
  cases e with
  | normal => exact ⟨.normal, a₁, cs₁, w₁, hq, .head step_block (Steps.trans harr (.one step_inBlock))⟩
  | exit id' =>
    by_cases hid : id' = id
    · simp only [Exit.inBlockS, hid, if_true] at hq
      exact ⟨.normal, a₁, cs₁, w₁, hq, .head step_block (harr k (by simp [exitTo, hid]))⟩
    · simp only [Exit.inBlockS, hid, if_false] at hq
      refine ⟨.exit id', a₁, cs₁, w₁, hq, fun k' hk => .head step_block (harr k' ?_)⟩
      have : (id == id') = false := by simp; exact fun h => hid h.symm
      simp [exitTo, this, hk]
  | goto l => exact ⟨_, a₁, cs₁, w₁, hq, fun k' hk => .head step_block (harr k' (by simp [gotoIn, hk]))⟩
  | ret => exact ⟨_, a₁, cs₁, w₁, hq, .of_steps (.one step_block) harr⟩
  | panic ch => exact ⟨_, a₁, cs₁, w₁, hq, .of_steps (.one step_block) harr⟩
  | outgrown => exact ⟨_, a₁, cs₁, w₁, hq, .of_steps (b := b) (k := k) (cs := cs₁) (e := .outgrown) (.one step_block) harr⟩

/-- The mode of the caller of a deferred call, while that runs. -/
noncomputable def MoD (ι : Ren) (u : Option Value) (b : Bool) (m : FrameMode) : Prop :=
  match u, b with
  | none, _ => m = .returning
  | some v, b => ∃ v', Rv ι v v' ∧ m = .panicking [{ v := v', recovered := b }]

theorem MoD.mono {ι ι' : Ren} (h : ι.le ι') {u : Option Value} {b : Bool} {m : FrameMode} (r : MoD ι u b m) : MoD ι' u b m := by
  cases u with
  | none => exact r
  | some v => obtain ⟨v', h1, h2⟩ := r; exact ⟨v', h1.mono h, h2⟩

theorem MoD.settle {ι : Ren} {u : Option Value} {b : Bool} {m : FrameMode} (r : MoD ι u b m) : MoR ι (cond b none u) (settle m) := by
  cases u with
  | none => rw [show m = .returning from r]; cases b <;> rfl
  | some v =>
    obtain ⟨v', h1, rfl⟩ := r
    cases b with
    | true => rfl
    | false => exact ⟨v', h1, rfl⟩

theorem MoR.mod {ι : Ren} {u : Option Value} {m : FrameMode} (r : MoR ι u m) : MoD ι u false m := by
  cases u <;> exact r

noncomputable def DxR (ι : Ren) (nt : Nat) (u : Option Value) : Out → Exit → Act → FrameMode → Prop
  | .dnorm fr b, .normal, a, m => FrR ι nt fr a ∧ MoD ι u b m
  | .dexit id fr b, .exit id', a, m => id = id' ∧ FrR ι nt fr a ∧ MoD ι u b m
  | .dret fr b, .ret, a, m => FrR ι nt fr a ∧ MoD ι u b m
  | _, _, _, _ => False

section
variable (P : Program) (T : Tb) (base : Nat) (E : World → Prop)

noncomputable def DCodeOk (n : Nat) : Prop := ∀ c nt fr u b st out st', exec T n (.dcode c nt fr u b) st = some (out, st') → rfOk c → ∀ (ι : Ren) (w : World) (a : Act) (c0 : Frame) (cs0 : List Frame) (m : FrameMode),
  Abs T st → Inv T.n0 base ι st.see w → E w → Fresh ι st st' → FrR ι nt fr a → MoD ι u b m →
  ∀ Q : Exit → Act → List Frame → World → Prop, (∀ e a' w' ι' m', Stp T base st st' ι ι' w w' → DxR ι' nt u out e a' m' → Q e a' ({ c0 with mode := m' } :: cs0) w') → c.wpS P Q a ({ c0 with mode := m } :: cs0) w
end

section
variable {P : Program} {T : Tb} {base : Nat} {E : World → Prop} (X : Ctx P T base E) (hO : OrcA T) (hC : OrcOk P T base E)
include X hO hC

omit X hO hC in
/-- An operation that is no recover, in a deferred call. -/
theorem opsS_cons {ops : Array Oper} {Q : Exit → Act → List Frame → World → Prop} {i : Nat} {rest : List Nat} {a : Act} {cs : List Frame} {w : World} {o : Oper} (ho : ops[i]? = some o)
    (h : if Region.wanted o (yielded ops a.tmps) then Good (fun _ _ _ => none) P (fun a' w' => wpOpsS P ops Q rest a' cs w') (fun e a' w' => Q e a' cs w') o.dst a ((execOp a.eval o).run P w) else wpOpsS P ops Q rest (a.put o.dst undef) cs w) :
    wpOpsS P ops Q (i :: rest) a cs w := by
  unfold wpOpsS
  rw [ho]
  simp only
  by_cases hw : Region.wanted o (yielded ops a.tmps) = true
  · rw [if_pos hw] at h ⊢
    have h := Good.wp h
    unfold Oper.wp at h
    generalize (execOp a.eval o).run P w = r at h
    cases r with
    | ok nx w' =>
      cases nx <;> first | exact h.elim | exact h
    | halt x w' => exact h
  · rw [if_neg hw] at h ⊢
    exact h

theorem opsD_ok {call : Nat → List Value → St → Option (Out × St)} (hcall : CallOk P T base E call) (hac : ACall T call) {ops : Array Oper} {nt : Nat} {u : Option Value} {c0 : Frame} {cs0 : List Frame} : ∀ {l : List Oper} {k : Nat}, ops.toList.drop k = l →
    ∀ {fr fr' : Fr} {b b' : Bool} {st st' : St}, runOpsD T call ops.toList nt u l fr b st = some ((fr', b'), st') →
    ∀ {ι : Ren} {w : World} {a : Act} {m : FrameMode}, Abs T st → Inv T.n0 base ι st.see w → E w → Fresh ι st st' → FrR ι nt fr a → MoD ι u b m → ∀ {Q : Exit → Act → List Frame → World → Prop},
    (∀ ι' a' w' m', Stp T base st st' ι ι' w w' → FrR ι' nt fr' a' → MoD ι' u b' m' → Q .normal a' ({ c0 with mode := m' } :: cs0) w') →
    wpOpsS P ops Q (List.range' k l.length) a ({ c0 with mode := m } :: cs0) w
  | [], k, hk, fr, fr', b, b', st, st', h, ι, w, a, m, ha, hi, hE, hf, hr, hm, Q, hK => by
    cases h
    show Q .normal a _ w
    exact hK ι a w m (.refl ha hi) hr hm
  | o :: r, k, hk, fr, fr', b, b', st, st', h, ι, w, a, m, ha, hi, hE, hf, hr, hm, Q, hK => by
    have ho : ops[k]? = some o := by
      rw [← Array.getElem?_toList, ← Nat.add_zero k, ← List.getElem?_drop, hk]; rfl
    have hk' : ops.toList.drop (k + 1) = r := by
      rw [← List.drop_drop, hk]; rfl
    rw [List.length_cons, List.range'_succ]
    unfold runOpsD at h
    split at h
    · rename_i hrec hwant
      have hwt := wanted_ok hr.t hwant
      -- recover
      have hop : (execOp a.eval o).run P w = .ok .recover w := by
        obtain ⟨dst, op, ty, pos, after, guard⟩ := o
        simp only [isRecover] at hrec
        split at hrec
        · rename_i c
          unfold execOp
          simp [resolve]
          rfl
        · cases hrec
      split at h
      · rename_i fr1 p1 st1 hp
        obtain ⟨t1, ht1, hg⟩ := putF_inv hp
        cases hg
        have fin : ∀ {x x' : Value} {m' : FrameMode}, putT nt fr.t o.dst x = some t1 → Rv ι x x' → MoD ι u true m' → wpOpsS P ops Q (List.range' (k + 1) r.length) (a.put o.dst x') ({ c0 with mode := m' } :: cs0) w := fun hx hrv hm' =>
          opsD_ok hcall hac hk' h ha hi hE hf (put_ok hr hrv hx) hm' hK
        unfold wpOpsS
        rw [ho]
        simp only
        rw [hwt, if_pos rfl, hop]
        simp only
        cases u with
        | none =>
          have hm : m = .returning := hm
          subst hm
          exact fin ht1 .nili rfl
        | some v =>
          obtain ⟨v', hv, rfl⟩ := hm
          cases b with
          | true => exact fin ht1 .nili ⟨v', hv, rfl⟩
          | false => exact fin ht1 hv ⟨v', hv, rfl⟩
      · cases h
    · split at h
      · rename_i fr1 st1 ho1
        have a1 : AStp T st st1 := a_runOp a_none ha ho1
        have a2 : AStp T st1 st' := a_runOpsD hac a1.abs h
        refine opsS_cons ho ?_
        refine op_ok X (fun f args st out st' h => by cases h) ho1 ha hi hE (hf.left a2.next) hr ?_ (fun v hv => by cases hv)
        intro _ ι' a' w' hs hr'
        refine opsD_ok hcall hac hk' h hs.abs hs.inv (X.keepS hs hi.size hE) (hf.right hs) hr' (hm.mono hs.le) ?_
        exact fun ι2 a2 w2 m2 hs2 hr2 hm2 => hK ι2 a2 w2 m2 (hs.trans hs2 ha hf) hr2 hm2
      · cases h

omit X hO hC in
theorem dxr_then {ι : Ren} {nt : Nat} {u : Option Value} {out : Out} {e : Exit} {a : Act} {m : FrameMode} {cs : List Frame} {w : World} {K : Act → List Frame → World → Prop} {Q : Exit → Act → List Frame → World → Prop} (h : DxR ι nt u out e a m) (hn : ∀ fr b, out ≠ .dnorm fr b) (hq : Q e a cs w) : Exit.thenS K Q e a cs w := by
  cases out <;> cases e <;> first | exact h.elim | exact hq | exact absurd rfl (hn _ _)

theorem dcode_step {n : Nat} (hcode : CodeOk P T base E n) (hdc : DCodeOk P T base E n) (hcall : CallOk P T base E (fun f args st => exec T n (.call f args) st)) : DCodeOk P T base E (n + 1) := by
  intro c nt fr u b st out st' h hrf ι w a c0 cs0 m ha hi hE hf hr hm Q hQ
  have hac : ACall T (fun f args st => exec T n (.call f args) st) := fun f args st out st' h ha => a_exec T hO _ _ _ _ _ h ha
  have other : ∀ c', (match exec T n (.code c' nt fr) st with
      | some (.norm fr, st) => some (Out.dnorm fr b, st)
      | some (.ret fr, st) => some (.dret fr b, st)
      | some (.exit k fr, st) => some (.dexit k fr b, st)
      | _ => none) = some (out, st') → rfOk c' → c'.wpS P Q a ({ c0 with mode := m } :: cs0) w := by
    intro c' h hrf
    refine wpS_of_wp ((wpIn_wide (n := 0)).1 ?_)
    split at h
    · rename_i hx
      cases h
      refine hcode none _ _ _ _ _ _ hx hrf (.inl rfl) ι w a ha hi hE hf hr _ ?_
      intro e a' w' ι' s he
      cases e <;> first | exact he.elim | exact hQ _ a' w' ι' m s ⟨he, hm.mono s.le⟩
    · rename_i hx
      cases h
      refine hcode none _ _ _ _ _ _ hx hrf (.inl rfl) ι w a ha hi hE hf hr _ ?_
      intro e a' w' ι' s he
      cases e <;> first | exact he.elim | exact hQ _ a' w' ι' m s ⟨he, hm.mono s.le⟩
    · rename_i hx
      cases h
      refine hcode none _ _ _ _ _ _ hx hrf (.inl rfl) ι w a ha hi hE hf hr _ ?_
      intro e a' w' ι' s he
      cases e <;> first | exact he.elim | exact hQ _ a' w' ι' m s ⟨he.1, he.2, hm.mono s.le⟩
    · cases h
  unfold exec at h
  cases c <;> simp only at h <;> (try exact other _ h hrf)
  case skip => cases h; exact wpS_of_wp (wp_skip (hQ _ a w ι m (.refl ha hi) ⟨hr, hm⟩))
  case exit id => cases h; exact wpS_of_wp (wp_exit (hQ _ a w ι m (.refl ha hi) ⟨rfl, hr, hm⟩))
  case ret => cases h; exact wpS_of_wp (wp_ret (hQ _ a w ι m (.refl ha hi) ⟨hr, hm⟩))
  case region id ops d =>
    cases d with
    | true => exact other _ h hrf
    | false =>
      simp only at h
      have hl : ops.size = ops.toList.length := by simp
      cases hrc : hasRecover ops.toList with
      | true =>
        rw [hrc] at h
        simp only [cond_true] at h
        split at h
        · rename_i hx
          cases h
          refine wpS_region ?_
          rw [List.range_eq_range', hl]
          exact opsD_ok X hO hC hcall hac rfl hx ha hi hE hf hr hm fun ι' a' w' m' s hr' hm' => hQ _ a' w' ι' m' s ⟨hr', hm'⟩
        · cases h
      | false =>
        rw [hrc] at h
        simp only [cond_false] at h
        split at h
        · rename_i hx
          cases h
          refine wpS_of_wp ((wpIn_wide (n := 0)).1 (wpIn_region ?_))
          rw [List.range_eq_range', hl]
          exact ops_ok (ro := none) X hcall hac (k := 0) (List.drop_zero) hx (fun _ _ => .inl rfl) ha hi hE hf hr (fun _ ι' a' w' s hr' => hQ _ a' w' ι' m s ⟨hr', hm.mono s.le⟩) (fun v hv => by cases hv)
        · cases h
  case seq x y =>
    obtain ⟨rf1, rf2⟩ := (hrf : rfOk x ∧ rfOk y)
    refine wpS_seq ?_
    split at h
    · rename_i fr1 b1 st1 hx
      have a1 := a_exec T hO _ _ _ _ _ hx ha
      have a2 := a_exec T hO _ _ _ _ _ h a1.abs
      refine hdc _ _ _ _ _ _ _ _ hx rf1 ι w a c0 cs0 m ha hi hE (hf.left a2.next) hr hm _ ?_
      intro e a' w' ι' m' s he
      cases e with
      | normal =>
        refine hdc _ _ _ _ _ _ _ _ h rf2 ι' w' a' c0 cs0 m' s.abs s.inv (X.keepS s hi.size hE) (hf.right s) he.1 he.2 _ ?_
        exact fun e2 a2 w2 ι2 m2 s2 he2 => hQ e2 a2 w2 ι2 m2 (s.trans s2 ha hf) he2
      | _ => exact he.elim
    · rename_i hne
      refine hdc _ _ _ _ _ _ _ _ h rf1 ι w a c0 cs0 m ha hi hE hf hr hm _ ?_
      intro e a' w' ι' m' s he
      exact dxr_then he (fun fr b e => hne fr b st' (by rw [← e]; exact h)) (hQ e a' w' ι' m' s he)
  case cond c x y =>
    obtain ⟨rf1, rf2⟩ := (hrf : rfOk x ∧ rfOk y)
    have hev : ∀ b, operand T.n0 fr.t c = some (.bool b) → a.eval c = .bool b := by
      intro b hb
      have := operand_ok hi hr.t hb
      generalize a.eval c = x at this
      cases this; rfl
    split at h
    · rename_i hb
      exact wpS_cond (hev _ hb) (hdc _ _ _ _ _ _ _ _ h rf1 ι w a c0 cs0 m ha hi hE hf hr hm _ hQ)
    · rename_i hb
      exact wpS_cond (hev _ hb) (hdc _ _ _ _ _ _ _ _ h rf2 ι w a c0 cs0 m ha hi hE hf hr hm _ hQ)
    · cases h
  case block id x =>
    have rf1 : rfOk x := hrf
    refine wpS_block ?_
    split at h
    · rename_i k fr1 b1 st1 hx
      have hf1 : st1 = st' := by split at h <;> cases h <;> rfl
      subst hf1
      refine hdc _ _ _ _ _ _ _ _ hx rf1 ι w a c0 cs0 m ha hi hE hf hr hm _ ?_
      intro e a' w' ι' m' s he
      cases e with
      | exit j =>
        obtain ⟨rfl, he⟩ := he
        simp only [Exit.inBlockS]
        by_cases e : k = id
        · rw [if_pos e] at h; cases h
          simp only [e, if_true, ite_true]
          first | exact hQ _ a' w' ι' m' s he | simpa using hQ _ a' w' ι' m' s he
        · rw [if_neg e] at h; cases h
          simp only [e, if_false, ite_false]
          exact hQ _ a' w' ι' m' s ⟨rfl, he⟩
      | _ => exact he.elim
    · rename_i hne
      refine hdc _ _ _ _ _ _ _ _ h rf1 ι w a c0 cs0 m ha hi hE hf hr hm _ ?_
      intro e a' w' ι' m' s he
      cases e with
      | exit j =>
        cases out <;> first | exact he.elim | skip
        exact absurd h (hne _ _ _ _)
      | _ => exact hQ _ a' w' ι' m' s he

theorem dcall_step {n : Nat} (hdc : DCodeOk P T base E n) : DCallOk P T base E (n + 1) := by
  intro f args u st out st' h ι w args' m ha hi hE hf hr hm
  unfold exec at h
  split at h
  · rename_i fn hfn
    split at h
    · rename_i c hc
      cases hle : Nat.ble args.length fn.ntmps with
      | false => rw [hle] at h; cases h
      | true =>
        rw [hle] at h
        simp only [cond_true] at h
        have hfr := init_fr hr (Nat.le_of_ble_eq_true hle)
        refine callsD_of_wpS (X.tb.fn f fn hfn) hc fun c0 cs0 hmode => ?_
        have e0 : c0 = { c0 with mode := m } := by rw [← hmode]
        have fin : ∀ {fr : Fr} {b : Bool} {a' : Act} {w' : World} {ι' : Ren} {m' : FrameMode}, (match fr.ds, fn.results.toList with | [], [] => some (Out.dnorm fr b, st') | _, _ => none) = some (out, st') →
            Stp T base st st' ι ι' w w' → FrR ι' fn.ntmps fr a' → MoD ι' u b m' →
            a'.defers = [] ∧ ∃ u', ({ c0 with mode := m' } :: cs0 : List Frame) = { c0 with mode := u' } :: cs0 ∧ ∃ v, (results fn a'.tmps).run P w' = .ok v w' ∧
              ∃ ι' fr b v', Stp T base st st' ι ι' w w' ∧ out = .dnorm fr b ∧ (Ending.returned v) = .returned v' ∧ MoR ι' (cond b none u) (settle u') := by
          intro fr b a' w' ι' m' h s h1 h2
          split at h
          · rename_i hds hrs
            cases h
            have hd := h1.ds
            rw [hds] at hd
            have hres : fn.results = #[] := by
              cases hr : fn.results with
              | mk l => rw [hr] at hrs; simp only at hrs; rw [hrs]
            refine ⟨hd.nil_inv, m', rfl, .tuple #[], ?_, ι', fr, b, _, s, rfl, rfl, h2.settle⟩
            simp [results, hres]
          · cases h
        rw [e0]
        split at h
        · rename_i fr b st1 hx
          have hf1 : st1 = st' := by split at h <;> cases h <;> rfl
          subst hf1
          refine hdc _ _ _ _ _ _ _ _ hx (X.rf f fn c hfn hc) ι w _ c0 cs0 m ha hi hE hf hfr hm.mod _ ?_
          intro e a' w' ι' m' s he
          cases e <;> first | exact he.elim | exact fin h s he.1 he.2
        · rename_i fr b st1 hx
          have hf1 : st1 = st' := by split at h <;> cases h <;> rfl
          subst hf1
          refine hdc _ _ _ _ _ _ _ _ hx (X.rf f fn c hfn hc) ι w _ c0 cs0 m ha hi hE hf hfr hm.mod _ ?_
          intro e a' w' ι' m' s he
          cases e <;> first | exact he.elim | exact fin h s he.1 he.2
        · cases h
    · cases h
  · cases h

/-- All that the evaluator answers is what the program does. -/
structure Sound (P : Program) (T : Tb) (base : Nat) (E : World → Prop) (n : Nat) : Prop where
  code : CodeOk P T base E n
  call : CallOk P T base E (fun f args st => exec T n (.call f args) st)
  dcode : DCodeOk P T base E n
  dcall : DCallOk P T base E n

theorem sound (hmix : P.follows .mixedOrders = true) : ∀ n, Sound P T base E n := by
  intro n
  induction n using Nat.strongRecOn with
  | _ n ih =>
    cases n with
    | zero =>
      refine ⟨?_, ?_, ?_, ?_⟩
      · intro ro c nt fr st out st' h; unfold exec at h; cases h
      · intro f args st out st' h; simp only at h; unfold exec at h; cases h
      · intro c nt fr u b st out st' h; unfold exec at h; cases h
      · intro f args u st out st' h; unfold exec at h; cases h
    | succ n =>
      have s := ih n (Nat.lt_succ_self n)
      exact ⟨code_step X hO hC hmix (fun k hk => (ih k (Nat.lt_succ_of_le hk)).code) s.call, call_step X hO hC s.code s.dcall, dcode_step X hO hC s.code s.dcode s.call, dcall_step X hO hC s.dcode⟩

end
end Go.Proofs.YthdnpikgnmdnnaaGreatDoor.Ev

namespace Go.Proofs.YthdnpikgnmdnnaaGreatDoor.Ev
set_option linter.unusedSimpArgs false
set_option linter.unusedVariables false
set_option linter.unusedSectionVars false
variable [Tok]
open Go.RowKit
set_option linter.unusedSectionVars false

/-! Whole calls -/

/-- The first renaming: the variables of the program lie where they lie. -/
noncomputable def iota0 (n0 : Nat) : Ren := fun g => if g < n0 then some (g, 0) else none

theorem inv0 {T : Tb} {w : World} (n : Nat) (_hn : T.n0 ≤ w.heap.size) : Inv T.n0 w.heap.size (iota0 T.n0) (st0 n).see w where
  ob := fun id en h => by
    have h := see_get h
    cases h
  fam := fun i j ei ej c s s' h => by
    have h := see_get h
    cases h
  sep := fun id c s hn h => by
    unfold iota0 at h
    rw [if_neg (by omega)] at h; cases h
  glob := fun g hg => ⟨0, by unfold iota0; rw [if_pos hg]⟩
  size := Nat.le_refl _

theorem abs0 {T : Tb} : Abs T (st0 T.n0) where
  lt := fun id en h => by cases h
  own := fun id en h => by cases h
  sole := fun id en h => by cases h
  mem := fun f l h => by cases h
  famlt := fun id en h => by cases h
  msk := fun id h => rfl
  n0 := Nat.le_refl _
  wl := fun b h => by cases h

/-- What a call with plain arguments answers. -/
theorem call_run {P : Program} {T : Tb} {w : World} {E : World → Prop} (X : Ctx P T w.heap.size E) (hO : OrcA T) (hC : OrcOk P T w.heap.size E) (hE : E w) (hn : T.n0 ≤ w.heap.size) {n f : Nat} {args : List Value} {v : Value} {st' : St}
    (h : exec T n (.call f args) (st0 T.n0) = some (.val v, st')) (ha : args.all (closedV 40) = true) (hu : f < UNK) :
    Calls P f args.toArray w fun e w' => ∃ v' ι', e = .returned v' ∧ Rv ι' v v' ∧ Below w.heap.size w w' := by
  have s := (sound X hO hC X.tb.mixed n).call f args (st0 T.n0) _ st' h (iota0 T.n0) w args.toArray abs0 (inv0 _ hn) hE
  have hf : Fresh (iota0 T.n0) (st0 T.n0) st' := fun id h1 _ => by
    have h1 : T.n0 ≤ id := h1
    unfold iota0
    rw [if_neg (by omega)]
  refine ((s hf ⟨rfl, fun i x y hx hy => ?_⟩).1 hu).mono ?_
  · have e : y = x := by
      rw [List.toList_toArray, hx] at hy; cases hy; rfl
    subst e
    exact rv_closed _ 40 _ (all_get ha i _ hx)
  · rintro e w' ⟨ι', s, he⟩
    cases e with
    | returned v' => exact ⟨v', ι', rfl, he, s.below (Nat.le_refl _)⟩
    | panicked ch => exact he.elim
    | outgrown => exact he.elim

/-- A call that answers true. -/
theorem call_true {P : Program} {T : Tb} {w : World} {E : World → Prop} (X : Ctx P T w.heap.size E) (hO : OrcA T) (hC : OrcOk P T w.heap.size E) (hE : E w) (hn : T.n0 ≤ w.heap.size) {n f : Nat}
    (h : (match exec T n (.call f []) (st0 T.n0) with | some (.val (.bool b), _) => b | _ => false) = true) (hu : f < UNK) :
    Calls P f #[] w fun e w' => e = .returned (.bool true) ∧ Below w.heap.size w w' := by
  split at h
  · rename_i b st' hx
    subst h
    refine (call_run X hO hC hE hn hx rfl hu).mono ?_
    rintro e w' ⟨v', ι', rfl, hv, hb⟩
    cases hv
    exact ⟨rfl, hb⟩
  · cases h

/-- The program's tables. -/
theorem tb_ok {P : Program} {exts : Tr Ext} {prims : Tr Prim} {cmp : Tr Unit} (hmix : P.follows .mixedOrders = true) (hng : (P.funcs.toList.all fun fn => !(fn.name == "runtime.NumGoroutine")) = true) : TbOk P (tables P exts prims cmp) where
  ty := fun t i h => by
    have h : (Tr.ofList P.types.toList 0 .nil).get t = some i := h
    rw [Tr.get_ofList] at h
    by_cases e : 0 ≤ t ∧ t < 0 + P.types.toList.length
    · rw [if_pos e] at h
      rw [Nat.sub_zero, Array.getElem?_toList] at h
      have hlt : t < P.types.size := by simpa using e.2
      have e2 : P.info? t = P.types[t]? := by unfold Tables.info?; rw [if_pos hlt]
      rw [e2]; exact h
    · rw [if_neg e] at h; cases h
  fn := fun f fn h => by
    have h : (Tr.ofList P.funcs.toList 0 .nil).get f = some fn := h
    rw [Tr.get_ofList] at h
    by_cases e : 0 ≤ f ∧ f < 0 + P.funcs.toList.length
    · rw [if_pos e] at h
      rw [Nat.sub_zero, Array.getElem?_toList] at h
      exact h
    · rw [if_neg e] at h; cases h
  ng := fun f fn h => by
    have h : (Tr.ofList P.funcs.toList 0 .nil).get f = some fn := h
    rw [Tr.get_ofList] at h
    by_cases e : 0 ≤ f ∧ f < 0 + P.funcs.toList.length
    · rw [if_pos e] at h
      have := List.all_eq_true.1 hng fn (List.mem_of_getElem? h)
      simpa using this
    · rw [if_neg e] at h; cases h
  mixed := hmix

end Go.Proofs.YthdnpikgnmdnnaaGreatDoor.Ev
