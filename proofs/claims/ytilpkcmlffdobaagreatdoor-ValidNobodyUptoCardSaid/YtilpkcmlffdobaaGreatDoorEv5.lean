/- An evaluator of calls over abstract memory, and that what it answers is what a call answers. Part 5. -/
import Derived.Test.YtilpkcmlffdobaaGreatDoorEv4
namespace Go.Proofs.YtilpkcmlffdobaaGreatDoor.Ev
set_option linter.unusedSimpArgs false
set_option linter.unusedVariables false
set_option linter.unusedSectionVars false
variable [Tok]
open Go.RowKit
set_option linter.unusedSectionVars false

/-! errors.As; a start with variables; entries one behind the other -/

/-- More memory, nothing else turned. -/
theorem Stp.grow {T : Tb} {base : Nat} {st : St} {ι : Ren} {w w' : World} (ha : Abs T st) (hi : Inv T.n0 base ι st.see w) (hb : Below w.heap.size w w') : Stp T base st st ι ι w w' where
  abs := ha
  inv := ⟨fun id en hv => let ⟨c, sz, a, b⟩ := hi.ob id en hv; ⟨c, sz, a, b.world (hb.block c b.lt)⟩, hi.fam, hi.sep, hi.glob, Nat.le_trans hi.size hb.size⟩
  le := ι.le_refl
  dom := fun id h => absurd rfl h
  next := Nat.le_refl _
  msk := rfl
  mem := fun _ _ h => h
  wl := fun _ h => h
  old := fun id _ h => absurd rfl h
  hid := fun _ _ => rfl
  fam := fun id en en' a b => by rw [a] at b; cases b; rfl
  gone := fun id _ h => h
  newfam := fun id en a b => absurd (ha.lt id en b) (by omega)
  newid := fun id c z _ a b => by rw [a] at b; cases b
  frame := fun c hc _ => hb.block c hc
  os := hb.os
  tape := hb.tape
  output := hb.output
  size := hb.size

noncomputable def asM (n0 f te tt : Nat) (g : Nat) (args : List Value) (st : St) : Option (Value × St) := cond (Nat.beq g f) (asA n0 te tt args st) none

theorem asM_inv {n0 f te tt g : Nat} {args : List Value} {st st' : St} {out : Out} (h : moreC (asM n0 f te tt) g args st = some (out, st')) : g = f ∧
    ((∃ a, args = [.nilIface, .iface tt (.pointer (some a))] ∧ out = .val (.bool false) ∧ st' = st) ∨
     (∃ p a, args = [.iface te (.pointer (some p)), .iface tt (.pointer (some a))] ∧ out = .val (.bool true) ∧ St.store n0 st a.block a.off [.pointer (some p)] = some st')) := by
  unfold moreC asM at h
  cases hb : Nat.beq g f with
  | false => rw [hb] at h; cases h
  | true =>
    refine ⟨Nat.eq_of_beq_eq_true hb, ?_⟩
    rw [hb, cond_true] at h
    unfold asA at h
    split at h
    · rename_i v s hv
      cases h
      split at hv
      · rename_i t a
        cases ht : Nat.beq t tt with
        | false => rw [ht] at hv; cases hv
        | true =>
          rw [ht, cond_true] at hv
          cases hv
          rw [Nat.eq_of_beq_eq_true ht]
          exact .inl ⟨a, rfl, rfl, rfl⟩
      · rename_i e p t a
        cases ht : (Nat.beq e te && Nat.beq t tt) with
        | false => rw [ht] at hv; cases hv
        | true =>
          rw [ht, cond_true] at hv
          rw [Bool.and_eq_true] at ht
          rw [Nat.eq_of_beq_eq_true ht.1, Nat.eq_of_beq_eq_true ht.2]
          split at hv
          · rename_i s' hs
            cases hv
            exact .inr ⟨p, a, rfl, rfl, hs⟩
          · cases hv
      · cases hv
    · cases h

theorem as_a {T : Tb} (f te tt : Nat) : ACall T (moreC (asM T.n0 f te tt)) := by
  intro g args st out st' h ha
  obtain ⟨_, ⟨a, _, _, rfl⟩ | ⟨p, a, _, _, hs⟩⟩ := asM_inv h
  · exact .refl ha
  · exact astore ha hs

theorem rv_ptr {ι : Ren} {a : Addr} {v : Value} (h : Rv ι (.pointer (some a)) v) : ∃ b o c sz, a = ⟨b, o, none⟩ ∧ v = .pointer (some ⟨c, o, none⟩) ∧ ι b = some (c, sz) := by
  cases h with
  | ptr h => exact ⟨_, _, _, _, rfl, rfl, h⟩
theorem as_c {P : Program} {T : Tb} {base : Nat} {E : World → Prop} {f te tt : Nat}
    (hNil : ∀ (t : Addr) w, E w → Calls P f #[.nilIface, .iface tt (.pointer (some t))] w fun e w' => e = .returned (.bool false) ∧ Below w.heap.size w w')
    (hHit : ∀ (p t : Addr) old w, E w → w.cell? t = some old → w.frozen? t = false → Calls P f #[.iface te (.pointer (some p)), .iface tt (.pointer (some t))] w fun e w' => e = .returned (.bool true) ∧ ∃ w1, Below w.heap.size w w1 ∧ w' = w1.setCell t (.pointer (some p))) :
    CallOk1 P T base E (moreC (asM T.n0 f te tt)) := by
  intro g args st out st' h ι w args' ha hi hE hf hr
  obtain ⟨rfl, ⟨a, rfl, rfl, rfl⟩ | ⟨p, a, rfl, rfl, hs⟩⟩ := asM_inv h
  · obtain ⟨x, r, hx, h1, hr⟩ := hr.cons_inv
    obtain ⟨y, r', rfl, h2, hr⟩ := hr.cons_inv
    have := hr.nil_inv
    subst this
    cases h1
    cases h2 with
    | iface h2 =>
      obtain ⟨b, o, c, sz, rfl, rfl, h3⟩ := rv_ptr h2
      · have e : args' = #[.nilIface, .iface tt (.pointer (some ⟨c, o, none⟩))] := by rw [← Array.toList_inj]; exact hx
        rw [e]
        refine (hNil _ w hE).mono ?_
        rintro r w' ⟨rfl, hb⟩
        exact ⟨ι, .grow ha hi hb, .bool false⟩
  · obtain ⟨x, r, hx, h1, hr⟩ := hr.cons_inv
    obtain ⟨y, r', rfl, h2, hr⟩ := hr.cons_inv
    have := hr.nil_inv
    subst this
    cases h1 with
    | iface h1 =>
      cases h2 with
      | iface h2 =>
        obtain ⟨b, o, c, sz, rfl, rfl, h3⟩ := rv_ptr h2
        · obtain ⟨b2, o2, c2, sz2, rfl, rfl, h4⟩ := rv_ptr h1
          · have e : args' = #[.iface te (.pointer (some ⟨c2, o2, none⟩)), .iface tt (.pointer (some ⟨c, o, none⟩))] := by rw [← Array.toList_inj]; exact hx
            rw [e]
            have hv : All2 (Rv ι) [.pointer (some ⟨b2, o2, none⟩)] [.pointer (some ⟨c2, o2, none⟩)] := ⟨rfl, fun i x y hx hy => by
              cases i with
              | zero => cases hx; cases hy; exact .ptr h4
              | succ i => cases hx⟩
            obtain ⟨_, k1, k2, _, hnx⟩ := store_ok ha hi hs h3 hv
            have k1 := k1 0 (by simp)
            have k2 := k2 0 (by simp)
            obtain ⟨old, hold⟩ := Option.isSome_iff_exists.1 k1
            refine (hHit _ _ old w hE hold k2).mono ?_
            rintro r w' ⟨rfl, w1, hb, rfl⟩
            have g := Stp.grow (base := base) ha hi hb
            obtain ⟨s1, _⟩ := store_ok ha g.inv hs h3 hv
            exact ⟨ι, g.trans s1 ha (fun id h1 h2 => by omega), .bool true⟩

/-! errors.As at a target of a type of one whole number -/
noncomputable def asVM (n0 f te tt : Nat) (g : Nat) (args : List Value) (st : St) : Option (Value × St) := cond (Nat.beq g f) (asV n0 te tt args st) none

theorem asVM_inv {n0 f te tt g : Nat} {args : List Value} {st st' : St} {out : Out} (h : moreC (asVM n0 f te tt) g args st = some (out, st')) : g = f ∧
    ((∃ a, args = [.nilIface, .iface tt (.pointer (some a))] ∧ out = .val (.bool false) ∧ st' = st) ∨
     (∃ k n a, args = [.iface te (.int k n), .iface tt (.pointer (some a))] ∧ out = .val (.bool true) ∧ St.store n0 st a.block a.off [.int k n] = some st')) := by
  unfold moreC asVM at h
  cases hb : Nat.beq g f with
  | false => rw [hb] at h; cases h
  | true =>
    refine ⟨Nat.eq_of_beq_eq_true hb, ?_⟩
    rw [hb, cond_true] at h
    unfold asV at h
    split at h
    · rename_i v s hv
      cases h
      split at hv
      · rename_i t a
        cases ht : Nat.beq t tt with
        | false => rw [ht] at hv; cases hv
        | true =>
          rw [ht, cond_true] at hv
          cases hv
          rw [Nat.eq_of_beq_eq_true ht]
          exact .inl ⟨a, rfl, rfl, rfl⟩
      · rename_i e k n t a
        cases ht : (Nat.beq e te && Nat.beq t tt) with
        | false => rw [ht] at hv; cases hv
        | true =>
          rw [ht, cond_true] at hv
          rw [Bool.and_eq_true] at ht
          rw [Nat.eq_of_beq_eq_true ht.1, Nat.eq_of_beq_eq_true ht.2]
          split at hv
          · rename_i s' hs
            cases hv
            exact .inr ⟨k, n, a, rfl, rfl, hs⟩
          · cases hv
      · cases hv
    · cases h

theorem as_va {T : Tb} (f te tt : Nat) : ACall T (moreC (asVM T.n0 f te tt)) := by
  intro g args st out st' h ha
  obtain ⟨_, ⟨a, _, _, rfl⟩ | ⟨k, n, a, _, _, hs⟩⟩ := asVM_inv h
  · exact .refl ha
  · exact astore ha hs

theorem as_vc {P : Program} {T : Tb} {base : Nat} {E : World → Prop} {f te tt : Nat}
    (hNil : ∀ (t : Addr) w, E w → Calls P f #[.nilIface, .iface tt (.pointer (some t))] w fun e w' => e = .returned (.bool false) ∧ Below w.heap.size w w')
    (hHit : ∀ (k : IntKind) (n : Int) (t : Addr) old w, E w → w.cell? t = some old → w.frozen? t = false → Calls P f #[.iface te (.int k n), .iface tt (.pointer (some t))] w fun e w' => e = .returned (.bool true) ∧ ∃ w1, Below w.heap.size w w1 ∧ w' = w1.setCell t (.int k n)) :
    CallOk1 P T base E (moreC (asVM T.n0 f te tt)) := by
  intro g args st out st' h ι w args' ha hi hE hf hr
  obtain ⟨rfl, ⟨a, rfl, rfl, rfl⟩ | ⟨k, n, a, rfl, rfl, hs⟩⟩ := asVM_inv h
  · obtain ⟨x, r, hx, h1, hr⟩ := hr.cons_inv
    obtain ⟨y, r', rfl, h2, hr⟩ := hr.cons_inv
    have := hr.nil_inv
    subst this
    cases h1
    cases h2 with
    | iface h2 =>
      obtain ⟨b, o, c, sz, rfl, rfl, h3⟩ := rv_ptr h2
      · have e : args' = #[.nilIface, .iface tt (.pointer (some ⟨c, o, none⟩))] := by rw [← Array.toList_inj]; exact hx
        rw [e]
        refine (hNil _ w hE).mono ?_
        rintro r w' ⟨rfl, hb⟩
        exact ⟨ι, .grow ha hi hb, .bool false⟩
  · obtain ⟨x, r, hx, h1, hr⟩ := hr.cons_inv
    obtain ⟨y, r', rfl, h2, hr⟩ := hr.cons_inv
    have := hr.nil_inv
    subst this
    cases h1 with
    | iface h1 =>
      cases h2 with
      | iface h2 =>
        obtain ⟨b, o, c, sz, rfl, rfl, h3⟩ := rv_ptr h2
        cases h1
        have e : args' = #[.iface te (.int k n), .iface tt (.pointer (some ⟨c, o, none⟩))] := by rw [← Array.toList_inj]; exact hx
        rw [e]
        have hv : All2 (Rv ι) [.int k n] [.int k n] := .cons (.int k n) .nil
        obtain ⟨_, k1, k2, _, hnx⟩ := store_ok ha hi hs h3 hv
        have k1 := k1 0 (by simp)
        have k2 := k2 0 (by simp)
        obtain ⟨old, hold⟩ := Option.isSome_iff_exists.1 k1
        refine (hHit _ _ _ old w hE hold k2).mono ?_
        rintro r w' ⟨rfl, w1, hb, rfl⟩
        have g := Stp.grow (base := base) ha hi hb
        obtain ⟨s1, _⟩ := store_ok ha g.inv hs h3 hv
        exact ⟨ι, g.trans s1 ha (fun id h1 h2 => by omega), .bool true⟩

/-! A call that makes a map, of which the first entries are known -/
noncomputable def mapM (f : Nat) (es : List (Value × Value)) (g : Nat) (args : List Value) (st : St) : Option (Value × St) :=
  cond (Nat.beq g f) (match args with
    | [] => some (.map (some st.next), (st.new (.pmap es)).2)
    | _ => none) none

theorem mapM_inv {f g : Nat} {es : List (Value × Value)} {args : List Value} {st st' : St} {out : Out} (h : moreC (mapM f es) g args st = some (out, st')) : g = f ∧ args = [] ∧ out = .val (.map (some st.next)) ∧ st' = (st.new (.pmap es)).2 := by
  unfold moreC mapM at h
  cases hb : Nat.beq g f with
  | false => rw [hb] at h; cases h
  | true =>
    rw [hb] at h
    cases args with
    | nil => cases h; exact ⟨Nat.eq_of_beq_eq_true hb, rfl, rfl, rfl⟩
    | cons _ _ => cases h

theorem map_a {T : Tb} (f : Nat) (es : List (Value × Value)) : ACall T (moreC (mapM f es)) := by
  intro g args st out st' h ha
  obtain ⟨_, _, _, rfl⟩ := mapM_inv h
  exact anew ha _

theorem map_c {P : Program} {T : Tb} {base : Nat} {E : World → Prop} {f : Nat} {es : List (Value × Value)} (hes : ∀ e ∈ es, closedV 40 e.1 = true ∧ closedV 40 e.2 = true)
    (hM : ∀ w, E w → Calls P f #[] w fun e w' => ∃ c arr clock l1 l2, e = .returned (.map (some c)) ∧ w.heap.size ≤ c ∧ w'.heap[c]? = some (.map arr clock) ∧ arr.toList = l1 ++ l2 ∧
      l1.map (fun m => (m.key, m.val)) = es ∧ Below w.heap.size w w') :
    CallOk1 P T base E (moreC (mapM f es)) := by
  intro g args st out st' h ι w args' ha hi hE hf hr
  obtain ⟨rfl, rfl, rfl, rfl⟩ := mapM_inv h
  have e : args' = #[] := by rw [← Array.toList_inj]; exact hr.nil_inv
  rw [e]
  refine (hM w hE).mono ?_
  rintro r w' ⟨c, arr, clock, l1, l2, rfl, hc, hobj, hl, hm, hb⟩
  have hfr : ι st.next = none := hf st.next (Nat.le_refl _) (Nat.lt_succ_self _)
  refine ⟨ι.upd st.next (c, 0), step_at ha hi _ 0 c hfr (fun k hk => hb.block k hk) hc hb.size hb.os hb.tape hb.output ⟨arr, clock, hobj, l1, l2, hl, ?_⟩, .map Ren.upd_self⟩
  refine ⟨by rw [← hm]; simp, fun i x m hx hy => ?_⟩
  rw [← hm, List.getElem?_map, hy] at hx
  cases hx
  have hmem : (m.key, m.val) ∈ es := by
    rw [← hm]; exact List.mem_map.2 ⟨m, List.mem_of_getElem? hy, rfl⟩
  obtain ⟨k1, k2⟩ := hes _ hmem
  exact ⟨rv_closed _ 40 _ k1, rv_closed _ 40 _ k2⟩

/-! Calls that answer a value whatever the world, and keep what is there -/
/-- what is answered: function, arguments, value -/
noncomputable def constM : List (Nat × (List Value × Value)) → Nat → List Value → St → Option (Value × St)
  | [], _, _, _ => none
  | (f, (vs, v)) :: r, g, args, st => cond (Nat.beq g f && beqVs args vs) (some (v, st)) (constM r g args st)

theorem constM_inv {g : Nat} {args : List Value} {st st' : St} {v : Value} : ∀ {l : List (Nat × (List Value × Value))}, constM l g args st = some (v, st') → st' = st ∧ (g, (args, v)) ∈ l
  | [], h => by cases h
  | (f, (vs, u)) :: r, h => by
    unfold constM at h
    cases hb : (Nat.beq g f && beqVs args vs) with
    | true =>
      rw [hb] at h; cases h
      rw [Bool.and_eq_true] at hb
      rw [Nat.eq_of_beq_eq_true hb.1, beqVs_eq hb.2]
      exact ⟨rfl, List.mem_cons_self⟩
    | false =>
      rw [hb] at h
      obtain ⟨h1, h2⟩ := constM_inv h
      exact ⟨h1, List.mem_cons_of_mem _ h2⟩

theorem const_inv {l : List (Nat × (List Value × Value))} {g : Nat} {args : List Value} {st st' : St} {out : Out} (h : moreC (constM l) g args st = some (out, st')) : ∃ v, out = .val v ∧ st' = st ∧ (g, (args, v)) ∈ l := by
  unfold moreC at h
  split at h
  · rename_i v s hv
    cases h
    obtain ⟨rfl, h2⟩ := constM_inv hv
    exact ⟨v, rfl, rfl, h2⟩
  · cases h

theorem const_a {T : Tb} (l : List (Nat × (List Value × Value))) : ACall T (moreC (constM l)) := by
  intro g args st out st' h ha
  obtain ⟨v, rfl, rfl, _⟩ := const_inv h
  exact .refl ha

theorem const_c {P : Program} {T : Tb} {base : Nat} {E : World → Prop} {l : List (Nat × (List Value × Value))}
    (hM : ∀ x ∈ l, ∀ (ι : Ren) w args', E w → All2 (Rv ι) x.2.1 args'.toList → Calls P x.1 args' w fun e w' => ∃ v', e = .returned v' ∧ Rv ι x.2.2 v' ∧ Below w.heap.size w w') :
    CallOk1 P T base E (moreC (constM l)) := by
  intro g args st out st' h ι w args' ha hi hE hf hr
  obtain ⟨v, rfl, rfl, hm⟩ := const_inv h
  refine (hM _ hm ι w args' hE hr).mono ?_
  rintro e w' ⟨v', rfl, hv, hb⟩
  exact ⟨ι, .grow ha hi hb, hv⟩

/-- One contract or the other. -/
noncomputable def orM (a b : Nat → List Value → St → Option (Value × St)) (g : Nat) (args : List Value) (st : St) : Option (Value × St) :=
  match a g args st with
  | some r => some r
  | none => b g args st

theorem or_inv {a b : Nat → List Value → St → Option (Value × St)} {g : Nat} {args : List Value} {st st' : St} {out : Out} (h : moreC (orM a b) g args st = some (out, st')) : moreC a g args st = some (out, st') ∨ moreC b g args st = some (out, st') := by
  unfold moreC orM at h
  cases ha : a g args st with
  | some r => left; unfold moreC; rw [ha] at h ⊢; exact h
  | none => right; unfold moreC; rw [ha] at h; exact h

theorem or_a {T : Tb} {a b : Nat → List Value → St → Option (Value × St)} (ha : ACall T (moreC a)) (hb : ACall T (moreC b)) : ACall T (moreC (orM a b)) := by
  intro g args st out st' h k
  rcases or_inv h with h | h
  · exact ha g args st out st' h k
  · exact hb g args st out st' h k

theorem or_c {P : Program} {T : Tb} {base : Nat} {E : World → Prop} {a b : Nat → List Value → St → Option (Value × St)} (ha : CallOk1 P T base E (moreC a)) (hb : CallOk1 P T base E (moreC b)) : CallOk1 P T base E (moreC (orM a b)) := by
  intro g args st out st' h
  rcases or_inv h with h | h
  · exact ha g args st out st' h
  · exact hb g args st out st' h

/-! Entries one behind the other -/
theorem Like.refl (a : St) : Like a a := ⟨fun _ => rfl, fun _ => rfl, rfl, rfl, rfl⟩
theorem EntOk.re {P : Program} {T T' : Tb} {base : Nat} {E : World → Prop} {e : Ent} (h : EntOk P T base E e) (hn : T'.n0 = T.n0) : EntOk P T' base E e where
  a := fun st k ha => (Like.refl st).astp (Like.refl _) (h.a st k ((Like.refl st).abs ha hn.symm)) hn
  c := fun st k ι w args' ha hi hE hf hr => (h.c st k ι w args' ((Like.refl st).abs ha hn.symm) (by rw [← hn]; exact hi) hE hf hr).mono fun r w' ⟨ι', s, he⟩ => ⟨ι', (Like.refl st).stp (Like.refl _) s hn, he⟩
theorem ACall.re {T T' : Tb} {call : Nat → List Value → St → Option (Out × St)} (h : ACall T call) (hn : T'.n0 = T.n0) : ACall T' call :=
  fun f args st out st' hc ha => (Like.refl st).astp (Like.refl _) (h f args st out st' hc ((Like.refl st).abs ha hn.symm)) hn
theorem CallOk1.re {P : Program} {T T' : Tb} {base : Nat} {E : World → Prop} {call : Nat → List Value → St → Option (Out × St)} (h : CallOk1 P T base E call) (hn : T'.n0 = T.n0) : CallOk1 P T' base E call :=
  fun f args st out st' hc ι w args' ha hi hE hf hr => (h f args st out st' hc ι w args' ((Like.refl st).abs ha hn.symm) (by rw [← hn]; exact hi) hE hf hr).mono fun r w' ⟨ι', s, he⟩ => ⟨ι', (Like.refl st).stp (Like.refl _) s hn, he⟩

/-- The evaluator with some entries. -/
noncomputable def withE (T : Tb) (more : Nat → List Value → St → Option (Value × St)) (es : List Ent) : Tb := { T with orc := orcE (tabOf es) more }

theorem ctx_with {P : Program} {T : Tb} {base : Nat} {E : World → Prop} (X : Ctx P T base E) (more : Nat → List Value → St → Option (Value × St)) (es : List Ent) : Ctx P (withE T more es) base E :=
  ⟨X.lp, X.rf, ⟨X.tb.ty, X.tb.fn, X.tb.ng, X.tb.mixed⟩, X.cmp, X.ext, X.prim, X.depth, X.keep, X.meth⟩

section
variable {P : Program} {T : Tb} {base : Nat} {E : World → Prop} (X : Ctx P T base E) {more : Nat → List Value → St → Option (Value × St)} (hA : ACall T (moreC more)) (hC : CallOk1 P T base E (moreC more))
include X hA hC

/-- One entry more. -/
theorem ent_next {es : List Ent} (hes : ∀ e ∈ es, EntOk P T base E e) {e : Ent} {n : Nat} (h : e.chk (exec (withE T more es) n (.call e.f e.args) e.st) = true) (hu : e.f < UNK) : EntOk P T base E e :=
  ent_ok (T := withE T more es) (T' := T) (ctx_with X more es) (orcA_of (P := P) (base := base) (E := E) rfl (fun e he => (hes e he).re rfl) (hA.re rfl)) (orcOk_of rfl (fun e he => (hes e he).re rfl) (hC.re rfl)) rfl h hu

theorem ents_next {es : List Ent} (hes : ∀ e ∈ es, EntOk P T base E e) {e : Ent} {n : Nat} (h : e.chk (exec (withE T more es) n (.call e.f e.args) e.st) = true) (hu : e.f < UNK) : ∀ x ∈ e :: es, EntOk P T base E x := by
  intro x hx
  rcases List.mem_cons.1 hx with rfl | hx
  · exact ent_next X hA hC hes h hu
  · exact hes x hx
end

/-! A start with one variable that is known -/
noncomputable def stG (n0 g el : Nat) (tab : List Value) : St := { h := Tr.set .nil g (some ⟨.cells tab el true true, g⟩), mem := .nil, next := n0, wl := [], msk := [] }
noncomputable def iotaG (n0 g sz : Nat) : Ren := fun i => if i < n0 then some (i, if i = g then sz else 0) else none

theorem stG_get {n0 g el : Nat} {tab : List Value} {id : Nat} {en : En} (h : (stG n0 g el tab).h.get id = some en) : id = g ∧ en = ⟨.cells tab el true true, g⟩ := by
  have h : (Tr.set (.nil : Tr En) g (some ⟨.cells tab el true true, g⟩)).get id = some en := h
  rw [Tr.get_set] at h
  by_cases e : id = g
  · rw [if_pos e] at h; cases h; exact ⟨e, rfl⟩
  · rw [if_neg e] at h; cases h

theorem absG {T : Tb} {g el : Nat} {tab : List Value} (hg : g < T.n0) : Abs T (stG T.n0 g el tab) where
  lt := fun id en h => by obtain ⟨rfl, _⟩ := stG_get h; exact hg
  own := fun id en h => by obtain ⟨rfl, rfl⟩ := stG_get h; exact List.mem_cons_self
  sole := fun id en h hc => by obtain ⟨rfl, rfl⟩ := stG_get h; rfl
  mem := fun f l h => by cases h
  famlt := fun id en h => by obtain ⟨rfl, rfl⟩ := stG_get h; exact hg
  msk := fun id h => rfl
  n0 := Nat.le_refl _
  wl := fun b h => by cases h

/-- What is closed stands for itself. -/
theorem rv_tab {ι : Ren} {tab : List Value} (h : tab.all (closedV 40) = true) {i : Nat} {v : Value} (hv : tab[i]? = some v) : Rv ι v v := rv_closed _ 40 _ (all_get h i _ hv)

theorem invG {T : Tb} {w : World} {g el : Nat} {tab : List Value} {arr : Array Value} {fr : Nat × Nat} (hgn : g < T.n0) (hg : w.heap[g]? = some (.cells arr el fr)) (ht : arr.toList = tab) (hfr : fr.1 ≤ fr.2) (hc : tab.all (closedV 40) = true) :
    Inv T.n0 w.heap.size (iotaG T.n0 g tab.length) (stG T.n0 g el tab).see w where
  ob := fun id en h => by
    obtain ⟨rfl, rfl⟩ := stG_get (see_get h)
    exact ⟨id, tab.length, by unfold iotaG; rw [if_pos hgn, if_pos rfl], arr, fr, hg, by rw [← Array.length_toList, ht], Nat.le_refl _, fun _ => rfl, fun i v hv => ⟨v, by rw [ht]; exact hv, rv_tab hc hv⟩, hfr, fun h => by cases h⟩
  fam := fun i j ei ej c s s' h k _ _ => by
    obtain ⟨rfl, rfl⟩ := stG_get (see_get h)
    obtain ⟨rfl, rfl⟩ := stG_get (see_get k)
    rfl
  sep := fun id c s hn h => by
    unfold iotaG at h
    rw [if_neg (by omega)] at h; cases h
  glob := fun i hi => ⟨_, by unfold iotaG; rw [if_pos hi]⟩
  size := Nat.le_refl _

/-- A call without arguments that answers true. -/
theorem heads_true {P : Program} {T : Tb} {w : World} {E : World → Prop} {e : Ent} (h : EntOk P T w.heap.size E e) (hE : E w) {ι : Ren} (ha : Abs T e.st) (hi : Inv T.n0 w.heap.size ι e.st.see w) (hf : Fresh ι e.st e.to)
    (hargs : e.args = []) (hv : e.v = .bool true) : Calls P e.f #[] w fun r w' => r = .returned (.bool true) ∧ Below w.heap.size w w' := by
  refine (h.c e.st (Like.refl _) ι w #[] ha hi hE hf (by rw [hargs]; exact ⟨rfl, fun i x y hx _ => by cases hx⟩)).mono ?_
  rintro r w' ⟨ι', s, he⟩
  rw [hv] at he
  cases r with
  | returned v => cases he; exact ⟨rfl, s.below (Nat.le_refl _)⟩
  | panicked ch => obtain ⟨_, h, _⟩ := he
  | outgrown => exact he.elim

/-- A call of an entry's function at arguments that stand for the entry's. -/
theorem ent_true {P : Program} {T : Tb} {w : World} {E : World → Prop} {e : Ent} (h : EntOk P T w.heap.size E e) (hE : E w) {ι : Ren} (ha : Abs T e.st) (hi : Inv T.n0 w.heap.size ι e.st.see w) (hf : Fresh ι e.st e.to)
    {args : Array Value} (hargs : All2 (Rv ι) e.args args.toList) (hv : e.v = .bool true) : Calls P e.f args w fun r w' => r = .returned (.bool true) ∧ Below w.heap.size w w' := by
  refine (h.c e.st (Like.refl _) ι w args ha hi hE hf hargs).mono ?_
  rintro r w' ⟨ι', s, he⟩
  rw [hv] at he
  cases r with
  | returned v => cases he; exact ⟨rfl, s.below (Nat.le_refl _)⟩
  | panicked ch => obtain ⟨_, h, _⟩ := he
  | outgrown => exact he.elim
end Go.Proofs.YtilpkcmlffdobaaGreatDoor.Ev
