/- An evaluator of calls over abstract memory, and that what it answers is what a call answers. Part 5. -/
import Derived.Test.YthdnpikgnmdnnaaGreatDoorEv4
namespace Go.Proofs.YthdnpikgnmdnnaaGreatDoor.Ev
set_option linter.unusedSimpArgs false
set_option linter.unusedVariables false
set_option linter.unusedSectionVars false
variable [Tok]
open Go.RowKit
set_option linter.unusedSectionVars false

/-! Calls taken from a table -/

theorem beqL_eq : ∀ {a b : List UInt8}, beqL a b = true → a = b
  | [], [], _ => rfl
  | [], _ :: _, h => by simp [beqL] at h
  | _ :: _, [], h => by simp [beqL] at h
  | a :: x, b :: y, h => by
    unfold beqL at h
    rw [Bool.and_eq_true] at h
    have h1 := Nat.eq_of_beq_eq_true h.1
    rw [UInt8.toNat_inj.1 h1, beqL_eq h.2]

noncomputable def beqA : Option Addr → Option Addr → Bool
  | none, none => true
  | some ⟨b, o, none⟩, some ⟨c, p, none⟩ => Nat.beq b c && Nat.beq o p
  | _, _ => false

theorem beqA_eq {a b : Option Addr} (h : beqA a b = true) : a = b := by
  unfold beqA at h
  split at h
  · rfl
  · rw [Bool.and_eq_true] at h
    rw [Nat.eq_of_beq_eq_true h.1, Nat.eq_of_beq_eq_true h.2]
  · cases h

noncomputable def beqM : Option Nat → Option Nat → Bool
  | none, none => true
  | some b, some c => Nat.beq b c
  | _, _ => false
theorem beqM_eq {a b : Option Nat} (h : beqM a b = true) : a = b := by
  unfold beqM at h
  split at h
  · rfl
  · rw [Nat.eq_of_beq_eq_true h]
  · cases h

noncomputable def beqK : IntKind → IntKind → Bool
  | .i8, .i8 | .i16, .i16 | .i32, .i32 | .i64, .i64 | .u8, .u8 | .u16, .u16 | .u32, .u32 | .u64, .u64 => true
  | _, _ => false
theorem beqK_eq {a b : IntKind} (h : beqK a b = true) : a = b := by cases a <;> cases b <;> first | rfl | cases h

noncomputable def beqI : Int → Int → Bool
  | .ofNat a, .ofNat b => Nat.beq a b
  | .negSucc a, .negSucc b => Nat.beq a b
  | _, _ => false
theorem beqI_eq {a b : Int} (h : beqI a b = true) : a = b := by
  unfold beqI at h
  split at h
  · rw [Nat.eq_of_beq_eq_true h]
  · rw [Nat.eq_of_beq_eq_true h]
  · cases h

noncomputable def beqB : Bool → Bool → Bool
  | true, true => true
  | false, false => true
  | _, _ => false
theorem beqB_eq {a b : Bool} (h : beqB a b = true) : a = b := by cases a <;> cases b <;> first | rfl | cases h

noncomputable def allV (eq : Value → Value → Bool) : List Value → List Value → Bool
  | [], [] => true
  | a :: x, b :: y => eq a b && allV eq x y
  | _, _ => false
theorem allV_eq {eq : Value → Value → Bool} (h : ∀ a b, eq a b = true → a = b) : ∀ {x y : List Value}, allV eq x y = true → x = y
  | [], [], _ => rfl
  | [], _ :: _, e => by simp [allV] at e
  | _ :: _, [], e => by simp [allV] at e
  | a :: x, b :: y, e => by
    unfold allV at e
    rw [Bool.and_eq_true] at e
    rw [h _ _ e.1, allV_eq h e.2]

noncomputable def beqV : Nat → Value → Value → Bool
  | 0, _, _ => false
  | n + 1, a, b => match a, b with
    | .bool x, .bool y => beqB x y
    | .int k x, .int j y => beqK k j && beqI x y
    | .string x, .string y => beqL x.data.toList y.data.toList
    | .pointer x, .pointer y => beqA x y
    | .slice x l c, .slice y m d => beqA x y && (Nat.beq l m && Nat.beq c d)
    | .map x, .map y => beqM x y
    | .func (.yield f) x c, .func (.yield g) y d => Nat.beq f g && (allV (beqV n) x.toList y.toList && allV (beqV n) c.toList d.toList)
    | .func (.func f) x c, .func (.func g) y d => Nat.beq f g && (allV (beqV n) x.toList y.toList && allV (beqV n) c.toList d.toList)
    | .nilFunc, .nilFunc => true
    | .float .f64 x, .float .f64 y => Nat.beq x y
    | .iface t x, .iface u y => Nat.beq t u && beqV n x y
    | .nilIface, .nilIface => true
    | .agg x, .agg y => allV (beqV n) x.toList y.toList
    | .tuple x, .tuple y => allV (beqV n) x.toList y.toList
    | _, _ => false

theorem beqV_eq : ∀ (n : Nat) (a b : Value), beqV n a b = true → a = b
  | 0, _, _, h => by cases h
  | n + 1, a, b, h => by
    have ih := beqV_eq n
    have arr : ∀ {x y : Array Value}, allV (beqV n) x.toList y.toList = true → x = y := fun e => Array.toList_inj.1 (allV_eq ih e)
    unfold beqV at h
    split at h
    · rw [beqB_eq h]
    · rw [Bool.and_eq_true] at h; rw [beqK_eq h.1, beqI_eq h.2]
    · rename_i x y
      have e := Array.toList_inj.1 (beqL_eq h)
      cases x; cases y; simp only at e; rw [e]
    · rw [beqA_eq h]
    · rw [Bool.and_eq_true, Bool.and_eq_true] at h; rw [beqA_eq h.1, Nat.eq_of_beq_eq_true h.2.1, Nat.eq_of_beq_eq_true h.2.2]
    · rw [beqM_eq h]
    · rw [Bool.and_eq_true, Bool.and_eq_true] at h; rw [Nat.eq_of_beq_eq_true h.1, arr h.2.1, arr h.2.2]
    · rw [Bool.and_eq_true, Bool.and_eq_true] at h; rw [Nat.eq_of_beq_eq_true h.1, arr h.2.1, arr h.2.2]
    · rfl
    · rw [Nat.eq_of_beq_eq_true h]
    · rw [Bool.and_eq_true] at h
      have h1 := Nat.eq_of_beq_eq_true h.1
      rw [h1, ih _ _ h.2]
    · rfl
    · rw [arr h]
    · rw [arr h]
    · cases h

noncomputable def beqVs (a b : List Value) : Bool := allV (beqV 60) a b
theorem beqVs_eq {a b : List Value} (h : beqVs a b = true) : a = b := allV_eq (beqV_eq 60) h

noncomputable def eqO {α : Type} (eq : α → α → Bool) : Option α → Option α → Bool
  | none, none => true
  | some a, some b => eq a b
  | _, _ => false
theorem eqO_eq {α : Type} {eq : α → α → Bool} (he : ∀ a b, eq a b = true → a = b) {a b : Option α} (h : eqO eq a b = true) : a = b := by
  cases a <;> cases b <;> first | rfl | cases h | skip
  rw [he _ _ h]

noncomputable def eqT {α : Type} (eq : α → α → Bool) : Tr α → Tr α → Bool
  | .nil, .nil => true
  | .node v l r, .node v' l' r' => eqO eq v v' && (eqT eq l l' && eqT eq r r')
  | _, _ => false
theorem eqT_eq {α : Type} {eq : α → α → Bool} (he : ∀ a b, eq a b = true → a = b) : ∀ {s t : Tr α}, eqT eq s t = true → s = t
  | .nil, .nil, _ => rfl
  | .node v l r, .node v' l' r', h => by
    unfold eqT at h
    rw [Bool.and_eq_true, Bool.and_eq_true] at h
    rw [eqO_eq he h.1, eqT_eq he h.2.1, eqT_eq he h.2.2]
  | .nil, .node _ _ _, h => by cases h
  | .node _ _ _, .nil, h => by cases h

noncomputable def beqE : En → En → Bool
  | ⟨.loop t nt k b, m⟩, ⟨.loop u nu j c, n⟩ => Nat.beq m n && (Nat.beq nt nu && (Nat.beq k j && (beqB b c && eqT (beqV 60) t u)))
  | ⟨.dfr, m⟩, ⟨.dfr, n⟩ => Nat.beq m n
  | ⟨.cells a t x f, m⟩, ⟨.cells b u y g, n⟩ => Nat.beq t u && (beqB x y && (beqB f g && (Nat.beq m n && beqVs a b)))
  | ⟨.map a, m⟩, ⟨.map b, n⟩ => Nat.beq m n && (beqVs (a.map (·.1)) (b.map (·.1)) && beqVs (a.map (·.2)) (b.map (·.2)))
  | ⟨.pmap a, m⟩, ⟨.pmap b, n⟩ => Nat.beq m n && (beqVs (a.map (·.1)) (b.map (·.1)) && beqVs (a.map (·.2)) (b.map (·.2)))
  | ⟨.siter s p, m⟩, ⟨.siter t q, n⟩ => Nat.beq m n && (beqL s.data.toList t.data.toList && Nat.beq p q)
  | _, _ => false

theorem pairs_eq {a b : List (Value × Value)} (h : a.map (·.1) = b.map (·.1)) (k : a.map (·.2) = b.map (·.2)) : a = b := by
  induction a generalizing b with
  | nil => cases b with
    | nil => rfl
    | cons _ _ => simp at h
  | cons x a ih => cases b with
    | nil => simp at h
    | cons y b =>
      simp only [List.map_cons, List.cons.injEq] at h k
      rw [ih h.2 k.2]
      obtain ⟨x1, x2⟩ := x
      obtain ⟨y1, y2⟩ := y
      simp only at h k
      rw [h.1, k.1]

theorem beqE_eq {a b : En} (h : beqE a b = true) : a = b := by
  unfold beqE at h
  split at h
  · simp only [Bool.and_eq_true] at h
    obtain ⟨h1, h2, h3, h4, h5⟩ := h
    rw [Nat.eq_of_beq_eq_true h1, Nat.eq_of_beq_eq_true h2, Nat.eq_of_beq_eq_true h3, beqB_eq h4, eqT_eq (beqV_eq 60) h5]
  · rw [Nat.eq_of_beq_eq_true h]
  · simp only [Bool.and_eq_true] at h
    obtain ⟨h1, h2, h3, h4, h5⟩ := h
    have h1 := Nat.eq_of_beq_eq_true h1
    rw [h1, beqB_eq h2, beqB_eq h3, Nat.eq_of_beq_eq_true h4, beqVs_eq h5]
  · simp only [Bool.and_eq_true] at h
    obtain ⟨h1, h2, h3⟩ := h
    rw [Nat.eq_of_beq_eq_true h1, pairs_eq (beqVs_eq h2) (beqVs_eq h3)]
  · simp only [Bool.and_eq_true] at h
    obtain ⟨h1, h2, h3⟩ := h
    rw [Nat.eq_of_beq_eq_true h1, pairs_eq (beqVs_eq h2) (beqVs_eq h3)]
  · simp only [Bool.and_eq_true] at h
    obtain ⟨h1, h2, h3⟩ := h
    rename_i s p m t q n
    have e := Array.toList_inj.1 (beqL_eq h2)
    cases s; cases t; simp only at e
    rw [Nat.eq_of_beq_eq_true h1, e, Nat.eq_of_beq_eq_true h3]
  · cases h

noncomputable def beqNs : List Nat → List Nat → Bool
  | [], [] => true
  | a :: x, b :: y => Nat.beq a b && beqNs x y
  | _, _ => false
theorem beqNs_eq : ∀ {a b : List Nat}, beqNs a b = true → a = b
  | [], [], _ => rfl
  | [], _ :: _, e => by simp [beqNs] at e
  | _ :: _, [], e => by simp [beqNs] at e
  | a :: x, b :: y, e => by
    unfold beqNs at e
    rw [Bool.and_eq_true] at e
    rw [Nat.eq_of_beq_eq_true e.1, beqNs_eq e.2]

noncomputable def beqPs : List (Nat × Nat) → List (Nat × Nat) → Bool
  | [], [] => true
  | (a, b) :: x, (c, d) :: y => Nat.beq a c && (Nat.beq b d && beqPs x y)
  | _, _ => false
theorem beqPs_eq : ∀ {a b : List (Nat × Nat)}, beqPs a b = true → a = b
  | [], [], _ => rfl
  | [], _ :: _, e => by simp [beqPs] at e
  | _ :: _, [], e => by simp [beqPs] at e
  | (a, b) :: x, (c, d) :: y, e => by
    unfold beqPs at e
    rw [Bool.and_eq_true, Bool.and_eq_true] at e
    rw [Nat.eq_of_beq_eq_true e.1, Nat.eq_of_beq_eq_true e.2.1, beqPs_eq e.2.2]

/-! Trees that hold the same -/
noncomputable def bare {α : Type} : Tr α → Bool
  | .nil => true
  | .node none l r => bare l && bare r
  | .node (some _) _ _ => false

noncomputable def beqT {α : Type} (eq : α → α → Bool) : Tr α → Tr α → Bool
  | .nil, t => bare t
  | .node v l r, .nil => bare (.node v l r)
  | .node none l r, .node none l' r' => beqT eq l l' && beqT eq r r'
  | .node (some v) l r, .node (some v') l' r' => eq v v' && (beqT eq l l' && beqT eq r r')
  | _, _ => false

theorem get_node {α : Type} (v : Option α) (l r : Tr α) (n : Nat) : (Tr.node v l r).get n = match n with
    | 0 => v
    | n + 1 => cond (Nat.beq (n % 2) 0) (l.get (n / 2)) (r.get (n / 2)) := by
  cases n with
  | zero => rfl
  | succ n => exact Tr.get_succ v l r n

theorem bare_get {α : Type} : ∀ {t : Tr α}, bare t = true → ∀ n, t.get n = none
  | .nil, _, n => rfl
  | .node none l r, h, n => by
    unfold bare at h
    rw [Bool.and_eq_true] at h
    rw [get_node]
    cases n with
    | zero => rfl
    | succ n =>
      simp only
      rw [bare_get h.1, bare_get h.2]
      cases Nat.beq (n % 2) 0 <;> rfl
  | .node (some _) l r, h, n => by cases h

theorem beqT_get {α : Type} {eq : α → α → Bool} (he : ∀ a b, eq a b = true → a = b) : ∀ {s t : Tr α}, beqT eq s t = true → ∀ n, s.get n = t.get n
  | .nil, t, h, n => by
    have h : bare t = true := by cases t <;> exact h
    rw [bare_get h]; rfl
  | .node v l r, .nil, h, n => by
    have h : bare (.node v l r) = true := by cases v <;> exact h
    rw [bare_get h]; rfl
  | .node none l r, .node none l' r', h, n => by
    unfold beqT at h
    rw [Bool.and_eq_true] at h
    rw [get_node, get_node]
    cases n with
    | zero => rfl
    | succ n => simp only; rw [beqT_get he h.1, beqT_get he h.2]
  | .node (some v) l r, .node (some v') l' r', h, n => by
    unfold beqT at h
    rw [Bool.and_eq_true, Bool.and_eq_true] at h
    rw [get_node, get_node]
    cases n with
    | zero => simp only; rw [he _ _ h.1]
    | succ n => simp only; rw [beqT_get he h.2.1, beqT_get he h.2.2]
  | .node none _ _, .node (some _) _ _, h, n => by cases h
  | .node (some _) _ _, .node none _ _, h, n => by cases h

/-- Two states that hold the same. -/
structure Like (a b : St) : Prop where
  h : ∀ n, a.h.get n = b.h.get n
  mem : ∀ n, a.mem.get n = b.mem.get n
  next : a.next = b.next
  wl : a.wl = b.wl
  msk : a.msk = b.msk

noncomputable def beqS (a b : St) : Bool := Nat.beq a.next b.next && (beqNs a.wl b.wl && (beqPs a.msk b.msk && (beqT beqE a.h b.h && beqT beqNs a.mem b.mem)))
theorem beqS_like {a b : St} (h : beqS a b = true) : Like a b := by
  unfold beqS at h
  simp only [Bool.and_eq_true] at h
  obtain ⟨h1, h2, h3, h4, h5⟩ := h
  exact ⟨beqT_get (fun _ _ => beqE_eq) h4, beqT_get (fun _ _ => beqNs_eq) h5, Nat.eq_of_beq_eq_true h1, beqNs_eq h2, beqPs_eq h3⟩

namespace Like
theorem symm {a b : St} (l : Like a b) : Like b a := ⟨fun n => (l.h n).symm, fun n => (l.mem n).symm, l.next.symm, l.wl.symm, l.msk.symm⟩
theorem see {a b : St} (l : Like a b) : a.see = b.see := by
  funext id
  unfold St.see
  rw [l.msk, l.h]
theorem members {a b : St} (l : Like a b) (f : Nat) : Ev.members a f = Ev.members b f := by unfold Ev.members; rw [l.mem]
theorem abs {T T' : Tb} {a b : St} (l : Like a b) (h : Abs T a) (hn : T'.n0 = T.n0) : Abs T' b where
  lt := fun id en e => by rw [← l.h] at e; rw [← l.next]; exact h.lt id en e
  own := fun id en e => by rw [← l.h] at e; rw [← l.members]; exact h.own id en e
  sole := fun id en e => by rw [← l.h] at e; exact h.sole id en e
  mem := fun f m e => by rw [← l.mem] at e; rw [← l.next]; exact h.mem f m e
  famlt := fun id en e => by rw [← l.h] at e; rw [← l.next]; exact h.famlt id en e
  msk := fun id e => by rw [← l.next] at e; rw [← l.msk]; exact h.msk id e
  n0 := by rw [hn, ← l.next]; exact h.n0
  wl := fun x e => by rw [← l.wl] at e; rw [hn, ← l.next]; exact h.wl x e
theorem astp {T T' : Tb} {a b a' b' : St} (l : Like a a') (k : Like b b') (h : AStp T a b) (hn : T'.n0 = T.n0) : AStp T' a' b' where
  abs := k.abs h.abs hn
  next := by rw [← l.next, ← k.next]; exact h.next
  msk := by rw [← l.msk, ← k.msk]; exact h.msk
  mem := fun f id e => by rw [← l.members] at e; rw [← k.members]; exact h.mem f id e
  wl := fun x e => by rw [← l.wl] at e; rw [← k.wl]; exact h.wl x e
  old := fun id e1 e2 => by rw [← l.next] at e1; rw [← k.h, ← l.h] at e2; rw [← k.wl]; exact h.old id e1 e2
  hid := fun id e => by rw [← l.msk] at e; rw [← k.h, ← l.h]; exact h.hid id e
  fam := fun id en en' e1 e2 => by rw [← l.h] at e1; rw [← k.h] at e2; exact h.fam id en en' e1 e2
  gone := fun id e1 e2 => by rw [← l.next] at e1; rw [← l.h] at e2; rw [← k.h]; exact h.gone id e1 e2
  newfam := fun id en e1 e2 => by
    rw [← l.next] at e1
    rw [← k.h] at e2
    rcases h.newfam id en e1 e2 with x | ⟨y, ey, h1, h2, h3, h4⟩
    · exact .inl (by rw [← l.next]; exact x)
    · exact .inr ⟨y, ey, by rw [← k.wl]; exact h1, by rw [← l.next]; exact h2, by rw [← l.h]; exact h3, h4⟩
theorem stp {T T' : Tb} {base : Nat} {a b a' b' : St} {ι ι' : Ren} {w w' : World} (l : Like a a') (k : Like b b') (h : Stp T base a b ι ι' w w') (hn : T'.n0 = T.n0) : Stp T' base a' b' ι ι' w w' :=
  have s := astp (T' := T') l k (T := T) ⟨h.abs, h.next, h.msk, h.mem, h.wl, h.old, h.hid, h.fam, h.gone, h.newfam⟩ hn
  { abs := s.abs
    inv := by rw [hn, ← k.see]; exact h.inv
    le := h.le
    dom := fun id e => by rw [← l.next, ← k.next]; exact h.dom id e
    next := s.next
    msk := s.msk
    mem := s.mem
    wl := s.wl
    old := s.old
    hid := s.hid
    fam := s.fam
    gone := s.gone
    newfam := s.newfam
    newid := fun id c z e1 e2 e3 => by
      rw [← l.next] at e1
      rcases h.newid id c z e1 e2 e3 with x | ⟨y, z', h1, h2, h3, h4⟩
      · exact .inl x
      · refine .inr ⟨y, z', by rw [← k.wl]; exact h1, by rw [← l.next]; exact h2, h3, fun en e => ?_⟩
        rw [← k.h] at e
        obtain ⟨ey, g1, g2⟩ := h4 en e
        exact ⟨ey, by rw [← l.h]; exact g1, g2⟩
    frame := fun c hc hw => h.frame c hc fun x z hx => hw x z (by rw [← k.wl]; exact hx)
    os := h.os
    tape := h.tape
    output := h.output
    size := h.size }
end Like

/-! The table -/
noncomputable def mkT {α : Type} : List (Nat × α) → Tr α
  | [] => .nil
  | (n, x) :: r => (mkT r).set n (some x)

/-- A call, and what it came to. -/
structure Ent where
  f : Nat
  args : List Value
  h : List (Nat × En)
  m : List (Nat × List Nat)
  next : Nat
  wl : List Nat
  msk : List (Nat × Nat)
  v : Value
  h' : List (Nat × En)
  m' : List (Nat × List Nat)
  next' : Nat
  wl' : List Nat

noncomputable def Ent.st (e : Ent) : St := { h := mkT e.h, mem := mkT e.m, next := e.next, wl := e.wl, msk := e.msk }
noncomputable def Ent.to (e : Ent) : St := { h := mkT e.h', mem := mkT e.m', next := e.next', wl := e.wl', msk := e.msk }

/-- Did the evaluator come to what an entry says? -/
noncomputable def Ent.chk (e : Ent) : Option (Out × St) → Bool
  | some (.val v, s) => beqV 60 v e.v && beqS s e.to
  | _ => false

noncomputable def findE (f : Nat) (args : List Value) (st : St) : List Ent → Option (Value × St)
  | [] => none
  | e :: r => cond (Nat.beq f e.f && (beqVs args e.args && beqS st e.st)) (some (e.v, e.to)) (findE f args st r)

noncomputable def tabOf : List Ent → Tr (List Ent)
  | [] => .nil
  | e :: r => (tabOf r).set e.next (some (e :: ((tabOf r).get e.next).getD []))

noncomputable def orcE (t : Tr (List Ent)) (more : Nat → List Value → St → Option (Value × St)) (f : Nat) (args : List Value) (st : St) : Option (Value × St) :=
  match t.get st.next with
  | some l => match findE f args st l with
    | some r => some r
    | none => more f args st
  | none => more f args st

theorem tabOf_mem : ∀ (es : List Ent) {n : Nat} {l : List Ent}, (tabOf es).get n = some l → ∀ e ∈ l, e ∈ es
  | [], n, l, h, e, _ => by cases h
  | e :: r, n, l, h, x, hx => by
    unfold tabOf at h
    rw [Tr.get_set] at h
    by_cases hn : n = e.next
    · rw [if_pos hn] at h
      cases h
      rcases List.mem_cons.1 hx with rfl | hx
      · exact List.mem_cons_self
      · cases hg : (tabOf r).get e.next with
        | none => rw [hg] at hx; cases hx
        | some l => rw [hg] at hx; exact List.mem_cons_of_mem _ (tabOf_mem r hg x hx)
    · rw [if_neg hn] at h
      exact List.mem_cons_of_mem _ (tabOf_mem r h x hx)

theorem findE_some {f : Nat} {args : List Value} {st : St} : ∀ {l : List Ent} {r : Value × St}, findE f args st l = some r → ∃ e ∈ l, f = e.f ∧ args = e.args ∧ Like st e.st ∧ r = (e.v, e.to)
  | [], r, h => by cases h
  | e :: l, r, h => by
    unfold findE at h
    cases hb : (Nat.beq f e.f && (beqVs args e.args && beqS st e.st)) with
    | true =>
      rw [hb, cond_true] at h
      cases h
      rw [Bool.and_eq_true, Bool.and_eq_true] at hb
      exact ⟨e, List.mem_cons_self, Nat.eq_of_beq_eq_true hb.1, beqVs_eq hb.2.1, beqS_like hb.2.2, rfl⟩
    | false =>
      rw [hb, cond_false] at h
      obtain ⟨e', h1, h2⟩ := findE_some h
      exact ⟨e', List.mem_cons_of_mem _ h1, h2⟩

/-- What an entry must keep to (n0: how many variables the program has). -/
structure EntOk (P : Program) (T : Tb) (base : Nat) (E : World → Prop) (e : Ent) : Prop where
  a : ∀ st, Like st e.st → Abs T st → AStp T st e.to
  c : ∀ st, Like st e.st → ∀ (ι : Ren) (w : World) (args' : Array Value), Abs T st → Inv T.n0 base ι st.see w → E w → Fresh ι st e.to → All2 (Rv ι) e.args args'.toList →
    Calls P e.f args' w fun r w' => ∃ ι', Stp T base st e.to ι ι' w w' ∧ EndR ι' (.val e.v) r

theorem ent_ok {P : Program} {T T' : Tb} {base : Nat} {E : World → Prop} (X : Ctx P T base E) (hO : OrcA T) (hC : OrcOk P T base E) (hn : T'.n0 = T.n0) {e : Ent} {n : Nat} (h : e.chk (exec T n (.call e.f e.args) e.st) = true) (hu : e.f < UNK) : EntOk P T' base E e := by
  unfold Ent.chk at h
  split at h
  · rename_i v s hx
    rw [Bool.and_eq_true] at h
    have hv := beqV_eq 60 _ _ h.1
    subst hv
    have hl := beqS_like h.2
    refine ⟨fun st k ha => ?_, fun st k ι w args' ha hi hE hf hr => ?_⟩
    · exact k.symm.astp hl (a_exec T hO _ _ _ _ _ hx (k.abs ha hn.symm)) hn
    · have hi' : Inv T.n0 base ι e.st.see w := by rw [← k.see, ← hn]; exact hi
      have hf' : Fresh ι e.st s := fun id h1 h2 => hf id (by rw [k.next]; exact h1) (by rw [← hl.next]; exact h2)
      refine (((sound X hO hC X.tb.mixed n).call e.f e.args e.st _ s hx ι w args' (k.abs ha hn.symm) hi' hE hf' hr).1 hu).mono ?_
      rintro r w' ⟨ι', s', he⟩
      exact ⟨ι', k.symm.stp hl s' hn, he⟩
  · cases h

section
variable {P : Program} {T : Tb} {base : Nat} {E : World → Prop}
noncomputable def moreC (more : Nat → List Value → St → Option (Value × St)) (f : Nat) (args : List Value) (st : St) : Option (Out × St) := match more f args st with
  | some (v, s) => some (.val v, s)
  | none => none

theorem orcE_split {t : Tr (List Ent)} {more : Nat → List Value → St → Option (Value × St)} {f : Nat} {args : List Value} {st : St} {r : Value × St} (h : orcE t more f args st = some r) :
    (∃ n l, t.get n = some l ∧ ∃ e ∈ l, f = e.f ∧ args = e.args ∧ Like st e.st ∧ r = (e.v, e.to)) ∨ more f args st = some r := by
  unfold orcE at h
  split at h
  · rename_i l hl
    split at h
    · rename_i r' hr
      cases h
      exact .inl ⟨_, l, hl, findE_some hr⟩
    · exact .inr h
  · exact .inr h

theorem orcA_of {es : List Ent} {more : Nat → List Value → St → Option (Value × St)} (hT : T.orc = orcE (tabOf es) more) (he : ∀ e ∈ es, EntOk P T base E e) (hm : ACall T (moreC more)) : OrcA T := by
  intro f args st out st' h ha
  unfold orcC at h
  split at h
  · rename_i v s ho
    cases h
    rw [hT] at ho
    rcases orcE_split ho with ⟨n, l, h1, e, h2, rfl, rfl, h5, h6⟩ | h1
    · cases h6
      exact (he e (tabOf_mem es h1 e h2)).a st h5 ha
    · exact hm f args st (.val v) st' (by unfold moreC; rw [h1]) ha
  · cases h

theorem orcOk_of {es : List Ent} {more : Nat → List Value → St → Option (Value × St)} (hT : T.orc = orcE (tabOf es) more) (he : ∀ e ∈ es, EntOk P T base E e) (hm : CallOk1 P T base E (moreC more)) : OrcOk P T base E := by
  intro f args st out st' h ι w args' ha hi hE hf hr
  unfold orcC at h
  split at h
  · rename_i v s ho
    cases h
    rw [hT] at ho
    rcases orcE_split ho with ⟨n, l, h1, e, h2, rfl, rfl, h5, h6⟩ | h1
    · cases h6
      exact (he e (tabOf_mem es h1 e h2)).c st h5 ι w args' ha hi hE hf hr
    · exact hm f args st (.val v) st' (by unfold moreC; rw [h1]) ι w args' ha hi hE hf hr
  · cases h
end
end Go.Proofs.YthdnpikgnmdnnaaGreatDoor.Ev

namespace Go.Proofs.YthdnpikgnmdnnaaGreatDoor.Ev
set_option linter.unusedSimpArgs false
set_option linter.unusedVariables false
set_option linter.unusedSectionVars false
variable [Tok]
open Go.RowKit
set_option linter.unusedSectionVars false

/-! errors.As; a start with variables; entries one behind the other -/

/-- More memory, nothing else turned. -/
theorem Stp.grow {T : Tb} {base : Nat} {st : St} {ι : Ren} {w w' : World} (ha : Abs T st) (hi : Inv T.n0 base ι st.see w) (hb : Below w.heap.size w w') : Stp T base st st ι ι w w' where
  abs := ha
  inv := ⟨fun id en hv => let ⟨c, sz, a, b⟩ := hi.ob id en hv; ⟨c, sz, a, b.world (hb.block c b.lt)⟩, hi.fam, hi.sep, hi.glob, Nat.le_trans hi.size hb.size⟩
  le := ι.le_refl
  dom := fun id h => absurd rfl h
  next := Nat.le_refl _
  msk := rfl
  mem := fun _ _ h => h
  wl := fun _ h => h
  old := fun id _ h => absurd rfl h
  hid := fun _ _ => rfl
  fam := fun id en en' a b => by rw [a] at b; cases b; rfl
  gone := fun id _ h => h
  newfam := fun id en a b => absurd (ha.lt id en b) (by omega)
  newid := fun id c z _ a b => by rw [a] at b; cases b
  frame := fun c hc _ => hb.block c hc
  os := hb.os
  tape := hb.tape
  output := hb.output
  size := hb.size

noncomputable def asM (n0 f te tt : Nat) (g : Nat) (args : List Value) (st : St) : Option (Value × St) := cond (Nat.beq g f) (asA n0 te tt args st) none

theorem asM_inv {n0 f te tt g : Nat} {args : List Value} {st st' : St} {out : Out} (h : moreC (asM n0 f te tt) g args st = some (out, st')) : g = f ∧
    ((∃ a, args = [.nilIface, .iface tt (.pointer (some a))] ∧ out = .val (.bool false) ∧ st' = st) ∨
     (∃ p a, args = [.iface te (.pointer (some p)), .iface tt (.pointer (some a))] ∧ out = .val (.bool true) ∧ St.store n0 st a.block a.off [.pointer (some p)] = some st')) := by
  unfold moreC asM at h
  cases hb : Nat.beq g f with
  | false => rw [hb] at h; cases h
  | true =>
    refine ⟨Nat.eq_of_beq_eq_true hb, ?_⟩
    rw [hb, cond_true] at h
    unfold asA at h
    split at h
    · rename_i v s hv
      cases h
      split at hv
      · rename_i t a
        cases ht : Nat.beq t tt with
        | false => rw [ht] at hv; cases hv
        | true =>
          rw [ht, cond_true] at hv
          cases hv
          rw [Nat.eq_of_beq_eq_true ht]
          exact .inl ⟨a, rfl, rfl, rfl⟩
      · rename_i e p t a
        cases ht : (Nat.beq e te && Nat.beq t tt) with
        | false => rw [ht] at hv; cases hv
        | true =>
          rw [ht, cond_true] at hv
          rw [Bool.and_eq_true] at ht
          rw [Nat.eq_of_beq_eq_true ht.1, Nat.eq_of_beq_eq_true ht.2]
          split at hv
          · rename_i s' hs
            cases hv
            exact .inr ⟨p, a, rfl, rfl, hs⟩
          · cases hv
      · cases hv
    · cases h

theorem as_a {T : Tb} (f te tt : Nat) : ACall T (moreC (asM T.n0 f te tt)) := by
  intro g args st out st' h ha
  obtain ⟨_, ⟨a, _, _, rfl⟩ | ⟨p, a, _, _, hs⟩⟩ := asM_inv h
  · exact .refl ha
  · exact astore ha hs

theorem rv_ptr {ι : Ren} {a : Addr} {v : Value} (h : Rv ι (.pointer (some a)) v) : ∃ b o c sz, a = ⟨b, o, none⟩ ∧ v = .pointer (some ⟨c, o, none⟩) ∧ ι b = some (c, sz) := by
  cases h with
  | ptr h => exact ⟨_, _, _, _, rfl, rfl, h⟩
theorem as_c {P : Program} {T : Tb} {base : Nat} {E : World → Prop} {f te tt : Nat}
    (hNil : ∀ (t : Addr) w, E w → Calls P f #[.nilIface, .iface tt (.pointer (some t))] w fun e w' => e = .returned (.bool false) ∧ Below w.heap.size w w')
    (hHit : ∀ (p t : Addr) old w, E w → w.cell? t = some old → w.frozen? t = false → Calls P f #[.iface te (.pointer (some p)), .iface tt (.pointer (some t))] w fun e w' => e = .returned (.bool true) ∧ ∃ w1, Below w.heap.size w w1 ∧ w' = w1.setCell t (.pointer (some p))) :
    CallOk1 P T base E (moreC (asM T.n0 f te tt)) := by
  intro g args st out st' h ι w args' ha hi hE hf hr
  obtain ⟨rfl, ⟨a, rfl, rfl, rfl⟩ | ⟨p, a, rfl, rfl, hs⟩⟩ := asM_inv h
  · obtain ⟨x, r, hx, h1, hr⟩ := hr.cons_inv
    obtain ⟨y, r', rfl, h2, hr⟩ := hr.cons_inv
    have := hr.nil_inv
    subst this
    cases h1
    cases h2 with
    | iface h2 =>
      obtain ⟨b, o, c, sz, rfl, rfl, h3⟩ := rv_ptr h2
      · have e : args' = #[.nilIface, .iface tt (.pointer (some ⟨c, o, none⟩))] := by rw [← Array.toList_inj]; exact hx
        rw [e]
        refine (hNil _ w hE).mono ?_
        rintro r w' ⟨rfl, hb⟩
        exact ⟨ι, .grow ha hi hb, .bool false⟩
  · obtain ⟨x, r, hx, h1, hr⟩ := hr.cons_inv
    obtain ⟨y, r', rfl, h2, hr⟩ := hr.cons_inv
    have := hr.nil_inv
    subst this
    cases h1 with
    | iface h1 =>
      cases h2 with
      | iface h2 =>
        obtain ⟨b, o, c, sz, rfl, rfl, h3⟩ := rv_ptr h2
        · obtain ⟨b2, o2, c2, sz2, rfl, rfl, h4⟩ := rv_ptr h1
          · have e : args' = #[.iface te (.pointer (some ⟨c2, o2, none⟩)), .iface tt (.pointer (some ⟨c, o, none⟩))] := by rw [← Array.toList_inj]; exact hx
            rw [e]
            have hv : All2 (Rv ι) [.pointer (some ⟨b2, o2, none⟩)] [.pointer (some ⟨c2, o2, none⟩)] := ⟨rfl, fun i x y hx hy => by
              cases i with
              | zero => cases hx; cases hy; exact .ptr h4
              | succ i => cases hx⟩
            obtain ⟨_, k1, k2, _, hnx⟩ := store_ok ha hi hs h3 hv
            have k1 := k1 0 (by simp)
            have k2 := k2 0 (by simp)
            obtain ⟨old, hold⟩ := Option.isSome_iff_exists.1 k1
            refine (hHit _ _ old w hE hold k2).mono ?_
            rintro r w' ⟨rfl, w1, hb, rfl⟩
            have g := Stp.grow (base := base) ha hi hb
            obtain ⟨s1, _⟩ := store_ok ha g.inv hs h3 hv
            exact ⟨ι, g.trans s1 ha (fun id h1 h2 => by omega), .bool true⟩

/-! errors.As at a target of a type of one whole number -/
noncomputable def asVM (n0 f te tt : Nat) (g : Nat) (args : List Value) (st : St) : Option (Value × St) := cond (Nat.beq g f) (asV n0 te tt args st) none

theorem asVM_inv {n0 f te tt g : Nat} {args : List Value} {st st' : St} {out : Out} (h : moreC (asVM n0 f te tt) g args st = some (out, st')) : g = f ∧
    ((∃ a, args = [.nilIface, .iface tt (.pointer (some a))] ∧ out = .val (.bool false) ∧ st' = st) ∨
     (∃ k n a, args = [.iface te (.int k n), .iface tt (.pointer (some a))] ∧ out = .val (.bool true) ∧ St.store n0 st a.block a.off [.int k n] = some st')) := by
  unfold moreC asVM at h
  cases hb : Nat.beq g f with
  | false => rw [hb] at h; cases h
  | true =>
    refine ⟨Nat.eq_of_beq_eq_true hb, ?_⟩
    rw [hb, cond_true] at h
    unfold asV at h
    split at h
    · rename_i v s hv
      cases h
      split at hv
      · rename_i t a
        cases ht : Nat.beq t tt with
        | false => rw [ht] at hv; cases hv
        | true =>
          rw [ht, cond_true] at hv
          cases hv
          rw [Nat.eq_of_beq_eq_true ht]
          exact .inl ⟨a, rfl, rfl, rfl⟩
      · rename_i e k n t a
        cases ht : (Nat.beq e te && Nat.beq t tt) with
        | false => rw [ht] at hv; cases hv
        | true =>
          rw [ht, cond_true] at hv
          rw [Bool.and_eq_true] at ht
          rw [Nat.eq_of_beq_eq_true ht.1, Nat.eq_of_beq_eq_true ht.2]
          split at hv
          · rename_i s' hs
            cases hv
            exact .inr ⟨k, n, a, rfl, rfl, hs⟩
          · cases hv
      · cases hv
    · cases h

theorem as_va {T : Tb} (f te tt : Nat) : ACall T (moreC (asVM T.n0 f te tt)) := by
  intro g args st out st' h ha
  obtain ⟨_, ⟨a, _, _, rfl⟩ | ⟨k, n, a, _, _, hs⟩⟩ := asVM_inv h
  · exact .refl ha
  · exact astore ha hs

theorem as_vc {P : Program} {T : Tb} {base : Nat} {E : World → Prop} {f te tt : Nat}
    (hNil : ∀ (t : Addr) w, E w → Calls P f #[.nilIface, .iface tt (.pointer (some t))] w fun e w' => e = .returned (.bool false) ∧ Below w.heap.size w w')
    (hHit : ∀ (k : IntKind) (n : Int) (t : Addr) old w, E w → w.cell? t = some old → w.frozen? t = false → Calls P f #[.iface te (.int k n), .iface tt (.pointer (some t))] w fun e w' => e = .returned (.bool true) ∧ ∃ w1, Below w.heap.size w w1 ∧ w' = w1.setCell t (.int k n)) :
    CallOk1 P T base E (moreC (asVM T.n0 f te tt)) := by
  intro g args st out st' h ι w args' ha hi hE hf hr
  obtain ⟨rfl, ⟨a, rfl, rfl, rfl⟩ | ⟨k, n, a, rfl, rfl, hs⟩⟩ := asVM_inv h
  · obtain ⟨x, r, hx, h1, hr⟩ := hr.cons_inv
    obtain ⟨y, r', rfl, h2, hr⟩ := hr.cons_inv
    have := hr.nil_inv
    subst this
    cases h1
    cases h2 with
    | iface h2 =>
      obtain ⟨b, o, c, sz, rfl, rfl, h3⟩ := rv_ptr h2
      · have e : args' = #[.nilIface, .iface tt (.pointer (some ⟨c, o, none⟩))] := by rw [← Array.toList_inj]; exact hx
        rw [e]
        refine (hNil _ w hE).mono ?_
        rintro r w' ⟨rfl, hb⟩
        exact ⟨ι, .grow ha hi hb, .bool false⟩
  · obtain ⟨x, r, hx, h1, hr⟩ := hr.cons_inv
    obtain ⟨y, r', rfl, h2, hr⟩ := hr.cons_inv
    have := hr.nil_inv
    subst this
    cases h1 with
    | iface h1 =>
      cases h2 with
      | iface h2 =>
        obtain ⟨b, o, c, sz, rfl, rfl, h3⟩ := rv_ptr h2
        cases h1
        have e : args' = #[.iface te (.int k n), .iface tt (.pointer (some ⟨c, o, none⟩))] := by rw [← Array.toList_inj]; exact hx
        rw [e]
        have hv : All2 (Rv ι) [.int k n] [.int k n] := .cons (.int k n) .nil
        obtain ⟨_, k1, k2, _, hnx⟩ := store_ok ha hi hs h3 hv
        have k1 := k1 0 (by simp)
        have k2 := k2 0 (by simp)
        obtain ⟨old, hold⟩ := Option.isSome_iff_exists.1 k1
        refine (hHit _ _ _ old w hE hold k2).mono ?_
        rintro r w' ⟨rfl, w1, hb, rfl⟩
        have g := Stp.grow (base := base) ha hi hb
        obtain ⟨s1, _⟩ := store_ok ha g.inv hs h3 hv
        exact ⟨ι, g.trans s1 ha (fun id h1 h2 => by omega), .bool true⟩

/-! A call that makes a map, of which the first entries are known -/
noncomputable def mapM (f : Nat) (es : List (Value × Value)) (g : Nat) (args : List Value) (st : St) : Option (Value × St) :=
  cond (Nat.beq g f) (match args with
    | [] => some (.map (some st.next), (st.new (.pmap es)).2)
    | _ => none) none

theorem mapM_inv {f g : Nat} {es : List (Value × Value)} {args : List Value} {st st' : St} {out : Out} (h : moreC (mapM f es) g args st = some (out, st')) : g = f ∧ args = [] ∧ out = .val (.map (some st.next)) ∧ st' = (st.new (.pmap es)).2 := by
  unfold moreC mapM at h
  cases hb : Nat.beq g f with
  | false => rw [hb] at h; cases h
  | true =>
    rw [hb] at h
    cases args with
    | nil => cases h; exact ⟨Nat.eq_of_beq_eq_true hb, rfl, rfl, rfl⟩
    | cons _ _ => cases h

theorem map_a {T : Tb} (f : Nat) (es : List (Value × Value)) : ACall T (moreC (mapM f es)) := by
  intro g args st out st' h ha
  obtain ⟨_, _, _, rfl⟩ := mapM_inv h
  exact anew ha _

theorem map_c {P : Program} {T : Tb} {base : Nat} {E : World → Prop} {f : Nat} {es : List (Value × Value)} (hes : ∀ e ∈ es, closedV 40 e.1 = true ∧ closedV 40 e.2 = true)
    (hM : ∀ w, E w → Calls P f #[] w fun e w' => ∃ c arr clock l1 l2, e = .returned (.map (some c)) ∧ w.heap.size ≤ c ∧ w'.heap[c]? = some (.map arr clock) ∧ arr.toList = l1 ++ l2 ∧
      l1.map (fun m => (m.key, m.val)) = es ∧ Below w.heap.size w w') :
    CallOk1 P T base E (moreC (mapM f es)) := by
  intro g args st out st' h ι w args' ha hi hE hf hr
  obtain ⟨rfl, rfl, rfl, rfl⟩ := mapM_inv h
  have e : args' = #[] := by rw [← Array.toList_inj]; exact hr.nil_inv
  rw [e]
  refine (hM w hE).mono ?_
  rintro r w' ⟨c, arr, clock, l1, l2, rfl, hc, hobj, hl, hm, hb⟩
  have hfr : ι st.next = none := hf st.next (Nat.le_refl _) (Nat.lt_succ_self _)
  refine ⟨ι.upd st.next (c, 0), step_at ha hi _ 0 c hfr (fun k hk => hb.block k hk) hc hb.size hb.os hb.tape hb.output ⟨arr, clock, hobj, l1, l2, hl, ?_⟩, .map Ren.upd_self⟩
  refine ⟨by rw [← hm]; simp, fun i x m hx hy => ?_⟩
  rw [← hm, List.getElem?_map, hy] at hx
  cases hx
  have hmem : (m.key, m.val) ∈ es := by
    rw [← hm]; exact List.mem_map.2 ⟨m, List.mem_of_getElem? hy, rfl⟩
  obtain ⟨k1, k2⟩ := hes _ hmem
  exact ⟨rv_closed _ 40 _ k1, rv_closed _ 40 _ k2⟩

/-! Calls that answer a value whatever the world, and keep what is there -/
/-- what is answered: function, arguments, value -/
noncomputable def constM : List (Nat × (List Value × Value)) → Nat → List Value → St → Option (Value × St)
  | [], _, _, _ => none
  | (f, (vs, v)) :: r, g, args, st => cond (Nat.beq g f && beqVs args vs) (some (v, st)) (constM r g args st)

theorem constM_inv {g : Nat} {args : List Value} {st st' : St} {v : Value} : ∀ {l : List (Nat × (List Value × Value))}, constM l g args st = some (v, st') → st' = st ∧ (g, (args, v)) ∈ l
  | [], h => by cases h
  | (f, (vs, u)) :: r, h => by
    unfold constM at h
    cases hb : (Nat.beq g f && beqVs args vs) with
    | true =>
      rw [hb] at h; cases h
      rw [Bool.and_eq_true] at hb
      rw [Nat.eq_of_beq_eq_true hb.1, beqVs_eq hb.2]
      exact ⟨rfl, List.mem_cons_self⟩
    | false =>
      rw [hb] at h
      obtain ⟨h1, h2⟩ := constM_inv h
      exact ⟨h1, List.mem_cons_of_mem _ h2⟩

theorem const_inv {l : List (Nat × (List Value × Value))} {g : Nat} {args : List Value} {st st' : St} {out : Out} (h : moreC (constM l) g args st = some (out, st')) : ∃ v, out = .val v ∧ st' = st ∧ (g, (args, v)) ∈ l := by
  unfold moreC at h
  split at h
  · rename_i v s hv
    cases h
    obtain ⟨rfl, h2⟩ := constM_inv hv
    exact ⟨v, rfl, rfl, h2⟩
  · cases h

theorem const_a {T : Tb} (l : List (Nat × (List Value × Value))) : ACall T (moreC (constM l)) := by
  intro g args st out st' h ha
  obtain ⟨v, rfl, rfl, _⟩ := const_inv h
  exact .refl ha

theorem const_c {P : Program} {T : Tb} {base : Nat} {E : World → Prop} {l : List (Nat × (List Value × Value))}
    (hM : ∀ x ∈ l, ∀ (ι : Ren) w args', E w → All2 (Rv ι) x.2.1 args'.toList → Calls P x.1 args' w fun e w' => ∃ v', e = .returned v' ∧ Rv ι x.2.2 v' ∧ Below w.heap.size w w') :
    CallOk1 P T base E (moreC (constM l)) := by
  intro g args st out st' h ι w args' ha hi hE hf hr
  obtain ⟨v, rfl, rfl, hm⟩ := const_inv h
  refine (hM _ hm ι w args' hE hr).mono ?_
  rintro e w' ⟨v', rfl, hv, hb⟩
  exact ⟨ι, .grow ha hi hb, hv⟩

/-- One contract or the other. -/
noncomputable def orM (a b : Nat → List Value → St → Option (Value × St)) (g : Nat) (args : List Value) (st : St) : Option (Value × St) :=
  match a g args st with
  | some r => some r
  | none => b g args st

theorem or_inv {a b : Nat → List Value → St → Option (Value × St)} {g : Nat} {args : List Value} {st st' : St} {out : Out} (h : moreC (orM a b) g args st = some (out, st')) : moreC a g args st = some (out, st') ∨ moreC b g args st = some (out, st') := by
  unfold moreC orM at h
  cases ha : a g args st with
  | some r => left; unfold moreC; rw [ha] at h ⊢; exact h
  | none => right; unfold moreC; rw [ha] at h; exact h

theorem or_a {T : Tb} {a b : Nat → List Value → St → Option (Value × St)} (ha : ACall T (moreC a)) (hb : ACall T (moreC b)) : ACall T (moreC (orM a b)) := by
  intro g args st out st' h k
  rcases or_inv h with h | h
  · exact ha g args st out st' h k
  · exact hb g args st out st' h k

theorem or_c {P : Program} {T : Tb} {base : Nat} {E : World → Prop} {a b : Nat → List Value → St → Option (Value × St)} (ha : CallOk1 P T base E (moreC a)) (hb : CallOk1 P T base E (moreC b)) : CallOk1 P T base E (moreC (orM a b)) := by
  intro g args st out st' h
  rcases or_inv h with h | h
  · exact ha g args st out st' h
  · exact hb g args st out st' h

/-! Entries one behind the other -/
theorem Like.refl (a : St) : Like a a := ⟨fun _ => rfl, fun _ => rfl, rfl, rfl, rfl⟩
theorem EntOk.re {P : Program} {T T' : Tb} {base : Nat} {E : World → Prop} {e : Ent} (h : EntOk P T base E e) (hn : T'.n0 = T.n0) : EntOk P T' base E e where
  a := fun st k ha => (Like.refl st).astp (Like.refl _) (h.a st k ((Like.refl st).abs ha hn.symm)) hn
  c := fun st k ι w args' ha hi hE hf hr => (h.c st k ι w args' ((Like.refl st).abs ha hn.symm) (by rw [← hn]; exact hi) hE hf hr).mono fun r w' ⟨ι', s, he⟩ => ⟨ι', (Like.refl st).stp (Like.refl _) s hn, he⟩
theorem ACall.re {T T' : Tb} {call : Nat → List Value → St → Option (Out × St)} (h : ACall T call) (hn : T'.n0 = T.n0) : ACall T' call :=
  fun f args st out st' hc ha => (Like.refl st).astp (Like.refl _) (h f args st out st' hc ((Like.refl st).abs ha hn.symm)) hn
theorem CallOk1.re {P : Program} {T T' : Tb} {base : Nat} {E : World → Prop} {call : Nat → List Value → St → Option (Out × St)} (h : CallOk1 P T base E call) (hn : T'.n0 = T.n0) : CallOk1 P T' base E call :=
  fun f args st out st' hc ι w args' ha hi hE hf hr => (h f args st out st' hc ι w args' ((Like.refl st).abs ha hn.symm) (by rw [← hn]; exact hi) hE hf hr).mono fun r w' ⟨ι', s, he⟩ => ⟨ι', (Like.refl st).stp (Like.refl _) s hn, he⟩

/-- The evaluator with some entries. -/
noncomputable def withE (T : Tb) (more : Nat → List Value → St → Option (Value × St)) (es : List Ent) : Tb := { T with orc := orcE (tabOf es) more }

theorem ctx_with {P : Program} {T : Tb} {base : Nat} {E : World → Prop} (X : Ctx P T base E) (more : Nat → List Value → St → Option (Value × St)) (es : List Ent) : Ctx P (withE T more es) base E :=
  ⟨X.lp, X.rf, ⟨X.tb.ty, X.tb.fn, X.tb.ng, X.tb.mixed⟩, X.cmp, X.ext, X.prim, X.depth, X.keep, X.meth, X.tk⟩

section
variable {P : Program} {T : Tb} {base : Nat} {E : World → Prop} (X : Ctx P T base E) {more : Nat → List Value → St → Option (Value × St)} (hA : ACall T (moreC more)) (hC : CallOk1 P T base E (moreC more))
include X hA hC

/-- One entry more. -/
theorem ent_next {es : List Ent} (hes : ∀ e ∈ es, EntOk P T base E e) {e : Ent} {n : Nat} (h : e.chk (exec (withE T more es) n (.call e.f e.args) e.st) = true) (hu : e.f < UNK) : EntOk P T base E e :=
  ent_ok (T := withE T more es) (T' := T) (ctx_with X more es) (orcA_of (P := P) (base := base) (E := E) rfl (fun e he => (hes e he).re rfl) (hA.re rfl)) (orcOk_of rfl (fun e he => (hes e he).re rfl) (hC.re rfl)) rfl h hu

theorem ents_next {es : List Ent} (hes : ∀ e ∈ es, EntOk P T base E e) {e : Ent} {n : Nat} (h : e.chk (exec (withE T more es) n (.call e.f e.args) e.st) = true) (hu : e.f < UNK) : ∀ x ∈ e :: es, EntOk P T base E x := by
  intro x hx
  rcases List.mem_cons.1 hx with rfl | hx
  · exact ent_next X hA hC hes h hu
  · exact hes x hx
end

/-! A start with one variable that is known -/
noncomputable def stG (n0 g el : Nat) (tab : List Value) : St := { h := Tr.set .nil g (some ⟨.cells tab el true true, g⟩), mem := .nil, next := n0, wl := [], msk := [] }
noncomputable def iotaG (n0 g sz : Nat) : Ren := fun i => if i < n0 then some (i, if i = g then sz else 0) else none

theorem stG_get {n0 g el : Nat} {tab : List Value} {id : Nat} {en : En} (h : (stG n0 g el tab).h.get id = some en) : id = g ∧ en = ⟨.cells tab el true true, g⟩ := by
  have h : (Tr.set (.nil : Tr En) g (some ⟨.cells tab el true true, g⟩)).get id = some en := h
  rw [Tr.get_set] at h
  by_cases e : id = g
  · rw [if_pos e] at h; cases h; exact ⟨e, rfl⟩
  · rw [if_neg e] at h; cases h

theorem absG {T : Tb} {g el : Nat} {tab : List Value} (hg : g < T.n0) : Abs T (stG T.n0 g el tab) where
  lt := fun id en h => by obtain ⟨rfl, _⟩ := stG_get h; exact hg
  own := fun id en h => by obtain ⟨rfl, rfl⟩ := stG_get h; exact List.mem_cons_self
  sole := fun id en h hc => by obtain ⟨rfl, rfl⟩ := stG_get h; rfl
  mem := fun f l h => by cases h
  famlt := fun id en h => by obtain ⟨rfl, rfl⟩ := stG_get h; exact hg
  msk := fun id h => rfl
  n0 := Nat.le_refl _
  wl := fun b h => by cases h

/-- What is closed stands for itself. -/
theorem rv_tab {ι : Ren} {tab : List Value} (h : tab.all (closedV 40) = true) {i : Nat} {v : Value} (hv : tab[i]? = some v) : Rv ι v v := rv_closed _ 40 _ (all_get h i _ hv)

theorem invG {T : Tb} {w : World} {g el : Nat} {tab : List Value} {arr : Array Value} {fr : Nat × Nat} (hgn : g < T.n0) (hg : w.heap[g]? = some (.cells arr el fr)) (ht : arr.toList = tab) (hfr : fr.1 ≤ fr.2) (hc : tab.all (closedV 40) = true) :
    Inv T.n0 w.heap.size (iotaG T.n0 g tab.length) (stG T.n0 g el tab).see w where
  ob := fun id en h => by
    obtain ⟨rfl, rfl⟩ := stG_get (see_get h)
    exact ⟨id, tab.length, by unfold iotaG; rw [if_pos hgn, if_pos rfl], arr, fr, hg, by rw [← Array.length_toList, ht], Nat.le_refl _, fun _ => rfl, fun i v hv => ⟨v, by rw [ht]; exact hv, rv_tab hc hv⟩, hfr, fun h => by cases h⟩
  fam := fun i j ei ej c s s' h k _ _ => by
    obtain ⟨rfl, rfl⟩ := stG_get (see_get h)
    obtain ⟨rfl, rfl⟩ := stG_get (see_get k)
    rfl
  sep := fun id c s hn h => by
    unfold iotaG at h
    rw [if_neg (by omega)] at h; cases h
  glob := fun i hi => ⟨_, by unfold iotaG; rw [if_pos hi]⟩
  size := Nat.le_refl _

/-- A call without arguments that answers true. -/
theorem heads_true {P : Program} {T : Tb} {w : World} {E : World → Prop} {e : Ent} (h : EntOk P T w.heap.size E e) (hE : E w) {ι : Ren} (ha : Abs T e.st) (hi : Inv T.n0 w.heap.size ι e.st.see w) (hf : Fresh ι e.st e.to)
    (hargs : e.args = []) (hv : e.v = .bool true) : Calls P e.f #[] w fun r w' => r = .returned (.bool true) ∧ Below w.heap.size w w' := by
  refine (h.c e.st (Like.refl _) ι w #[] ha hi hE hf (by rw [hargs]; exact ⟨rfl, fun i x y hx _ => by cases hx⟩)).mono ?_
  rintro r w' ⟨ι', s, he⟩
  rw [hv] at he
  cases r with
  | returned v => cases he; exact ⟨rfl, s.below (Nat.le_refl _)⟩
  | panicked ch => obtain ⟨_, h, _⟩ := he
  | outgrown => exact he.elim

/-- A call of an entry's function at arguments that stand for the entry's. -/
theorem ent_true {P : Program} {T : Tb} {w : World} {E : World → Prop} {e : Ent} (h : EntOk P T w.heap.size E e) (hE : E w) {ι : Ren} (ha : Abs T e.st) (hi : Inv T.n0 w.heap.size ι e.st.see w) (hf : Fresh ι e.st e.to)
    {args : Array Value} (hargs : All2 (Rv ι) e.args args.toList) (hv : e.v = .bool true) : Calls P e.f args w fun r w' => r = .returned (.bool true) ∧ Below w.heap.size w w' := by
  refine (h.c e.st (Like.refl _) ι w args ha hi hE hf hargs).mono ?_
  rintro r w' ⟨ι', s, he⟩
  rw [hv] at he
  cases r with
  | returned v => cases he; exact ⟨rfl, s.below (Nat.le_refl _)⟩
  | panicked ch => obtain ⟨_, h, _⟩ := he
  | outgrown => exact he.elim
end Go.Proofs.YthdnpikgnmdnnaaGreatDoor.Ev

namespace Go.Proofs.YthdnpikgnmdnnaaGreatDoor.Ev
set_option linter.unusedSimpArgs false
set_option linter.unusedVariables false
set_option linter.unusedSectionVars false
variable [Tok]
open Go.RowKit
set_option linter.unusedSectionVars false

/-! Calls at arguments of which parts are unknown -/

/-- What stands for a closed value is that value. -/
theorem rv_eq {ι : Ren} : ∀ (n : Nat) {v v' : Value}, closedV n v = true → Rv ι v v' → v' = v := by
  intro n
  induction n with
  | zero => intro v v' h; cases h
  | succ n ih =>
    intro v v' h r
    have lists : ∀ {a a' : Array Value}, a.toList.all (closedV n) = true → a.toList.length = a'.toList.length → (∀ (i : Nat) x y, a.toList[i]? = some x → a'.toList[i]? = some y → Rv ι x y) → a' = a := by
      intro a a' hc hl hr
      apply Array.toList_inj.1
      refine List.ext_getElem? fun i => ?_
      cases hx : a.toList[i]? with
      | none => rw [List.getElem?_eq_none_iff] at hx ⊢; omega
      | some x =>
        cases hy : a'.toList[i]? with
        | none => rw [List.getElem?_eq_none_iff] at hy; have := (List.getElem?_eq_some_iff.1 hx).1; omega
        | some y => rw [ih (all_get hc i _ hx) (hr i x y hx hy)]
    cases r with
    | bool _ => rfl
    | tok k m => cases h
    | int _ _ => rfl
    | string _ => rfl
    | nilp => rfl
    | ptr _ => cases h
    | nils => rfl
    | slice _ _ => cases h
    | sliceU _ _ _ => cases h
    | sliceE => cases h
    | nilm => rfl
    | map _ => cases h
    | nilf => rfl
    | func h1 h2 h3 h4 =>
      have h' : ((_ : Array Value).toList.isEmpty && (_ : Array Value).toList.isEmpty) = true := h
      rw [Bool.and_eq_true] at h'
      have e1 := isEmpty_nil h'.1
      have e2 := isEmpty_nil h'.2
      subst e1
      subst e2
      have e3 := isEmpty_nil (a := _) (by rw [List.isEmpty_iff_length_eq_zero, ← h1]; rfl)
      have e4 := isEmpty_nil (a := _) (by rw [List.isEmpty_iff_length_eq_zero, ← h3]; rfl)
      rw [e3, e4]
    | yld _ => cases h
    | nili => rfl
    | iface r => rw [ih h r]
    | agg h1 h2 => rw [lists h h1 h2]
    | tuple h1 h2 => rw [lists h h1 h2]

/-- Does a call come to a value? -/
noncomputable def chkV (v : Value) (r : Option (Out × St)) : Bool :=
  match r with
  | some (.val v', _) => beqV 60 v' v
  | _ => false

/-- The evaluator with answers to some calls, and with a table for unknown values. -/
noncomputable def symT (T : Tb) (L : List (Nat × (List Value × Value))) (tkf : Op → List Value → Option Value) : Tb :=
  { withE T (constM L) [] with tk := tkf, keep := .nil }

/-- The answers to some calls are right. -/
noncomputable def AnsOk (P : Program) (E : World → Prop) (L : List (Nat × (List Value × Value))) : Prop :=
  ∀ x ∈ L, ∀ (ι : Ren) w args', E w → All2 (Rv ι) x.2.1 args'.toList → Calls P x.1 args' w fun e w' => ∃ v', e = .returned v' ∧ Rv ι x.2.2 v' ∧ Below w.heap.size w w'

theorem ans_nil (P : Program) (E : World → Prop) : AnsOk P E [] := fun x h => by cases h
theorem ans_cons {P : Program} {E : World → Prop} {f : Nat} {vs : List Value} {v : Value} {L : List (Nat × (List Value × Value))}
    (h : ∀ (ι : Ren) w args', E w → All2 (Rv ι) vs args'.toList → Calls P f args' w fun e w' => ∃ v', e = .returned v' ∧ Rv ι v v' ∧ Below w.heap.size w w') (hL : AnsOk P E L) : AnsOk P E ((f, (vs, v)) :: L) := by
  intro x hx
  rcases List.mem_cons.1 hx with rfl | hx
  · exact h
  · exact hL x hx

theorem sym_call {P : Program} {T : Tb} {w : World} {E : World → Prop} (X : Ctx P T w.heap.size E) {L : List (Nat × (List Value × Value))} (hL : AnsOk P E L) {tkf : Op → List Value → Option Value} (hK : TkOk P E tkf)
    (hE : E w) (hn : T.n0 ≤ w.heap.size) {n f : Nat} {args : List Value} {v : Value} (h : chkV v (exec (symT T L tkf) n (.call f args) (st0 T.n0)) = true) (hu : f < UNK) {args' : Array Value} (ha : ∀ ι, All2 (Rv ι) args args'.toList) :
    Calls P f args' w fun r w' => ∃ v' ι', r = .returned v' ∧ Rv ι' v v' ∧ Below w.heap.size w w' := by
  have X' : Ctx P (symT T L tkf) w.heap.size E := ⟨X.lp, X.rf, ⟨X.tb.ty, X.tb.fn, X.tb.ng, X.tb.mixed⟩, X.cmp, X.ext, X.prim, X.depth, X.keep, X.meth, hK⟩
  have hA : ACall (symT T L tkf) (moreC (constM L)) := const_a L
  have hC : CallOk1 P (symT T L tkf) w.heap.size E (moreC (constM L)) := const_c hL
  have hO : OrcA (symT T L tkf) := orcA_of (P := P) (base := w.heap.size) (E := E) (es := []) rfl (fun e he => by cases he) hA
  have hO2 : OrcOk P (symT T L tkf) w.heap.size E := orcOk_of (es := []) rfl (fun e he => by cases he) hC
  have hn' : (symT T L tkf).n0 = T.n0 := rfl
  unfold chkV at h
  split at h
  · rename_i v2 st' hx
    have e := beqV_eq 60 _ _ h
    subst e
    have s := (sound X' hO hO2 X'.tb.mixed n).call f args (st0 T.n0) _ st' hx (iota0 T.n0) w args' abs0 (inv0 _ hn) hE
    have hf : Fresh (iota0 T.n0) (st0 T.n0) st' := fun id h1 _ => by
      have h1 : T.n0 ≤ id := h1
      unfold iota0
      rw [if_neg (by omega)]
    refine ((s hf (ha _)).1 hu).mono ?_
    rintro e w' ⟨ι', s, he⟩
    cases e with
    | returned v' => exact ⟨v', ι', rfl, he, s.below (Nat.le_refl _)⟩
    | panicked ch => exact he.elim
    | outgrown => exact he.elim
  · cases h

/-- The same for a closed answer. -/
theorem sym_ans {P : Program} {T : Tb} {w : World} {E : World → Prop} (X : Ctx P T w.heap.size E) {L : List (Nat × (List Value × Value))} (hL : AnsOk P E L) {tkf : Op → List Value → Option Value} (hK : TkOk P E tkf)
    (hE : E w) (hn : T.n0 ≤ w.heap.size) {n f : Nat} {args : List Value} {v : Value} (h : chkV v (exec (symT T L tkf) n (.call f args) (st0 T.n0)) = true) (hv : closedV 40 v = true) (hu : f < UNK) {args' : Array Value} (ha : ∀ ι, All2 (Rv ι) args args'.toList) :
    Calls P f args' w fun r w' => r = .returned v ∧ Below w.heap.size w w' := by
  refine (sym_call X hL hK hE hn h hu ha).mono ?_
  rintro r w' ⟨v', ι', rfl, h1, h2⟩
  rw [rv_eq 40 hv h1]
  exact ⟨rfl, h2⟩

/-- The same where more is known of the worlds. -/
theorem ctx_more {P : Program} {T : Tb} {base : Nat} {E E' : World → Prop} (X : Ctx P T base E) (h : ∀ w, E' w → E w) (hk : ∀ w w', E' w → Below base w w' → E' w') : Ctx P T base E' :=
  ⟨X.lp, X.rf, X.tb, X.cmp, X.ext, fun f k hf args v hv w args' ι hE => X.prim f k hf args v hv w args' ι (h w hE), X.depth, hk, X.meth, fun op vs v hh ι ev w hE => X.tk op vs v hh ι ev w (h w hE)⟩

/-! Tables for unknown values: what their rows rest on -/
section
variable {P : Program} {T : Tb} (hT : TbOk P T) (hC : CmpOk P T)
include hT hC
theorem tk_bin {op : BinOp} {t yT : TypeId} {x y : Operand} {ev : Operand → Value} {ι : Ren} {v : Value} {w : World} (h : binV T op (isLit x || isLit y) t (ev x) (ev y) = some v) (hx : closedV 40 (ev x) = true) (hy : closedV 40 (ev y) = true)
    (dst : Option Nat) (ty : TypeId) (pos) (after) (guard) : ∃ v', (execOp ev ⟨dst, .binOp op t x y yT, ty, pos, after, guard⟩).run P w = .ok (.value v') w ∧ Rv ι v v' := by
  obtain ⟨v', h1, h2⟩ := binV_ok (ι := ι) hT hC w (rv_closed ι 40 _ hx) (rv_closed ι 40 _ hy) h
  refine ⟨v', ?_, h2⟩
  have e : execOp ev ⟨dst, .binOp op t x y yT, ty, pos, after, guard⟩ = (do pure (.value (← (do eqGuard op t x y (ev x) (ev y); binOp op t (ev x) (ev y) : Sem Value))) : Sem Next) := by
    unfold execOp
    simp only [bind_assoc]
  rw [e, bind_step h1]
  rfl
omit hC in
theorem tk_len {c : Call} {t : TypeId} {ev : Operand → Value} {s : ByteArray} {ι : Ren} {w : World} (hc : c.callee = .builtin .len) (ht : c.argTypes[0]? = some t) (hu : T.und t = some .string) (ha : c.args.toList.map ev = [.string s])
    (dst : Option Nat) (ty : TypeId) (pos) (after) (guard) : ∃ v', (execOp ev ⟨dst, .call c, ty, pos, after, guard⟩).run P w = .ok (.value v') w ∧ Rv ι (.int .i64 s.size) v' := by
  have hu' := run_und hT hu
  refine ⟨.int .i64 s.size, ?_, .int _ _⟩
  have e0 : c.args.map ev = #[.string s] := by apply Array.toList_inj.1; rw [Array.toList_map, ha]
  unfold execOp
  simp only [resolve, hc, e0]
  have h1 : (Builtin.len_ c.argTypes ty #[.string s]).run P w = .ok (.int .i64 s.size) w := by simp [Builtin.len_, ht, hu', goInt]
  exact (bind_step h1).trans rfl
end
end Go.Proofs.YthdnpikgnmdnnaaGreatDoor.Ev
