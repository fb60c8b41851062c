/- An evaluator of calls over abstract memory, and that what it answers is what a call answers. Part 4. -/
import Derived.Test.YtbamnidfhccgoaaGreatDoorEv3
import Derived.Defers
import Derived.Recover
namespace Go.Proofs.YtbamnidfhccgoaaGreatDoor.Ev
set_option linter.unusedSimpArgs false
set_option linter.unusedVariables false
set_option linter.unusedSectionVars false
open Go.RowKit
set_option linter.unusedSectionVars false

theorem HV_none {X : Nat → Bool} {V0 : View} {id : Nat} : ∀ {cs : List Cer}, (∀ c ∈ cs, ¬ c.chg id) → HV X V0 cs id = V0 id
  | [], _ => rfl
  | c :: cs, h => by
    simp only [HV]
    rw [if_neg (fun e => h c (List.mem_cons_self ..) e.2)]
    exact HV_none fun c' hc' => h c' (List.mem_cons_of_mem _ hc')

theorem HV_inv {X : Nat → Bool} {V0 : View} {id : Nat} {en : En} : ∀ {cs : List Cer}, HV X V0 cs id = some en → V0 id = some en ∨ ∃ k ∈ cs, X k.i = true ∧ k.chg id ∧ k.s1.h.get id = some en
  | [], h => .inl h
  | c :: cs, h => by
    simp only [HV] at h
    by_cases hc : X c.i = true ∧ c.chg id
    · rw [if_pos hc] at h
      exact .inr ⟨c, List.mem_cons_self .., hc.1, hc.2, h⟩
    · rw [if_neg hc] at h
      rcases HV_inv h with h | ⟨k, h1, h2⟩
      · exact .inl h
      · exact .inr ⟨k, List.mem_cons_of_mem _ h1, h2⟩

section
variable {T : Tb} {call : Nat → List Value → St → Option (Out × St)} {ops : Array Oper} {nt : Nat} {msk0 : List (Nat × Nat)} {t0 : Tr Value} {sB : St}
variable (hac : ACall T call) (hb : Abs T sB) (hm : sB.msk = msk0)
variable {L : List Cer} {tF : Tr Value} {sF : St} (R : Row T call ops nt msk0 t0 sB L tF sF)
include hac hb hm R

/-- Two operations' numbers of new blocks are apart. -/
theorem lap {j c : Cer} (hj : j ∈ L) (hc : c ∈ L) {id : Nat} (h1 : j.s.next ≤ id) (h2 : id < j.s1.next) (h3 : c.s.next ≤ id) (h4 : id < c.s1.next) : j = c := by
  rcases Nat.lt_trichotomy j.i c.i with hlt | heq | hgt
  · have := (R.two hac hb hm hj hc hlt).next; omega
  · exact R.uniq j hj c hc heq
  · have := (R.two hac hb hm hc hj hgt).next; omega

theorem order {j c : Cer} (hj : j ∈ L) (hc : c ∈ L) {id : Nat} (h1 : j.s.next ≤ id) (h2 : id < c.s.next) : j.i < c.i := by
  have oj := (R.one hac hb hm hj).stp.next
  have oc := (R.one hac hb hm hc).stp.next
  have oj : j.s.next ≤ j.s1.next := oj
  have oc : c.s.next ≤ c.s1.next := oc
  rcases Nat.lt_trichotomy j.i c.i with hlt | heq | hgt
  · exact hlt
  · rw [R.uniq j hj c hc heq] at h1; omega
  · have := (R.two hac hb hm hc hj hgt).next; omega

omit R in
theorem stp_some {a b : St} (h : AStp T a b) {id : Nat} {en : En} (hlt : id < a.next) (he : b.h.get id = some en) : ∃ e, a.h.get id = some e ∧ e.fam = en.fam := by
  cases ha : a.h.get id with
  | none => rw [h.gone id hlt ha] at he; cases he
  | some e => exact ⟨e, rfl, (h.fam id e en ha he).symm⟩

/-- Where an entry comes from, and that its family stays. -/
theorem origin {X : Nat → Bool} (hX : Shut L X) {id : Nat} {en : En} (h : HV X sB.see L id = some en) :
    (id < sB.next ∧ ∃ e, sB.see id = some e ∧ e.fam = en.fam) ∨ ∃ j ∈ L, X j.i = true ∧ j.s.next ≤ id ∧ id < j.s1.next ∧ ∃ e, j.s1.h.get id = some e ∧ e.fam = en.fam := by
  rcases HV_inv h with h | ⟨k, hk, hXk, hch, he⟩
  · exact .inl ⟨hb.lt id en (see_get h), en, h, rfl⟩
  · have o := R.one hac hb hm hk
    obtain ⟨c1, c2, c3⟩ := o.chg_wr hch
    by_cases hid : id < k.s.next
    · obtain ⟨ek, k1, k2⟩ := stp_some hac hb hm (a := k.s0) o.stp hid he
      by_cases hB : id < sB.next
      · obtain ⟨e0, g1, g2⟩ := stp_some hac hb hm o.fromB hB k1
        refine .inl ⟨hB, e0, ?_, g2.trans k2⟩
        rw [see_eq, g1]
        rw [hm]
        cases hh : hidden msk0 id with
        | false => rfl
        | true => rw [o.hid0 id hh] at c1; cases c1
      · obtain ⟨j, hj, j1, j2⟩ := R.cover id (by omega) (Nat.lt_of_lt_of_le c2 ((R.rowed hac hb hm).hi k hk))
        have hlt := order hac hb hm R hj hk j1 hid
        have two := R.two hac hb hm hj hk hlt
        have hp : k.pr.testBit j.i = true := by
          cases hp : k.pr.testBit j.i with
          | true => rfl
          | false => rw [two.hid hp id j1 j2] at c1; cases c1
        obtain ⟨ej, e1, e2⟩ := stp_some hac hb hm two.stp j2 k1
        exact .inr ⟨j, hj, hX k hk hXk _ hp, j1, j2, ej, e1, e2.trans k2⟩
    · exact .inr ⟨k, hk, hXk, by omega, c2, en, he, rfl⟩

/-- Two operations that may stand either way write to no block of one family. -/
theorem one_fam {c k : Cer} (hc : c ∈ L) (hk : k ∈ L) (hlt : c.i < k.i) (hp : k.pr.testBit c.i = false) {b id : Nat} {eb ek : En} (h1 : b ∈ c.wr) (h2 : c.s0.see b = some eb) (h3 : id ∈ k.wr) (h4 : k.s0.see id = some ek) : ek.fam ≠ eb.fam := by
  intro hf
  have oc := R.one hac hb hm hc
  have ok := R.one hac hb hm hk
  have two := R.two hac hb hm hc hk hlt
  have hmem : b ∈ members k.s ek.fam := by
    rw [hf]
    have g1 : b ∈ members c.s0 eb.fam := oc.abs0.own b eb (see_get h2)
    exact two.stp.mem _ _ (oc.stp.mem _ _ g1)
  obtain ⟨ek', g1, _, g2⟩ := ok.sight id h3
  rw [h4] at g1; cases g1
  have g3 := g2 b hmem
  have hfr := two.free hp
  simp only [freeOf, apart, Bool.and_eq_true] at hfr
  obtain ⟨l, hl, hn⟩ := clear_inv hfr.1.2 h1
  rw [hl] at g3
  have hb1 : b < c.s.next := (mem_oldOf.1 h1).2
  have hcn : c.s.next ≤ c.s1.next := oc.stp.next
  have := two.next
  have g4 : hidden (allBut k.s.next 0 l) b = true := hidden_allBut (Nat.zero_le _) (by omega) hn
  have g5 : hidden (allBut k.s.next 0 l) b = false := g3
  rw [g4] at g5
  cases g5

/-- What lies in the family of a block written is in sight of what writes it. -/
theorem fam_seen {X : Nat → Bool} {c : Cer} (m : May L X c) {b id : Nat} {eb en : En} (h1 : b ∈ c.wr) (h2 : c.s0.see b = some eb) (h3 : HV X sB.see L id = some en) (h4 : ¬ c.chg id) (hf : en.fam = eb.fam) :
    id < c.s.next ∧ hidden c.msk id = false := by
  have oc := R.one hac hb hm m.mem
  have hBn : sB.next ≤ c.s.next := oc.fromB.next
  have org := origin hac hb hm R m.shut h3
  obtain ⟨eb', g1, g2, g3⟩ := oc.sight b h1
  rw [h2] at g1; cases g1
  have hcb : eb.fam < c.s.next := oc.abs0.famlt b eb (see_get h2)
  by_cases hid : id < c.s.next
  · refine ⟨hid, ?_⟩
    cases hh : hidden c.msk id with
    | false => rfl
    | true =>
      exfalso
      rcases oc.hidInv id hh with k | ⟨j0, hj0, k1, k2, k3, k4⟩ | k
      · rw [HV_none (fun c' hc' e => by
          have := ((R.one hac hb hm hc').chg_wr e).1
          rw [(R.one hac hb hm hc').hid0 id k] at this; cases this)] at h3
        rw [see_hid (by rw [hm]; exact k)] at h3; cases h3
      · have hB0 : sB.next ≤ j0.s.next := (R.one hac hb hm hj0).fromB.next
        rcases org with ⟨q, _⟩ | ⟨j, hj, _, q1, q2, ej, q3, q4⟩
        · omega
        · have := lap hac hb hm R hj hj0 q1 q2 k3 k4
          subst this
          have oj := R.one hac hb hm hj
          rcases oj.stp.newfam id ej q1 q3 with p | ⟨b2, eb2, p1, p2, p3, p4⟩
          · have : ej.fam < j.s1.next := oj.stp.abs.famlt id ej q3
            exact g2 j hj k1 k2 ⟨by rw [← hf, ← q4]; exact p, by rw [← hf, ← q4]; exact this⟩
          · have hw : b2 ∈ j.wr := mem_oldOf.2 ⟨p1, p2⟩
            rcases oj.new with n | n | n
            · rw [n] at hw; cases hw
            · have hfr := (R.two hac hb hm hj m.mem k1).free k2
              simp only [freeOf, apart, Bool.and_eq_true] at hfr
              obtain ⟨l, hl, _⟩ := clear_inv hfr.1.1 h1
              rw [show (Cer.rcd ops.toList j).rd = j.rd from rfl, n] at hl; cases hl
            · omega
      · -- hidden by what the operation looks at
        have hk : ∀ k ∈ L, k.chg id → X k.i = Nat.blt k.i c.i := by
          intro k hk hch
          have ok := R.one hac hb hm hk
          obtain ⟨w1, w2, w3⟩ := ok.chg_wr hch
          have hno : ∀ {a b : Nat}, b ≤ a → Nat.blt a b = false := fun {a b} hab => by
            cases h : Nat.blt a b with
            | false => rfl
            | true => have := Nat.le_of_ble_eq_true h; omega
          -- the family of what an operation has written there
          have famk : ∀ ek, k.s0.h.get id = some ek → id < k.s.next → ek.fam = en.fam := by
            intro ek hek hidk
            have hek : k.s.h.get id = some ek := hek
            rcases org with ⟨q, e, q1, q2⟩ | ⟨j, hj, _, q1, q2, ej, q3, q4⟩
            · rw [← q2]; exact ok.fromB.fam id e ek (see_get q1) hek
            · have hlt := order hac hb hm R hj hk q1 hidk
              rw [← q4]
              exact (R.two hac hb hm hj hk hlt).stp.fam id ej ek q3 hek
          rcases Nat.lt_trichotomy k.i c.i with hlt | heq | hgt
          · rw [show Nat.blt k.i c.i = true from Nat.ble_eq_true_of_le hlt]
            cases hX : X k.i with
            | true => rfl
            | false =>
              exfalso
              by_cases hidk : id < k.s.next
              · obtain ⟨ek, s1, _, _⟩ := ok.sight id (w3 hidk)
                exact one_fam hac hb hm R hk m.mem hlt (m.early hX) (w3 hidk) s1 h1 h2 (by rw [famk ek (see_get s1) hidk, hf])
              · rcases org with ⟨q, _⟩ | ⟨j, hj, hXj, q1, q2, _⟩
                · have : sB.next ≤ k.s.next := ok.fromB.next
                  omega
                · have := lap hac hb hm R hj hk q1 q2 (by omega) w2
                  rw [this, hX] at hXj; cases hXj
          · exact absurd (by rw [← R.uniq k hk c m.mem heq]; exact hch) h4
          · rw [hno (Nat.le_of_lt hgt)]
            cases hX : X k.i with
            | false => rfl
            | true =>
              exfalso
              have two := R.two hac hb hm m.mem hk hgt
              have hcn : c.s.next ≤ c.s1.next := oc.stp.next
              have hidk : id < k.s.next := by have := two.next; omega
              obtain ⟨ek, s1, _, _⟩ := ok.sight id (w3 hidk)
              exact one_fam hac hb hm R m.mem hk hgt (m.late hk hX) h1 h2 (w3 hidk) s1 (by rw [famk ek (see_get s1) hidk, hf])
        have h5 : c.s.see id = some en := by
          rw [← HV_at hac hb hm R id c m.mem, ← h3]
          exact (HV_congr hk).symm
        have h6 : id ∈ members c.s eb.fam := by rw [← hf]; exact oc.abs.own id en (see_get h5)
        rw [g3 id h6] at k; cases k
  · exfalso
    rcases org with ⟨q, _⟩ | ⟨j, hj, hXj, q1, q2, ej, q3, q4⟩
    · omega
    · have hne : j ≠ c := fun e => by rw [e, m.out] at hXj; cases hXj
      have oj := R.one hac hb hm hj
      have hgt : c.i < j.i := by
        rcases Nat.lt_trichotomy j.i c.i with hlt | heq | hgt
        · have := (R.two hac hb hm hj m.mem hlt).next; omega
        · exact absurd (R.uniq j hj c m.mem heq) hne
        · exact hgt
      have two := R.two hac hb hm m.mem hj hgt
      have hcn : c.s.next ≤ c.s1.next := oc.stp.next
      have htn := two.next
      rcases oj.stp.newfam id ej q1 q3 with p | ⟨b2, eb2, p1, p2, p3, p4⟩
      · have p : j.s.next ≤ ej.fam := p
        rw [q4, hf] at p; omega
      · have hw : b2 ∈ j.wr := mem_oldOf.2 ⟨p1, p2⟩
        rcases oj.new with n | n | n
        · rw [n] at hw; cases hw
        · have hfr := two.free (m.late hj hXj)
          simp only [freeOf, apart, Bool.and_eq_true] at hfr
          obtain ⟨l, hl, _⟩ := clear_inv hfr.1.2 h1
          rw [n] at hl; cases hl
        · omega

end
end Go.Proofs.YtbamnidfhccgoaaGreatDoor.Ev

namespace Go.Proofs.YtbamnidfhccgoaaGreatDoor.Ev
set_option linter.unusedSimpArgs false
set_option linter.unusedVariables false
set_option linter.unusedSectionVars false
open Go.RowKit
set_option linter.unusedSectionVars false

/-- What holds in the midst of a drawn region. -/
structure Mid (T : Tb) (base : Nat) (E : World → Prop) (nt : Nat) (t0 : Tr Value) (ds : List (Nat × List Value)) (sB sF : St) (L : List Cer) (ι0 : Ren) (w0 : World) (X : Nat → Bool) (ι : Ren) (w : World) (a : Act) : Prop where
  inv : Inv T.n0 base ι (HV X sB.see L) w
  tr : ∀ d x, HT X t0 L d = some x → ∃ y, a.tmps[d]? = some y ∧ Rv ι x y
  size : a.tmps.size = nt
  ds : All2 (DfR ι) ds a.defers
  hE : E w
  le : ι0.le ι
  dom : ∀ id, ι id ≠ ι0 id → ∃ c ∈ L, X c.i = true ∧ c.s.next ≤ id ∧ id < c.s1.next
  frame : ∀ c, c < w0.heap.size → (∀ b z, b ∈ sF.wl → ι b ≠ some (c, z)) → w.heap[c]? = w0.heap[c]?
  newid : ∀ id c z, sB.next ≤ id → ι0 id = none → ι id = some (c, z) → w0.heap.size ≤ c ∨ ∃ b z', b ∈ sF.wl ∧ b < sB.next ∧ ι0 b = some (c, z') ∧ ∀ en, HV X sB.see L id = some en → ∃ eb, sB.h.get b = some eb ∧ eb.fam = en.fam
  os : w.os = w0.os
  tape : w.tape = w0.tape
  output : w.output = w0.output
  grown : w0.heap.size ≤ w.heap.size

section
variable {P : Program} {T : Tb} {base : Nat} {E : World → Prop} (Xc : Ctx P T base E)
variable {call : Nat → List Value → St → Option (Out × St)} {ops : Array Oper} {nt : Nat} {msk0 : List (Nat × Nat)} {t0 : Tr Value} {sB : St} {ds : List (Nat × List Value)}
variable (hac : ACall T call) (hb : Abs T sB) (hm : sB.msk = msk0)
variable {L : List Cer} {tF : Tr Value} {sF : St} (R : Row T call ops nt msk0 t0 sB L tF sF)
variable {ι0 : Ren} {w0 : World} (hf0 : Fresh ι0 sB sF)
include Xc hac hb hm R hf0

theorem Mid.fresh {X : Nat → Bool} {ι : Ren} {w : World} {a : Act} (M : Mid T base E nt t0 ds sB sF L ι0 w0 X ι w a) {c : Cer} (m : May L X c) : ∀ id, c.s.next ≤ id → id < c.s1.next → ι id = none := by
  intro id h1 h2
  by_cases e : ι id = ι0 id
  · rw [e]
    have : sB.next ≤ c.s.next := (R.one hac hb hm m.mem).fromB.next
    have := (R.rowed hac hb hm).hi c m.mem
    exact hf0 id (by omega) (by omega)
  · obtain ⟨j, hj, hX, j1, j2⟩ := M.dom id e
    have := lap hac hb hm R hj m.mem j1 j2 h1 h2
    rw [this, m.out] at hX; cases hX

theorem Mid.sees {X : Nat → Bool} {ι : Ren} {w : World} {a : Act} (_M : Mid T base E nt t0 ds sB sF L ι0 w0 X ι w a) {c : Cer} (m : May L X c) : ∀ id en, c.s0.see id = some en → HV X sB.see L id = some en := by
  intro id en h
  have o := R.one hac hb hm m.mem
  have h1 := see_get h
  have h2 := see_vis h
  rw [seen_same hac hb hm R m (o.abs0.lt id en h1) h2]
  exact h1

theorem Mid.inv0 {X : Nat → Bool} {ι : Ren} {w : World} {a : Act} (M : Mid T base E nt t0 ds sB sF L ι0 w0 X ι w a) {c : Cer} (m : May L X c) : Inv T.n0 base ι c.s0.see w :=
  M.inv.less (M.sees Xc hac hb hm R hf0 m)

/-- Where an old place is written. -/
theorem Mid.hit {X : Nat → Bool} {ι ι' : Ren} {w w' : World} {a : Act} (M : Mid T base E nt t0 ds sB sF L ι0 w0 X ι w a) {c : Cer} (m : May L X c) (s : Stp T base c.s0 c.s1 ι ι' w w') {k b z : Nat} (hk : k < w.heap.size) (h1 : b ∈ c.s1.wl) (h2 : ι' b = some (k, z)) :
    ∃ b' z' eb, b' ∈ c.wr ∧ ι b' = some (k, z') ∧ c.s0.see b' = some eb ∧ HV X sB.see L b' = some eb := by
  have o := R.one hac hb hm m.mem
  have old : ∀ b z, b ∈ c.s1.wl → b < c.s.next → ι b = some (k, z) → ∃ b' z' eb, b' ∈ c.wr ∧ ι b' = some (k, z') ∧ c.s0.see b' = some eb ∧ HV X sB.see L b' = some eb := by
    intro b z g1 g2 g3
    have hw : b ∈ c.wr := mem_oldOf.2 ⟨g1, g2⟩
    obtain ⟨eb, s1, _⟩ := o.sight b hw
    exact ⟨b, z, eb, hw, g3, s1, M.sees Xc hac hb hm R hf0 m b eb s1⟩
  by_cases hlt : b < c.s.next
  · have e : ι' b = ι b := by
      by_cases e : ι' b = ι b
      · exact e
      · have h : c.s.next ≤ b := (s.dom b e).1
        omega
    exact old b z h1 hlt (by rw [← e]; exact h2)
  · have hn : ι b = none := M.fresh Xc hac hb hm R hf0 m b (by omega) (s.abs.wl b h1).2
    rcases s.newid b k z (by show c.s.next ≤ b; omega) hn h2 with h | ⟨b', z', p1, p2, p3, _⟩
    · omega
    · exact old b' z' p1 p2 p3

theorem mid_step {X : Nat → Bool} {ι ι' : Ren} {w w' : World} {a : Act} (M : Mid T base E nt t0 ds sB sF L ι0 w0 X ι w a) {c : Cer} (m : May L X c) (s : Stp T base c.s0 c.s1 ι ι' w w') {v' : Value} (hv : Rv ι' c.v v') :
    Mid T base E nt t0 ds sB sF L ι0 w0 (with1 X c.i) ι' w' (a.put c.o.dst v') := by
  have o := R.one hac hb hm m.mem
  have sees := M.sees Xc hac hb hm R hf0 m
  have fresh := M.fresh Xc hac hb hm R hf0 m
  have hsB : sB.next ≤ c.s.next := o.fromB.next
  have hsF := (R.rowed hac hb hm).hi c m.mem
  have hmsk : c.s1.msk = c.msk := s.msk
  -- what has been changed is in sight
  have seen1 : ∀ id en, HV (with1 X c.i) sB.see L id = some en → c.chg id → c.s1.see id = some en := by
    intro id en h hch
    rw [next_chg hac hb hm R m hch] at h
    rw [see_eq (by rw [hmsk]; exact (o.chg_wr hch).1)]; exact h
  have same : ∀ id en, HV (with1 X c.i) sB.see L id = some en → ¬ c.chg id → HV X sB.see L id = some en := by
    intro id en h hch
    rw [next_same hac hb hm R m hch] at h; exact h
  -- what lies where something is written is in sight
  have near : ∀ id en k z, HV X sB.see L id = some en → ¬ c.chg id → ι id = some (k, z) → k < w.heap.size → (∃ b z', b ∈ c.s1.wl ∧ ι' b = some (k, z')) → c.s1.see id = some en := by
    intro id en k z h hch hι hk ⟨b, z', g1, g2⟩
    obtain ⟨b', z2, eb, p1, p2, p3, p4⟩ := M.hit Xc hac hb hm R hf0 m s hk g1 g2
    have hfam : en.fam = eb.fam := M.inv.fam id b' en eb k z z2 h p4 hι p2
    obtain ⟨q1, q2⟩ := fam_seen hac hb hm R m p1 p3 h hch hfam
    have h5 : c.s.h.get id = some en := by rw [← seen_same hac hb hm R m q1 q2]; exact h
    have h6 : c.s1.h.get id = c.s.h.get id := Classical.byContradiction hch
    rw [see_eq (by rw [hmsk]; exact q2), h6, h5]
  have hgone : ∀ id e1, id < c.s.next → c.s1.h.get id = some e1 → ∃ e, c.s.h.get id = some e ∧ e.fam = e1.fam := by
    intro id e1 h1 h2
    cases he : c.s.h.get id with
    | none => have := s.gone id h1 he; rw [h2] at this; cases this
    | some e => exact ⟨e, rfl, (s.fam id e e1 he h2).symm⟩
  -- an entry in sight beside one out of it, at one place
  have mixed : ∀ i j ei ej k z z', c.s1.see i = some ei → HV X sB.see L j = some ej → ι j = some (k, z') → k < w.heap.size → ι' i = some (k, z) → ei.fam = ej.fam := by
    intro i j ei ej k z z' h1 h2 h3 hk h4
    have hv1 : hidden c.msk i = false := by rw [← hmsk]; exact see_vis h1
    by_cases hi : i < c.s.next
    · obtain ⟨e0, g1, g2⟩ := hgone i ei hi (see_get h1)
      have g3 : HV X sB.see L i = some e0 := by rw [seen_same hac hb hm R m hi hv1]; exact g1
      obtain ⟨k2, z2, g4, _⟩ := M.inv.ob i e0 g3
      have := s.le _ _ g4
      rw [h4] at this; cases this
      rw [← g2]
      exact M.inv.fam i j e0 ej k z z' g3 h2 g4 h3
    · have hlt : i < c.s1.next := s.abs.lt i ei (see_get h1)
      rcases s.newid i k z (by show c.s.next ≤ i; omega) (fresh i (by omega) hlt) h4 with h | ⟨b', z2, p1, p2, p3, p4⟩
      · omega
      · obtain ⟨eb, e1, e2⟩ := p4 ei (see_get h1)
        have hw : b' ∈ c.wr := mem_oldOf.2 ⟨p1, p2⟩
        obtain ⟨eb', s1, _⟩ := o.sight b' hw
        have : eb' = eb := by have := see_get s1; rw [e1] at this; cases this; rfl
        subst this
        rw [← e2]
        exact M.inv.fam b' j eb' ej k z2 z' (sees b' eb' s1) h2 p3 h3
  refine
    { inv := ⟨fun id en h => ?_, fun i j ei ej k z z' h1 h2 h3 h4 => ?_, s.inv.sep, s.inv.glob, s.inv.size⟩
      tr := fun d x hx => ?_
      size := ?_
      ds := ?_
      hE := Xc.keepS s M.inv.size M.hE
      le := Ren.le_trans M.le s.le
      dom := fun id h => ?_
      frame := fun k hk hw => ?_
      newid := fun id k z h1 h2 h3 => ?_
      os := s.os.trans M.os
      tape := s.tape.trans M.tape
      output := s.output.trans M.output
      grown := Nat.le_trans M.grown s.size }
  · -- what a block holds
    by_cases hch : c.chg id
    · exact s.inv.ob id en (seen1 id en h hch)
    · have h' := same id en h hch
      obtain ⟨k, sz, g1, g2⟩ := M.inv.ob id en h'
      by_cases hx : ∃ b z', b ∈ c.s1.wl ∧ ι' b = some (k, z')
      · exact s.inv.ob id en (near id en k sz h' hch g1 g2.lt hx)
      · refine ⟨k, sz, s.le _ _ g1, (g2.world (s.frame k g2.lt fun b z hb e => hx ⟨b, z, hb, e⟩)).mono s.le⟩
  · -- families
    by_cases c1 : c.chg i <;> by_cases c2 : c.chg j
    · exact s.inv.fam i j ei ej k z z' (seen1 i ei h1 c1) (seen1 j ej h2 c2) h3 h4
    · have g := same j ej h2 c2
      obtain ⟨k2, z2, q1, q2⟩ := M.inv.ob j ej g
      have := s.le _ _ q1
      rw [h4] at this; cases this
      exact mixed i j ei ej k z z' (seen1 i ei h1 c1) g q1 q2.lt h3
    · have g := same i ei h1 c1
      obtain ⟨k2, z2, q1, q2⟩ := M.inv.ob i ei g
      have := s.le _ _ q1
      rw [h3] at this; cases this
      exact (mixed j i ej ei k z' z (seen1 j ej h2 c2) g q1 q2.lt h4).symm
    · have g1 := same i ei h1 c1
      have g2 := same j ej h2 c2
      obtain ⟨k2, z2, q1, _⟩ := M.inv.ob i ei g1
      obtain ⟨k3, z3, q3, _⟩ := M.inv.ob j ej g2
      have e1 := s.le _ _ q1
      rw [h3] at e1; cases e1
      have e2 := s.le _ _ q3
      rw [h4] at e2; cases e2
      exact M.inv.fam i j ei ej k z z' g1 g2 q1 q3
  · -- temporaries
    by_cases hd : c.o.dst = some d
    · rw [next_t hac hb hm R m hd] at hx; cases hx
      refine ⟨v', ?_, hv⟩
      have hlt : d < a.tmps.size := by rw [M.size]; exact o.dlt d hd
      rw [hd]
      simp [Act.put, hlt]
    · rw [next_t_ne hac hb hm R m hd] at hx
      obtain ⟨y, g1, g2⟩ := M.tr d x hx
      refine ⟨y, ?_, g2.mono s.le⟩
      cases hdd : c.o.dst with
      | none => exact g1
      | some e =>
        have hne : e ≠ d := fun he => hd (by rw [hdd, he])
        simp only [Act.put]
        rw [Array.getElem?_setIfInBounds_ne hne]
        exact g1
  · cases c.o.dst <;> simp [Act.put, M.size]
  · have h1 : All2 (DfR ι') ds a.defers := M.ds.mono fun x d ⟨cap, h1, h2⟩ => ⟨cap, h1, h2.mono fun _ _ k => k.mono s.le⟩
    have e : (a.put c.o.dst v').defers = a.defers := by cases c.o.dst <;> rfl
    rw [e]; exact h1
  · by_cases e : ι id = ι0 id
    · have := s.dom id (by rw [e]; exact h)
      exact ⟨c, m.mem, with1_self, this.1, this.2⟩
    · obtain ⟨j, hj, hX, j1, j2⟩ := M.dom id e
      refine ⟨j, hj, ?_, j1, j2⟩
      unfold with1; rw [hX, Bool.true_or]
  · have hle : ∀ b z, b ∈ sF.wl → ι b ≠ some (k, z) := fun b z hb e => hw b z hb (s.le _ _ e)
    have hk' : k < w.heap.size := Nat.lt_of_lt_of_le hk M.grown
    refine (s.frame k hk' fun b z hbw e => ?_).trans (M.frame k hk hle)
    obtain ⟨b', z', eb, p1, p2, _⟩ := M.hit Xc hac hb hm R hf0 m s hk' hbw e
    exact hle b' z' (R.wls c m.mem b' p1) p2
  · cases hι : ι id with
    | some x =>
      have := s.le _ _ hι
      rw [h3] at this; cases this
      rcases M.newid id k z h1 h2 hι with h | ⟨b, z', p1, p2, p3, p4⟩
      · exact .inl h
      · refine .inr ⟨b, z', p1, p2, p3, fun en hen => ?_⟩
        by_cases hch : c.chg id
        · have hs1 := seen1 id en hen hch
          have hlt : id < c.s.next := by
            rcases Nat.lt_or_ge id c.s.next with hlt | hge
            · exact hlt
            · have := fresh id hge (s.abs.lt id en (see_get hs1)); rw [hι] at this; cases this
          obtain ⟨e0, g1, g2⟩ := hgone id en hlt (see_get hs1)
          have g3 : HV X sB.see L id = some e0 := by rw [seen_same hac hb hm R m hlt (o.chg_wr hch).1]; exact g1
          rw [← g2]; exact p4 e0 g3
        · exact p4 en (same id en hen hch)
    | none =>
      have hd := s.dom id (by rw [hι, h3]; simp)
      have hd1 : c.s.next ≤ id := hd.1
      rcases s.newid id k z hd.1 hι h3 with h | ⟨b', z', p1, p2, p3, p4⟩
      · exact .inl (Nat.le_trans M.grown h)
      · have hw : b' ∈ c.wr := mem_oldOf.2 ⟨p1, p2⟩
        obtain ⟨eb', s1, _⟩ := o.sight b' hw
        have hch : ∀ en, HV (with1 X c.i) sB.see L id = some en → c.s1.h.get id = some en := by
          intro en hen
          by_cases hch : c.chg id
          · exact see_get (seen1 id en hen hch)
          · obtain ⟨k2, z2, q1, _⟩ := M.inv.ob id en (same id en hen hch)
            rw [hι] at q1; cases q1
        by_cases hB : b' < sB.next
        · have e : ι b' = ι0 b' := by
            by_cases e : ι b' = ι0 b'
            · exact e
            · obtain ⟨j, hj, _, j1, _⟩ := M.dom b' e
              have : sB.next ≤ j.s.next := (R.one hac hb hm hj).fromB.next
              omega
          refine .inr ⟨b', z', R.wls c m.mem b' hw, hB, by rw [← e]; exact p3, fun en hen => ?_⟩
          obtain ⟨eb, e1, e2⟩ := p4 en (hch en hen)
          obtain ⟨e0, f1, f2⟩ := stp_some hac hb hm o.fromB hB e1
          exact ⟨e0, f1, f2.trans e2⟩
        · have hb0 : ι0 b' = none := hf0 b' (by omega) (by have : b' < c.s.next := p2; have : c.s.next ≤ c.s1.next := s.next; omega)
          rcases M.newid b' k z' (by omega) hb0 p3 with h | ⟨b2, z2, r1, r2, r3, r4⟩
          · exact .inl h
          · refine .inr ⟨b2, z2, r1, r2, r3, fun en hen => ?_⟩
            obtain ⟨eb, e1, e2⟩ := p4 en (hch en hen)
            have : eb' = eb := by have := see_get s1; rw [e1] at this; cases this; rfl
            subst this
            obtain ⟨e0, f1, f2⟩ := r4 eb' (sees b' eb' s1)
            exact ⟨e0, f1, f2.trans e2⟩

end
end Go.Proofs.YtbamnidfhccgoaaGreatDoor.Ev

namespace Go.Proofs.YtbamnidfhccgoaaGreatDoor.Ev
set_option linter.unusedSimpArgs false
set_option linter.unusedVariables false
set_option linter.unusedSectionVars false
open Go.RowKit
set_option linter.unusedSectionVars false

noncomputable def cnt (X : Nat → Bool) : Nat → Nat
  | 0 => 0
  | n + 1 => cnt X n + cond (X n) 0 1

theorem cnt_all {X : Nat → Bool} : ∀ {n : Nat}, cnt X n = 0 → ∀ i < n, X i = true
  | 0, _, i, hi => by omega
  | n + 1, h, i, hi => by
    simp only [cnt] at h
    cases hX : X n with
    | false => rw [hX] at h; simp at h
    | true =>
      by_cases e : i = n
      · rw [e]; exact hX
      · rw [hX] at h; exact cnt_all (X := X) (by simpa using h) i (by omega)

theorem cnt_with {X : Nat → Bool} {i : Nat} (hX : X i = false) : ∀ {n : Nat}, (n ≤ i → cnt (with1 X i) n = cnt X n) ∧ (i < n → cnt (with1 X i) n + 1 = cnt X n)
  | 0 => ⟨fun _ => rfl, fun h => by omega⟩
  | n + 1 => by
    have ih := cnt_with hX (n := n)
    refine ⟨fun h => ?_, fun h => ?_⟩
    · simp only [cnt]
      rw [ih.1 (by omega), with1_ne (by omega)]
    · simp only [cnt]
      by_cases e : i = n
      · rw [ih.1 (by omega)]
        subst e
        rw [with1_self, hX]; rfl
      · rw [with1_ne (Ne.symm e)]
        have := ih.2 (by omega)
        omega

noncomputable def Xl (listed : Array Bool) : Nat → Bool := fun i => listed.getD i false

theorem Xl_set {listed : Array Bool} {i : Nat} (hi : i < listed.size) : Xl (listed.setIfInBounds i true) = with1 (Xl listed) i := by
  funext j
  by_cases e : j = i
  · subst e
    rw [with1_self]
    simp [Xl, hi]
  · rw [with1_ne e]
    simp [Xl, Array.getElem?_setIfInBounds_ne (Ne.symm e)]

theorem Xl_true {listed : Array Bool} {i : Nat} (hi : i < listed.size) : listed.getD i true = Xl listed i := by
  simp [Xl, hi]

theorem HV_false {X : Nat → Bool} (hX : ∀ i, X i = false) {V0 : View} {id : Nat} : ∀ {cs : List Cer}, HV X V0 cs id = V0 id
  | [] => rfl
  | c :: cs => by
    simp only [HV]
    rw [if_neg (fun e => by rw [hX] at e; cases e.1)]
    exact HV_false hX

theorem HT_false {X : Nat → Bool} (hX : ∀ i, X i = false) {t0 : Tr Value} {d : Nat} : ∀ {cs : List Cer}, HT X t0 cs d = t0.get d
  | [] => rfl
  | c :: cs => by
    simp only [HT]
    rw [if_neg (fun e => by rw [hX] at e; cases e.1)]
    exact HT_false hX

section
variable {P : Program} {T : Tb} {base : Nat} {E : World → Prop} (Xc : Ctx P T base E)
variable {call : Nat → List Value → St → Option (Out × St)} {ops : Array Oper} {nt : Nat} {msk0 : List (Nat × Nat)} {t0 : Tr Value} {sB : St} {ds : List (Nat × List Value)}
variable (hcall : CallOk P T base E call) (hac : ACall T call) (hb : Abs T sB) (hm : sB.msk = msk0)
variable {L : List Cer} {tF : Tr Value} {sF : St} (R : Row T call ops nt msk0 t0 sB L tF sF) (hL : L.length = ops.size)
variable {ι0 : Ren} {w0 : World} (hf0 : Fresh ι0 sB sF) {Q : Exit → Act → World → Prop}
include Xc hac hb hm R hf0

/-- All has been carried out. -/
theorem Mid.done (hi0 : Inv T.n0 base ι0 sB.see w0) {X : Nat → Bool} {ι : Ren} {w : World} {a : Act} (M : Mid T base E nt t0 ds sB sF L ι0 w0 X ι w a) (hX : ∀ c ∈ L, X c.i = true) :
    Stp T base sB sF ι0 ι w0 w ∧ FrR ι nt ⟨tF, ds⟩ a := by
  have r := R.rowed hac hb hm
  have hv : ∀ id, HV X sB.see L id = sF.see id := fun id => by
    rw [← HV_all hac hb hm R id]
    exact HV_congr fun c hc _ => hX c hc
  have ht : ∀ d, HT X t0 L d = tF.get d := fun d => by
    rw [← HT_all hac hb hm R d]
    exact HT_congr fun c hc _ => hX c hc
  refine ⟨
    { abs := r.abs
      inv := M.inv.less fun id en h => by rw [hv]; exact h
      le := M.le
      dom := fun id h => ?_
      next := r.stp.next
      msk := r.stp.msk
      mem := r.stp.mem
      wl := r.stp.wl
      old := r.stp.old
      hid := r.stp.hid
      fam := r.stp.fam
      gone := r.stp.gone
      newfam := r.stp.newfam
      newid := fun id k z h1 h2 h3 => ?_
      frame := M.frame
      os := M.os
      tape := M.tape
      output := M.output
      size := M.grown }, ⟨fun d x hx => M.tr d x (by rw [ht]; exact hx), M.size, M.ds⟩⟩
  · obtain ⟨j, hj, _, j1, j2⟩ := M.dom id h
    have : sB.next ≤ j.s.next := (R.one hac hb hm hj).fromB.next
    have := r.hi j hj
    exact ⟨by omega, by omega⟩
  · rcases M.newid id k z h1 h2 h3 with h | ⟨b, z', p1, p2, p3, p4⟩
    · exact .inl h
    · refine .inr ⟨b, z', p1, p2, p3, fun en hen => p4 en ?_⟩
      rw [hv, see_eq, hen]
      rw [r.msk, ← hm]
      exact hb.msk id h1

include hcall hL in
theorem any_ok (hi0 : Inv T.n0 base ι0 sB.see w0) (hQ : ∀ ι a w, Stp T base sB sF ι0 ι w0 w → FrR ι nt ⟨tF, ds⟩ a → Q .normal a w) :
    ∀ (fuel : Nat) (listed : Array Bool) (a : Act) (w : World) (ι : Ren), listed.size = ops.size → cnt (Xl listed) ops.size ≤ fuel → Shut L (Xl listed) → Mid T base E nt t0 ds sB sF L ι0 w0 (Xl listed) ι w a → wpAny P .any ops Q fuel listed a w := by
  have hasC : ∀ i < ops.size, ∃ c ∈ L, c.i = i := fun i hi => R.has i (by rw [hL]; exact hi)
  have full : ∀ {listed : Array Bool} {a : Act} {w : World} {ι : Ren}, (∀ i < ops.size, Xl listed i = true) → Mid T base E nt t0 ds sB sF L ι0 w0 (Xl listed) ι w a → Q .normal a w := by
    intro listed a w ι h M
    obtain ⟨h1, h2⟩ := M.done Xc hac hb hm R hf0 hi0 fun c hc => h c.i (by rw [← hL]; exact R.idx c hc)
    exact hQ ι a w h1 h2
  have empty : ∀ {listed : Array Bool}, listed.size = ops.size → Region.ready .any ops listed = [] → ∀ i < ops.size, Xl listed i = true := by
    intro listed hs hr i
    induction i using Nat.strongRecOn with
    | _ i ih =>
      intro hi
      cases hX : Xl listed i with
      | true => rfl
      | false =>
        exfalso
        obtain ⟨c, hc, rfl⟩ := hasC i hi
        have o := R.one hac hb hm hc
        have : c.i ∈ Region.ready .any ops listed := by
          rw [mem_ready]
          refine ⟨by rw [Xl_true (by rw [hs]; exact hi)]; exact hX, c.o, o.op, fun e he hb' => ?_⟩
          have := o.back e (Array.mem_toList_iff.2 he) hb'
          exact ih e.on this (by omega)
        rw [hr] at this; cases this
  intro fuel
  induction fuel with
  | zero =>
    intro listed a w ι hs hc hsh M
    have hall := cnt_all (Nat.le_zero.1 hc)
    refine ⟨?_, full hall M⟩
    cases hr : Region.ready .any ops listed with
    | nil => rfl
    | cons i r =>
      have : i ∈ Region.ready .any ops listed := by rw [hr]; exact List.mem_cons_self ..
      rw [mem_ready] at this
      obtain ⟨h1, o, h2, _⟩ := this
      have hi := (Array.getElem?_eq_some_iff.1 h2).1
      rw [Xl_true (by rw [hs]; exact hi), hall i hi] at h1
      cases h1
  | succ fuel ih =>
    intro listed a w ι hs hcn hsh M
    refine ⟨fun hr => full (empty hs hr) M, fun i hi => ?_⟩
    rw [mem_ready] at hi
    obtain ⟨h1, o, h2, h3⟩ := hi
    have hlt := (Array.getElem?_eq_some_iff.1 h2).1
    have hls : i < listed.size := by rw [hs]; exact hlt
    rw [Xl_true hls] at h1
    obtain ⟨c, hc, rfl⟩ := hasC i hlt
    have one := R.one hac hb hm hc
    have : o = c.o := by have := one.op; rw [h2] at this; cases this; rfl
    subst this
    have pre : ∀ m, c.pr.testBit m = true → Xl listed m = true := by
      intro m hm'
      obtain ⟨e, e1, e2, e3⟩ := one.pr m hm'
      have he := h3 e (Array.mem_toList_iff.1 e1) e2
      rcases e3 with rfl | ⟨j, hj, hji, hjm⟩
      · exact he
      · exact hsh j hj (by rw [hji]; exact he) m hjm
    have m : May L (Xl listed) c := ⟨hsh, hc, h1, pre⟩
    unfold wpOp
    rw [h2]
    simp only
    have fin : ∀ {p : Prop} [Decidable p] {x y : Prop} {z : Prop}, (if p then x else y) → (if p then x ∨ z else y) := by
      intro p _ x y z h
      by_cases hp : p
      · rw [if_pos hp] at h ⊢; exact .inl h
      · rw [if_neg hp] at h ⊢; exact h
    refine fin ?_
    refine val_ok Xc hcall one.run one.abs0 (M.inv0 Xc hac hb hm R hf0 m) M.hE (M.fresh Xc hac hb hm R hf0 m) (fun d v hd => M.tr d v (known_same hac hb hm R m hd)) ?_ ?_ ?_
    · intro v hv ι' w' v' hs' hv'
      cases hv
      have M' := mid_step Xc hac hb hm R hf0 M m hs' hv'
      rw [← Xl_set hls] at M'
      refine ih _ _ _ _ (by simp [hs]) ?_ ?_ M'
      · rw [Xl_set hls]
        have := (cnt_with h1 (n := ops.size)).2 hlt
        omega
      · rw [Xl_set hls]
        intro j hj hX x hx
        have : Xl listed x = true := by
          by_cases e : j.i = c.i
          · have := R.uniq j hj c hc e
            subst this
            exact pre x hx
          · exact hsh j hj (by rw [with1_ne e] at hX; exact hX) x hx
        unfold with1; rw [this, Bool.true_or]
    · intro f args hv; cases hv
    · intro v hv; cases hv

end

section
variable {P : Program} {T : Tb} {base : Nat} {E : World → Prop} (Xc : Ctx P T base E)
include Xc

/-- A region whose order is drawn. -/
theorem draw_ok {call : Nat → List Value → St → Option (Out × St)} (hcall : CallOk P T base E call) (hac : ACall T call) {ops : Array Oper} {nt : Nat} {fr fr' : Fr} {st st' : St}
    (h : runDraw T call ops.toList nt st.msk 0 ops.toList [] [] fr st = some (fr', st')) {ι : Ren} {w : World} {a : Act} (ha : Abs T st) (hi : Inv T.n0 base ι st.see w) (hE : E w) (hf : Fresh ι st st') (hr : FrR ι nt fr a)
    {Q : Exit → Act → World → Prop} (hQ : ∀ ι' a' w', Stp T base st st' ι ι' w w' → FrR ι' nt fr' a' → Q .normal a' w') : wpAny P .any ops Q ops.size (Array.replicate ops.size false) a w := by
  obtain ⟨t, ds⟩ := fr
  obtain ⟨L, hL, R, hds⟩ := row_of_draw (cs := []) (ds := ds) rfl (Row.nil (T := T) (call := call) (ops := ops) (nt := nt) (msk0 := st.msk) (t0 := t) (sB := st)) h
  have hX : ∀ i, Xl (Array.replicate ops.size false) i = false := fun i => by
    simp only [Xl]
    by_cases hi : i < ops.size
    · simp [hi]
    · simp [hi]
  refine any_ok Xc hcall hac ha rfl R hL hf hi (ds := ds) (fun ι' a' w' h1 h2 => hQ ι' a' w' h1 ?_) _ _ a w ι (by simp) ?_ (fun j hj h => by rw [hX] at h; cases h) ?_
  · obtain ⟨tF, dF⟩ := fr'
    simp only at hds
    subst hds
    exact h2
  · have : ∀ n, cnt (Xl (Array.replicate ops.size false)) n = n := by
      intro n
      induction n with
      | zero => rfl
      | succ n ih => simp only [cnt, ih, hX]; rfl
    rw [this]; exact Nat.le_refl _
  · exact
      { inv := hi.less fun id en h => by rw [HV_false hX] at h; exact h
        tr := fun d x h => hr.t d x (by rw [HT_false hX] at h; exact h)
        size := hr.size
        ds := hr.ds
        hE := hE
        le := ι.le_refl
        dom := fun id h => absurd rfl h
        frame := fun _ _ _ => rfl
        newid := fun id c z _ h1 h2 => by rw [h1] at h2; cases h2
        os := rfl, tape := rfl, output := rfl, grown := Nat.le_refl _ }

end
end Go.Proofs.YtbamnidfhccgoaaGreatDoor.Ev

namespace Go.Proofs.YtbamnidfhccgoaaGreatDoor.Ev
set_option linter.unusedSimpArgs false
set_option linter.unusedVariables false
set_option linter.unusedSectionVars false
open Go.RowKit
set_option linter.unusedSectionVars false

/-! Code and calls -/

theorem initT_get : ∀ (l : List Value) (i : Nat) (t : Tr Value) (d : Nat), (initT l i t).get d = if i ≤ d ∧ d < i + l.length then l[d - i]? else t.get d
  | [], i, t, d => by simp only [initT, List.length_nil]; rw [if_neg (by omega)]
  | v :: r, i, t, d => by
    rw [initT, initT_get r (i + 1) _ d, Tr.get_set]
    simp only [List.length_cons]
    by_cases h : d = i
    · subst h; rw [if_neg (by omega), if_pos rfl, if_pos ⟨Nat.le_refl _, by omega⟩]; simp
    · by_cases h1 : i + 1 ≤ d ∧ d < i + 1 + r.length
      · rw [if_pos h1, if_pos (by omega)]
        obtain ⟨k, hk⟩ : ∃ k, d - i = k + 1 := ⟨d - i - 1, by omega⟩
        rw [hk, show d - (i + 1) = k by omega]; simp
      · rw [if_neg h1, if_neg h, if_neg (by omega)]

/-- A call's first frame. -/
theorem init_fr {ι : Ren} {args : List Value} {args' : Array Value} {nt : Nat} (hr : All2 (Rv ι) args args'.toList) (hlt : args.length ≤ nt) :
    FrR ι nt ⟨initT args 0 .nil, []⟩ { tmps := args' ++ Array.replicate (nt - args'.size) undef, defers := [] } := by
  have hlen : args.length = args'.size := by rw [hr.1, Array.length_toList]
  refine ⟨fun d v hd => ?_, ?_, All2.nil⟩
  · rw [initT_get] at hd
    by_cases h : 0 ≤ d ∧ d < 0 + args.length
    · rw [if_pos h] at hd
      obtain ⟨y, h1, h2⟩ := hr.get hd
      refine ⟨y, ?_, h2⟩
      rw [Nat.sub_zero] at h1
      rw [Array.getElem?_append_left (by omega), ← Array.getElem?_toList]
      exact h1
    · rw [if_neg h] at hd; cases hd
  · simp; omega

noncomputable def resF (tmps : Array Value) : ResultVar → Sem Value
  | .tmp t => pure (tmps.getD t undef)
  | .cell a t => do loadVar t (← asAddr (tmps.getD a undef))

theorem results_eq (fn : Func) (tmps : Array Value) : results fn tmps = (do
    let vs ← fn.results.mapM (resF tmps)
    pure (if h : vs.size = 1 then vs[0] else .tuple vs)) := rfl

section
variable {P : Program} {T : Tb} (hT : TbOk P T) {base : Nat} {ι : Ren} {st : St} {w : World}
include hT

theorem resultOf_ok (hi : Inv T.n0 base ι st.see w) {t : Tr Value} {tmps : Array Value} (ht : TR ι t tmps) {fn : Func} {v : Value} (h : resultOf T st t fn.results.toList = some v) :
    ∃ v', (results fn tmps).run P w = .ok v' w ∧ Rv ι v v' := by
  have key : ∀ (rs : List ResultVar) (vs : List Value), resultOf.go T st t rs = some vs → ∃ vs', (rs.mapM (resF tmps)).run P w = .ok vs' w ∧ All2 (Rv ι) vs vs' := by
    intro rs
    induction rs with
    | nil => intro vs h; cases h; exact ⟨[], by simp, All2.nil⟩
    | cons r rs ih =>
      intro vs h
      cases r with
      | tmp i =>
        simp only [resultOf.go] at h
        cases hv : t.get i with
        | none => rw [hv] at h; cases h
        | some x =>
          rw [hv] at h
          cases hg : resultOf.go T st t rs with
          | none => rw [hg] at h; cases h
          | some xs =>
            rw [hg] at h
            cases h
            obtain ⟨xs', h1, h2⟩ := ih xs hg
            obtain ⟨y, h3, h4⟩ := ht i x hv
            refine ⟨y :: xs', ?_, h2.cons h4⟩
            have h5 : (resF tmps (.tmp i)).run P w = .ok y w := by simp [resF, h3]
            rw [List.mapM_cons]
            simp only [Sem.run_bind, h5, h1, Result.andThen, Sem.run_pure]
      | cell i ty =>
        simp only [resultOf.go] at h
        have cons : ∀ {x x' : Value}, (∃ b o c sz, t.get i = some (.pointer (some ⟨b, o, none⟩)) ∧ tmps[i]? = some (.pointer (some ⟨c, o, none⟩)) ∧ ι b = some (c, sz) ∧ (loadVar ty ⟨c, o, none⟩).run P w = .ok x' w) → Rv ι x x' → (resultOf.go T st t rs).map (x :: ·) = some vs →
            ∃ vs', (((ResultVar.cell i ty) :: rs).mapM (resF tmps)).run P w = .ok vs' w ∧ All2 (Rv ι) vs vs' := by
          intro x x' ⟨b, o, c, sz, h1, h2, h3, h4⟩ hx hg
          cases hgo : resultOf.go T st t rs with
          | none => rw [hgo] at hg; cases hg
          | some xs =>
            rw [hgo] at hg
            cases hg
            obtain ⟨xs', g1, g2⟩ := ih xs hgo
            refine ⟨x' :: xs', ?_, g2.cons hx⟩
            rw [List.mapM_cons]
            have h5 : (resF tmps (.cell i ty)).run P w = .ok x' w := by
              have : tmps.getD i undef = .pointer (some ⟨c, o, none⟩) := by simp [h2]
              simp only [resF, this, asAddr, Sem.run_bind, Sem.run_pure, Result.andThen, h4]
            simp only [Sem.run_bind, h5, g1, Result.andThen, Sem.run_pure]
        split at h
        · rename_i a n hp hag hsz
          cases hc : st.cellsAt a.block a.off n with
          | none => rw [hc] at h; cases h
          | some l =>
            rw [hc] at h
            simp only at h
            obtain ⟨y, h1, h2⟩ := ht i _ hp
            obtain ⟨b, o, c, sz, hb1, rfl, hb⟩ := ptr_inv hT h2
            cases hb1
            obtain ⟨l', k1, k2, k3⟩ := cellsAt_ok hi hc hb
            refine cons (x := .agg ⟨l⟩) (x' := .agg l'.toArray) ⟨b, o, c, sz, hp, h1, hb, ?_⟩ (rv_agg k1) h
            simp [loadVar, run_agg hT hag, run_size hT hsz, run_cells k2 k3]
        · rename_i a hp hag
          cases hc : st.cellsAt a.block a.off 1 with
          | none => rw [hc] at h; cases h
          | some l =>
            rw [hc] at h
            obtain ⟨y, h1, h2⟩ := ht i _ hp
            obtain ⟨b, o, c, sz, hb1, rfl, hb⟩ := ptr_inv hT h2
            cases hb1
            obtain ⟨l', k1, k2, k3⟩ := cellsAt_ok hi hc hb
            match l, h with
            | [u], h =>
              obtain ⟨u', r, rfl, hu, hr⟩ := k1.cons_inv
              have h0 := k3 0 u' rfl
              simp only [Nat.add_zero] at h0
              refine cons (x := u) (x' := u') ⟨b, o, c, sz, hp, h1, hb, ?_⟩ hu h
              simp [loadVar, run_agg hT hag, h0]
        · cases h
  unfold resultOf at h
  cases hg : resultOf.go T st t fn.results.toList with
  | none => rw [hg] at h; cases h
  | some vs =>
    rw [hg] at h
    obtain ⟨vs', h1, h2⟩ := key _ _ hg
    have h3 : (results fn tmps).run P w = .ok (if h : vs'.toArray.size = 1 then vs'.toArray[0] else .tuple vs'.toArray) w := by
      rw [results_eq, Array.mapM_eq_mapM_toList]
      simp only [Sem.run_bind, Sem.run_map, h1, Result.andThen, Sem.run_pure]
    refine ⟨_, h3, ?_⟩
    match vs, h, h2 with
    | [x], h, h2 =>
      obtain ⟨x', rfl, hx⟩ := h2.one
      cases h
      exact hx
    | [], h, h2 =>
      have := h2.nil_inv
      subst this
      cases h
      exact rv_tuple .nil
    | x :: y :: r, h, h2 =>
      cases h
      obtain ⟨x', l2, rfl, hx, h4⟩ := h2.cons_inv
      obtain ⟨y', l3, rfl, hy, h5⟩ := h4.cons_inv
      rw [dif_neg (by simp)]
      exact rv_tuple ((h5.cons hy).cons hx)

end
end Go.Proofs.YtbamnidfhccgoaaGreatDoor.Ev

namespace Go.Proofs.YtbamnidfhccgoaaGreatDoor.Ev
set_option linter.unusedSimpArgs false
set_option linter.unusedVariables false
set_option linter.unusedSectionVars false
open Go.RowKit
set_option linter.unusedSectionVars false

noncomputable def MoR (ι : Ren) : Option Value → FrameMode → Prop
  | none, m => m = .returning
  | some v, m => ∃ v', Rv ι v v' ∧ m = .panicking [{ v := v', recovered := false }]

theorem MoR.mono {ι ι' : Ren} (h : ι.le ι') {u : Option Value} {m : FrameMode} (r : MoR ι u m) : MoR ι' u m := by
  cases u with
  | none => exact r
  | some v => obtain ⟨v', h1, h2⟩ := r; exact ⟨v', h1.mono h, h2⟩

theorem MoR.run {ι : Ren} {u : Option Value} {m : FrameMode} (r : MoR ι u m) : m ≠ .run := by
  cases u with
  | none => rw [show m = .returning from r]; simp
  | some v => obtain ⟨v', _, h2⟩ := r; rw [h2]; simp

theorem exr_then {ι : Ren} {nt : Nat} {out : Out} {e : Exit} {a : Act} {w : World} {K : Act → World → Prop} {Q : Exit → Act → World → Prop} (h : ExR ι nt out e a) (hn : ∀ fr, out ≠ .norm fr) (hq : Q e a w) : Exit.then K Q e a w := by
  cases out <;> cases e <;> first | exact h.elim | exact hq | exact absurd rfl (hn _)

section
variable (P : Program) (T : Tb) (base : Nat) (E : World → Prop)

/-- What the table's answers must keep to. -/
noncomputable def OrcOk : Prop := CallOk P T base E (orcC T)

noncomputable def CodeOk (n : Nat) : Prop := ∀ c nt fr st out st', exec T n (.code c nt fr) st = some (out, st') → ∀ (ι : Ren) (w : World) (a : Act), Abs T st → Inv T.n0 base ι st.see w → E w → Fresh ι st st' → FrR ι nt fr a →
  ∀ Q : Exit → Act → World → Prop, (∀ e a' w' ι', Stp T base st st' ι ι' w w' → ExR ι' nt out e a' → Q e a' w') → c.wp P Q a w

noncomputable def DCallOk (n : Nat) : Prop := ∀ f args u st out st', exec T n (.dcall f args u) st = some (out, st') → ∀ (ι : Ren) (w : World) (args' : Array Value) (m : FrameMode), Abs T st → Inv T.n0 base ι st.see w → E w → Fresh ι st st' → All2 (Rv ι) args args'.toList → MoR ι u m →
  CallsD P f args' m w fun e m' w' => ∃ ι' fr b v, Stp T base st st' ι ι' w w' ∧ out = .dnorm fr b ∧ e = .returned v ∧ MoR ι' (cond b none u) (settle m')
end

section
variable {P : Program} {T : Tb} {base : Nat} {E : World → Prop} (X : Ctx P T base E) (hO : OrcA T) (hC : OrcOk P T base E)
include X hO hC

theorem dcall_fn {n f : Nat} {args : List Value} {u : Option Value} {st : St} {r : Out × St} (h : exec T n (.dcall f args u) st = some r) : ∃ fn, T.fn.get f = some fn ∧ fn.body.isSome = true := by
  cases n with
  | zero => unfold exec at h; cases h
  | succ n =>
    unfold exec at h
    split at h
    · rename_i fn hf
      split at h
      · rename_i c hb; exact ⟨fn, hf, by rw [hb]; rfl⟩
      · cases h
    · cases h

theorem leave_ok {n : Nat} (hD : DCallOk P T base E n) {fn : Func} {t : Tr Value} {tmps : Array Value} : ∀ {ds : List (Nat × List Value)} {u : Option Value} {st st' : St} {out : Out},
    exec.leave T (fun f args u st => exec T n (.dcall f args u) st) fn t ds u st = some (out, st') → ∀ {ι : Ren} {w : World} {m : FrameMode} {defers : List Deferred}, Abs T st → Inv T.n0 base ι st.see w → E w → Fresh ι st st' → TR ι t tmps →
    All2 (DfR ι) ds defers → MoR ι u m → ∀ {R : Ending → World → Prop}, (∀ ι' w' e, Stp T base st st' ι ι' w w' → EndR ι' out e → R e w') → Leaves P fn tmps R defers m w
  | [], u, st, st', out, h, ι, w, m, defers, ha, hi, hE, hf, ht, hds, hm, R, hR => by
    have := hds.nil_inv
    subst this
    cases u with
    | none =>
      have hm : m = .returning := hm
      subst hm
      unfold exec.leave at h
      split at h
      · rename_i v hv
        cases h
        obtain ⟨v', h1, h2⟩ := resultOf_ok X.tb hi ht hv
        exact ⟨v', h1, hR ι w _ (.refl ha hi) h2⟩
      · cases h
    | some v =>
      obtain ⟨v', h1, rfl⟩ := hm
      unfold exec.leave at h
      cases h
      exact hR ι w _ (.refl ha hi) ⟨v', h1, rfl⟩
  | (f, args) :: ds, u, st, st', out, h, ι, w, m, defers, ha, hi, hE, hf, ht, hds, hm, R, hR => by
    obtain ⟨d, r, rfl, ⟨cap, hd1, hd2⟩, hr⟩ := hds.cons_inv
    unfold exec.leave at h
    split at h
    · rename_i fr b st1 hdc
      obtain ⟨g, hg1, hg2⟩ := dcall_fn X hO hC hdc
      have a1 := a_exec T hO _ _ _ _ _ hdc ha
      have a2 := a_leave (fun f args u st out st' h ha => a_exec T hO _ _ _ _ _ h ha) a1.abs h
      have hinv : (invoke d.target d.args).run P w = .ok (.enter f (d.args ++ cap)) w := by
        rw [hd1]
        exact callFunc_run X hg1 hg2 (d.args ++ cap) w
      refine ⟨hm.run, .func f, cap, f, d.args ++ cap, hd1, hinv, (hD f args u st _ st1 hdc ι w _ m ha hi hE (hf.left a2.next) hd2 hm).mono ?_⟩
      rintro e m' w' ⟨ι', fr', b', v, s, ho, rfl, hm'⟩
      cases ho
      refine leave_ok hD h s.abs s.inv (X.keepS s hi.size hE) (hf.right s) (ht.mono s.le) (hr.mono fun x d ⟨cap, h1, h2⟩ => ⟨cap, h1, h2.mono fun _ _ k => k.mono s.le⟩) hm' ?_
      exact fun ι2 w2 e s2 he => hR ι2 w2 e (s.trans s2 ha hf) he
    · cases h

theorem call_step {n : Nat} (hcode : CodeOk P T base E n) (hD : DCallOk P T base E n) : CallOk P T base E (fun f args st => exec T (n + 1) (.call f args) st) := by
  intro f args st out st' h ι w args' ha hi hE hf hr
  simp only at h
  unfold exec at h
  split at h
  · rename_i v s ho
    refine hC f args st out st' ?_ ι w args' ha hi hE hf hr
    unfold orcC
    rw [ho]
    exact h
  split at h
  · rename_i k hk
    split at h
    · rename_i v hv
      cases h
      refine (X.prim f k hk args v hv w args' ι hE hr).mono ?_
      rintro e w' ⟨⟨v', rfl, hv'⟩, h1, h2, h3, h4⟩
      exact ⟨ι, .same ha hi h1 h2 h3 h4, hv'⟩
    · cases h
  · split at h
    · rename_i fn hfn
      split at h
      · rename_i c hc
        cases hle : Nat.ble args.length fn.ntmps with
        | false => rw [hle] at h; cases h
        | true =>
          rw [hle] at h
          simp only [cond_true] at h
          obtain ⟨st0, h, hk⟩ := trim_inv h
          have hl := fun (fr : Fr) (u : Option Value) (s : St) (hs : AStp T st s) (h : exec.leave T (fun f args u st => exec T n (.dcall f args u) st) fn fr.t fr.ds u s = some (out, st0)) =>
            hs.trans (a_leave (fun f args u st out st' h ha => a_exec T hO _ _ _ _ _ h ha) hs.abs h) ha
          have ha0 : AStp T st st0 := by
            split at h
            · rename_i hx; exact hl _ _ _ (a_exec T hO _ _ _ _ _ hx ha) h
            · rename_i hx; exact hl _ _ _ (a_exec T hO _ _ _ _ _ hx ha) h
            · rename_i hx; exact hl _ _ _ (a_exec T hO _ _ _ _ _ hx ha) h
            · cases h
          clear hl
          obtain ⟨hnx, hst⟩ : st'.next = st0.next ∧ ∀ {ι' : Ren} {w' : World}, Stp T base st st0 ι ι' w w' → Stp T base st st' ι ι' w w' := by
            rcases hk with rfl | ⟨k, rfl⟩
            · exact ⟨rfl, fun s => s⟩
            · exact ⟨rfl, fun s => trim_stp ha ha0 hf s⟩
          have hf0 : Fresh ι st st0 := fun id h1 h2 => hf id h1 (by rw [hnx]; exact h2)
          clear hf hk
          have hf := hf0
          suffices hh : Calls P f args' w fun e w' => ∃ ι', Stp T base st st0 ι ι' w w' ∧ EndR ι' out e from hh.mono fun e w' ⟨ι', s, he⟩ => ⟨ι', hst s, he⟩
          clear hst hnx
          refine calls_of_wp_defers (X.tb.fn f fn hfn) hc ?_
          have hfr := init_fr hr (Nat.le_of_ble_eq_true hle)
          have key : ∀ {fr : Fr} {u : Option Value} {st1 : St} {ι1 : Ren} {w1 : World} {a1 : Act} {m : FrameMode}, exec.leave T (fun f args u st => exec T n (.dcall f args u) st) fn fr.t fr.ds u st1 = some (out, st0) →
              Stp T base st st1 ι ι1 w w1 → FrR ι1 fn.ntmps fr a1 → MoR ι1 u m → Leaves P fn a1.tmps (fun e w' => ∃ ι', Stp T base st st0 ι ι' w w' ∧ EndR ι' out e) a1.defers m w1 := by
            intro fr u st1 ι1 w1 a1 m hl s hr1 hm
            refine leave_ok X hO hC hD hl s.abs s.inv (X.keepS s hi.size hE) (hf.right s) hr1.t hr1.ds hm ?_
            exact fun ι' w' e s' he => ⟨ι', s.trans s' ha hf, he⟩
          have nxt : ∀ {fr : Fr} {u : Option Value} {st1 : St}, Abs T st1 → exec.leave T (fun f args u st => exec T n (.dcall f args u) st) fn fr.t fr.ds u st1 = some (out, st0) → st1.next ≤ st0.next := fun h1 hl =>
            (a_leave (fun f args u st out st' h ha => a_exec T hO _ _ _ _ _ h ha) h1 hl).next
          split at h
          · rename_i fr st1 hx
            refine hcode _ _ _ _ _ _ hx ι w _ ha hi hE (hf.left (nxt (a_exec T hO _ _ _ _ _ hx ha).abs h)) hfr _ ?_
            intro e a1 w1 ι1 s he
            cases e <;> first | exact he.elim | exact key h s he rfl
          · rename_i fr st1 hx
            refine hcode _ _ _ _ _ _ hx ι w _ ha hi hE (hf.left (nxt (a_exec T hO _ _ _ _ _ hx ha).abs h)) hfr _ ?_
            intro e a1 w1 ι1 s he
            cases e <;> first | exact he.elim | exact key h s he rfl
          · rename_i v fr st1 hx
            refine hcode _ _ _ _ _ _ hx ι w _ ha hi hE (hf.left (nxt (a_exec T hO _ _ _ _ _ hx ha).abs h)) hfr _ ?_
            intro e a1 w1 ι1 s he
            cases e with
            | panic ch =>
              obtain ⟨⟨v', h1, rfl⟩, h2⟩ := he
              exact key h s h2 ⟨v', h1, rfl⟩
            | _ => exact he.elim
          · cases h
      · cases h
    · cases h

theorem code_step (hmix : P.follows .mixedOrders = true) {n : Nat} (hcode : ∀ k ≤ n, CodeOk P T base E k) (hcall : CallOk P T base E (fun f args st => exec T n (.call f args) st)) : CodeOk P T base E (n + 1) := by
  intro c nt fr st out st' h ι w a ha hi hE hf hr Q hQ
  have hac : ACall T (fun f args st => exec T n (.call f args) st) := fun f args st out st' h ha => a_exec T hO _ _ _ _ _ h ha
  have hn := hcode n (Nat.le_refl _)
  unfold exec at h
  cases c <;> simp only at h <;> (try (cases h; done))
  case skip => cases h; exact wp_skip (hQ _ a w ι (.refl ha hi) hr)
  case label l => cases h; exact wp_label (hQ _ a w ι (.refl ha hi) hr)
  case exit id => cases h; exact wp_exit (hQ _ a w ι (.refl ha hi) ⟨rfl, hr⟩)
  case ret => cases h; exact wp_ret (hQ _ a w ι (.refl ha hi) hr)
  case region id ops d =>
    cases d with
    | true =>
      simp only at h
      split at h
      · rename_i fr1 st1 hx
        cases h
        refine wp_region_any hmix ?_
        have hs : Stp T base st st ι ι w { w with drawn := w.drawn + 1 } := .same ha hi rfl rfl rfl rfl
        refine draw_ok X hcall hac hx ha hs.inv (X.keepS hs hi.size hE) hf hr ?_
        exact fun ι' a' w' s hr' => hQ _ a' w' ι' (hs.trans s ha hf) hr'
      · cases h
    | false =>
      simp only at h
      refine wp_region ?_
      rw [List.range_eq_range']
      have hl : ops.size = ops.toList.length := by simp
      split at h
      · rename_i fr1 st1 hx
        cases h
        rw [hl]
        exact ops_ok X hcall hac rfl hx ha hi hE hf hr (fun _ ι' a' w' s hr' => hQ _ a' w' ι' s hr') (fun v hv => by cases hv)
      · rename_i fr1 v st1 hx
        cases h
        rw [hl]
        exact ops_ok X hcall hac rfl hx ha hi hE hf hr (fun hv => by cases hv) (fun u hv ι' a' w' v' s hu hr' => by cases hv; exact hQ _ a' w' ι' s ⟨⟨v', hu, rfl⟩, hr'⟩)
      · cases h
  case seq x y =>
    refine wp_seq ?_
    split at h
    · rename_i fr1 st1 hx
      have a1 := a_exec T hO _ _ _ _ _ hx ha
      have a2 := a_exec T hO _ _ _ _ _ h a1.abs
      refine hn _ _ _ _ _ _ hx ι w a ha hi hE (hf.left a2.next) hr _ ?_
      intro e a' w' ι' s he
      cases e with
      | normal =>
        refine hn _ _ _ _ _ _ h ι' w' a' s.abs s.inv (X.keepS s hi.size hE) (hf.right s) he _ ?_
        exact fun e2 a2 w2 ι2 s2 he2 => hQ e2 a2 w2 ι2 (s.trans s2 ha hf) he2
      | _ => exact he.elim
    · rename_i hne
      refine hn _ _ _ _ _ _ h ι w a ha hi hE hf hr _ ?_
      intro e a' w' ι' s he
      exact exr_then he (fun fr e => hne fr st' (by rw [← e]; exact h)) (hQ e a' w' ι' s he)
  case cond c x y =>
    have hev : ∀ b, operand T.n0 fr.t c = some (.bool b) → a.eval c = .bool b := by
      intro b hb
      have := operand_ok hi hr.t hb
      generalize a.eval c = x at this
      cases this; rfl
    split at h
    · rename_i hb
      exact wp_cond_true (hev _ hb) (hn _ _ _ _ _ _ h ι w a ha hi hE hf hr _ hQ)
    · rename_i hb
      exact wp_cond_false (hev _ hb) (hn _ _ _ _ _ _ h ι w a ha hi hE hf hr _ hQ)
    · cases h
  case block id x =>
    refine wp_block ?_
    split at h
    · rename_i k fr1 st1 hx
      have hf1 : st1 = st' := by split at h <;> cases h <;> rfl
      subst hf1
      refine hn _ _ _ _ _ _ hx ι w a ha hi hE hf hr _ ?_
      intro e a' w' ι' s he
      cases e with
      | exit j =>
        obtain ⟨rfl, he⟩ := he
        simp only [Exit.inBlock]
        by_cases e : k = id
        · rw [if_pos e] at h; cases h
          simp only [e, if_true, ite_true]
          first | exact hQ _ a' w' ι' s he | simpa using hQ _ a' w' ι' s he
        · rw [if_neg e] at h; cases h
          simp only [e, if_false, ite_false]
          exact hQ _ a' w' ι' s ⟨rfl, he⟩
      | _ => exact he.elim
    · rename_i hne
      refine hn _ _ _ _ _ _ h ι w a ha hi hE hf hr _ ?_
      intro e a' w' ι' s he
      cases e with
      | exit j =>
        cases out <;> first | exact he.elim | skip
        exact absurd h (hne _ _ _)
      | _ => exact hQ _ a' w' ι' s he
  case loop x =>
    refine wp_loop_n (fun k a1 w1 => ∃ fr1 st1 ι1, k ≤ n + 1 ∧ exec T k (.code (.loop x) nt fr1) st1 = some (out, st') ∧ Stp T base st st1 ι ι1 w w1 ∧ FrR ι1 nt fr1 a1) (n := n + 1) ⟨fr, st, ι, Nat.le_refl _, ?_, .refl ha hi, hr⟩ ?_
    · unfold exec; exact h
    · rintro k a1 w1 ⟨fr1, st1, ι1, hk, hx, s, hr1⟩
      cases k with
      | zero => unfold exec at hx; cases hx
      | succ j =>
        unfold exec at hx
        simp only at hx
        split at hx
        · rename_i fr2 st2 hx2
          have a1' := a_exec T hO _ _ _ _ _ hx2 s.abs
          have a2' := a_exec T hO _ _ _ _ _ hx a1'.abs
          have hf1 := hf.right s
          refine hcode j (by omega) _ _ _ _ _ _ hx2 ι1 w1 a1 s.abs s.inv (X.keepS s hi.size hE) (hf1.left a2'.next) hr1 _ ?_
          intro e a' w' ι' s' he
          cases e with
          | normal => exact ⟨j, by omega, fr2, st2, ι', by omega, hx, s.trans s' ha (hf.left a2'.next), he⟩
          | _ => exact he.elim
        · rename_i hne
          refine hcode j (by omega) _ _ _ _ _ _ hx ι1 w1 a1 s.abs s.inv (X.keepS s hi.size hE) (hf.right s) hr1 _ ?_
          intro e a' w' ι' s' he
          exact exr_then he (fun fr e => hne fr st' (by rw [← e]; exact hx)) (hQ e a' w' ι' (s.trans s' ha hf) he)

end
end Go.Proofs.YtbamnidfhccgoaaGreatDoor.Ev

namespace Go.Proofs.YtbamnidfhccgoaaGreatDoor.Ev
set_option linter.unusedSimpArgs false
set_option linter.unusedVariables false
set_option linter.unusedSectionVars false
open Go.RowKit
set_option linter.unusedSectionVars false

/-! Deferred calls -/

noncomputable def Exit.inBlockS (id : Nat) (Q : Exit → Act → List Frame → World → Prop) : Exit → Act → List Frame → World → Prop
  | .exit id', a, cs, w => if id' = id then Q .normal a cs w else Q (.exit id') a cs w
  | e, a, cs, w => Q e a cs w

theorem wpS_block {P : Program} {Q : Exit → Act → List Frame → World → Prop} {a : Act} {cs : List Frame} {w : World} {id : Nat} {c : Code} (h : c.wpS P (Exit.inBlockS id Q) a cs w) : (Code.block id c).wpS P Q a cs w := by
  intro b k hb hr
  obtain ⟨e, a₁, cs₁, w₁, hq, harr⟩ := h b (.inBlock id :: k) hb hr
  cases e with
  | normal => exact ⟨.normal, a₁, cs₁, w₁, hq, .head step_block (Steps.trans harr (.one step_inBlock))⟩
  | exit id' =>
    by_cases hid : id' = id
    · simp only [Exit.inBlockS, hid, if_true] at hq
      exact ⟨.normal, a₁, cs₁, w₁, hq, .head step_block (harr k (by simp [exitTo, hid]))⟩
    · simp only [Exit.inBlockS, hid, if_false] at hq
      refine ⟨.exit id', a₁, cs₁, w₁, hq, fun k' hk => .head step_block (harr k' ?_)⟩
      have : (id == id') = false := by simp; exact fun h => hid h.symm
      simp [exitTo, this, hk]
  | goto l => exact ⟨_, a₁, cs₁, w₁, hq, fun k' hk => .head step_block (harr k' (by simp [gotoIn, hk]))⟩
  | ret => exact ⟨_, a₁, cs₁, w₁, hq, .of_steps (.one step_block) harr⟩
  | panic ch => exact ⟨_, a₁, cs₁, w₁, hq, .of_steps (.one step_block) harr⟩
  | outgrown => exact ⟨_, a₁, cs₁, w₁, hq, .of_steps (b := b) (k := k) (cs := cs₁) (e := .outgrown) (.one step_block) harr⟩

/-- The mode of the caller of a deferred call, while that runs. -/
noncomputable def MoD (ι : Ren) (u : Option Value) (b : Bool) (m : FrameMode) : Prop :=
  match u, b with
  | none, _ => m = .returning
  | some v, b => ∃ v', Rv ι v v' ∧ m = .panicking [{ v := v', recovered := b }]

theorem MoD.mono {ι ι' : Ren} (h : ι.le ι') {u : Option Value} {b : Bool} {m : FrameMode} (r : MoD ι u b m) : MoD ι' u b m := by
  cases u with
  | none => exact r
  | some v => obtain ⟨v', h1, h2⟩ := r; exact ⟨v', h1.mono h, h2⟩

theorem MoD.settle {ι : Ren} {u : Option Value} {b : Bool} {m : FrameMode} (r : MoD ι u b m) : MoR ι (cond b none u) (settle m) := by
  cases u with
  | none => rw [show m = .returning from r]; cases b <;> rfl
  | some v =>
    obtain ⟨v', h1, rfl⟩ := r
    cases b with
    | true => rfl
    | false => exact ⟨v', h1, rfl⟩

theorem MoR.mod {ι : Ren} {u : Option Value} {m : FrameMode} (r : MoR ι u m) : MoD ι u false m := by
  cases u <;> exact r

noncomputable def DxR (ι : Ren) (nt : Nat) (u : Option Value) : Out → Exit → Act → FrameMode → Prop
  | .dnorm fr b, .normal, a, m => FrR ι nt fr a ∧ MoD ι u b m
  | .dexit id fr b, .exit id', a, m => id = id' ∧ FrR ι nt fr a ∧ MoD ι u b m
  | .dret fr b, .ret, a, m => FrR ι nt fr a ∧ MoD ι u b m
  | _, _, _, _ => False

section
variable (P : Program) (T : Tb) (base : Nat) (E : World → Prop)

noncomputable def DCodeOk (n : Nat) : Prop := ∀ c nt fr u b st out st', exec T n (.dcode c nt fr u b) st = some (out, st') → ∀ (ι : Ren) (w : World) (a : Act) (c0 : Frame) (cs0 : List Frame) (m : FrameMode),
  Abs T st → Inv T.n0 base ι st.see w → E w → Fresh ι st st' → FrR ι nt fr a → MoD ι u b m →
  ∀ Q : Exit → Act → List Frame → World → Prop, (∀ e a' w' ι' m', Stp T base st st' ι ι' w w' → DxR ι' nt u out e a' m' → Q e a' ({ c0 with mode := m' } :: cs0) w') → c.wpS P Q a ({ c0 with mode := m } :: cs0) w
end

section
variable {P : Program} {T : Tb} {base : Nat} {E : World → Prop} (X : Ctx P T base E) (hO : OrcA T) (hC : OrcOk P T base E)
include X hO hC

omit X hO hC in
/-- An operation that is no recover, in a deferred call. -/
theorem opsS_cons {ops : Array Oper} {Q : Exit → Act → List Frame → World → Prop} {i : Nat} {rest : List Nat} {a : Act} {cs : List Frame} {w : World} {o : Oper} (ho : ops[i]? = some o)
    (h : if Region.wanted o (yielded ops a.tmps) then o.wp P a w (fun a' w' => wpOpsS P ops Q rest a' cs w') (fun e a' w' => Q e a' cs w') else wpOpsS P ops Q rest (a.put o.dst undef) cs w) :
    wpOpsS P ops Q (i :: rest) a cs w := by
  unfold wpOpsS
  rw [ho]
  simp only
  by_cases hw : Region.wanted o (yielded ops a.tmps) = true
  · rw [if_pos hw] at h ⊢
    unfold Oper.wp at h
    generalize (execOp a.eval o).run P w = r at h
    cases r with
    | ok nx w' =>
      cases nx <;> first | exact h.elim | exact h
    | halt x w' => exact h
  · rw [if_neg hw] at h ⊢
    exact h

theorem opsD_ok {call : Nat → List Value → St → Option (Out × St)} (hcall : CallOk P T base E call) (hac : ACall T call) {ops : Array Oper} {nt : Nat} {u : Option Value} {c0 : Frame} {cs0 : List Frame} : ∀ {l : List Oper} {k : Nat}, ops.toList.drop k = l →
    ∀ {fr fr' : Fr} {b b' : Bool} {st st' : St}, runOpsD T call ops.toList nt u l fr b st = some ((fr', b'), st') →
    ∀ {ι : Ren} {w : World} {a : Act} {m : FrameMode}, Abs T st → Inv T.n0 base ι st.see w → E w → Fresh ι st st' → FrR ι nt fr a → MoD ι u b m → ∀ {Q : Exit → Act → List Frame → World → Prop},
    (∀ ι' a' w' m', Stp T base st st' ι ι' w w' → FrR ι' nt fr' a' → MoD ι' u b' m' → Q .normal a' ({ c0 with mode := m' } :: cs0) w') →
    wpOpsS P ops Q (List.range' k l.length) a ({ c0 with mode := m } :: cs0) w
  | [], k, hk, fr, fr', b, b', st, st', h, ι, w, a, m, ha, hi, hE, hf, hr, hm, Q, hK => by
    cases h
    show Q .normal a _ w
    exact hK ι a w m (.refl ha hi) hr hm
  | o :: r, k, hk, fr, fr', b, b', st, st', h, ι, w, a, m, ha, hi, hE, hf, hr, hm, Q, hK => by
    have ho : ops[k]? = some o := by
      rw [← Array.getElem?_toList, ← Nat.add_zero k, ← List.getElem?_drop, hk]; rfl
    have hk' : ops.toList.drop (k + 1) = r := by
      rw [← List.drop_drop, hk]; rfl
    rw [List.length_cons, List.range'_succ]
    unfold runOpsD at h
    split at h
    · rename_i hrec hwant
      have hwt := wanted_ok hr.t hwant
      -- recover
      have hop : (execOp a.eval o).run P w = .ok .recover w := by
        obtain ⟨dst, op, ty, pos, after, guard⟩ := o
        simp only [isRecover] at hrec
        split at hrec
        · rename_i c
          unfold execOp
          simp [resolve]
          rfl
        · cases hrec
      split at h
      · rename_i fr1 p1 st1 hp
        obtain ⟨t1, ht1, hg⟩ := putF_inv hp
        cases hg
        have fin : ∀ {x x' : Value} {m' : FrameMode}, putT nt fr.t o.dst x = some t1 → Rv ι x x' → MoD ι u true m' → wpOpsS P ops Q (List.range' (k + 1) r.length) (a.put o.dst x') ({ c0 with mode := m' } :: cs0) w := fun hx hrv hm' =>
          opsD_ok hcall hac hk' h ha hi hE hf (put_ok hr hrv hx) hm' hK
        unfold wpOpsS
        rw [ho]
        simp only
        rw [hwt, if_pos rfl, hop]
        simp only
        cases u with
        | none =>
          have hm : m = .returning := hm
          subst hm
          exact fin ht1 .nili rfl
        | some v =>
          obtain ⟨v', hv, rfl⟩ := hm
          cases b with
          | true => exact fin ht1 .nili ⟨v', hv, rfl⟩
          | false => exact fin ht1 hv ⟨v', hv, rfl⟩
      · cases h
    · split at h
      · rename_i fr1 st1 ho1
        have a1 : AStp T st st1 := a_runOp hac ha ho1
        have a2 : AStp T st1 st' := a_runOpsD hac a1.abs h
        refine opsS_cons ho ?_
        refine op_ok X hcall ho1 ha hi hE (hf.left a2.next) hr ?_ (fun v hv => by cases hv)
        intro _ ι' a' w' hs hr'
        refine opsD_ok hcall hac hk' h hs.abs hs.inv (X.keepS hs hi.size hE) (hf.right hs) hr' (hm.mono hs.le) ?_
        exact fun ι2 a2 w2 m2 hs2 hr2 hm2 => hK ι2 a2 w2 m2 (hs.trans hs2 ha hf) hr2 hm2
      · cases h

omit X hO hC in
theorem dxr_then {ι : Ren} {nt : Nat} {u : Option Value} {out : Out} {e : Exit} {a : Act} {m : FrameMode} {cs : List Frame} {w : World} {K : Act → List Frame → World → Prop} {Q : Exit → Act → List Frame → World → Prop} (h : DxR ι nt u out e a m) (hn : ∀ fr b, out ≠ .dnorm fr b) (hq : Q e a cs w) : Exit.thenS K Q e a cs w := by
  cases out <;> cases e <;> first | exact h.elim | exact hq | exact absurd rfl (hn _ _)

theorem dcode_step {n : Nat} (hcode : CodeOk P T base E n) (hdc : DCodeOk P T base E n) (hcall : CallOk P T base E (fun f args st => exec T n (.call f args) st)) : DCodeOk P T base E (n + 1) := by
  intro c nt fr u b st out st' h ι w a c0 cs0 m ha hi hE hf hr hm Q hQ
  have hac : ACall T (fun f args st => exec T n (.call f args) st) := fun f args st out st' h ha => a_exec T hO _ _ _ _ _ h ha
  have other : ∀ c', (match exec T n (.code c' nt fr) st with
      | some (.norm fr, st) => some (Out.dnorm fr b, st)
      | some (.ret fr, st) => some (.dret fr b, st)
      | some (.exit k fr, st) => some (.dexit k fr b, st)
      | _ => none) = some (out, st') → c'.wpS P Q a ({ c0 with mode := m } :: cs0) w := by
    intro c' h
    refine wpS_of_wp ?_
    split at h
    · rename_i hx
      cases h
      refine hcode _ _ _ _ _ _ hx ι w a ha hi hE hf hr _ ?_
      intro e a' w' ι' s he
      cases e <;> first | exact he.elim | exact hQ _ a' w' ι' m s ⟨he, hm.mono s.le⟩
    · rename_i hx
      cases h
      refine hcode _ _ _ _ _ _ hx ι w a ha hi hE hf hr _ ?_
      intro e a' w' ι' s he
      cases e <;> first | exact he.elim | exact hQ _ a' w' ι' m s ⟨he, hm.mono s.le⟩
    · rename_i hx
      cases h
      refine hcode _ _ _ _ _ _ hx ι w a ha hi hE hf hr _ ?_
      intro e a' w' ι' s he
      cases e <;> first | exact he.elim | exact hQ _ a' w' ι' m s ⟨he.1, he.2, hm.mono s.le⟩
    · cases h
  unfold exec at h
  cases c <;> simp only at h <;> (try exact other _ h)
  case skip => cases h; exact wpS_of_wp (wp_skip (hQ _ a w ι m (.refl ha hi) ⟨hr, hm⟩))
  case exit id => cases h; exact wpS_of_wp (wp_exit (hQ _ a w ι m (.refl ha hi) ⟨rfl, hr, hm⟩))
  case ret => cases h; exact wpS_of_wp (wp_ret (hQ _ a w ι m (.refl ha hi) ⟨hr, hm⟩))
  case region id ops d =>
    cases d with
    | true => exact other _ h
    | false =>
      simp only at h
      have hl : ops.size = ops.toList.length := by simp
      cases hrc : hasRecover ops.toList with
      | true =>
        rw [hrc] at h
        simp only [cond_true] at h
        split at h
        · rename_i hx
          cases h
          refine wpS_region ?_
          rw [List.range_eq_range', hl]
          exact opsD_ok X hO hC hcall hac rfl hx ha hi hE hf hr hm fun ι' a' w' m' s hr' hm' => hQ _ a' w' ι' m' s ⟨hr', hm'⟩
        · cases h
      | false =>
        rw [hrc] at h
        simp only [cond_false] at h
        split at h
        · rename_i hx
          cases h
          refine wpS_of_wp (wp_region ?_)
          rw [List.range_eq_range', hl]
          exact ops_ok X hcall hac rfl hx ha hi hE hf hr (fun _ ι' a' w' s hr' => hQ _ a' w' ι' m s ⟨hr', hm.mono s.le⟩) (fun v hv => by cases hv)
        · cases h
  case seq x y =>
    refine wpS_seq ?_
    split at h
    · rename_i fr1 b1 st1 hx
      have a1 := a_exec T hO _ _ _ _ _ hx ha
      have a2 := a_exec T hO _ _ _ _ _ h a1.abs
      refine hdc _ _ _ _ _ _ _ _ hx ι w a c0 cs0 m ha hi hE (hf.left a2.next) hr hm _ ?_
      intro e a' w' ι' m' s he
      cases e with
      | normal =>
        refine hdc _ _ _ _ _ _ _ _ h ι' w' a' c0 cs0 m' s.abs s.inv (X.keepS s hi.size hE) (hf.right s) he.1 he.2 _ ?_
        exact fun e2 a2 w2 ι2 m2 s2 he2 => hQ e2 a2 w2 ι2 m2 (s.trans s2 ha hf) he2
      | _ => exact he.elim
    · rename_i hne
      refine hdc _ _ _ _ _ _ _ _ h ι w a c0 cs0 m ha hi hE hf hr hm _ ?_
      intro e a' w' ι' m' s he
      exact dxr_then he (fun fr b e => hne fr b st' (by rw [← e]; exact h)) (hQ e a' w' ι' m' s he)
  case cond c x y =>
    have hev : ∀ b, operand T.n0 fr.t c = some (.bool b) → a.eval c = .bool b := by
      intro b hb
      have := operand_ok hi hr.t hb
      generalize a.eval c = x at this
      cases this; rfl
    split at h
    · rename_i hb
      exact wpS_cond (hev _ hb) (hdc _ _ _ _ _ _ _ _ h ι w a c0 cs0 m ha hi hE hf hr hm _ hQ)
    · rename_i hb
      exact wpS_cond (hev _ hb) (hdc _ _ _ _ _ _ _ _ h ι w a c0 cs0 m ha hi hE hf hr hm _ hQ)
    · cases h
  case block id x =>
    refine wpS_block ?_
    split at h
    · rename_i k fr1 b1 st1 hx
      have hf1 : st1 = st' := by split at h <;> cases h <;> rfl
      subst hf1
      refine hdc _ _ _ _ _ _ _ _ hx ι w a c0 cs0 m ha hi hE hf hr hm _ ?_
      intro e a' w' ι' m' s he
      cases e with
      | exit j =>
        obtain ⟨rfl, he⟩ := he
        simp only [Exit.inBlockS]
        by_cases e : k = id
        · rw [if_pos e] at h; cases h
          simp only [e, if_true, ite_true]
          first | exact hQ _ a' w' ι' m' s he | simpa using hQ _ a' w' ι' m' s he
        · rw [if_neg e] at h; cases h
          simp only [e, if_false, ite_false]
          exact hQ _ a' w' ι' m' s ⟨rfl, he⟩
      | _ => exact he.elim
    · rename_i hne
      refine hdc _ _ _ _ _ _ _ _ h ι w a c0 cs0 m ha hi hE hf hr hm _ ?_
      intro e a' w' ι' m' s he
      cases e with
      | exit j =>
        cases out <;> first | exact he.elim | skip
        exact absurd h (hne _ _ _ _)
      | _ => exact hQ _ a' w' ι' m' s he

theorem dcall_step {n : Nat} (hdc : DCodeOk P T base E n) : DCallOk P T base E (n + 1) := by
  intro f args u st out st' h ι w args' m ha hi hE hf hr hm
  unfold exec at h
  split at h
  · rename_i fn hfn
    split at h
    · rename_i c hc
      cases hle : Nat.ble args.length fn.ntmps with
      | false => rw [hle] at h; cases h
      | true =>
        rw [hle] at h
        simp only [cond_true] at h
        have hfr := init_fr hr (Nat.le_of_ble_eq_true hle)
        refine callsD_of_wpS (X.tb.fn f fn hfn) hc fun c0 cs0 hmode => ?_
        have e0 : c0 = { c0 with mode := m } := by rw [← hmode]
        have fin : ∀ {fr : Fr} {b : Bool} {a' : Act} {w' : World} {ι' : Ren} {m' : FrameMode}, (match fr.ds, fn.results.toList with | [], [] => some (Out.dnorm fr b, st') | _, _ => none) = some (out, st') →
            Stp T base st st' ι ι' w w' → FrR ι' fn.ntmps fr a' → MoD ι' u b m' →
            a'.defers = [] ∧ ∃ u', ({ c0 with mode := m' } :: cs0 : List Frame) = { c0 with mode := u' } :: cs0 ∧ ∃ v, (results fn a'.tmps).run P w' = .ok v w' ∧
              ∃ ι' fr b v', Stp T base st st' ι ι' w w' ∧ out = .dnorm fr b ∧ (Ending.returned v) = .returned v' ∧ MoR ι' (cond b none u) (settle u') := by
          intro fr b a' w' ι' m' h s h1 h2
          split at h
          · rename_i hds hrs
            cases h
            have hd := h1.ds
            rw [hds] at hd
            have hres : fn.results = #[] := by
              cases hr : fn.results with
              | mk l => rw [hr] at hrs; simp only at hrs; rw [hrs]
            refine ⟨hd.nil_inv, m', rfl, .tuple #[], ?_, ι', fr, b, _, s, rfl, rfl, h2.settle⟩
            simp [results, hres]
          · cases h
        rw [e0]
        split at h
        · rename_i fr b st1 hx
          have hf1 : st1 = st' := by split at h <;> cases h <;> rfl
          subst hf1
          refine hdc _ _ _ _ _ _ _ _ hx ι w _ c0 cs0 m ha hi hE hf hfr hm.mod _ ?_
          intro e a' w' ι' m' s he
          cases e <;> first | exact he.elim | exact fin h s he.1 he.2
        · rename_i fr b st1 hx
          have hf1 : st1 = st' := by split at h <;> cases h <;> rfl
          subst hf1
          refine hdc _ _ _ _ _ _ _ _ hx ι w _ c0 cs0 m ha hi hE hf hfr hm.mod _ ?_
          intro e a' w' ι' m' s he
          cases e <;> first | exact he.elim | exact fin h s he.1 he.2
        · cases h
    · cases h
  · cases h

/-- All that the evaluator answers is what the program does. -/
structure Sound (P : Program) (T : Tb) (base : Nat) (E : World → Prop) (n : Nat) : Prop where
  code : CodeOk P T base E n
  call : CallOk P T base E (fun f args st => exec T n (.call f args) st)
  dcode : DCodeOk P T base E n
  dcall : DCallOk P T base E n

theorem sound (hmix : P.follows .mixedOrders = true) : ∀ n, Sound P T base E n := by
  intro n
  induction n using Nat.strongRecOn with
  | _ n ih =>
    cases n with
    | zero =>
      refine ⟨?_, ?_, ?_, ?_⟩
      · intro c nt fr st out st' h; unfold exec at h; cases h
      · intro f args st out st' h; simp only at h; unfold exec at h; cases h
      · intro c nt fr u b st out st' h; unfold exec at h; cases h
      · intro f args u st out st' h; unfold exec at h; cases h
    | succ n =>
      have s := ih n (Nat.lt_succ_self n)
      exact ⟨code_step X hO hC hmix (fun k hk => (ih k (Nat.lt_succ_of_le hk)).code) s.call, call_step X hO hC s.code s.dcall, dcode_step X hO hC s.code s.dcode s.call, dcall_step X hO hC s.dcode⟩

end
end Go.Proofs.YtbamnidfhccgoaaGreatDoor.Ev

namespace Go.Proofs.YtbamnidfhccgoaaGreatDoor.Ev
set_option linter.unusedSimpArgs false
set_option linter.unusedVariables false
set_option linter.unusedSectionVars false
open Go.RowKit
set_option linter.unusedSectionVars false

/-! Whole calls -/

/-- The first renaming: the variables of the program lie where they lie. -/
noncomputable def iota0 (n0 : Nat) : Ren := fun g => if g < n0 then some (g, 0) else none

theorem inv0 {T : Tb} {w : World} (n : Nat) (_hn : T.n0 ≤ w.heap.size) : Inv T.n0 w.heap.size (iota0 T.n0) (st0 n).see w where
  ob := fun id en h => by
    have h := see_get h
    cases h
  fam := fun i j ei ej c s s' h => by
    have h := see_get h
    cases h
  sep := fun id c s hn h => by
    unfold iota0 at h
    rw [if_neg (by omega)] at h; cases h
  glob := fun g hg => ⟨0, by unfold iota0; rw [if_pos hg]⟩
  size := Nat.le_refl _

theorem abs0 {T : Tb} : Abs T (st0 T.n0) where
  lt := fun id en h => by cases h
  own := fun id en h => by cases h
  sole := fun id en h => by cases h
  mem := fun f l h => by cases h
  famlt := fun id en h => by cases h
  msk := fun id h => rfl
  n0 := Nat.le_refl _
  wl := fun b h => by cases h

/-- What a call with plain arguments answers. -/
theorem call_run {P : Program} {T : Tb} {w : World} {E : World → Prop} (X : Ctx P T w.heap.size E) (hO : OrcA T) (hC : OrcOk P T w.heap.size E) (hE : E w) (hn : T.n0 ≤ w.heap.size) {n f : Nat} {args : List Value} {v : Value} {st' : St}
    (h : exec T n (.call f args) (st0 T.n0) = some (.val v, st')) (ha : args.all (closedV 40) = true) :
    Calls P f args.toArray w fun e w' => ∃ v' ι', e = .returned v' ∧ Rv ι' v v' ∧ Below w.heap.size w w' := by
  have s := (sound X hO hC X.tb.mixed n).call f args (st0 T.n0) _ st' h (iota0 T.n0) w args.toArray abs0 (inv0 _ hn) hE
  have hf : Fresh (iota0 T.n0) (st0 T.n0) st' := fun id h1 _ => by
    have h1 : T.n0 ≤ id := h1
    unfold iota0
    rw [if_neg (by omega)]
  refine (s hf ⟨rfl, fun i x y hx hy => ?_⟩).mono ?_
  · have e : y = x := by
      rw [List.toList_toArray, hx] at hy; cases hy; rfl
    subst e
    exact rv_closed _ 40 _ (all_get ha i _ hx)
  · rintro e w' ⟨ι', s, he⟩
    cases e with
    | returned v' => exact ⟨v', ι', rfl, he, s.below (Nat.le_refl _)⟩
    | panicked ch => exact he.elim
    | outgrown => exact he.elim

/-- A call that answers true. -/
theorem call_true {P : Program} {T : Tb} {w : World} {E : World → Prop} (X : Ctx P T w.heap.size E) (hO : OrcA T) (hC : OrcOk P T w.heap.size E) (hE : E w) (hn : T.n0 ≤ w.heap.size) {n f : Nat}
    (h : (match exec T n (.call f []) (st0 T.n0) with | some (.val (.bool b), _) => b | _ => false) = true) :
    Calls P f #[] w fun e w' => e = .returned (.bool true) ∧ Below w.heap.size w w' := by
  split at h
  · rename_i b st' hx
    subst h
    refine (call_run X hO hC hE hn hx rfl).mono ?_
    rintro e w' ⟨v', ι', rfl, hv, hb⟩
    cases hv
    exact ⟨rfl, hb⟩
  · cases h

/-- The program's tables. -/
theorem tb_ok {P : Program} {exts : Tr Ext} {prims : Tr Prim} {cmp : Tr Unit} (hmix : P.follows .mixedOrders = true) (hng : (P.funcs.toList.all fun fn => !(fn.name == "runtime.NumGoroutine")) = true) : TbOk P (tables P exts prims cmp) where
  ty := fun t i h => by
    have h : (Tr.ofList P.types.toList 0 .nil).get t = some i := h
    rw [Tr.get_ofList] at h
    by_cases e : 0 ≤ t ∧ t < 0 + P.types.toList.length
    · rw [if_pos e] at h
      rw [Nat.sub_zero, Array.getElem?_toList] at h
      have hlt : t < P.types.size := by simpa using e.2
      have e2 : P.info? t = P.types[t]? := by unfold Tables.info?; rw [if_pos hlt]
      rw [e2]; exact h
    · rw [if_neg e] at h; cases h
  fn := fun f fn h => by
    have h : (Tr.ofList P.funcs.toList 0 .nil).get f = some fn := h
    rw [Tr.get_ofList] at h
    by_cases e : 0 ≤ f ∧ f < 0 + P.funcs.toList.length
    · rw [if_pos e] at h
      rw [Nat.sub_zero, Array.getElem?_toList] at h
      exact h
    · rw [if_neg e] at h; cases h
  ng := fun f fn h => by
    have h : (Tr.ofList P.funcs.toList 0 .nil).get f = some fn := h
    rw [Tr.get_ofList] at h
    by_cases e : 0 ≤ f ∧ f < 0 + P.funcs.toList.length
    · rw [if_pos e] at h
      have := List.all_eq_true.1 hng fn (List.mem_of_getElem? h)
      simpa using this
    · rw [if_neg e] at h; cases h
  mixed := hmix

end Go.Proofs.YtbamnidfhccgoaaGreatDoor.Ev

namespace Go.Proofs.YtbamnidfhccgoaaGreatDoor.Ev
set_option linter.unusedSimpArgs false
set_option linter.unusedVariables false
set_option linter.unusedSectionVars false
open Go.RowKit
set_option linter.unusedSectionVars false

/-! Calls taken from a table -/

theorem beqL_eq : ∀ {a b : List UInt8}, beqL a b = true → a = b
  | [], [], _ => rfl
  | [], _ :: _, h => by simp [beqL] at h
  | _ :: _, [], h => by simp [beqL] at h
  | a :: x, b :: y, h => by
    unfold beqL at h
    rw [Bool.and_eq_true] at h
    have h1 := Nat.eq_of_beq_eq_true h.1
    rw [UInt8.toNat_inj.1 h1, beqL_eq h.2]

noncomputable def beqA : Option Addr → Option Addr → Bool
  | none, none => true
  | some ⟨b, o, none⟩, some ⟨c, p, none⟩ => Nat.beq b c && Nat.beq o p
  | _, _ => false

theorem beqA_eq {a b : Option Addr} (h : beqA a b = true) : a = b := by
  unfold beqA at h
  split at h
  · rfl
  · rw [Bool.and_eq_true] at h
    rw [Nat.eq_of_beq_eq_true h.1, Nat.eq_of_beq_eq_true h.2]
  · cases h

noncomputable def beqM : Option Nat → Option Nat → Bool
  | none, none => true
  | some b, some c => Nat.beq b c
  | _, _ => false
theorem beqM_eq {a b : Option Nat} (h : beqM a b = true) : a = b := by
  unfold beqM at h
  split at h
  · rfl
  · rw [Nat.eq_of_beq_eq_true h]
  · cases h

noncomputable def beqK : IntKind → IntKind → Bool
  | .i8, .i8 | .i16, .i16 | .i32, .i32 | .i64, .i64 | .u8, .u8 | .u16, .u16 | .u32, .u32 | .u64, .u64 => true
  | _, _ => false
theorem beqK_eq {a b : IntKind} (h : beqK a b = true) : a = b := by cases a <;> cases b <;> first | rfl | cases h

noncomputable def beqI : Int → Int → Bool
  | .ofNat a, .ofNat b => Nat.beq a b
  | .negSucc a, .negSucc b => Nat.beq a b
  | _, _ => false
theorem beqI_eq {a b : Int} (h : beqI a b = true) : a = b := by
  unfold beqI at h
  split at h
  · rw [Nat.eq_of_beq_eq_true h]
  · rw [Nat.eq_of_beq_eq_true h]
  · cases h

noncomputable def beqB : Bool → Bool → Bool
  | true, true => true
  | false, false => true
  | _, _ => false
theorem beqB_eq {a b : Bool} (h : beqB a b = true) : a = b := by cases a <;> cases b <;> first | rfl | cases h

noncomputable def allV (eq : Value → Value → Bool) : List Value → List Value → Bool
  | [], [] => true
  | a :: x, b :: y => eq a b && allV eq x y
  | _, _ => false
theorem allV_eq {eq : Value → Value → Bool} (h : ∀ a b, eq a b = true → a = b) : ∀ {x y : List Value}, allV eq x y = true → x = y
  | [], [], _ => rfl
  | [], _ :: _, e => by simp [allV] at e
  | _ :: _, [], e => by simp [allV] at e
  | a :: x, b :: y, e => by
    unfold allV at e
    rw [Bool.and_eq_true] at e
    rw [h _ _ e.1, allV_eq h e.2]

noncomputable def beqV : Nat → Value → Value → Bool
  | 0, _, _ => false
  | n + 1, a, b => match a, b with
    | .bool x, .bool y => beqB x y
    | .int k x, .int j y => beqK k j && beqI x y
    | .string x, .string y => beqL x.data.toList y.data.toList
    | .pointer x, .pointer y => beqA x y
    | .slice x l c, .slice y m d => beqA x y && (Nat.beq l m && Nat.beq c d)
    | .map x, .map y => beqM x y
    | .func (.func f) x c, .func (.func g) y d => Nat.beq f g && (allV (beqV n) x.toList y.toList && allV (beqV n) c.toList d.toList)
    | .nilFunc, .nilFunc => true
    | .iface t x, .iface u y => Nat.beq t u && beqV n x y
    | .nilIface, .nilIface => true
    | .agg x, .agg y => allV (beqV n) x.toList y.toList
    | .tuple x, .tuple y => allV (beqV n) x.toList y.toList
    | _, _ => false

theorem beqV_eq : ∀ (n : Nat) (a b : Value), beqV n a b = true → a = b
  | 0, _, _, h => by cases h
  | n + 1, a, b, h => by
    have ih := beqV_eq n
    have arr : ∀ {x y : Array Value}, allV (beqV n) x.toList y.toList = true → x = y := fun e => Array.toList_inj.1 (allV_eq ih e)
    unfold beqV at h
    split at h
    · rw [beqB_eq h]
    · rw [Bool.and_eq_true] at h; rw [beqK_eq h.1, beqI_eq h.2]
    · rename_i x y
      have e := Array.toList_inj.1 (beqL_eq h)
      cases x; cases y; simp only at e; rw [e]
    · rw [beqA_eq h]
    · rw [Bool.and_eq_true, Bool.and_eq_true] at h; rw [beqA_eq h.1, Nat.eq_of_beq_eq_true h.2.1, Nat.eq_of_beq_eq_true h.2.2]
    · rw [beqM_eq h]
    · rw [Bool.and_eq_true, Bool.and_eq_true] at h; rw [Nat.eq_of_beq_eq_true h.1, arr h.2.1, arr h.2.2]
    · rfl
    · rw [Bool.and_eq_true] at h
      have h1 := Nat.eq_of_beq_eq_true h.1
      rw [h1, ih _ _ h.2]
    · rfl
    · rw [arr h]
    · rw [arr h]
    · cases h

noncomputable def beqVs (a b : List Value) : Bool := allV (beqV 60) a b
theorem beqVs_eq {a b : List Value} (h : beqVs a b = true) : a = b := allV_eq (beqV_eq 60) h

noncomputable def beqE : En → En → Bool
  | ⟨.cells a t x f, m⟩, ⟨.cells b u y g, n⟩ => Nat.beq t u && (beqB x y && (beqB f g && (Nat.beq m n && beqVs a b)))
  | ⟨.map a, m⟩, ⟨.map b, n⟩ => Nat.beq m n && (beqVs (a.map (·.1)) (b.map (·.1)) && beqVs (a.map (·.2)) (b.map (·.2)))
  | ⟨.siter s p, m⟩, ⟨.siter t q, n⟩ => Nat.beq m n && (beqL s.data.toList t.data.toList && Nat.beq p q)
  | _, _ => false

theorem pairs_eq {a b : List (Value × Value)} (h : a.map (·.1) = b.map (·.1)) (k : a.map (·.2) = b.map (·.2)) : a = b := by
  induction a generalizing b with
  | nil => cases b with
    | nil => rfl
    | cons _ _ => simp at h
  | cons x a ih => cases b with
    | nil => simp at h
    | cons y b =>
      simp only [List.map_cons, List.cons.injEq] at h k
      rw [ih h.2 k.2]
      obtain ⟨x1, x2⟩ := x
      obtain ⟨y1, y2⟩ := y
      simp only at h k
      rw [h.1, k.1]

theorem beqE_eq {a b : En} (h : beqE a b = true) : a = b := by
  unfold beqE at h
  split at h
  · simp only [Bool.and_eq_true] at h
    obtain ⟨h1, h2, h3, h4, h5⟩ := h
    have h1 := Nat.eq_of_beq_eq_true h1
    rw [h1, beqB_eq h2, beqB_eq h3, Nat.eq_of_beq_eq_true h4, beqVs_eq h5]
  · simp only [Bool.and_eq_true] at h
    obtain ⟨h1, h2, h3⟩ := h
    rw [Nat.eq_of_beq_eq_true h1, pairs_eq (beqVs_eq h2) (beqVs_eq h3)]
  · simp only [Bool.and_eq_true] at h
    obtain ⟨h1, h2, h3⟩ := h
    rename_i s p m t q n
    have e := Array.toList_inj.1 (beqL_eq h2)
    cases s; cases t; simp only at e
    rw [Nat.eq_of_beq_eq_true h1, e, Nat.eq_of_beq_eq_true h3]
  · cases h

noncomputable def beqNs : List Nat → List Nat → Bool
  | [], [] => true
  | a :: x, b :: y => Nat.beq a b && beqNs x y
  | _, _ => false
theorem beqNs_eq : ∀ {a b : List Nat}, beqNs a b = true → a = b
  | [], [], _ => rfl
  | [], _ :: _, e => by simp [beqNs] at e
  | _ :: _, [], e => by simp [beqNs] at e
  | a :: x, b :: y, e => by
    unfold beqNs at e
    rw [Bool.and_eq_true] at e
    rw [Nat.eq_of_beq_eq_true e.1, beqNs_eq e.2]

noncomputable def beqPs : List (Nat × Nat) → List (Nat × Nat) → Bool
  | [], [] => true
  | (a, b) :: x, (c, d) :: y => Nat.beq a c && (Nat.beq b d && beqPs x y)
  | _, _ => false
theorem beqPs_eq : ∀ {a b : List (Nat × Nat)}, beqPs a b = true → a = b
  | [], [], _ => rfl
  | [], _ :: _, e => by simp [beqPs] at e
  | _ :: _, [], e => by simp [beqPs] at e
  | (a, b) :: x, (c, d) :: y, e => by
    unfold beqPs at e
    rw [Bool.and_eq_true, Bool.and_eq_true] at e
    rw [Nat.eq_of_beq_eq_true e.1, Nat.eq_of_beq_eq_true e.2.1, beqPs_eq e.2.2]

/-! Trees that hold the same -/
noncomputable def bare {α : Type} : Tr α → Bool
  | .nil => true
  | .node none l r => bare l && bare r
  | .node (some _) _ _ => false

noncomputable def beqT {α : Type} (eq : α → α → Bool) : Tr α → Tr α → Bool
  | .nil, t => bare t
  | .node v l r, .nil => bare (.node v l r)
  | .node none l r, .node none l' r' => beqT eq l l' && beqT eq r r'
  | .node (some v) l r, .node (some v') l' r' => eq v v' && (beqT eq l l' && beqT eq r r')
  | _, _ => false

theorem get_node {α : Type} (v : Option α) (l r : Tr α) (n : Nat) : (Tr.node v l r).get n = match n with
    | 0 => v
    | n + 1 => cond (Nat.beq (n % 2) 0) (l.get (n / 2)) (r.get (n / 2)) := by
  cases n with
  | zero => rfl
  | succ n => exact Tr.get_succ v l r n

theorem bare_get {α : Type} : ∀ {t : Tr α}, bare t = true → ∀ n, t.get n = none
  | .nil, _, n => rfl
  | .node none l r, h, n => by
    unfold bare at h
    rw [Bool.and_eq_true] at h
    rw [get_node]
    cases n with
    | zero => rfl
    | succ n =>
      simp only
      rw [bare_get h.1, bare_get h.2]
      cases Nat.beq (n % 2) 0 <;> rfl
  | .node (some _) l r, h, n => by cases h

theorem beqT_get {α : Type} {eq : α → α → Bool} (he : ∀ a b, eq a b = true → a = b) : ∀ {s t : Tr α}, beqT eq s t = true → ∀ n, s.get n = t.get n
  | .nil, t, h, n => by
    have h : bare t = true := by cases t <;> exact h
    rw [bare_get h]; rfl
  | .node v l r, .nil, h, n => by
    have h : bare (.node v l r) = true := by cases v <;> exact h
    rw [bare_get h]; rfl
  | .node none l r, .node none l' r', h, n => by
    unfold beqT at h
    rw [Bool.and_eq_true] at h
    rw [get_node, get_node]
    cases n with
    | zero => rfl
    | succ n => simp only; rw [beqT_get he h.1, beqT_get he h.2]
  | .node (some v) l r, .node (some v') l' r', h, n => by
    unfold beqT at h
    rw [Bool.and_eq_true, Bool.and_eq_true] at h
    rw [get_node, get_node]
    cases n with
    | zero => simp only; rw [he _ _ h.1]
    | succ n => simp only; rw [beqT_get he h.2.1, beqT_get he h.2.2]
  | .node none _ _, .node (some _) _ _, h, n => by cases h
  | .node (some _) _ _, .node none _ _, h, n => by cases h

/-- Two states that hold the same. -/
structure Like (a b : St) : Prop where
  h : ∀ n, a.h.get n = b.h.get n
  mem : ∀ n, a.mem.get n = b.mem.get n
  next : a.next = b.next
  wl : a.wl = b.wl
  msk : a.msk = b.msk

noncomputable def beqS (a b : St) : Bool := Nat.beq a.next b.next && (beqNs a.wl b.wl && (beqPs a.msk b.msk && (beqT beqE a.h b.h && beqT beqNs a.mem b.mem)))
theorem beqS_like {a b : St} (h : beqS a b = true) : Like a b := by
  unfold beqS at h
  simp only [Bool.and_eq_true] at h
  obtain ⟨h1, h2, h3, h4, h5⟩ := h
  exact ⟨beqT_get (fun _ _ => beqE_eq) h4, beqT_get (fun _ _ => beqNs_eq) h5, Nat.eq_of_beq_eq_true h1, beqNs_eq h2, beqPs_eq h3⟩

namespace Like
theorem symm {a b : St} (l : Like a b) : Like b a := ⟨fun n => (l.h n).symm, fun n => (l.mem n).symm, l.next.symm, l.wl.symm, l.msk.symm⟩
theorem see {a b : St} (l : Like a b) : a.see = b.see := by
  funext id
  unfold St.see
  rw [l.msk, l.h]
theorem members {a b : St} (l : Like a b) (f : Nat) : Ev.members a f = Ev.members b f := by unfold Ev.members; rw [l.mem]
theorem abs {T T' : Tb} {a b : St} (l : Like a b) (h : Abs T a) (hn : T'.n0 = T.n0) : Abs T' b where
  lt := fun id en e => by rw [← l.h] at e; rw [← l.next]; exact h.lt id en e
  own := fun id en e => by rw [← l.h] at e; rw [← l.members]; exact h.own id en e
  sole := fun id en e => by rw [← l.h] at e; exact h.sole id en e
  mem := fun f m e => by rw [← l.mem] at e; rw [← l.next]; exact h.mem f m e
  famlt := fun id en e => by rw [← l.h] at e; rw [← l.next]; exact h.famlt id en e
  msk := fun id e => by rw [← l.next] at e; rw [← l.msk]; exact h.msk id e
  n0 := by rw [hn, ← l.next]; exact h.n0
  wl := fun x e => by rw [← l.wl] at e; rw [hn, ← l.next]; exact h.wl x e
theorem astp {T T' : Tb} {a b a' b' : St} (l : Like a a') (k : Like b b') (h : AStp T a b) (hn : T'.n0 = T.n0) : AStp T' a' b' where
  abs := k.abs h.abs hn
  next := by rw [← l.next, ← k.next]; exact h.next
  msk := by rw [← l.msk, ← k.msk]; exact h.msk
  mem := fun f id e => by rw [← l.members] at e; rw [← k.members]; exact h.mem f id e
  wl := fun x e => by rw [← l.wl] at e; rw [← k.wl]; exact h.wl x e
  old := fun id e1 e2 => by rw [← l.next] at e1; rw [← k.h, ← l.h] at e2; rw [← k.wl]; exact h.old id e1 e2
  hid := fun id e => by rw [← l.msk] at e; rw [← k.h, ← l.h]; exact h.hid id e
  fam := fun id en en' e1 e2 => by rw [← l.h] at e1; rw [← k.h] at e2; exact h.fam id en en' e1 e2
  gone := fun id e1 e2 => by rw [← l.next] at e1; rw [← l.h] at e2; rw [← k.h]; exact h.gone id e1 e2
  newfam := fun id en e1 e2 => by
    rw [← l.next] at e1
    rw [← k.h] at e2
    rcases h.newfam id en e1 e2 with x | ⟨y, ey, h1, h2, h3, h4⟩
    · exact .inl (by rw [← l.next]; exact x)
    · exact .inr ⟨y, ey, by rw [← k.wl]; exact h1, by rw [← l.next]; exact h2, by rw [← l.h]; exact h3, h4⟩
theorem stp {T T' : Tb} {base : Nat} {a b a' b' : St} {ι ι' : Ren} {w w' : World} (l : Like a a') (k : Like b b') (h : Stp T base a b ι ι' w w') (hn : T'.n0 = T.n0) : Stp T' base a' b' ι ι' w w' :=
  have s := astp (T' := T') l k (T := T) ⟨h.abs, h.next, h.msk, h.mem, h.wl, h.old, h.hid, h.fam, h.gone, h.newfam⟩ hn
  { abs := s.abs
    inv := by rw [hn, ← k.see]; exact h.inv
    le := h.le
    dom := fun id e => by rw [← l.next, ← k.next]; exact h.dom id e
    next := s.next
    msk := s.msk
    mem := s.mem
    wl := s.wl
    old := s.old
    hid := s.hid
    fam := s.fam
    gone := s.gone
    newfam := s.newfam
    newid := fun id c z e1 e2 e3 => by
      rw [← l.next] at e1
      rcases h.newid id c z e1 e2 e3 with x | ⟨y, z', h1, h2, h3, h4⟩
      · exact .inl x
      · refine .inr ⟨y, z', by rw [← k.wl]; exact h1, by rw [← l.next]; exact h2, h3, fun en e => ?_⟩
        rw [← k.h] at e
        obtain ⟨ey, g1, g2⟩ := h4 en e
        exact ⟨ey, by rw [← l.h]; exact g1, g2⟩
    frame := fun c hc hw => h.frame c hc fun x z hx => hw x z (by rw [← k.wl]; exact hx)
    os := h.os
    tape := h.tape
    output := h.output
    size := h.size }
end Like

/-! The table -/
noncomputable def mkT {α : Type} : List (Nat × α) → Tr α
  | [] => .nil
  | (n, x) :: r => (mkT r).set n (some x)

/-- A call, and what it came to. -/
structure Ent where
  f : Nat
  args : List Value
  h : List (Nat × En)
  m : List (Nat × List Nat)
  next : Nat
  wl : List Nat
  msk : List (Nat × Nat)
  v : Value
  h' : List (Nat × En)
  m' : List (Nat × List Nat)
  next' : Nat
  wl' : List Nat

noncomputable def Ent.st (e : Ent) : St := { h := mkT e.h, mem := mkT e.m, next := e.next, wl := e.wl, msk := e.msk }
noncomputable def Ent.to (e : Ent) : St := { h := mkT e.h', mem := mkT e.m', next := e.next', wl := e.wl', msk := e.msk }

/-- Did the evaluator come to what an entry says? -/
noncomputable def Ent.chk (e : Ent) : Option (Out × St) → Bool
  | some (.val v, s) => beqV 60 v e.v && beqS s e.to
  | _ => false

noncomputable def findE (f : Nat) (args : List Value) (st : St) : List Ent → Option (Value × St)
  | [] => none
  | e :: r => cond (Nat.beq f e.f && (beqVs args e.args && beqS st e.st)) (some (e.v, e.to)) (findE f args st r)

noncomputable def tabOf : List Ent → Tr (List Ent)
  | [] => .nil
  | e :: r => (tabOf r).set e.next (some (e :: ((tabOf r).get e.next).getD []))

noncomputable def orcE (t : Tr (List Ent)) (more : Nat → List Value → St → Option (Value × St)) (f : Nat) (args : List Value) (st : St) : Option (Value × St) :=
  match t.get st.next with
  | some l => match findE f args st l with
    | some r => some r
    | none => more f args st
  | none => more f args st

theorem tabOf_mem : ∀ (es : List Ent) {n : Nat} {l : List Ent}, (tabOf es).get n = some l → ∀ e ∈ l, e ∈ es
  | [], n, l, h, e, _ => by cases h
  | e :: r, n, l, h, x, hx => by
    unfold tabOf at h
    rw [Tr.get_set] at h
    by_cases hn : n = e.next
    · rw [if_pos hn] at h
      cases h
      rcases List.mem_cons.1 hx with rfl | hx
      · exact List.mem_cons_self
      · cases hg : (tabOf r).get e.next with
        | none => rw [hg] at hx; cases hx
        | some l => rw [hg] at hx; exact List.mem_cons_of_mem _ (tabOf_mem r hg x hx)
    · rw [if_neg hn] at h
      exact List.mem_cons_of_mem _ (tabOf_mem r h x hx)

theorem findE_some {f : Nat} {args : List Value} {st : St} : ∀ {l : List Ent} {r : Value × St}, findE f args st l = some r → ∃ e ∈ l, f = e.f ∧ args = e.args ∧ Like st e.st ∧ r = (e.v, e.to)
  | [], r, h => by cases h
  | e :: l, r, h => by
    unfold findE at h
    cases hb : (Nat.beq f e.f && (beqVs args e.args && beqS st e.st)) with
    | true =>
      rw [hb, cond_true] at h
      cases h
      rw [Bool.and_eq_true, Bool.and_eq_true] at hb
      exact ⟨e, List.mem_cons_self, Nat.eq_of_beq_eq_true hb.1, beqVs_eq hb.2.1, beqS_like hb.2.2, rfl⟩
    | false =>
      rw [hb, cond_false] at h
      obtain ⟨e', h1, h2⟩ := findE_some h
      exact ⟨e', List.mem_cons_of_mem _ h1, h2⟩

/-- What an entry must keep to (n0: how many variables the program has). -/
structure EntOk (P : Program) (T : Tb) (base : Nat) (E : World → Prop) (e : Ent) : Prop where
  a : ∀ st, Like st e.st → Abs T st → AStp T st e.to
  c : ∀ st, Like st e.st → ∀ (ι : Ren) (w : World) (args' : Array Value), Abs T st → Inv T.n0 base ι st.see w → E w → Fresh ι st e.to → All2 (Rv ι) e.args args'.toList →
    Calls P e.f args' w fun r w' => ∃ ι', Stp T base st e.to ι ι' w w' ∧ EndR ι' (.val e.v) r

theorem ent_ok {P : Program} {T T' : Tb} {base : Nat} {E : World → Prop} (X : Ctx P T base E) (hO : OrcA T) (hC : OrcOk P T base E) (hn : T'.n0 = T.n0) {e : Ent} {n : Nat} (h : e.chk (exec T n (.call e.f e.args) e.st) = true) : EntOk P T' base E e := by
  unfold Ent.chk at h
  split at h
  · rename_i v s hx
    rw [Bool.and_eq_true] at h
    have hv := beqV_eq 60 _ _ h.1
    subst hv
    have hl := beqS_like h.2
    refine ⟨fun st k ha => ?_, fun st k ι w args' ha hi hE hf hr => ?_⟩
    · exact k.symm.astp hl (a_exec T hO _ _ _ _ _ hx (k.abs ha hn.symm)) hn
    · have hi' : Inv T.n0 base ι e.st.see w := by rw [← k.see, ← hn]; exact hi
      have hf' : Fresh ι e.st s := fun id h1 h2 => hf id (by rw [k.next]; exact h1) (by rw [← hl.next]; exact h2)
      refine ((sound X hO hC X.tb.mixed n).call e.f e.args e.st _ s hx ι w args' (k.abs ha hn.symm) hi' hE hf' hr).mono ?_
      rintro r w' ⟨ι', s', he⟩
      exact ⟨ι', k.symm.stp hl s' hn, he⟩
  · cases h

section
variable {P : Program} {T : Tb} {base : Nat} {E : World → Prop}
noncomputable def moreC (more : Nat → List Value → St → Option (Value × St)) (f : Nat) (args : List Value) (st : St) : Option (Out × St) := match more f args st with
  | some (v, s) => some (.val v, s)
  | none => none

theorem orcE_split {t : Tr (List Ent)} {more : Nat → List Value → St → Option (Value × St)} {f : Nat} {args : List Value} {st : St} {r : Value × St} (h : orcE t more f args st = some r) :
    (∃ n l, t.get n = some l ∧ ∃ e ∈ l, f = e.f ∧ args = e.args ∧ Like st e.st ∧ r = (e.v, e.to)) ∨ more f args st = some r := by
  unfold orcE at h
  split at h
  · rename_i l hl
    split at h
    · rename_i r' hr
      cases h
      exact .inl ⟨_, l, hl, findE_some hr⟩
    · exact .inr h
  · exact .inr h

theorem orcA_of {es : List Ent} {more : Nat → List Value → St → Option (Value × St)} (hT : T.orc = orcE (tabOf es) more) (he : ∀ e ∈ es, EntOk P T base E e) (hm : ACall T (moreC more)) : OrcA T := by
  intro f args st out st' h ha
  unfold orcC at h
  split at h
  · rename_i v s ho
    cases h
    rw [hT] at ho
    rcases orcE_split ho with ⟨n, l, h1, e, h2, rfl, rfl, h5, h6⟩ | h1
    · cases h6
      exact (he e (tabOf_mem es h1 e h2)).a st h5 ha
    · exact hm f args st (.val v) st' (by unfold moreC; rw [h1]) ha
  · cases h

theorem orcOk_of {es : List Ent} {more : Nat → List Value → St → Option (Value × St)} (hT : T.orc = orcE (tabOf es) more) (he : ∀ e ∈ es, EntOk P T base E e) (hm : CallOk P T base E (moreC more)) : OrcOk P T base E := by
  intro f args st out st' h ι w args' ha hi hE hf hr
  unfold orcC at h
  split at h
  · rename_i v s ho
    cases h
    rw [hT] at ho
    rcases orcE_split ho with ⟨n, l, h1, e, h2, rfl, rfl, h5, h6⟩ | h1
    · cases h6
      exact (he e (tabOf_mem es h1 e h2)).c st h5 ι w args' ha hi hE hf hr
    · exact hm f args st (.val v) st' (by unfold moreC; rw [h1]) ι w args' ha hi hE hf hr
  · cases h
end
end Go.Proofs.YtbamnidfhccgoaaGreatDoor.Ev

namespace Go.Proofs.YtbamnidfhccgoaaGreatDoor.Ev
set_option linter.unusedSimpArgs false
set_option linter.unusedVariables false
set_option linter.unusedSectionVars false
open Go.RowKit
set_option linter.unusedSectionVars false

/-! errors.As; a start with variables; entries one behind the other -/

/-- More memory, nothing else turned. -/
theorem Stp.grow {T : Tb} {base : Nat} {st : St} {ι : Ren} {w w' : World} (ha : Abs T st) (hi : Inv T.n0 base ι st.see w) (hb : Below w.heap.size w w') : Stp T base st st ι ι w w' where
  abs := ha
  inv := ⟨fun id en hv => let ⟨c, sz, a, b⟩ := hi.ob id en hv; ⟨c, sz, a, b.world (hb.block c b.lt)⟩, hi.fam, hi.sep, hi.glob, Nat.le_trans hi.size hb.size⟩
  le := ι.le_refl
  dom := fun id h => absurd rfl h
  next := Nat.le_refl _
  msk := rfl
  mem := fun _ _ h => h
  wl := fun _ h => h
  old := fun id _ h => absurd rfl h
  hid := fun _ _ => rfl
  fam := fun id en en' a b => by rw [a] at b; cases b; rfl
  gone := fun id _ h => h
  newfam := fun id en a b => absurd (ha.lt id en b) (by omega)
  newid := fun id c z _ a b => by rw [a] at b; cases b
  frame := fun c hc _ => hb.block c hc
  os := hb.os
  tape := hb.tape
  output := hb.output
  size := hb.size

noncomputable def asM (n0 f te tt : Nat) (g : Nat) (args : List Value) (st : St) : Option (Value × St) := cond (Nat.beq g f) (asA n0 te tt args st) none

theorem asM_inv {n0 f te tt g : Nat} {args : List Value} {st st' : St} {out : Out} (h : moreC (asM n0 f te tt) g args st = some (out, st')) : g = f ∧
    ((∃ a, args = [.nilIface, .iface tt (.pointer (some a))] ∧ out = .val (.bool false) ∧ st' = st) ∨
     (∃ p a, args = [.iface te (.pointer (some p)), .iface tt (.pointer (some a))] ∧ out = .val (.bool true) ∧ St.store n0 st a.block a.off [.pointer (some p)] = some st')) := by
  unfold moreC asM at h
  cases hb : Nat.beq g f with
  | false => rw [hb] at h; cases h
  | true =>
    refine ⟨Nat.eq_of_beq_eq_true hb, ?_⟩
    rw [hb, cond_true] at h
    unfold asA at h
    split at h
    · rename_i v s hv
      cases h
      split at hv
      · rename_i t a
        cases ht : Nat.beq t tt with
        | false => rw [ht] at hv; cases hv
        | true =>
          rw [ht, cond_true] at hv
          cases hv
          rw [Nat.eq_of_beq_eq_true ht]
          exact .inl ⟨a, rfl, rfl, rfl⟩
      · rename_i e p t a
        cases ht : (Nat.beq e te && Nat.beq t tt) with
        | false => rw [ht] at hv; cases hv
        | true =>
          rw [ht, cond_true] at hv
          rw [Bool.and_eq_true] at ht
          rw [Nat.eq_of_beq_eq_true ht.1, Nat.eq_of_beq_eq_true ht.2]
          split at hv
          · rename_i s' hs
            cases hv
            exact .inr ⟨p, a, rfl, rfl, hs⟩
          · cases hv
      · cases hv
    · cases h

theorem as_a {T : Tb} (f te tt : Nat) : ACall T (moreC (asM T.n0 f te tt)) := by
  intro g args st out st' h ha
  obtain ⟨_, ⟨a, _, _, rfl⟩ | ⟨p, a, _, _, hs⟩⟩ := asM_inv h
  · exact .refl ha
  · exact astore ha hs

theorem rv_ptr {ι : Ren} {a : Addr} {v : Value} (h : Rv ι (.pointer (some a)) v) : ∃ b o c sz, a = ⟨b, o, none⟩ ∧ v = .pointer (some ⟨c, o, none⟩) ∧ ι b = some (c, sz) := by
  cases h with
  | ptr h => exact ⟨_, _, _, _, rfl, rfl, h⟩
theorem as_c {P : Program} {T : Tb} {base : Nat} {E : World → Prop} {f te tt : Nat}
    (hNil : ∀ (t : Addr) w, E w → Calls P f #[.nilIface, .iface tt (.pointer (some t))] w fun e w' => e = .returned (.bool false) ∧ Below w.heap.size w w')
    (hHit : ∀ (p t : Addr) old w, E w → w.cell? t = some old → w.frozen? t = false → Calls P f #[.iface te (.pointer (some p)), .iface tt (.pointer (some t))] w fun e w' => e = .returned (.bool true) ∧ ∃ w1, Below w.heap.size w w1 ∧ w' = w1.setCell t (.pointer (some p))) :
    CallOk P T base E (moreC (asM T.n0 f te tt)) := by
  intro g args st out st' h ι w args' ha hi hE hf hr
  obtain ⟨rfl, ⟨a, rfl, rfl, rfl⟩ | ⟨p, a, rfl, rfl, hs⟩⟩ := asM_inv h
  · obtain ⟨x, r, hx, h1, hr⟩ := hr.cons_inv
    obtain ⟨y, r', rfl, h2, hr⟩ := hr.cons_inv
    have := hr.nil_inv
    subst this
    cases h1
    cases h2 with
    | iface h2 =>
      obtain ⟨b, o, c, sz, rfl, rfl, h3⟩ := rv_ptr h2
      · have e : args' = #[.nilIface, .iface tt (.pointer (some ⟨c, o, none⟩))] := by rw [← Array.toList_inj]; exact hx
        rw [e]
        refine (hNil _ w hE).mono ?_
        rintro r w' ⟨rfl, hb⟩
        exact ⟨ι, .grow ha hi hb, .bool false⟩
  · obtain ⟨x, r, hx, h1, hr⟩ := hr.cons_inv
    obtain ⟨y, r', rfl, h2, hr⟩ := hr.cons_inv
    have := hr.nil_inv
    subst this
    cases h1 with
    | iface h1 =>
      cases h2 with
      | iface h2 =>
        obtain ⟨b, o, c, sz, rfl, rfl, h3⟩ := rv_ptr h2
        · obtain ⟨b2, o2, c2, sz2, rfl, rfl, h4⟩ := rv_ptr h1
          · have e : args' = #[.iface te (.pointer (some ⟨c2, o2, none⟩)), .iface tt (.pointer (some ⟨c, o, none⟩))] := by rw [← Array.toList_inj]; exact hx
            rw [e]
            have hv : All2 (Rv ι) [.pointer (some ⟨b2, o2, none⟩)] [.pointer (some ⟨c2, o2, none⟩)] := ⟨rfl, fun i x y hx hy => by
              cases i with
              | zero => cases hx; cases hy; exact .ptr h4
              | succ i => cases hx⟩
            obtain ⟨_, k1, k2, _, hnx⟩ := store_ok ha hi hs h3 hv
            have k1 := k1 0 (by simp)
            have k2 := k2 0 (by simp)
            obtain ⟨old, hold⟩ := Option.isSome_iff_exists.1 k1
            refine (hHit _ _ old w hE hold k2).mono ?_
            rintro r w' ⟨rfl, w1, hb, rfl⟩
            have g := Stp.grow (base := base) ha hi hb
            obtain ⟨s1, _⟩ := store_ok ha g.inv hs h3 hv
            exact ⟨ι, g.trans s1 ha (fun id h1 h2 => by omega), .bool true⟩

/-! Entries one behind the other -/
theorem Like.refl (a : St) : Like a a := ⟨fun _ => rfl, fun _ => rfl, rfl, rfl, rfl⟩
theorem EntOk.re {P : Program} {T T' : Tb} {base : Nat} {E : World → Prop} {e : Ent} (h : EntOk P T base E e) (hn : T'.n0 = T.n0) : EntOk P T' base E e where
  a := fun st k ha => (Like.refl st).astp (Like.refl _) (h.a st k ((Like.refl st).abs ha hn.symm)) hn
  c := fun st k ι w args' ha hi hE hf hr => (h.c st k ι w args' ((Like.refl st).abs ha hn.symm) (by rw [← hn]; exact hi) hE hf hr).mono fun r w' ⟨ι', s, he⟩ => ⟨ι', (Like.refl st).stp (Like.refl _) s hn, he⟩
theorem ACall.re {T T' : Tb} {call : Nat → List Value → St → Option (Out × St)} (h : ACall T call) (hn : T'.n0 = T.n0) : ACall T' call :=
  fun f args st out st' hc ha => (Like.refl st).astp (Like.refl _) (h f args st out st' hc ((Like.refl st).abs ha hn.symm)) hn
theorem CallOk.re {P : Program} {T T' : Tb} {base : Nat} {E : World → Prop} {call : Nat → List Value → St → Option (Out × St)} (h : CallOk P T base E call) (hn : T'.n0 = T.n0) : CallOk P T' base E call :=
  fun f args st out st' hc ι w args' ha hi hE hf hr => (h f args st out st' hc ι w args' ((Like.refl st).abs ha hn.symm) (by rw [← hn]; exact hi) hE hf hr).mono fun r w' ⟨ι', s, he⟩ => ⟨ι', (Like.refl st).stp (Like.refl _) s hn, he⟩

/-- The evaluator with some entries. -/
noncomputable def withE (T : Tb) (more : Nat → List Value → St → Option (Value × St)) (es : List Ent) : Tb := { T with orc := orcE (tabOf es) more }

theorem ctx_with {P : Program} {T : Tb} {base : Nat} {E : World → Prop} (X : Ctx P T base E) (more : Nat → List Value → St → Option (Value × St)) (es : List Ent) : Ctx P (withE T more es) base E :=
  ⟨⟨X.tb.ty, X.tb.fn, X.tb.ng, X.tb.mixed⟩, X.cmp, X.ext, X.prim, X.depth, X.keep⟩

section
variable {P : Program} {T : Tb} {base : Nat} {E : World → Prop} (X : Ctx P T base E) {more : Nat → List Value → St → Option (Value × St)} (hA : ACall T (moreC more)) (hC : CallOk P T base E (moreC more))
include X hA hC

/-- One entry more. -/
theorem ent_next {es : List Ent} (hes : ∀ e ∈ es, EntOk P T base E e) {e : Ent} {n : Nat} (h : e.chk (exec (withE T more es) n (.call e.f e.args) e.st) = true) : EntOk P T base E e :=
  ent_ok (T := withE T more es) (T' := T) (ctx_with X more es) (orcA_of (P := P) (base := base) (E := E) rfl (fun e he => (hes e he).re rfl) (hA.re rfl)) (orcOk_of rfl (fun e he => (hes e he).re rfl) (hC.re rfl)) rfl h

theorem ents_next {es : List Ent} (hes : ∀ e ∈ es, EntOk P T base E e) {e : Ent} {n : Nat} (h : e.chk (exec (withE T more es) n (.call e.f e.args) e.st) = true) : ∀ x ∈ e :: es, EntOk P T base E x := by
  intro x hx
  rcases List.mem_cons.1 hx with rfl | hx
  · exact ent_next X hA hC hes h
  · exact hes x hx
end

/-! A start with one variable that is known -/
noncomputable def stG (n0 g el : Nat) (tab : List Value) : St := { h := Tr.set .nil g (some ⟨.cells tab el true true, g⟩), mem := .nil, next := n0, wl := [], msk := [] }
noncomputable def iotaG (n0 g sz : Nat) : Ren := fun i => if i < n0 then some (i, if i = g then sz else 0) else none

theorem stG_get {n0 g el : Nat} {tab : List Value} {id : Nat} {en : En} (h : (stG n0 g el tab).h.get id = some en) : id = g ∧ en = ⟨.cells tab el true true, g⟩ := by
  have h : (Tr.set (.nil : Tr En) g (some ⟨.cells tab el true true, g⟩)).get id = some en := h
  rw [Tr.get_set] at h
  by_cases e : id = g
  · rw [if_pos e] at h; cases h; exact ⟨e, rfl⟩
  · rw [if_neg e] at h; cases h

theorem absG {T : Tb} {g el : Nat} {tab : List Value} (hg : g < T.n0) : Abs T (stG T.n0 g el tab) where
  lt := fun id en h => by obtain ⟨rfl, _⟩ := stG_get h; exact hg
  own := fun id en h => by obtain ⟨rfl, rfl⟩ := stG_get h; exact List.mem_cons_self
  sole := fun id en h hc => by obtain ⟨rfl, rfl⟩ := stG_get h; rfl
  mem := fun f l h => by cases h
  famlt := fun id en h => by obtain ⟨rfl, rfl⟩ := stG_get h; exact hg
  msk := fun id h => rfl
  n0 := Nat.le_refl _
  wl := fun b h => by cases h

/-- What is closed stands for itself. -/
theorem rv_tab {ι : Ren} {tab : List Value} (h : tab.all (closedV 40) = true) {i : Nat} {v : Value} (hv : tab[i]? = some v) : Rv ι v v := rv_closed _ 40 _ (all_get h i _ hv)

theorem invG {T : Tb} {w : World} {g el : Nat} {tab : List Value} {arr : Array Value} {fr : Nat × Nat} (hgn : g < T.n0) (hg : w.heap[g]? = some (.cells arr el fr)) (ht : arr.toList = tab) (hfr : fr.1 ≤ fr.2) (hc : tab.all (closedV 40) = true) :
    Inv T.n0 w.heap.size (iotaG T.n0 g tab.length) (stG T.n0 g el tab).see w where
  ob := fun id en h => by
    obtain ⟨rfl, rfl⟩ := stG_get (see_get h)
    exact ⟨id, tab.length, by unfold iotaG; rw [if_pos hgn, if_pos rfl], arr, fr, hg, by rw [← Array.length_toList, ht], Nat.le_refl _, fun _ => rfl, fun i v hv => ⟨v, by rw [ht]; exact hv, rv_tab hc hv⟩, hfr, fun h => by cases h⟩
  fam := fun i j ei ej c s s' h k _ _ => by
    obtain ⟨rfl, rfl⟩ := stG_get (see_get h)
    obtain ⟨rfl, rfl⟩ := stG_get (see_get k)
    rfl
  sep := fun id c s hn h => by
    unfold iotaG at h
    rw [if_neg (by omega)] at h; cases h
  glob := fun i hi => ⟨_, by unfold iotaG; rw [if_pos hi]⟩
  size := Nat.le_refl _

/-- A call without arguments that answers true. -/
theorem heads_true {P : Program} {T : Tb} {w : World} {E : World → Prop} {e : Ent} (h : EntOk P T w.heap.size E e) (hE : E w) {ι : Ren} (ha : Abs T e.st) (hi : Inv T.n0 w.heap.size ι e.st.see w) (hf : Fresh ι e.st e.to)
    (hargs : e.args = []) (hv : e.v = .bool true) : Calls P e.f #[] w fun r w' => r = .returned (.bool true) ∧ Below w.heap.size w w' := by
  refine (h.c e.st (Like.refl _) ι w #[] ha hi hE hf (by rw [hargs]; exact ⟨rfl, fun i x y hx _ => by cases hx⟩)).mono ?_
  rintro r w' ⟨ι', s, he⟩
  rw [hv] at he
  cases r with
  | returned v => cases he; exact ⟨rfl, s.below (Nat.le_refl _)⟩
  | panicked ch => obtain ⟨_, h, _⟩ := he
  | outgrown => exact he.elim
end Go.Proofs.YtbamnidfhccgoaaGreatDoor.Ev
