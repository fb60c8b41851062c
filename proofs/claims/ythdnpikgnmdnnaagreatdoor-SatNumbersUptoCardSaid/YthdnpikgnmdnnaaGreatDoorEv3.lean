/- An evaluator of calls over abstract memory, and that what it answers is what a call answers. Part 3. -/
import Derived.Test.YthdnpikgnmdnnaaGreatDoorEv2
import Derived.Lib.Bytealg
import Derived.Lib.MakeNoZero
import Derived.Lib.Index
import Derived.CallsIn
import Derived.OrdersIn
namespace Go.Proofs.YthdnpikgnmdnnaaGreatDoor.Ev
set_option linter.unusedSimpArgs false
set_option linter.unusedVariables false
set_option linter.unusedSectionVars false
variable [Tok]
open Go.RowKit
set_option linter.unusedSectionVars false

theorem freeze_end (w : World) (c : Nat) {arr : Array Value} {el : TypeId} {fr : Nat × Nat} (h : w.heap[c]? = some (.cells arr el fr)) (hfr : fr.1 ≤ fr.2) :
    ∃ fr', (w.freeze ⟨c, arr.size, none⟩ 1).heap[c]? = some (.cells arr el fr') ∧ fr'.1 ≤ fr'.2 ∧ ((∀ i, i < arr.size → ¬ (fr.1 ≤ i ∧ i < fr.2)) → ∀ i, i < arr.size → ¬ (fr'.1 ≤ i ∧ i < fr'.2)) := by
  refine ⟨if fr.1 == fr.2 then (arr.size, arr.size + 1) else (min fr.1 arr.size, max fr.2 (arr.size + 1)), ?_, ?_, fun hf i hi => ?_⟩
  · unfold World.freeze
    rw [if_neg (by omega)]
    simp [Array.getElem?_modify, h]
  · split
    · exact Nat.le_succ _
    · show min fr.1 arr.size ≤ max fr.2 (arr.size + 1); omega
  · split
    · simp only; omega
    · rename_i hne
      have hne : fr.1 ≠ fr.2 := by simpa using hne
      have h1 : arr.size ≤ fr.1 := by
        rcases Nat.lt_or_ge fr.1 arr.size with hlt | hge
        · exact absurd ⟨Nat.le_refl _, by omega⟩ (hf fr.1 hlt)
        · exact hge
      simp only; omega

section
variable {P : Program} {T : Tb} (hT : TbOk P T) (hC : CmpOk P T) {base : Nat} {ι : Ren} {st st' : St} {w : World}
include hT hC

theorem conv_unsafe (hi : Inv T.n0 base ι st.see w) {src dst t : TypeId} {n : Nat} {b o c sz : Nat} (hu : T.und src = some (.pointer t)) (hv : T.und dst = some .unsafePointer) (hs : T.size t = some (n + 1)) (hb : ι b = some (c, sz))
    {cs : List Value} {el : TypeId} {ex fz : Bool} {fam : Nat} (hsee : st.see b = some ⟨.cells cs el ex fz, fam⟩) (ho : o < cs.length) :
    (Conv.unsafePointer src dst (.pointer (some ⟨c, o, none⟩))).run P w = .ok (.pointer (some ⟨c, o, none⟩)) w := by
  obtain ⟨c', s', k1, arr, fr, b1, b2, b3, b4, b5, b6, b7⟩ := hi.ob b _ hsee
  rw [hb] at k1; cases k1
  unfold Conv.unsafePointer
  rw [bind_step (run_und hT hu w), bind_step (run_und hT hv w)]
  dsimp only
  rw [bind_step (seenAt_cells hT hC b1), bind_step (cellsIn_cells hT hC b1)]
  dsimp only
  rw [bind_step (run_size hT hs w)]
  have h1 : (decide (o ≥ arr.size) && (none : Option Nat).isNone) = false := by
    have : ¬ (o ≥ arr.size) := by omega
    simp [this]
  rw [if_neg (by simp [h1]; omega)]
  rfl

theorem conv_pointer (hd : 0 < P.depth) (hi : Inv T.n0 base ι st.see w) {src dst t u : TypeId} {n : Nat} {b c sz : Nat} (hu : T.und src = some .unsafePointer) (hv : T.und dst = some (.pointer t)) (hs : T.size t = some (n + 1)) (hb : ι b = some (c, sz))
    {cs : List Value} {el : TypeId} {fz : Bool} {fam : Nat} (hsee : st.see b = some ⟨.cells cs el true fz, fam⟩) (hl : cs.length = n + 1) (hse : T.size el = some (n + 1)) (hid : T.undId el = some u) (hid' : T.undId t = some u) :
    (Conv.unsafePointer src dst (.pointer (some ⟨c, 0, none⟩))).run P w = .ok (.pointer (some ⟨c, 0, none⟩)) w := by
  obtain ⟨c', s', k1, arr, fr, b1, b2, b3, b4, b5, b6, b7⟩ := hi.ob b _ hsee
  rw [hb] at k1; cases k1
  have hsz : arr.size = n + 1 := by have := b4 rfl; omega
  unfold Conv.unsafePointer
  rw [bind_step (run_und hT hu w), bind_step (run_und hT hv w)]
  dsimp only
  rw [bind_step (seenAt_cells hT hC b1), bind_step (run_size hT hs w)]
  have hvar : (variablesAt ⟨c, 0, none⟩ t 1).run P w = .ok true w := by
    unfold variablesAt
    rw [bind_step (show program.run P w = .ok P w from rfl), bind_step (shape_cells hT hC b1)]
    dsimp only
    have hc1 := cellsOf_ok hT hC hse
    have := liesAt_ok hT hC (e := el) (u := t) (m := n) (count := arr.size / P.cellsOf el) (off := 0) (n := 1) hd hse (by rw [undId_ok hT hC hid, undId_ok hT hC hid']) (Nat.zero_mod _)
      (by rw [hc1, hsz, Nat.zero_div, Nat.div_self (Nat.succ_pos _)]; omega)
    rw [this]; rfl
  rw [bind_step hvar]
  rfl

set_option maxHeartbeats 1000000 in
theorem convertA_ok (hd : 0 < P.depth) (ha : Abs T st) (hi : Inv T.n0 base ι st.see w) {src dst : TypeId} {x x' u : Value} (hx : Rv ι x x') (h : convertA T st src dst x = some (u, st')) (hfr : ∀ id, st.next ≤ id → id < st'.next → ι id = none) :
    ∃ w' ι' v', (convert src dst x').run P w = .ok v' w' ∧ Rv ι' u v' ∧ Stp T base st st' ι ι' w w' := by
  unfold convertA at h
  split at h
  · -- int to int
    rename_i k1 k2 hs hv
    split at h
    · cases h
      cases hx
      exact ⟨w, ι, _, by simp [convert, run_und hT hs, run_und hT hv, Conv.intToInt], .int _ _, .refl ha hi⟩
    · cases h
  · rename_i k1 hs hv
    split at h
    · cases h
      cases hx
      exact ⟨w, ι, _, by simp [convert, run_und hT hs, run_und hT hv, Conv.intToString], .string _, .refl ha hi⟩
    · cases h
  · rename_i hs hv
    split at h
    · cases h
      cases hx
      exact ⟨w, ι, _, by simp [convert, run_und hT hs, run_und hT hv], .string _, .refl ha hi⟩
    · cases h
  · -- bytes of a string
    rename_i e hs hv
    split at h
    · rename_i s hue
      cases h
      cases hx
      obtain ⟨w', cap, h1, h2, h3⟩ := conv_bytes (e := e) (s := s) hT hC ha hi (hfr _ (Nat.le_refl _) (Nat.lt_succ_self _))
      refine ⟨w', ι.upd st.next (w.heap.size, cap), .slice (some ⟨w.heap.size, 0, none⟩) s.size cap, by simp [convert, run_und hT hs, run_und hT hv, run_und hT hue, h1], ?_, h3⟩
      rw [size_list]
      exact .sliceU Ren.upd_self (by rw [← size_list]; exact h2) (by omega)
    · cases h
  · rename_i ty hs hv
    split at h
    · cases h
      cases hx
      exact ⟨w, ι, _, by simp [convert, run_und hT hs, run_und hT hv, Conv.unsafePointer], .nilp, .refl ha hi⟩
    · rename_i a
      obtain ⟨b, o, c, sz, rfl, rfl, hb⟩ := ptr_inv hT hx
      split at h
      · rename_i n cs el ex fz fam hsz hsee
        cases hq : Nat.blt o cs.length with
        | false => simp only [hq] at h; cases h
        | true =>
          simp only [hq] at h; cases h
          have := conv_unsafe hT hC hi hs hv hsz hb hsee (Nat.le_of_ble_eq_true hq)
          exact ⟨w, ι, _, by simp [convert, run_und hT hs, run_und hT hv, this], hx, .refl ha hi⟩
      · cases h
    · cases h
  · rename_i ty hs hv
    split at h
    · cases h
      cases hx
      exact ⟨w, ι, _, by simp [convert, run_und hT hs, run_und hT hv, Conv.unsafePointer], .nilp, .refl ha hi⟩
    · rename_i a
      obtain ⟨b, o, c, sz, rfl, rfl, hb⟩ := ptr_inv hT hx
      split at h
      · rename_i u1 m cs el fz fam hid hsz hsee
        split at h
        · rename_i u2 n hid2 hse
          cases hq : Nat.beq u1 u2 && (Nat.beq o 0 && (Nat.beq cs.length n && Nat.beq n (m + 1))) with
          | false => simp only [hq] at h; cases h
          | true =>
            simp only [hq] at h; cases h
            obtain ⟨q1, q2⟩ := ble_and hT hq
            obtain ⟨q2, q3⟩ := ble_and hT q2
            obtain ⟨q3, q4⟩ := ble_and hT q3
            obtain rfl := Nat.eq_of_beq_eq_true q1
            obtain rfl := Nat.eq_of_beq_eq_true q2
            have q3 := Nat.eq_of_beq_eq_true q3
            obtain rfl := Nat.eq_of_beq_eq_true q4
            have := conv_pointer hT hC hd hi hs hv hsz hb hsee q3 hse hid2 hid
            exact ⟨w, ι, _, by simp [convert, run_und hT hs, run_und hT hv, this], hx, .refl ha hi⟩
        · cases h
      · cases h
    · cases h
  · -- the same bytes
    rename_i e0 e hs hv
    split at h
    · rename_i a n c0 hue
      split at h
      · rename_i cs el ex fz fam hsee
        cases hq : Nat.beq src dst && Nat.blt c0 UNKE with
        | false => simp only [hq] at h; cases h
        | true =>
          simp only [hq] at h
          obtain ⟨q1, q2⟩ := ble_and hT hq
          obtain rfl := Nat.eq_of_beq_eq_true q1
          have q2 : c0 < UNKE := Nat.le_of_ble_eq_true q2
          rw [hs] at hv; cases hv
          have key : ∃ b o c sz cap', a = ⟨b, o, none⟩ ∧ x' = .slice (some ⟨c, o, none⟩) n cap' ∧ ι b = some (c, sz) := by
            generalize hcc : c0 = c1 at hx
            cases hx with
            | slice hb' _ => exact ⟨_, _, _, _, _, rfl, rfl, hb'⟩
            | sliceU hb' _ _ => exact ⟨_, _, _, _, _, rfl, rfl, hb'⟩
            | sliceE => omega
          obtain ⟨b, o, c, sz, cap', rfl, rfl, hb'⟩ := key
          simp only [cond_true] at h
          cases hlow : St.low { st with h := st.h.set b (some ⟨.cells cs el ex fz, fam⟩) } T.n0 b with
          | none => rw [hlow] at h; cases h
          | some s2 =>
            rw [hlow] at h; cases h
            obtain ⟨hn0, rfl⟩ := low_some hlow
            obtain ⟨c', s', k1, arr, fr, b1, b2, b3, b4, b5, b6, b7⟩ := hi.ob b _ hsee
            rw [hb'] at k1; cases k1
            obtain ⟨fr', f1, f2, f3⟩ := freeze_end w c b1 b6
            obtain ⟨_, g2, g3, g4, g5, g6⟩ := freeze_heap w c arr.size 1 b1 b6
            refine ⟨w.freeze ⟨c, arr.size, none⟩ 1, ι, _, ?_, hx, step_put ha hi b _ (some ⟨.cells cs el ex fz, fam⟩) hsee hn0 (fun e h => by cases h; exact ⟨rfl, rfl⟩) c sz hb' g2 (fun e h => ?_) (fun i ei z hne h1 h2 => ?_) g4 g5 g6 g3⟩
            · have hm : (markStringish ⟨c, o, none⟩).run P w = .ok () (w.freeze ⟨c, arr.size, none⟩ 1) := by
                unfold markStringish
                rw [bind_step (shape_cells hT hC b1)]
                rfl
              simp [convert, run_und hT hs, run_und hT hue, hm]
            · cases h
              exact ⟨arr, fr', f1, b2, b3, b4, b5, f2, fun hz i hi' => f3 (fun j hj => b7 hz j (by omega)) i (by omega)⟩
            · obtain ⟨c2, s2, k1, k2⟩ := hi.ob i ei h1
              rw [h2] at k1; cases k1
              cases hob : ei.ob with
              | cells cs2 el2 ex2 fz2 =>
                rw [hob] at k2
                obtain ⟨arr2, fr2, p1, p2, p3, p4, p5, p6, p7⟩ := k2
                rw [b1] at p1; cases p1
                exact ⟨arr, fr', f1, p2, p3, p4, p5, f2, fun hz i hi' => f3 (fun j hj => p7 hz j (by omega)) i (by omega)⟩
              | map es => rw [hob] at k2; obtain ⟨_, _, p1, _⟩ := k2; rw [b1] at p1; cases p1
              | pmap es => rw [hob] at k2; obtain ⟨_, _, p1, _⟩ := k2; rw [b1] at p1; cases p1
              | siter s p => rw [hob] at k2; have p1 : w.heap[c]? = some (.stringIter s p) := k2; rw [b1] at p1; cases p1
              | loop t nt k busy => rw [hob] at k2; obtain ⟨r, ps, p1, _⟩ := k2; rw [b1] at p1; cases p1
              | dfr => rw [hob] at k2; have p1 : w.heap[c]? = some (.deferred (some [])) := k2; rw [b1] at p1; cases p1
      · cases h
    · cases h
  · -- bytes to a string
    rename_i e hs hv
    split at h
    · rename_i n c0 hue
      cases h
      have : x' = .slice none 0 0 := by cases hx; rfl
      subst this
      exact ⟨w, ι, _, by simp [convert, run_und hT hs, run_und hT hv, run_und hT hue, Conv.bytesToString]; rfl, .string _, .refl ha hi⟩
    · rename_i a n c0 hue
      have hlen : ∃ a' cap', x' = .slice (some a') n cap' := by cases hx <;> exact ⟨_, _, rfl⟩
      cases hb0 : Nat.beq n 0 with
      | true =>
        simp only [hb0] at h; cases h
        obtain rfl := Nat.eq_of_beq_eq_true hb0
        obtain ⟨a', cap', rfl⟩ := hlen
        exact ⟨w, ι, .string ⟨⟨[]⟩⟩, by simp [convert, run_und hT hs, run_und hT hv, run_und hT hue, Conv.bytesToString, loadCells, loadCellsFrom]; rfl, .string _, .refl ha hi⟩
      | false =>
        simp only [hb0, cond_false] at h
        cases hca : st.cellsAt a.block a.off n with
        | none => rw [hca] at h; cases h
        | some cl =>
          rw [hca] at h
          simp only [Option.bind_some] at h
          cases hby : toBytes cl with
          | none => rw [hby] at h; cases h
          | some l =>
            rw [hby] at h; cases h
            have key : ∃ b o c sz cap', a = ⟨b, o, none⟩ ∧ x' = .slice (some ⟨c, o, none⟩) n cap' ∧ ι b = some (c, sz) := by
              cases hx with
              | slice hb' _ => exact ⟨_, _, _, _, _, rfl, rfl, hb'⟩
              | sliceU hb' _ _ => exact ⟨_, _, _, _, _, rfl, rfl, hb'⟩
              | sliceE => cases hb0
            obtain ⟨b, o, c, sz, cap', rfl, rfl, hb'⟩ := key
            obtain ⟨l', r1, r2, r3⟩ := cellsAt_ok hi hca hb'
            obtain rfl := toBytes_ok r1 hby
            have := run_bytesToString (w := w) (cap := cap') hT hC (run_cells (P := P) r2 r3)
            exact ⟨w, ι, _, by simp [convert, run_und hT hs, run_und hT hv, run_und hT hue, this], .string _, .refl ha hi⟩
    · cases h
  · cases h

end
end Go.Proofs.YthdnpikgnmdnnaaGreatDoor.Ev

namespace Go.Proofs.YthdnpikgnmdnnaaGreatDoor.Ev
set_option linter.unusedSimpArgs false
set_option linter.unusedVariables false
set_option linter.unusedSectionVars false
variable [Tok]
open Go.RowKit
set_option linter.unusedSectionVars false

theorem u8_beq (a b : UInt8) : Nat.beq a.toNat b.toNat = (a == b) := by
  rw [Bool.eq_iff_iff]
  simp
  constructor
  · intro h; exact UInt8.toNat_inj.1 h
  · intro h; rw [h]

theorem countL_ok (c : UInt8) : ∀ l, countL c l = Lib.countByte l c
  | [] => rfl
  | x :: r => by
    have ih := countL_ok c r
    unfold Lib.countByte at ih ⊢
    simp only [countL, u8_beq, List.count_cons]
    cases h : x == c <;> simp [ih]

theorem indexL_ok (c : UInt8) : ∀ (l : List UInt8) (i : Nat), indexL c l i = if Lib.indexByte l c = -1 then -1 else Lib.indexByte l c + i
  | [], i => rfl
  | x :: r, i => by
    simp only [indexL, u8_beq, Lib.indexByte]
    by_cases h : (x == c) = true
    · simp [h]
    · have h : (x == c) = false := by simpa using h
      simp only [h, cond_false, Bool.false_eq_true, if_false]
      rw [indexL_ok c r (i + 1)]
      have hge := Lib.indexByte_ge r c
      by_cases h1 : Lib.indexByte r c = -1
      · simp [h1]
      · have h2 : (Lib.indexByte r c == -1) = false := by simpa using h1
        simp only [h1, h2, if_false, Bool.false_eq_true]
        rw [if_neg (by omega)]
        omega

theorem preL_ok : ∀ (a b : List UInt8), preL a b = a.isPrefixOf b
  | [], b => by cases b <;> rfl
  | _ :: _, [] => rfl
  | x :: a, y :: b => by simp only [preL, List.isPrefixOf, u8_beq, preL_ok a b]

theorem findL_ok (sub : List UInt8) : ∀ (l : List UInt8) (i : Nat), findL sub l i = if Lib.index l sub = -1 then -1 else Lib.index l sub + i
  | [], i => by
    simp only [findL, Lib.index, preL_ok]
    cases sub <;> simp
  | x :: r, i => by
    simp only [findL, Lib.index, preL_ok]
    by_cases h : (sub.isPrefixOf (x :: r)) = true
    · simp [h]
    · have h : (sub.isPrefixOf (x :: r)) = false := Bool.eq_false_iff.2 h
      simp only [h, cond_false, Bool.false_eq_true, if_false]
      rw [findL_ok sub r (i + 1)]
      have hge := Lib.index_ge r sub
      by_cases h1 : Lib.index r sub = -1
      · simp [h1]
      · have h2 : (Lib.index r sub == -1) = false := by simpa using h1
        simp only [h1, h2, if_false, Bool.false_eq_true]
        rw [if_neg (by omega)]
        omega

theorem cmpB_ok : ∀ (a b : List UInt8), (cond (ltL a b) (-1 : Int) (cond (ltL b a) 1 0)) = Lib.compareBytes a b
  | [], [] => rfl
  | [], _ :: _ => rfl
  | _ :: _, [] => rfl
  | x :: a, y :: b => by
    have ih := cmpB_ok a b
    simp only [ltL, Lib.compareBytes, u8_beq]
    have h1 : Nat.blt x.toNat y.toNat = decide (x < y) := by
      rw [Bool.eq_iff_iff]; simp [UInt8.lt_iff_toNat_lt]
    have h2 : Nat.blt y.toNat x.toNat = decide (y < x) := by
      rw [Bool.eq_iff_iff]; simp [UInt8.lt_iff_toNat_lt]
    rw [h1, h2]
    by_cases e1 : x < y
    · have e2 : ¬ y < x := by simp only [UInt8.lt_iff_toNat_lt] at e1 ⊢; omega
      simp [e1]
    · by_cases e2 : y < x
      · have e3 : (x == y) = false := by
          simp only [UInt8.lt_iff_toNat_lt] at e1 e2
          simp; intro e; rw [e] at e2; omega
        have e4 : (y == x) = false := by
          simp at e3 ⊢; exact fun e => e3 e.symm
        simp [e1, e2, e3]
      · have e3 : x = y := by
          simp only [UInt8.lt_iff_toNat_lt] at e1 e2
          exact UInt8.toNat_inj.1 (by omega)
        subst e3
        simp [e1, ih]

/-- What a function without a body answers. -/
noncomputable def extSem (e : Ext) : Array Value → Sem Value :=
  match e with
  | .count => Extern.BytealgCount.count
  | .indexByte => Extern.BytealgIndexByte.indexByte
  | .compare => Extern.BytealgCompare.compare
  | .same => Extern.AbiNoEscape.same
  | .noZero _ => fun _ => stuck ""

noncomputable def ExtOk (P : Program) (T : Tb) : Prop := ∀ f k, T.ext.get f = some k → ∀ args w,
  match k with
  | .noZero e => ∃ ps t, P.underlying t = some (.slice e) ∧ (callFunc f args).run P w = ((Extern.BytealgMakeNoZero.makeNoZero ps #[t] args).run P w).andThen fun v w' => .ok (.value v) w'
  | k => (callFunc f args).run P w = ((extSem k args).run P w).andThen fun v w' => .ok (.value v) w'

theorem All2.one {ι : Ren} {x : Value} {l : List Value} (h : All2 (Rv ι) [x] l) : ∃ x', l = [x'] ∧ Rv ι x x' := by
  obtain ⟨b, l2, rfl, h1, h2⟩ := h.cons_inv
  obtain rfl := h2.nil_inv
  exact ⟨b, rfl, h1⟩

theorem All2.two {ι : Ren} {x y : Value} {l : List Value} (h : All2 (Rv ι) [x, y] l) : ∃ x' y', l = [x', y'] ∧ Rv ι x x' ∧ Rv ι y y' := by
  obtain ⟨b, l2, rfl, h1, h2⟩ := h.cons_inv
  obtain ⟨c, rfl, h3⟩ := h2.one
  exact ⟨b, c, rfl, h1, h3⟩

section
variable {P : Program} {T : Tb} (hT : TbOk P T) (hC : CmpOk P T) (hE : ExtOk P T) {base : Nat} {ι : Ren} {st st' : St} {w : World}
include hT hC hE

theorem extV_ok (ha : Abs T st) (hi : Inv T.n0 base ι st.see w) {f : Nat} {k : Ext} (hk : T.ext.get f = some k) {args : List Value} {args' : Array Value} {u : Value} (hr : All2 (Rv ι) args args'.toList) (h : extV T st k args = some (u, st')) (hfr : ∀ id, st.next ≤ id → id < st'.next → ι id = none) :
    ∃ w' ι' v', (callFunc f args').run P w = .ok (.value v') w' ∧ Rv ι' u v' ∧ Stp T base st st' ι ι' w w' := by
  have hx := hE f k hk args' w
  obtain ⟨args'⟩ := args'
  simp only at hr
  cases k with
  | count =>
    simp only [extV] at h
    split at h
    · rename_i s c
      cases h
      obtain ⟨x', y', rfl, h1, h2⟩ := hr.two
      cases h1; obtain rfl := rv_int_inv h2
      refine ⟨w, ι, _, ?_, .int _ _, .refl ha hi⟩
      have := Lib.run_countString (P := P) s c w
      simp only [extSem] at hx
      rw [hx]
      show Result.andThen ((Extern.BytealgCount.count #[.string s, .int .u8 c]).run P w) _ = _
      rw [this, countL_ok]
      rfl
    · cases h
  | indexByte =>
    simp only [extV] at h
    split at h
    · rename_i s c
      cases h
      obtain ⟨x', y', rfl, h1, h2⟩ := hr.two
      cases h1; obtain rfl := rv_int_inv h2
      refine ⟨w, ι, _, ?_, .int _ _, .refl ha hi⟩
      have := Lib.run_indexByteString (P := P) s c w
      simp only [extSem] at hx
      rw [hx]
      show Result.andThen ((Extern.BytealgIndexByte.indexByte #[.string s, .int .u8 c]).run P w) _ = _
      rw [this, indexL_ok]
      have e : (if Lib.indexByte s.data.toList (UInt8.ofNat c.toNat) = -1 then (-1 : Int) else Lib.indexByte s.data.toList (UInt8.ofNat c.toNat) + (0 : Nat)) = Lib.indexByte s.data.toList (UInt8.ofNat c.toNat) := by
        split
        · rename_i e; exact e.symm
        · omega
      rw [e]
      rfl
    · cases h
  | compare =>
    simp only [extV] at h
    split at h
    · rename_i a b
      cases h
      obtain ⟨x', y', rfl, h1, h2⟩ := hr.two
      cases h1; cases h2
      refine ⟨w, ι, _, ?_, .int _ _, .refl ha hi⟩
      have := Lib.run_compareString (P := P) a b w
      simp only [extSem] at hx
      rw [hx]
      show Result.andThen ((Extern.BytealgCompare.compare #[.string a, .string b]).run P w) _ = _
      rw [this, cmpB_ok]
      rfl
    · cases h
  | same =>
    simp only [extV] at h
    split at h
    · cases h
      obtain ⟨x', rfl, h1⟩ := hr.one
      refine ⟨w, ι, x', ?_, h1, .refl ha hi⟩
      simp only [extSem] at hx
      rw [hx]
      rfl
    · cases h
  | noZero e =>
    simp only [extV] at h
    split at h
    · rename_i n
      split at h
      · rename_i hu hs
        cases hq : Nat.ble n 1000000 with
        | false => rw [hq] at h; cases h
        | true =>
          rw [hq] at h; cases h
          have hq := Nat.le_of_ble_eq_true hq
          obtain ⟨x', rfl, h1⟩ := hr.one
          obtain rfl := rv_int_inv h1
          obtain ⟨ps, t, ht, hx⟩ := hx
          obtain ⟨cs, g1, g2, _⟩ := Lib.run_makeNoZero w ps t e ht n (by omega)
          refine ⟨_, _, .slice (some ⟨w.heap.size, 0, none⟩) n cs.size, ?_, ?_, newCells_ok hT hC (w0 := w.drew.drew) (arr := cs) (ex := false) ha hi (Nat.zero_le _) (fun h => by cases h) (fun i v hv => by simp at hv) (hfr _ (Nat.le_refl _) (Nat.lt_succ_self _)) rfl rfl rfl rfl⟩
          · rw [hx]
            show Result.andThen ((Extern.BytealgMakeNoZero.makeNoZero ps #[t] #[.int .i64 (n : Int)]).run P w) _ = _
            rw [g1]
            rfl
          · exact .sliceU Ren.upd_self g2 (by omega)
      · cases h
    · cases h

end
end Go.Proofs.YthdnpikgnmdnnaaGreatDoor.Ev

namespace Go.Proofs.YthdnpikgnmdnnaaGreatDoor.Ev
set_option linter.unusedSimpArgs false
set_option linter.unusedVariables false
set_option linter.unusedSectionVars false
variable [Tok]
open Go.RowKit
set_option linter.unusedSectionVars false

theorem ret_inv {st st' : St} {x : Option Value} {u : Value} (h : ret st x = some (u, st')) : x = some u ∧ st' = st := by
  cases x with
  | none => cases h
  | some v => cases h; exact ⟨rfl, rfl⟩

theorem bind_inv {α β : Type} {x : Option α} {f : α → Option β} {y : β} (h : x.bind f = some y) : ∃ a, x = some a ∧ f a = some y := by
  cases x with
  | none => cases h
  | some a => exact ⟨a, rfl, h⟩

section
variable {P : Program} {T : Tb} (hT : TbOk P T) (hC : CmpOk P T) {base : Nat} {ι : Ren} {st st' : St} {w : World}
include hT hC

theorem buildSliceA_ok (ha : Abs T st) (hi : Inv T.n0 base ι st.see w) {ty : TypeId} {len : Nat} {vs vs' : List (Nat × Value)} {u : Value} (hv : All2 (fun x y => x.1 = y.1 ∧ Rv ι x.2 y.2) vs vs')
    (h : buildSliceA T st ty len vs = some (u, st')) (hfr : ∀ id, st.next ≤ id → id < st'.next → ι id = none) :
    ∃ w' ι' v', (Instr.buildSlice ty len vs'.toArray).run P w = .ok v' w' ∧ Rv ι' u v' ∧ Stp T base st st' ι ι' w w' := by
  unfold buildSliceA at h
  cases hu : T.und ty with
  | none => rw [hu] at h; cases h
  | some d =>
    rw [hu] at h
    cases d <;> (try simp only at h) <;> (try (cases h; done))
    rename_i e
    cases hs : T.size e with
    | none => rw [hs] at h; simp at h
    | some n =>
      cases hz : T.zero e with
      | none => rw [hs, hz] at h; simp at h
      | some z =>
        rw [hs, hz] at h
        simp only at h
        cases hq : Nat.ble (len * n) 16777216 && (Nat.ble len 16777216 && Nat.beq (vcells z).length n) with
        | false => rw [hq] at h; cases h
        | true =>
          rw [hq] at h
          simp only [cond_true] at h
          obtain ⟨q1, q2⟩ := ble_and hT hq
          obtain ⟨q3, q2⟩ := ble_and hT q2
          have q1 := Nat.le_of_ble_eq_true q1
          have q3 := Nat.le_of_ble_eq_true q3
          have q2 := Nat.eq_of_beq_eq_true q2
          cases hf : fillL (fun i => some (i * n, n)) (reps len (vcells z)) vs with
          | none => rw [hf] at h; cases h
          | some l =>
            rw [hf] at h; cases h
            obtain ⟨hz1, hz2⟩ := run_zero hT hz w
            have hzc := rv_cells (rv_closed ι _ _ hz2)
            have hzl := hzc.1
            simp only [Array.length_toList] at hzl
            have hsz : z.cells.size = n := by omega
            have hcell : All2 (Rv ι) (reps len (vcells z)) ((Array.range (len * n)).map fun j => z.cells[j % z.cells.size]!).toList := by
              rw [← hsz, zeros_eq]; exact reps_cells hzc len
            obtain ⟨arr', g1, g2⟩ := fill_ok hT _ vs vs' _ l _ hv hcell hf
            have hsmall : ¬ (len * n > 2 ^ 24) := by omega
            have hsz' : arr'.size = l.length := by have := g2.1; simp only [Array.length_toList] at this; omega
            have hl : l.length = len * n := by
              have : ∀ (place : Nat → Option (Nat × Nat)) (vs : List (Nat × Value)) (cs l : List Value), fillL place cs vs = some l → l.length = cs.length := by
                intro place vs
                induction vs with
                | nil => intro cs l h; cases h; rfl
                | cons v vs ih =>
                  intro cs l h
                  simp only [fillL] at h
                  split at h
                  · cases hb : Nat.beq (vcells v.2).length _ with
                    | false => rw [hb] at h; cases h
                    | true =>
                      rw [hb] at h
                      simp only [cond_true] at h
                      split at h
                      · rename_i c hc
                        rw [ih _ _ h]
                        exact (setAt_some _ _ _ _ hc).1
                      · cases h
                  · cases h
              rw [this _ _ _ _ hf, reps_length, q2]
            refine ⟨{ w with heap := w.heap.push (.cells arr' e) }, _, .slice (some ⟨w.heap.size, 0, none⟩) len len, ?_, ?_, newCells_ok hT hC (w0 := w) (arr := arr') (ex := true) ha hi (by omega) (fun _ => hsz'.symm) (fun i v hv => g2.get hv) (hfr _ (Nat.le_refl _) (Nat.lt_succ_self _)) rfl rfl rfl rfl⟩
            · unfold Instr.buildSlice
              rw [bind_step (run_und hT hu w)]
              dsimp only
              rw [bind_step (run_size hT hs w), if_neg hsmall]
              by_cases h0 : len * n = 0
              · rw [if_pos h0]
                rw [bind_step (show (Pure.pure #[] : Sem (Array Value)).run P w = .ok #[] w from rfl)]
                have e1 : ((Array.range (len * n)).map fun j => (#[] : Array Value)[j % (#[] : Array Value).size]!) = ((Array.range (len * n)).map fun j => z.cells[j % z.cells.size]!) := by
                  rw [h0]; apply Array.ext'; simp
                rw [e1, g1]
                rfl
              · rw [if_neg h0]
                rw [bind_step hz1, bind_step (show (Pure.pure z.cells : Sem (Array Value)).run P w = .ok z.cells w from rfl), g1]
                rfl
            · refine .slice Ren.upd_self ?_
              unfold UNK; omega

end
end Go.Proofs.YthdnpikgnmdnnaaGreatDoor.Ev

namespace Go.Proofs.YthdnpikgnmdnnaaGreatDoor.Ev
set_option linter.unusedSimpArgs false
set_option linter.unusedVariables false
set_option linter.unusedSectionVars false
variable [Tok]
open Go.RowKit
set_option linter.unusedSectionVars false

/-- What an operation that is no call comes to. -/
noncomputable def Does (P : Program) (T : Tb) (base : Nat) (st st' : St) (ι : Ren) (w : World) (s : Sem Next) (u : Value) : Prop :=
  ∃ nx w' ι', s.run P w = .ok nx w' ∧ Stp T base st st' ι ι' w w' ∧ ((∃ v', nx = .value v' ∧ Rv ι' u v') ∨ (nx = .skip ∧ u = .tuple #[]))

section
variable {P : Program} {T : Tb} {base : Nat} {ι : Ren} {st st' : St} {w : World}

theorem does_value {s : Sem Value} {u : Value} {w' : World} {ι' : Ren} {v' : Value} (h : s.run P w = .ok v' w') (hr : Rv ι' u v') (hs : Stp T base st st' ι ι' w w') :
    Does P T base st st' ι w (do pure (.value (← s))) u :=
  ⟨.value v', w', ι', by rw [bind_step h]; rfl, hs, .inl ⟨v', rfl, hr⟩⟩

theorem does_unit {s : Sem Unit} {u : Value} {w' : World} {ι' : Ren} (h : s.run P w = .ok () w') (hu : u = .tuple #[]) (hs : Stp T base st st' ι ι' w w') :
    Does P T base st st' ι w (do s; pure .skip) u :=
  ⟨.skip, w', ι', by rw [bind_step h]; rfl, hs, .inr ⟨rfl, hu⟩⟩

theorem does_pure {v u : Value} (ha : Abs T st) (hi : Inv T.n0 base ι st.see w) (hr : Rv ι u v) : Does P T base st st ι w (pure (.value v)) u :=
  ⟨.value v, w, ι, rfl, .refl ha hi, .inl ⟨v, rfl, hr⟩⟩

end

section
variable {P : Program} {T : Tb} (hT : TbOk P T) (hC : CmpOk P T) (hd : 0 < P.depth) {base : Nat} {ι : Ren} {st st' : St} {w : World}
include hT hC hd

theorem optV_ok (hi : Inv T.n0 base ι st.see w) {t : Tr Value} {a : Act} (ht : TR ι t a.tmps) {o : Option Operand} {v : Option Value} (h : optV T t o = some v) : OptR ι v (o.map a.eval) := by
  cases o with
  | none => cases h; trivial
  | some o =>
    simp only [optV] at h
    cases ho : operand T.n0 t o with
    | none => rw [ho] at h; cases h
    | some x => rw [ho] at h; cases h; exact operand_ok hi ht ho

set_option maxHeartbeats 2000000 in
theorem evalOp_ok (ha : Abs T st) (hi : Inv T.n0 base ι st.see w) {t : Tr Value} {a : Act} (ht : TR ι t a.tmps) {o : Oper} {u : Value} (h : evalOp T t o st = some (u, st')) (hfr : ∀ id, st.next ≤ id → id < st'.next → ι id = none) :
    Does P T base st st' ι w (execOp a.eval o) u := by
  obtain ⟨dst, op, ty, pos, after, guard⟩ := o
  have op1 := fun {x : Operand} {v : Value} (h : operand T.n0 t x = some v) => operand_ok hi ht h
  cases op <;> simp only [evalOp] at h <;> (try (cases h; done))
  case move x => obtain ⟨h1, rfl⟩ := ret_inv h; exact does_pure ha hi (op1 h1)
  case assign x => obtain ⟨h1, rfl⟩ := ret_inv h; exact does_pure ha hi (op1 h1)
  case pick c x y =>
    obtain ⟨vc, h1, h⟩ := bind_inv h
    obtain ⟨vx, h2, h⟩ := bind_inv h
    obtain ⟨vy, h3, hh⟩ := bind_inv h
    cases vc with
    | bool q =>
      cases hh
      have hc0 : ∀ v', Rv ι (.bool q) v' → v' = .bool q := fun v' h => by cases h; rfl
      have hc : a.eval c = .bool q := hc0 _ (op1 h1)
      refine ⟨.value (if q then a.eval x else a.eval y), w, ι, ?_, .refl ha hi, .inl ⟨_, rfl, ?_⟩⟩
      · simp [execOp, hc, asBool]
      · cases q
        · exact op1 h3
        · exact op1 h2
    | _ => cases hh
  case alloc e =>
    obtain ⟨w', ι', v', h1, h2, h3⟩ := allocA_ok hT ha hi h hfr
    exact does_value h1 h2 h3
  case box e x =>
    obtain ⟨v, h1, h⟩ := bind_inv h
    obtain ⟨w', ι', r, h2, h3, h4⟩ := newA_ok hT ha hi (op1 h1) h hfr
    exact does_value (by unfold Instr.box; rw [bind_step h2]; rfl) h3 h4
  case build t0 ps =>
    obtain ⟨vs, h1, h⟩ := bind_inv h
    obtain ⟨h2, rfl⟩ := ret_inv h
    obtain ⟨v', h3, h4⟩ := buildA_ok hT (parts_ok hi ht h1) h2 w
    refine does_value (w' := w) ?_ h4 (.refl ha hi)
    rw [← h3]; congr 2; apply Array.ext'; simp
  case buildSlice t0 len ps =>
    obtain ⟨vs, h1, h⟩ := bind_inv h
    obtain ⟨w', ι', v', h3, h4, h5⟩ := buildSliceA_ok hT hC ha hi (parts_ok hi ht h1) h hfr
    refine does_value ?_ h4 h5
    rw [← h3]; congr 2; apply Array.ext'; simp
  case load t0 x =>
    obtain ⟨v, h1, h⟩ := bind_inv h
    obtain ⟨rfl, v', h2, h3⟩ := loadA_ok hT hi (op1 h1) h
    exact does_value h2 h3 (.refl ha hi)
  case store t0 x y =>
    obtain ⟨v, h1, h⟩ := bind_inv h
    obtain ⟨v2, h2, h⟩ := bind_inv h
    obtain ⟨h3, w', h4, h5⟩ := storeA_ok hT ha hi (op1 h1) (op1 h2) h
    exact does_unit h4 h3 h5
  case nilCheck x =>
    obtain ⟨v, h1, h⟩ := bind_inv h
    obtain ⟨h2, rfl⟩ := ret_inv h
    have hr := op1 h1
    unfold nilCheckA at h2
    split at h2
    · cases h2
      obtain ⟨b, o, c, sz, rfl, hv, hb⟩ := ptr_inv hT hr
      refine ⟨.value (.pointer (some ⟨c, o, none⟩)), w, ι, by simp [execOp, hv], .refl ha hi, .inl ⟨_, rfl, .ptr hb⟩⟩
    · cases h2
      have : ∃ a1 a2, a.eval x = .func (.func ‹_›) a1 a2 := by cases hq : a.eval x <;> rw [hq] at hr <;> cases hr; exact ⟨_, _, rfl⟩
      obtain ⟨a1, a2, hv⟩ := this
      refine ⟨.value (a.eval x), w, ι, by simp [execOp, hv], .refl ha hi, .inl ⟨_, rfl, hr⟩⟩
    · cases h2
      have : ∃ c', a.eval x = .func (.yield c') #[] #[] := by cases hq : a.eval x <;> rw [hq] at hr <;> cases hr; exact ⟨_, rfl⟩
      obtain ⟨c', hv⟩ := this
      refine ⟨.value (a.eval x), w, ι, by simp [execOp, hv], .refl ha hi, .inl ⟨_, rfl, hr⟩⟩
    · cases h2
  case binOp op xT x y yT =>
    obtain ⟨v, h1, h⟩ := bind_inv h
    obtain ⟨v2, h2, h⟩ := bind_inv h
    obtain ⟨h3, rfl⟩ := ret_inv h
    obtain ⟨v', h4, h5⟩ := binV_ok hT hC w (op1 h1) (op1 h2) h3
    exact does_value h4 h5 (.refl ha hi)
  case unOp op xT x =>
    obtain ⟨v, h1, h⟩ := bind_inv h
    obtain ⟨h3, rfl⟩ := ret_inv h
    obtain ⟨h4, h5⟩ := unV_ok hT w (op1 h1) h3
    exact does_value h4 h5 (.refl ha hi)
  case convert src d x =>
    obtain ⟨v, h1, h⟩ := bind_inv h
    obtain ⟨w', ι', v', h3, h4, h5⟩ := convertA_ok hT hC hd ha hi (op1 h1) h hfr
    exact does_value h3 h4 h5
  case makeInterface xT x =>
    obtain ⟨v, h1, h⟩ := bind_inv h
    obtain ⟨h3, rfl⟩ := ret_inv h
    obtain ⟨v', h4, h5⟩ := ifaceA_ok hT w (op1 h1) h3
    exact does_value h4 h5 (.refl ha hi)
  case makeFunc fn first captured =>
    obtain ⟨v, h1, h⟩ := bind_inv h
    obtain ⟨v2, h2, h⟩ := bind_inv h
    obtain ⟨h3, rfl⟩ := ret_inv h
    have r1 := operands_ok hi ht h1
    have r2 := operands_ok hi ht h2
    cases fn with
    | func f =>
      cases h3
      refine ⟨.value (.func (.func f) (first.map a.eval) (captured.map a.eval)), w, ι, rfl, .refl ha hi, .inl ⟨_, rfl, ?_⟩⟩
      rw [← Array.toList_map] at r1 r2
      exact .func r1.1 r1.2 r2.1 r2.2
    | _ => cases h3
  case makeMap t0 r =>
    cases r with
    | none =>
      obtain ⟨w', ι', v', h3, h4, h5, _⟩ := newMap_ok hT hC ha hi h hfr t0
      exact does_value h3 h4 h5
    | some x =>
      obtain ⟨v, h1, h⟩ := bind_inv h
      obtain ⟨w', ι', v', h3, h4, h5⟩ := makeMapA_ok hT hC ha hi (op1 h1) h hfr
      exact does_value h3 h4 h5
  case makeSlice t0 l c =>
    obtain ⟨v, h1, h⟩ := bind_inv h
    obtain ⟨v2, h2, h⟩ := bind_inv h
    obtain ⟨w', ι', v', h3, h4, h5⟩ := makeSliceA_ok hT hC ha hi (op1 h1) (op1 h2) h hfr
    exact does_value h3 h4 h5
  case slice t0 x lo hi' mx =>
    obtain ⟨v, h1, h⟩ := bind_inv h
    obtain ⟨v1, h2, h⟩ := bind_inv h
    obtain ⟨v2, h3, h⟩ := bind_inv h
    obtain ⟨v3, h4, h⟩ := bind_inv h
    obtain ⟨h5, rfl⟩ := ret_inv h
    obtain ⟨v', h6, h7⟩ := sliceA_ok hT w (op1 h1) (optV_ok hT hC hd hi ht h2) (optV_ok hT hC hd hi ht h3) (optV_ok hT hC hd hi ht h4) h5
    exact does_value h6 h7 (.refl ha hi)
  case fieldAddr t0 x f =>
    obtain ⟨v, h1, h⟩ := bind_inv h
    obtain ⟨h3, rfl⟩ := ret_inv h
    obtain ⟨v', h4, h5⟩ := fieldAddrA_ok hT w (op1 h1) h3
    exact does_value h4 h5 (.refl ha hi)
  case field t0 x f =>
    obtain ⟨v, h1, h⟩ := bind_inv h
    obtain ⟨h3, rfl⟩ := ret_inv h
    obtain ⟨v', h4, h5⟩ := fieldA_ok hT w (op1 h1) h3
    exact does_value h4 h5 (.refl ha hi)
  case indexAddr t0 x i =>
    obtain ⟨v, h1, h⟩ := bind_inv h
    obtain ⟨v2, h2, h⟩ := bind_inv h
    obtain ⟨h3, rfl⟩ := ret_inv h
    obtain ⟨v', h4, h5⟩ := indexAddrA_ok hT w (op1 h1) (op1 h2) h3
    exact does_value h4 h5 (.refl ha hi)
  case index t0 x i =>
    obtain ⟨v, h1, h⟩ := bind_inv h
    obtain ⟨v2, h2, h⟩ := bind_inv h
    obtain ⟨h3, rfl⟩ := ret_inv h
    obtain ⟨v', h4, h5⟩ := indexA_ok hT w (op1 h1) (op1 h2) h3
    exact does_value h4 h5 (.refl ha hi)
  case lookup t0 x i ok =>
    obtain ⟨v, h1, h⟩ := bind_inv h
    obtain ⟨v2, h2, h⟩ := bind_inv h
    obtain ⟨h3, rfl⟩ := ret_inv h
    obtain ⟨v', h4, h5⟩ := lookupA_ok hT hC hi (op1 h1) (op1 h2) h3
    exact does_value h4 h5 (.refl ha hi)
  case mapUpdate t0 m k x =>
    obtain ⟨v, h1, h⟩ := bind_inv h
    obtain ⟨v2, h2, h⟩ := bind_inv h
    obtain ⟨v3, h3, h⟩ := bind_inv h
    obtain ⟨h4, w', h5, h6⟩ := mapUpdateA_ok hT hC ha hi (op1 h1) (op1 h2) (op1 h3) h
    exact does_unit h5 h4 h6
  case insert t0 m k x =>
    obtain ⟨v, h1, h⟩ := bind_inv h
    obtain ⟨v2, h2, h⟩ := bind_inv h
    obtain ⟨v3, h3, h⟩ := bind_inv h
    obtain ⟨h4, w', h5, h6⟩ := mapUpdateA_ok hT hC ha hi (op1 h1) (op1 h2) (op1 h3) h
    exact does_unit h5 h4 h6
  case range t0 x =>
    obtain ⟨v, h1, h⟩ := bind_inv h
    obtain ⟨w', ι', v', h3, h4, h5⟩ := rangeA_ok hT hC ha hi (op1 h1) h hfr
    exact does_value h3 h4 h5
  case next x b =>
    cases b with
    | false => cases h
    | true =>
      obtain ⟨v, h1, h⟩ := bind_inv h
      obtain ⟨w', v', h3, h4, h5⟩ := nextA_ok (ty := ty) hT hC ha hi (op1 h1) h
      exact does_value h3 h4 h5
  case extract x i =>
    obtain ⟨v, h1, h⟩ := bind_inv h
    obtain ⟨h3, rfl⟩ := ret_inv h
    obtain ⟨v', h4, h5⟩ := extractA_ok hT w (op1 h1) h3
    exact does_value h4 h5 (.refl ha hi)
  case typeAssert x xT t0 ok =>
    obtain ⟨v, h1, h⟩ := bind_inv h
    obtain ⟨h3, rfl⟩ := ret_inv h
    obtain ⟨v', h4, h5⟩ := assertA_ok (xT := xT) hT hC (w := w) (op1 h1) h3
    exact does_value h4 h5 (.refl ha hi)

end
end Go.Proofs.YthdnpikgnmdnnaaGreatDoor.Ev

namespace Go.Proofs.YthdnpikgnmdnnaaGreatDoor.Ev
set_option linter.unusedSimpArgs false
set_option linter.unusedVariables false
set_option linter.unusedSectionVars false
variable [Tok]
open Go.RowKit
set_option linter.unusedSectionVars false

theorem arr_one {ι : Ren} {x : Value} {l : Array Value} (h : All2 (Rv ι) [x] l.toList) : ∃ x', l = #[x'] ∧ Rv ι x x' := by
  obtain ⟨l⟩ := l
  obtain ⟨x', rfl, hh⟩ := h.one
  exact ⟨x', rfl, hh⟩

theorem arr_two {ι : Ren} {x y : Value} {l : Array Value} (h : All2 (Rv ι) [x, y] l.toList) : ∃ x' y', l = #[x', y'] ∧ Rv ι x x' ∧ Rv ι y y' := by
  obtain ⟨l⟩ := l
  obtain ⟨x', y', rfl, hh⟩ := h.two
  exact ⟨x', y', rfl, hh⟩

section
variable {P : Program} {T : Tb} (hT : TbOk P T) (hC : CmpOk P T) (hd : 0 < P.depth) {base : Nat} {ι : Ren} {st st' : St} {w : World}
include hT hC hd

theorem builtinA_ok (ha : Abs T st) (hi : Inv T.n0 base ι st.see w) {b : Builtin} {ts : Array TypeId} {tt : TypeId} {consts : Array Bool} {args : List Value} {args' : Array Value} {u : Value} (hr : All2 (Rv ι) args args'.toList)
    (h : builtinA T st b ts.toList args = some (u, st')) (hfr : ∀ id, st.next ≤ id → id < st'.next → ι id = none) : Does P T base st st' ι w (builtin b ts tt consts args') u := by
  have hts : ∀ {t r}, ts.toList = t :: r → ts[0]? = some t := fun {t r} e => by
    rw [← Array.getElem?_toList, e]; rfl
  have hts1 : ∀ {t r}, ts.toList = t :: r → ts[1]? = r.head? := fun {t r} e => by
    rw [← Array.getElem?_toList, e]; cases r <;> rfl
  cases b <;> simp only [builtinA] at h <;> (try (cases h; done))
  case len =>
    split at h
    · rename_i t r x hte
      obtain ⟨h1, rfl⟩ := ret_inv h
      obtain ⟨x', rfl, hx⟩ := arr_one hr
      obtain ⟨v', h2, h3⟩ := lenA_ok hT hi (tt := tt) (hts hte) hx h1
      exact does_value h2 h3 (.refl ha hi)
    · cases h
  case cap =>
    split at h
    · rename_i t r x hte
      obtain ⟨h1, rfl⟩ := ret_inv h
      obtain ⟨x', rfl, hx⟩ := arr_one hr
      obtain ⟨v', h2, h3⟩ := capA_ok hT w (tt := tt) (hts hte) hx h1
      exact does_value h2 h3 (.refl ha hi)
    · cases h
  case append =>
    split at h
    · rename_i t r s x hte
      obtain ⟨s', x', rfl, hs, hx⟩ := arr_two hr
      obtain ⟨w', ι', v', h2, h3, h4⟩ := appendA_ok hT hC ha hi (tt := tt) (hts hte) (hts1 hte) hs hx h hfr
      exact does_value h2 h3 h4
    · cases h
  case copy =>
    split at h
    · rename_i t r d s hte
      obtain ⟨d', s', rfl, hd', hs⟩ := arr_two hr
      obtain ⟨w', v', h2, h3, h4⟩ := copyA_ok hT hC ha hi (tt := tt) (hts hte) hd' hs h
      exact does_value h2 h3 h4
    · cases h
  case delete =>
    split at h
    · rename_i t r m k hte
      obtain ⟨m', k', rfl, hm, hk⟩ := arr_two hr
      obtain ⟨rfl, w', h2, h3⟩ := deleteA_ok hT hC ha hi (tt := tt) (hts hte) hm hk h
      exact does_value h2 rv_undef h3
    · cases h
  case max =>
    split at h
    · rename_i x y
      obtain ⟨h1, rfl⟩ := ret_inv h
      obtain ⟨x', y', rfl, hx, hy⟩ := arr_two hr
      obtain ⟨h2, h3⟩ := min2A_ok hT w hx hy h1
      exact does_value (v' := u) h2 h3 (.refl ha hi)
    · cases h
  case min =>
    split at h
    · rename_i x y
      obtain ⟨h1, rfl⟩ := ret_inv h
      obtain ⟨x', y', rfl, hx, hy⟩ := arr_two hr
      obtain ⟨h2, h3⟩ := min2A_ok hT w hx hy h1
      exact does_value (v' := u) h2 h3 (.refl ha hi)
    · cases h
  case unsafeSliceData =>
    split at h
    · rename_i x
      obtain ⟨h1, rfl⟩ := ret_inv h
      obtain ⟨x', rfl, hx⟩ := arr_one hr
      obtain ⟨v', h2, h3⟩ := stringDataA_ok hT hC (w := w) (ts := ts) (tt := tt) hx h1
      exact does_value h2 h3 (.refl ha hi)
    · cases h
  case unsafeString =>
    split at h
    · rename_i p n
      obtain ⟨p', n', rfl, hp, hn⟩ := arr_two hr
      obtain ⟨w', v', h2, h3, h4⟩ := unsafeStringA_ok hT hC ha hi (tt := tt) hp hn h
      exact does_value h2 h3 h4
    · cases h

end

/-- A frame and its abstraction. -/
noncomputable def DfR (ι : Ren) (x : Nat × List Value) (d : Deferred) : Prop :=
  (x.1 < UNK ∧ ∃ cap, d.target = .fn (.func x.1) cap ∧ All2 (Rv ι) x.2 (d.args ++ cap).toList) ∨ ∃ i c z, x.1 = UNK + i ∧ ι i = some (c, z) ∧ d.target = .collected c

theorem DfR.mono {ι ι' : Ren} (h : ι.le ι') {x : Nat × List Value} {d : Deferred} : DfR ι x d → DfR ι' x d
  | .inl ⟨h0, cap, h1, h2⟩ => .inl ⟨h0, cap, h1, h2.mono fun _ _ k => k.mono h⟩
  | .inr ⟨i, c, z, h1, h2, h3⟩ => .inr ⟨i, c, z, h1, h _ _ h2, h3⟩

structure FrR (ι : Ren) (nt : Nat) (fr : Fr) (a : Act) : Prop where
  t : TR ι fr.t a.tmps
  size : a.tmps.size = nt
  ds : All2 (DfR ι) fr.ds a.defers

theorem FrR.mono {ι ι' : Ren} (h : ι.le ι') {nt : Nat} {fr : Fr} {a : Act} (r : FrR ι nt fr a) : FrR ι' nt fr a :=
  ⟨r.t.mono h, r.size, r.ds.mono fun x d k => k.mono h⟩

theorem put_ok {ι : Ren} {nt : Nat} {fr : Fr} {a : Act} (h : FrR ι nt fr a) {dst : Option Nat} {v v' : Value} {t' : Tr Value} (hv : Rv ι v v') (hp : putT nt fr.t dst v = some t') : FrR ι nt ⟨t', fr.ds⟩ (a.put dst v') := by
  cases dst with
  | none => cases hp; exact ⟨h.t, h.size, h.ds⟩
  | some d =>
    simp only [putT] at hp
    cases hb : Nat.blt d nt with
    | false => rw [hb] at hp; cases hp
    | true =>
      rw [hb] at hp; cases hp
      have hlt : d < nt := Nat.le_of_ble_eq_true hb
      refine ⟨fun i x hx => ?_, by simp [Act.put, h.size], h.ds⟩
      rw [Tr.get_set] at hx
      by_cases e : i = d
      · rw [if_pos e] at hx; cases hx
        refine ⟨v', ?_, hv⟩
        subst e
        have : i < a.tmps.size := by rw [h.size]; exact hlt
        simp [Act.put, this]
      · rw [if_neg e] at hx
        obtain ⟨y, h1, h2⟩ := h.t i x hx
        refine ⟨y, ?_, h2⟩
        simp only [Act.put]
        rw [Array.getElem?_setIfInBounds_ne (Ne.symm e)]
        exact h1

theorem wanted_ok {ι : Ren} {t : Tr Value} {a : Act} (h : TR ι t a.tmps) {ops : Array Oper} {o : Oper} {q : Bool} (hw : wantedA ops.toList t o = some q) : Region.wanted o (yielded ops a.tmps) = q := by
  unfold wantedA at hw
  unfold Region.wanted
  cases hg : o.guard with
  | none => rw [hg] at hw; cases hw; rfl
  | some g =>
    obtain ⟨j, want⟩ := g
    rw [hg] at hw
    simp only at hw ⊢
    have e : ops.toList[j]? = ops[j]? := by simp
    rw [e] at hw
    unfold yielded
    cases hd : (ops[j]?).bind (·.dst) with
    | none => rw [hd] at hw; cases hw; rfl
    | some d =>
      rw [hd] at hw
      simp only [Option.bind_some] at hw ⊢
      cases ht : t.get d with
      | none => rw [ht] at hw; cases hw
      | some v =>
        rw [ht] at hw
        obtain ⟨v', h1, h2⟩ := h d v ht
        rw [h1]
        cases h2 <;> simp only at hw <;> cases hw <;> rfl

end Go.Proofs.YthdnpikgnmdnnaaGreatDoor.Ev

namespace Go.Proofs.YthdnpikgnmdnnaaGreatDoor.Ev
set_option linter.unusedSimpArgs false
set_option linter.unusedVariables false
set_option linter.unusedSectionVars false
variable [Tok]
open Go.RowKit
set_option linter.unusedSectionVars false

/-- How a call's end reads. -/
noncomputable def EndR (ι : Ren) : Out → Ending → Prop
  | .val v, .returned v' => Rv ι v v'
  | .pans v, .panicked ch => ∃ v', Rv ι v v' ∧ ch = [{ v := v', recovered := false }]
  | _, _ => False

/-- How a piece of code's end reads. -/
noncomputable def ExR (ι : Ren) (nt : Nat) : Out → Exit → Act → Prop
  | .norm fr, .normal, a => FrR ι nt fr a
  | .exit id fr, .exit id', a => id = id' ∧ FrR ι nt fr a
  | .ret fr, .ret, a => FrR ι nt fr a
  | .pan v fr, .panic ch, a => (∃ v', Rv ι v v' ∧ ch = [{ v := v', recovered := false }]) ∧ FrR ι nt fr a
  | _, _, _ => False

/-- The numbers from one on have not been used. -/
noncomputable def Fresh (ι : Ren) (st st' : St) : Prop := ∀ id, st.next ≤ id → id < st'.next → ι id = none

/-- Each loop over a function is the one that its number tells. -/
noncomputable def rfOk : Code → Prop
  | .seq a b => rfOk a ∧ rfOk b
  | .cond _ a b => rfOk a ∧ rfOk b
  | .block _ a => rfOk a
  | .loop a => rfOk a
  | .rangeFunc _ ps a c => LP (keyOf c) = some (ps.toList, (a, c))
  | _ => True

theorem calm_rf : ∀ {c : Code}, calmC c = true → rfOk c
  | .seq a b, h => by simp only [calmC, Bool.and_eq_true] at h; exact ⟨calm_rf h.1, calm_rf h.2⟩
  | .cond _ a b, h => by simp only [calmC, Bool.and_eq_true] at h; exact ⟨calm_rf h.1, calm_rf h.2⟩
  | .block _ a, h => by simp only [calmC] at h; exact calm_rf (c := a) h
  | .loop a, h => by simp only [calmC] at h; exact calm_rf (c := a) h
  | .rangeFunc _ _ _ _, h => by cases h
  | .skip, _ => trivial
  | .region .., _ => trivial
  | .exit _, _ => trivial
  | .scope _, _ => trivial
  | .label _, _ => trivial
  | .goto _, _ => trivial
  | .ret, _ => trivial
  | .refuse _, _ => trivial

theorem rfs_ok : ∀ {c : Code}, (∀ x ∈ rfs c, LP (keyOf x.2.2) = some x) → rfOk c
  | .seq a b, h => by simp only [rfs, List.mem_append] at h; exact ⟨rfs_ok fun x hx => h x (.inl hx), rfs_ok fun x hx => h x (.inr hx)⟩
  | .cond _ a b, h => by simp only [rfs, List.mem_append] at h; exact ⟨rfs_ok fun x hx => h x (.inl hx), rfs_ok fun x hx => h x (.inr hx)⟩
  | .block _ a, h => rfs_ok (c := a) h
  | .loop a, h => rfs_ok (c := a) h
  | .rangeFunc _ ps a c, h => by
    have h1 := h (ps.toList, (a, c)) (List.mem_cons_self ..)
    simp only [rfOk]
    exact h1
  | .skip, _ => trivial
  | .region .., _ => trivial
  | .exit _, _ => trivial
  | .scope _, _ => trivial
  | .label _, _ => trivial
  | .goto _, _ => trivial
  | .ret, _ => trivial
  | .refuse _, _ => trivial

/-- The functions with loops over functions are these. -/
noncomputable def rfOnly (P : Program) (fs : List Nat) : Bool := P.funcs.toList.zipIdx.all fun (fn, i) => memN i fs || (match fn.body with
  | some c => (rfs c).isEmpty
  | none => true)

theorem rf_of {P : Program} {T : Tb} (hT : ∀ f fn, T.fn.get f = some fn → P.funcs[f]? = some fn) {fs : List Nat} (h1 : rfOnly P fs = true) (h2 : ∀ f ∈ fs, ∀ x ∈ rfsAt P f, LP (keyOf x.2.2) = some x) :
    ∀ f fn c, T.fn.get f = some fn → fn.body = some c → rfOk c := by
  intro f fn c hf hb
  have hp := hT f fn hf
  refine rfs_ok fun x hx => ?_
  by_cases hm : f ∈ fs
  · refine h2 f hm x ?_
    unfold rfsAt
    rw [hp]
    simp only
    rw [hb]
    exact hx
  · unfold rfOnly at h1
    have h3 := List.all_eq_true.1 h1 (fn, f) (by
      rw [List.mem_iff_getElem?]
      exact ⟨f, by rw [List.getElem?_zipIdx, Array.getElem?_toList, hp]; simp⟩)
    simp only [Bool.or_eq_true] at h3
    rcases h3 with h3 | h3
    · have aux : ∀ l : List Nat, memN f l = true → f ∈ l := by
        intro l
        induction l with
        | nil => intro h; cases h
        | cons y r ih =>
          intro h
          simp only [memN, Bool.or_eq_true] at h
          rcases h with h | h
          · rw [Nat.eq_of_beq_eq_true h]; exact List.mem_cons_self ..
          · exact List.mem_cons_of_mem _ (ih h)
      exact absurd (aux fs h3) hm
    · rw [hb] at h3
      simp only [List.isEmpty_iff] at h3
      rw [h3] at hx; cases hx

noncomputable def PrimOk (P : Program) (T : Tb) (E : World → Prop) : Prop := ∀ f k, T.prim.get f = some k → ∀ args v, primV k args = some v → ∀ (w : World) (args' : Array Value) (ι : Ren), E w → All2 (Rv ι) args args'.toList →
  Calls P f args' w fun e w' => (∃ v', e = .returned v' ∧ Rv ι v v') ∧ w'.heap = w.heap ∧ w'.os = w.os ∧ w'.tape = w.tape ∧ w'.output = w.output

/-- A table for unknown values is right. -/
noncomputable def TkOk (P : Program) (E : World → Prop) (f : Op → List Value → Option Value) : Prop :=
  ∀ op vs v, f op vs = some v → ∀ (ι : Ren) (ev : Operand → Value) (w : World), E w → All2 (Rv ι) vs (op.operands.toList.map ev) →
    ∀ dst ty pos after guard, ∃ v', (execOp ev ⟨dst, op, ty, pos, after, guard⟩).run P w = .ok (.value v') w ∧ Rv ι v v'
theorem tk_none (P : Program) (E : World → Prop) : TkOk P E fun _ _ => none := by
  intro op vs v h
  cases h

/-- What is known of the program and of the worlds. -/
structure Ctx (P : Program) (T : Tb) (base : Nat) (E : World → Prop) : Prop where
  lp : ∀ k x, T.lp k = some x → LP k = some x
  rf : ∀ f fn c, T.fn.get f = some fn → fn.body = some c → rfOk c
  tb : TbOk P T
  cmp : CmpOk P T
  ext : ExtOk P T
  prim : PrimOk P T E
  depth : 0 < P.depth
  keep : ∀ w w', E w → Below base w w' → E w'
  meth : ∀ ty m g, T.meth ty m = some g → ∀ (v : Value) (w : World), (method (P.types.size + Made.depth) ty v m).run P w = .ok (g, v) w
  tk : TkOk P E T.tk

/-- Nothing below the call's own has been turned. -/
theorem Stp.below {T : Tb} {base : Nat} {st st' : St} {ι ι' : Ren} {w w' : World} (h : Stp T base st st' ι ι' w w') (hb : base ≤ w.heap.size) : Below base w w' :=
  ⟨h.os, h.tape, h.output, h.size, fun k hk => h.frame k (by omega) fun b z hw hι => by
    have := h.inv.sep b k z (h.abs.wl b hw).1 hι
    omega⟩

theorem putF_inv {nt : Nat} {fr : Fr} {dst : Option Nat} {v : Value} {st : St} {g : (Fr × Option Value) × St} (h : putF nt fr dst v st = some g) : ∃ t, putT nt fr.t dst v = some t ∧ g = ((⟨t, fr.ds⟩, none), st) := by
  unfold putF at h
  cases hp : putT nt fr.t dst v with
  | none => rw [hp] at h; cases h
  | some t => rw [hp] at h; cases h; exact ⟨t, rfl, rfl⟩

/-- A frame of a function, or of a round of a loop over one. -/
noncomputable def FW (ro : Option Nat) : Fence := { Fence.wide with round := ro }

theorem callsFW {ro : Option Nat} {n : Nat} {P : Program} {f : FuncId} {args : Array Value} {w : World} {R : Ending → World → Prop} (h : Calls P f args w R) : CallsIn (FW ro) n P f args w R :=
  (callsIn_wide (n := n)).2 h

/-- No deferred call stands in a round. -/
noncomputable def Calm (ro : Option Nat) (o : Oper) : Prop := ro = none ∨ isDefer o.op = false

/-- What an operation may come to. -/
inductive Good (call : Nat → List Value → St → Option (Out × St)) (P : Program) (K : Act → World → Prop) (Q : Exit → Act → World → Prop) (dst : Option Tmp) (a : Act) : Result Next → Prop where
  | value {v : Value} {w : World} (h : K (a.put dst v) w) : Good call P K Q dst a (.ok (.value v) w)
  | skip {w : World} (h : K (a.put dst undef) w) : Good call P K Q dst a (.ok .skip w)
  | defer {d : Deferred} {w : World} (h : K (({ a with defers := d :: a.defers } : Act).put dst undef) w) : Good call P K Q dst a (.ok (.defer d) w)
  | enter {f : FuncId} {args : Array Value} {w : World} {R : Ending → World → Prop} (h : Calls P f args w R) (h1 : ∀ v w', R (.returned v) w' → K (a.put dst v) w') (h2 : ∀ ch w', R (.panicked ch) w' → Q (.panic ch) a w') (h3 : ∀ w', R .outgrown w' → False) : Good call P K Q dst a (.ok (.enter f args) w)
  | round {l : Nat} {f : FuncId} {tmps : Array Value} {x y : Code} {w : World} {R : Ending → World → Prop} (hc : ∃ f args st r, call f args st = some r) (h : RoundIn Fence.wide 0 P l f tmps x y w R) (h1 : ∀ v w', R (.returned v) w' → K (a.put dst v) w')
      (h2 : ∀ ch w', R (.panicked ch) w' → Q (.panic ch) a w') (h3 : ∀ w', R .outgrown w' → False) : Good call P K Q dst a (.ok (.round l f tmps x y) w)
  | panic {v : Value} {w : World} (h : Q (.panic [{ v, recovered := false }]) a w) : Good call P K Q dst a (.halt (.panic v) w)

theorem Good.wpIn {call : Nat → List Value → St → Option (Out × St)} {ro : Option Nat} {P : Program} {o : Oper} {a : Act} {w : World} {K : Act → World → Prop} {Q : Exit → Act → World → Prop} (hs : Calm ro o)
    (h : Good call P K Q o.dst a ((execOp a.eval o).run P w)) : o.wpIn (FW ro) 0 P a w K Q := by
  refine ⟨fun _ _ => trivial, ?_⟩
  have : o.semAt (FW ro).round a.eval = execOp a.eval o := by
    rcases hs with rfl | hs
    · rfl
    · exact Oper.semAt_eq _ _ _ (fun c e => by rw [e] at hs; cases hs)
  rw [this]
  generalize (execOp a.eval o).run P w = r at h
  cases h with
  | value h => exact h
  | skip h => exact h
  | defer h => exact h
  | enter h h1 h2 h3 =>
    refine ⟨(fun e => by cases e), callsFW (h.mono ?_)⟩
    intro e w' he
    cases e with
    | returned v => exact h1 _ _ he
    | panicked ch => exact h2 _ _ he
    | outgrown => exact (h3 _ he).elim
  | round hc h h1 h2 h3 =>
    refine ⟨(fun e => by cases e), RoundIn.mono (F := FW ro) h ?_⟩
    intro e w' he
    cases e with
    | returned v => exact h1 _ _ he
    | panicked ch => exact h2 _ _ he
    | outgrown => exact (h3 _ he).elim
  | panic h => exact h

theorem Good.wp {P : Program} {o : Oper} {a : Act} {w : World} {K : Act → World → Prop} {Q : Exit → Act → World → Prop} (h : Good (fun _ _ _ => none) P K Q o.dst a ((execOp a.eval o).run P w)) : o.wp P a w K Q := by
  unfold Oper.wp
  generalize (execOp a.eval o).run P w = r at h
  cases h with
  | value h => exact h
  | skip h => exact h
  | defer h => exact h
  | enter h h1 h2 h3 =>
    refine h.mono ?_
    intro e w' he
    cases e with
    | returned v => exact h1 _ _ he
    | panicked ch => exact h2 _ _ he
    | outgrown => exact (h3 _ he).elim
  | round hc h h1 h2 h3 => obtain ⟨f, args, st, r, e⟩ := hc; cases e
  | panic h => exact h

section
variable {P : Program} {T : Tb} {base : Nat} {E : World → Prop} (X : Ctx P T base E)
include X

/-- What a call of the evaluator says. -/
noncomputable def CallOk1 (P : Program) (T : Tb) (base : Nat) (E : World → Prop) (call : Nat → List Value → St → Option (Out × St)) : Prop :=
  ∀ f args st out st', call f args st = some (out, st') → ∀ (ι : Ren) (w : World) (args' : Array Value), Abs T st → Inv T.n0 base ι st.see w → E w → Fresh ι st st' → All2 (Rv ι) args args'.toList →
    Calls P f args' w fun e w' => ∃ ι', Stp T base st st' ι ι' w w' ∧ EndR ι' out e

/-- What calls of functions and of loops' bodies must keep to. -/
noncomputable def CallOk (P : Program) (T : Tb) (base : Nat) (E : World → Prop) (call : Nat → List Value → St → Option (Out × St)) : Prop :=
  ∀ f args st out st', call f args st = some (out, st') → ∀ (ι : Ren) (w : World) (args' : Array Value), Abs T st → Inv T.n0 base ι st.see w → E w → Fresh ι st st' → All2 (Rv ι) args args'.toList →
    (f < UNK → Calls P f args' w fun e w' => ∃ ι', Stp T base st st' ι ι' w w' ∧ EndR ι' out e) ∧
    ∀ l c z, f = UNK + l → ι l = some (c, z) → ∃ g tmps x y, (Instr.yield c args').run P w = .ok (.round c g tmps x y) w ∧ RoundIn Fence.wide 0 P c g tmps x y w fun e w' => ∃ ι', Stp T base st st' ι ι' w w' ∧ EndR ι' out e

theorem callFunc_run {f : Nat} {fn : Func} (h : T.fn.get f = some fn) (hb : fn.body.isSome = true) (args : Array Value) (w : World) : (callFunc f args).run P w = .ok (.enter f args) w := by
  have h1 := X.tb.fn f fn h
  have h2 := X.tb.ng f fn h
  have h2' : fn.name ≠ "runtime.NumGoroutine" := by simpa using h2
  have h3 : fn.body ≠ none := by intro e; rw [e] at hb; cases hb
  simp [callFunc, h1, h2', h3]

/-- A call of a function's value. -/
theorem callA_ok {call : Nat → List Value → St → Option (Out × St)} (hcall : CallOk P T base E call) {fv : Value} {args : List Value} {r : Rs} {st st' : St} (h : callA T call st fv args = some (r, st'))
    {ι : Ren} {w : World} (ha : Abs T st) (hi : Inv T.n0 base ι st.see w) (hE : E w) (hfr : Fresh ι st st') {fv' : Value} (hfv : Rv ι fv fv') {args' : Array Value} (har : All2 (Rv ι) args args'.toList) :
    ∃ fn first' cap', fv' = .func fn first' cap' ∧ ∀ {dst : Option Tmp} {a : Act} {K : Act → World → Prop} {Q : Exit → Act → World → Prop},
      (∀ v, r = .val v → ∀ ι' w' v', Stp T base st st' ι ι' w w' → Rv ι' v v' → K (a.put dst v') w') →
      (∀ v, r = .pan v → ∀ ι' w' v', Stp T base st st' ι ι' w w' → Rv ι' v v' → Q (.panic [{ v := v', recovered := false }]) a w') →
      Good call P K Q dst a ((invoke (.fn fn cap') (first' ++ args')).run P w) := by
  cases fv <;> simp only [callA] at h <;> (try (cases h; done))
  rename_i g first cap
  cases g <;> simp only at h <;> (try (cases h; done))
  · rename_i g
    have key : ∃ first' cap', fv' = .func (.func g) first' cap' ∧ All2 (Rv ι) first.toList first'.toList ∧ All2 (Rv ι) cap.toList cap'.toList := by
      cases hfv with
      | func h1 h2 h3 h4 => exact ⟨_, _, rfl, ⟨h1, h2⟩, ⟨h3, h4⟩⟩
    obtain ⟨first', cap', rfl, hf1, hc1⟩ := key
    refine ⟨_, first', cap', rfl, fun hK hQ => ?_⟩
    have hexec : invoke (.fn (.func g) cap') (first' ++ args') = callFunc g (first' ++ args' ++ cap') := rfl
    have hall : All2 (Rv ι) (first.toList ++ (args ++ cap.toList)) (first' ++ args' ++ cap').toList := by
      rw [Array.toList_append, Array.toList_append, List.append_assoc]
      exact hf1.append (har.append hc1)
    rw [hexec]
    cases hx : T.ext.get g with
    | some k =>
      rw [hx] at h
      simp only at h
      cases hev2 : extV T st k (first.toList ++ (args ++ cap.toList)) with
      | none => rw [hev2] at h; simp [vals] at h
      | some r =>
        obtain ⟨u, st2⟩ := r
        rw [hev2] at h
        simp only [vals] at h
        cases h
        obtain ⟨w', ι', v', g1, g2, g3⟩ := extV_ok X.tb X.cmp X.ext ha hi hx hall hev2 hfr
        rw [g1]
        exact .value (hK _ rfl ι' w' v' g3 g2)
    | none =>
      rw [hx] at h
      simp only at h
      cases hfn : T.fn.get g with
      | none => rw [hfn] at h; cases h
      | some fn =>
        rw [hfn] at h
        simp only at h
        cases hbd : fn.body.isSome with
        | false => rw [hbd] at h; cases h
        | true =>
          rw [hbd] at h
          cases hlt : Nat.blt g UNK with
          | false => rw [hlt] at h; cases h
          | true =>
            rw [hlt] at h
            simp only [Bool.and_self, cond_true] at h
            have hcf := callFunc_run X hfn hbd (first' ++ args' ++ cap') w
            rw [hcf]
            cases hco : call g (first.toList ++ (args ++ cap.toList)) st with
            | none => rw [hco] at h; simp at h
            | some r =>
              obtain ⟨out, st2⟩ := r
              rw [hco] at h
              have hlt' : g < UNK := Nat.le_of_ble_eq_true hlt
              cases out <;> simp only at h <;> (try (cases h; done))
              · rename_i u
                cases h
                refine .enter ((hcall _ _ _ _ _ hco ι w _ ha hi hE hfr hall).1 hlt') ?_ ?_ ?_
                · rintro v' w' ⟨ι', g1, g2⟩; exact hK _ rfl ι' w' v' g1 g2
                · rintro ch w' ⟨ι', g1, g2⟩; exact g2.elim
                · rintro w' ⟨ι', g1, g2⟩; exact g2.elim
              · rename_i u
                cases h
                refine .enter ((hcall _ _ _ _ _ hco ι w _ ha hi hE hfr hall).1 hlt') ?_ ?_ ?_
                · rintro v' w' ⟨ι', g1, g2⟩; exact g2.elim
                · rintro ch w' ⟨ι', g1, g2⟩
                  obtain ⟨v', g3, rfl⟩ := g2
                  exact hQ u rfl ι' w' v' g1 g3
                · rintro w' ⟨ι', g1, g2⟩; exact g2.elim
  · rename_i l
    have key : ∃ c z, fv' = .func (.yield c) #[] #[] ∧ ι l = some (c, z) ∧ first = #[] ∧ cap = #[] := by
      cases hfv with
      | yld hl => exact ⟨_, _, rfl, hl, rfl, rfl⟩
    obtain ⟨c, z, rfl, hl, rfl, rfl⟩ := key
    refine ⟨_, #[], #[], rfl, fun hK hQ => ?_⟩
    cases hco : call (UNK + l) ((#[] : Array Value).toList ++ (args ++ (#[] : Array Value).toList)) st with
    | none => rw [hco] at h; simp at h
    | some r =>
      obtain ⟨out, st2⟩ := r
      rw [hco] at h
      cases out <;> simp only at h <;> (try (cases h; done))
      rename_i u
      cases h
      have hall : All2 (Rv ι) ((#[] : Array Value).toList ++ (args ++ (#[] : Array Value).toList)) (#[] ++ args').toList := by simpa using har
      obtain ⟨g, tmps, x, y, h1, h2⟩ := (hcall _ _ _ _ _ hco ι w _ ha hi hE hfr hall).2 l c z rfl hl
      have hexec : invoke (.fn (.yield c) #[]) (#[] ++ args') = Instr.yield c (#[] ++ args') := rfl
      rw [hexec, h1]
      refine .round ⟨_, _, _, _, hco⟩ h2 ?_ ?_ ?_
      · rintro v' w' ⟨ι', g1, g2⟩; exact hK _ rfl ι' w' v' g1 g2
      · rintro ch w' ⟨ι', g1, g2⟩; exact g2.elim
      · rintro w' ⟨ι', g1, g2⟩; exact g2.elim

theorem val_ok {call : Nat → List Value → St → Option (Out × St)} (hcall : CallOk P T base E call) {ops : Array Oper} {o : Oper} {t : Tr Value} {r : Rs} {st st' : St} (h : runVal T call ops.toList o t st = some (r, st'))
    {ι : Ren} {w : World} {a : Act} (ha : Abs T st) (hi : Inv T.n0 base ι st.see w) (hE : E w) (hfr : Fresh ι st st') (hr : TR ι t a.tmps) {K : Act → World → Prop} {Q : Exit → Act → World → Prop}
    (hK : ∀ v, r = .val v → ∀ ι' w' v', Stp T base st st' ι ι' w w' → Rv ι' v v' → K (a.put o.dst v') w')
    (hD : ∀ f args, r = .dfr f args → st' = st → ∀ d, DfR ι (f, args) d → K (({ a with defers := d :: a.defers } : Act).put o.dst undef) w)
    (hQ : ∀ v, r = .pan v → ∀ ι' w' v', Stp T base st st' ι ι' w w' → Rv ι' v v' → Q (.panic [{ v := v', recovered := false }]) a w') :
    if Region.wanted o (yielded ops a.tmps) then Good call P K Q o.dst a ((execOp a.eval o).run P w) else K (a.put o.dst undef) w := by
  unfold runVal at h
  cases hw : wantedA ops.toList t o with
  | none => rw [hw] at h; cases h
  | some q =>
    rw [hw] at h
    rw [wanted_ok hr hw]
    cases q with
    | false =>
      simp only at h
      rw [if_neg (by simp)]
      cases h
      exact hK _ rfl ι w _ (.refl ha hi) rv_undef
    | true =>
      rw [if_pos rfl]
      simp only at h
      -- an operation that is no call
      have plain : ∀ {u : Value}, r = .val u → Does P T base st st' ι w (execOp a.eval o) u → Good call P K Q o.dst a ((execOp a.eval o).run P w) := by
        intro u hu ⟨nx, w', ι', h1, h2, h3⟩
        rw [h1]
        rcases h3 with ⟨v', rfl, h3⟩ | ⟨rfl, rfl⟩
        · exact .value (hK u hu ι' w' v' h2 h3)
        · exact .skip (hK _ hu ι' w' _ h2 rv_undef)
      have hargs : ∀ {c : Call} {args : List Value}, operands T.n0 t c.args.toList = some args → All2 (Rv ι) args (c.args.map a.eval).toList := by
        intro c args hh
        have := operands_ok hi hr hh
        rw [Array.toList_map]; exact this
      obtain ⟨dst, op, ty, pos, after, guard⟩ := o
      cases hevA : evalAny T call t ⟨dst, op, ty, pos, after, guard⟩ st with
      | none =>
        rw [hevA] at h
        simp only [tokA] at h
        cases hvs : operands T.n0 t op.operands.toList with
        | none => rw [hvs] at h; cases h
        | some vs =>
          rw [hvs] at h
          simp only at h
          cases htk : T.tk op vs with
          | none => rw [htk] at h; cases h
          | some v =>
            rw [htk] at h
            cases h
            obtain ⟨v', g1, g2⟩ := X.tk op vs v htk ι a.eval w hE (operands_ok hi hr hvs) dst ty pos after guard
            exact plain rfl ⟨_, w, ι, g1, .refl ha hi, .inl ⟨v', rfl, g2⟩⟩
      | some rA =>
      rw [hevA] at h
      simp only at h
      cases h
      have h := hevA
      clear hevA
      by_cases hcall' : ∃ c, op = .call c
      · obtain ⟨c, rfl⟩ := hcall'
        simp only [evalAny] at h
        cases hops : operands T.n0 t c.args.toList with
        | none => rw [hops] at h; simp at h
        | some args =>
          rw [hops] at h
          simp only [Option.bind_some] at h
          have har := hargs hops
          cases hce : c.callee with
          | invoke r m =>
            rw [hce] at h
            simp only at h
            cases hf : operand T.n0 t r with
            | none => rw [hf] at h; simp at h
            | some fv =>
              rw [hf] at h
              simp only [Option.bind_some] at h
              have hfv := operand_ok hi hr hf
              cases fv <;> simp only at h <;> (try (cases h; done))
              rename_i ty' v0
              cases hm : T.meth ty' m with
              | none => rw [hm] at h; cases h
              | some g =>
                rw [hm] at h
                simp only at h
                have key : ∃ v0', a.eval r = .iface ty' v0' ∧ Rv ι v0 v0' := by
                  generalize a.eval r = fv' at hfv
                  cases hfv with
                  | iface h1 => exact ⟨_, rfl, h1⟩
                obtain ⟨v0', hev, hv0⟩ := key
                have hfv2 : Rv ι (.func (.func g) ⟨[v0]⟩ ⟨[]⟩) (.func (.func g) #[v0'] #[]) := .func rfl (fun i x y hx hy => by
                  cases i with
                  | zero => cases hx; cases hy; exact hv0
                  | succ i => cases hx) rfl (fun i x y hx hy => by cases hx)
                obtain ⟨fn, first', cap', hev2, hup⟩ := callA_ok X hcall h ha hi hE hfr hfv2 har
                cases hev2
                have hexec : (execOp a.eval ⟨dst, .call c, ty, pos, after, guard⟩).run P w = (invoke (.fn (.func g) #[]) (#[v0'] ++ c.args.map a.eval)).run P w := by
                  have e1 : execOp a.eval ⟨dst, .call c, ty, pos, after, guard⟩ = invoke (.fn (.method m) #[]) (#[.iface ty' v0'] ++ c.args.map a.eval) := by
                    unfold execOp
                    simp only [resolve, hce, hev]
                    rfl
                  rw [e1]
                  generalize c.args.map a.eval = A
                  have e2 : (#[Value.iface ty' v0'] ++ A)[0]? = some (.iface ty' v0') := by
                    rw [← Array.getElem?_toList, Array.toList_append]; rfl
                  have e3 : (#[Value.iface ty' v0'] ++ A).extract 1 (#[Value.iface ty' v0'] ++ A).size = A := by
                    apply Array.toList_inj.1
                    simp
                  have e4 := X.meth ty' m g hm v0' w
                  have e5 : invoke (.fn (.method m) #[]) (#[.iface ty' v0'] ++ A) = callMethod (.iface ty' v0') m A := by
                    unfold invoke
                    simp only [e2, e3]
                  have e6 : invoke (.fn (.func g) #[]) (#[v0'] ++ A) = callFunc g (#[v0'] ++ A ++ #[]) := rfl
                  rw [e5, e6]
                  simp [callMethod, program]
                  rw [show Sem.run P (Sem.program Sem.pure) w = .ok P w from rfl]
                  simp [e4, Result.andThen]
                rw [hexec]
                exact hup hK hQ
          | builtin b =>
            rw [hce] at h
            simp only at h
            cases hbt : builtinA T st b c.argTypes.toList args with
            | none => rw [hbt] at h; simp [vals] at h
            | some r =>
              obtain ⟨u, st2⟩ := r
              rw [hbt] at h
              simp only [vals] at h
              cases h
              have := builtinA_ok (tt := ty) (consts := c.args.map fun | .const _ => true | _ => false) X.tb X.cmp X.depth ha hi har hbt hfr
              refine plain rfl ?_
              obtain ⟨nx, w', ι', g1, g2, g3⟩ := this
              refine ⟨nx, w', ι', ?_, g2, g3⟩
              rw [← g1]
              unfold execOp
              simp only [resolve, hce]
              rfl
          | value f =>
            rw [hce] at h
            simp only at h
            cases hf : operand T.n0 t f with
            | none => rw [hf] at h; simp at h
            | some fv =>
              rw [hf] at h
              simp only [Option.bind_some] at h
              have hfv := operand_ok hi hr hf
              have hres : ∀ {fn : Fn} {first' cap' : Array Value}, a.eval f = .func fn first' cap' → execOp a.eval ⟨dst, .call c, ty, pos, after, guard⟩ = invoke (.fn fn cap') (first' ++ c.args.map a.eval) := by
                intro fn first' cap' hev
                unfold execOp
                simp only [resolve, hce, hev, Deferred.ofValue]
                rfl
              obtain ⟨fn, first', cap', hev, hup⟩ := callA_ok X hcall h ha hi hE hfr hfv har
              rw [hres hev]
              exact hup hK hQ
      · by_cases hdf : ∃ c, op = .defer c
        · obtain ⟨c, rfl⟩ := hdf
          simp only [evalAny] at h
          cases hops : operands T.n0 t c.args.toList with
          | none => rw [hops] at h; simp at h
          | some args =>
            rw [hops] at h
            simp only [Option.bind_some] at h
            have har := hargs hops
            cases hce : c.callee with
            | invoke r m => rw [hce] at h; simp at h
            | builtin b => rw [hce] at h; simp at h
            | value f =>
              rw [hce] at h
              simp only at h
              cases hf : operand T.n0 t f with
              | none => rw [hf] at h; simp at h
              | some fv =>
                rw [hf] at h
                simp only [Option.bind_some] at h
                have hfv := operand_ok hi hr hf
                cases fv <;> simp only [deferA] at h <;> (try (cases h; done))
                rename_i g first cap
                cases g <;> simp only at h <;> (try (cases h; done))
                rename_i g
                have key : ∃ first' cap', a.eval f = .func (.func g) first' cap' ∧ All2 (Rv ι) first.toList first'.toList ∧ All2 (Rv ι) cap.toList cap'.toList := by
                  generalize a.eval f = fv' at hfv
                  cases hfv with
                  | func h1 h2 h3 h4 => exact ⟨_, _, rfl, ⟨h1, h2⟩, ⟨h3, h4⟩⟩
                obtain ⟨first', cap', hev, hf1, hc1⟩ := key
                cases hlt : Nat.blt g UNK with
                | false => rw [hlt] at h; cases h
                | true =>
                rw [hlt] at h
                have hexec : (execOp a.eval ⟨dst, .defer c, ty, pos, after, guard⟩).run P w = .ok (.defer { target := .fn (.func g) cap', args := first' ++ c.args.map a.eval }) w := by
                  unfold execOp
                  simp only [resolve, hce, hev, Deferred.ofValue]
                  rfl
                rw [hexec]
                cases h
                refine .defer (hD _ _ rfl rfl _ (.inl ⟨Nat.le_of_ble_eq_true hlt, cap', rfl, ?_⟩))
                rw [Array.toList_append, Array.toList_append, List.append_assoc]
                exact hf1.append (har.append hc1)
        · by_cases hpn : ∃ x, op = .panic x
          · obtain ⟨x, rfl⟩ := hpn
            simp only [evalAny] at h
            cases hx : operand T.n0 t x with
            | none => rw [hx] at h; simp at h
            | some xv =>
              rw [hx] at h
              simp only [Option.bind_some] at h
              have hxv := operand_ok hi hr hx
              cases xv <;> simp only [panicA] at h <;> (try (cases h; done))
              rename_i ti v
              cases h
              have key : ∃ v', a.eval x = .iface ti v' ∧ Rv ι v v' := by
                generalize a.eval x = x' at hxv
                cases hxv with
                | iface hh => exact ⟨_, rfl, hh⟩
              obtain ⟨v', hev, hv⟩ := key
              have hexec : (execOp a.eval ⟨dst, .panic x, ty, pos, after, guard⟩).run P w = .halt (.panic (.iface ti v')) w := by
                unfold execOp
                simp only [hev, Instr.panic]
                rfl
              rw [hexec]
              exact .panic (hQ _ rfl ι w (.iface ti v') (.refl ha hi) (.iface hv))
          · have hev : evalAny T call t ⟨dst, op, ty, pos, after, guard⟩ st = vals (evalOp T t ⟨dst, op, ty, pos, after, guard⟩ st) := by
              unfold evalAny
              cases op <;> first | rfl | exact absurd ⟨_, rfl⟩ hcall' | exact absurd ⟨_, rfl⟩ hdf | exact absurd ⟨_, rfl⟩ hpn
            rw [hev] at h
            cases hop : evalOp T t ⟨dst, op, ty, pos, after, guard⟩ st with
            | none => rw [hop] at h; simp [vals] at h
            | some r =>
              obtain ⟨u, st2⟩ := r
              rw [hop] at h
              simp only [vals] at h
              cases h
              exact plain rfl (evalOp_ok X.tb X.cmp X.depth ha hi hr hop hfr)


theorem op_ok {call : Nat → List Value → St → Option (Out × St)} (hcall : CallOk P T base E call) {ops : Array Oper} {nt : Nat} {o : Oper} {fr fr' : Fr} {p : Option Value} {st st' : St} (h : runOp T call ops.toList nt o fr st = some ((fr', p), st'))
    {ι : Ren} {w : World} {a : Act} (ha : Abs T st) (hi : Inv T.n0 base ι st.see w) (hE : E w) (hfr : Fresh ι st st') (hr : FrR ι nt fr a) {K : Act → World → Prop} {Q : Exit → Act → World → Prop}
    (hK : p = none → ∀ ι' a' w', Stp T base st st' ι ι' w w' → FrR ι' nt fr' a' → K a' w')
    (hQ : ∀ v, p = some v → ∀ ι' w' v', Stp T base st st' ι ι' w w' → Rv ι' v v' → FrR ι' nt fr' a → Q (.panic [{ v := v', recovered := false }]) a w') :
    if Region.wanted o (yielded ops a.tmps) then Good call P K Q o.dst a ((execOp a.eval o).run P w) else K (a.put o.dst undef) w := by
  unfold runOp at h
  cases hv : runVal T call ops.toList o fr.t st with
  | none => rw [hv] at h; cases h
  | some r =>
    obtain ⟨r, st2⟩ := r
    rw [hv] at h
    cases r with
    | val v =>
      obtain ⟨t', hp, hg⟩ := putF_inv h
      cases hg
      exact val_ok X hcall hv ha hi hE hfr hr.t (fun u hu ι' w' v' hs hv' => by cases hu; exact hK rfl ι' _ w' hs (put_ok (hr.mono hs.le) hv' hp)) (fun f args hu => by cases hu) (fun u hu => by cases hu)
    | pan v =>
      cases h
      exact val_ok X hcall hv ha hi hE hfr hr.t (fun u hu => by cases hu) (fun f args hu => by cases hu) (fun u hu ι' w' v' hs hv' => by cases hu; exact hQ _ rfl ι' w' v' hs hv' (hr.mono hs.le))
    | dfr f args =>
      obtain ⟨t', hp, hg⟩ := putF_inv h
      cases hg
      refine val_ok X hcall hv ha hi hE hfr hr.t (fun u hu => by cases hu) (fun f args hu hst d hd => ?_) (fun u hu => by cases hu)
      cases hu
      cases hst
      have hr' : FrR ι nt ⟨fr.t, (f, args) :: fr.ds⟩ { a with defers := d :: a.defers } := ⟨hr.t, hr.size, .cons hd hr.ds⟩
      exact hK rfl ι _ w (.refl ha hi) (put_ok hr' rv_undef hp)

end
end Go.Proofs.YthdnpikgnmdnnaaGreatDoor.Ev

namespace Go.Proofs.YthdnpikgnmdnnaaGreatDoor.Ev
set_option linter.unusedSimpArgs false
set_option linter.unusedVariables false
set_option linter.unusedSectionVars false
variable [Tok]
open Go.RowKit
set_option linter.unusedSectionVars false

/-! What a step does to the abstract heap, whatever the world. -/

structure AStp (T : Tb) (st st' : St) : Prop where
  abs : Abs T st'
  next : st.next ≤ st'.next
  msk : st'.msk = st.msk
  mem : ∀ f id, id ∈ members st f → id ∈ members st' f
  wl : ∀ b, b ∈ st.wl → b ∈ st'.wl
  old : ∀ id, id < st.next → st'.h.get id ≠ st.h.get id → id ∈ st'.wl
  hid : ∀ id, hidden st.msk id = true → st'.h.get id = st.h.get id
  fam : ∀ id en en', st.h.get id = some en → st'.h.get id = some en' → en'.fam = en.fam
  gone : ∀ id, id < st.next → st.h.get id = none → st'.h.get id = none
  newfam : ∀ id en, st.next ≤ id → st'.h.get id = some en → st.next ≤ en.fam ∨ ∃ b eb, b ∈ st'.wl ∧ b < st.next ∧ st.h.get b = some eb ∧ eb.fam = en.fam

theorem AStp.refl {T : Tb} {st : St} (ha : Abs T st) : AStp T st st where
  abs := ha
  next := Nat.le_refl _
  msk := rfl
  mem := fun _ _ h => h
  wl := fun _ h => h
  old := fun id _ h => absurd rfl h
  hid := fun _ _ => rfl
  fam := fun id en en' a b => by rw [a] at b; cases b; rfl
  gone := fun id _ h => h
  newfam := fun id en a b => absurd (ha.lt id en b) (by omega)

theorem AStp.trans {T : Tb} {a b c : St} (h : AStp T a b) (k : AStp T b c) (ha : Abs T a) : AStp T a c where
  abs := k.abs
  next := Nat.le_trans h.next k.next
  msk := k.msk.trans h.msk
  mem := fun f id x => k.mem f id (h.mem f id x)
  wl := fun b x => k.wl b (h.wl b x)
  old := fun id hlt hne => by
    by_cases e : b.h.get id = a.h.get id
    · exact k.old id (Nat.lt_of_lt_of_le hlt h.next) (by rw [e]; exact hne)
    · exact k.wl id (h.old id hlt e)
  hid := fun id x => (k.hid id (by rw [h.msk]; exact x)).trans (h.hid id x)
  fam := fun id en en' x y => by
    have hlt : id < b.next := Nat.lt_of_lt_of_le (ha.lt id en x) h.next
    cases hb : b.h.get id with
    | some eb => exact (k.fam id eb en' hb y).trans (h.fam id en eb x hb)
    | none => rw [k.gone id hlt hb] at y; cases y
  gone := fun id hlt hn => k.gone id (Nat.lt_of_lt_of_le hlt h.next) (h.gone id hlt hn)
  newfam := fun id en hge hen => by
    by_cases hlt : id < b.next
    · cases hb : b.h.get id with
      | some eb =>
        rw [k.fam id eb en hb hen]
        rcases h.newfam id eb hge hb with x | ⟨d, ed, hd, hl, x, y⟩
        · exact .inl x
        · exact .inr ⟨d, ed, k.wl d hd, hl, x, y⟩
      | none => rw [k.gone id hlt hb] at hen; cases hen
    · rcases k.newfam id en (by omega) hen with x | ⟨d, ed, hd, hl, x, y⟩
      · have := h.next; exact .inl (by omega)
      · by_cases hd2 : d < a.next
        · cases hb : a.h.get d with
          | none => rw [h.gone d hd2 hb] at x; cases x
          | some ea => exact .inr ⟨d, ea, hd, hd2, hb, by rw [← h.fam d ea ed hb x]; exact y⟩
        · rcases h.newfam d ed (by omega) x with z | ⟨d', ed', hd', hl', x', y'⟩
          · exact .inl (by rw [← y]; exact z)
          · exact .inr ⟨d', ed', k.wl d' hd', hl', x', y'.trans y⟩

theorem anew {T : Tb} {st : St} (ha : Abs T st) (o : Ob) : AStp T st (st.new o).2 := by
  have hne : ∀ id en, st.h.get id = some en → id ≠ st.next := fun id en h e => by have := ha.lt id en h; omega
  refine
    { abs := ⟨fun id en h => ?_, fun id en h => ?_, fun id en h hc => ?_, fun f l h => ?_, fun id en h => ?_, fun id h => ha.msk id (by have : (st.new o).2.next = st.next + 1 := rfl; omega), Nat.le_succ_of_le ha.n0, fun b hb => ⟨(ha.wl b hb).1, Nat.lt_succ_of_lt (ha.wl b hb).2⟩⟩
      next := Nat.le_succ _
      msk := rfl
      mem := fun f id h => h
      wl := fun b h => h
      old := fun id hlt h => absurd (by rw [new_get, if_neg (by omega)]) h
      hid := fun id h => ?_
      fam := fun id en en' h1 h2 => ?_
      gone := fun id hlt h => by rw [new_get, if_neg (by omega)]; exact h
      newfam := fun id en hge h => ?_ }
  · rw [new_get] at h
    by_cases e : id = st.next
    · subst e; exact Nat.lt_succ_self _
    · rw [if_neg e] at h; exact Nat.lt_succ_of_lt (ha.lt _ _ h)
  · rw [new_get] at h
    rw [members_new]
    by_cases e : id = st.next
    · rw [if_pos e] at h; cases h; subst e; rw [members_fresh ha]; simp
    · rw [if_neg e] at h; exact ha.own _ _ h
  · rw [new_get] at h
    by_cases e : id = st.next
    · rw [if_pos e] at h; cases h; exact e.symm
    · rw [if_neg e] at h; exact ha.sole _ _ h hc
  · exact Nat.lt_succ_of_lt (ha.mem f l h)
  · rw [new_get] at h
    by_cases e : id = st.next
    · rw [if_pos e] at h; cases h; exact Nat.lt_succ_self _
    · rw [if_neg e] at h; exact Nat.lt_succ_of_lt (ha.famlt _ _ h)
  · rw [new_get]
    by_cases e : id = st.next
    · subst e; rw [ha.msk _ (Nat.le_refl _)] at h; cases h
    · rw [if_neg e]
  · rw [new_get, if_neg (hne id en h1), h1] at h2; cases h2; rfl
  · rw [new_get] at h
    by_cases e : id = st.next
    · rw [if_pos e] at h; cases h; exact .inl (Nat.le_refl _)
    · rw [if_neg e] at h; have := ha.lt _ _ h; omega

theorem aput {T : Tb} {st : St} (ha : Abs T st) (b : Nat) (en : En) (x : Option En) (hb : st.see b = some en) (hn : T.n0 ≤ b) (hx : ∀ e, x = some e → e.fam = en.fam ∧ isCells e.ob = isCells en.ob) :
    AStp T st { st with h := st.h.set b x, wl := b :: st.wl } := by
  have hbg := see_get hb
  have hlt := ha.lt b en hbg
  have hg : ∀ id, (st.h.set b x).get id = if id = b then x else st.h.get id := fun id => Tr.get_set _ _ _ _
  refine
    { abs := ⟨fun id e h => ?_, fun id e h => ?_, fun id e h hc => ?_, ha.mem, fun id e h => ?_, ha.msk, ha.n0, fun y hy => ?_⟩
      next := Nat.le_refl _
      msk := rfl
      mem := fun f id h => h
      wl := fun y hy => List.mem_cons_of_mem _ hy
      old := fun id _ h => ?_
      hid := fun id h => ?_
      fam := fun id e e' h1 h2 => ?_
      gone := fun id _ h => ?_
      newfam := fun id e hge h => ?_ }
  · have h : (st.h.set b x).get id = some e := h
    rw [hg] at h
    by_cases e' : id = b
    · rw [e']; exact hlt
    · rw [if_neg e'] at h; exact ha.lt _ _ h
  · have h : (st.h.set b x).get id = some e := h
    rw [hg] at h
    show id ∈ members st e.fam
    by_cases e' : id = b
    · rw [if_pos e'] at h; rw [(hx e h).1, e']; exact ha.own b en hbg
    · rw [if_neg e'] at h; exact ha.own _ _ h
  · have h : (st.h.set b x).get id = some e := h
    rw [hg] at h
    by_cases e' : id = b
    · rw [if_pos e'] at h; rw [(hx e h).1, e']; exact ha.sole b en hbg (by rw [← (hx e h).2]; exact hc)
    · rw [if_neg e'] at h; exact ha.sole _ _ h hc
  · have h : (st.h.set b x).get id = some e := h
    rw [hg] at h
    by_cases e' : id = b
    · rw [if_pos e'] at h; rw [(hx e h).1]; exact ha.famlt b en hbg
    · rw [if_neg e'] at h; exact ha.famlt _ _ h
  · rcases List.mem_cons.1 hy with rfl | hy
    · exact ⟨hn, hlt⟩
    · exact ha.wl _ hy
  · have h : (st.h.set b x).get id ≠ st.h.get id := h
    rw [hg] at h
    by_cases e' : id = b
    · rw [e']; exact List.mem_cons_self ..
    · rw [if_neg e'] at h; exact absurd rfl h
  · show (st.h.set b x).get id = _
    rw [hg]
    by_cases e' : id = b
    · rw [e', see_vis hb] at h; cases h
    · rw [if_neg e']
  · have h2 : (st.h.set b x).get id = some e' := h2
    rw [hg] at h2
    by_cases e'' : id = b
    · rw [if_pos e''] at h2; rw [e'', hbg] at h1; cases h1; exact (hx _ h2).1
    · rw [if_neg e'', h1] at h2; cases h2; rfl
  · show (st.h.set b x).get id = _
    rw [hg]
    by_cases e' : id = b
    · rw [e', hbg] at h; cases h
    · rw [if_neg e']; exact h
  · have h : (st.h.set b x).get id = some e := h
    rw [hg] at h
    by_cases e' : id = b
    · have hge' : st.next ≤ id := hge
      omega
    · rw [if_neg e'] at h; have := ha.lt _ _ h; have hge' : st.next ≤ id := hge; omega

/-- A put that is noted. -/
theorem alow {T : Tb} {st s' : St} (ha : Abs T st) {b : Nat} {en : En} {x : Option En} (hb : st.see b = some en) (hx : ∀ e, x = some e → e.fam = en.fam ∧ isCells e.ob = isCells en.ob)
    (h : St.low { st with h := st.h.set b x } T.n0 b = some s') : AStp T st s' := by
  obtain ⟨hn, rfl⟩ := low_some h
  exact aput ha b en x hb hn hx

theorem aadd {T : Tb} {st st' : St} (ha : Abs T st) {b : Nat} {en : En} {o : Ob} (hb : st.see b = some en) (hce : isCells o = true) (h : St.add st T.n0 b o en.fam = some st') : AStp T st st' := by
  obtain ⟨hn0, rfl⟩ := low_some h
  have hbg := see_get hb
  have hblt := ha.lt b en hbg
  have hne : ∀ id e, st.h.get id = some e → id ≠ st.next := fun id e h e' => by have := ha.lt id e h; omega
  have hg : ∀ id, (st.h.set st.next (some ⟨o, en.fam⟩)).get id = if id = st.next then some ⟨o, en.fam⟩ else st.h.get id := fun id => Tr.get_set _ _ _ _
  have hmem : ∀ f, members { st with h := st.h.set st.next (some ⟨o, en.fam⟩), next := st.next + 1, mem := st.mem.set en.fam (some (st.next :: members st en.fam)), wl := b :: st.wl } f = if f = en.fam then st.next :: members st en.fam else members st f := by
    intro f
    unfold members
    simp only [Tr.get_set]
    by_cases e : f = en.fam
    · rw [if_pos e, if_pos e]; rfl
    · rw [if_neg e, if_neg e]
  have hsub : ∀ f id, id ∈ members st f → id ∈ members { st with h := st.h.set st.next (some ⟨o, en.fam⟩), next := st.next + 1, mem := st.mem.set en.fam (some (st.next :: members st en.fam)), wl := b :: st.wl } f := by
    intro f id hid
    rw [hmem]
    by_cases e : f = en.fam
    · rw [if_pos e]; rw [e] at hid; exact List.mem_cons_of_mem _ hid
    · rw [if_neg e]; exact hid
  refine
    { abs := ⟨fun id e h => ?_, fun id e h => ?_, fun id e h hc => ?_, fun f l h => ?_, fun id e h => ?_, fun id h => ha.msk id (by have h' : st.next + 1 ≤ id := h; omega), Nat.le_succ_of_le ha.n0, fun y hy => ?_⟩
      next := Nat.le_succ _
      msk := rfl
      mem := hsub
      wl := fun y hy => List.mem_cons_of_mem _ hy
      old := fun id hlt h => absurd (by show (st.h.set _ _).get id = _; rw [hg, if_neg (by omega)]) h
      hid := fun id h => ?_
      fam := fun id e e' h1 h2 => ?_
      gone := fun id hlt h => by show (st.h.set _ _).get id = _; rw [hg, if_neg (by omega)]; exact h
      newfam := fun id e hge h => ?_ }
  · have h : (st.h.set st.next (some ⟨o, en.fam⟩)).get id = some e := h
    rw [hg] at h
    by_cases e' : id = st.next
    · rw [e']; exact Nat.lt_succ_self _
    · rw [if_neg e'] at h; exact Nat.lt_succ_of_lt (ha.lt _ _ h)
  · have h : (st.h.set st.next (some ⟨o, en.fam⟩)).get id = some e := h
    rw [hg] at h
    by_cases e' : id = st.next
    · rw [if_pos e'] at h; cases h
      rw [hmem, if_pos rfl, e']; exact List.mem_cons_self ..
    · rw [if_neg e'] at h; exact hsub _ _ (ha.own _ _ h)
  · have h : (st.h.set st.next (some ⟨o, en.fam⟩)).get id = some e := h
    rw [hg] at h
    by_cases e' : id = st.next
    · rw [if_pos e'] at h; cases h; rw [hce] at hc; cases hc
    · rw [if_neg e'] at h; exact ha.sole _ _ h hc
  · have h : (st.mem.set en.fam (some (st.next :: members st en.fam))).get f = some l := h
    rw [Tr.get_set] at h
    by_cases e' : f = en.fam
    · rw [e']; exact Nat.lt_succ_of_lt (ha.famlt b en hbg)
    · rw [if_neg e'] at h; exact Nat.lt_succ_of_lt (ha.mem f l h)
  · have h : (st.h.set st.next (some ⟨o, en.fam⟩)).get id = some e := h
    rw [hg] at h
    by_cases e' : id = st.next
    · rw [if_pos e'] at h; cases h; exact Nat.lt_succ_of_lt (ha.famlt b en hbg)
    · rw [if_neg e'] at h; exact Nat.lt_succ_of_lt (ha.famlt _ _ h)
  · rcases List.mem_cons.1 hy with rfl | hy
    · exact ⟨hn0, Nat.lt_succ_of_lt hblt⟩
    · exact ⟨(ha.wl _ hy).1, Nat.lt_succ_of_lt (ha.wl _ hy).2⟩
  · show (st.h.set _ _).get id = _
    rw [hg]
    by_cases e : id = st.next
    · subst e; rw [ha.msk _ (Nat.le_refl _)] at h; cases h
    · rw [if_neg e]
  · have h2 : (st.h.set st.next (some ⟨o, en.fam⟩)).get id = some e' := h2
    rw [hg, if_neg (hne id e h1), h1] at h2; cases h2; rfl
  · have h : (st.h.set st.next (some ⟨o, en.fam⟩)).get id = some e := h
    rw [hg] at h
    by_cases e' : id = st.next
    · rw [if_pos e'] at h; cases h
      exact .inr ⟨b, en, List.mem_cons_self .., hblt, hbg, rfl⟩
    · rw [if_neg e'] at h; have := ha.lt _ _ h; have hge' : st.next ≤ id := hge; omega

theorem see_low {T : Tb} {st s' : St} {b : Nat} {x : Option En} (h : St.low { st with h := st.h.set b x } T.n0 b = some s') (hv : hidden st.msk b = false) : s'.see b = x := by
  obtain ⟨_, rfl⟩ := low_some h
  show cond (hidden st.msk b) none ((st.h.set b x).get b) = x
  rw [hv, Tr.get_set, if_pos rfl]; rfl

theorem apoison {T : Tb} {n but : Nat} : ∀ (l : List Nat) (st st1 : St), Abs T st → poison T.n0 n but l st = some st1 → AStp T st st1 ∧ st1.h.get but = st.h.get but
  | [], st, st1, ha, h => by simp only [poison] at h; cases h; exact ⟨.refl ha, rfl⟩
  | id :: r, st, st1, ha, h => by
    simp only [poison] at h
    cases hb : Nat.beq id but with
    | true => rw [hb] at h; exact apoison r st st1 ha h
    | false =>
      rw [hb] at h
      simp only [cond_false] at h
      have hne : id ≠ but := fun e => by rw [e, Nat.beq_refl] at hb; cases hb
      cases hs : st.see id with
      | none => rw [hs] at h; exact apoison r st st1 ha h
      | some en =>
        rw [hs] at h
        obtain ⟨ob, fam⟩ := en
        cases ob with
        | map es => cases h
        | pmap es => cases h
        | siter s p => cases h
        | loop t nt k busy => cases h
        | dfr => cases h
        | cells cs el ex fz =>
          simp only at h
          cases hl : Nat.blt n cs.length with
          | false => rw [hl] at h; exact apoison r st st1 ha h
          | true =>
            rw [hl] at h
            simp only [cond_true] at h
            cases hlow : St.low { st with h := st.h.set id none } T.n0 id with
            | none => rw [hlow] at h; cases h
            | some s2 =>
              rw [hlow] at h
              have a1 := alow (x := none) ha hs (fun e h => by cases h) hlow
              obtain ⟨a2, k2⟩ := apoison r s2 st1 a1.abs h
              refine ⟨a1.trans a2 ha, k2.trans ?_⟩
              obtain ⟨_, rfl⟩ := low_some hlow
              show (st.h.set id none).get but = _
              rw [Tr.get_set, if_neg (Ne.symm hne)]

theorem afreeze {T : Tb} : ∀ (l : List Nat) (st st1 : St), Abs T st → freeze T.n0 l st = some st1 → AStp T st st1
  | [], st, st1, ha, h => by simp only [freeze] at h; cases h; exact .refl ha
  | id :: r, st, st1, ha, h => by
    simp only [freeze] at h
    cases hs : st.see id with
    | none => rw [hs] at h; exact afreeze r st st1 ha h
    | some en =>
      rw [hs] at h
      obtain ⟨ob, fam⟩ := en
      cases ob with
      | map es => cases h
      | pmap es => cases h
      | siter s p => cases h
      | loop t nt k busy => cases h
      | dfr => cases h
      | cells cs el ex fz =>
        simp only at h
        cases hlow : St.low { st with h := st.h.set id (some ⟨.cells cs el ex true, fam⟩) } T.n0 id with
        | none => rw [hlow] at h; cases h
        | some s2 =>
          rw [hlow] at h
          have a1 := alow ha hs (fun e h => by cases h; exact ⟨rfl, rfl⟩) hlow
          exact a1.trans (afreeze r s2 st1 a1.abs h) ha

theorem astore {T : Tb} {st st' : St} (ha : Abs T st) {b off : Nat} {vs : List Value} (h : St.store T.n0 st b off vs = some st') : AStp T st st' := by
  unfold St.store at h
  split at h
  · cases h; exact .refl ha
  · split at h
    · rename_i cs el ex fam hs
      split at h
      · rename_i cs' hset
        cases ho : vs.all oneC with
        | false => rw [ho] at h; cases h
        | true =>
          rw [ho] at h
          simp only [cond_true] at h
          split at h
          · rename_i s1 hp
            obtain ⟨a1, k1⟩ := apoison _ _ _ ha hp
            have hs1 : s1.see b = some ⟨.cells cs el ex false, fam⟩ := by
              rw [see_eq (by rw [a1.msk]; exact see_vis hs), k1]; exact see_get hs
            exact a1.trans (alow a1.abs hs1 (fun e h => by cases h; exact ⟨rfl, rfl⟩) h) ha
          · cases h
      · cases h
    · cases h

end Go.Proofs.YthdnpikgnmdnnaaGreatDoor.Ev

namespace Go.Proofs.YthdnpikgnmdnnaaGreatDoor.Ev
set_option linter.unusedSimpArgs false
set_option linter.unusedVariables false
set_option linter.unusedSectionVars false
variable [Tok]
open Go.RowKit
set_option linter.unusedSectionVars false

section
variable {T : Tb} {st st' : St} {u : Value} (ha : Abs T st)
include ha

theorem a_ret {x : Option Value} (h : ret st x = some (u, st')) : AStp T st st' := by
  obtain ⟨_, rfl⟩ := ret_inv h; exact .refl ha

theorem a_new {o : Ob} {f : Nat → Value} (h : (some (f (st.new o).1, (st.new o).2) : Ans) = some (u, st')) : AStp T st st' := by
  cases h; exact anew ha o

theorem a_ret1 {s : Option St} {v : Value} (hs : ∀ s', s = some s' → AStp T st s') (h : ret1 s v = some (u, st')) : AStp T st st' := by
  cases s with
  | none => cases h
  | some s' => cases h; exact hs _ rfl

theorem a_unit {s : Option St} (hs : ∀ s', s = some s' → AStp T st s') (h : unit s = some (u, st')) : AStp T st st' := by
  cases s with
  | none => cases h
  | some s' => cases h; exact hs _ rfl

theorem a_buildSlice {ty : TypeId} {len : Nat} {vs : List (Nat × Value)} (h : buildSliceA T st ty len vs = some (u, st')) : AStp T st st' := by
  unfold buildSliceA at h
  split at h
  · split at h
    · rename_i n z _ _
      cases hq : (Nat.ble (len * n) 16777216 && (Nat.ble len 16777216 && Nat.beq (vcells z).length n)) with
      | false => rw [hq] at h; cases h
      | true =>
        rw [hq] at h
        simp only [cond_true] at h
        split at h
        · exact a_new ha (f := fun b => .slice (some ⟨b, 0, none⟩) len len) h
        · cases h
    · cases h
  · cases h

theorem a_load {ty : TypeId} {x : Value} (h : loadA T st ty x = some (u, st')) : AStp T st st' := by
  unfold loadA at h
  split at h
  · split at h
    · exact a_ret ha h
    · split at h
      · cases h; exact .refl ha
      · cases h
    · cases h
  · cases h

theorem a_store {ty : TypeId} {x v : Value} (h : storeA T st ty x v = some (u, st')) : AStp T st st' := by
  unfold storeA at h
  split at h
  · split at h
    · rename_i n _
      cases hq : Nat.beq (vcells v).length n with
      | false => rw [hq] at h; cases h
      | true => rw [hq] at h; exact a_unit ha (fun s' hs => astore ha hs) h
    · cases h
  · cases h

theorem a_convert {src dst : TypeId} {x : Value} (h : convertA T st src dst x = some (u, st')) : AStp T st st' := by
  unfold convertA at h
  split at h
  · split at h <;> cases h; exact .refl ha
  · split at h <;> cases h; exact .refl ha
  · split at h <;> cases h; exact .refl ha
  · split at h
    · rename_i s _
      exact a_new ha (f := fun b => .slice (some ⟨b, 0, none⟩) s.data.toList.length (UNK + 1)) h
    · cases h
  · split at h
    · cases h; exact .refl ha
    · split at h
      · generalize Nat.blt _ _ = q at h
        cases q <;> cases h; exact .refl ha
      · cases h
    · cases h
  · split at h
    · cases h; exact .refl ha
    · split at h
      · split at h
        · rename_i q1 q2
          generalize hq : (Nat.beq _ _ && (Nat.beq _ 0 && (Nat.beq _ _ && Nat.beq _ _))) = q at h
          cases q <;> cases h; exact .refl ha
        · cases h
      · cases h
    · cases h
  · split at h
    · rename_i a n c0 _
      split at h
      · rename_i cs el ex fz fam hs
        cases hq : Nat.beq src dst && Nat.blt c0 UNKE with
        | false => simp only [hq] at h; cases h
        | true =>
          simp only [hq] at h
          exact a_ret1 ha (fun s' hs' => alow ha hs (fun e h => by cases h; exact ⟨rfl, rfl⟩) hs') h
      · cases h
    · cases h
  · split at h
    · cases h; exact .refl ha
    · rename_i a n c0 _
      cases hq : Nat.beq n 0 with
      | true => simp only [hq] at h; cases h; exact .refl ha
      | false =>
        simp only [hq, cond_false] at h
        split at h <;> cases h; exact .refl ha
    · cases h
  · cases h

theorem a_makeMap {ty : TypeId} {x : Value} (h : makeMapA T st ty x = some (u, st')) : AStp T st st' := by
  unfold makeMapA at h
  split at h
  · split at h
    · exact a_new ha (f := fun b => .map (some b)) h
    · cases h
  · cases h

theorem a_makeSlice {ty : TypeId} {l c : Value} (h : makeSliceA T st ty l c = some (u, st')) : AStp T st st' := by
  unfold makeSliceA at h
  split at h
  · split at h
    · rename_i l' c' n z _ _ _ _
      generalize (Nat.ble l' c' && _) = q at h
      cases q with
      | false => cases h
      | true => exact a_new ha (f := fun b => .slice (some ⟨b, 0, none⟩) l' c') h
    · cases h
  · cases h

theorem a_mapUpdate {ty : TypeId} {x key v : Value} (h : mapUpdateA T st ty x key v = some (u, st')) : AStp T st st' := by
  unfold mapUpdateA at h
  split at h
  · split at h
    · split at h
      · split at h
        · rename_i es fam hs
          split at h
          · exact a_unit ha (fun s' hs' => alow ha hs (fun e h => by cases h; exact ⟨rfl, rfl⟩) hs') h
          · cases h
        · cases h
      · cases h
    · cases h
  · cases h

theorem a_delete {ty : TypeId} {x key : Value} (h : deleteA T st ty x key = some (u, st')) : AStp T st st' := by
  unfold deleteA at h
  split at h
  · split at h
    · split at h
      · split at h
        · rename_i es fam hs
          split at h
          · exact a_unit ha (fun s' hs' => alow ha hs (fun e h => by cases h; exact ⟨rfl, rfl⟩) hs') h
          · cases h
        · cases h
      · cases h
    · cases h
  · cases h

theorem a_range {ty : TypeId} {x : Value} (h : rangeA T st ty x = some (u, st')) : AStp T st st' := by
  unfold rangeA at h
  split at h
  · split at h
    · exact a_new ha (f := ptrTo) h
    · cases h
  · cases h

theorem a_next {x : Value} (h : nextA T st x = some (u, st')) : AStp T st st' := by
  unfold nextA at h
  split at h
  · rename_i a
    split at h
    · rename_i s pos fam hs
      cases hq : Nat.beq a.off 0 with
      | false => rw [hq] at h; cases h
      | true =>
        rw [hq] at h
        simp only [cond_true] at h
        cases hl : Nat.blt pos s.data.toList.length with
        | false => rw [hl] at h; cases h; exact .refl ha
        | true =>
          rw [hl] at h
          simp only [cond_true] at h
          split at h
          · rename_i s2 hs2
            cases h
            exact alow ha hs (fun e h => by cases h; exact ⟨rfl, rfl⟩) hs2
          · cases h
    · cases h
  · cases h

theorem a_grown {elem size n : Nat} {l : List Value} (h : grownA st elem size l n = some (u, st')) : AStp T st st' :=
  a_new ha (f := fun b => .slice (some ⟨b, 0, none⟩) n (UNK + size)) h

theorem a_open {elem size len n : Nat} {a : Addr} {nw : List Value} (h : appendOpen T st elem size a len n nw = some (u, st')) : AStp T st st' := by
  unfold appendOpen at h
  split at h
  · rename_i cs el ex fam hs
    generalize (Nat.beq el elem && _) = q at h
    cases q with
    | false => cases h
    | true =>
      simp only [cond_true] at h
      split at h
      · rename_i s1 hp
        obtain ⟨a1, k1⟩ := apoison _ _ _ ha hp
        have hs1 : s1.see a.block = some ⟨.cells cs el ex false, fam⟩ := by
          rw [see_eq (by rw [a1.msk]; exact see_vis hs), k1]; exact see_get hs
        split at h
        · rename_i s2 hl
          have a2 := alow a1.abs hs1 (fun e h => by cases h; exact ⟨rfl, rfl⟩) hl
          have hs2 := see_low hl (by rw [a1.msk]; exact see_vis hs)
          split at h
          · rename_i s3 hadd
            cases h
            exact (a1.trans a2 ha).trans (aadd a2.abs hs2 rfl hadd) ha
          · cases h
        · cases h
      · cases h
  · cases h

theorem a_append {sT : TypeId} {xT : Option TypeId} {s x : Value} (h : appendA T st sT xT s x = some (u, st')) : AStp T st st' := by
  unfold appendA at h
  split at h
  · split at h
    · rename_i i _
      split at h
      · rename_i z _
        generalize (closedV 40 z && _) = q at h
        cases q with
        | false => cases h
        | true =>
          simp only [cond_true] at h
          split at h
          · rename_i nw n _
            generalize (nw.all oneC && _) = q at h
            cases q with
            | false => cases h
            | true =>
              simp only [cond_true] at h
              unfold appendV at h
              split at h
              · cases hn : Nat.beq n 0 with
                | true => rw [hn] at h; cases h; exact .refl ha
                | false =>
                  rw [hn] at h
                  simp only [cond_false] at h
                  cases hb : Nat.ble n 1000000 with
                  | false => rw [hb] at h; cases h
                  | true => rw [hb] at h; exact a_grown ha h
              · rename_i a len cap
                cases hn : Nat.beq n 0 with
                | true =>
                  rw [hn] at h
                  simp only [cond_true] at h
                  cases hb : Nat.ble len cap with
                  | false => rw [hb] at h; cases h
                  | true => rw [hb] at h; cases h; exact .refl ha
                | false =>
                  rw [hn] at h
                  simp only [cond_false] at h
                  cases hb : Nat.ble (len + n) 1000000 with
                  | false => rw [hb] at h; cases h
                  | true =>
                    rw [hb] at h
                    simp only [cond_true] at h
                    cases hc : Nat.blt cap UNK with
                    | true =>
                      rw [hc] at h
                      simp only [cond_true] at h
                      cases hf : Nat.ble (len + n) cap with
                      | true => rw [hf] at h; exact a_ret1 ha (fun s' hs => astore ha hs) h
                      | false =>
                        rw [hf] at h
                        simp only [cond_false] at h
                        split at h
                        · exact a_grown ha h
                        · cases h
                    | false =>
                      rw [hc] at h
                      simp only [cond_false] at h
                      generalize (Nat.beq cap _ && _) = q at h
                      cases q with
                      | false => cases h
                      | true => exact a_open ha h
              · cases h
          · cases h
      · cases h
    · cases h
  · cases h

theorem a_copy {dT : TypeId} {d x : Value} (h : copyA T st dT d x = some (u, st')) : AStp T st st' := by
  unfold copyA at h
  split at h
  · split at h
    · split at h
      · split at h
        · split at h
          · exact a_ret1 ha (fun s' hs => astore ha hs) h
          · cases h; exact .refl ha
        · cases h
      · cases h
    · cases h
  · cases h

theorem a_unsafe {ts : List TypeId} {p n : Value} (h : unsafeStringA T st ts p n = some (u, st')) : AStp T st st' := by
  unfold unsafeStringA at h
  split at h
  · split at h
    · cases h; exact .refl ha
    · cases h
  · split at h
    · unfold unsafeStringA.unsafeAt at h
      split at h
      · split at h
        · split at h
          · split at h
            · generalize (Nat.beq _ 1 && _) = q at h
              cases q with
              | false => cases h
              | true => exact a_ret1 ha (fun s' hs => afreeze _ _ _ ha hs) h
            · cases h
          · cases h
        · cases h
      · cases h
    · cases h
  · cases h

theorem a_builtin {b : Builtin} {ts : List TypeId} {args : List Value} (h : builtinA T st b ts args = some (u, st')) : AStp T st st' := by
  cases b <;> simp only [builtinA] at h <;> (try (cases h; done))
  all_goals
    split at h
    · first
        | exact a_ret ha h
        | exact a_append ha h
        | exact a_copy ha h
        | exact a_delete ha h
        | exact a_unsafe ha h
    · cases h

theorem a_ext {k : Ext} {args : List Value} (h : extV T st k args = some (u, st')) : AStp T st st' := by
  cases k <;> simp only [extV] at h
  all_goals
    split at h
    · first
        | (cases h; exact .refl ha)
        | (split at h
           · rename_i n _ _
             cases hq : Nat.ble _ 1000000 with
             | false => rw [hq] at h; cases h
             | true => rw [hq] at h; exact a_new ha (f := fun b => .slice (some ⟨b, 0, none⟩) _ (UNK + 1)) h
           · cases h)
    · cases h

theorem a_evalOp {t : Tr Value} {o : Oper} (h : evalOp T t o st = some (u, st')) : AStp T st st' := by
  obtain ⟨dst, op, ty, pos, after, guard⟩ := o
  cases op <;> simp only [evalOp] at h <;> (try (cases h; done))
  case move x => exact a_ret ha h
  case assign x => exact a_ret ha h
  case pick c x y =>
    obtain ⟨vc, h1, h⟩ := bind_inv h
    obtain ⟨vx, h2, h⟩ := bind_inv h
    obtain ⟨vy, h3, h⟩ := bind_inv h
    split at h <;> cases h
    exact .refl ha
  case alloc e => obtain ⟨v, _, h⟩ := bind_inv h; exact a_new ha (f := ptrTo) h
  case box e x => obtain ⟨v, _, h⟩ := bind_inv h; exact a_new ha (f := ptrTo) h
  case build => obtain ⟨v, _, h⟩ := bind_inv h; exact a_ret ha h
  case buildSlice => obtain ⟨v, _, h⟩ := bind_inv h; exact a_buildSlice ha h
  case load => obtain ⟨v, _, h⟩ := bind_inv h; exact a_load ha h
  case store => obtain ⟨v, _, h⟩ := bind_inv h; obtain ⟨v2, _, h⟩ := bind_inv h; exact a_store ha h
  case nilCheck => obtain ⟨v, _, h⟩ := bind_inv h; exact a_ret ha h
  case binOp => obtain ⟨v, _, h⟩ := bind_inv h; obtain ⟨v2, _, h⟩ := bind_inv h; exact a_ret ha h
  case unOp => obtain ⟨v, _, h⟩ := bind_inv h; exact a_ret ha h
  case convert => obtain ⟨v, _, h⟩ := bind_inv h; exact a_convert ha h
  case makeInterface => obtain ⟨v, _, h⟩ := bind_inv h; exact a_ret ha h
  case makeFunc => obtain ⟨v, _, h⟩ := bind_inv h; obtain ⟨v2, _, h⟩ := bind_inv h; exact a_ret ha h
  case makeMap t0 r =>
    cases r with
    | none => exact a_new ha (f := fun b => .map (some b)) h
    | some x => obtain ⟨v, _, h⟩ := bind_inv h; exact a_makeMap ha h
  case makeSlice => obtain ⟨v, _, h⟩ := bind_inv h; obtain ⟨v2, _, h⟩ := bind_inv h; exact a_makeSlice ha h
  case slice =>
    obtain ⟨v, _, h⟩ := bind_inv h; obtain ⟨v2, _, h⟩ := bind_inv h; obtain ⟨v3, _, h⟩ := bind_inv h; obtain ⟨v4, _, h⟩ := bind_inv h
    exact a_ret ha h
  case fieldAddr => obtain ⟨v, _, h⟩ := bind_inv h; exact a_ret ha h
  case field => obtain ⟨v, _, h⟩ := bind_inv h; exact a_ret ha h
  case indexAddr => obtain ⟨v, _, h⟩ := bind_inv h; obtain ⟨v2, _, h⟩ := bind_inv h; exact a_ret ha h
  case index => obtain ⟨v, _, h⟩ := bind_inv h; obtain ⟨v2, _, h⟩ := bind_inv h; exact a_ret ha h
  case lookup => obtain ⟨v, _, h⟩ := bind_inv h; obtain ⟨v2, _, h⟩ := bind_inv h; exact a_ret ha h
  case mapUpdate => obtain ⟨v, _, h⟩ := bind_inv h; obtain ⟨v2, _, h⟩ := bind_inv h; obtain ⟨v3, _, h⟩ := bind_inv h; exact a_mapUpdate ha h
  case insert => obtain ⟨v, _, h⟩ := bind_inv h; obtain ⟨v2, _, h⟩ := bind_inv h; obtain ⟨v3, _, h⟩ := bind_inv h; exact a_mapUpdate ha h
  case range => obtain ⟨v, _, h⟩ := bind_inv h; exact a_range ha h
  case next x b =>
    cases b with
    | false => cases h
    | true => obtain ⟨v, _, h⟩ := bind_inv h; exact a_next ha h
  case extract => obtain ⟨v, _, h⟩ := bind_inv h; exact a_ret ha h
  case typeAssert => obtain ⟨v, _, h⟩ := bind_inv h; exact a_ret ha h

end
end Go.Proofs.YthdnpikgnmdnnaaGreatDoor.Ev

namespace Go.Proofs.YthdnpikgnmdnnaaGreatDoor.Ev
set_option linter.unusedSimpArgs false
set_option linter.unusedVariables false
set_option linter.unusedSectionVars false
variable [Tok]
open Go.RowKit
set_option linter.unusedSectionVars false

/-! Masks -/

theorem hidden_cons {lo hi : Nat} {m : List (Nat × Nat)} {id : Nat} : hidden ((lo, hi) :: m) id = true ↔ (lo ≤ id ∧ id < hi) ∨ hidden m id = true := by
  simp only [hidden, Bool.or_eq_true, Bool.and_eq_true, Nat.ble_eq, Nat.blt_eq]

theorem hidden_join {a m : List (Nat × Nat)} {id : Nat} : hidden (joinM a m) id = true ↔ hidden a id = true ∨ hidden m id = true := by
  induction a with
  | nil => simp [joinM, hidden]
  | cons x r ih =>
    obtain ⟨lo, hi⟩ := x
    simp only [joinM, hidden_cons, ih, or_assoc]

theorem minN_le {a b : Nat} : minN a b ≤ b := by
  unfold minN
  cases h : Nat.ble a b with
  | true => exact Nat.le_of_ble_eq_true h
  | false => exact Nat.le_refl _

theorem lt_minN {a b i : Nat} (h1 : i < a) (h2 : i < b) : i < minN a b := by
  unfold minN
  cases Nat.ble a b <;> assumption

theorem hidden_allBut_hi {hi : Nat} : ∀ {l : List Nat} {lo id : Nat}, hidden (allBut hi lo l) id = true → id < hi
  | [], lo, id, h => by
    rw [allBut, hidden_cons] at h
    rcases h with h | h
    · exact h.2
    · cases h
  | b :: r, lo, id, h => by
    simp only [allBut, hidden_cons] at h
    rcases h with h | h
    · exact Nat.lt_of_lt_of_le h.2 minN_le
    · exact hidden_allBut_hi h

theorem hidden_allBut {hi : Nat} : ∀ {l : List Nat} {lo id : Nat}, lo ≤ id → id < hi → id ∉ l → hidden (allBut hi lo l) id = true
  | [], lo, id, h1, h2, _ => by simp only [allBut, hidden_cons]; exact .inl ⟨h1, h2⟩
  | b :: r, lo, id, h1, h2, h3 => by
    simp only [allBut, hidden_cons]
    by_cases h : id < b
    · exact .inl ⟨h1, lt_minN h h2⟩
    · have : id ≠ b := fun e => h3 (by rw [e]; exact List.mem_cons_self ..)
      exact .inr (hidden_allBut (by omega) h2 fun e => h3 (List.mem_cons_of_mem _ e))

theorem hidden_hideOf {id : Nat} : ∀ {rs : List Rec} {m : List (Nat × Nat)}, hidden (hideOf rs m) id = true ↔ (∃ x ∈ rs, x.lo ≤ id ∧ id < x.hi) ∨ hidden m id = true
  | [], m => by simp [hideOf]
  | x :: r, m => by
    have key : hidden (cond (Nat.beq x.lo x.hi) m ((x.lo, x.hi) :: m)) id = true ↔ (x.lo ≤ id ∧ id < x.hi) ∨ hidden m id = true := by
      cases h : Nat.beq x.lo x.hi with
      | true =>
        have := Nat.eq_of_beq_eq_true h
        simp only [cond_true]
        constructor
        · exact .inr
        · rintro (⟨a, b⟩ | h)
          · omega
          · exact h
      | false => simp only [cond_false, hidden_cons]
    rw [hideOf, hidden_hideOf, key]
    constructor
    · rintro (⟨y, hy, h⟩ | h | h)
      · exact .inl ⟨y, List.mem_cons_of_mem _ hy, h⟩
      · exact .inl ⟨x, List.mem_cons_self .., h⟩
      · exact .inr h
    · rintro (⟨y, hy, h⟩ | h)
      · rcases List.mem_cons.1 hy with rfl | hy
        · exact .inr (.inl h)
        · exact .inl ⟨y, hy, h⟩
      · exact .inr (.inr h)

theorem mem_awayOf {pr : Nat} {x : Rec} : ∀ {rs : List Rec}, x ∈ awayOf pr rs ↔ x ∈ rs ∧ pr.testBit x.i = false
  | [] => by simp [awayOf]
  | y :: r => by
    rw [awayOf]
    cases h : pr.testBit y.i with
    | true =>
      simp only [cond_true, mem_awayOf, List.mem_cons]
      constructor
      · exact fun ⟨a, b⟩ => ⟨.inr a, b⟩
      · rintro ⟨rfl | a, b⟩
        · rw [h] at b; cases b
        · exact ⟨a, b⟩
    | false =>
      simp only [cond_false, List.mem_cons, mem_awayOf]
      constructor
      · rintro (rfl | ⟨a, b⟩)
        · exact ⟨.inl rfl, h⟩
        · exact ⟨.inr a, b⟩
      · rintro ⟨rfl | a, b⟩
        · exact .inl rfl
        · exact .inr ⟨a, b⟩

theorem mem_oldOf {n b : Nat} : ∀ {l : List Nat}, b ∈ oldOf n l ↔ b ∈ l ∧ b < n
  | [] => by simp [oldOf]
  | y :: r => by
    rw [oldOf]
    cases h : Nat.blt y n with
    | true =>
      have h : y < n := Nat.le_of_ble_eq_true h
      simp only [cond_true, List.mem_cons, mem_oldOf]
      constructor
      · rintro (rfl | ⟨a, b⟩)
        · exact ⟨.inl rfl, h⟩
        · exact ⟨.inr a, b⟩
      · rintro ⟨rfl | a, b⟩
        · exact .inl rfl
        · exact .inr ⟨a, b⟩
    | false =>
      have h : ¬ y < n := fun e => by have : Nat.blt y n = true := Nat.ble_eq_true_of_le e; rw [h] at this; cases this
      simp only [cond_false, List.mem_cons, mem_oldOf]
      constructor
      · exact fun ⟨a, b⟩ => ⟨.inr a, b⟩
      · rintro ⟨rfl | a, b⟩
        · exact absurd b h
        · exact ⟨a, b⟩

/-! Operations and rows of them -/

noncomputable def ACall (T : Tb) (call : Nat → List Value → St → Option (Out × St)) : Prop := ∀ f args st out st', call f args st = some (out, st') → Abs T st → AStp T st st'

section
variable {T : Tb} {call : Nat → List Value → St → Option (Out × St)} (hc : ACall T call)
include hc

theorem a_vals {st st' : St} {a : Ans} {r : Rs} (h : vals a = some (r, st')) (hk : ∀ u, a = some (u, st') → AStp T st st') : AStp T st st' := by
  cases a with
  | none => cases h
  | some x => obtain ⟨u, s⟩ := x; cases h; exact hk u rfl

theorem a_callA {f : Value} {args : List Value} {st st' : St} {r : Rs} (ha : Abs T st) (h : callA T call st f args = some (r, st')) : AStp T st st' := by
  unfold callA at h
  split at h
  · split at h
    · exact a_vals hc h fun u hu => a_ext ha hu
    · split at h
      · generalize (_ && _) = q at h
        cases q with
        | false => cases h
        | true =>
          simp only [cond_true] at h
          split at h
          · rename_i hco; cases h; exact hc _ _ _ _ _ hco ha
          · rename_i hco; cases h; exact hc _ _ _ _ _ hco ha
          · cases h
      · cases h
  · split at h
    · rename_i hco; cases h; exact hc _ _ _ _ _ hco ha
    · cases h
  · cases h

theorem a_any {t : Tr Value} {o : Oper} {st st' : St} {r : Rs} (ha : Abs T st) (h : evalAny T call t o st = some (r, st')) : AStp T st st' := by
  obtain ⟨dst, op, ty, pos, after, guard⟩ := o
  by_cases hcall' : ∃ c, op = .call c
  · obtain ⟨c, rfl⟩ := hcall'
    simp only [evalAny] at h
    obtain ⟨args, h1, h⟩ := bind_inv h
    split at h
    · obtain ⟨f, h2, h⟩ := bind_inv h
      exact a_callA hc ha h
    · obtain ⟨f, h2, h⟩ := bind_inv h
      split at h
      · split at h
        · exact a_callA hc ha h
        · cases h
      · cases h
    · exact a_vals hc h fun u hu => a_builtin ha hu
  · by_cases hdf : ∃ c, op = .defer c
    · obtain ⟨c, rfl⟩ := hdf
      simp only [evalAny] at h
      obtain ⟨args, h1, h⟩ := bind_inv h
      split at h
      · obtain ⟨f, h2, h⟩ := bind_inv h
        unfold deferA at h
        split at h
        · rename_i g _ _
          cases hb : Nat.blt g UNK with
          | false => rw [hb] at h; cases h
          | true => rw [hb] at h; cases h; exact .refl ha
        · cases h
      · cases h
    · by_cases hpn : ∃ x, op = .panic x
      · obtain ⟨x, rfl⟩ := hpn
        simp only [evalAny] at h
        obtain ⟨x, h1, h⟩ := bind_inv h
        unfold panicA at h
        split at h <;> cases h
        exact .refl ha
      · have hev : evalAny T call t ⟨dst, op, ty, pos, after, guard⟩ st = vals (evalOp T t ⟨dst, op, ty, pos, after, guard⟩ st) := by
          unfold evalAny
          cases op <;> first | rfl | exact absurd ⟨_, rfl⟩ hcall' | exact absurd ⟨_, rfl⟩ hdf | exact absurd ⟨_, rfl⟩ hpn
        rw [hev] at h
        exact a_vals hc h fun u hu => a_evalOp ha hu

theorem a_runVal {ops : List Oper} {t : Tr Value} {o : Oper} {st st' : St} {r : Rs} (ha : Abs T st) (h : runVal T call ops o t st = some (r, st')) : AStp T st st' := by
  unfold runVal at h
  split at h
  · split at h
    · rename_i hx; cases h; exact a_any hc ha hx
    · unfold tokA at h
      split at h
      · split at h
        · cases h; exact .refl ha
        · cases h
      · cases h
  · cases h; exact .refl ha
  · cases h

omit hc in
theorem putF_st {nt : Nat} {fr : Fr} {dst : Option Nat} {v : Value} {st : St} {g : (Fr × Option Value) × St} (h : putF nt fr dst v st = some g) : g.2 = st := by
  obtain ⟨t, _, rfl⟩ := putF_inv h; rfl

theorem a_runOp {ops : List Oper} {nt : Nat} {fr : Fr} {o : Oper} {st : St} {g : (Fr × Option Value) × St} (ha : Abs T st) (h : runOp T call ops nt o fr st = some g) : AStp T st g.2 := by
  unfold runOp at h
  split at h
  · rename_i hv; rw [putF_st h]; exact a_runVal hc ha hv
  · rename_i hv; cases h; exact a_runVal hc ha hv
  · rename_i hv; rw [putF_st h]; exact a_runVal hc ha hv
  · cases h

theorem a_runOps {ops : List Oper} {nt : Nat} : ∀ {l : List Oper} {fr : Fr} {st : St} {g : (Fr × Option Value) × St}, Abs T st → runOps T call ops nt l fr st = some g → AStp T st g.2
  | [], fr, st, g, ha, h => by cases h; exact .refl ha
  | o :: r, fr, st, g, ha, h => by
    unfold runOps at h
    split at h
    · rename_i ho
      have h1 := a_runOp hc ha ho
      exact h1.trans (a_runOps h1.abs h) ha
    · exact a_runOp hc ha h

omit hc in
theorem a_none : ACall T (fun _ _ _ => none) := fun f args st out st' h => by cases h

theorem a_runOpsD {ops : List Oper} {nt : Nat} {u : Option Value} : ∀ {l : List Oper} {fr : Fr} {b : Bool} {st : St} {g : (Fr × Bool) × St}, Abs T st → runOpsD T call ops nt u l fr b st = some g → AStp T st g.2
  | [], fr, b, st, g, ha, h => by cases h; exact .refl ha
  | o :: r, fr, b, st, g, ha, h => by
    unfold runOpsD at h
    split at h
    · split at h
      · rename_i hp
        have := putF_st hp
        simp only at this
        subst this
        exact a_runOpsD ha h
      · cases h
    · split at h
      · rename_i ho
        have h1 := a_runOp a_none ha ho
        exact h1.trans (a_runOpsD h1.abs h) ha
      · cases h

end

/-- A step under a mask, with the blocks written kept apart, is a step. -/
theorem AStp.unmask {T : Tb} {st st1 : St} {msk : List (Nat × Nat)} (ha : Abs T st) (h : AStp T { st with msk := msk, wl := [] } st1) (hm : ∀ id, hidden st.msk id = true → hidden msk id = true) :
    AStp T st { st1 with msk := st.msk, wl := oldOf st.next st1.wl ++ st.wl } where
  abs :=
    { lt := h.abs.lt, own := h.abs.own, sole := h.abs.sole, mem := h.abs.mem, famlt := h.abs.famlt, n0 := h.abs.n0
      msk := fun id hid => ha.msk id (Nat.le_trans h.next hid)
      wl := fun b hb => by
        rcases List.mem_append.1 hb with hb | hb
        · exact h.abs.wl b (mem_oldOf.1 hb).1
        · exact ⟨(ha.wl b hb).1, Nat.lt_of_lt_of_le (ha.wl b hb).2 h.next⟩ }
  next := h.next
  msk := rfl
  mem := h.mem
  wl := fun b hb => List.mem_append.2 (.inr hb)
  old := fun id hlt hne => List.mem_append.2 (.inl (mem_oldOf.2 ⟨h.old id hlt hne, hlt⟩))
  hid := fun id hid => h.hid id (hm id hid)
  fam := h.fam
  gone := h.gone
  newfam := fun id en hge he => by
    rcases h.newfam id en hge he with x | ⟨b, eb, h1, h2, h3, h4⟩
    · exact .inl x
    · exact .inr ⟨b, eb, List.mem_append.2 (.inl (mem_oldOf.2 ⟨h1, h2⟩)), h2, h3, h4⟩

theorem abs_mask {T : Tb} {st : St} {msk : List (Nat × Nat)} (ha : Abs T st) (hm : ∀ id, st.next ≤ id → hidden msk id = false) : Abs T { st with msk := msk, wl := [] } :=
  { lt := ha.lt, own := ha.own, sole := ha.sole, mem := ha.mem, famlt := ha.famlt, n0 := ha.n0, msk := hm, wl := fun b hb => by cases hb }

/-- The mask of an operation of a drawn region. -/
noncomputable def maskOf (st : St) (pr : Nat) (rs : List Rec) (msk0 : List (Nat × Nat)) (rd : Option (List Nat)) : List (Nat × Nat) := joinM (abOf st.next rd) (hideOf (awayOf pr rs) msk0)

theorem hidden_abOf {next : Nat} {rd : Option (List Nat)} {id : Nat} (h : hidden (abOf next rd) id = true) : id < next := by
  cases rd with
  | none => cases h
  | some l => exact hidden_allBut_hi h

theorem maskOf_lt {T : Tb} {st : St} {pr : Nat} {rs : List Rec} {rd : Option (List Nat)} (ha : Abs T st) (hrs : ∀ x ∈ rs, x.hi ≤ st.next) (id : Nat) (hid : st.next ≤ id) : hidden (maskOf st pr rs st.msk rd) id = false := by
  cases h : hidden (maskOf st pr rs st.msk rd) id with
  | false => rfl
  | true =>
    rcases hidden_join.1 h with h | h
    · have := hidden_abOf h; omega
    · rcases hidden_hideOf.1 h with ⟨x, hx, h1, h2⟩ | h
      · have := hrs x (mem_awayOf.1 hx).1; omega
      · rw [ha.msk id hid] at h; cases h

section
variable {T : Tb} {call : Nat → List Value → St → Option (Out × St)} (hc : ACall T call)
include hc

theorem a_runDraw {ops : List Oper} {nt : Nat} {msk0 : List (Nat × Nat)} : ∀ {l : List Oper} {i : Nat} {acc : List (Nat × Nat)} {rs : List Rec} {fr fr' : Fr} {st st' : St}, Abs T st → st.msk = msk0 → (∀ x ∈ rs, x.hi ≤ st.next) →
    runDraw T call ops nt msk0 i l acc rs fr st = some (fr', st') → AStp T st st'
  | [], i, acc, rs, fr, fr', st, st', ha, hm, hrs, h => by cases h; exact .refl ha
  | o :: r, i, acc, rs, fr, fr', st, st', ha, hm, hrs, h => by
    unfold runDraw at h
    simp only at h
    split at h
    · rename_i v st1 hv
      generalize (backE _ _ && _) = q at h
      cases q with
      | false => cases h
      | true =>
        simp only [cond_true] at h
        split at h
        · subst hm
          have h0 := a_runVal hc (abs_mask (msk := maskOf st _ rs st.msk _) ha fun id hid => maskOf_lt ha hrs id hid) hv
          have h1 := h0.unmask ha fun id hid => hidden_join.2 (.inr (hidden_hideOf.2 (.inr hid)))
          refine h1.trans (a_runDraw h1.abs rfl (fun x hx => ?_) h) ha
          rcases List.mem_cons.1 hx with rfl | hx
          · exact Nat.le_refl _
          · exact Nat.le_trans (hrs x hx) h1.next
        · cases h
    · cases h

end
end Go.Proofs.YthdnpikgnmdnnaaGreatDoor.Ev

namespace Go.Proofs.YthdnpikgnmdnnaaGreatDoor.Ev
set_option linter.unusedSimpArgs false
set_option linter.unusedVariables false
set_option linter.unusedSectionVars false
variable [Tok]
open Go.RowKit
set_option linter.unusedSectionVars false

/-! Forgetting new blocks when a call returns -/

theorem memN_iff {x : Nat} : ∀ {l : List Nat}, memN x l = true ↔ x ∈ l
  | [] => by simp [memN]
  | y :: r => by
    unfold memN
    rw [Bool.or_eq_true, memN_iff, List.mem_cons]
    constructor
    · rintro (h | h)
      · exact .inl (Nat.eq_of_beq_eq_true h)
      · exact .inr h
    · rintro (h | h)
      · subst h; exact .inl (Nat.beq_refl x)
      · exact .inr h
theorem mem_famN {f x : Nat} {l : List Nat} : x ∈ famN f l ↔ x = f ∨ x ∈ l := by
  unfold famN
  cases hb : memN f l with
  | true =>
    rw [cond_true]
    constructor
    · exact .inr
    · rintro (rfl | h)
      · exact memN_iff.1 hb
      · exact h
  | false => rw [cond_false, List.mem_cons]

theorem mem_dedupN {x : Nat} : ∀ {l : List Nat}, x ∈ dedupN l ↔ x ∈ l
  | [] => by simp [dedupN]
  | b :: r => by
    unfold dedupN
    cases hb : memN b r with
    | true =>
      rw [cond_true, mem_dedupN, List.mem_cons]
      constructor
      · exact .inr
      · rintro (rfl | h)
        · exact memN_iff.1 hb
        · exact h
    | false => rw [cond_false, List.mem_cons, List.mem_cons, mem_dedupN]

theorem mem_oldOfT {next x : Nat} : ∀ {l : List Nat}, x ∈ oldOf next l ↔ x ∈ l ∧ x < next
  | [] => by simp [oldOf]
  | b :: r => by
    unfold oldOf
    cases hb : Nat.blt b next with
    | true =>
      have hlt : b < next := Nat.le_of_ble_eq_true hb
      rw [cond_true, List.mem_cons, mem_oldOfT, List.mem_cons]
      constructor
      · rintro (rfl | ⟨h1, h2⟩)
        · exact ⟨.inl rfl, hlt⟩
        · exact ⟨.inr h1, h2⟩
      · rintro ⟨rfl | h1, h2⟩
        · exact .inl rfl
        · exact .inr ⟨h1, h2⟩
    | false =>
      have hge : ¬ b < next := fun h => by
        have : Nat.blt b next = true := Nat.ble_eq_true_of_le h
        rw [this] at hb; cases hb
      rw [cond_false, mem_oldOfT, List.mem_cons]
      constructor
      · rintro ⟨h1, h2⟩; exact ⟨.inr h1, h2⟩
      · rintro ⟨rfl | h1, h2⟩
        · exact absurd h2 hge
        · exact ⟨h1, h2⟩

theorem mem_newOf {next x : Nat} : ∀ {l : List Nat}, x ∈ newOf next l ↔ x ∈ l ∧ next ≤ x
  | [] => by simp [newOf]
  | b :: r => by
    unfold newOf
    cases hb : Nat.blt b next with
    | true =>
      have hlt : b < next := Nat.le_of_ble_eq_true hb
      rw [cond_true, mem_newOf, List.mem_cons]
      constructor
      · rintro ⟨h1, h2⟩; exact ⟨.inr h1, h2⟩
      · rintro ⟨rfl | h1, h2⟩
        · omega
        · exact ⟨h1, h2⟩
    | false =>
      have hge : ¬ b < next := fun h => by
        have : Nat.blt b next = true := Nat.ble_eq_true_of_le h
        rw [this] at hb; cases hb
      rw [cond_false, List.mem_cons, mem_newOf, List.mem_cons]
      constructor
      · rintro (rfl | ⟨h1, h2⟩)
        · exact ⟨.inl rfl, by omega⟩
        · exact ⟨.inr h1, h2⟩
      · rintro ⟨rfl | h1, h2⟩
        · exact .inl rfl
        · exact .inr ⟨h1, h2⟩

theorem mem_onlyL {k : List Nat} {x : Nat} : ∀ {l : List Nat}, x ∈ onlyL k l ↔ x ∈ l ∧ x ∈ k
  | [] => by simp [onlyL]
  | b :: r => by
    unfold onlyL
    cases hb : memN b k with
    | true =>
      have hk := memN_iff.1 hb
      rw [cond_true, List.mem_cons, mem_onlyL, List.mem_cons]
      constructor
      · rintro (rfl | ⟨h1, h2⟩)
        · exact ⟨.inl rfl, hk⟩
        · exact ⟨.inr h1, h2⟩
      · rintro ⟨rfl | h1, h2⟩
        · exact .inl rfl
        · exact .inr ⟨h1, h2⟩
    | false =>
      rw [cond_false, mem_onlyL, List.mem_cons]
      constructor
      · rintro ⟨h1, h2⟩; exact ⟨.inr h1, h2⟩
      · rintro ⟨rfl | h1, h2⟩
        · rw [memN_iff.2 h2] at hb; cases hb
        · exact ⟨h1, h2⟩

theorem get_takeH (h : Tr En) (i : Nat) : ∀ (l : List Nat) (t : Tr En), (takeH h l t).get i = if i ∈ l then h.get i else t.get i
  | [], t => by simp [takeH]
  | id :: r, t => by
    have key : ∀ x, h.get id = x → (takeH h r (t.set id x)).get i = if i ∈ id :: r then h.get i else t.get i := by
      intro x hx
      rw [get_takeH h i r, Tr.get_set]
      by_cases h1 : i ∈ r
      · rw [if_pos h1, if_pos (List.mem_cons_of_mem _ h1)]
      · rw [if_neg h1]
        by_cases h2 : i = id
        · subst h2; rw [if_pos rfl, if_pos List.mem_cons_self, hx]
        · rw [if_neg h2, if_neg (by simp [h1, h2])]
    unfold takeH
    split
    · rename_i en he; exact key _ he
    · rename_i he; exact key _ he

/-- What a family is taken over as. -/
noncomputable def famOf (next : Nat) (s : St) (k : List Nat) (f : Nat) : Option (List Nat) := cond (Nat.blt f next) (s.mem.get f) (some (famN f (onlyL k (members s f))))

theorem get_takeM (next : Nat) (s : St) (k : List Nat) (f : Nat) : ∀ (l : List Nat) (m : Tr (List Nat)),
    ((takeM next s k l m).get f = famOf next s k f ∧ ∃ id ∈ l, ∃ en, s.h.get id = some en ∧ en.fam = f) ∨ ((takeM next s k l m).get f = m.get f ∧ ∀ id ∈ l, ∀ en, s.h.get id = some en → en.fam ≠ f)
  | [], m => .inr ⟨rfl, fun id h => by cases h⟩
  | id :: r, m => by
    unfold takeM
    split
    · rename_i en he
      rcases get_takeM next s k f r (m.set en.fam (cond (Nat.blt en.fam next) (s.mem.get en.fam) (some (famN en.fam (onlyL k (members s en.fam)))))) with ⟨h1, i, hi, en', h2, h3⟩ | ⟨h1, h2⟩
      · exact .inl ⟨h1, i, List.mem_cons_of_mem _ hi, en', h2, h3⟩
      · rw [h1, Tr.get_set]
        by_cases h3 : f = en.fam
        · subst h3
          rw [if_pos rfl]
          exact .inl ⟨rfl, id, List.mem_cons_self, en, he, rfl⟩
        · rw [if_neg h3]
          refine .inr ⟨rfl, fun i hi en' he' => ?_⟩
          rcases List.mem_cons.1 hi with rfl | hi
          · rw [he] at he'; cases he'; exact fun e => h3 e.symm
          · exact h2 i hi en' he'
    · rename_i he
      rcases get_takeM next s k f r m with ⟨h1, i, hi, en', h2, h3⟩ | ⟨h1, h2⟩
      · exact .inl ⟨h1, i, List.mem_cons_of_mem _ hi, en', h2, h3⟩
      · refine .inr ⟨h1, fun i hi en' he' => ?_⟩
        rcases List.mem_cons.1 hi with rfl | hi
        · rw [he] at he'; cases he'
        · exact h2 i hi en' he'

section
variable {T : Tb} {st s : St} {k : List Nat}

theorem trim_wl {b : Nat} : b ∈ (trimTo k st s).wl ↔ b ∈ s.wl ∧ b < st.next := by
  show b ∈ dedupN (oldOf st.next s.wl) ↔ _
  rw [mem_dedupN, mem_oldOfT]

/-- What is there afterwards was there before; of the old blocks all. -/
theorem trim_get (ha : Abs T st) (hs : AStp T st s) (id : Nat) : (trimTo k st s).h.get id = if id < st.next ∨ id ∈ k then s.h.get id else none := by
  show (takeH s.h (dedupN (oldOf st.next s.wl)) (takeH s.h (newOf st.next k) st.h)).get id = _
  rw [get_takeH, get_takeH]
  by_cases h1 : id < st.next
  · rw [if_pos (c := id < st.next ∨ id ∈ k) (.inl h1)]
    by_cases h2 : id ∈ s.wl
    · rw [if_pos (mem_dedupN.2 (mem_oldOfT.2 ⟨h2, h1⟩))]
    · rw [if_neg (fun h => h2 (mem_oldOfT.1 (mem_dedupN.1 h)).1), if_neg (fun h => by have := (mem_newOf.1 h).2; omega)]
      by_cases h3 : s.h.get id = st.h.get id
      · exact h3.symm
      · exact absurd (hs.old id h1 h3) h2
  · have hn : st.h.get id = none := by
      cases h : st.h.get id with
      | none => rfl
      | some en => exact absurd (ha.lt id en h) h1
    rw [if_neg (fun h => h1 (mem_oldOfT.1 (mem_dedupN.1 h)).2)]
    by_cases h2 : id ∈ k
    · rw [if_pos (mem_newOf.2 ⟨h2, by omega⟩), if_pos (.inr h2)]
    · rw [if_neg (fun h => h2 (mem_newOf.1 h).1), if_neg (by simp [h1, h2]), hn]

theorem trim_some (ha : Abs T st) (hs : AStp T st s) {id : Nat} {en : En} (h : (trimTo k st s).h.get id = some en) : s.h.get id = some en ∧ (id < st.next ∨ id ∈ k) := by
  rw [trim_get ha hs] at h
  by_cases c : id < st.next ∨ id ∈ k
  · rw [if_pos c] at h; exact ⟨h, c⟩
  · rw [if_neg c] at h; cases h

/-- A family afterwards. -/
theorem trim_mem (ha : Abs T st) (hs : AStp T st s) (f : Nat) :
    ((trimTo k st s).mem.get f = famOf st.next s (newOf st.next k) f ∧ ∃ id en, s.h.get id = some en ∧ en.fam = f) ∨ ((trimTo k st s).mem.get f = st.mem.get f ∧ ∀ id, (id ∈ newOf st.next k ∨ id ∈ dedupN (oldOf st.next s.wl)) → ∀ en, s.h.get id = some en → en.fam ≠ f) := by
  show (takeM st.next s (newOf st.next k) (dedupN (oldOf st.next s.wl)) (takeM st.next s (newOf st.next k) (newOf st.next k) st.mem)).get f = _ ∧ _ ∨ ((takeM st.next s (newOf st.next k) (dedupN (oldOf st.next s.wl)) (takeM st.next s (newOf st.next k) (newOf st.next k) st.mem)).get f = _ ∧ _)
  rcases get_takeM st.next s (newOf st.next k) f (dedupN (oldOf st.next s.wl)) (takeM st.next s (newOf st.next k) (newOf st.next k) st.mem) with ⟨h1, i, _, e, he, hf⟩ | ⟨h1, h2⟩
  · exact .inl ⟨h1, i, e, he, hf⟩
  · rcases get_takeM st.next s (newOf st.next k) f (newOf st.next k) st.mem with ⟨h3, i, _, e, he, hf⟩ | ⟨h3, h4⟩
    · exact .inl ⟨h1.trans h3, i, e, he, hf⟩
    · refine .inr ⟨h1.trans h3, fun id hid en he => ?_⟩
      rcases hid with hid | hid
      · exact h4 id hid en he
      · exact h2 id hid en he

theorem famOf_old {f : Nat} (h : f < st.next) (k : List Nat) : famOf st.next s k f = s.mem.get f := by
  unfold famOf
  have : Nat.blt f st.next = true := Nat.ble_eq_true_of_le h
  rw [this, cond_true]
theorem famOf_new {f : Nat} (h : ¬ f < st.next) (k : List Nat) : famOf st.next s k f = some (famN f (onlyL k (members s f))) := by
  unfold famOf
  have : Nat.blt f st.next = false := by
    cases hb : Nat.blt f st.next with
    | false => rfl
    | true => exact absurd (Nat.le_of_ble_eq_true hb : f + 1 ≤ st.next) (by omega)
  rw [this, cond_false]

theorem trim_old_mem (ha : Abs T st) (hs : AStp T st s) (f id : Nat) (h : id ∈ members st f) : id ∈ members (trimTo k st s) f := by
  by_cases hf : f < st.next
  · rcases trim_mem (k := k) ha hs f with ⟨h1, -⟩ | ⟨h1, _⟩
    · rw [famOf_old hf] at h1
      have := hs.mem f id h
      unfold members at this ⊢
      rw [h1]; exact this
    · unfold members at h ⊢
      rw [h1]; exact h
  · have hn : st.mem.get f = none := by
      cases hm : st.mem.get f with
      | none => rfl
      | some l => exact absurd (ha.mem f l hm) hf
    rcases trim_mem (k := k) ha hs f with ⟨h1, -⟩ | ⟨h1, _⟩
    · rw [famOf_new hf] at h1
      unfold members at h ⊢
      rw [hn] at h
      rw [h1]
      exact mem_famN.2 (.inl (by simpa using h))
    · unfold members at h ⊢
      rw [h1]; exact h

/-- Forgetting is a step of the abstract heap, too. -/
theorem trim_astp (ha : Abs T st) (hs : AStp T st s) : AStp T st (trimTo k st s) where
  abs :=
    { lt := fun id en h => hs.abs.lt id en (trim_some ha hs h).1
      own := fun id en h => by
        obtain ⟨h1, h2⟩ := trim_some ha hs h
        have ho := hs.abs.own id en h1
        rcases trim_mem (k := k) ha hs en.fam with ⟨h3, -⟩ | ⟨h3, h4⟩
        · unfold members
          rw [h3]
          by_cases hf : en.fam < st.next
          · rw [famOf_old hf]; exact ho
          · rw [famOf_new hf]
            rw [Option.getD_some, mem_famN, mem_onlyL]
            have hid : ¬ id < st.next := fun hlt => by
              cases hb : st.h.get id with
              | none => rw [hs.gone id hlt hb] at h1; cases h1
              | some eb => have := hs.fam id eb en hb h1; have := ha.famlt id eb hb; omega
            exact .inr ⟨ho, mem_newOf.2 ⟨h2.resolve_left hid, by omega⟩⟩
        · by_cases hid : id < st.next
          · have hw : id ∉ s.wl := fun hw => h4 id (.inr (mem_dedupN.2 (mem_oldOfT.2 ⟨hw, hid⟩))) en h1 rfl
            have he : s.h.get id = st.h.get id := Classical.byContradiction fun hne => hw (hs.old id hid hne)
            have := ha.own id en (he.symm.trans h1)
            unfold members at this ⊢
            rw [h3]; exact this
          · exact absurd rfl (h4 id (.inl (mem_newOf.2 ⟨h2.resolve_left hid, by omega⟩)) en h1)
      sole := fun id en h => hs.abs.sole id en (trim_some ha hs h).1
      mem := fun f l h => by
        rcases trim_mem (k := k) ha hs f with ⟨_, i, e, he, hf⟩ | ⟨h1, _⟩
        · rw [← hf]; exact hs.abs.famlt i e he
        · rw [h1] at h; exact Nat.lt_of_lt_of_le (ha.mem f l h) hs.next
      famlt := fun id en h => hs.abs.famlt id en (trim_some ha hs h).1
      msk := hs.abs.msk
      n0 := hs.abs.n0
      wl := fun b hb => hs.abs.wl b (trim_wl.1 hb).1 }
  next := hs.next
  msk := hs.msk
  mem := fun f id h => trim_old_mem ha hs f id h
  wl := fun b hb => trim_wl.2 ⟨hs.wl b hb, (ha.wl b hb).2⟩
  old := fun id hlt h => trim_wl.2 ⟨hs.old id hlt (by rw [trim_get ha hs, if_pos (.inl hlt)] at h; exact h), hlt⟩
  hid := fun id h => by
    have hlt : id < st.next := Classical.byContradiction fun hge => by rw [ha.msk id (by omega)] at h; cases h
    rw [trim_get ha hs, if_pos (.inl hlt)]
    exact hs.hid id h
  fam := fun id en en' h1 h2 => hs.fam id en en' h1 (trim_some ha hs h2).1
  gone := fun id hlt h => by rw [trim_get ha hs, if_pos (.inl hlt)]; exact hs.gone id hlt h
  newfam := fun id en hge h => by
    rcases hs.newfam id en hge (trim_some ha hs h).1 with h1 | ⟨b, eb, h1, h2, h3⟩
    · exact .inl h1
    · exact .inr ⟨b, eb, trim_wl.2 ⟨h1, h2⟩, h2, h3⟩

/-- And a step of the world beside it. -/
theorem trim_stp {base : Nat} {ι ι' : Ren} {w w' : World} (ha : Abs T st) (hs : AStp T st s) (hf : Fresh ι st s) (h : Stp T base st s ι ι' w w') : Stp T base st (trimTo k st s) ι ι' w w' :=
  have a := trim_astp (k := k) ha hs
  { abs := a.abs
    inv := h.inv.less fun id en he => by
      have h1 := see_get he
      have h2 := see_vis he
      rw [see_eq (show hidden s.msk id = false from h2)]
      exact (trim_some ha hs h1).1
    le := h.le
    dom := h.dom
    next := h.next
    msk := h.msk
    mem := a.mem
    wl := a.wl
    old := a.old
    hid := a.hid
    fam := a.fam
    gone := a.gone
    newfam := a.newfam
    newid := fun id c z hge hn hi => by
      rcases h.newid id c z hge hn hi with h1 | ⟨b, z', h1, h2, h3, h4⟩
      · exact .inl h1
      · exact .inr ⟨b, z', trim_wl.2 ⟨h1, h2⟩, h2, h3, fun en he => h4 en (trim_some ha hs he).1⟩
    frame := fun c hc hw => h.frame c hc fun b z hb hι => by
      by_cases hlt : b < st.next
      · exact hw b z (trim_wl.2 ⟨hb, hlt⟩) hι
      · have hn : ι b = none := hf b (by omega) (h.abs.wl b hb).2
        rcases h.newid b c z (by omega) hn hι with h1 | ⟨b', z', h1, h2, h3, _⟩
        · omega
        · exact hw b' z' (trim_wl.2 ⟨h1, h2⟩) (h.le _ _ h3)
    os := h.os
    tape := h.tape
    output := h.output
    size := h.size }
end
theorem trim_inv {T : Tb} {f : Nat} {st : St} {r : Option (Out × St)} {out : Out} {st' : St} (h : trim T f st r = some (out, st')) : ∃ s, r = some (out, s) ∧ (st' = s ∨ ∃ k, st' = trimTo k st s) := by
  unfold trim at h
  split at h
  · split at h
    · cases h; exact ⟨_, rfl, .inr ⟨_, rfl⟩⟩
    · cases h; exact ⟨_, rfl, .inl rfl⟩
  · cases h
end Go.Proofs.YthdnpikgnmdnnaaGreatDoor.Ev

namespace Go.Proofs.YthdnpikgnmdnnaaGreatDoor.Ev
set_option linter.unusedSimpArgs false
set_option linter.unusedVariables false
set_option linter.unusedSectionVars false
variable [Tok]
open Go.RowKit
set_option linter.unusedSectionVars false

theorem a_markL {T : Tb} {st st' : St} {l : Nat} {was now : Bool} (ha : Abs T st) (h : markL T.n0 l was now st = some st') : AStp T st st' := by
  unfold markL at h
  split at h
  · rename_i t nt k b fam hs
    cases hb : (b == was) with
    | false => rw [hb] at h; cases h
    | true => rw [hb] at h; exact alow ha hs (fun e h => by cases h; exact ⟨rfl, rfl⟩) h
  · cases h

theorem a_dropL {T : Tb} {st st' : St} {l : Nat} (ha : Abs T st) (h : dropL T.n0 l st = some st') : AStp T st st' := by
  unfold dropL at h
  split at h
  · rename_i hs; exact alow (x := none) ha hs (fun e h => by cases h) h
  · cases h

theorem a_dropD {T : Tb} {st st' : St} {l : Nat} (ha : Abs T st) (h : dropD T.n0 l st = some st') : AStp T st st' := by
  unfold dropD at h
  split at h
  · rename_i hs; exact alow (x := none) ha hs (fun e h => by cases h) h
  · cases h

theorem roundA_inv {T : Tb} {code : Code → Nat → Fr → St → Option (Out × St)} {l : Nat} {args : List Value} {st : St} {r : Out × St} (h : roundA T code l args st = some r) :
    ∃ t nt k fam ps a c t' fr st1 st2 fr3 st3 st4, st.see l = some ⟨.loop t nt k false, fam⟩ ∧ T.lp k = some (ps, (a, c)) ∧ putArgs nt ps args t = some t' ∧ code a nt ⟨t', []⟩ st = some (.norm fr, st1) ∧
      markL T.n0 l false true st1 = some st2 ∧ code c nt fr st2 = some (.norm fr3, st3) ∧ markL T.n0 l true false st3 = some st4 ∧ r = (.val (.bool true), st4) := by
  unfold roundA at h
  split at h
  · rename_i h1
    split at h
    · rename_i h2
      split at h
      · rename_i h3
        split at h
        · rename_i h4
          split at h
          · rename_i h5
            split at h
            · rename_i h6
              split at h
              · rename_i h7
                cases h
                exact ⟨_, _, _, _, _, _, _, _, _, _, _, _, _, _, h1, h2, h3, h4, h5, h6, h7, rfl⟩
              · cases h
            · cases h
          · cases h
        · cases h
      · cases h
    · cases h
  · cases h

theorem a_roundA {T : Tb} {code : Code → Nat → Fr → St → Option (Out × St)} (hcode : ∀ c nt fr st out st', code c nt fr st = some (out, st') → Abs T st → AStp T st st') {l : Nat} {args : List Value} {st st' : St} {out : Out} (ha : Abs T st)
    (h : roundA T code l args st = some (out, st')) : AStp T st st' := by
  obtain ⟨t, nt, k, fam, ps, a, c, t', fr, st1, st2, fr3, st3, st4, h1, h2, h3, h4, h5, h6, h7, h8⟩ := roundA_inv h
  cases h8
  have a1 := hcode _ _ _ _ _ _ h4 ha
  have a2 := a_markL a1.abs h5
  have a3 := hcode _ _ _ _ _ _ h6 a2.abs
  have a4 := a_markL a3.abs h7
  exact ((a1.trans a2 ha).trans a3 ha).trans a4 ha

theorem rangeFn_inv {T : Tb} {call : Nat → List Value → St → Option (Out × St)} {g : Operand} {a c : Code} {nt : Nat} {fr : Fr} {st : St} {r : Out × St} (h : rangeFn T call g a c nt fr st = some r) :
    ∃ f first cap fn v s1 s2, calmC a = true ∧ calmC c = true ∧ operand T.n0 fr.t g = some (.func (.func f) first cap) ∧ T.fn.get f = some fn ∧ fn.body.isSome = true ∧ f < UNK ∧
      call f (first.toList ++ (.func (.yield (st.next + 1)) #[] #[] :: cap.toList)) ((st.new .dfr).2.new (.loop fr.t nt (keyOf c) false)).2 = some (.val v, s1) ∧ dropL T.n0 (st.next + 1) s1 = some s2 ∧
      r = (.norm ⟨fr.t, (UNK + st.next, []) :: fr.ds⟩, s2) := by
  unfold rangeFn at h
  cases hc : (calmC a && calmC c) with
  | false => rw [hc] at h; cases h
  | true =>
    rw [hc] at h
    rw [Bool.and_eq_true] at hc
    simp only [cond_true] at h
    split at h
    · rename_i hop
      split at h
      · rename_i fn hfn
        cases hb : (fn.body.isSome && Nat.blt _ UNK) with
        | false => rw [hb] at h; cases h
        | true =>
          rw [hb] at h
          rw [Bool.and_eq_true] at hb
          simp only [cond_true] at h
          unfold rangeFn.rangeOn at h
          split at h
          · rename_i hco
            split at h
            · rename_i hd
              cases h
              exact ⟨_, _, _, _, _, _, _, hc.1, hc.2, hop, hfn, hb.1, Nat.le_of_ble_eq_true hb.2, hco, hd, rfl⟩
            · cases h
          · cases h
      · cases h
    · cases h

theorem a_rangeFn {T : Tb} {call : Nat → List Value → St → Option (Out × St)} (hac : ACall T call) {g : Operand} {a c : Code} {nt : Nat} {fr : Fr} {st st' : St} {out : Out} (ha : Abs T st) (h : rangeFn T call g a c nt fr st = some (out, st')) : AStp T st st' := by
  obtain ⟨f, first, cap, fn, v, s1, s2, _, _, _, _, _, _, hco, hd, h8⟩ := rangeFn_inv h
  cases h8
  have a1 := anew ha .dfr
  have a2 := anew a1.abs (.loop fr.t nt (keyOf c) false)
  have a3 := hac _ _ _ _ _ hco a2.abs
  have a4 := a_dropL a3.abs hd
  exact ((a1.trans a2 ha).trans a3 ha).trans a4 ha

theorem a_leave {T : Tb} {dcall : Nat → List Value → Option Value → St → Option (Out × St)} (hd : ∀ f args u st out st', dcall f args u st = some (out, st') → Abs T st → AStp T st st') {fn : Func} {t : Tr Value} :
    ∀ {ds : List (Nat × List Value)} {u : Option Value} {st st' : St} {out : Out}, Abs T st → exec.leave T dcall fn t ds u st = some (out, st') → AStp T st st'
  | [], u, st, st', out, ha, h => by
    cases u with
    | none =>
      unfold exec.leave at h
      split at h <;> cases h
      exact .refl ha
    | some v =>
      unfold exec.leave at h
      cases h; exact .refl ha
  | (f, args) :: ds, u, st, st', out, ha, h => by
    unfold exec.leave at h
    cases hb : Nat.ble UNK f with
    | true =>
      rw [hb] at h
      simp only [cond_true] at h
      split at h
      · rename_i hdd
        have h1 := a_dropD ha hdd
        exact h1.trans (a_leave hd h1.abs h) ha
      · cases h
    | false =>
      rw [hb] at h
      simp only [cond_false] at h
      split at h
      · rename_i hdc
        have h1 := hd _ _ _ _ _ _ hdc ha
        exact h1.trans (a_leave hd h1.abs h) ha
      · cases h

/-- The calls that the table answers. -/
noncomputable def orcC (T : Tb) (f : Nat) (args : List Value) (st : St) : Option (Out × St) := match T.orc f args st with
  | some (v, s) => some (.val v, s)
  | none => none
noncomputable def OrcA (T : Tb) : Prop := ACall T (orcC T)

theorem a_exec (T : Tb) (hO : OrcA T) : ∀ (n : Nat) (job : Job) (st : St) (out : Out) (st' : St), exec T n job st = some (out, st') → Abs T st → AStp T st st' := by
  intro n
  induction n with
  | zero => intro job st out st' h; unfold exec at h; cases h
  | succ n ih =>
    have hcall : ACall T (fun f args st => exec T n (.call f args) st) := fun f args st out st' h ha => ih _ _ _ _ h ha
    intro job st out st' h ha
    cases job with
    | call f args =>
      unfold exec at h
      cases hbig : Nat.ble UNK f with
      | true =>
        rw [hbig] at h
        simp only [cond_true] at h
        exact a_roundA (fun c nt fr st out st' h ha => ih _ _ _ _ h ha) ha h
      | false =>
      rw [hbig] at h
      simp only [cond_false] at h
      split at h
      · rename_i v s ho
        refine hO f args st out st' ?_ ha
        unfold orcC
        rw [ho]
        exact h
      · split at h
        · split at h <;> cases h
          exact .refl ha
        · split at h
          · rename_i fn _
            split at h
            · rename_i c _
              generalize Nat.ble _ _ = q at h
              cases q with
              | false => cases h
              | true =>
              simp only [cond_true] at h
              obtain ⟨s1, h, hk⟩ := trim_inv h
              have hl := fun (fr : Fr) (u : Option Value) (s : St) (hs : AStp T st s) (h : exec.leave T (fun f args u st => exec T n (.dcall f args u) st) fn fr.t fr.ds u s = some (out, s1)) =>
                hs.trans (a_leave (fun f args u st out st' h ha => ih _ _ _ _ h ha) hs.abs h) ha
              have hm : AStp T st s1 := by
                split at h
                · rename_i hx; exact hl _ _ _ (ih _ _ _ _ hx ha) h
                · rename_i hx; exact hl _ _ _ (ih _ _ _ _ hx ha) h
                · rename_i hx; exact hl _ _ _ (ih _ _ _ _ hx ha) h
                · cases h
              rcases hk with rfl | ⟨k, rfl⟩
              · exact hm
              · exact trim_astp ha hm
            · cases h
          · cases h
    | dcall f args u =>
      unfold exec at h
      split at h
      · rename_i fn _
        split at h
        · rename_i c _
          generalize Nat.ble _ _ = q at h
          cases q with
          | false => cases h
          | true =>
            simp only [cond_true] at h
            split at h
            · rename_i hx
              split at h <;> cases h
              exact ih _ _ _ _ hx ha
            · rename_i hx
              split at h <;> cases h
              exact ih _ _ _ _ hx ha
            · cases h
        · cases h
      · cases h
    | dcode c nt fr u b =>
      have other : ∀ c', (match exec T n (.code c' nt fr) st with
          | some (.norm fr, st) => some (Out.dnorm fr b, st)
          | some (.ret fr, st) => some (.dret fr b, st)
          | some (.exit k fr, st) => some (.dexit k fr b, st)
          | _ => none) = some (out, st') → AStp T st st' := by
        intro c' h
        split at h
        · rename_i hx; cases h; exact ih _ _ _ _ hx ha
        · rename_i hx; cases h; exact ih _ _ _ _ hx ha
        · rename_i hx; cases h; exact ih _ _ _ _ hx ha
        · cases h
      unfold exec at h
      cases c <;> simp only at h <;> (try exact other _ h)
      case skip => cases h; exact .refl ha
      case exit => cases h; exact .refl ha
      case ret => cases h; exact .refl ha
      case region id ops d =>
        cases d with
        | true => exact other _ h
        | false =>
          simp only at h
          cases hr : hasRecover ops.toList with
          | true =>
            rw [hr] at h
            simp only [cond_true] at h
            split at h
            · rename_i hx; cases h; exact a_runOpsD hcall ha hx
            · cases h
          | false =>
            rw [hr] at h
            simp only [cond_false] at h
            split at h
            · rename_i hx; cases h; exact a_runOps hcall ha hx
            · cases h
      case seq x y =>
        split at h
        · rename_i hx
          have h1 := ih _ _ _ _ hx ha
          exact h1.trans (ih _ _ _ _ h h1.abs) ha
        · exact ih _ _ _ _ h ha
      case cond c x y =>
        split at h
        · exact ih _ _ _ _ h ha
        · exact ih _ _ _ _ h ha
        · cases h
      case block id x =>
        split at h
        · rename_i hx
          split at h <;> cases h <;> exact ih _ _ _ _ hx ha
        · exact ih _ _ _ _ h ha
    | code c nt fr =>
      unfold exec at h
      cases c <;> simp only at h <;> (try (cases h; done))
      case skip => cases h; exact .refl ha
      case label => cases h; exact .refl ha
      case exit => cases h; exact .refl ha
      case ret => cases h; exact .refl ha
      case region id ops d =>
        cases d with
        | true =>
          simp only at h
          split at h
          · rename_i hx; cases h; exact a_runDraw hcall ha rfl (fun x hx => by cases hx) hx
          · cases h
        | false =>
          simp only at h
          split at h
          · rename_i hx; cases h; exact a_runOps hcall ha hx
          · rename_i hx; cases h; exact a_runOps hcall ha hx
          · cases h
      case seq x y =>
        split at h
        · rename_i hx
          have h1 := ih _ _ _ _ hx ha
          exact h1.trans (ih _ _ _ _ h h1.abs) ha
        · exact ih _ _ _ _ h ha
      case cond c x y =>
        split at h
        · exact ih _ _ _ _ h ha
        · exact ih _ _ _ _ h ha
        · cases h
      case block id x =>
        split at h
        · rename_i hx
          split at h <;> cases h <;> exact ih _ _ _ _ hx ha
        · exact ih _ _ _ _ h ha
      case loop x =>
        split at h
        · rename_i hx
          have h1 := ih _ _ _ _ hx ha
          exact h1.trans (ih _ _ _ _ h h1.abs) ha
        · exact ih _ _ _ _ h ha
      case rangeFunc g ps x y => exact a_rangeFn hcall ha h

/-- A loop, unrolled by a number that grows less. -/
theorem wpIn_loop_n {F : Fence} {m0 : Nat} {P : Program} {Q : Exit → Act → World → Prop} {c : Code} (I : Nat → Act → World → Prop) {n : Nat} {a : Act} {w : World} (h₀ : I n a w)
    (round : ∀ n a w, I n a w → c.wpIn F m0 P (Exit.then (fun a' w' => ∃ m, m < n ∧ I m a' w') Q) a w) : (Code.loop c).wpIn F m0 P Q a w := by
  intro b k cs hro hb hr
  have key : ∀ n a w, I n a w →
      ∃ e a' w', Q e a' w' ∧ ArrivesIn (Machine.fenced P F) P (lone (b.atR a (.code c :: .inLoop c :: k)) cs w) b k cs e a' w' := by
    intro n
    induction n using Nat.strongRecOn with
    | _ n ih =>
      intro a w hI
      obtain ⟨e, a₁, w₁, hq, harr⟩ := round n a w hI b (.inLoop c :: k) cs hro hb hr
      cases e with
      | normal =>
        obtain ⟨m, hlt, hI₁⟩ := hq
        obtain ⟨e₂, a₂, w₂, hq₂, harr₂⟩ := ih m hlt a₁ w₁ hI₁
        exact ⟨e₂, a₂, w₂, hq₂, .of_steps (StepsIn.trans harr (.one (fenced_calm hb hr rfl) stepR_inLoop)) harr₂⟩
      | exit id => exact ⟨_, a₁, w₁, hq, .pass (x := .inLoop c) rfl (fun _ _ => .inl (by simp)) harr⟩
      | goto l => exact ⟨_, a₁, w₁, hq, .pass (x := .inLoop c) rfl (fun _ _ => .inl (by simp)) harr⟩
      | ret => exact ⟨_, a₁, w₁, hq, .pass (x := .inLoop c) rfl (fun _ _ => .inl (by simp)) harr⟩
      | panic ch => exact ⟨_, a₁, w₁, hq, .pass (x := .inLoop c) rfl (fun _ _ => .inl (by simp)) harr⟩
      | outgrown => exact ⟨_, a₁, w₁, hq, .pass (x := .inLoop c) rfl (fun _ _ => .inl (by simp)) harr⟩
  obtain ⟨e, a', w', hq, harr⟩ := key n a w h₀
  exact ⟨e, a', w', hq, .of_steps (.one (fenced_calm hb hr rfl) stepR_loop) harr⟩

end Go.Proofs.YthdnpikgnmdnnaaGreatDoor.Ev

namespace Go.Proofs.YthdnpikgnmdnnaaGreatDoor.Ev
set_option linter.unusedSimpArgs false
set_option linter.unusedVariables false
set_option linter.unusedSectionVars false
variable [Tok]
open Go.RowKit
set_option linter.unusedSectionVars false

theorem Fresh.left {ι : Ren} {a b c : St} (h : Fresh ι a c) (hb : b.next ≤ c.next) : Fresh ι a b := fun id h1 h2 => h id h1 (Nat.lt_of_lt_of_le h2 hb)

theorem Fresh.right {T : Tb} {base : Nat} {ι ι' : Ren} {a b c : St} {w w' : World} (h : Fresh ι a c) (s : Stp T base a b ι ι' w w') : Fresh ι' b c := fun id h1 h2 => by
  by_cases e : ι' id = ι id
  · rw [e]; exact h id (Nat.le_trans s.next h1) h2
  · have := s.dom id e; omega

section
variable {P : Program} {T : Tb} {base : Nat} {E : World → Prop} (X : Ctx P T base E)
include X

theorem Ctx.keepS {st st' : St} {ι ι' : Ren} {w w' : World} (s : Stp T base st st' ι ι' w w') (hb : base ≤ w.heap.size) (hE : E w) : E w' := X.keep w w' hE (s.below hb)

/-- A row of operations in the text's order. -/
theorem ops_ok {ro : Option Nat} {call : Nat → List Value → St → Option (Out × St)} (hcall : CallOk P T base E call) (hac : ACall T call) {ops : Array Oper} {nt : Nat} : ∀ {l : List Oper} {k : Nat}, ops.toList.drop k = l →
    ∀ {fr fr' : Fr} {p : Option Value} {st st' : St}, runOps T call ops.toList nt l fr st = some ((fr', p), st') →
    (∀ o ∈ l, Calm ro o) → ∀ {ι : Ren} {w : World} {a : Act}, Abs T st → Inv T.n0 base ι st.see w → E w → Fresh ι st st' → FrR ι nt fr a → ∀ {Q : Exit → Act → World → Prop},
    (p = none → ∀ ι' a' w', Stp T base st st' ι ι' w w' → FrR ι' nt fr' a' → Q .normal a' w') →
    (∀ v, p = some v → ∀ ι' a' w' v', Stp T base st st' ι ι' w w' → Rv ι' v v' → FrR ι' nt fr' a' → Q (.panic [{ v := v', recovered := false }]) a' w') →
    wpOpsIn (FW ro) 0 P ops Q (List.range' k l.length) a w
  | [], k, hk, fr, fr', p, st, st', h, hcm, ι, w, a, ha, hi, hE, hf, hr, Q, hK, hQ => by
    cases h
    show Q .normal a w
    exact hK rfl ι a w (.refl ha hi) hr
  | o :: r, k, hk, fr, fr', p, st, st', h, hcm, ι, w, a, ha, hi, hE, hf, hr, Q, hK, hQ => by
    have ho : ops[k]? = some o := by
      rw [← Array.getElem?_toList, ← Nat.add_zero k, ← List.getElem?_drop, hk]; rfl
    have hk' : ops.toList.drop (k + 1) = r := by
      rw [← List.drop_drop, hk]; rfl
    rw [List.length_cons, List.range'_succ, wpOpsIn_cons]
    unfold wpOpIn
    rw [ho]
    simp only
    unfold runOps at h
    have key : ∀ {fr1 : Fr} {p1 : Option Value} {st1 : St}, runOp T call ops.toList nt o fr st = some ((fr1, p1), st1) → st1.next ≤ st'.next →
        (p1 = none → runOps T call ops.toList nt r fr1 st1 = some ((fr', p), st')) → (∀ v, p1 = some v → p = some v ∧ fr' = fr1 ∧ st' = st1) →
        if Region.wanted o (yielded ops a.tmps) then Good call P (wpOpsIn (FW ro) 0 P ops Q (List.range' (k + 1) r.length)) Q o.dst a ((execOp a.eval o).run P w) else wpOpsIn (FW ro) 0 P ops Q (List.range' (k + 1) r.length) (a.put o.dst undef) w := by
      intro fr1 p1 st1 ho1 hn hrest hpan
      refine op_ok X hcall ho1 ha hi hE (hf.left hn) hr ?_ ?_
      · intro hp ι' a' w' hs hr'
        refine ops_ok hcall hac hk' (hrest hp) (fun o ho => hcm o (List.mem_cons_of_mem _ ho)) hs.abs hs.inv (X.keepS hs hi.size hE) (hf.right hs) hr' ?_ ?_
        · exact fun hp ι2 a2 w2 hs2 hr2 => hK hp ι2 a2 w2 (hs.trans hs2 ha hf) hr2
        · exact fun v hp ι2 a2 w2 v' hs2 hv hr2 => hQ v hp ι2 a2 w2 v' (hs.trans hs2 ha hf) hv hr2
      · intro v hp ι' w' v' hs hv hr'
        obtain ⟨h1, h2, h3⟩ := hpan v hp
        subst h2; subst h3
        exact hQ v h1 ι' a w' v' hs hv hr'
    have fin : ∀ {p : Prop} [Decidable p] {x x' y : Prop} {z : FuncId → Prop}, (x → x') → (if p then x else y) → (if p then x' else (∀ f, z f → True) ∧ y) := by
      intro p _ x x' y z hxx h
      by_cases hp : p
      · rw [if_pos hp] at h ⊢; exact hxx h
      · rw [if_neg hp] at h ⊢; exact ⟨fun _ _ => trivial, h⟩
    refine fin (Good.wpIn (call := call) (hcm o (List.mem_cons_self ..))) ?_
    cases ho1 : runOp T call ops.toList nt o fr st with
    | none => rw [ho1] at h; cases h
    | some g =>
      obtain ⟨⟨fr1, p1⟩, st1⟩ := g
      rw [ho1] at h
      have a1 : AStp T st st1 := a_runOp hac ha ho1
      cases p1 with
      | none =>
        have h : runOps T call ops.toList nt r fr1 st1 = some ((fr', p), st') := h
        have a2 : AStp T st1 st' := a_runOps hac a1.abs h
        exact key ho1 a2.next (fun _ => h) (fun v hv => by cases hv)
      | some v =>
        have h : some ((fr1, some v), st1) = some ((fr', p), st') := h
        cases h
        exact key ho1 (Nat.le_refl _) (fun hv => by cases hv) (fun u hu => by cases hu; exact ⟨rfl, rfl, rfl⟩)

end
end Go.Proofs.YthdnpikgnmdnnaaGreatDoor.Ev
