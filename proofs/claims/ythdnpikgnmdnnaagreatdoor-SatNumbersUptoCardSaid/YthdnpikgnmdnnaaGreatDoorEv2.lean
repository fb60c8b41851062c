/- An evaluator of calls over abstract memory, and that what it answers is what a call answers. Part 2. -/
import Derived.Test.YthdnpikgnmdnnaaGreatDoorEv1
import Derived.IntWalk
import Derived.Lib.UnsafeStr
namespace Go.Proofs.YthdnpikgnmdnnaaGreatDoor.Ev
set_option linter.unusedSimpArgs false
set_option linter.unusedVariables false
set_option linter.unusedSectionVars false
variable [Tok]
open Go.RowKit
set_option linter.unusedSectionVars false

theorem size_list (s : ByteArray) : s.size = s.data.toList.length := (Array.length_toList (xs := s.data)).symm

theorem bytes_ext {a b : ByteArray} (h : a.data.toList = b.data.toList) : a = b := by
  cases a with | mk a => cases b with | mk b => cases a; cases b; simp at h; rw [h]

section
variable {P : Program} {T : Tb} (hT : TbOk P T) (hC : CmpOk P T) {ι : Ren} (w : World)
include hT hC

theorem strOp_ok {op : BinOp} {x y : ByteArray} {v : Value} (h : strOp op x.data.toList y.data.toList = some v) : (Op.stringOp op x y).run P w = .ok v w := by
  cases op <;> simp only [strOp] at h <;> (try cases h) <;> (try (simp [Op.stringOp, beqL_ok, ltL_ok, ByteArray.toList_eq]; done))
  cases hb : Nat.ble (x.data.toList.length + y.data.toList.length) 9223372036854775807 with
  | false => rw [hb] at h; cases h
  | true =>
    rw [hb] at h; cases h
    have := Nat.le_of_ble_eq_true hb
    rw [← size_list, ← size_list] at this
    have hn : ¬ ((x.size + y.size : Nat) : Int) > IntKind.i64.max := by
      have : IntKind.i64.max = 9223372036854775807 := rfl
      omega
    simp only [Op.stringOp]
    rw [if_neg hn]
    simp only [Sem.run_pure]
    congr 2

theorem intOp_ok {op : BinOp} {k : IntKind} {a b : Int} {v : Value} {t : TypeId} (h : intOp op k a b = some v) : (binOp op t (.int k a) (.int k b)).run P w = .ok v w := by
  cases op <;> simp only [intOp] at h <;> (try cases h) <;> (try (simp [binOp, Op.intArith, Op.intBits, Op.intCmp]; done))
  all_goals
    by_cases hb : b = 0
    · simp [hb] at h
    · simp only [hb, if_false] at h
      cases h
      simp [binOp, Op.intDiv, hb]

/-- No test for two nil values stands in the way. -/
theorem guardV_ok {op : BinOp} {x y : Operand} {t : TypeId} {a b a' b' : Value} (ha : Rv ι a a') (hb : Rv ι b b') (h : guardV T (isLit x || isLit y) t a b = true) :
    (eqGuard op t x y a' b').run P w = .ok () w := by
  by_cases hop : op = .eql ∨ op = .neq
  · cases ha <;> cases hb <;> (try (cases h; done)) <;> (try (rcases hop with rfl | rfl <;> simp [eqGuard]; done))
    · -- two nil values
      cases hl : isLit x || isLit y with
      | true =>
        rcases hop with rfl | rfl <;> cases x <;> cases y <;> first | (simp [isLit] at hl; done) | simp [eqGuard]
      | false =>
        simp only [guardV, hl, Bool.false_or] at h
        cases hu : T.und t with
        | none => rw [hu] at h; cases h
        | some d =>
          rw [hu] at h
          cases d with
          | interface ms =>
            have hm : ms.toList.isEmpty = true := h
            have hm : ms.isEmpty = true := by simpa using hm
            have hu' := run_und hT hu
            have hg : ∀ d, (Op.eqGuardIn (d + 1) t .nilIface .nilIface).run P w = .ok false w := by
              intro d
              simp [Op.eqGuardIn, hu', hm]
            have hg : (Op.eqGuardIn Op.maxDepth t .nilIface .nilIface).run P w = .ok false w := hg 9999
            rcases hop with rfl | rfl <;> cases x <;> cases y <;> first | (simp [isLit] at hl; done) | (unfold eqGuard; simp; rw [hg]; rfl)
          | _ => cases h
    · simp only [guardV] at h
      cases hk : T.cmp.get t with
      | none => rw [hk] at h; cases h
      | some u => exact run_eqGuard_agg w op t x y _ _ (hC t u hk).2.1
  · cases op <;> first | (exact absurd (.inl rfl) hop) | (exact absurd (.inr rfl) hop) | simp [eqGuard]

theorem eq_ok {op : BinOp} {t : TypeId} {x y x' y' : Value} {b : Bool} (hx : Rv ι x x') (hy : Rv ι y y') (h : eqV T 40 t x y = some b) : (Op.equal t x' y').run P w = .ok b w :=
  eqV_ok hT hC w 40 10000 t x y x' y' b (by omega) hx hy h

theorem eqlOp {t : TypeId} {a b a' b' : Value} (ha : Rv ι a a') (hb : Rv ι b b') (hi : ∀ k i k' j, ¬ (a = .int k i ∧ b = .int k' j)) (hs : ∀ s r, ¬ (a = .string s ∧ b = .string r)) (hf : ∀ k n, ¬ a = .float k n) (hg : ∀ k n, ¬ b = .float k n) :
    binOp .eql t a' b' = (do pure (.bool (← Op.equal t a' b')) : Sem Value) ∧ binOp .neq t a' b' = (do pure (.bool (!(← Op.equal t a' b'))) : Sem Value) := by
  cases ha <;> (first | exact absurd rfl (hf _ _) | skip) <;> cases hb <;> first | exact absurd rfl (hg _ _) | exact absurd ⟨rfl, rfl⟩ (hi _ _ _ _) | exact absurd ⟨rfl, rfl⟩ (hs _ _) | exact ⟨rfl, rfl⟩

theorem binV_ok {op : BinOp} {x y : Operand} {t : TypeId} {a b a' b' v : Value} (ha : Rv ι a a') (hb : Rv ι b b') (h : binV T op (isLit x || isLit y) t a b = some v) :
    ∃ v', (do eqGuard op t x y a' b'; binOp op t a' b' : Sem Value).run P w = .ok v' w ∧ Rv ι v v' := by
  unfold binV at h
  split at h
  · -- whole numbers
    rename_i k i k' j
    have hg := guardV_ok hT hC w (op := op) (x := x) (y := y) (t := t) ha hb rfl
    cases ha; cases hb
    rw [Sem.run_bind, hg, Result.andThen_ok]
    split at h
    · by_cases hn : j < 0
      · simp [hn] at h
      · simp only [hn, if_false] at h; cases h
        exact ⟨_, by simp [binOp, Op.shift, hn], .int _ _⟩
    · by_cases hn : j < 0
      · simp [hn] at h
      · simp only [hn, if_false] at h; cases h
        exact ⟨_, by simp [binOp, Op.shift, hn], .int _ _⟩
    · by_cases hk : k = k'
      · subst hk
        simp only [if_true] at h
        refine ⟨v, intOp_ok hT hC w h, ?_⟩
        cases op <;> simp only [intOp] at h <;> (try cases h) <;> (try (first | exact .int _ _ | exact .bool _))
        all_goals
          by_cases hb : j = 0
          · simp [hb] at h
          · simp only [hb, if_false] at h; cases h; exact .int _ _
      · simp [hk] at h
  · rename_i s r
    have hg := guardV_ok hT hC w (op := op) (x := x) (y := y) (t := t) ha hb rfl
    cases ha; cases hb
    rw [Sem.run_bind, hg, Result.andThen_ok]
    refine ⟨v, ?_, ?_⟩
    · have := strOp_ok hT hC w h
      cases op <;> first | exact this | (simp [strOp] at h; done)
    · cases op <;> simp only [strOp] at h <;> (try cases h) <;> (try (first | exact .string _ | exact .bool _))
      cases hb : Nat.ble (s.data.toList.length + r.data.toList.length) 9223372036854775807 with
      | false => rw [hb] at h; cases h
      | true => rw [hb] at h; cases h; exact .string _
  · cases h
  · cases h
  · cases h
  · rename_i h1 h2 h3 h4 h5
    obtain ⟨e1, e2⟩ := eqlOp hT hC (t := t) ha hb (fun k i k' j ⟨x, y⟩ => h4 k i k' j x y) (fun s r ⟨x, y⟩ => h5 s r x y) (fun k n e => h1 k n e) (fun k n e => h3 k n e)
    split at h
    · cases hgd : guardV T (isLit x || isLit y) t a b with
      | false => rw [hgd] at h; cases h
      | true =>
        rw [hgd] at h
        simp only [cond_true] at h
        have hg := guardV_ok hT hC w (op := .eql) (x := x) (y := y) (t := t) ha hb hgd
        cases he : eqV T 40 t a b with
        | none => rw [he] at h; cases h
        | some q =>
          rw [he] at h; cases h
          have := eq_ok hT hC w (op := .eql) ha hb he
          exact ⟨_, by rw [Sem.run_bind, hg, Result.andThen_ok, e1]; simp [this], .bool _⟩
    · cases hgd : guardV T (isLit x || isLit y) t a b with
      | false => rw [hgd] at h; cases h
      | true =>
        rw [hgd] at h
        simp only [cond_true] at h
        have hg := guardV_ok hT hC w (op := .neq) (x := x) (y := y) (t := t) ha hb hgd
        cases he : eqV T 40 t a b with
        | none => rw [he] at h; cases h
        | some q =>
          rw [he] at h; cases h
          have := eq_ok hT hC w (op := .neq) ha hb he
          exact ⟨_, by rw [Sem.run_bind, hg, Result.andThen_ok, e2]; simp [this], .bool _⟩
    · cases h

end
end Go.Proofs.YthdnpikgnmdnnaaGreatDoor.Ev

namespace Go.Proofs.YthdnpikgnmdnnaaGreatDoor.Ev
set_option linter.unusedSimpArgs false
set_option linter.unusedVariables false
set_option linter.unusedSectionVars false
variable [Tok]
open Go.RowKit
set_option linter.unusedSectionVars false

theorem natOf_inv {v : Value} {n : Nat} (h : natOf v = some n) : ∃ k, v = .int k (n : Int) := by
  cases v <;> simp only [natOf] at h <;> (try cases h)
  rename_i k i
  cases i with
  | ofNat m => cases h; exact ⟨k, rfl⟩
  | negSucc m => cases h

theorem rv_int_inv {ι : Ren} {k : IntKind} {n : Int} {v : Value} (h : Rv ι (.int k n) v) : v = .int k n := by cases h; rfl

/-- Operands that may be missing. -/
noncomputable def OptR (ι : Ren) : Option Value → Option Value → Prop
  | none, none => True
  | some a, some b => Rv ι a b
  | _, _ => False

theorem bound_inv {ι : Ren} {o o' : Option Value} {d n : Nat} (hr : OptR ι o o') (h : bound o d = some n) : (o = none ∧ o' = none ∧ n = d) ∨ ∃ k v, o = some v ∧ o' = some (.int k (n : Int)) := by
  cases o with
  | none => cases o' with
    | none => simp only [bound] at h; cases h; exact .inl ⟨rfl, rfl, rfl⟩
    | some x => exact hr.elim
  | some v => cases o' with
    | none => exact hr.elim
    | some x =>
      simp only [bound] at h
      obtain ⟨k, rfl⟩ := natOf_inv h
      have : Rv ι (.int k (n : Int)) x := hr
      exact .inr ⟨k, _, rfl, by rw [rv_int_inv this]⟩

section
variable {P : Program} {T : Tb} (hT : TbOk P T) {ι : Ren} (w : World)
include hT

theorem run_bound1 (k : IntKind) (i y : Nat) (h : i ≤ y) (code : BoundsCode) : (Instr.sliceBound (.int k (i : Int)) y code).run P w = .ok i w := by
  have h1 : (0 : Int) ≤ (i : Int) ∧ (i : Int) ≤ (y : Int) := ⟨by omega, by omega⟩
  simp [Instr.sliceBound, asIntOf, h]

theorem run_bounds (b : Bool) (len cap l h m : Nat) (lo hi mx : Option Value)
    (hm : (mx = none ∧ m = cap) ∨ ∃ k, mx = some (.int k (m : Int)) ∧ m ≤ cap)
    (hh : (hi = none ∧ mx = none ∧ h = len) ∨ ∃ k, hi = some (.int k (h : Int)) ∧ h ≤ m)
    (hl : (lo = none ∧ l = 0) ∨ ∃ k, lo = some (.int k (l : Int)) ∧ l ≤ h) :
    (Instr.sliceBounds b len cap lo hi mx).run P w = .ok (l, h, m) w := by
  rcases hm with ⟨rfl, rfl⟩ | ⟨km, rfl, hm⟩ <;> rcases hh with ⟨rfl, h2, rfl⟩ | ⟨kh, rfl, hh⟩ <;> rcases hl with ⟨rfl, rfl⟩ | ⟨kl, rfl, hl⟩ <;>
    first
    | (cases h2; done)
    | simp [Instr.sliceBounds, run_bound1 hT, *]

theorem ble_and {a b : Bool} (h : (a && b) = true) : a = true ∧ b = true := by simpa using h

theorem sliceStr_ok {s : ByteArray} {lo hi lo' hi' : Option Value} {v : Value} {ty : TypeId} (hu : T.und ty = some .string) (h1 : OptR ι lo lo') (h2 : OptR ι hi hi') (h : sliceStr s.data.toList lo hi = some v) :
    (Instr.sliceAt ty (.string s) lo' hi' none).run P w = .ok v w ∧ Rv ι v v := by
  simp only [sliceStr] at h
  cases hb1 : bound lo 0 with
  | none => rw [hb1] at h; cases h
  | some a =>
    cases hb2 : bound hi s.data.toList.length with
    | none => rw [hb1, hb2] at h; cases h
    | some b =>
      rw [hb1, hb2] at h
      simp only at h
      cases hc : Nat.ble a b && Nat.ble b s.data.toList.length with
      | false => rw [hc] at h; cases h
      | true =>
        rw [hc] at h; cases h
        obtain ⟨c1, c2⟩ := ble_and hT hc
        have c1 := Nat.le_of_ble_eq_true c1
        have c2 := Nat.le_of_ble_eq_true c2
        have hs := size_list s
        have hrun := run_bounds (P := P) hT w false s.size s.size a b s.size lo' hi' none (.inl ⟨rfl, rfl⟩)
          (by rcases bound_inv h2 hb2 with ⟨_, rfl, rfl⟩ | ⟨k, _, _, rfl⟩
              · exact .inl ⟨rfl, rfl, hs.symm⟩
              · exact .inr ⟨k, rfl, by omega⟩)
          (by rcases bound_inv h1 hb1 with ⟨_, rfl, rfl⟩ | ⟨k, _, _, rfl⟩
              · exact .inl ⟨rfl, rfl⟩
              · exact .inr ⟨k, rfl, c1⟩)
        refine ⟨?_, .string _⟩
        simp only [Instr.sliceAt, Instr.slice, Sem.run_bind, run_und hT hu, Result.andThen_ok, hrun]
        simp only [Option.isSome_none, Bool.false_eq_true, if_false]
        simp [hrun]
        apply bytes_ext
        simp [subL, List.take_drop]


theorem sliceKnown_ok {ty e : TypeId} {n : Nat} (hu : T.und ty = some (.slice e)) (hs : T.size e = some n) {b o c sz len cap : Nat} (hι : ι b = some (c, sz)) (hcap : cap < UNK) {lo hi mx lo' hi' mx' : Option Value} {v : Value}
    (h1 : OptR ι lo lo') (h2 : OptR ι hi hi') (h3 : OptR ι mx mx') (hmh : mx.isSome = true → hi.isSome = true) (h : sliceKnown n ⟨b, o, none⟩ len cap lo hi mx = some v) :
    ∃ v', (Instr.sliceAt ty (.slice (some ⟨c, o, none⟩) len cap) lo' hi' mx').run P w = .ok v' w ∧ Rv ι v v' := by
  simp only [sliceKnown] at h
  cases hb1 : bound lo 0 with
  | none => rw [hb1] at h; cases h
  | some l =>
    cases hb2 : bound hi len with
    | none => rw [hb1, hb2] at h; cases h
    | some hh =>
      cases hb3 : bound mx cap with
      | none => rw [hb1, hb2, hb3] at h; cases h
      | some m =>
        rw [hb1, hb2, hb3] at h
        simp only at h
        cases hc : Nat.ble l hh && (Nat.ble hh m && Nat.ble m cap) with
        | false => rw [hc] at h; cases h
        | true =>
          rw [hc] at h; cases h
          obtain ⟨c1, c2⟩ := ble_and hT hc
          obtain ⟨c2, c3⟩ := ble_and hT c2
          have c1 := Nat.le_of_ble_eq_true c1
          have c2 := Nat.le_of_ble_eq_true c2
          have c3 := Nat.le_of_ble_eq_true c3
          have hrun := run_bounds (P := P) hT w true len cap l hh m lo' hi' mx'
            (by rcases bound_inv h3 hb3 with ⟨_, rfl, rfl⟩ | ⟨k, _, _, rfl⟩
                · exact .inl ⟨rfl, rfl⟩
                · exact .inr ⟨k, rfl, c3⟩)
            (by rcases bound_inv h2 hb2 with ⟨rfl, rfl, rfl⟩ | ⟨k, _, _, rfl⟩
                · refine .inl ⟨rfl, ?_, rfl⟩
                  cases mx with
                  | none => cases mx' with
                    | none => rfl
                    | some x => exact h3.elim
                  | some x => exact absurd (hmh rfl) (by simp)
                · exact .inr ⟨k, rfl, c2⟩)
            (by rcases bound_inv h1 hb1 with ⟨_, rfl, rfl⟩ | ⟨k, _, _, rfl⟩
                · exact .inl ⟨rfl, rfl⟩
                · exact .inr ⟨k, rfl, c1⟩)
          refine ⟨.slice (if m = l then some ⟨c, o, none⟩ else some ⟨c, o + l * n, none⟩) (hh - l) (m - l), ?_, ?_⟩
          · simp [Instr.sliceAt, Instr.slice, run_und hT hu, hrun, run_size hT hs, addr_add]
          · cases hml : Nat.beq m l with
            | true => rw [if_pos (Nat.eq_of_beq_eq_true hml)]; exact .slice hι (by omega)
            | false =>
              rw [if_neg (fun e => by rw [e, Nat.beq_refl] at hml; cases hml)]
              exact .slice hι (by omega)

theorem sliceOpen_ok {ty e : TypeId} {n : Nat} (hu : T.und ty = some (.slice e)) (hs : T.size e = some n) {a : Addr} {len u : Nat} {x' : Value} (hx : Rv ι (.slice (some a) len (UNK + u)) x') {lo hi lo' hi' : Option Value} {v : Value}
    (h1 : OptR ι lo lo') (h2 : OptR ι hi hi') (h : sliceOpen n a len u lo hi = some v) :
    ∃ v', (Instr.sliceAt ty x' lo' hi' none).run P w = .ok v' w ∧ Rv ι v v' := by
  simp only [sliceOpen] at h
  cases hb1 : bound lo 0 with
  | none => rw [hb1] at h; cases h
  | some l =>
    cases hb2 : bound hi len with
    | none => rw [hb1, hb2] at h; cases h
    | some hh =>
      rw [hb1, hb2] at h
      simp only at h
      have bnd : ∀ (a' : Addr) (cap : Nat), x' = .slice (some a') len cap → l ≤ hh → hh ≤ len → len ≤ cap →
          (Instr.sliceAt ty x' lo' hi' none).run P w = .ok (.slice (if cap = l then some a' else some (a'.add (l * n))) (hh - l) (cap - l)) w := by
        intro a' cap hx' c1 c2 c3
        subst hx'
        have hrun := run_bounds (P := P) hT w true len cap l hh cap lo' hi' none (.inl ⟨rfl, rfl⟩)
          (by rcases bound_inv h2 hb2 with ⟨rfl, rfl, rfl⟩ | ⟨k, _, _, rfl⟩
              · exact .inl ⟨rfl, rfl, rfl⟩
              · exact .inr ⟨k, rfl, by omega⟩)
          (by rcases bound_inv h1 hb1 with ⟨_, rfl, rfl⟩ | ⟨k, _, _, rfl⟩
              · exact .inl ⟨rfl, rfl⟩
              · exact .inr ⟨k, rfl, c1⟩)
        simp [Instr.sliceAt, Instr.slice, run_und hT hu, hrun, run_size hT hs]
      cases hc : Nat.beq u n && (Nat.ble n 1000000 && (Nat.ble l hh && Nat.ble hh len)) with
      | true =>
        rw [hc] at h
        simp only [cond_true] at h
        obtain ⟨c1, c2⟩ := ble_and hT hc
        obtain ⟨c2, c3⟩ := ble_and hT c2
        obtain ⟨c3, c4⟩ := ble_and hT c3
        have c1 := Nat.eq_of_beq_eq_true c1
        have c2 := Nat.le_of_ble_eq_true c2
        have c3 := Nat.le_of_ble_eq_true c3
        have c4 := Nat.le_of_ble_eq_true c4
        subst c1
        have key : ∃ b o c sz cap, a = ⟨b, o, none⟩ ∧ x' = .slice (some ⟨c, o, none⟩) len cap ∧ ι b = some (c, sz) ∧ len ≤ cap ∧ o + cap * u ≤ sz := by
          generalize hcap : UNK + u = cap0 at hx
          cases hx with
          | slice hb hlt => exact absurd hlt (by rw [← hcap]; omega)
          | sliceU hb hl hsz =>
            rename_i b o c sz cap u'
            have : u' = u := by omega
            subst this
            exact ⟨_, _, _, _, _, rfl, rfl, hb, hl, hsz⟩
          | sliceE => exact absurd hcap (by unfold UNK UNKE; omega)
        obtain ⟨b, o, c, sz, cap, rfl, rfl, hb, hl, hsz⟩ := key
        have hrun := bnd _ cap rfl c3 c4 hl
        rw [addr_add] at hrun
        cases hq : Nat.blt l len || Nat.beq l 0 with
        | true =>
          rw [hq] at h; cases h
          refine ⟨_, hrun, ?_⟩
          by_cases hcl : cap = l
          · have hl0 : l = 0 := by
              rw [Bool.or_eq_true] at hq
              rcases hq with hq | hq
              · have : l < len := Nat.le_of_ble_eq_true hq
                omega
              · exact Nat.eq_of_beq_eq_true hq
            subst hl0
            rw [if_pos hcl]
            simp only [Nat.zero_mul, Nat.add_zero]
            exact .sliceU hb (by omega) (by rw [Nat.sub_zero]; exact hsz)
          · rw [if_neg hcl]
            refine .sliceU hb (by omega) ?_
            show o + l * u + (cap - l) * u ≤ sz
            have : (cap - l) * u + l * u = cap * u := by rw [← Nat.add_mul]; congr 1; omega
            omega
        | false =>
          rw [hq] at h; cases h
          have hll : hh - l = 0 := by
            rw [Bool.or_eq_false_iff] at hq
            have : ¬ l < len := fun hlt => by rw [show Nat.blt l len = true from Nat.ble_eq_true_of_le hlt] at hq; cases hq.1
            omega
          refine ⟨_, hrun, ?_⟩
          rw [hll]
          by_cases hcl : cap = l
          · rw [if_pos hcl]; exact .sliceE
          · rw [if_neg hcl]; exact .sliceE
      | false =>
        rw [hc] at h
        simp only [cond_false] at h
        cases hd : Nat.beq l 0 && (Nat.beq hh 0 && (Nat.beq len 0 && Nat.beq u UNK)) with
        | false => rw [hd] at h; cases h
        | true =>
          rw [hd] at h; cases h
          obtain ⟨c1, c2⟩ := ble_and hT hd
          obtain ⟨c2, c3⟩ := ble_and hT c2
          obtain ⟨c3, c4⟩ := ble_and hT c3
          have c1 := Nat.eq_of_beq_eq_true c1
          have c2 := Nat.eq_of_beq_eq_true c2
          have c3 := Nat.eq_of_beq_eq_true c3
          subst c1; subst c2; subst c3
          have key : ∃ a' cap, x' = .slice (some a') 0 cap := by
            generalize UNK + u = cap0 at hx
            cases hx with
            | slice hb hlt => exact ⟨_, _, rfl⟩
            | sliceU hb hl hsz => exact ⟨_, _, rfl⟩
            | sliceE => exact ⟨_, _, rfl⟩
          obtain ⟨a', cap, rfl⟩ := key
          have hrun := bnd a' cap rfl (Nat.le_refl _) (Nat.le_refl _) (Nat.zero_le _)
          refine ⟨_, hrun, ?_⟩
          by_cases hcl : cap = 0
          · rw [if_pos hcl]; exact .sliceE
          · rw [if_neg hcl]; exact .sliceE

theorem sliceShut_ok {ty e : TypeId} {n : Nat} (hu : T.und ty = some (.slice e)) (hs : T.size e = some n) {a : Addr} {len u : Nat} {x' : Value} (hx : Rv ι (.slice (some a) len (UNK + u)) x') {lo hi lo' hi' : Option Value} {mx mx' : Value} {v : Value}
    (h1 : OptR ι lo lo') (h2 : OptR ι hi hi') (h3 : Rv ι mx mx') (hhi : hi.isSome = true) (h : sliceShut n a len lo hi mx = some v) :
    ∃ v', (Instr.sliceAt ty x' lo' hi' (some mx')).run P w = .ok v' w ∧ Rv ι v v' := by
  simp only [sliceShut] at h
  cases hb1 : bound lo 0 with
  | none => rw [hb1] at h; cases h
  | some l =>
    cases hb2 : bound hi len with
    | none => rw [hb1, hb2] at h; cases h
    | some hh =>
      cases hb3 : natOf mx with
      | none => rw [hb1, hb2, hb3] at h; cases h
      | some m =>
        rw [hb1, hb2, hb3] at h
        simp only at h
        cases hc : Nat.ble l hh && (Nat.ble hh m && (Nat.ble m len && ((Nat.blt l m || (Nat.beq l 0 && Nat.blt 0 len)) && Nat.blt m UNK))) with
        | false => rw [hc] at h; cases h
        | true =>
          rw [hc] at h; cases h
          obtain ⟨c1, c2⟩ := ble_and hT hc
          obtain ⟨c2, c3⟩ := ble_and hT c2
          obtain ⟨c3, c4⟩ := ble_and hT c3
          obtain ⟨c4, c5⟩ := ble_and hT c4
          have c1 := Nat.le_of_ble_eq_true c1
          have c2 := Nat.le_of_ble_eq_true c2
          have c3 := Nat.le_of_ble_eq_true c3
          have c4 : l < m ∨ (l = 0 ∧ 0 < len) := by
            rw [Bool.or_eq_true, Bool.and_eq_true] at c4
            rcases c4 with c4 | ⟨c4, c6⟩
            · exact .inl (Nat.le_of_ble_eq_true c4)
            · exact .inr ⟨Nat.eq_of_beq_eq_true c4, Nat.le_of_ble_eq_true c6⟩
          have c5 : m < UNK := Nat.le_of_ble_eq_true c5
          obtain ⟨k3, rfl⟩ := natOf_inv hb3
          obtain rfl := rv_int_inv h3
          have key : ∃ b o c sz cap, a = ⟨b, o, none⟩ ∧ x' = .slice (some ⟨c, o, none⟩) len cap ∧ ι b = some (c, sz) ∧ len ≤ cap := by
            generalize hcap : UNK + u = cap0 at hx
            cases hx with
            | slice hb hlt => omega
            | sliceU hb hl hsz => exact ⟨_, _, _, _, _, rfl, rfl, hb, hl⟩
            | sliceE => omega
          obtain ⟨b, o, c, sz, cap, rfl, rfl, hb, hl⟩ := key
          have hrun := run_bounds (P := P) hT w true len cap l hh m lo' hi' (some (.int k3 (m : Int))) (.inr ⟨k3, rfl, by omega⟩)
            (by rcases bound_inv h2 hb2 with ⟨rfl, rfl, rfl⟩ | ⟨k, _, _, rfl⟩
                · cases hhi
                · exact .inr ⟨k, rfl, c2⟩)
            (by rcases bound_inv h1 hb1 with ⟨_, rfl, rfl⟩ | ⟨k, _, _, rfl⟩
                · exact .inl ⟨rfl, rfl⟩
                · exact .inr ⟨k, rfl, c1⟩)
          refine ⟨.slice (some ⟨c, o + l * n, none⟩) (hh - l) (m - l), ?_, .slice hb (by omega)⟩
          rcases c4 with c4 | ⟨rfl, -⟩
          · have hml : ¬ m = l := by omega
            simp [Instr.sliceAt, Instr.slice, run_und hT hu, hrun, run_size hT hs, addr_add, hml]
          · simp [Instr.sliceAt, Instr.slice, run_und hT hu, hrun, run_size hT hs, addr_add]

theorem sliceA_ok {ty : TypeId} {x x' v : Value} {lo hi mx lo' hi' mx' : Option Value} (hx : Rv ι x x') (h1 : OptR ι lo lo') (h2 : OptR ι hi hi') (h3 : OptR ι mx mx') (h : sliceA T ty x lo hi mx = some v) :
    ∃ v', (Instr.sliceAt ty x' lo' hi' mx').run P w = .ok v' w ∧ Rv ι v v' := by
  unfold sliceA at h
  cases hu : T.und ty with
  | none => rw [hu] at h; cases h
  | some d =>
    rw [hu] at h
    cases d with
    | string =>
      cases hx <;> simp only at h <;> (try cases h)
      cases mx with
      | some _ => cases h
      | none =>
        cases mx' with
        | some _ => exact h3.elim
        | none => exact ⟨_, sliceStr_ok hT w hu h1 h2 h⟩
    | slice e =>
      simp only at h
      cases hs : T.size e with
      | none => rw [hs] at h; cases h
      | some n =>
        rw [hs] at h
        simp only at h
        generalize hxx : x = x0 at h hx
        cases x0 with
        | slice a len cap =>
          cases a with
          | none =>
            have : len = 0 ∧ cap = 0 ∧ x' = .slice none 0 0 := by cases hx; exact ⟨rfl, rfl, rfl⟩
            obtain ⟨rfl, rfl, rfl⟩ := this
            simp only at h
            cases hmh : sliceA.isSomeMax mx && hi.isNone with
            | true => rw [hmh] at h; cases h
            | false =>
              rw [hmh] at h
              simp only [cond_false] at h
              cases hb1 : bound lo 0 with
              | none => rw [hb1] at h; cases h
              | some l =>
                cases hb2 : bound hi 0 with
                | none => rw [hb1, hb2] at h; cases h
                | some hh =>
                  cases hb3 : bound mx 0 with
                  | none => rw [hb1, hb2, hb3] at h; cases h
                  | some m =>
                    rw [hb1, hb2, hb3] at h
                    simp only at h
                    cases hc : Nat.beq l 0 && (Nat.beq hh 0 && Nat.beq m 0) with
                    | false => rw [hc] at h; cases h
                    | true =>
                      rw [hc] at h; cases h
                      obtain ⟨c1, c2⟩ := ble_and hT hc
                      obtain ⟨c2, c3⟩ := ble_and hT c2
                      obtain rfl := Nat.eq_of_beq_eq_true c1
                      obtain rfl := Nat.eq_of_beq_eq_true c2
                      obtain rfl := Nat.eq_of_beq_eq_true c3
                      have hrun := run_bounds (P := P) hT w true 0 0 0 0 0 lo' hi' mx'
                        (by rcases bound_inv h3 hb3 with ⟨_, rfl, _⟩ | ⟨k, _, _, rfl⟩
                            · exact .inl ⟨rfl, rfl⟩
                            · exact .inr ⟨k, rfl, Nat.le_refl _⟩)
                        (by rcases bound_inv h2 hb2 with ⟨rfl, rfl, _⟩ | ⟨k, _, _, rfl⟩
                            · refine .inl ⟨rfl, ?_, rfl⟩
                              cases mx with
                              | none => cases mx' with
                                | none => rfl
                                | some x => exact h3.elim
                              | some x => cases hmh
                            · exact .inr ⟨k, rfl, Nat.le_refl _⟩)
                        (by rcases bound_inv h1 hb1 with ⟨_, rfl, _⟩ | ⟨k, _, _, rfl⟩
                            · exact .inl ⟨rfl, rfl⟩
                            · exact .inr ⟨k, rfl, Nat.le_refl _⟩)
                      refine ⟨.slice none 0 0, ?_, .nils⟩
                      simp [Instr.sliceAt, Instr.slice, run_und hT hu, hrun, run_size hT hs]
          | some a =>
            simp only at h
            cases hb : Nat.blt cap UNK with
            | true =>
              rw [hb] at h
              simp only [cond_true] at h
              have hlt : cap < UNK := Nat.le_of_ble_eq_true hb
              cases hmh : sliceA.isSomeMax mx && hi.isNone with
              | true => rw [hmh] at h; cases h
              | false =>
                rw [hmh] at h
                simp only [cond_false] at h
                generalize hcc : cap = cap0 at hx
                cases hx with
                | slice hι _ =>
                  subst hcc
                  exact sliceKnown_ok hT w hu hs hι hlt h1 h2 h3 (fun hm => by
                    have hm' : sliceA.isSomeMax mx = true := hm
                    rw [hm', Bool.true_and] at hmh
                    cases hi <;> first | rfl | cases hmh) h
                | sliceU hι hl hz => omega
                | sliceE => exact absurd hlt (by rw [hcc]; unfold UNK UNKE; omega)
            | false =>
              rw [hb] at h
              simp only [cond_false] at h
              have hge : UNK ≤ cap := by
                rcases Nat.lt_or_ge cap UNK with hlt | hge
                · rw [show Nat.blt cap UNK = true from Nat.ble_eq_true_of_le hlt] at hb; cases hb
                · exact hge
              rw [show cap = UNK + (cap - UNK) by omega] at hx
              cases mx with
              | none =>
                cases mx' with
                | some _ => exact h3.elim
                | none => exact sliceOpen_ok hT w hu hs hx h1 h2 h
              | some m =>
                cases mx' with
                | none => exact h3.elim
                | some m' =>
                  simp only at h
                  cases hhi : hi.isNone with
                  | true => rw [hhi] at h; cases h
                  | false =>
                    rw [hhi] at h
                    exact sliceShut_ok hT w hu hs hx h1 h2 h3 (by cases hi <;> first | rfl | cases hhi) h
        | _ => cases h
    | _ => cases h

end
end Go.Proofs.YthdnpikgnmdnnaaGreatDoor.Ev

namespace Go.Proofs.YthdnpikgnmdnnaaGreatDoor.Ev
set_option linter.unusedSimpArgs false
set_option linter.unusedVariables false
set_option linter.unusedSectionVars false
variable [Tok]
open Go.RowKit
set_option linter.unusedSectionVars false

section
variable {P : Program} {T : Tb} (hT : TbOk P T) {ι : Ren} (w : World)
include hT

theorem unV_ok {op : UnOp} {x x' v : Value} (hx : Rv ι x x') (h : unV op x = some v) : (Op.unary op x').run P w = .ok v w ∧ Rv ι v v := by
  cases hx <;> cases op <;> simp only [unV] at h <;> (try cases h) <;> first
    | exact ⟨rfl, .int _ _⟩
    | exact ⟨rfl, .bool _⟩

theorem ifaceA_ok {ty : TypeId} {x x' v : Value} (hx : Rv ι x x') (h : ifaceA T ty x = some v) : ∃ v', (Instr.makeInterface ty x').run P w = .ok v' w ∧ Rv ι v v' := by
  unfold ifaceA at h
  cases hu : T.und ty with
  | none => rw [hu] at h; cases h
  | some d =>
    rw [hu] at h
    have hu' := run_und hT hu
    cases d <;> simp only at h <;> (try cases h) <;> exact ⟨_, by simp [Instr.makeInterface, hu'], .iface hx⟩

theorem fieldAddrA_ok {ty : TypeId} {x x' v : Value} {f : Nat} (hx : Rv ι x x') (h : fieldAddrA T ty x f = some v) : ∃ v', (Instr.fieldAt ty x' f).run P w = .ok v' w ∧ Rv ι v v' := by
  unfold fieldAddrA at h
  cases hu : T.und ty with
  | none => rw [hu] at h; cases h
  | some d =>
    rw [hu] at h
    have hu' := run_und hT hu
    cases d <;> simp only at h <;> (try (cases h; done))
    rename_i fs
    cases hx <;> simp only at h <;> (try (cases h; done))
    rename_i b o c sz hb
    cases hf : fs.toList[f]? with
    | none => rw [hf] at h; cases h
    | some fd =>
      rw [hf] at h
      simp only at h
      cases hs : T.size fd.type with
      | none => rw [hs] at h; cases h
      | some n =>
        rw [hs] at h
        cases n with
        | zero => cases h
        | succ n =>
          cases h
          have hf' : fs[f]? = some fd := by rw [← hf]; simp
          refine ⟨_, ?_, .ptr hb⟩
          simp [Instr.fieldAt, hu', hf', Instr.sureAddr, fieldPlace, run_size hT hs, addr_add]

theorem fieldA_ok {ty : TypeId} {x x' v : Value} {f : Nat} (hx : Rv ι x x') (h : fieldA T ty x f = some v) : ∃ v', (Instr.field ty x' f).run P w = .ok v' w ∧ Rv ι v v' := by
  unfold fieldA at h
  cases hu : T.und ty with
  | none => rw [hu] at h; cases h
  | some d =>
    rw [hu] at h
    have hu' := run_und hT hu
    cases d <;> simp only at h <;> (try (cases h; done))
    rename_i fs
    cases hx <;> simp only at h <;> (try (cases h; done))
    rename_i a a' l g
    cases hf : fs.toList[f]? with
    | none => rw [hf] at h; cases h
    | some fd =>
      rw [hf] at h
      simp only at h
      have hf' : fs[f]? = some fd := by rw [← hf]; simp
      obtain ⟨v', h1, h2⟩ := part_ok hT w (ι := ι) ⟨l, g⟩ h
      exact ⟨v', by simp [Instr.field, hu', hf', asAgg, h1], h2⟩

theorem blt_lt {a b : Nat} (h : Nat.blt a b = true) : a < b := Nat.le_of_ble_eq_true h

theorem indexAddrA_ok {ty : TypeId} {x x' i i' v : Value} (hx : Rv ι x x') (hi : Rv ι i i') (h : indexAddrA T ty x i = some v) : ∃ v', (Instr.indexAt ty x' i').run P w = .ok v' w ∧ Rv ι v v' := by
  unfold indexAddrA at h
  cases hu : T.und ty with
  | none => rw [hu] at h; cases h
  | some d =>
    rw [hu] at h
    have hu' := run_und hT hu
    cases d with
    | slice e =>
      simp only at h
      cases hs : T.size e with
      | none => rw [hs] at h; cases h
      | some n =>
        cases hn : natOf i with
        | none => rw [hs, hn] at h; cases h
        | some k =>
          rw [hs, hn] at h
          obtain ⟨kk, rfl⟩ := natOf_inv hn
          obtain rfl := rv_int_inv hi
          simp only at h
          have key : ∀ (b o c sz len cap cap' : Nat), x' = .slice (some ⟨c, o, none⟩) len cap' → ι b = some (c, sz) → cond (Nat.blt k len) (some (.pointer (some ⟨b, o + k * n, none⟩))) none = some v →
              ∃ v', (Instr.indexAt ty x' (.int kk (k : Int))).run P w = .ok v' w ∧ Rv ι v v' := by
            rintro b o c sz len cap cap' rfl hb h
            cases hlt : Nat.blt k len with
            | false => rw [hlt] at h; cases h
            | true =>
              rw [hlt] at h; cases h
              have := blt_lt hT hlt
              refine ⟨_, ?_, .ptr hb⟩
              simp [Instr.indexAt, asIntOf, hu', run_size hT hs, addr_add, this]
          cases hx with
          | slice hb hc => exact key _ _ _ _ _ 0 _ rfl hb h
          | sliceU hb hc _ => exact key _ _ _ _ _ 0 _ rfl hb h
          | sliceE => have hz : Nat.blt k 0 = false := rfl
                      simp only [hz] at h; cases h
          | _ => cases h
    | array len e =>
      simp only at h
      cases hs : T.size e with
      | none => rw [hs] at h; cases h
      | some n =>
        cases hn : natOf i with
        | none => rw [hs, hn] at h; cases h
        | some k =>
          rw [hs, hn] at h
          obtain ⟨kk, rfl⟩ := natOf_inv hn
          obtain rfl := rv_int_inv hi
          simp only at h
          cases hx with
          | ptr hb =>
            simp only at h
            cases hlt : Nat.blt k len with
            | false => rw [hlt] at h; cases h
            | true =>
              rw [hlt] at h; cases h
              have := blt_lt hT hlt
              refine ⟨_, ?_, .ptr hb⟩
              simp [Instr.indexAt, asIntOf, hu', run_size hT hs, addr_add, this, Instr.sureAddr]
          | _ => cases h
    | _ => cases h

theorem indexA_ok {ty : TypeId} {x x' i i' v : Value} (hx : Rv ι x x') (hi : Rv ι i i') (h : indexA T ty x i = some v) : ∃ v', (Instr.index ty x' i').run P w = .ok v' w ∧ Rv ι v v' := by
  unfold indexA at h
  cases hu : T.und ty with
  | none => rw [hu] at h; cases h
  | some d =>
    rw [hu] at h
    have hu' := run_und hT hu
    cases d with
    | string =>
      simp only at h
      cases hn : natOf i with
      | none => rw [hn] at h; cases h
      | some k =>
        rw [hn] at h
        obtain ⟨kk, rfl⟩ := natOf_inv hn
        obtain rfl := rv_int_inv hi
        simp only at h
        cases hx with
        | string s =>
          simp only at h
          cases hk : s.data.toList[k]? with
          | none => rw [hk] at h; cases h
          | some b =>
            rw [hk] at h; cases h
            refine ⟨_, ?_, .int _ _⟩
            have hlt : k < s.data.toList.length := (List.getElem?_eq_some_iff.1 hk).1
            have hg : s[k]? = some b := by
              have h2 : k < s.size := by rw [size_list]; exact hlt
              rw [getElem?_pos s k h2]
              have := (List.getElem?_eq_some_iff.1 hk).2
              rw [← this]; rfl
            simp [Instr.index, asIntOf, hu', hg]
        | _ => cases h
    | array len e =>
      simp only at h
      cases hs : T.size e with
      | none => rw [hs] at h; cases h
      | some n =>
        cases hn : natOf i with
        | none => rw [hs, hn] at h; cases h
        | some k =>
          rw [hs, hn] at h
          obtain ⟨kk, rfl⟩ := natOf_inv hn
          obtain rfl := rv_int_inv hi
          simp only at h
          cases hx with
          | agg l g =>
            simp only at h
            cases hlt : Nat.blt k len with
            | false => rw [hlt] at h; cases h
            | true =>
              rw [hlt] at h
              simp only [cond_true] at h
              have := blt_lt hT hlt
              obtain ⟨v', h1, h2⟩ := part_ok hT w (ι := ι) ⟨l, g⟩ h
              exact ⟨v', by simp [Instr.index, asIntOf, hu', run_size hT hs, this, h1], h2⟩
          | _ => cases h
    | _ => cases h

theorem extractA_ok {x x' v : Value} {i : Nat} (hx : Rv ι x x') (h : extractA x i = some v) : ∃ v', (Instr.extract x' i).run P w = .ok v' w ∧ Rv ι v v' := by
  cases hx <;> simp only [extractA] at h <;> (try (cases h; done))
  rename_i a a' l g
  obtain ⟨y, hy, hr⟩ := (show All2 (Rv ι) a.toList a'.toList from ⟨l, g⟩).get h
  have : a'[i]? = some y := by rw [← hy]; simp
  exact ⟨y, by simp [Instr.extract, this], hr⟩

theorem capA_ok {ty : TypeId} {x x' v : Value} {ts : Array TypeId} {tt : TypeId} (hts : ts[0]? = some ty) (hx : Rv ι x x') (h : capA T ty x = some v) : ∃ v', (Builtin.cap_ ts tt #[x']).run P w = .ok v' w ∧ Rv ι v v' := by
  unfold capA at h
  cases hu : T.und ty with
  | none => rw [hu] at h; cases h
  | some d =>
    rw [hu] at h
    have hu' := run_und hT hu
    cases d <;> simp only at h <;> (try (cases h; done))
    generalize hxx : x = x0 at h hx
    cases x0 <;> simp only at h <;> (try (cases h; done))
    rename_i a len cap
    cases hlt : Nat.blt cap UNK with
    | false => rw [hlt] at h; cases h
    | true =>
      rw [hlt] at h; cases h
      have hlt := blt_lt hT hlt
      generalize hcc : cap = cap0 at hx
      cases hx with
      | nils => subst hcc; exact ⟨_, by simp [Builtin.cap_, hts, hu', goInt], .int _ _⟩
      | slice => subst hcc; exact ⟨_, by simp [Builtin.cap_, hts, hu', goInt], .int _ _⟩
      | sliceU => omega
      | sliceE => exact absurd hlt (by rw [hcc]; unfold UNK UNKE; omega)

theorem min2A_ok {big : Bool} {x x' y y' v : Value} (hx : Rv ι x x') (hy : Rv ι y y') (h : min2A big x y = some v) :
    (cond big ((Builtin.max_ #[] 0 #[x', y']).run P w) ((Builtin.min_ #[] 0 #[x', y']).run P w)) = .ok v w ∧ Rv ι v v := by
  cases hx <;> cases hy <;> simp only [min2A] at h <;> (try (cases h; done))
  rename_i k a k' b
  by_cases hk : k = k'
  · subst hk
    simp only [if_true] at h
    cases h
    refine ⟨?_, .int _ _⟩
    cases big
    · simp [Builtin.min_, Builtin.min2]
    · simp [Builtin.max_, Builtin.max2]
  · simp [hk] at h

theorem entriesA_ok {n0 base : Nat} {st : St} {w : World} (hi : Inv n0 base ι st.see w) {m m' : Option Nat} {es : List (Value × Value)} (hm : Rv ι (.map m) (.map m')) (h : entriesA st m = some es) :
    ∃ arr : Array MapEntry, All2 (fun e (m : MapEntry) => Rv ι e.1 m.key ∧ Rv ι e.2 m.val) es arr.toList ∧ ((m' = none ∧ arr = #[]) ∨ ∃ c clock, m' = some c ∧ w.heap[c]? = some (.map arr clock)) := by
  cases hm with
  | nilm => simp only [entriesA] at h; cases h; exact ⟨#[], .nil, .inl ⟨rfl, rfl⟩⟩
  | map hb =>
    rename_i b c sz
    simp only [entriesA] at h
    cases hs : st.see b with
    | none => rw [hs] at h; cases h
    | some en =>
      obtain ⟨ob, fam⟩ := en
      rw [hs] at h
      cases ob <;> simp only at h <;> (try (cases h; done))
      cases h
      obtain ⟨c', s', k1, arr, clock, q1, q2⟩ := hi.ob b _ hs
      rw [hb] at k1; cases k1
      exact ⟨arr, q2, .inr ⟨c, clock, rfl, q1⟩⟩

theorem entriesP_ok {n0 base : Nat} {st : St} {w : World} (hi : Inv n0 base ι st.see w) {m m' : Option Nat} {es : List (Value × Value)} (hm : Rv ι (.map m) (.map m')) (h : entriesP st m = some es) :
    ∃ (arr : Array MapEntry) (l1 l2 : List MapEntry) (c clock : Nat), arr.toList = l1 ++ l2 ∧ All2 (fun e (m : MapEntry) => Rv ι e.1 m.key ∧ Rv ι e.2 m.val) es l1 ∧ m' = some c ∧ w.heap[c]? = some (.map arr clock) := by
  cases hm with
  | nilm => cases h
  | map hb =>
    rename_i b c sz
    simp only [entriesP] at h
    cases hs : st.see b with
    | none => rw [hs] at h; cases h
    | some en =>
      obtain ⟨ob, fam⟩ := en
      rw [hs] at h
      cases ob <;> simp only at h <;> (try (cases h; done))
      cases h
      obtain ⟨c', s', k1, arr, clock, q1, l1, l2, q2, q3⟩ := hi.ob b _ hs
      rw [hb] at k1; cases k1
      exact ⟨arr, l1, l2, c, clock, q2, q3, rfl, q1⟩

theorem lenA_ok {n0 base : Nat} {st : St} {w : World} (hi : Inv n0 base ι st.see w) {ty : TypeId} {x x' v : Value} {ts : Array TypeId} {tt : TypeId} (hts : ts[0]? = some ty) (hx : Rv ι x x') (h : lenA T st ty x = some v) : ∃ v', (Builtin.len_ ts tt #[x']).run P w = .ok v' w ∧ Rv ι v v' := by
  unfold lenA at h
  cases hu : T.und ty with
  | none => rw [hu] at h; cases h
  | some d =>
    rw [hu] at h
    have hu' := run_und hT hu
    cases d with
    | string =>
      cases hx <;> simp only at h <;> (try (cases h; done))
      cases h
      rename_i s
      refine ⟨.int .i64 s.size, by simp [Builtin.len_, hts, hu', goInt], ?_⟩
      rw [size_list]
      exact .int _ _
    | slice e =>
      cases hx <;> simp only at h <;> (try (cases h; done)) <;> cases h <;> exact ⟨_, by simp [Builtin.len_, hts, hu', goInt], .int _ _⟩
    | map k e =>
      generalize hxx : x = x0 at h hx
      cases x0 <;> simp only at h <;> (try (cases h; done))
      rename_i m
      cases he : entriesA st m with
      | none => rw [he] at h; cases h
      | some es =>
        rw [he] at h; cases h
        have : ∃ m', x' = .map m' := by cases hx <;> exact ⟨_, rfl⟩
        obtain ⟨m', rfl⟩ := this
        obtain ⟨arr, h1, h2⟩ := entriesA_ok hT hi hx he
        have hl := h1.1
        simp only [Array.length_toList] at hl
        rcases h2 with ⟨rfl, rfl⟩ | ⟨c, clock, rfl, hc⟩
        · exact ⟨.int .i64 es.length, by simp [Builtin.len_, hts, hu', goInt, hl], .int _ _⟩
        · exact ⟨.int .i64 es.length, by simp [Builtin.len_, hts, hu', goInt, getObj, Sem.run, hc, hl], .int _ _⟩
    | _ => cases h

end
end Go.Proofs.YthdnpikgnmdnnaaGreatDoor.Ev

namespace Go.Proofs.YthdnpikgnmdnnaaGreatDoor.Ev
set_option linter.unusedSimpArgs false
set_option linter.unusedVariables false
set_option linter.unusedSectionVars false
variable [Tok]
open Go.RowKit
set_option linter.unusedSectionVars false

/-! Maps -/

theorem sameP_ok {ι : Ren} {a b a' b' : Value} (ha : Rv ι a a') (hb : Rv ι b b') (h : sameP a b = true) (n : Nat) : Instr.sameBits n a' b' = true := by
  cases ha <;> cases hb <;> simp only [sameP] at h <;> (try (cases h; done))
  · simpa [Instr.sameBits] using h
  · simpa [Instr.sameBits] using h
  · rename_i s r
    rw [beqL_ok] at h
    have h2 : s = r := bytes_ext (by simpa using h)
    subst h2
    simp [Instr.sameBits, beq_toListBytes]

theorem sameL_ok {ι : Ren} : ∀ {x y x' y' : List Value}, All2 (Rv ι) x x' → All2 (Rv ι) y y' → sameL x y = true → x'.length = y'.length ∧ (x'.zip y').all (fun (p, q) => Instr.sameBits 9999 p q) = true
  | [], [], x', y', hx, hy, h => by obtain rfl := hx.nil_inv; obtain rfl := hy.nil_inv; exact ⟨rfl, rfl⟩
  | [], _ :: _, _, _, _, _, h => by cases h
  | _ :: _, [], _, _, _, _, h => by cases h
  | a :: x, b :: y, x', y', hx, hy, h => by
    obtain ⟨a', x2, rfl, ha, hx⟩ := hx.cons_inv
    obtain ⟨b', y2, rfl, hb, hy⟩ := hy.cons_inv
    simp only [sameL, Bool.and_eq_true] at h
    obtain ⟨h1, h2⟩ := sameL_ok hx hy h.2
    exact ⟨by simp [h1], by simp only [List.zip_cons_cons, List.all_cons, sameP_ok ha hb h.1, Bool.true_and]; exact h2⟩

theorem sameK_ok {ι : Ren} {a b a' b' : Value} (ha : Rv ι a a') (hb : Rv ι b b') (h : sameK a b = true) : Instr.sameBits 10000 a' b' = true := by
  by_cases hag : ∃ x, a = .agg x
  · obtain ⟨x, rfl⟩ := hag
    cases ha with
    | agg l g =>
      cases hb <;> simp only [sameK] at h <;> (try (cases h; done))
      rename_i x' y y' l2 g2
      obtain ⟨h1, h2⟩ := sameL_ok (ι := ι) ⟨l, g⟩ ⟨l2, g2⟩ h
      show (_ && _) = true
      rw [Bool.and_eq_true]
      exact ⟨by simpa using h1, h2⟩
  · have : sameP a b = true := by
      cases a <;> first | exact h | exact absurd ⟨_, rfl⟩ hag
    exact sameP_ok ha hb this _

section
variable {P : Program} {T : Tb} (hT : TbOk P T) (hC : CmpOk P T) {ι : Ren} (w : World)
include hT hC

theorem plainD_inv {o : Option TypeDesc} (h : plainD o = true) : o = some .bool ∨ (∃ k, o = some (.int k)) ∨ o = some .string := by
  cases o with
  | none => cases h
  | some d => cases d <;> first | exact .inl rfl | exact .inr (.inl ⟨_, rfl⟩) | exact .inr (.inr rfl) | cases h

theorem check_plain {t : TypeId} (h : plainD (T.und t) = true) (e : Bool) (n : Nat) (v : Value) : (Instr.checkKey e (n + 1) t v).run P w = .ok () w := by
  rcases plainD_inv hT hC h with h | ⟨k, h⟩ | h <;> cases v <;> simp [Instr.checkKey, run_und hT h]

theorem checkK_ok {k : TypeId} {key key' : Value} (hk : Rv ι key key') (h : checkK T k key = true) (e : Bool) (n : Nat) : (Instr.checkKey e (n + 1 + 1) k key').run P w = .ok () w := by
  unfold checkK at h
  cases hu : T.und k with
  | none => rw [hu] at h; cases h
  | some d =>
    by_cases hs : ∃ fs, d = .struct fs
    · obtain ⟨fs, rfl⟩ := hs
      rw [hu] at h
      cases hk <;> simp only at h <;> (try (cases h; done))
      rename_i a a' l g
      have hsub := fun (t : TypeId) (v : Value) (h1 : plainD (T.und t) = true) => check_plain hT hC w h1 e n v
      generalize n + 1 = N at hsub ⊢
      simp only [Instr.checkKey, Sem.run_bind, run_und hT hu, Result.andThen_ok]
      rw [← Array.forIn_toList]
      generalize fs.toList = L at h
      induction L with
      | nil => simp
      | cons f L ih =>
        simp only [List.all_cons, Bool.and_eq_true] at h
        obtain ⟨⟨h1, h2⟩, h3⟩ := h
        have ih := ih h3
        obtain ⟨v, hv⟩ := Option.isSome_iff_exists.1 h2
        obtain ⟨v', r1, _⟩ := part_ok hT w (ι := ι) (⟨l, g⟩ : All2 (Rv ι) a.toList a'.toList) hv
        have hc := hsub f.type v' h1
        simp only [List.forIn_cons, Sem.run_bind, Sem.run_ite]
        by_cases hn : f.name ≠ "_"
        · rw [if_pos hn]
          simp only [r1, hc, Sem.run_bind, Result.andThen_ok, Sem.run_pure]
          exact ih
        · rw [if_neg hn]
          simp only [Sem.run_pure, Result.andThen_ok]
          exact ih
    · have h' : plainD (T.und k) = true := by
        rw [hu] at h ⊢
        cases d <;> first
          | exact absurd ⟨_, rfl⟩ hs
          | (simp only [Bool.and_eq_true] at h; exact h.1)
      exact check_plain hT hC w h' e (n + 1) key'


/-- An entry and its abstraction. -/
noncomputable def EnR (ι : Ren) (e : Value × Value) (m : MapEntry) : Prop := Rv ι e.1 m.key ∧ Rv ι e.2 m.val

/-- What the two searches of a map answer. -/
noncomputable def Found (P : Program) (w : World) (kt : TypeId) (d : TypeDesc) (k' : Value) (l : List MapEntry) (r : Option (Nat × Value)) : Prop :=
  ∀ i, (Instr.findAsking kt k' l i).run P w = .ok (r.map fun x => (i + x.1, x.2)) w ∧ (Instr.findNow d k' l i = none ∨ Instr.findNow d k' l i = some (r.map fun x => (i + x.1, x.2)))

theorem sameNow_eq {kt : TypeId} {d : TypeDesc} (hd : P.underlying kt = some d) {x y : Value} {b c : Bool} (h : (Op.equal kt x y).run P w = .ok b w) (hn : Instr.sameNow d x y = some c) : c = b := by
  have hu := run_underlying hd w
  have gen : ∀ m, (Op.equalIn (m + 1) kt x y).run P w = .ok b w → c = b := by
    intro m hm
    cases d <;> cases x <;> cases y <;> simp only [Instr.sameNow] at hn <;> (try (cases hn; done)) <;>
      (try (simp [Op.equalIn, hu] at hm)) <;> (try (simp at hn)) <;> (try (split at hn <;> simp_all; done)) <;> simp_all
  exact gen 9999 h

theorem found_nil {kt : TypeId} {d : TypeDesc} {k' : Value} : Found P w kt d k' [] none := fun i => ⟨rfl, .inr rfl⟩

theorem found_hit {kt : TypeId} {d : TypeDesc} {k' : Value} (hd : P.underlying kt = some d) {m : MapEntry} {l : List MapEntry} (h : (Op.equal kt k' m.key).run P w = .ok true w) : Found P w kt d k' (m :: l) (some (0, m.val)) := by
  intro i
  refine ⟨by simp [Instr.findAsking, h], ?_⟩
  simp only [Instr.findNow]
  cases hn : Instr.sameNow d k' m.key with
  | none => exact .inl rfl
  | some c => rw [sameNow_eq hT hC w hd h hn]; exact .inr rfl

theorem found_miss {kt : TypeId} {d : TypeDesc} {k' : Value} (hd : P.underlying kt = some d) {m : MapEntry} {l : List MapEntry} {r : Option (Nat × Value)} (h : (Op.equal kt k' m.key).run P w = .ok false w) (hr : Found P w kt d k' l r) :
    Found P w kt d k' (m :: l) (r.map fun x => (x.1 + 1, x.2)) := by
  intro i
  obtain ⟨h1, h2⟩ := hr (i + 1)
  have e : (r.map fun x => (i + 1 + x.1, x.2)) = ((r.map fun x => (x.1 + 1, x.2)).map fun x => (i + x.1, x.2)) := by
    cases r with
    | none => rfl
    | some x => simp; omega
  refine ⟨by simp [Instr.findAsking, h, h1, ← e], ?_⟩
  simp only [Instr.findNow]
  cases hn : Instr.sameNow d k' m.key with
  | none => exact .inl rfl
  | some c =>
    rw [sameNow_eq hT hC w hd h hn, ← e]
    exact h2

theorem found_key {kt : TypeId} {d : TypeDesc} {k' : Value} (hd : P.underlying kt = some d) {l : List MapEntry} {r : Option (Nat × Value)} (hr : Found P w kt d k' l r) : (Instr.findKey kt k' l).run P w = .ok r w := by
  obtain ⟨h1, h2⟩ := hr 0
  have e : (r.map fun x => (0 + x.1, x.2)) = r := by cases r <;> simp
  rw [e] at h1 h2
  have hu := run_underlying hd w
  rcases h2 with h2 | h2
  · simp [Instr.findKey, hu, h2, h1]
  · simp [Instr.findKey, hu, h2]

theorem findKey_ok {kt : TypeId} {d : TypeDesc} (hd : P.underlying kt = some d) {key k' : Value} (hk : Rv ι key k') : ∀ {es : List (Value × Value)} {l : List MapEntry} {o : Option Value}, All2 (EnR ι) es l → findKey (eqV T 40 kt) key es = some o →
    ∃ r, Found P w kt d k' l r ∧ ((o = none ∧ r = none) ∨ ∃ v j v', o = some v ∧ r = some (j, v') ∧ Rv ι v v')
  | [], l, o, hl, h => by
    obtain rfl := hl.nil_inv
    cases h
    exact ⟨none, found_nil hT hC w, .inl ⟨rfl, rfl⟩⟩
  | (k2, v2) :: es, l, o, hl, h => by
    obtain ⟨m, l, rfl, ⟨hm1, hm2⟩, hl⟩ := hl.cons_inv
    simp only [findKey] at h
    cases he : eqV T 40 kt key k2 with
    | none => rw [he] at h; cases h
    | some b =>
      rw [he] at h
      have heq := eq_ok hT hC w (op := .eql) hk hm1 he
      cases b with
      | true => cases h; exact ⟨_, found_hit hT hC w hd heq, .inr ⟨_, _, _, rfl, rfl, hm2⟩⟩
      | false =>
        obtain ⟨r, h1, h2⟩ := findKey_ok hd hk hl h
        refine ⟨_, found_miss hT hC w hd heq h1, ?_⟩
        rcases h2 with ⟨rfl, rfl⟩ | ⟨v, j, v', rfl, rfl, hv⟩
        · exact .inl ⟨rfl, rfl⟩
        · exact .inr ⟨v, j + 1, v', rfl, rfl, hv⟩

theorem findKey_pre {kt : TypeId} {d : TypeDesc} (hd : P.underlying kt = some d) {key k' : Value} (hk : Rv ι key k') : ∀ {es : List (Value × Value)} {l l2 : List MapEntry} {v : Value}, All2 (EnR ι) es l → findKey (eqV T 40 kt) key es = some (some v) →
    ∃ j v', Found P w kt d k' (l ++ l2) (some (j, v')) ∧ Rv ι v v'
  | [], l, l2, v, hl, h => by cases h
  | (k2, v2) :: es, l, l2, v, hl, h => by
    obtain ⟨m, l, rfl, ⟨hm1, hm2⟩, hl⟩ := hl.cons_inv
    simp only [findKey] at h
    cases he : eqV T 40 kt key k2 with
    | none => rw [he] at h; cases h
    | some b =>
      rw [he] at h
      have heq := eq_ok hT hC w (op := .eql) hk hm1 he
      cases b with
      | true => cases h; exact ⟨_, _, found_hit hT hC w hd heq, hm2⟩
      | false =>
        obtain ⟨j, v', h1, h2⟩ := findKey_pre hd hk hl h
        exact ⟨_, _, found_miss hT hC w hd heq h1, h2⟩

theorem putKey_ok {kt : TypeId} {d : TypeDesc} (hd : P.underlying kt = some d) {key k' v v' : Value} (hk : Rv ι key k') (hv : Rv ι v v') (born : Nat) : ∀ {es es' : List (Value × Value)} {l : List MapEntry}, All2 (EnR ι) es l → putKey (eqV T 40 kt) key v es = some es' →
    ∃ r, Found P w kt d k' l r ∧ ((r = none ∧ All2 (EnR ι) es' (l ++ [{ key := k', val := v', born }])) ∨
      ∃ j u m, r = some (j, u) ∧ l[j]? = some m ∧ Instr.sameBits 10000 m.key k' = true ∧ All2 (EnR ι) es' (l.modify j fun e => { e with key := k', val := v' }))
  | [], es', l, hl, h => by
    obtain rfl := hl.nil_inv
    cases h
    exact ⟨none, found_nil hT hC w, .inl ⟨rfl, .cons ⟨hk, hv⟩ .nil⟩⟩
  | (k2, v2) :: es, es', l, hl, h => by
    obtain ⟨m, l, rfl, ⟨hm1, hm2⟩, hl⟩ := hl.cons_inv
    simp only [putKey] at h
    cases he : eqV T 40 kt key k2 with
    | none => rw [he] at h; cases h
    | some b =>
      rw [he] at h
      have heq := eq_ok hT hC w (op := .eql) hk hm1 he
      cases b with
      | true =>
        simp only at h
        cases hs : sameK k2 key with
        | false => rw [hs] at h; cases h
        | true =>
          rw [hs] at h; cases h
          refine ⟨_, found_hit hT hC w hd heq, .inr ⟨0, _, m, rfl, rfl, sameK_ok hm1 hk hs, ?_⟩⟩
          exact .cons ⟨hk, hv⟩ hl
      | false =>
        simp only at h
        cases hp : putKey (eqV T 40 kt) key v es with
        | none => rw [hp] at h; cases h
        | some e2 =>
          rw [hp] at h; cases h
          obtain ⟨r, h1, h2⟩ := putKey_ok hd hk hv born hl hp
          refine ⟨_, found_miss hT hC w hd heq h1, ?_⟩
          rcases h2 with ⟨rfl, h3⟩ | ⟨j, u, m', rfl, h3, h4, h5⟩
          · exact .inl ⟨rfl, .cons ⟨hm1, hm2⟩ h3⟩
          · exact .inr ⟨j + 1, u, m', rfl, by simpa using h3, h4, .cons ⟨hm1, hm2⟩ h5⟩

theorem dropKey_ok {kt : TypeId} {d : TypeDesc} (hd : P.underlying kt = some d) {key k' : Value} (hk : Rv ι key k') : ∀ {es es' : List (Value × Value)} {l : List MapEntry}, All2 (EnR ι) es l → dropKey (eqV T 40 kt) key es = some es' →
    ∃ r, Found P w kt d k' l r ∧ ((r = none ∧ All2 (EnR ι) es' l) ∨ ∃ j u, r = some (j, u) ∧ All2 (EnR ι) es' (l.eraseIdx j))
  | [], es', l, hl, h => by
    obtain rfl := hl.nil_inv
    cases h
    exact ⟨none, found_nil hT hC w, .inl ⟨rfl, .nil⟩⟩
  | (k2, v2) :: es, es', l, hl, h => by
    obtain ⟨m, l, rfl, ⟨hm1, hm2⟩, hl⟩ := hl.cons_inv
    simp only [dropKey] at h
    cases he : eqV T 40 kt key k2 with
    | none => rw [he] at h; cases h
    | some b =>
      rw [he] at h
      have heq := eq_ok hT hC w (op := .eql) hk hm1 he
      cases b with
      | true => cases h; exact ⟨_, found_hit hT hC w hd heq, .inr ⟨0, _, rfl, hl⟩⟩
      | false =>
        simp only at h
        cases hp : dropKey (eqV T 40 kt) key es with
        | none => rw [hp] at h; cases h
        | some e2 =>
          rw [hp] at h; cases h
          obtain ⟨r, h1, h2⟩ := dropKey_ok hd hk hl hp
          refine ⟨_, found_miss hT hC w hd heq h1, ?_⟩
          rcases h2 with ⟨rfl, h3⟩ | ⟨j, u, rfl, h5⟩
          · exact .inl ⟨rfl, .cons ⟨hm1, hm2⟩ h3⟩
          · exact .inr ⟨j + 1, u, rfl, .cons ⟨hm1, hm2⟩ h5⟩

end
end Go.Proofs.YthdnpikgnmdnnaaGreatDoor.Ev

namespace Go.Proofs.YthdnpikgnmdnnaaGreatDoor.Ev
set_option linter.unusedSimpArgs false
set_option linter.unusedVariables false
set_option linter.unusedSectionVars false
variable [Tok]
open Go.RowKit
set_option linter.unusedSectionVars false

section
variable {P : Program} {T : Tb} (hT : TbOk P T) (hC : CmpOk P T) {base : Nat} {ι : Ren} {st st' : St} {w : World}
include hT hC

theorem map_inv {ι : Ren} {m : Option Nat} {x' : Value} (h : Rv ι (.map m) x') : ∃ m', x' = .map m' := by cases h <;> exact ⟨_, rfl⟩

theorem run_getObj_map {c clock : Nat} {arr : Array MapEntry} (h : w.heap[c]? = some (.map arr clock)) : (getObj c).run P w = .ok (.map arr clock) w := by
  simp [getObj, Sem.run, h]

theorem lookupA_ok (hi : Inv T.n0 base ι st.see w) {ty : TypeId} {x x' key key' v : Value} {ok : Bool} (hx : Rv ι x x') (hk : Rv ι key key') (h : lookupA T st ty x key ok = some v) :
    ∃ v', (Instr.lookup ty x' key' ok).run P w = .ok v' w ∧ Rv ι v v' := by
  unfold lookupA at h
  cases hu : T.und ty with
  | none => rw [hu] at h; cases h
  | some d =>
    rw [hu] at h
    have hu' := run_und hT hu
    cases d <;> simp only at h <;> (try (cases h; done))
    rename_i k e
    cases hd : T.und k with
    | none => rw [hd] at h; cases h
    | some d =>
      cases hz : T.zero e with
      | none => rw [hd, hz] at h; cases h
      | some z =>
        rw [hd, hz] at h
        simp only at h
        obtain ⟨hz1, hz2⟩ := run_zero hT hz w
        generalize hxx : x = x0 at h hx
        cases x0 <;> (try simp only at h) <;> (try (cases h; done))
        rename_i m
        obtain ⟨m', rfl⟩ := map_inv hT hC hx
        cases he : entriesA st m with
        | none =>
          rw [he] at h
          simp only at h
          cases he2 : entriesP st m with
          | none => rw [he2] at h; cases h
          | some es =>
            rw [he2] at h
            simp only at h
            obtain ⟨arr, l1, l2, c, clock, h1, h2, rfl, hc⟩ := entriesP_ok hT hi hx he2
            cases hck : checkK T k key with
            | false => rw [hck] at h; cases h
            | true =>
              rw [hck] at h
              simp only [cond_true] at h
              cases hf : findKey (eqV T 40 k) key es with
              | none => rw [hf] at h; cases h
              | some o =>
                cases o with
                | none => rw [hf] at h; cases h
                | some v1 =>
                  rw [hf] at h
                  cases h
                  obtain ⟨j, v1', f1, hv⟩ := findKey_pre hT hC w (und_ok hT hd) hk (l2 := l2) h2 hf
                  rw [← h1] at f1
                  have hrun := found_key hT hC w (und_ok hT hd) f1
                  have hchk := fun e => checkK_ok hT hC w hk hck e 9998
                  refine ⟨if ok then .tuple #[v1', .bool true] else v1', ?_, ?_⟩
                  · simp [Instr.lookup, hu', hchk, hrun, run_getObj_map hT hC hc]
                  · cases ok
                    · exact hv
                    · exact rv_tuple (.cons hv (.cons (.bool _) .nil))
        | some es =>
          rw [he] at h
          simp only at h
          obtain ⟨arr, h1, h2⟩ := entriesA_ok hT hi hx he
          cases hck : checkK T k key with
          | false => rw [hck] at h; cases h
          | true =>
            rw [hck] at h
            simp only [cond_true] at h
            cases hf : findKey (eqV T 40 k) key es with
            | none => rw [hf] at h; cases h
            | some o =>
              rw [hf] at h
              obtain ⟨r, f1, f2⟩ := findKey_ok hT hC w (und_ok hT hd) hk h1 hf
              have hrun := found_key hT hC w (und_ok hT hd) f1
              have hchk := fun e => checkK_ok hT hC w hk hck e 9998
              rcases f2 with ⟨rfl, rfl⟩ | ⟨v1, j, v1', rfl, rfl, hv⟩
              · cases h
                refine ⟨if ok then .tuple #[z, .bool false] else z, ?_, ?_⟩
                · rcases h2 with ⟨rfl, rfl⟩ | ⟨c, clock, rfl, hc⟩
                  · have hrun : (Instr.findKey k key' []).run P w = .ok none w := hrun
                    simp [Instr.lookup, hu', hchk, hrun, hz1]
                  · simp [Instr.lookup, hu', hchk, hrun, hz1, run_getObj_map hT hC hc]
                · cases ok
                  · exact rv_closed ι _ _ hz2
                  · exact rv_tuple (.cons (rv_closed ι _ _ hz2) (.cons (.bool _) .nil))
              · cases h
                refine ⟨if ok then .tuple #[v1', .bool true] else v1', ?_, ?_⟩
                · rcases h2 with ⟨rfl, rfl⟩ | ⟨c, clock, rfl, hc⟩
                  · have hrun : (Instr.findKey k key' []).run P w = .ok (some (j, v1')) w := hrun
                    simp [Instr.lookup, hu', hchk, hrun]
                  · simp [Instr.lookup, hu', hchk, hrun, run_getObj_map hT hC hc]
                · cases ok
                  · exact hv
                  · exact rv_tuple (.cons hv (.cons (.bool _) .nil))

/-- A map's block is turned. -/
theorem mapSet_ok (ha : Abs T st) (hi : Inv T.n0 base ι st.see w) {r fam c sz : Nat} {es es' : List (Value × Value)} (hs : st.see r = some ⟨.map es, fam⟩) (hι : ι r = some (c, sz))
    {arr arr' : Array MapEntry} {clock clock' : Nat} (hc : w.heap[c]? = some (.map arr clock)) (hr : All2 (EnR ι) es' arr'.toList) {u : Value}
    (h : unit (St.low { st with h := st.h.set r (some ⟨.map es', fam⟩) } T.n0 r) = some (u, st')) :
    u = .tuple #[] ∧ ∃ w', (setObj c (.map arr' clock')).run P w = .ok () w' ∧ Stp T base st st' ι ι w w' := by
  cases hl : St.low { st with h := st.h.set r (some ⟨.map es', fam⟩) } T.n0 r with
  | none => rw [hl] at h; cases h
  | some s2 =>
    rw [hl] at h; cases h
    obtain ⟨hn, rfl⟩ := low_some hl
    refine ⟨rfl, { w with heap := w.heap.setIfInBounds c (.map arr' clock') }, by simp [setObj, Sem.run, hc], ?_⟩
    have hlt : c < w.heap.size := (Array.getElem?_eq_some_iff.1 hc).1
    have hnew : (w.heap.setIfInBounds c (.map arr' clock'))[c]? = some (.map arr' clock') := by simp [Array.getElem?_setIfInBounds, hlt]
    refine step_put ha hi r _ (some ⟨.map es', fam⟩) hs hn (fun e h => by cases h; exact ⟨rfl, rfl⟩) c sz hι (fun k hk => ?_) (fun e h => by cases h; exact ⟨arr', clock', hnew, hr⟩) (fun i ei z hne h1 h2 => ?_) rfl rfl rfl (by simp)
    · show (w.heap.setIfInBounds c _)[k]? = _
      rw [Array.getElem?_setIfInBounds_ne (Ne.symm hk)]
    · exfalso
      have hf := hi.fam i r ei _ c z sz h1 hs h2 hι
      have hir := ha.sole r _ (see_get hs) rfl
      have hk : isCells ei.ob = false := by
        obtain ⟨c2, s2, k1, k2⟩ := hi.ob i ei h1
        rw [h2] at k1; cases k1
        cases hob : ei.ob with
        | cells cs el ex fz => rw [hob] at k2; obtain ⟨_, _, q, _⟩ := k2; rw [hc] at q; cases q
        | _ => rfl
      have := ha.sole i ei (see_get h1) hk
      simp only at hf hir
      omega

theorem mapUpdateA_ok (ha : Abs T st) (hi : Inv T.n0 base ι st.see w) {ty : TypeId} {x x' key key' v v' u : Value} (hx : Rv ι x x') (hk : Rv ι key key') (hv : Rv ι v v') (h : mapUpdateA T st ty x key v = some (u, st')) :
    u = .tuple #[] ∧ ∃ w', (Instr.mapUpdate ty x' key' v').run P w = .ok () w' ∧ Stp T base st st' ι ι w w' := by
  unfold mapUpdateA at h
  cases hu : T.und ty with
  | none => rw [hu] at h; cases h
  | some d =>
    rw [hu] at h
    have hu' := run_und hT hu
    cases d <;> simp only at h <;> (try (cases h; done))
    rename_i k e
    cases hd : T.und k with
    | none => rw [hd] at h; cases h
    | some d =>
      rw [hd] at h
      simp only at h
      generalize hxx : x = x0 at h hx
      cases x0 <;> (try simp only at h) <;> (try (cases h; done))
      rename_i m
      cases m with
      | none => cases h
      | some r =>
        simp only at h
        cases hs : st.see r with
        | none => rw [hs] at h; cases h
        | some en =>
          obtain ⟨ob, fam⟩ := en
          rw [hs] at h
          cases ob <;> (try simp only at h) <;> (try (cases h; done))
          rename_i es
          cases hx with
          | map hb =>
            rename_i c sz
            obtain ⟨c', s', k1, arr, clock, q1, q2⟩ := hi.ob r _ hs
            rw [hb] at k1; cases k1
            cases hck : checkK T k key with
            | false => rw [hck] at h; cases h
            | true =>
              rw [hck] at h
              simp only [cond_true] at h
              cases hp : putKey (eqV T 40 k) key v es with
              | none => rw [hp] at h; cases h
              | some es' =>
                rw [hp] at h
                simp only at h
                have hchk := checkK_ok hT hC w hk hck false 9998
                obtain ⟨r', f1, f2⟩ := putKey_ok hT hC w (und_ok hT hd) hk hv clock q2 hp
                have hrun := found_key hT hC w (und_ok hT hd) f1
                rcases f2 with ⟨rfl, f3⟩ | ⟨j, u', m, rfl, f3, f4, f5⟩
                · obtain ⟨h1, w', h2, h3⟩ := mapSet_ok hT hC (arr' := arr.push { key := key', val := v', born := clock }) (clock' := clock + 1) ha hi hs hb q1 (by simpa using f3) h
                  refine ⟨h1, w', ?_, h3⟩
                  simp [Instr.mapUpdate, hu', run_getObj_map hT hC q1, hchk, hrun, h2]
                · obtain ⟨h1, w', h2, h3⟩ := mapSet_ok hT hC (arr' := arr.modify j fun e => { e with key := key', val := v' }) (clock' := clock) ha hi hs hb q1 (by rw [Array.toList_modify]; exact f5) h
                  refine ⟨h1, w', ?_, h3⟩
                  have hm : arr[j]? = some m := by rw [← f3]; simp
                  simp [Instr.mapUpdate, hu', run_getObj_map hT hC q1, hchk, hrun, hm, Instr.keyThatStays, f4, h2]

theorem deleteA_ok (ha : Abs T st) (hi : Inv T.n0 base ι st.see w) {ty tt : TypeId} {ts : Array TypeId} (hts : ts[0]? = some ty) {x x' key key' u : Value} (hx : Rv ι x x') (hk : Rv ι key key') (h : deleteA T st ty x key = some (u, st')) :
    u = .tuple #[] ∧ ∃ w', (Builtin.delete_ ts tt #[x', key']).run P w = .ok (.tuple #[]) w' ∧ Stp T base st st' ι ι w w' := by
  unfold deleteA at h
  cases hu : T.und ty with
  | none => rw [hu] at h; cases h
  | some d =>
    rw [hu] at h
    have hu' := run_und hT hu
    cases d <;> simp only at h <;> (try (cases h; done))
    rename_i k e
    cases hd : T.und k with
    | none => rw [hd] at h; cases h
    | some d =>
      rw [hd] at h
      simp only at h
      generalize hxx : x = x0 at h hx
      cases x0 <;> (try simp only at h) <;> (try (cases h; done))
      rename_i m
      cases m with
      | none => cases h
      | some r =>
        simp only at h
        cases hs : st.see r with
        | none => rw [hs] at h; cases h
        | some en =>
          obtain ⟨ob, fam⟩ := en
          rw [hs] at h
          cases ob <;> (try simp only at h) <;> (try (cases h; done))
          rename_i es
          cases hx with
          | map hb =>
            rename_i c sz
            obtain ⟨c', s', k1, arr, clock, q1, q2⟩ := hi.ob r _ hs
            rw [hb] at k1; cases k1
            cases hck : checkK T k key with
            | false => rw [hck] at h; cases h
            | true =>
              rw [hck] at h
              simp only [cond_true] at h
              cases hp : dropKey (eqV T 40 k) key es with
              | none => rw [hp] at h; cases h
              | some es' =>
                rw [hp] at h
                simp only at h
                have hchk := checkK_ok hT hC w hk hck arr.isEmpty 9998
                obtain ⟨r', f1, f2⟩ := dropKey_ok hT hC w (und_ok hT hd) hk q2 hp
                have hrun := found_key hT hC w (und_ok hT hd) f1
                rcases f2 with ⟨rfl, f3⟩ | ⟨j, u', rfl, f5⟩
                · obtain ⟨h1, w', h2, h3⟩ := mapSet_ok hT hC (arr' := arr) (clock' := clock) ha hi hs hb q1 f3 h
                  refine ⟨h1, w', ?_, h3⟩
                  simp [Builtin.delete_, hts, hu', run_getObj_map hT hC q1, hchk, hrun, h2]
                · obtain ⟨h1, w', h2, h3⟩ := mapSet_ok hT hC (arr' := arr.eraseIdxIfInBounds j) (clock' := clock) ha hi hs hb q1 (by rw [Array.toList_eraseIdxIfInBounds]; exact f5) h
                  refine ⟨h1, w', ?_, h3⟩
                  simp [Builtin.delete_, hts, hu', run_getObj_map hT hC q1, hchk, hrun, h2]

theorem assertA_ok {xT ty : TypeId} {x x' v : Value} {ok : Bool} (hx : Rv ι x x') (h : assertA T x ty ok = some v) :
    ∃ v', (Instr.typeAssert x' xT ty ok).run P w = .ok v' w ∧ Rv ι v v' := by
  unfold assertA at h
  cases hu : T.und ty with
  | none => rw [hu] at h; cases h
  | some d =>
    rw [hu] at h
    have hu' := run_und hT hu
    by_cases hif : ∃ ms, d = .interface ms
    · obtain ⟨ms, rfl⟩ := hif; cases h
    · have h : assertV T x ty ok = some v := by
        cases d with
        | interface ms => exact absurd ⟨ms, rfl⟩ hif
        | _ => exact h
      cases hx with
      | @iface t y y' hv =>
        simp only [assertV] at h
        cases ok with
        | true =>
          simp only [cond_true] at h
          cases hz : T.zero ty with
          | none => rw [hz] at h; cases h
          | some z =>
            rw [hz] at h; cases h
            obtain ⟨hz1, hz2⟩ := run_zero hT hz w
            cases hb : Nat.beq t ty with
            | true =>
              have := Nat.eq_of_beq_eq_true hb
              subst this
              refine ⟨.tuple #[y', .bool true], ?_, rv_tuple (.cons hv (.cons (.bool _) .nil))⟩
              cases d with
              | interface ms => exact absurd ⟨ms, rfl⟩ hif
              | _ => simp [Instr.typeAssert, hu']
            | false =>
              have hne : t ≠ ty := fun e => by rw [e, Nat.beq_refl] at hb; cases hb
              refine ⟨.tuple #[z, .bool false], ?_, rv_tuple (.cons (rv_closed ι _ _ hz2) (.cons (.bool _) .nil))⟩
              cases d with
              | interface ms => exact absurd ⟨ms, rfl⟩ hif
              | _ => simp [Instr.typeAssert, hu', hne, hz1]
        | false =>
          simp only [cond_false] at h
          cases hb : Nat.beq t ty with
          | true =>
            rw [hb] at h; cases h
            have := Nat.eq_of_beq_eq_true hb
            subst this
            refine ⟨y', ?_, hv⟩
            cases d with
            | interface ms => exact absurd ⟨ms, rfl⟩ hif
            | _ => simp [Instr.typeAssert, hu']
          | false => rw [hb] at h; cases h
      | nili =>
        simp only [assertV] at h
        cases ok with
        | true =>
          simp only [cond_true] at h
          cases hz : T.zero ty with
          | none => rw [hz] at h; cases h
          | some z =>
            rw [hz] at h; cases h
            obtain ⟨hz1, hz2⟩ := run_zero hT hz w
            refine ⟨.tuple #[z, .bool false], ?_, rv_tuple (.cons (rv_closed ι _ _ hz2) (.cons (.bool _) .nil))⟩
            cases d with
            | interface ms => exact absurd ⟨ms, rfl⟩ hif
            | _ => simp [Instr.typeAssert, hu', hz1]
        | false => cases h
      | _ => cases h

end
end Go.Proofs.YthdnpikgnmdnnaaGreatDoor.Ev

namespace Go.Proofs.YthdnpikgnmdnnaaGreatDoor.Ev
set_option linter.unusedSimpArgs false
set_option linter.unusedVariables false
set_option linter.unusedSectionVars false
variable [Tok]
open Go.RowKit
set_option linter.unusedSectionVars false

theorem reps_length (z : List Value) : ∀ n, (reps n z).length = n * z.length
  | 0 => by simp [reps]
  | n + 1 => by simp [reps, reps_length z n, Nat.succ_mul, Nat.add_comm]

theorem reps_get (z : List Value) : ∀ (n i : Nat), i < n * z.length → (reps n z)[i]? = z[i % z.length]?
  | 0, i, h => by simp at h
  | n + 1, i, h => by
    rw [Nat.succ_mul] at h
    simp only [reps]
    by_cases hi : i < z.length
    · rw [List.getElem?_append_left hi, Nat.mod_eq_of_lt hi]
    · rw [List.getElem?_append_right (by omega), reps_get z n (i - z.length) (by omega), ← Nat.mod_eq_sub_mod (by omega)]

theorem reps_cells {ι : Ren} {z z' : List Value} (hz : All2 (Rv ι) z z') (n : Nat) : All2 (Rv ι) (reps n z) (reps n z') := by
  induction n with
  | zero => exact .nil
  | succ n ih => exact hz.append ih

theorem zeros_eq (zc : Array Value) (n : Nat) : ((Array.range (n * zc.size)).map fun i => zc[i % zc.size]!).toList = reps n zc.toList := by
  apply List.ext_getElem?
  intro i
  simp only [Array.toList_map, Array.toList_range, List.getElem?_map]
  by_cases h : i < n * zc.size
  · rw [reps_get _ _ _ (by simpa using h)]
    rw [List.getElem?_eq_getElem (by simpa using h)]
    have hpos : 0 < zc.size := by
      rcases Nat.eq_zero_or_pos zc.size with h0 | h0
      · rw [h0] at h; simp at h
      · exact h0
    have hm : i % zc.size < zc.size := Nat.mod_lt _ hpos
    simp [hm]
  · rw [List.getElem?_eq_none (by simpa using h), List.getElem?_eq_none (by rw [reps_length]; simpa using h)]
    rfl

section
variable {P : Program} {T : Tb} (hT : TbOk P T) (hC : CmpOk P T) {base : Nat} {ι : Ren} {st st' : St} {w : World}
include hT hC

theorem newMap_ok (ha : Abs T st) (hi : Inv T.n0 base ι st.see w) {u : Value} (h : newMap st = some (u, st')) (hfr : ∀ id, st.next ≤ id → id < st'.next → ι id = none) (ty : TypeId) :
    ∃ w' ι' v', (Instr.makeMap ty none).run P w = .ok v' w' ∧ Rv ι' u v' ∧ Stp T base st st' ι ι' w w' ∧ v' = .map (some w.heap.size) ∧ w' = { w with heap := w.heap.push (.map #[] 0) } := by
  simp only [newMap] at h
  cases h
  refine ⟨{ w with heap := w.heap.push (.map #[] 0) }, _, .map (some w.heap.size), by simp [Instr.makeMap], ?_, step_new ha hi _ (.map #[] 0) 0 (hfr _ (Nat.le_refl _) (Nat.lt_succ_self _)) rfl rfl rfl rfl ⟨#[], 0, push_new rfl, .nil⟩, rfl, rfl⟩
  exact .map Ren.upd_self

theorem makeMapA_ok (ha : Abs T st) (hi : Inv T.n0 base ι st.see w) {ty : TypeId} {x x' u : Value} (hx : Rv ι x x') (h : makeMapA T st ty x = some (u, st')) (hfr : ∀ id, st.next ≤ id → id < st'.next → ι id = none) :
    ∃ w' ι' v', (Instr.makeMap ty (some x')).run P w = .ok v' w' ∧ Rv ι' u v' ∧ Stp T base st st' ι ι' w w' := by
  unfold makeMapA at h
  cases hu : T.und ty with
  | none => rw [hu] at h; cases h
  | some d =>
    rw [hu] at h
    have hu' := run_und hT hu
    cases d <;> (try simp only at h) <;> (try (cases h; done))
    cases hx <;> (try simp only at h) <;> (try (cases h; done))
    obtain ⟨w', ι', v', h1, h2, h3, rfl, rfl⟩ := newMap_ok hT hC ha hi h hfr ty
    exact ⟨_, ι', _, by simp [Instr.makeMap, hu', asInt, asIntOf], h2, h3⟩

theorem rangeA_ok (ha : Abs T st) (hi : Inv T.n0 base ι st.see w) {ty : TypeId} {x x' u : Value} (hx : Rv ι x x') (h : rangeA T st ty x = some (u, st')) (hfr : ∀ id, st.next ≤ id → id < st'.next → ι id = none) :
    ∃ w' ι' v', (Instr.range ty x').run P w = .ok v' w' ∧ Rv ι' u v' ∧ Stp T base st st' ι ι' w w' := by
  unfold rangeA at h
  cases hu : T.und ty with
  | none => rw [hu] at h; cases h
  | some d =>
    rw [hu] at h
    have hu' := run_und hT hu
    cases d <;> (try simp only at h) <;> (try (cases h; done))
    cases hx <;> (try simp only at h) <;> (try (cases h; done))
    rename_i s
    cases h
    refine ⟨{ w with heap := w.heap.push (.stringIter s 0) }, _, .pointer (some ⟨w.heap.size, 0, none⟩), by simp [Instr.range, hu'], ?_, step_new ha hi _ (.stringIter s 0) 0 (hfr _ (Nat.le_refl _) (Nat.lt_succ_self _)) rfl rfl rfl rfl (push_new rfl)⟩
    exact .ptr Ren.upd_self

theorem nextA_ok (ha : Abs T st) (hi : Inv T.n0 base ι st.see w) {ty : TypeId} {x x' u : Value} (hx : Rv ι x x') (h : nextA T st x = some (u, st')) :
    ∃ w' v', (Instr.next x' true ty).run P w = .ok v' w' ∧ Rv ι u v' ∧ Stp T base st st' ι ι w w' := by
  cases x <;> simp only [nextA] at h <;> (try (cases h; done))
  rename_i p
  cases p with
  | none => cases h
  | some a =>
    obtain ⟨b, o, c, sz, rfl, rfl, hb⟩ := ptr_inv hT hx
    simp only at h
    cases hs : st.see b with
    | none => rw [hs] at h; cases h
    | some en =>
      obtain ⟨ob, fam⟩ := en
      rw [hs] at h
      cases ob <;> (try simp only at h) <;> (try (cases h; done))
      rename_i s pos
      cases ho : Nat.beq o 0 with
      | false => rw [ho] at h; cases h
      | true =>
        rw [ho] at h
        obtain rfl := Nat.eq_of_beq_eq_true ho
        simp only [cond_true] at h
        obtain ⟨c', s', k1, q1⟩ := hi.ob b _ hs
        rw [hb] at k1; cases k1
        have hobj : (getObj c).run P w = .ok (.stringIter s pos) w := by
          have q : w.heap[c]? = some (.stringIter s pos) := q1
          simp [getObj, Sem.run, q]
        cases hl : Nat.blt pos s.data.toList.length with
        | true =>
          rw [hl] at h
          simp only [cond_true] at h
          have hlt : pos < s.size := by rw [size_list]; exact Nat.le_of_ble_eq_true hl
          cases hlow : St.low { st with h := st.h.set b (some ⟨.siter s (pos + (Utf8.decode s pos).2), fam⟩) } T.n0 b with
          | none => rw [hlow] at h; cases h
          | some s2 =>
            rw [hlow] at h; cases h
            obtain ⟨hn, rfl⟩ := low_some hlow
            have q : w.heap[c]? = some (.stringIter s pos) := q1
            have hcl : c < w.heap.size := (Array.getElem?_eq_some_iff.1 q).1
            refine ⟨{ w with heap := w.heap.setIfInBounds c (.stringIter s (pos + (Utf8.decode s pos).2)) }, .tuple #[.bool true, .int .i64 pos, .int .i32 (Utf8.decode s pos).1], ?_, rv_tuple (.cons (.bool _) (.cons (.int _ _) (.cons (.int _ _) .nil))), ?_⟩
            · simp [Instr.next, hobj, hlt, goInt, setObj, Sem.run, q]
            · refine step_put ha hi b _ (some ⟨.siter s (pos + (Utf8.decode s pos).2), fam⟩) hs hn (fun e h => by cases h; exact ⟨rfl, rfl⟩) c sz hb (fun k hk => ?_)
                (fun e h => by cases h; show (w.heap.setIfInBounds c _)[c]? = _; simp [Array.getElem?_setIfInBounds, hcl]) (fun i ei z hne h1 h2 => ?_) rfl rfl rfl (by simp)
              · show (w.heap.setIfInBounds c _)[k]? = _
                rw [Array.getElem?_setIfInBounds_ne (Ne.symm hk)]
              · exfalso
                have hf := hi.fam i b ei _ c z sz h1 hs h2 hb
                have hir := ha.sole b _ (see_get hs) rfl
                have hk : isCells ei.ob = false := by
                  obtain ⟨c2, s2, k1, k2⟩ := hi.ob i ei h1
                  rw [h2] at k1; cases k1
                  cases hob : ei.ob with
                  | cells cs el ex fz => rw [hob] at k2; obtain ⟨_, _, q', _⟩ := k2; rw [q] at q'; cases q'
                  | _ => rfl
                have := ha.sole i ei (see_get h1) hk
                simp only at hf hir
                omega
        | false =>
          rw [hl] at h; cases h
          have hge : ¬ pos < s.size := by
            rw [size_list]
            intro hlt
            rw [show Nat.blt pos s.data.toList.length = true from Nat.ble_eq_true_of_le hlt] at hl; cases hl
          exact ⟨w, _, by simp [Instr.next, hobj, hge], rv_tuple (.cons (.bool _) .nil), .refl ha hi⟩

theorem newCells_ok (ha : Abs T st) (hi : Inv T.n0 base ι st.see w) {w0 : World} {e : TypeId} {l : List Value} {arr : Array Value} {ex : Bool} (hl : l.length ≤ arr.size) (hex : ex = true → l.length = arr.size)
    (hr : ∀ (i : Nat) v, l[i]? = some v → ∃ v', arr.toList[i]? = some v' ∧ Rv ι v v') (hfr : ι st.next = none)
    (h0 : w0.heap = w.heap) (ho : w0.os = w.os) (ht : w0.tape = w.tape) (hp : w0.output = w.output) :
    Stp T base st (st.new (.cells l e ex false)).2 ι (ι.upd st.next (w.heap.size, arr.size)) w { w0 with heap := w0.heap.push (.cells arr e) } := by
  have hh : ({ w0 with heap := w0.heap.push (.cells arr e) } : World).heap = w.heap.push (.cells arr e) := by show w0.heap.push _ = _; rw [h0]
  exact step_new ha hi _ (.cells arr e) arr.size hfr hh ho ht hp ⟨arr, (0, 0), push_new hh, rfl, hl, hex, hr, Nat.le_refl _, fun _ i _ => by omega⟩

theorem makeSliceA_ok (ha : Abs T st) (hi : Inv T.n0 base ι st.see w) {ty : TypeId} {l l' c c' u : Value} (hl : Rv ι l l') (hc : Rv ι c c') (h : makeSliceA T st ty l c = some (u, st')) (hfr : ∀ id, st.next ≤ id → id < st'.next → ι id = none) :
    ∃ w' ι' v', (Instr.makeSlice ty l' c').run P w = .ok v' w' ∧ Rv ι' u v' ∧ Stp T base st st' ι ι' w w' := by
  unfold makeSliceA at h
  cases hu : T.und ty with
  | none => rw [hu] at h; cases h
  | some d =>
    rw [hu] at h
    have hu' := run_und hT hu
    cases d <;> (try simp only at h) <;> (try (cases h; done))
    rename_i e
    cases h1 : natOf l with
    | none => rw [h1] at h; simp at h
    | some n =>
      cases h2 : natOf c with
      | none => rw [h1, h2] at h; simp at h
      | some m =>
        cases h3 : T.size e with
        | none => rw [h1, h2, h3] at h; simp at h
        | some k =>
          cases h4 : T.zero e with
          | none => rw [h1, h2, h3, h4] at h; simp at h
          | some z =>
            rw [h1, h2, h3, h4] at h
            simp only at h
            cases hb : Nat.ble n m && (Nat.ble m 100000 && (Nat.beq (vcells z).length k && Nat.ble ((T.ty.get e).elim 0 (·.bytes)) 1000000)) with
            | false => rw [hb] at h; cases h
            | true =>
              rw [hb] at h; cases h
              obtain ⟨b1, b2⟩ := ble_and hT hb
              obtain ⟨b2, b3⟩ := ble_and hT b2
              obtain ⟨b3, b4⟩ := ble_and hT b3
              have b1 := Nat.le_of_ble_eq_true b1
              have b2 := Nat.le_of_ble_eq_true b2
              have b3 := Nat.eq_of_beq_eq_true b3
              have b4 := Nat.le_of_ble_eq_true b4
              obtain ⟨k1, rfl⟩ := natOf_inv h1
              obtain ⟨k2, rfl⟩ := natOf_inv h2
              obtain rfl := rv_int_inv hl
              obtain rfl := rv_int_inv hc
              obtain ⟨i, hi2, hi3⟩ := size_ti hT h3
              rw [hi2] at b4
              simp only [Option.elim_some] at b4
              obtain ⟨hz1, hz2⟩ := run_zero hT h4 w
              have hzc := rv_cells (rv_closed ι _ _ hz2)
              have hzl := hzc.1
              simp only [Array.length_toList] at hzl
              have e1 : IntKind.i64.wrap (n : Int) = n := IntWalk.i64_in _ (by omega)
              have e2 : IntKind.i64.wrap (m : Int) = m := IntWalk.i64_in _ (by omega)
              have hbm : (i.bytes : Int) * (m : Int) ≤ 1000000 * 100000 := by
                have : i.bytes * m ≤ 1000000 * 100000 := Nat.mul_le_mul b4 b2
                omega
              have t1 : ¬ ((i.bytes : Int) * (m : Int) > 2 ^ 48) := by omega
              have hsz : z.cells.size = k := by omega
              have hcell : All2 (Rv ι) (reps m (vcells z)) ((Array.range (m * k)).map fun j => z.cells[j % z.cells.size]!).toList := by
                rw [← hsz, zeros_eq]; exact reps_cells hzc m
              have hrun : (Instr.makeSlice ty (.int k1 (n : Int)) (.int k2 (m : Int))).run P w = .ok (.slice (some ⟨w.heap.size, 0, none⟩) n m) { w with heap := w.heap.push (.cells ((Array.range (m * k)).map fun j => z.cells[j % z.cells.size]!) e) } := by
                by_cases hmk : m * k = 0
                · have hre : ∀ g : Nat → Value, (Array.range 0).map g = #[] := fun g => by apply Array.ext'; simp
                  rw [hmk, hre]
                  simp [Instr.makeSlice, hu', asInt, asIntOf, run_ti hT hi2, e1, e2, t1, run_size hT h3, hmk, newRow, b1]
                  rw [if_neg (by omega), hre]
                · simp [Instr.makeSlice, hu', asInt, asIntOf, run_ti hT hi2, e1, e2, t1, run_size hT h3, hmk, newRow, hz1]
                  first | (intro hbad; exfalso; omega) | omega
              refine ⟨_, _, _, hrun, ?_, newCells_ok hT hC ha hi (ex := true) (by rw [hcell.1]; simp) (fun _ => by rw [hcell.1]; simp) (fun i v hv => hcell.get hv) (hfr _ (Nat.le_refl _) (Nat.lt_succ_self _)) rfl rfl rfl rfl⟩
              exact .slice Ren.upd_self (by unfold UNK; omega)

end
end Go.Proofs.YthdnpikgnmdnnaaGreatDoor.Ev

namespace Go.Proofs.YthdnpikgnmdnnaaGreatDoor.Ev
set_option linter.unusedSimpArgs false
set_option linter.unusedVariables false
set_option linter.unusedSectionVars false
variable [Tok]
open Go.RowKit
set_option linter.unusedSectionVars false

/-- One more entry of a family: a block that lies already, or a new one. -/
theorem step_add {T : Tb} {base : Nat} {st st' : St} {ι : Ren} {w w' : World} (ha : Abs T st) (hi : Inv T.n0 base ι st.see w) (b : Nat) (en : En) (o : Ob) (hb : st.see b = some en) (hce : isCells o = true)
    (h : St.add st T.n0 b o en.fam = some st') (hfr : ι st.next = none) (c sz : Nat)
    (hcase : (w'.heap = w.heap ∧ ι b = some (c, sz)) ∨ (c = w.heap.size ∧ ∃ obj, w'.heap = w.heap.push obj))
    (hob : ObR ι w' c sz o) (ho : w'.os = w.os) (ht : w'.tape = w.tape) (hp : w'.output = w.output) :
    Stp T base st st' ι (ι.upd st.next (c, sz)) w w' ∧ st'.next = st.next + 1 := by
  obtain ⟨hn0, rfl⟩ := low_some h
  refine ⟨?_, rfl⟩
  have hbg := see_get hb
  have hblt := ha.lt b en hbg
  have hle : ι.le (ι.upd st.next (c, sz)) := Ren.le_upd hfr
  have hne : ∀ id e, st.h.get id = some e → id ≠ st.next := fun id e h e' => by have := ha.lt id e h; omega
  have hg : ∀ id, (st.h.set st.next (some ⟨o, en.fam⟩)).get id = if id = st.next then some ⟨o, en.fam⟩ else st.h.get id := fun id => Tr.get_set _ _ _ _
  have hold : ∀ k, k < w.heap.size → w'.heap[k]? = w.heap[k]? := by
    intro k hk
    rcases hcase with ⟨h1, _⟩ | ⟨_, obj, h1⟩
    · rw [h1]
    · exact push_old h1 hk
  have hsize : w.heap.size ≤ w'.heap.size := by
    rcases hcase with ⟨h1, _⟩ | ⟨_, obj, h1⟩
    · rw [h1]; exact Nat.le_refl _
    · rw [h1]; simp
  have hmem : ∀ f, members { st with h := st.h.set st.next (some ⟨o, en.fam⟩), next := st.next + 1, mem := st.mem.set en.fam (some (st.next :: members st en.fam)), wl := b :: st.wl } f = if f = en.fam then st.next :: members st en.fam else members st f := by
    intro f
    unfold members
    simp only [Tr.get_set]
    by_cases e : f = en.fam
    · rw [if_pos e, if_pos e]; rfl
    · rw [if_neg e, if_neg e]
  have hsub : ∀ f id, id ∈ members st f → id ∈ members { st with h := st.h.set st.next (some ⟨o, en.fam⟩), next := st.next + 1, mem := st.mem.set en.fam (some (st.next :: members st en.fam)), wl := b :: st.wl } f := by
    intro f id hid
    rw [hmem]
    by_cases e : f = en.fam
    · rw [if_pos e]; rw [e] at hid; exact List.mem_cons_of_mem _ hid
    · rw [if_neg e]; exact hid
  have hsee : ∀ id e, St.see { st with h := st.h.set st.next (some ⟨o, en.fam⟩), next := st.next + 1, mem := st.mem.set en.fam (some (st.next :: members st en.fam)), wl := b :: st.wl } id = some e → (id = st.next ∧ e = ⟨o, en.fam⟩) ∨ (id ≠ st.next ∧ st.see id = some e) := by
    intro id e h
    have hv := see_vis h
    have hgg := see_get h
    rw [show (St.h { st with h := st.h.set st.next (some ⟨o, en.fam⟩), next := st.next + 1, mem := st.mem.set en.fam (some (st.next :: members st en.fam)), wl := b :: st.wl }) = st.h.set st.next (some ⟨o, en.fam⟩) from rfl, hg] at hgg
    by_cases e' : id = st.next
    · rw [if_pos e'] at hgg; cases hgg; exact .inl ⟨e', rfl⟩
    · rw [if_neg e'] at hgg; exact .inr ⟨e', by rw [see_eq (show hidden st.msk id = false from hv)]; exact hgg⟩
  -- what lies at the block of the new entry is of the family
  have hsame : ∀ j ej s', j ≠ st.next → st.see j = some ej → ι j = some (c, s') → ej.fam = en.fam := by
    intro j ej s' _ h1 h2
    rcases hcase with ⟨_, h3⟩ | ⟨rfl, _⟩
    · exact hi.fam j b ej en c s' sz h1 hb h2 h3
    · obtain ⟨c2, s2, k1, k2⟩ := hi.ob j ej h1
      rw [h2] at k1; cases k1
      have := k2.lt; omega
  refine
    { abs := ⟨fun id e h => ?_, fun id e h => ?_, fun id e h hc => ?_, fun f l h => ?_, fun id e h => ?_, fun id h => ha.msk id (by have h' : st.next + 1 ≤ id := h; omega), Nat.le_succ_of_le ha.n0, fun y hy => ?_⟩
      inv := ⟨fun id e h => ?_, fun i j ei ej c' s s' h1 h2 h3 h4 => ?_, fun id c' s hn h => ?_, fun g hg => let ⟨z, hz⟩ := hi.glob g hg; ⟨z, hle _ _ hz⟩, by have := hi.size; omega⟩
      le := hle
      dom := fun id h => ?_
      next := Nat.le_succ _
      msk := rfl
      mem := hsub
      wl := fun y hy => List.mem_cons_of_mem _ hy
      old := fun id hlt h => absurd (by show (st.h.set _ _).get id = _; rw [hg, if_neg (by omega)]) h
      hid := fun id h => ?_
      fam := fun id e e' h1 h2 => ?_
      gone := fun id hlt h => by show (st.h.set _ _).get id = _; rw [hg, if_neg (by omega)]; exact h
      newfam := fun id e hge h => ?_
      newid := fun id c' z hge hn h => ?_
      frame := fun k hk _ => hold k hk
      os := ho, tape := ht, output := hp
      size := hsize }
  · have h : (st.h.set st.next (some ⟨o, en.fam⟩)).get id = some e := h
    rw [hg] at h
    by_cases e' : id = st.next
    · rw [e']; exact Nat.lt_succ_self _
    · rw [if_neg e'] at h; exact Nat.lt_succ_of_lt (ha.lt _ _ h)
  · have h : (st.h.set st.next (some ⟨o, en.fam⟩)).get id = some e := h
    rw [hg] at h
    by_cases e' : id = st.next
    · rw [if_pos e'] at h; cases h
      rw [hmem, if_pos rfl, e']; exact List.mem_cons_self ..
    · rw [if_neg e'] at h; exact hsub _ _ (ha.own _ _ h)
  · have h : (st.h.set st.next (some ⟨o, en.fam⟩)).get id = some e := h
    rw [hg] at h
    by_cases e' : id = st.next
    · rw [if_pos e'] at h; cases h; rw [hce] at hc; cases hc
    · rw [if_neg e'] at h; exact ha.sole _ _ h hc
  · have h : (st.mem.set en.fam (some (st.next :: members st en.fam))).get f = some l := h
    rw [Tr.get_set] at h
    by_cases e' : f = en.fam
    · rw [e']; exact Nat.lt_succ_of_lt (ha.famlt b en hbg)
    · rw [if_neg e'] at h; exact Nat.lt_succ_of_lt (ha.mem f l h)
  · have h : (st.h.set st.next (some ⟨o, en.fam⟩)).get id = some e := h
    rw [hg] at h
    by_cases e' : id = st.next
    · rw [if_pos e'] at h; cases h; exact Nat.lt_succ_of_lt (ha.famlt b en hbg)
    · rw [if_neg e'] at h; exact Nat.lt_succ_of_lt (ha.famlt _ _ h)
  · rcases List.mem_cons.1 hy with rfl | hy
    · exact ⟨hn0, Nat.lt_succ_of_lt hblt⟩
    · exact ⟨(ha.wl _ hy).1, Nat.lt_succ_of_lt (ha.wl _ hy).2⟩
  · rcases hsee id e h with ⟨rfl, rfl⟩ | ⟨hne', h⟩
    · exact ⟨c, sz, Ren.upd_self, hob.mono hle⟩
    · obtain ⟨c', s, h1, h2⟩ := hi.ob id e h
      exact ⟨c', s, hle _ _ h1, (h2.world (hold _ h2.lt)).mono hle⟩
  · rcases hsee i ei h1 with ⟨rfl, rfl⟩ | ⟨n1, g1⟩ <;> rcases hsee j ej h2 with ⟨rfl, rfl⟩ | ⟨n2, g2⟩
    · rfl
    · rw [Ren.upd_self] at h3; cases h3
      rw [Ren.upd_ne n2] at h4
      exact (hsame j ej s' n2 g2 h4).symm
    · rw [Ren.upd_self] at h4; cases h4
      rw [Ren.upd_ne n1] at h3
      exact hsame i ei s n1 g1 h3
    · rw [Ren.upd_ne n1] at h3; rw [Ren.upd_ne n2] at h4
      exact hi.fam i j ei ej c' s s' g1 g2 h3 h4
  · by_cases e : id = st.next
    · rw [e, Ren.upd_self] at h; cases h
      rcases hcase with ⟨_, h3⟩ | ⟨rfl, _⟩
      · exact hi.sep b c sz hn0 h3
      · exact hi.size
    · rw [Ren.upd_ne e] at h; exact hi.sep id c' s hn h
  · by_cases e : id = st.next
    · subst e; exact ⟨Nat.le_refl _, Nat.lt_succ_self _⟩
    · exact absurd (Ren.upd_ne e) h
  · show (st.h.set _ _).get id = _
    rw [hg]
    by_cases e : id = st.next
    · subst e; rw [ha.msk _ (Nat.le_refl _)] at h; cases h
    · rw [if_neg e]
  · have h2 : (st.h.set st.next (some ⟨o, en.fam⟩)).get id = some e' := h2
    rw [hg, if_neg (hne id e h1), h1] at h2; cases h2; rfl
  · have h : (st.h.set st.next (some ⟨o, en.fam⟩)).get id = some e := h
    rw [hg] at h
    by_cases e' : id = st.next
    · rw [if_pos e'] at h; cases h
      exact .inr ⟨b, en, List.mem_cons_self .., hblt, hbg, rfl⟩
    · rw [if_neg e'] at h; have := ha.lt _ _ h; have hge' : st.next ≤ id := hge; omega
  · by_cases e : id = st.next
    · rw [e, Ren.upd_self] at h; cases h
      rcases hcase with ⟨_, h3⟩ | ⟨rfl, _⟩
      · refine .inr ⟨b, sz, List.mem_cons_self .., hblt, h3, fun e' he' => ?_⟩
        have he' : (st.h.set st.next (some ⟨o, en.fam⟩)).get id = some e' := he'
        rw [hg, if_pos e] at he'; cases he'
        exact ⟨en, hbg, rfl⟩
      · exact .inl (Nat.le_refl _)
    · rw [Ren.upd_ne e, hn] at h; cases h

end Go.Proofs.YthdnpikgnmdnnaaGreatDoor.Ev

namespace Go.Proofs.YthdnpikgnmdnnaaGreatDoor.Ev
set_option linter.unusedSimpArgs false
set_option linter.unusedVariables false
set_option linter.unusedSectionVars false
variable [Tok]
open Go.RowKit
set_option linter.unusedSectionVars false

theorem nextcap_le (n c : Nat) (h : c < n) : Builtin.nextslicecap n c ≤ 2 * n + 1000 := by
  have g : ∀ (r c : Nat), c ≤ 2 * n + 1000 → Builtin.growBy n r c ≤ 2 * n + 1000 := by
    intro r
    induction r with
    | zero => intro c hc; exact hc
    | succ r ih =>
      intro c hc
      simp only [Builtin.growBy]
      split
      · exact hc
      · exact ih _ (by omega)
  unfold Builtin.nextslicecap
  split
  · omega
  · split
    · omega
    · exact g 4 c (by omega)

theorem bytesOf_rv {ι : Ren} (l : List UInt8) : All2 (Rv ι) (bytesOf l) (l.map fun b => Value.int .u8 b.toNat) := by
  refine ⟨by simp [bytesOf], fun i x y hx hy => ?_⟩
  unfold bytesOf at hx
  rw [hx] at hy
  cases hy
  rw [List.getElem?_map] at hx
  cases hl : l[i]? with
  | none => rw [hl] at hx; cases hx
  | some b => rw [hl] at hx; cases hx; exact .int _ _

section
variable {P : Program} {T : Tb} (hT : TbOk P T) (hC : CmpOk P T) {base : Nat} {ι : Ren} {st st' : St} {w : World}
include hT hC

/-- What an append takes its cells from, in every world of this memory. -/
theorem sourceA_ok {V : St} (hi : Inv T.n0 base ι V.see w) {size n : Nat} {x x' : Value} {nw : List Value} (hx : Rv ι x x') (h : sourceA V size x = some (nw, n)) :
    (∀ w, (Builtin.lenOf x').run P w = .ok n w) ∧ ∃ arr : Array Value, All2 (Rv ι) nw arr.toList ∧ ∀ w1 : World, w1.heap = w.heap → (Builtin.firstCells size n x').run P w1 = .ok arr w1 := by
  cases x <;> (try simp only [sourceA] at h) <;> (try (cases h; done))
  · -- a string
    rename_i s
    cases hx
    cases hb : Nat.beq size 1 with
    | false => rw [hb] at h; cases h
    | true =>
      rw [hb] at h; cases h
      have e1 : s.extract 0 s.data.toList.length = s := by
        rw [← size_list]
        apply bytes_ext
        simp
      have e2 : ∀ w, (Builtin.lenOf (.string s)).run P w = .ok s.data.toList.length w := by
        intro w
        show Sem.run P (Pure.pure s.size) w = _
        rw [← size_list]; rfl
      refine ⟨e2, s.data.map fun b => Value.int .u8 b.toNat, by rw [Array.toList_map]; exact bytesOf_rv _, fun w1 _ => ?_⟩
      show Sem.run P (Pure.pure ((s.extract 0 s.data.toList.length).data.map fun b => Value.int .u8 b.toNat)) w1 = _
      rw [e1]; rfl
  · rename_i a m cap
    cases a with
    | none =>
      cases h
      have : x' = .slice none 0 0 ∧ m = 0 := by cases hx; exact ⟨rfl, rfl⟩
      obtain ⟨rfl, rfl⟩ := this
      exact ⟨fun w => by simp [Builtin.lenOf], #[], .nil, fun w1 _ => by simp [Builtin.firstCells]⟩
    | some a =>
      simp only at h
      have hlen : ∃ a' cap', x' = .slice (some a') m cap' := by cases hx <;> exact ⟨_, _, rfl⟩
      cases hb : Nat.beq m 0 with
      | true =>
        rw [hb] at h; cases h
        obtain ⟨a', cap', rfl⟩ := hlen
        have hm := Nat.eq_of_beq_eq_true hb
        subst hm
        exact ⟨fun w => by simp [Builtin.lenOf], #[], .nil, fun w1 _ => by simp [Builtin.firstCells, loadCells, loadCellsFrom]⟩
      | false =>
        rw [hb] at h
        simp only [cond_false] at h
        cases hc : V.cellsAt a.block a.off (m * size) with
        | none => rw [hc] at h; cases h
        | some l =>
          rw [hc] at h; cases h
          have key : ∃ b o c sz cap', a = ⟨b, o, none⟩ ∧ x' = .slice (some ⟨c, o, none⟩) n cap' ∧ ι b = some (c, sz) := by
            cases hx with
            | slice hb' _ => exact ⟨_, _, _, _, _, rfl, rfl, hb'⟩
            | sliceU hb' _ _ => exact ⟨_, _, _, _, _, rfl, rfl, hb'⟩
            | sliceE => cases hb
          obtain ⟨b, o, c, sz, cap', rfl, rfl, hb'⟩ := key
          obtain ⟨l', h1, h2, h3⟩ := cellsAt_ok hi hc hb'
          refine ⟨fun w => by simp [Builtin.lenOf], l'.toArray, h1, fun w1 hw1 => ?_⟩
          have h3' : ∀ (j : Nat) v, l'[j]? = some v → w1.cell? ⟨c, o + j, none⟩ = some v := fun j v hv => by
            have := h3 j v hv
            simp only [World.cell?] at this ⊢
            rw [hw1]; exact this
          simp [Builtin.firstCells, run_cells h2 h3']

end
end Go.Proofs.YthdnpikgnmdnnaaGreatDoor.Ev

namespace Go.Proofs.YthdnpikgnmdnnaaGreatDoor.Ev
set_option linter.unusedSimpArgs false
set_option linter.unusedVariables false
set_option linter.unusedSectionVars false
variable [Tok]
open Go.RowKit
set_option linter.unusedSectionVars false

theorem bind_step {α β : Type} {P : Program} {x : Sem α} {f : α → Sem β} {a : α} {w w' : World} (h : x.run P w = .ok a w') : (x >>= f).run P w = (f a).run P w' := by
  rw [Sem.run_bind, h]; rfl

section
variable {P : Program} {T : Tb} (hT : TbOk P T) (hC : CmpOk P T) {base : Nat} {ι : Ren} {st st' : St} {w : World}
include hT hC

/-- An append that fits. -/
theorem run_app_fit {ts : Array TypeId} {tt sT xT elem : TypeId} {xd : TypeDesc} {size n len cap : Nat} {bs : Option Addr} {x' : Value} {arr : Array Value} {w' : World}
    (h0 : ts[0]? = some sT) (h1 : ts[1]? = some xT) (hu : T.und sT = some (.slice elem)) (hx : T.und xT = some xd) (hn : appendA.notInt xd = true) (hs : T.size elem = some size)
    (hl : (Builtin.lenOf x').run P w = .ok n w) (hf : (Builtin.firstCells size n x').run P w = .ok arr w) (hfit : len + n ≤ cap)
    (hst : ∀ a, bs = some a → (storeCells (a.add (len * size)) arr.toList).run P w = .ok () w') (hno : bs = none → w' = w) :
    (Builtin.append_ ts tt #[.slice bs len cap, x']).run P w = .ok (.slice bs (len + n) cap) w' := by
  have e0 : (#[.slice bs len cap, x'] : Array Value)[0]? = some (.slice bs len cap) := rfl
  have e1 : (#[.slice bs len cap, x'] : Array Value)[1]? = some x' := rfl
  unfold Builtin.append_
  rw [h0, h1, e0, e1]
  dsimp only
  rw [bind_step (run_und hT hu w)]
  dsimp only
  rw [bind_step (run_size hT hs w), bind_step (run_und hT hx w)]
  cases xd with
  | int k => cases hn
  | _ =>
    dsimp only
    rw [bind_step (show (Pure.pure false : Sem Bool).run P w = .ok false w from rfl), if_neg Bool.false_ne_true, bind_step hl, if_pos hfit]
    rw [bind_step (show (if (!false) = true then Builtin.firstCells size n x' else _ : Sem (Array Value)).run P w = .ok arr w from hf)]
    cases bs with
    | none => obtain rfl := hno rfl; rfl
    | some a =>
      dsimp only
      rw [bind_step (hst a rfl)]
      rfl

/-- An append that makes a new block. -/
theorem run_app_grow {ts : Array TypeId} {tt sT xT elem : TypeId} {xd : TypeDesc} {i : TypeInfo} {z : Value} {n len cap : Nat} {bs : Option Addr} {x' : Value} {arr old : Array Value}
    (h0 : ts[0]? = some sT) (h1 : ts[1]? = some xT) (hu : T.und sT = some (.slice elem)) (hx : T.und xT = some xd) (hn : appendA.notInt xd = true) (hi : T.ty.get elem = some i) (hz : i.zero = some z)
    (hb : i.bytes ≤ 1000000) (hl : (Builtin.lenOf x').run P w = .ok n w) (hsmall : len + n ≤ 1000000)
    (hold : ∀ w1 : World, w1.heap = w.heap → (Builtin.firstCells i.size len (.slice bs len cap)).run P w1 = .ok old w1)
    (hf : ∀ w1 : World, w1.heap = w.heap → (Builtin.firstCells i.size n x').run P w1 = .ok arr w1) (hgrow : cap < len + n) :
    ∃ (newCap : Nat) (w1 : World), len + n ≤ newCap ∧ w1.heap = w.heap ∧ w1.os = w.os ∧ w1.tape = w.tape ∧ w1.output = w.output ∧
      (Builtin.append_ ts tt #[.slice bs len cap, x']).run P w =
        .ok (.slice (some ⟨w.heap.size, 0, none⟩) (len + n) newCap) { w1 with heap := w1.heap.push (.cells (old ++ arr ++ Builtin.zeroCells z.cells (newCap - (len + n))) elem) } := by
  have hty := fun w => run_ti hT hi w
  have hsz : ∀ w, (sizeOf elem).run P w = .ok i.size w := fun w => by simp [sizeOf, hty]
  have hzr : ∀ w, (zeroValue elem).run P w = .ok z w := fun w => by simp [zeroValue, hty, hz]
  have hcap : ¬ (Builtin.nextslicecap (len + n) cap * i.bytes > 2 ^ 48) := by
    have := nextcap_le (len + n) cap hgrow
    have h2 : Builtin.nextslicecap (len + n) cap * i.bytes ≤ 2001000 * 1000000 := Nat.mul_le_mul (by omega) hb
    omega
  have hmax : ¬ ((((len + n : Nat) : Int) > IntKind.i64.max) ∧ (false = true ∨ i.bytes = 0)) := by
    have : IntKind.i64.max = 9223372036854775807 := rfl
    omega
  have hng : ¬ (len + n ≤ cap) := by omega
  have hnc : len + n ≤ (Question.appendCap (len + n) cap elem).cut (w.tape w.drawn (.appendCap (len + n) cap elem)) := by simp [Question.cut]
  have hch : (choose (.appendCap (len + n) cap elem)).run P w = .ok ((Question.appendCap (len + n) cap elem).cut (w.tape w.drawn (.appendCap (len + n) cap elem))) { w with drawn := w.drawn + 1 } := by simp [Question.forced]
  have ho := hold { w with drawn := w.drawn + 1 } rfl
  have hff := hf { w with drawn := w.drawn + 1 } rfl
  refine ⟨_, { w with drawn := w.drawn + 1 }, hnc, rfl, rfl, rfl, rfl, ?_⟩
  generalize (Question.appendCap (len + n) cap elem).cut (w.tape w.drawn (.appendCap (len + n) cap elem)) = nc at hch ⊢
  have e0 : (#[.slice bs len cap, x'] : Array Value)[0]? = some (.slice bs len cap) := rfl
  have e1 : (#[.slice bs len cap, x'] : Array Value)[1]? = some x' := rfl
  unfold Builtin.append_
  rw [h0, h1, e0, e1]
  dsimp only
  rw [bind_step (run_und hT hu w)]
  dsimp only
  rw [bind_step (hsz w), bind_step (run_und hT hx w)]
  cases xd with
  | int k => cases hn
  | _ =>
    dsimp only
    rw [bind_step (show (Pure.pure false : Sem Bool).run P w = .ok false w from rfl), if_neg Bool.false_ne_true, bind_step hl, if_neg hng]
    rw [bind_step (hty w), if_neg hmax, bind_step (hty w), if_neg hcap, bind_step hch, bind_step (hty _), bind_step (run_askRoom _ _ _), bind_step ho]
    rw [bind_step (show (if (!false) = true then Builtin.firstCells i.size n x' else _ : Sem (Array Value)).run P { w with drawn := w.drawn + 1 } = .ok arr _ from hff)]
    rw [bind_step (hzr _)]
    rfl


theorem oneC_all {nw : List Value} {arr : Array Value} (h : All2 (Rv ι) nw arr.toList) (ho : nw.all oneC = true) : ∀ v ∈ arr.toList, v.oneCell' = true := by
  intro v hv
  obtain ⟨i, hi', rfl⟩ := List.mem_iff_getElem.1 hv
  have hl := h.1
  have hil : i < nw.length := by omega
  have hr := h.2 i nw[i] _ (List.getElem?_eq_getElem hil) (List.getElem?_eq_getElem hi')
  exact oneC_conc (by rw [rv_oneC hr]; exact List.all_eq_true.1 ho _ (List.getElem_mem hil))

/-- The new block of an append that grows. -/
theorem grown_ok (ha : Abs T st) (hi : Inv T.n0 base ι st.see w) {elem size need nc : Nat} {l : List Value} {cells : Array Value} {zc : Array Value} {w1 : World} {u : Value}
    (hl : All2 (Rv ι) l cells.toList) (hll : l.length = need * size) (hzc : zc.size = size) (hnc : need ≤ nc) (h : grownA st elem size l need = some (u, st')) (hfr : ∀ id, st.next ≤ id → id < st'.next → ι id = none)
    (h0 : w1.heap = w.heap) (ho : w1.os = w.os) (ht : w1.tape = w.tape) (hp : w1.output = w.output) :
    ∃ ι', Rv ι' u (.slice (some ⟨w.heap.size, 0, none⟩) need nc) ∧ Stp T base st st' ι ι' w { w1 with heap := w1.heap.push (.cells (cells ++ Builtin.zeroCells zc (nc - need)) elem) } := by
  simp only [grownA] at h
  cases h
  have hcs : cells.size = need * size := by have := hl.1; simp only [Array.length_toList] at this; omega
  have hsz : (cells ++ Builtin.zeroCells zc (nc - need)).size = nc * size := by
    have : (nc - need) * size + need * size = nc * size := by rw [← Nat.add_mul]; congr 1; omega
    simp [Builtin.zeroCells, hcs, hzc]
    omega
  refine ⟨_, ?_, newCells_ok hT hC ha hi (ex := false) (by rw [hsz, hll]; exact Nat.mul_le_mul_right _ hnc) (fun h => by cases h) (fun i v hv => ?_) (hfr _ (Nat.le_refl _) (Nat.lt_succ_self _)) h0 ho ht hp⟩
  · refine .sliceU Ren.upd_self hnc ?_
    rw [hsz]; omega
  · obtain ⟨v', h1, h2⟩ := hl.get hv
    refine ⟨v', ?_, h2⟩
    rw [Array.toList_append, List.getElem?_append_left (List.getElem?_eq_some_iff.1 h1).1]
    exact h1

theorem appendOpen_ok (ha : Abs T st) (hi : Inv T.n0 base ι st.see w) {ts : Array TypeId} {tt sT xT elem : TypeId} {xd : TypeDesc} {i : TypeInfo} {z : Value} {n len c o sz cap : Nat} {b : Nat} {x' u : Value} {nw : List Value} {arr : Array Value}
    (h0 : ts[0]? = some sT) (h1 : ts[1]? = some xT) (hu : T.und sT = some (.slice elem)) (hx : T.und xT = some xd) (hn : appendA.notInt xd = true) (hti : T.ty.get elem = some i) (hz : i.zero = some z) (hzs : z.cells.size = i.size)
    (hbb : i.bytes ≤ 1000000) (hsmall : len + n ≤ 1000000) (hb : ι b = some (c, sz)) (hcap : len ≤ cap) (hfit : cap * i.size ≤ sz)
    (hlen : ∀ w, (Builtin.lenOf x').run P w = .ok n w) (hnw : All2 (Rv ι) nw arr.toList) (hnl : nw.length = n * i.size) (hone : nw.all oneC = true)
    (hsrc : ∀ w1 : World, w1.heap = w.heap → (Builtin.firstCells i.size n x').run P w1 = .ok arr w1)
    (h : appendOpen T st elem i.size ⟨b, 0, none⟩ len n nw = some (u, st')) (hfr : ∀ id, st.next ≤ id → id < st'.next → ι id = none) :
    ∃ w' ι' v', (Builtin.append_ ts tt #[.slice (some ⟨c, 0, none⟩) len cap, x']).run P w = .ok v' w' ∧ Rv ι' u v' ∧ Stp T base st st' ι ι' w w' := by
  simp only [appendOpen] at h
  cases hs : st.see b with
  | none => rw [hs] at h; cases h
  | some en =>
    obtain ⟨ob, fam⟩ := en
    rw [hs] at h
    cases ob <;> (try simp only at h) <;> (try (cases h; done))
    rename_i cs el ex fz
    cases fz with
    | true => cases h
    | false =>
      simp only at h
      cases hq : Nat.beq el elem && Nat.ble (len * i.size) cs.length with
      | false => rw [hq] at h; cases h
      | true =>
        rw [hq] at h
        simp only [cond_true] at h
        obtain ⟨q1, q2⟩ := ble_and hT hq
        obtain rfl := Nat.eq_of_beq_eq_true q1
        have q2 := Nat.le_of_ble_eq_true q2
        cases hp : poison T.n0 (len * i.size) b (members st fam) st with
        | none => rw [hp] at h; cases h
        | some s1 =>
          rw [hp] at h
          simp only at h
          have PO := poison_ok _ _ _ ha hi hp
          have hs1 : s1.see b = some ⟨.cells cs el ex false, fam⟩ := by
            rw [see_eq (by rw [PO.stp.msk]; exact see_vis hs), PO.keep]; exact see_get hs
          cases hl2 : St.low { s1 with h := s1.h.set b (some ⟨.cells (cs.take (len * i.size)) el false false, fam⟩) } T.n0 b with
          | none => rw [hl2] at h; cases h
          | some s2 =>
            rw [hl2] at h
            simp only at h
            cases hl3 : St.add s2 T.n0 b (.cells (cs.take (len * i.size) ++ nw) el false false) fam with
            | none => rw [hl3] at h; cases h
            | some s3 =>
              rw [hl3] at h; cases h
              obtain ⟨hn0, hs2⟩ := low_some hl2
              obtain ⟨c', s', k1, blk, fr, b1, b2, b3, b4, b5, b6, b7⟩ := hi.ob b _ hs
              rw [hb] at k1; cases k1
              have hnext2 : s2.next = st.next := by rw [hs2]; exact PO.next
              have hnext3 : st'.next = s2.next + 1 := by obtain ⟨_, rfl⟩ := low_some hl3; rfl
              -- the source's block in a world whose cells are the same up to the length, and from there on the new ones
              have hin : All2 (Rv ι) (cs.take (len * i.size)) (blk.toList.take (len * i.size)) := by
                refine ⟨by simp; omega, fun j x y hx hy => ?_⟩
                rw [List.getElem?_take] at hx hy
                by_cases hj : j < len * i.size
                · rw [if_pos hj] at hx hy
                  obtain ⟨v', g1, g2⟩ := b5 j x hx
                  rw [g1] at hy; cases hy; exact g2
                · rw [if_neg hj] at hx; cases hx
              have hnl' : arr.size = n * i.size := by have := hnw.1; simp only [Array.length_toList] at this; omega
              by_cases hf : len + n ≤ cap
              · -- it fits
                have hroom : len * i.size + arr.toList.length ≤ blk.size := by
                  have h1 : (len + n) * i.size ≤ cap * i.size := Nat.mul_le_mul_right _ hf
                  rw [Nat.add_mul] at h1
                  simp only [Array.length_toList]
                  omega
                obtain ⟨blk', r1, r2, r3⟩ := setCells_heap c el fr arr.toList (len * i.size) w blk b1 hroom
                obtain ⟨o1, o2, o3, o4⟩ := setCells_side c arr.toList (len * i.size) w
                have hone' := oneC_all hT hC hnw hone
                have hfz := b7 rfl
                have hrun : (storeCells ((⟨c, 0, none⟩ : Addr).add (len * i.size)) arr.toList).run P w = .ok () (w.setCells c (len * i.size) arr.toList) := by
                  rw [addr_add]
                  have := run_storeCells_cells (P := P) c (0 + len * i.size) arr.toList 0 w
                    (fun j hj => by
                      have : len * i.size + j < blk.size := by omega
                      simp [World.cell?, b1, this])
                    (fun j hj => by
                      have := hfz (len * i.size + j) (by omega)
                      simp only [World.frozen?, b1]
                      simpa using this) hone'
                  simpa using this
                have stp2 : Stp T base s1 s2 ι ι w (w.setCells c (len * i.size) arr.toList) := by
                  rw [hs2]
                  refine step_put PO.stp.abs PO.stp.inv b _ (some ⟨.cells (cs.take (len * i.size)) el false false, fam⟩) hs1 hn0 (fun e h => by cases h; exact ⟨rfl, rfl⟩) c sz hb (fun k hk => setCells_ne c _ _ w k hk) (fun e h => ?_) (fun j ej zz hne h1 h2 => ?_) o1 o2 o3 o4
                  · cases h
                    refine ⟨blk', fr, r1, by rw [r2]; exact b2, by simp; omega, (fun h => by cases h), fun j v hv => ?_, b6, b7⟩
                    obtain ⟨v', g1, g2⟩ := hin.get hv
                    refine ⟨v', ?_, g2⟩
                    have hj : j < len * i.size := by
                      have := (List.getElem?_eq_some_iff.1 hv).1
                      simp at this; omega
                    rw [r3, if_neg (by omega)]
                    rw [List.getElem?_take, if_pos hj] at g1
                    exact g1
                  · have h1' := PO.less _ _ h1
                    have hfam : ej.fam = fam := hi.fam j b ej _ c zz sz h1' hs h2 hb
                    have hmem : j ∈ members st fam := by rw [← hfam]; exact ha.own j ej (see_get h1')
                    obtain ⟨cs2, el2, ex2, fz2, e1, e2⟩ := PO.ok j hmem hne ej h1
                    obtain ⟨c2, s2', k1, k2⟩ := hi.ob j ej h1'
                    rw [h2] at k1; cases k1
                    rw [e1] at k2 ⊢
                    obtain ⟨arr2, fr2, p1, p2, p3, p4, p5, p6, p7⟩ := k2
                    rw [b1] at p1; cases p1
                    refine ⟨blk', _, r1, by rw [r2]; exact p2, p3, p4, fun jj v hj => ?_, p6, p7⟩
                    have hjl : jj < cs2.length := (List.getElem?_eq_some_iff.1 hj).1
                    rw [r3, if_neg (by omega)]
                    exact p5 jj v hj
                have hs2' : s2.see b = some ⟨.cells (cs.take (len * i.size)) el false false, fam⟩ := by
                  rw [see_eq (by rw [stp2.msk, PO.stp.msk]; exact see_vis hs), hs2]
                  show (s1.h.set b _).get b = _
                  rw [Tr.get_set, if_pos rfl]
                have hι2 : ι s2.next = none := by rw [hnext2]; exact hfr _ (Nat.le_refl _) (by omega)
                obtain ⟨stp3, _⟩ := step_add (w' := w.setCells c (len * i.size) arr.toList) stp2.abs stp2.inv b _ (.cells (cs.take (len * i.size) ++ nw) el false false) hs2' rfl hl3 hι2 c sz (.inl ⟨rfl, hb⟩)
                  (by
                    refine ⟨blk', fr, r1, by rw [r2]; exact b2, ?_, (fun h => by cases h), fun j v hv => ?_, b6, b7⟩
                    · simp only [List.length_append, List.length_take]; simp only [Array.length_toList] at hroom; omega
                    · rw [r3]
                      by_cases hj : j < len * i.size
                      · rw [if_neg (by omega)]
                        rw [List.getElem?_append_left (by simp; omega)] at hv
                        obtain ⟨v', g1, g2⟩ := hin.get hv
                        rw [List.getElem?_take, if_pos hj] at g1
                        exact ⟨v', g1, g2⟩
                      · rw [List.getElem?_append_right (by simp; omega)] at hv
                        have hlt : (cs.take (len * i.size)).length = len * i.size := by simp; omega
                        rw [hlt] at hv
                        obtain ⟨v', g1, g2⟩ := hnw.get hv
                        have hjj := (List.getElem?_eq_some_iff.1 g1).1
                        rw [if_pos (by omega)]
                        exact ⟨v', g1, g2⟩) rfl rfl rfl
                refine ⟨_, ι.upd s2.next (c, sz), _, run_app_fit hT hC h0 h1 hu hx hn (by unfold Tb.size; rw [hti]; rfl) (hlen w) (hsrc w rfl) hf (fun a e => by cases e; exact hrun) (fun e => by cases e), ?_, ?_⟩
                · exact .sliceU Ren.upd_self hf (by omega)
                · have t1 := PO.stp.trans stp2 ha (fun id a1 a2 => absurd a2 (by omega))
                  exact t1.trans stp3 ha (fun id a1 a2 => hfr id a1 (by omega))
              · -- it does not
                have hgrow : cap < len + n := by omega
                have hold : ∀ w1 : World, w1.heap = w.heap → (Builtin.firstCells i.size len (.slice (some ⟨c, 0, none⟩) len cap)).run P w1 = .ok (blk.toList.take (len * i.size)).toArray w1 := by
                  intro w1 hw1
                  have := run_cells (P := P) (w := w1) (c := c) (off := 0) (n := len * i.size) (l := blk.toList.take (len * i.size)) (by simp; omega) (fun j v hv => by
                    rw [List.getElem?_take] at hv
                    by_cases hj : j < len * i.size
                    · rw [if_pos hj] at hv
                      simp [World.cell?, hw1, b1, ← hv]
                    · rw [if_neg hj] at hv; cases hv)
                  simpa [Builtin.firstCells] using this
                obtain ⟨nc, w1, g1, g2, g3, g4, g5, g6⟩ := run_app_grow (w := w) hT hC h0 h1 hu hx hn hti hz hbb (hlen w) hsmall hold hsrc hgrow
                have stp2 : Stp T base s1 s2 ι ι w w := by
                  rw [hs2]
                  refine step_put PO.stp.abs PO.stp.inv b _ (some ⟨.cells (cs.take (len * i.size)) el false false, fam⟩) hs1 hn0 (fun e h => by cases h; exact ⟨rfl, rfl⟩) c sz hb (fun _ _ => rfl) (fun e h => ?_) (fun j ej zz hne h1 h2 => ?_) rfl rfl rfl rfl
                  · cases h
                    refine ⟨blk, fr, b1, b2, by simp; omega, (fun h => by cases h), fun j v hv => ?_, b6, b7⟩
                    obtain ⟨v', g1, g2⟩ := hin.get hv
                    refine ⟨v', ?_, g2⟩
                    have hj : j < len * i.size := by
                      have := (List.getElem?_eq_some_iff.1 hv).1
                      simp at this; omega
                    rw [List.getElem?_take, if_pos hj] at g1
                    exact g1
                  · obtain ⟨c2, s2', k1, k2⟩ := hi.ob j ej (PO.less _ _ h1)
                    rw [h2] at k1; cases k1
                    exact k2
                have hs2' : s2.see b = some ⟨.cells (cs.take (len * i.size)) el false false, fam⟩ := by
                  rw [see_eq (by rw [stp2.msk, PO.stp.msk]; exact see_vis hs), hs2]
                  show (s1.h.set b _).get b = _
                  rw [Tr.get_set, if_pos rfl]
                have hι2 : ι s2.next = none := by rw [hnext2]; exact hfr _ (Nat.le_refl _) (by omega)
                generalize hcells : (blk.toList.take (len * i.size)).toArray ++ arr = cells at g6
                have hcl : All2 (Rv ι) (cs.take (len * i.size) ++ nw) cells.toList := by
                  rw [← hcells, Array.toList_append]
                  exact hin.append hnw
                have hcs : cells.size = (len + n) * i.size := by
                  have := hcl.1
                  simp only [List.length_append, List.length_take, Array.length_toList] at this
                  rw [Nat.add_mul]; omega
                have hsz : (cells ++ Builtin.zeroCells z.cells (nc - (len + n))).size = nc * i.size := by
                  have : (nc - (len + n)) * i.size + (len + n) * i.size = nc * i.size := by rw [← Nat.add_mul]; congr 1; omega
                  simp [Builtin.zeroCells, hcs, hzs]
                  omega
                have hw' : ({ w1 with heap := w1.heap.push (.cells (cells ++ Builtin.zeroCells z.cells (nc - (len + n))) el) } : World).heap = w.heap.push (.cells (cells ++ Builtin.zeroCells z.cells (nc - (len + n))) el) := by
                  show w1.heap.push _ = _
                  rw [g2]
                obtain ⟨stp3, _⟩ := step_add (w' := { w1 with heap := w1.heap.push (.cells (cells ++ Builtin.zeroCells z.cells (nc - (len + n))) el) }) stp2.abs stp2.inv b _ (.cells (cs.take (len * i.size) ++ nw) el false false) hs2' rfl hl3 hι2 w.heap.size (nc * i.size) (.inr ⟨rfl, _, hw'⟩)
                  (by
                    refine ⟨_, (0, 0), push_new hw', hsz, ?_, (fun h => by cases h), fun j v hv => ?_, Nat.le_refl _, fun _ j _ => by omega⟩
                    · rw [hcl.1]; simp only [Array.length_toList, hcs]; exact Nat.mul_le_mul_right _ g1
                    · obtain ⟨v', e1, e2⟩ := hcl.get hv
                      refine ⟨v', ?_, e2⟩
                      rw [Array.toList_append, List.getElem?_append_left (List.getElem?_eq_some_iff.1 e1).1]
                      exact e1) g3 g4 g5
                refine ⟨_, ι.upd s2.next (w.heap.size, nc * i.size), _, g6, ?_, ?_⟩
                · exact .sliceU Ren.upd_self g1 (by omega)
                · have t1 := PO.stp.trans stp2 ha (fun id a1 a2 => absurd a2 (by omega))
                  exact t1.trans stp3 ha (fun id a1 a2 => hfr id a1 (by omega))

end
end Go.Proofs.YthdnpikgnmdnnaaGreatDoor.Ev

namespace Go.Proofs.YthdnpikgnmdnnaaGreatDoor.Ev
set_option linter.unusedSimpArgs false
set_option linter.unusedVariables false
set_option linter.unusedSectionVars false
variable [Tok]
open Go.RowKit
set_option linter.unusedSectionVars false

section
variable {P : Program} {T : Tb} (hT : TbOk P T) (hC : CmpOk P T) {base : Nat} {ι : Ren} {st st' : St} {w : World}
include hT hC

theorem appendA_ok (ha : Abs T st) (hi : Inv T.n0 base ι st.see w) {ts : Array TypeId} {tt sT : TypeId} {xT : Option TypeId} {s s' x x' u : Value}
    (h0 : ts[0]? = some sT) (h1 : ts[1]? = xT) (hs : Rv ι s s') (hx : Rv ι x x') (h : appendA T st sT xT s x = some (u, st')) (hfr : ∀ id, st.next ≤ id → id < st'.next → ι id = none) :
    ∃ w' ι' v', (Builtin.append_ ts tt #[s', x']).run P w = .ok v' w' ∧ Rv ι' u v' ∧ Stp T base st st' ι ι' w w' := by
  unfold appendA at h
  cases hu : T.und sT with
  | none => rw [hu] at h; simp at h
  | some d =>
    rw [hu] at h
    cases xT with
    | none => cases d <;> simp at h
    | some xT =>
      simp only [Option.bind_some] at h
      cases hxu : T.und xT with
      | none => rw [hxu] at h; cases d <;> simp at h
      | some xd =>
        rw [hxu] at h
        cases d <;> (try simp only at h) <;> (try (cases h; done))
        rename_i elem
        cases hti : T.ty.get elem with
        | none => rw [hti] at h; cases h
        | some i =>
          rw [hti] at h
          simp only at h
          cases hz : i.zero with
          | none => rw [hz] at h; cases h
          | some z =>
            rw [hz] at h
            simp only at h
            cases hq : closedV 40 z && (Nat.beq (vcells z).length i.size && (Nat.ble 1 i.size && (Nat.ble i.size 1000000 && (Nat.ble i.bytes 1000000 && appendA.notInt xd)))) with
            | false => rw [hq] at h; cases h
            | true =>
              rw [hq] at h
              simp only [cond_true] at h
              obtain ⟨q1, q2⟩ := ble_and hT hq
              obtain ⟨q2, q3⟩ := ble_and hT q2
              obtain ⟨q3, q4⟩ := ble_and hT q3
              obtain ⟨q4, q5⟩ := ble_and hT q4
              obtain ⟨q5, q6⟩ := ble_and hT q5
              have q2 := Nat.eq_of_beq_eq_true q2
              have q3 := Nat.le_of_ble_eq_true q3
              have q4 := Nat.le_of_ble_eq_true q4
              have q5 := Nat.le_of_ble_eq_true q5
              have hzs : z.cells.size = i.size := by
                have := (rv_cells (rv_closed ι _ _ q1)).1
                simp only [Array.length_toList] at this; omega
              have hsize : T.size elem = some i.size := by unfold Tb.size; rw [hti]; rfl
              cases hsrc : sourceA st i.size x with
              | none => rw [hsrc] at h; cases h
              | some r =>
                obtain ⟨nw, n⟩ := r
                rw [hsrc] at h
                simp only at h
                cases hq2 : nw.all oneC && Nat.beq nw.length (n * i.size) with
                | false => rw [hq2] at h; cases h
                | true =>
                  rw [hq2] at h
                  simp only [cond_true] at h
                  obtain ⟨hone, hnl⟩ := ble_and hT hq2
                  have hnl := Nat.eq_of_beq_eq_true hnl
                  obtain ⟨hlen', arr, hnw, hsrc'⟩ := sourceA_ok hT hC hi hx hsrc
                  have hlen := hlen' w
                  have hf0 := hsrc' w rfl
                  have hal : arr.size = n * i.size := by have := hnw.1; simp only [Array.length_toList] at this; omega
                  unfold appendV at h
                  cases s <;> (try simp only at h) <;> (try (cases h; done))
                  rename_i a len cap
                  cases a with
                  | none =>
                    simp only at h
                    have hs' : s' = .slice none 0 0 ∧ len = 0 ∧ cap = 0 := by cases hs; exact ⟨rfl, rfl, rfl⟩
                    obtain ⟨rfl, rfl, rfl⟩ := hs'
                    cases hb : Nat.beq n 0 with
                    | true =>
                      rw [hb] at h; cases h
                      obtain rfl := Nat.eq_of_beq_eq_true hb
                      refine ⟨w, ι, .slice none 0 0, ?_, .nils, .refl ha hi⟩
                      have := run_app_fit (w := w) (w' := w) (tt := tt) (bs := none) (len := 0) (cap := 0) hT hC h0 h1 hu hxu q6 hsize hlen hf0 (by omega) (fun a e => by cases e) (fun _ => rfl)
                      exact this
                    | false =>
                      rw [hb] at h
                      simp only [cond_false] at h
                      cases hsm : Nat.ble n 1000000 with
                      | false => rw [hsm] at h; cases h
                      | true =>
                        rw [hsm] at h
                        simp only [cond_true] at h
                        have hsm := Nat.le_of_ble_eq_true hsm
                        have hpos : 0 < n := by
                          rcases Nat.eq_zero_or_pos n with e | e
                          · rw [e] at hb; cases hb
                          · exact e
                        obtain ⟨nc, w1, g1, g2, g3, g4, g5, g6⟩ := run_app_grow (w := w) (tt := tt) (bs := none) (len := 0) (cap := 0) (old := #[]) hT hC h0 h1 hu hxu q6 hti hz q5 hlen (by omega) (fun w1 _ => by simp [Builtin.firstCells]) hsrc' (by omega)
                        rw [Nat.zero_add] at g1 g6
                        obtain ⟨ι', k1, k2⟩ := grown_ok hT hC ha hi (cells := #[] ++ arr) (zc := z.cells) (nc := nc) (w1 := w1) (by simpa using hnw) hnl hzs g1 h hfr g2 g3 g4 g5
                        exact ⟨_, ι', _, g6, k1, k2⟩
                  | some a =>
                    simp only at h
                    cases hb : Nat.beq n 0 with
                    | true =>
                      rw [hb] at h
                      simp only [cond_true] at h
                      obtain rfl := Nat.eq_of_beq_eq_true hb
                      have harr : arr = #[] := by
                        apply Array.eq_empty_of_size_eq_zero
                        omega
                      subst harr
                      cases hlc : Nat.ble len cap with
                      | false => rw [hlc] at h; cases h
                      | true =>
                        rw [hlc] at h; cases h
                        have hlc := Nat.le_of_ble_eq_true hlc
                        have key : ∃ a' cap', s' = .slice (some a') len cap' ∧ len ≤ cap' := by
                          cases hs with
                          | slice _ _ => exact ⟨_, _, rfl, hlc⟩
                          | sliceU _ hl _ => exact ⟨_, _, rfl, hl⟩
                          | sliceE => exact ⟨_, _, rfl, Nat.zero_le _⟩
                        obtain ⟨a', cap', rfl, hl⟩ := key
                        refine ⟨w, ι, .slice (some a') len cap', ?_, hs, .refl ha hi⟩
                        have := run_app_fit (w := w) (w' := w) (tt := tt) (bs := some a') (len := len) (cap := cap') hT hC h0 h1 hu hxu q6 hsize hlen hf0 (by omega) (fun a e => rfl) (fun _ => rfl)
                        exact this
                    | false =>
                      rw [hb] at h
                      simp only [cond_false] at h
                      have hpos : 0 < n := by
                        rcases Nat.eq_zero_or_pos n with e | e
                        · rw [e] at hb; cases hb
                        · exact e
                      cases hsm : Nat.ble (len + n) 1000000 with
                      | false => rw [hsm] at h; cases h
                      | true =>
                        rw [hsm] at h
                        simp only [cond_true] at h
                        have hsm := Nat.le_of_ble_eq_true hsm
                        cases hcu : Nat.blt cap UNK with
                        | true =>
                          rw [hcu] at h
                          simp only [cond_true] at h
                          have hcu : cap < UNK := Nat.le_of_ble_eq_true hcu
                          have key : ∃ b o c sz, a = ⟨b, o, none⟩ ∧ s' = .slice (some ⟨c, o, none⟩) len cap ∧ ι b = some (c, sz) := by
                            generalize hcc : cap = cap0 at hs
                            cases hs with
                            | slice hb' _ => exact ⟨_, _, _, _, rfl, rfl, hb'⟩
                            | sliceU _ _ _ => omega
                            | sliceE => exact absurd hcu (by rw [hcc]; unfold UNK UNKE; omega)
                          obtain ⟨b, o, c, sz, rfl, rfl, hb'⟩ := key
                          cases hfit : Nat.ble (len + n) cap with
                          | true =>
                            rw [hfit] at h
                            simp only [cond_true] at h
                            have hfit := Nat.le_of_ble_eq_true hfit
                            cases hst : St.store T.n0 st b (o + len * i.size) nw with
                            | none => rw [hst] at h; cases h
                            | some s2 =>
                              rw [hst] at h; cases h
                              obtain ⟨stp, e1, e2, e3, e4⟩ := store_ok ha hi hst hb' hnw
                              have hrun := run_storeCells_cells (P := P) c (o + len * i.size) arr.toList 0 w (by simpa using e1) (by simpa using e2) e3
                              simp only [Nat.add_zero] at hrun
                              refine ⟨_, ι, _, run_app_fit (tt := tt) hT hC h0 h1 hu hxu q6 hsize hlen hf0 hfit (fun a e => by cases e; rw [addr_add]; exact hrun) (fun e => by cases e), .slice hb' hcu, stp⟩
                          | false =>
                            rw [hfit] at h
                            simp only [cond_false] at h
                            have hgrow : cap < len + n := by
                              rcases Nat.lt_or_ge cap (len + n) with e | e
                              · exact e
                              · rw [show Nat.ble (len + n) cap = true from Nat.ble_eq_true_of_le e] at hfit; cases hfit
                            cases hca : st.cellsAt b o (len * i.size) with
                            | none => rw [hca] at h; cases h
                            | some old =>
                              rw [hca] at h
                              simp only at h
                              obtain ⟨l', k1, k2, k3⟩ := cellsAt_ok hi hca hb'
                              have hold : ∀ w1 : World, w1.heap = w.heap → (Builtin.firstCells i.size len (.slice (some ⟨c, o, none⟩) len cap)).run P w1 = .ok l'.toArray w1 := by
                                intro w1 hw1
                                have h3' : ∀ (j : Nat) v, l'[j]? = some v → w1.cell? ⟨c, o + j, none⟩ = some v := fun j v hv => by
                                  have := k3 j v hv
                                  simp only [World.cell?] at this ⊢
                                  rw [hw1]; exact this
                                simp [Builtin.firstCells, run_cells k2 h3']
                              obtain ⟨nc, w1, g1, g2, g3, g4, g5, g6⟩ := run_app_grow (w := w) (tt := tt) hT hC h0 h1 hu hxu q6 hti hz q5 hlen hsm hold hsrc' hgrow
                              have hll : (old ++ nw).length = (len + n) * i.size := by
                                have := k1.1
                                rw [List.length_append, Nat.add_mul]; omega
                              obtain ⟨ι', m1, m2⟩ := grown_ok hT hC ha hi (cells := l'.toArray ++ arr) (zc := z.cells) (nc := nc) (w1 := w1) (by rw [Array.toList_append]; exact k1.append hnw) hll hzs g1 h hfr g2 g3 g4 g5
                              exact ⟨_, ι', _, g6, m1, m2⟩
                        | false =>
                          rw [hcu] at h
                          simp only [cond_false] at h
                          cases hq3 : Nat.beq cap (UNK + i.size) && Nat.beq a.off 0 with
                          | false => rw [hq3] at h; cases h
                          | true =>
                            rw [hq3] at h
                            simp only [cond_true] at h
                            obtain ⟨r1, r2⟩ := ble_and hT hq3
                            have r1 := Nat.eq_of_beq_eq_true r1
                            have r2 := Nat.eq_of_beq_eq_true r2
                            have key : ∃ b c sz cap', a = ⟨b, 0, none⟩ ∧ s' = .slice (some ⟨c, 0, none⟩) len cap' ∧ ι b = some (c, sz) ∧ len ≤ cap' ∧ cap' * i.size ≤ sz := by
                              generalize hcc : cap = cap0 at hs
                              cases hs with
                              | slice _ hlt => omega
                              | @sliceU b o c sz _ cap' u' hb' hl hz' =>
                                have ho : o = 0 := r2
                                subst ho
                                have : u' = i.size := by omega
                                subst this
                                exact ⟨b, c, sz, cap', rfl, rfl, hb', hl, by omega⟩
                              | sliceE => exact absurd r1 (by rw [hcc]; unfold UNK UNKE; omega)
                            obtain ⟨b, c, sz, cap', rfl, rfl, hb', hl, hz'⟩ := key
                            exact appendOpen_ok hT hC (o := 0) ha hi h0 h1 hu hxu q6 hti hz hzs q5 hsm hb' hl hz' hlen' hnw hnl hone hsrc' h hfr

end
end Go.Proofs.YthdnpikgnmdnnaaGreatDoor.Ev

namespace Go.Proofs.YthdnpikgnmdnnaaGreatDoor.Ev
set_option linter.unusedSimpArgs false
set_option linter.unusedVariables false
set_option linter.unusedSectionVars false
variable [Tok]
open Go.RowKit
set_option linter.unusedSectionVars false

theorem minN_eq (a b : Nat) : minN a b = Nat.min a b := by
  unfold minN
  cases h : Nat.ble a b with
  | true => have := Nat.le_of_ble_eq_true h; show a = min a b; omega
  | false =>
    have : ¬ a ≤ b := fun e => by rw [Nat.ble_eq_true_of_le e] at h; cases h
    show b = min a b; omega

section
variable {P : Program} {T : Tb} (hT : TbOk P T) (hC : CmpOk P T) {base : Nat} {ι : Ren} {st st' : St} {w : World}
include hT hC

theorem sourceN_ok (hi : Inv T.n0 base ι st.see w) {size dl k : Nat} {x x' : Value} {nw : List Value} (hx : Rv ι x x') (h : copyA.sourceN st size dl x = some (nw, k)) :
    ∃ m, (Builtin.lenOf x').run P w = .ok m w ∧ k = Nat.min m dl ∧ ∃ arr : Array Value, All2 (Rv ι) nw arr.toList ∧ (Builtin.firstCells size k x').run P w = .ok arr w ∧ (dl = 0 → nw = [] ∧ arr = #[]) := by
  have hmin0 : ∀ m, minN m 0 = 0 := fun m => by rw [minN_eq]; simp [Nat.min_def]
  have hmin1 : ∀ m, minN 0 m = 0 := fun m => by rw [minN_eq]; simp [Nat.min_def]
  cases x <;> (try simp only [copyA.sourceN] at h) <;> (try (cases h; done))
  · rename_i s
    cases hx
    cases hb : Nat.beq size 1 with
    | false => rw [hb] at h; cases h
    | true =>
      rw [hb] at h; cases h
      refine ⟨s.size, rfl, by rw [minN_eq, size_list], (s.extract 0 (minN s.data.toList.length dl)).data.map fun b => Value.int .u8 b.toNat, ?_, rfl, fun e => by subst e; rw [hmin0]; exact ⟨rfl, by apply Array.ext'; simp⟩⟩
      rw [Array.toList_map]
      have : (s.extract 0 (minN s.data.toList.length dl)).data.toList = s.data.toList.take (minN s.data.toList.length dl) := by simp
      rw [this, List.map_take]
      exact (bytesOf_rv _).take _
  · rename_i a m cap
    cases a with
    | none =>
      cases h
      have : x' = .slice none 0 0 := by cases hx; rfl
      subst this
      exact ⟨0, rfl, by simp [Nat.min_def], #[], .nil, rfl, fun _ => ⟨rfl, rfl⟩⟩
    | some a =>
      simp only at h
      have hlen : ∃ a' cap', x' = .slice (some a') m cap' := by cases hx <;> exact ⟨_, _, rfl⟩
      cases hb : Nat.beq (minN m dl) 0 with
      | true =>
        rw [hb] at h; cases h
        obtain ⟨a', cap', rfl⟩ := hlen
        have hm := Nat.eq_of_beq_eq_true hb
        exact ⟨m, rfl, by rw [← minN_eq, hm], #[], .nil, by simp [Builtin.firstCells, loadCells, loadCellsFrom], fun _ => ⟨rfl, rfl⟩⟩
      | false =>
        rw [hb] at h
        simp only [cond_false] at h
        cases hc : st.cellsAt a.block a.off (minN m dl * size) with
        | none => rw [hc] at h; cases h
        | some l =>
          rw [hc] at h; cases h
          have key : ∃ b o c sz cap', a = ⟨b, o, none⟩ ∧ x' = .slice (some ⟨c, o, none⟩) m cap' ∧ ι b = some (c, sz) := by
            cases hx with
            | slice hb' _ => exact ⟨_, _, _, _, _, rfl, rfl, hb'⟩
            | sliceU hb' _ _ => exact ⟨_, _, _, _, _, rfl, rfl, hb'⟩
            | sliceE => rw [hmin1] at hb; cases hb
          obtain ⟨b, o, c, sz, cap', rfl, rfl, hb'⟩ := key
          obtain ⟨l', h1, h2, h3⟩ := cellsAt_ok hi hc hb'
          exact ⟨m, rfl, minN_eq _ _, l'.toArray, h1, by simp [Builtin.firstCells, run_cells h2 h3], fun e => by subst e; rw [hmin0] at hb; cases hb⟩

theorem copyA_ok (ha : Abs T st) (hi : Inv T.n0 base ι st.see w) {ts : Array TypeId} {tt dT : TypeId} {d d' x x' u : Value} (h0 : ts[0]? = some dT) (hd : Rv ι d d') (hx : Rv ι x x') (h : copyA T st dT d x = some (u, st')) :
    ∃ w' v', (Builtin.copy_ ts tt #[d', x']).run P w = .ok v' w' ∧ Rv ι u v' ∧ Stp T base st st' ι ι w w' := by
  unfold copyA at h
  cases hu : T.und dT with
  | none => rw [hu] at h; cases h
  | some dd =>
    rw [hu] at h
    cases dd <;> (try simp only at h) <;> (try (cases h; done))
    rename_i e
    cases hs : T.size e with
    | none => rw [hs] at h; cases h
    | some n =>
      rw [hs] at h
      simp only at h
      generalize hdd : d = d0 at h hd
      cases d0 <;> (try simp only at h) <;> (try (cases h; done))
      rename_i a dl cap
      cases hsrc : copyA.sourceN st n dl x with
      | none => rw [hsrc] at h; cases h
      | some r =>
        obtain ⟨l, k⟩ := r
        rw [hsrc] at h
        simp only at h
        obtain ⟨m, hl, hk, arr, hnw, hf, hz0⟩ := sourceN_ok hT hC hi hx hsrc
        have e0 : ∀ q, (#[q, x'] : Array Value)[0]? = some q := fun _ => rfl
        have e1 : ∀ q, (#[q, x'] : Array Value)[1]? = some x' := fun _ => rfl
        have pre : ∀ (bs : Option Addr) (cp : Nat) (w' : World), (∀ a', bs = some a' → (storeCells a' arr.toList).run P w = .ok () w') → (bs = none → w' = w) →
            (Builtin.copy_ ts tt #[.slice bs dl cp, x']).run P w = .ok (.int .i64 k) w' := by
          intro bs cp w' hst hno
          unfold Builtin.copy_
          rw [h0, e0, e1]
          dsimp only
          rw [bind_step (run_und hT hu w)]
          dsimp only
          rw [bind_step hl]
          rw [← hk, bind_step (run_size hT hs w), bind_step hf]
          cases bs with
          | none => obtain rfl := hno rfl; rfl
          | some a' =>
            dsimp only
            rw [bind_step (hst a' rfl)]
            rfl
        cases a with
        | none =>
          cases h
          have : d' = .slice none 0 0 ∧ dl = 0 ∧ cap = 0 := by cases hd; exact ⟨rfl, rfl, rfl⟩
          obtain ⟨rfl, rfl, rfl⟩ := this
          exact ⟨w, _, pre none 0 w (fun _ e => by cases e) (fun _ => rfl), .int _ _, .refl ha hi⟩
        | some a =>
          simp only at h
          cases hst : St.store T.n0 st a.block a.off l with
          | none => rw [hst] at h; cases h
          | some s2 =>
            rw [hst] at h; cases h
            by_cases hE : ∃ a' cap', d' = .slice (some a') 0 cap' ∧ dl = 0 ∧ arr = #[] ∧ l = []
            · obtain ⟨a', cap', rfl, rfl, rfl, rfl⟩ := hE
              simp only [St.store] at hst; cases hst
              exact ⟨w, _, pre (some a') cap' w (fun _ e => rfl) (fun e => by cases e), .int _ _, .refl ha hi⟩
            · have key : ∃ b o c sz cap', a = ⟨b, o, none⟩ ∧ d' = .slice (some ⟨c, o, none⟩) dl cap' ∧ ι b = some (c, sz) := by
                cases hd with
                | slice hb' _ => exact ⟨_, _, _, _, _, rfl, rfl, hb'⟩
                | sliceU hb' _ _ => exact ⟨_, _, _, _, _, rfl, rfl, hb'⟩
                | sliceE =>
                  obtain ⟨z1, z2⟩ := hz0 rfl
                  exact absurd ⟨_, _, rfl, rfl, z2, z1⟩ hE
              obtain ⟨b, o, c, sz, cap', rfl, rfl, hb'⟩ := key
              obtain ⟨stp, e1', e2', e3', e4'⟩ := store_ok ha hi hst hb' hnw
              have hrun := run_storeCells_cells (P := P) c o arr.toList 0 w (by simpa using e1') (by simpa using e2') e3'
              simp only [Nat.add_zero] at hrun
              exact ⟨_, _, pre (some ⟨c, o, none⟩) cap' _ (fun _ e => by cases e; exact hrun) (fun e => by cases e), .int _ _, stp⟩

end
end Go.Proofs.YthdnpikgnmdnnaaGreatDoor.Ev

namespace Go.Proofs.YthdnpikgnmdnnaaGreatDoor.Ev
set_option linter.unusedSimpArgs false
set_option linter.unusedVariables false
set_option linter.unusedSectionVars false
variable [Tok]
open Go.RowKit
set_option linter.unusedSectionVars false

/-- Bytes that are all known. -/
theorem toBytes_ok {ι : Ren} : ∀ {l l' : List Value} {r : List UInt8}, All2 (Rv ι) l l' → toBytes l = some r → l' = r.map fun b => Value.int .u8 b.toNat
  | [], l', r, h, hb => by
    obtain rfl := h.nil_inv
    cases hb
    rfl
  | v :: l, l', r, h, hb => by
    obtain ⟨v', l2, rfl, hv, hl⟩ := h.cons_inv
    cases v <;> (try simp only [toBytes] at hb) <;> (try (cases hb; done))
    rename_i k n
    cases k <;> (try simp only [toBytes] at hb) <;> (try (cases hb; done))
    cases n with
    | negSucc n => cases hb
    | ofNat n =>
      simp only [toBytes] at hb
      cases hn : Nat.blt n 256 with
      | false => rw [hn] at hb; cases hb
      | true =>
        rw [hn] at hb
        simp only [cond_true] at hb
        have hn : n < 256 := Nat.le_of_ble_eq_true hn
        cases hr : toBytes l with
        | none => rw [hr] at hb; cases hb
        | some r' =>
          rw [hr] at hb; cases hb
          have h1 := toBytes_ok hl hr
          obtain rfl := rv_int_inv hv
          rw [h1]
          simp [Nat.mod_eq_of_lt hn]

theorem freeze_push {w w' : World} {obj : Obj} {arr : Array Value} {e : TypeId} (hw : w'.heap = w.heap.push (.cells arr e)) (n : Nat) :
    (w'.freeze ⟨w.heap.size, n, none⟩ 1).heap = w.heap.push (.cells arr e (n, n + 1)) := by
  simp only [World.freeze]
  rw [if_neg (by omega)]
  simp only [hw]
  apply Array.ext_getElem?
  intro i
  rw [Array.getElem?_modify]
  by_cases h : w.heap.size = i
  · subst h; simp
  · rw [if_neg h, Array.getElem?_push, Array.getElem?_push, if_neg (Ne.symm h), if_neg (Ne.symm h)]

section
variable {P : Program} {T : Tb} (hT : TbOk P T) (hC : CmpOk P T) {base : Nat} {ι : Ren} {st st' : St} {w : World}
include hT hC

theorem conv_bytes (ha : Abs T st) (hi : Inv T.n0 base ι st.see w) {e : TypeId} {s : ByteArray} (hfr : ι st.next = none) :
    ∃ w' cap, (Conv.stringToBytes e s).run P w = .ok (.slice (some ⟨w.heap.size, 0, none⟩) s.size cap) w' ∧ s.size ≤ cap ∧
      Stp T base st (st.new (.cells (bytesOf s.data.toList) e false false)).2 ι (ι.upd st.next (w.heap.size, cap)) w w' := by
  have hcut : s.size ≤ (Question.appendCap s.size 0 e).cut (w.tape w.drawn (.appendCap s.size 0 e)) := by simp [Question.cut]
  generalize hq : (Question.appendCap s.size 0 e).cut (w.tape w.drawn (.appendCap s.size 0 e)) = cap at hcut
  have hch : (choose (.appendCap s.size 0 e)).run P w = .ok cap { w with drawn := w.drawn + 1 } := by simp [Question.forced, hq]
  generalize harr : ((s.data.map fun b => Value.int .u8 b.toNat) ++ Array.replicate (cap - s.size) (.int .u8 0)) = arr
  have hsz : arr.size = cap := by
    rw [← harr]; simp
    have : s.data.size = s.size := rfl
    omega
  have hw1 : ({ w with drawn := w.drawn + 1, heap := w.heap.push (.cells arr e) } : World).heap = w.heap.push (.cells arr e) := rfl
  refine ⟨({ w with drawn := w.drawn + 1, heap := w.heap.push (.cells arr e) } : World).freeze ⟨w.heap.size, cap, none⟩ 1, cap, ?_, hcut, ?_⟩
  · unfold Conv.stringToBytes
    rw [bind_step hch]
    dsimp only
    rw [harr]
    have hnew : (newRow e arr).run P { w with drawn := w.drawn + 1 } = .ok ⟨w.heap.size, 0, none⟩ { w with drawn := w.drawn + 1, heap := w.heap.push (.cells arr e) } := rfl
    rw [bind_step hnew]
    have hmark : (markStringish ⟨w.heap.size, 0, none⟩).run P { w with drawn := w.drawn + 1, heap := w.heap.push (.cells arr e) } = .ok () (({ w with drawn := w.drawn + 1, heap := w.heap.push (.cells arr e) } : World).freeze ⟨w.heap.size, cap, none⟩ 1) := by
      have hshape : ({ w with drawn := w.drawn + 1, heap := w.heap.push (.cells arr e) } : World).shape? w.heap.size = some (e, cap) := by simp [World.shape?, hsz]
      unfold markStringish
      rw [bind_step (show (shape w.heap.size).run P _ = .ok (some (e, cap)) _ by rw [run_shape, hshape])]
      rfl
    rw [bind_step hmark]
    rfl
  · have hheap := freeze_push (w := w) (obj := .cells arr e) hw1 cap
    refine step_new ha hi _ (.cells arr e (cap, cap + 1)) cap hfr hheap ?_ ?_ ?_ ⟨arr, (cap, cap + 1), push_new hheap, hsz, ?_, fun h => (by cases h), fun i v hv => ?_, Nat.le_succ _, fun _ i hi => by simp only; omega⟩
    · simp [World.freeze]
    · simp [World.freeze]
    · simp [World.freeze]
    · simp only [bytesOf, List.length_map]; rw [← size_list]; exact hcut
    · obtain ⟨v', h1, h2⟩ := (bytesOf_rv (ι := ι) s.data.toList).get hv
      refine ⟨v', ?_, h2⟩
      rw [← harr, Array.toList_append, List.getElem?_append_left]
      · simpa using h1
      · have := (List.getElem?_eq_some_iff.1 h1).1
        simpa using this

theorem run_bytesToString {c o n : Nat} {bs : List UInt8} {cap : Nat} (hc : (loadCells ⟨c, o, none⟩ n).run P w = .ok (bs.map fun b => Value.int .u8 b.toNat).toArray w) :
    (Conv.bytesToString (.slice (some ⟨c, o, none⟩) n cap)).run P w = .ok (.string ⟨⟨bs⟩⟩) w := by
  unfold Conv.bytesToString
  dsimp only
  have key : ∀ (f : Value → ByteArray → Sem (ForInStep ByteArray)), (∀ n s, f (.int .u8 n) s = pure (.yield (s.push (UInt8.ofNat n.toNat)))) → ∀ (ns : List UInt8) (acc : ByteArray),
      (forIn (ns.map fun b => Value.int .u8 b.toNat) acc f).run P w = .ok ⟨⟨acc.data.toList ++ ns⟩⟩ w := by
    intro f hf ns
    induction ns with
    | nil => intro acc; simp
    | cons n ns ih =>
      intro acc
      simp only [List.map_cons, List.forIn_cons, hf]
      rw [bind_step (show (pure (ForInStep.yield (acc.push (UInt8.ofNat (n.toNat : Int).toNat))) : Sem _).run P w = .ok _ w from rfl)]
      dsimp only
      rw [ih]
      congr 3
      simp
  rw [bind_step hc, ← Array.forIn_toList]
  have e : (bs.map fun b => Value.int .u8 b.toNat).toArray.toList = bs.map fun b => Value.int .u8 b.toNat := rfl
  rw [e, bind_step (key _ (fun n s => rfl) bs ByteArray.empty)]
  rfl

theorem shape_cells {c : Nat} {arr : Array Value} {el : TypeId} {fr : Nat × Nat} (h : w.heap[c]? = some (.cells arr el fr)) : (shape c).run P w = .ok (some (el, arr.size)) w := by
  rw [run_shape]; simp [World.shape?, h]

/-- Cells seen as no other type. -/
theorem viewAt_cells {c : Nat} {arr : Array Value} {el : TypeId} {fr : Nat × Nat} (h : w.heap[c]? = some (.cells arr el fr)) : (viewAt c).run P w = .ok none w := by
  unfold viewAt
  rw [bind_step (shape_cells hT hC h)]
  rfl

theorem seenAt_cells {c o : Nat} {arr : Array Value} {el : TypeId} {fr : Nat × Nat} (h : w.heap[c]? = some (.cells arr el fr)) : (Conv.seenAt ⟨c, o, none⟩).run P w = .ok ⟨c, o, none⟩ w := by
  unfold Conv.seenAt
  rw [bind_step (viewAt_cells hT hC h)]
  rfl

theorem cellsIn_cells {c : Nat} {arr : Array Value} {el : TypeId} {fr : Nat × Nat} (h : w.heap[c]? = some (.cells arr el fr)) : (cellsIn c).run P w = .ok (some arr.size) w := by
  unfold cellsIn
  rw [bind_step (shape_cells hT hC h)]
  rfl

theorem undId_ok {t u : TypeId} (h : T.undId t = some u) : P.underlyingId t = u := by
  unfold Tb.undId at h
  unfold Program.underlyingId
  cases hi : T.ty.get t with
  | none => rw [hi] at h; cases h
  | some i =>
    rw [hi] at h
    rw [hT.ty t i hi]
    obtain ⟨desc, _, _, _, _, _, _, _, _, _⟩ := i
    cases desc <;> cases h <;> rfl

theorem cellsOf_ok {t : TypeId} {n : Nat} (h : T.size t = some n) : P.cellsOf t = n := by
  obtain ⟨i, hi, rfl⟩ := size_ti hT h
  simp [Program.cellsOf, hT.ty t i hi]

/-- n variables of a type lie in a row of such. -/
theorem liesAt_ok {e u : TypeId} {m count off n : Nat} (hd : 0 < P.depth) (he : T.size e = some (m + 1)) (hid : P.underlyingId e = P.underlyingId u) (ho : off % (m + 1) = 0) (hn : off / (m + 1) + n ≤ count) :
    liesAt P P.depth e count off u n = true := by
  obtain ⟨d, hd⟩ : ∃ d, P.depth = d + 1 := ⟨P.depth - 1, by omega⟩
  have hc := cellsOf_ok hT hC he
  rw [hd]
  simp only [liesAt]
  have : rowAt P (fun x => sameLayout P P.depth x u) P.depth e count off n = true := by
    rw [hd]
    simp only [rowAt, hc]
    rw [if_neg (by omega)]
    simp [ho, hn, sameLayout, hid]
  rw [this]
  rfl

end
end Go.Proofs.YthdnpikgnmdnnaaGreatDoor.Ev

namespace Go.Proofs.YthdnpikgnmdnnaaGreatDoor.Ev
set_option linter.unusedSimpArgs false
set_option linter.unusedVariables false
set_option linter.unusedSectionVars false
variable [Tok]
open Go.RowKit
set_option linter.unusedSectionVars false

/-- One block is turned, which some noted number stands for. -/
theorem Stp.turn {T : Tb} {base : Nat} {st st' : St} {ι ι' : Ren} {w v w' : World} (h : Stp T base st st' ι ι' w v) {b c z : Nat} (hb : b ∈ st'.wl) (hι : ι' b = some (c, z))
    (hne : ∀ k, k ≠ c → w'.heap[k]? = v.heap[k]?) (hob : ∀ i e s, st'.see i = some e → ι' i = some (c, s) → ObR ι' w' c s e.ob)
    (ho : w'.os = v.os) (ht : w'.tape = v.tape) (hp : w'.output = v.output) (hs : w'.heap.size = v.heap.size) : Stp T base st st' ι ι' w w' where
  abs := h.abs
  inv := ⟨fun i e he => by
      obtain ⟨c', s, k1, k2⟩ := h.inv.ob i e he
      by_cases hc : c' = c
      · subst hc; exact ⟨_, s, k1, hob i e s he k1⟩
      · exact ⟨c', s, k1, k2.world (hne c' hc)⟩, h.inv.fam, h.inv.sep, h.inv.glob, by rw [hs]; exact h.inv.size⟩
  le := h.le
  dom := h.dom
  next := h.next
  msk := h.msk
  mem := h.mem
  wl := h.wl
  old := h.old
  hid := h.hid
  fam := h.fam
  gone := h.gone
  newfam := h.newfam
  newid := h.newid
  frame := fun k hk hw => by
    have hkc : k ≠ c := fun e => hw b z hb (by rw [e]; exact hι)
    exact (hne k hkc).trans (h.frame k hk hw)
  os := ho.trans h.os
  tape := ht.trans h.tape
  output := hp.trans h.output
  size := by rw [hs]; exact h.size

structure Frz (T : Tb) (base : Nat) (l : List Nat) (ι : Ren) (w : World) (st st1 : St) : Prop where
  stp : Stp T base st st1 ι ι w w
  next : st1.next = st.next
  ok : ∀ id, id ∈ l → ∀ en, st1.see id = some en → ∃ cs el ex, en.ob = .cells cs el ex true
  noted : ∀ id, id ∈ l → ∀ en, st.see id = some en → id ∈ st1.wl
  back : ∀ id en, st1.see id = some en → ∃ e0, st.see id = some e0 ∧ e0.fam = en.fam ∧ ((∃ cs el ex, en.ob = .cells cs el ex true) ∨ en = e0)

theorem freeze_ok {T : Tb} {base : Nat} {ι : Ren} {w : World} : ∀ (l : List Nat) (st st1 : St), Abs T st → Inv T.n0 base ι st.see w → freeze T.n0 l st = some st1 → Frz T base l ι w st st1
  | [], st, st1, ha, hi, h => by
    simp only [freeze] at h; cases h
    exact ⟨.refl ha hi, rfl, fun id h => by simp at h, fun id h => by simp at h, fun id en h => ⟨en, h, rfl, .inr rfl⟩⟩
  | id :: r, st, st1, ha, hi, h => by
    simp only [freeze] at h
    cases hs : st.see id with
    | none =>
      rw [hs] at h
      obtain ⟨a, b, c, d, e⟩ := freeze_ok r st st1 ha hi h
      refine ⟨a, b, fun x hx en hen => ?_, fun x hx en hen => ?_, e⟩
      · rcases List.mem_cons.1 hx with rfl | hx
        · obtain ⟨e0, g, _⟩ := e _ _ hen; rw [hs] at g; cases g
        · exact c x hx en hen
      · rcases List.mem_cons.1 hx with rfl | hx
        · rw [hs] at hen; cases hen
        · exact d x hx en hen
    | some en =>
      rw [hs] at h
      obtain ⟨ob, fam⟩ := en
      cases ob with
      | map es => cases h
      | pmap es => cases h
      | siter s p => cases h
      | loop t nt k busy => cases h
      | dfr => cases h
      | cells cs el ex fz =>
        simp only at h
        cases hlow : St.low { st with h := st.h.set id (some ⟨.cells cs el ex true, fam⟩) } T.n0 id with
        | none => rw [hlow] at h; cases h
        | some s2 =>
          rw [hlow] at h
          obtain ⟨hn0, rfl⟩ := low_some hlow
          obtain ⟨c, sz, hι, hob⟩ := hi.ob id _ hs
          have stp := step_put (w' := w) ha hi id _ (some ⟨.cells cs el ex true, fam⟩) hs hn0 (fun e h => by cases h; exact ⟨rfl, rfl⟩) c sz hι (fun _ _ => rfl)
            (fun e h => by
              cases h
              obtain ⟨arr, fr, p1, p2, p3, p4, p5, p6, p7⟩ := hob
              exact ⟨arr, fr, p1, p2, p3, p4, p5, p6, fun h => by cases h⟩)
            (fun i ei z _ h1 h2 => by obtain ⟨c', s', k1, k2⟩ := hi.ob i ei h1; rw [k1] at h2; cases h2; exact k2) rfl rfl rfl rfl
          obtain ⟨a, b, c', d, e⟩ := freeze_ok r _ st1 stp.abs stp.inv h
          have see2 : ∀ x en, St.see { st with h := st.h.set id (some ⟨.cells cs el ex true, fam⟩), wl := id :: st.wl } x = some en → (x = id ∧ en = ⟨.cells cs el ex true, fam⟩) ∨ (x ≠ id ∧ st.see x = some en) := by
            intro x en hx
            have hv := see_vis hx
            have hg := see_get hx
            rw [show (St.h { st with h := st.h.set id (some ⟨.cells cs el ex true, fam⟩), wl := id :: st.wl }) = st.h.set id (some ⟨.cells cs el ex true, fam⟩) from rfl, Tr.get_set] at hg
            by_cases e' : x = id
            · rw [if_pos e'] at hg; cases hg; exact .inl ⟨e', rfl⟩
            · rw [if_neg e'] at hg; exact .inr ⟨e', by rw [see_eq (show hidden st.msk x = false from hv)]; exact hg⟩
          have fwd : ∀ x en, st.see x = some en → ∃ e2, St.see { st with h := st.h.set id (some ⟨.cells cs el ex true, fam⟩), wl := id :: st.wl } x = some e2 := by
            intro x en hx
            have hv := see_vis hx
            by_cases e' : x = id
            · refine ⟨⟨.cells cs el ex true, fam⟩, ?_⟩
              show cond (hidden st.msk x) none ((st.h.set id _).get x) = _
              rw [hv, Tr.get_set, if_pos e']; rfl
            · refine ⟨en, ?_⟩
              show cond (hidden st.msk x) none ((st.h.set id _).get x) = _
              rw [hv, Tr.get_set, if_neg e', see_get hx]; rfl
          refine ⟨stp.trans a ha (fun x h1 h2 => absurd h2 (by rw [b]; exact Nat.not_lt.2 h1)), b, fun x hx en hen => ?_, fun x hx en hen => ?_, fun x en hen => ?_⟩
          · rcases List.mem_cons.1 hx with rfl | hx
            · obtain ⟨e0, g, _, g2 | g2⟩ := e _ _ hen
              · exact g2
              · rcases see2 _ _ g with ⟨_, rfl⟩ | ⟨n, _⟩
                · subst g2; exact ⟨_, _, _, rfl⟩
                · exact absurd rfl n
            · exact c' x hx en hen
          · rcases List.mem_cons.1 hx with rfl | hx
            · exact a.wl _ (List.mem_cons_self ..)
            · obtain ⟨e2, g⟩ := fwd x en hen
              exact d x hx e2 g
          · obtain ⟨e0, g, g1, g2⟩ := e x en hen
            rcases see2 _ _ g with ⟨rfl, rfl⟩ | ⟨n, g3⟩
            · refine ⟨_, hs, g1, ?_⟩
              rcases g2 with g2 | rfl
              · exact .inl g2
              · exact .inl ⟨_, _, _, rfl⟩
            · exact ⟨e0, g3, g1, g2⟩

theorem freeze_heap (w : World) (c o n : Nat) {arr : Array Value} {el : TypeId} {fr : Nat × Nat} (h : w.heap[c]? = some (.cells arr el fr)) (hfr : fr.1 ≤ fr.2) :
    (∃ fr', (w.freeze ⟨c, o, none⟩ n).heap[c]? = some (.cells arr el fr') ∧ fr'.1 ≤ fr'.2) ∧ (∀ k, k ≠ c → (w.freeze ⟨c, o, none⟩ n).heap[k]? = w.heap[k]?) ∧ (w.freeze ⟨c, o, none⟩ n).heap.size = w.heap.size ∧
      (w.freeze ⟨c, o, none⟩ n).os = w.os ∧ (w.freeze ⟨c, o, none⟩ n).tape = w.tape ∧ (w.freeze ⟨c, o, none⟩ n).output = w.output := by
  unfold World.freeze
  by_cases hn : n = 0
  · rw [if_pos hn]; exact ⟨⟨fr, h, hfr⟩, fun _ _ => rfl, rfl, rfl, rfl, rfl⟩
  · rw [if_neg hn]
    refine ⟨⟨if fr.1 == fr.2 then (o, o + n) else (min fr.1 o, max fr.2 (o + n)), ?_, ?_⟩, fun k hk => ?_, by simp, rfl, rfl, rfl⟩
    · simp [Array.getElem?_modify, h]
    · split
      · exact Nat.le_add_right _ _
      · show min fr.1 o ≤ max fr.2 (o + n); omega
    · simp only [Array.getElem?_modify]
      rw [if_neg (Ne.symm hk)]

section
variable {P : Program} {T : Tb} (hT : TbOk P T) (hC : CmpOk P T) {base : Nat} {ι : Ren} {st st' : St} {w : World}
include hT hC

theorem unsafeAt_ok (ha : Abs T st) (hi : Inv T.n0 base ι st.see w) {tt pT iT : TypeId} {a : Addr} {p' u : Value} {n : Nat} (hn : 0 < n) (hp : Rv ι (.pointer (some a)) p') (h : unsafeStringA.unsafeAt T st pT a n = some (u, st')) :
    ∃ w' v', (Builtin.unsafeString_ #[pT, iT] tt #[p', .int .i64 (n : Int)]).run P w = .ok v' w' ∧ Rv ι u v' ∧ Stp T base st st' ι ι w w' := by
  obtain ⟨b, o, c, sz, rfl, rfl, hb⟩ := ptr_inv hT hp
  unfold unsafeStringA.unsafeAt at h
  simp only at h
  cases hs : st.see b with
  | none => rw [hs] at h; cases h
  | some en =>
    obtain ⟨ob, fam⟩ := en
    rw [hs] at h
    cases ob <;> (try simp only at h) <;> (try (cases h; done))
    rename_i cs el ex fz
    cases hby : (st.cellsAt b 0 n).bind toBytes with
    | none => rw [hby] at h; cases h
    | some l =>
      rw [hby] at h
      simp only at h
      cases hu : T.und pT with
      | none => rw [hu] at h; cases h
      | some d =>
        rw [hu] at h
        cases d <;> (try simp only at h) <;> (try (cases h; done))
        rename_i uu
        cases hsz : T.size uu with
        | none => rw [hsz] at h; cases h
        | some m =>
          rw [hsz] at h
          simp only at h
          cases hq : Nat.beq m 1 && (Nat.beq uu el && (Nat.beq o 0 && Nat.ble n 1000000000)) with
          | false => rw [hq] at h; cases h
          | true =>
            rw [hq] at h
            simp only [cond_true] at h
            obtain ⟨q1, q2⟩ := ble_and hT hq
            obtain ⟨q2, q3⟩ := ble_and hT q2
            obtain ⟨q3, q4⟩ := ble_and hT q3
            obtain rfl := Nat.eq_of_beq_eq_true q1
            obtain rfl := Nat.eq_of_beq_eq_true q2
            obtain rfl := Nat.eq_of_beq_eq_true q3
            have q4 := Nat.le_of_ble_eq_true q4
            cases hfz : freeze T.n0 (members st fam) st with
            | none => rw [hfz] at h; cases h
            | some s2 =>
              rw [hfz] at h; cases h
              have F := freeze_ok _ _ _ ha hi hfz
              cases hca : st.cellsAt b 0 n with
              | none => rw [hca] at hby; cases hby
              | some cl =>
                rw [hca] at hby
                simp only [Option.bind_some] at hby
                obtain ⟨l', r1, r2, r3⟩ := cellsAt_ok hi hca hb
                obtain rfl := toBytes_ok r1 hby
                obtain ⟨c', s', k1, arr, fr, b1, b2, b3, b4, b5, b6, b7⟩ := hi.ob b _ hs
                rw [hb] at k1; cases k1
                have hnl : l.length = n := by simpa using r2
                have hin : n ≤ arr.size := by
                  have hlast := r3 (n - 1) _ (by rw [List.getElem?_map, List.getElem?_eq_getElem (by omega)]; rfl)
                  simp only [World.cell?, b1] at hlast
                  have : 0 + (n - 1) < arr.size := by
                    by_cases hlt : 0 + (n - 1) < arr.size
                    · exact hlt
                    · simp at hlt; simp [hlt] at hlast
                  omega
                obtain ⟨⟨fr', f1, f1'⟩, f2, f3, f4, f5, f6⟩ := freeze_heap w c 0 n b1 b6
                have hne : l ≠ [] := by intro e; rw [e] at hnl; simp at hnl; omega
                have hrun := Lib.run_unsafeString_row (P := P) w pT iT tt uu (und_ok hT hu) (cellsOf_ok hT hC hsz) c arr.size (by simp [World.shape?, b1]) l hne (by omega) (by omega)
                  (fun j x hx => by rw [addr_add]; exact r3 j _ (by rw [List.getElem?_map, hx]; rfl))
                rw [hnl] at hrun
                refine ⟨w.freeze ⟨c, 0, none⟩ n, _, hrun, .string _, ?_⟩
                have hbm : b ∈ members st fam := ha.own b _ (see_get hs)
                refine F.stp.turn (b := b) (c := c) (z := sz) (F.noted b hbm _ hs) hb f2 (fun i e s he hi' => ?_) f4 f5 f6 f3
                obtain ⟨e0, g1, g2, g3⟩ := F.back i e he
                have hfam : e0.fam = fam := hi.fam i b e0 _ c s sz g1 hs hi' hb
                have him : i ∈ members st fam := by rw [← hfam]; exact ha.own i e0 (see_get g1)
                obtain ⟨cs2, el2, ex2, hob⟩ := F.ok i him e he
                obtain ⟨c2, s2', k1, k2⟩ := F.stp.inv.ob i e he
                rw [hi'] at k1; cases k1
                rw [hob] at k2 ⊢
                obtain ⟨arr2, fr2, p1, p2, p3, p4, p5, p6, p7⟩ := k2
                rw [b1] at p1; cases p1
                exact ⟨arr, fr', f1, p2, p3, p4, p5, f1', fun h => by cases h⟩

theorem unsafeStringA_ok (ha : Abs T st) (hi : Inv T.n0 base ι st.see w) {ts : Array TypeId} {tt : TypeId} {p p' n n' u : Value} (hp : Rv ι p p') (hn : Rv ι n n') (h : unsafeStringA T st ts.toList p n = some (u, st')) :
    ∃ w' v', (Builtin.unsafeString_ ts tt #[p', n']).run P w = .ok v' w' ∧ Rv ι u v' ∧ Stp T base st st' ι ι w w' := by
  obtain ⟨ts⟩ := ts
  simp only at h
  unfold unsafeStringA at h
  split at h
  · obtain rfl := rv_int_inv hn
    split at h
    · cases h
      have : ∃ a', p' = .pointer a' := by cases hp <;> exact ⟨_, rfl⟩
      obtain ⟨a', rfl⟩ := this
      exact ⟨w, _, Lib.run_unsafeString_none w _ _ _ a', .string _, .refl ha hi⟩
    · cases h
  · obtain rfl := rv_int_inv hn
    split at h
    · exact unsafeAt_ok hT hC ha hi (Nat.succ_pos _) hp h
    · cases h
  · cases h

theorem stringDataA_ok {ts : Array TypeId} {tt : TypeId} {x x' v : Value} (hx : Rv ι x x') (h : stringDataA x = some v) :
    ∃ v', (Builtin.unsafeSliceData_ ts tt #[x']).run P w = .ok v' w ∧ Rv ι v v' := by
  cases x <;> (try simp only [stringDataA] at h) <;> (try (cases h; done))
  rename_i a len cap
  cases a with
  | none =>
    cases h
    have : x' = .slice none 0 0 := by cases hx; rfl
    subst this
    exact ⟨_, rfl, .nilp⟩
  | some a =>
    cases len with
    | zero => cases h
    | succ len =>
      cases cap with
      | zero => cases h
      | succ cap =>
        cases h
        generalize hcc : cap + 1 = cap0 at hx
        cases hx with
        | slice hb' hc => exact ⟨_, Lib.run_unsafeSliceData_row _ _ _ _ _ _ (by omega), .ptr hb'⟩
        | sliceU hb' hl hz => exact ⟨_, Lib.run_unsafeSliceData_row _ _ _ _ _ _ (by omega), .ptr hb'⟩

end
end Go.Proofs.YthdnpikgnmdnnaaGreatDoor.Ev
