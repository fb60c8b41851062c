/- dec.Compare: what it answers, and that it answers it always: run over unknown numbers, case by case. -/
import Derived.Test.YthdnpikgnmdnnaaGreatDoorEvC
import Derived.Test.YthdnpikgnmdnnaaGreatDoorDecA
namespace Go.Proofs.YthdnpikgnmdnnaaGreatDoor.Ev
open Go.RowKit
set_option linter.unusedSimpArgs false
set_option linter.unusedVariables false
set_option linter.unusedSectionVars false

/-! Two unknown numbers: 0 to 2 and 3 to 5; their lengths 6 and 7; these with the exponents 8 and 9 -/
noncomputable def dA : Value := .agg #[.float .f64 0, .float .f64 1, .float .f64 2]
noncomputable def dB : Value := .agg #[.float .f64 3, .float .f64 4, .float .f64 5]
noncomputable def isT (n : Nat) (v : Value) : Bool := beqV 60 v (.float .f64 n)
theorem isT_eq [Tok] {n : Nat} {v : Value} (h : isT n v = true) : v = .float .f64 n := beqV_eq 60 _ _ h

noncomputable def eqTk (q : Bool) (t : TypeId) (a b : Value) : Option Value := cond (Nat.beq t 23 && (beqV 60 a dA && beqV 60 b dB)) (some (.bool q)) none
noncomputable def addT (a b : Value) : Option Value := cond (isT 6 a && isT 2 b) (some (.float .f64 8)) (cond (isT 7 a && isT 5 b) (some (.float .f64 9)) none)
noncomputable def lenT (c : Call) (a : Value) : Option Value :=
  match c.callee with
  | .builtin .len => match c.argTypes.toList with
    | t :: _ => cond (Nat.beq t 9) (cond (isT 1 a) (some (.float .f64 6)) (cond (isT 4 a) (some (.float .f64 7)) none)) none
    | _ => none
  | _ => none
noncomputable def tkC (q : Bool) (op : Op) (vs : List Value) : Option Value :=
  match op, vs with
  | .binOp .eql t _ _ _, [a, b] => eqTk q t a b
  | .binOp .add _ _ _ _, [a, b] => addT a b
  | .call c, [a] => lenT c a
  | _, _ => none

noncomputable def runs (L : List (Nat × (List Value × Value))) (q : Bool) (c e : Int) : Bool :=
  chkV (.tuple #[.int .i64 c, .int .i64 e]) (exec (symT T0 L (tkC q)) 100000 (.call 5 [dA, dB]) (st0 T0.n0))
noncomputable def ansC (a b : Int) : List (Nat × (List Value × Value)) := [(12, ([dA], .int .i64 a)), (12, ([dB], .int .i64 b))]
noncomputable def ansG (a b : Int) : List (Nat × (List Value × Value)) := (14, ([dA], .int .i64 a)) :: (14, ([dB], .int .i64 b)) :: ansC 0 0
noncomputable def ansD (d e : Int) (g : Int) : List (Nat × (List Value × Value)) := (13, ([.float .f64 8, .float .f64 9], .int .i64 d)) :: (16, ([.float .f64 1, .float .f64 4], .int .i64 e)) :: ansG g g
noncomputable def three : List Int := [-1, 0, 1]
noncomputable def bools : List Bool := [true, false]
theorem bools_mem (q : Bool) : q ∈ bools := by cases q <;> simp [bools]
theorem run_bad1 : bools.all (fun q => runs [(12, ([dA], .int .i64 2))] q 0 2) = true := by kernel_rfl
theorem run_bad2 : bools.all (fun q => runs (ansC 0 2) q 0 2) = true := by kernel_rfl
theorem run_ne : bools.all (fun q => three.all fun g => three.all fun h => (cmpI g h == 0) || runs (ansG g h) q (cmpI g h) 0) = true := by kernel_rfl
theorem run_eq : three.all (fun g => runs (ansG g g) true 0 0) = true := by kernel_rfl
noncomputable def outC (d e g : Int) : Int := (if d = 0 then e else d) * g
theorem run_rest : three.all (fun g => three.all fun d => three.all fun e => runs (ansD d e g) false (outC d e g) 0) = true := by kernel_rfl
theorem tri_out {d e g : Int} (hd : Tri d) (he : Tri e) (hg : Tri g) : Tri (outC d e g) := by
  unfold outC Tri
  rcases hd with rfl | rfl | rfl <;> rcases he with rfl | rfl | rfl <;> rcases hg with rfl | rfl | rfl <;> decide
theorem tri_same {g h : Int} (hg : Tri g) (hh : Tri h) (e : cmpI g h = 0) : g = h := by
  rcases hg with rfl | rfl | rfl <;> rcases hh with rfl | rfl | rfl <;> first | rfl | (exact absurd e (by decide))

theorem tri_mem {c : Int} (h : Tri c) : c ∈ three := by
  rcases h with rfl | rfl | rfl <;> simp [three]

section
variable [Tok]
theorem one_arg {ι : Ren} {a : Value} {args' : Array Value} (h : All2 (Rv ι) [a] args'.toList) : ∃ y, args' = #[y] ∧ Rv ι a y := by
  obtain ⟨y, l, e, r, hh⟩ := h.cons_inv
  rw [hh.nil_inv] at e
  exact ⟨y, by apply Array.toList_inj.1; exact e, r⟩
theorem two_arg {ι : Ren} {a b : Value} {args' : Array Value} (h : All2 (Rv ι) [a, b] args'.toList) : ∃ y z, args' = #[y, z] ∧ Rv ι a y ∧ Rv ι b z := by
  obtain ⟨y, l, e, r, hh⟩ := h.cons_inv
  obtain ⟨z, l2, e2, r2, hh⟩ := hh.cons_inv
  rw [hh.nil_inv] at e2
  rw [e2] at e
  exact ⟨y, z, by apply Array.toList_inj.1; exact e, r, r2⟩
end

noncomputable def tk9 (n1 n2 : Bool) (s1 s2 : ByteArray) (x1 x2 : Int) : Nat → Value
  | 0 => .bool n1
  | 1 => .string s1
  | 2 => .int .i64 x1
  | 3 => .bool n2
  | 4 => .string s2
  | 5 => .int .i64 x2
  | 6 => .int .i64 s1.size
  | 7 => .int .i64 s2.size
  | 8 => .int .i64 (IntKind.i64.wrap (s1.size + x1))
  | 9 => .int .i64 (IntKind.i64.wrap (s2.size + x2))
  | _ => .bool true
theorem tk9_one (n1 n2 : Bool) (s1 s2 : ByteArray) (x1 x2 : Int) (n : Nat) : (tk9 n1 n2 s1 s2 x1 x2 n).cells.toList = [tk9 n1 n2 s1 s2 x1 x2 n] ∧ oneC (tk9 n1 n2 s1 s2 x1 x2 n) = true := by
  unfold tk9
  split <;> exact ⟨rfl, rfl⟩
section
variable [Tok] {n1 n2 : Bool} {s1 s2 : ByteArray} {x1 x2 : Int}
variable (hv : ∀ n, Tok.val n = tk9 n1 n2 s1 s2 x1 x2 n)
include hv
theorem rv_tk {ι : Ren} {k : FloatKind} {n : Nat} {v : Value} (h : Rv ι (.float k n) v) : v = tk9 n1 n2 s1 s2 x1 x2 n := by
  cases h
  exact hv n
theorem rv_three {ι : Ren} {a b c : Nat} {v : Value} (h : Rv ι (.agg #[.float .f64 a, .float .f64 b, .float .f64 c]) v) : v = .agg #[tk9 n1 n2 s1 s2 x1 x2 a, tk9 n1 n2 s1 s2 x1 x2 b, tk9 n1 n2 s1 s2 x1 x2 c] := by
  cases h with
  | agg h1 h2 =>
    rename_i u
    have hr : All2 (Rv ι) [.float .f64 a, .float .f64 b, .float .f64 c] u.toList := ⟨h1, h2⟩
    obtain ⟨y0, l0, e0, r0, hr⟩ := hr.cons_inv
    obtain ⟨y1, l1, e1, r1, hr⟩ := hr.cons_inv
    obtain ⟨y2, l2, e2, r2, hr⟩ := hr.cons_inv
    have e3 := hr.nil_inv
    rw [e3] at e2
    rw [e2] at e1
    rw [e1] at e0
    rw [rv_tk hv r0, rv_tk hv r1, rv_tk hv r2] at e0
    refine congrArg Value.agg ?_
    apply Array.toList_inj.1
    exact e0
theorem rv_dA {ι : Ren} {v : Value} (h : Rv ι dA v) : v = dv n1 s1 x1 := rv_three hv h
theorem rv_dB {ι : Ren} {v : Value} (h : Rv ι dB v) : v = dv n2 s2 x2 := rv_three hv h
theorem rv_three' {ι : Ren} (a b c : Nat) : Rv ι (.agg #[.float .f64 a, .float .f64 b, .float .f64 c]) (.agg #[tk9 n1 n2 s1 s2 x1 x2 a, tk9 n1 n2 s1 s2 x1 x2 b, tk9 n1 n2 s1 s2 x1 x2 c]) := by
  have h : All2 (Rv ι) [.float .f64 a, .float .f64 b, .float .f64 c] [tk9 n1 n2 s1 s2 x1 x2 a, tk9 n1 n2 s1 s2 x1 x2 b, tk9 n1 n2 s1 s2 x1 x2 c] := by
    rw [← hv a, ← hv b, ← hv c]
    exact .cons (.tok _ _) (.cons (.tok _ _) (.cons (.tok _ _) .nil))
  exact .agg h.1 h.2
theorem args_ab {ι : Ren} : All2 (Rv ι) [dA, dB] (#[dv n1 s1 x1, dv n2 s2 x2] : Array Value).toList :=
  .cons (rv_three' hv 0 1 2) (.cons (rv_three' hv 3 4 5) .nil)

/-! ### What the table for unknown values rests on -/
end

section
variable {n1 n2 : Bool} {s1 s2 : ByteArray} {x1 x2 : Int}
theorem und_dec : T0.cmp.get 23 = some () ∧
    ∀ (a b c a' b' c' : Value), eqV T0 40 23 (.agg #[a, b, c]) (.agg #[a', b', c']) = (match eqV T0 39 4 a a' with
      | some true => (match eqV T0 39 9 b b' with
        | some true => (match eqV T0 39 3 c c' with
          | some true => some true
          | some false => some false
          | none => none)
        | some false => some false
        | none => none)
      | some false => some false
      | none => none) := by
  refine ⟨by kernel_rfl, fun a b c a' b' c' => by kernel_rfl⟩
noncomputable def eqD (n1 : Bool) (s1 : ByteArray) (x1 : Int) (n2 : Bool) (s2 : ByteArray) (x2 : Int) : Bool := (n1 == n2) && (beqL s1.data.toList s2.data.toList && (x1 == x2))
theorem eqV_dec : eqV T0 40 23 (dv n1 s1 x1) (dv n2 s2 x2) = some (eqD n1 s1 x1 n2 s2 x2) := by
  have e1 : eqV T0 39 4 (.bool n1) (.bool n2) = some (n1 == n2) := by kernel_rfl
  have e2 : eqV T0 39 9 (.string s1) (.string s2) = some (beqL s1.data.toList s2.data.toList) := by kernel_rfl
  have e3 : eqV T0 39 3 (.int .i64 x1) (.int .i64 x2) = some (x1 == x2) := by kernel_rfl
  obtain ⟨_, h⟩ := und_dec
  unfold dv
  rw [h, e1, e2, e3]
  unfold eqD
  cases (n1 == n2) <;> cases beqL s1.data.toList s2.data.toList <;> cases (x1 == x2) <;> rfl
theorem guard_dec (lit : Bool) : guardV T0 lit 23 (dv n1 s1 x1) (dv n2 s2 x2) = true := by
  obtain ⟨hc, _⟩ := und_dec
  show (T0.cmp.get 23).isSome = true
  rw [hc]
  rfl
theorem bin_dec (lit : Bool) : binV T0 .eql lit 23 (dv n1 s1 x1) (dv n2 s2 x2) = some (.bool (eqD n1 s1 x1 n2 s2 x2)) := by
  show cond (guardV T0 lit 23 (dv n1 s1 x1) (dv n2 s2 x2)) ((eqV T0 40 23 (dv n1 s1 x1) (dv n2 s2 x2)).map Value.bool) none = _
  rw [guard_dec, eqV_dec]
  rfl
theorem und_str : T0.und 9 = some .string := by kernel_rfl
end

section
variable [Tok] {n1 n2 : Bool} {s1 s2 : ByteArray} {x1 x2 : Int} (hv : ∀ n, Tok.val n = tk9 n1 n2 s1 s2 x1 x2 n) {E : World → Prop}
include hv
theorem tkC_ok : TkOk Tryz.prog E (tkC (eqD n1 s1 x1 n2 s2 x2)) := by
  intro op vs v h ι ev w _ hr dst ty pos after guard
  unfold tkC at h
  split at h
  · rename_i t x y yT a b
    have hr : All2 (Rv ι) [a, b] [ev x, ev y] := hr
    obtain ⟨_, _, e1, r1, hr⟩ := hr.cons_inv
    cases e1
    obtain ⟨_, _, e2, r2, _⟩ := hr.cons_inv
    cases e2
    unfold eqTk at h
    cases hc : (Nat.beq t 23 && (beqV 60 a dA && beqV 60 b dB)) with
    | false => rw [hc] at h; cases h
    | true =>
      rw [hc] at h
      cases h
      rw [Bool.and_eq_true, Bool.and_eq_true] at hc
      obtain ⟨h1, h2, h3⟩ := hc
      have q1 := Nat.eq_of_beq_eq_true h1
      have q2 := beqV_eq 60 _ _ h2
      have q3 := beqV_eq 60 _ _ h3
      subst q1 q2 q3
      have ea := rv_dA hv r1
      have eb := rv_dB hv r2
      exact tk_bin tbE cmpE (by rw [ea, eb]; exact bin_dec _) (by rw [ea]; rfl) (by rw [eb]; rfl) dst ty pos after guard
  · rename_i t x y yT a b
    have hr : All2 (Rv ι) [a, b] [ev x, ev y] := hr
    obtain ⟨_, _, e1, r1, hr⟩ := hr.cons_inv
    cases e1
    obtain ⟨_, _, e2, r2, _⟩ := hr.cons_inv
    cases e2
    have one : ∀ {i j k : Nat} {p q : Int}, a = .float .f64 i → b = .float .f64 j → tk9 n1 n2 s1 s2 x1 x2 i = .int .i64 p → tk9 n1 n2 s1 s2 x1 x2 j = .int .i64 q → tk9 n1 n2 s1 s2 x1 x2 k = .int .i64 (IntKind.i64.wrap (p + q)) → v = .float .f64 k →
        ∃ v', (execOp ev ⟨dst, .binOp .add t x y yT, ty, pos, after, guard⟩).run Tryz.prog w = .ok (.value v') w ∧ Rv ι v v' := by
      intro i j k p q ha hb hp hq hk hvv
      subst ha hb hvv
      have ea := (rv_tk hv r1).trans hp
      have eb := (rv_tk hv r2).trans hq
      obtain ⟨v', g1, g2⟩ := tk_bin (ι := ι) (v := .int .i64 (IntKind.i64.wrap (p + q))) (w := w) tbE cmpE (op := .add) (t := t) (yT := yT) (x := x) (y := y) (ev := ev) (by rw [ea, eb]; rfl) (by rw [ea]; rfl) (by rw [eb]; rfl) dst ty pos after guard
      have e3 := rv_eq 40 rfl g2
      refine ⟨v', g1, ?_⟩
      rw [e3, ← hk, ← hv k]
      exact .tok _ _
    unfold addT at h
    cases hc : (isT 6 a && isT 2 b) with
    | true =>
      rw [hc] at h
      rw [Bool.and_eq_true] at hc
      exact one (k := 8) (isT_eq hc.1) (isT_eq hc.2) rfl rfl rfl (by cases h; rfl)
    | false =>
      rw [hc] at h
      cases hd : (isT 7 a && isT 5 b) with
      | true =>
        rw [hd] at h
        rw [Bool.and_eq_true] at hd
        exact one (k := 9) (isT_eq hd.1) (isT_eq hd.2) rfl rfl rfl (by cases h; rfl)
      | false => rw [hd] at h; cases h
  · rename_i c a
    unfold lenT at h
    split at h
    · rename_i hce
      have ho : (Op.call c).operands = c.args := by
        show c.operands = c.args
        unfold Call.operands
        rw [hce]
        simp
      rw [ho] at hr
      split at h
      · rename_i t r hte
        have ht : c.argTypes[0]? = some t := by rw [← Array.getElem?_toList, hte]; rfl
        cases hb : Nat.beq t 9 with
        | false => rw [hb] at h; cases h
        | true =>
          rw [hb] at h
          have q := Nat.eq_of_beq_eq_true hb
          subst q
          obtain ⟨y, l, e1, r1, hr2⟩ := hr.cons_inv
          rw [hr2.nil_inv] at e1
          have one : ∀ {i k : Nat} {s : ByteArray}, a = .float .f64 i → tk9 n1 n2 s1 s2 x1 x2 i = .string s → tk9 n1 n2 s1 s2 x1 x2 k = .int .i64 s.size → v = .float .f64 k →
              ∃ v', (execOp ev ⟨dst, .call c, ty, pos, after, guard⟩).run Tryz.prog w = .ok (.value v') w ∧ Rv ι v v' := by
            intro i k s ha hs hk hvv
            subst ha hvv
            have ea := (rv_tk hv r1).trans hs
            rw [ea] at e1
            obtain ⟨v', g1, g2⟩ := tk_len (ι := ι) (w := w) (ev := ev) tbE hce ht und_str e1 dst ty pos after guard
            have e3 := rv_eq 40 rfl g2
            refine ⟨v', g1, ?_⟩
            rw [e3, ← hk, ← hv k]
            exact .tok _ _
          cases h1 : isT 1 a with
          | true => rw [h1] at h; exact one (k := 6) (isT_eq h1) rfl rfl (by cases h; rfl)
          | false =>
            rw [h1] at h
            cases h4 : isT 4 a with
            | true => rw [h4] at h; exact one (k := 7) (isT_eq h4) rfl rfl (by cases h; rfl)
            | false => rw [h4] at h; cases h
      · cases h
    · cases h
  · cases h

/-! ### Answers to calls -/
theorem ans_dA {f : Nat} {k : Int} (K : ∀ w, Calls Tryz.prog f #[dv n1 s1 x1] w (New (.int .i64 k) w)) (ι : Ren) (w : World) (args' : Array Value) (_ : E w) (h : All2 (Rv ι) [dA] args'.toList) :
    Calls Tryz.prog f args' w fun e w' => ∃ v', e = .returned v' ∧ Rv ι (.int .i64 k) v' ∧ Below w.heap.size w w' := by
  obtain ⟨y, rfl, r⟩ := one_arg h
  rw [rv_dA hv r]
  exact (K w).mono fun e w' ⟨h1, h2⟩ => ⟨_, h1, .int _ _, h2⟩
theorem ans_dB {f : Nat} {k : Int} (K : ∀ w, Calls Tryz.prog f #[dv n2 s2 x2] w (New (.int .i64 k) w)) (ι : Ren) (w : World) (args' : Array Value) (_ : E w) (h : All2 (Rv ι) [dB] args'.toList) :
    Calls Tryz.prog f args' w fun e w' => ∃ v', e = .returned v' ∧ Rv ι (.int .i64 k) v' ∧ Below w.heap.size w w' := by
  obtain ⟨y, rfl, r⟩ := one_arg h
  rw [rv_dB hv r]
  exact (K w).mono fun e w' ⟨h1, h2⟩ => ⟨_, h1, .int _ _, h2⟩
theorem ans_two {f i j : Nat} {k : Int} (K : ∀ w, Calls Tryz.prog f #[tk9 n1 n2 s1 s2 x1 x2 i, tk9 n1 n2 s1 s2 x1 x2 j] w (Go.Proofs.YthdnpikgnmdnnaaGreatDoor.Ans (.int .i64 k) w)) (ι : Ren) (w : World) (args' : Array Value) (_ : E w) (h : All2 (Rv ι) [.float .f64 i, .float .f64 j] args'.toList) :
    Calls Tryz.prog f args' w fun e w' => ∃ v', e = .returned v' ∧ Rv ι (.int .i64 k) v' ∧ Below w.heap.size w w' := by
  obtain ⟨y, z, rfl, r1, r2⟩ := two_arg h
  rw [rv_tk hv r1, rv_tk hv r2]
  refine (K w).mono ?_
  rintro e w' ⟨h1, rfl⟩
  exact ⟨_, h1, .int _ _, .refl _ _⟩
end

/-- the worlds here -/
def E8 (w : World) : Prop := 8 ≤ w.heap.size
theorem n0C : T0.n0 = 8 := by kernel_rfl
section
variable [Tok]
theorem ctx8 {base : Nat} : Ctx Tryz.prog T0 base E8 := ctx_more ctxE (fun _ _ => trivial) fun w w' h hb => Nat.le_trans h hb.size
theorem cmp_run {n1 n2 : Bool} {s1 s2 : ByteArray} {x1 x2 : Int} (hv : ∀ n, Tok.val n = tk9 n1 n2 s1 s2 x1 x2 n) {L : List (Nat × (List Value × Value))} {q : Bool} {c e : Int} (hr : runs L q c e = true) (hL : AnsOk Tryz.prog E8 L) (hK : TkOk Tryz.prog E8 (tkC q)) (w : World) (hw : E8 w) :
    Calls Tryz.prog 5 #[dv n1 s1 x1, dv n2 s2 x2] w (New (.tuple #[.int .i64 c, .int .i64 e]) w) :=
  sym_ans ctx8 hL hK hw (by rw [n0C]; exact hw) hr rfl (of_decide_eq_true (by kernel_rfl)) fun ι => args_ab hv
end
noncomputable abbrev tokI (n1 n2 : Bool) (s1 s2 : ByteArray) (x1 x2 : Int) : Tok := ⟨⟨tk9 n1 n2 s1 s2 x1 x2, tk9_one n1 n2 s1 s2 x1 x2⟩⟩

/-- What dec.Compare answers: that a number may not be; or one of three, and both numbers may be. -/
theorem compare_ex (n1 : Bool) (s1 : ByteArray) (x1 : Int) (n2 : Bool) (s2 : ByteArray) (x2 : Int) {k1 k2 : Int} (h1 : k1 = 0 ∨ k1 = 2) (h2 : k2 = 0 ∨ k2 = 2)
    (K1 : ∀ w, Calls Tryz.prog 12 #[dv n1 s1 x1] w (New (.int .i64 k1) w)) (K2 : ∀ w, Calls Tryz.prog 12 #[dv n2 s2 x2] w (New (.int .i64 k2) w)) :
    ∃ c e : Int, (e = 0 ∧ Tri c ∧ k1 = 0 ∧ k2 = 0 ∨ e = 2 ∧ c = 0) ∧ ∀ w, E8 w → Calls Tryz.prog 5 #[dv n1 s1 x1, dv n2 s2 x2] w (New (.tuple #[.int .i64 c, .int .i64 e]) w) := by
  letI tk := tokI n1 n2 s1 s2 x1 x2
  have hv : ∀ n, Tok.val n = tk9 n1 n2 s1 s2 x1 x2 n := fun n => rfl
  rcases h1 with rfl | rfl
  · rcases h2 with rfl | rfl
    · have aC : AnsOk Tryz.prog E8 (ansC 0 0) := ans_cons (ans_dA hv K1) (ans_cons (ans_dB hv K2) (ans_nil _ _))
      obtain ⟨g, tg, G1⟩ := sign_ex n1 s1 x1
      obtain ⟨h, th, G2⟩ := sign_ex n2 s2 x2
      have aG : AnsOk Tryz.prog E8 (ansG g h) := ans_cons (ans_dA hv G1) (ans_cons (ans_dB hv G2) aC)
      by_cases hn : cmpI g h = 0
      · have egh := tri_same tg th hn
        subst egh
        cases hq : eqD n1 s1 x1 n2 s2 x2 with
        | true =>
          have hK : TkOk Tryz.prog E8 (tkC true) := hq ▸ tkC_ok hv
          exact ⟨0, 0, .inl ⟨rfl, .inr (.inl rfl), rfl, rfl⟩, fun w hw => cmp_run hv (List.all_eq_true.1 run_eq g (tri_mem tg)) aG hK w hw⟩
        | false =>
          have hK : TkOk Tryz.prog E8 (tkC false) := hq ▸ tkC_ok hv
          obtain ⟨e, te, S⟩ := cmp_s_ex s1 s2
          have td := cmpI_tri (IntKind.i64.wrap (s1.size + x1)) (IntKind.i64.wrap (s2.size + x2))
          have D := fun w => cmp_i (IntKind.i64.wrap (s1.size + x1)) (IntKind.i64.wrap (s2.size + x2)) w
          generalize cmpI (IntKind.i64.wrap (s1.size + x1)) (IntKind.i64.wrap (s2.size + x2)) = d at td D
          have aD : AnsOk Tryz.prog E8 (ansD d e g) := ans_cons (ans_two hv (i := 8) (j := 9) D) (ans_cons (ans_two hv (i := 1) (j := 4) S) aG)
          have hr := List.all_eq_true.1 (List.all_eq_true.1 (List.all_eq_true.1 run_rest g (tri_mem tg)) d (tri_mem td)) e (tri_mem te)
          exact ⟨outC d e g, 0, .inl ⟨rfl, tri_out td te tg, rfl, rfl⟩, fun w hw => cmp_run hv hr aD hK w hw⟩
      · have hr := List.all_eq_true.1 (List.all_eq_true.1 (List.all_eq_true.1 run_ne _ (bools_mem (eqD n1 s1 x1 n2 s2 x2))) g (tri_mem tg)) h (tri_mem th)
        rw [show (cmpI g h == 0) = false by simpa using hn, Bool.false_or] at hr
        exact ⟨cmpI g h, 0, .inl ⟨rfl, cmpI_tri g h, rfl, rfl⟩, fun w hw => cmp_run hv hr aG (tkC_ok hv) w hw⟩
    · have aC : AnsOk Tryz.prog E8 (ansC 0 2) := ans_cons (ans_dA hv K1) (ans_cons (ans_dB hv K2) (ans_nil _ _))
      exact ⟨0, 2, .inr ⟨rfl, rfl⟩, fun w hw => cmp_run hv (List.all_eq_true.1 run_bad2 _ (bools_mem _)) aC (tkC_ok hv) w hw⟩
  · have aC : AnsOk Tryz.prog E8 [(12, ([dA], .int .i64 2))] := ans_cons (ans_dA hv K1) (ans_nil _ _)
    exact ⟨0, 2, .inr ⟨rfl, rfl⟩, fun w hw => cmp_run hv (List.all_eq_true.1 run_bad1 _ (bools_mem _)) aC (tkC_ok hv) w hw⟩
end Go.Proofs.YthdnpikgnmdnnaaGreatDoor.Ev
