/- What the evaluator takes from the program. Printed by gen_evc.py. -/
import Derived.Test.YthdnpikgnmdnnaaGreatDoorEvH
namespace Go.Proofs.YthdnpikgnmdnnaaGreatDoor.Ev
open Go.RowKit Go.Extern
set_option linter.unusedSimpArgs false
set_option linter.unusedVariables false
set_option linter.unusedSectionVars false
variable [Tok]

theorem ngE : (Go.Proofs.Tryz.prog.funcs.toList.all fun fn => !(fn.name == "runtime.NumGoroutine")) = true := by kernel_rfl
theorem mixE : Go.Proofs.Tryz.prog.follows .mixedOrders = true := by kernel_rfl
theorem tb_keep {P : Program} {T : Tb} {k : Tr (List Nat)} {l : Nat → Option (List Nat × (Code × Code))} (h : TbOk P T) : TbOk P { T with keep := k, lp := l } := ⟨h.ty, h.fn, h.ng, h.mixed⟩
theorem tbE : TbOk Go.Proofs.Tryz.prog T0 := by
  unfold T0
  exact tb_keep (tb_ok mixE ngE)

/-! ### What is compared -/
noncomputable def cmpB (t : Nat) : Bool := !(Go.Proofs.Tryz.prog.stoodInHeld t) && (!(Go.Proofs.Tryz.prog.eqGuardType Go.Proofs.Tryz.prog.depth t) && match Go.Proofs.Tryz.prog.underlying t with
  | some (.struct fs) => fs.toList.all fun f => !(f.name == "_")
  | _ => true)
theorem cmpB_all : cmpL.all cmpB = true := by kernel_rfl
theorem foldr_get : ∀ (l : List Nat) {t : Nat} {u : Unit}, (l.foldr (fun i t => t.set i (some ())) (.nil : Tr Unit)).get t = some u → t ∈ l
  | [], t, u, h => by cases h
  | i :: l, t, u, h => by
    rw [List.foldr_cons, Tr.get_set] at h
    by_cases e : t = i
    · exact e ▸ List.mem_cons_self
    · rw [if_neg e] at h
      exact List.mem_cons_of_mem _ (foldr_get l h)
theorem cmpE : CmpOk Go.Proofs.Tryz.prog T0 := by
  intro t u h
  unfold T0 tables at h
  dsimp only at h
  unfold cmpT at h
  have hm := foldr_get cmpL h
  have hb := List.all_eq_true.1 cmpB_all t hm
  unfold cmpB at hb
  rw [Bool.and_eq_true, Bool.and_eq_true] at hb
  refine ⟨by simpa using hb.1, by simpa using hb.2.1, fun fs hf f hm => ?_⟩
  have h3 := hb.2.2
  rw [hf] at h3
  have := List.all_eq_true.1 h3 f hm
  simpa using this

/-! ### What is no code of the program's -/
theorem ext_foldr : ∀ (l : List (Nat × Ext)) {f : Nat} {k : Ext}, (l.foldr (fun p t => t.set p.1 (some p.2)) (.nil : Tr Ext)).get f = some k → (f, k) ∈ l
  | [], t, u, h => by cases h
  | i :: l, t, u, h => by
    rw [List.foldr_cons, Tr.get_set] at h
    by_cases e : t = i.1
    · rw [if_pos e] at h
      cases h
      rw [e]
      exact List.mem_cons_self
    · rw [if_neg e] at h
      exact List.mem_cons_of_mem _ (ext_foldr l h)
theorem extE : ExtOk Go.Proofs.Tryz.prog T0 := by
  intro f k h args w
  have hm := ext_foldr _ h
  simp only [List.mem_cons, List.not_mem_nil, or_false, Prod.mk.injEq] at hm
  obtain ⟨rfl, rfl⟩ := hm
  · exact @run_callFunc_extern Go.Proofs.Tryz.prog 365 _ (extSem .indexByte) Go.Proofs.Tryz.func365 (by kernel_rfl) (by kernel_rfl) (by kernel_rfl) (by kernel_rfl) args w

/-! ### Loops over functions -/
theorem rfOnlyE : rfOnly Go.Proofs.Tryz.prog LPF = true := by kernel_rfl
theorem apartE : apartK LPL = true := by kernel_rfl
theorem rfE : ∀ f fn c, T0.fn.get f = some fn → fn.body = some c → rfOk c := by
  refine rf_of tbE.fn rfOnlyE fun f hf x hx => ?_
  have hm : x ∈ LPL := by
    unfold LPL
    exact List.mem_flatMap.2 ⟨f, hf, hx⟩
  have h := findK_ok apartE x hm
  unfold LP
  exact h

def EE (_ : World) : Prop := True
theorem primE : PrimOk Go.Proofs.Tryz.prog T0 EE := by
  intro f k h
  have h : (Tr.nil : Tr Prim).get f = some k := h
  cases h
theorem ctxE {base : Nat} : Ctx Go.Proofs.Tryz.prog T0 base EE where
  lp := by
    intro k x h
    unfold T0 at h
    dsimp only at h
    exact h
  rf := rfE
  tb := tbE
  cmp := cmpE
  ext := extE
  prim := primE
  depth := of_decide_eq_true (by kernel_rfl)
  meth := by
    intro ty m g h
    have h : (none : Option Nat) = some g := h
    cases h
  tk := tk_none _ _
  keep := fun w w' hE h => trivial
theorem moA : ACall T0 (moreC mo) := by
  intro f args st out st' h
  unfold moreC mo at h
  cases h
theorem moC (base : Nat) : CallOk1 Go.Proofs.Tryz.prog T0 base EE (moreC mo) := by
  intro f args st out st' h
  unfold moreC mo at h
  cases h
end Go.Proofs.YthdnpikgnmdnnaaGreatDoor.Ev
