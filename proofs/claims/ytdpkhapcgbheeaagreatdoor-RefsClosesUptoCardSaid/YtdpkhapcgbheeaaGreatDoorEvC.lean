/- What the evaluator takes from the program. Printed by gen_evc.py. -/
import Derived.Test.YtdpkhapcgbheeaaGreatDoorEvH
import Derived.Test.YtdpkhapcgbheeaaGreatDoorShelf
namespace Go.Proofs.YtdpkhapcgbheeaaGreatDoor.Ev
open Go.RowKit Go.Extern
set_option linter.unusedSimpArgs false
set_option linter.unusedVariables false

theorem ngE : (Go.Proofs.Tryz.prog.funcs.toList.all fun fn => !(fn.name == "runtime.NumGoroutine")) = true := by kernel_rfl
theorem mixE : Go.Proofs.Tryz.prog.follows .mixedOrders = true := by kernel_rfl
theorem tb_keep {P : Program} {T : Tb} {k : Tr (List Nat)} {l : Nat → Option (List Nat × (Code × Code))} (h : TbOk P T) : TbOk P { T with keep := k, lp := l } := ⟨h.ty, h.fn, h.ng, h.mixed⟩
theorem tbE : TbOk Go.Proofs.Tryz.prog T0 := by
  unfold T0
  exact tb_keep (tb_ok mixE ngE)

/-! ### What is compared -/
noncomputable def cmpB (t : Nat) : Bool := !(Go.Proofs.Tryz.prog.stoodInHeld t) && (!(Go.Proofs.Tryz.prog.eqGuardType Go.Proofs.Tryz.prog.depth t) && match Go.Proofs.Tryz.prog.underlying t with
  | some (.struct fs) => fs.toList.all fun f => !(f.name == "_")
  | _ => true)
theorem cmpB_all : cmpL.all cmpB = true := by kernel_rfl
theorem foldr_get : ∀ (l : List Nat) {t : Nat} {u : Unit}, (l.foldr (fun i t => t.set i (some ())) (.nil : Tr Unit)).get t = some u → t ∈ l
  | [], t, u, h => by cases h
  | i :: l, t, u, h => by
    rw [List.foldr_cons, Tr.get_set] at h
    by_cases e : t = i
    · exact e ▸ List.mem_cons_self
    · rw [if_neg e] at h
      exact List.mem_cons_of_mem _ (foldr_get l h)
theorem cmpE : CmpOk Go.Proofs.Tryz.prog T0 := by
  intro t u h
  have hm := foldr_get cmpL h
  have hb := List.all_eq_true.1 cmpB_all t hm
  unfold cmpB at hb
  rw [Bool.and_eq_true, Bool.and_eq_true] at hb
  refine ⟨by simpa using hb.1, by simpa using hb.2.1, fun fs hf f hm => ?_⟩
  have h3 := hb.2.2
  rw [hf] at h3
  have := List.all_eq_true.1 h3 f hm
  simpa using this

/-! ### What is no code of the program's -/
theorem ext_foldr : ∀ (l : List (Nat × Ext)) {f : Nat} {k : Ext}, (l.foldr (fun p t => t.set p.1 (some p.2)) (.nil : Tr Ext)).get f = some k → (f, k) ∈ l
  | [], t, u, h => by cases h
  | i :: l, t, u, h => by
    rw [List.foldr_cons, Tr.get_set] at h
    by_cases e : t = i.1
    · rw [if_pos e] at h
      cases h
      rw [e]
      exact List.mem_cons_self
    · rw [if_neg e] at h
      exact List.mem_cons_of_mem _ (ext_foldr l h)
theorem extE : ExtOk Go.Proofs.Tryz.prog T0 := by
  intro f k h args w
  have hm := ext_foldr _ h
  simp only [List.mem_cons, List.not_mem_nil, or_false, Prod.mk.injEq] at hm
  obtain ⟨rfl, rfl⟩ | ⟨rfl, rfl⟩ | ⟨rfl, rfl⟩ | ⟨rfl, rfl⟩ := hm
  · exact ⟨_, _, by kernel_rfl, @run_callFunc_extern Go.Proofs.Tryz.prog 187 _ _ Go.Proofs.Tryz.func187 (by kernel_rfl) (by kernel_rfl) (by kernel_rfl) rfl args w⟩
  · exact @run_callFunc_extern Go.Proofs.Tryz.prog 133 _ (extSem .same) Go.Proofs.Tryz.func133 (by kernel_rfl) (by kernel_rfl) (by kernel_rfl) (by kernel_rfl) args w
  · exact @run_callFunc_extern Go.Proofs.Tryz.prog 125 _ (extSem .count) Go.Proofs.Tryz.func125 (by kernel_rfl) (by kernel_rfl) (by kernel_rfl) (by kernel_rfl) args w
  · exact @run_callFunc_extern Go.Proofs.Tryz.prog 160 _ (extSem .indexByte) Go.Proofs.Tryz.func160 (by kernel_rfl) (by kernel_rfl) (by kernel_rfl) (by kernel_rfl) args w

/-! ### Loops over functions -/
theorem rfOnlyE : rfOnly Go.Proofs.Tryz.prog LPF = true := by kernel_rfl
theorem apartE : apartK LPL = true := by kernel_rfl
theorem rfE : ∀ f fn c, T0.fn.get f = some fn → fn.body = some c → rfOk c := by
  refine rf_of tbE.fn rfOnlyE fun f hf x hx => ?_
  have hm : x ∈ LPL := by
    unfold LPL
    exact List.mem_flatMap.2 ⟨f, hf, hx⟩
  have h := findK_ok apartE x hm
  unfold LP
  exact h

def EE (w : World) : Prop := ∃ m, w.cell? ⟨2, 0, none⟩ = some (.int .i64 m)
theorem primE : PrimOk Go.Proofs.Tryz.prog T0 EE := by
  intro f k h args v hv w args' ι hE hr
  have h : (Tr.set (.nil : Tr Prim) 94 (some .index)).get f = some k := h
  rw [Tr.get_set] at h
  by_cases e : f = 94
  · rw [if_pos e] at h
    cases h
    subst e
    unfold primV at hv
    split at hv
    · rename_i a b
      obtain ⟨x, y, hx, h1, h2⟩ := hr.two
      cases h1
      cases h2
      have e' : args' = #[.string a, .string b] := by rw [← Array.toList_inj]; exact hx
      cases hz : Nat.blt a.data.toList.length 4294967281 with
      | false => rw [hz] at hv; cases hv
      | true =>
        rw [hz, cond_true] at hv
        cases hv
        have hs : a.size < 4294967281 := by simpa using hz
        obtain ⟨m, hm⟩ := hE
        rw [e']
        refine (Go.Proofs.Tryz.strings_Index a b m w hs hm).mono ?_
        rintro r w' ⟨rfl, rfl⟩
        refine ⟨⟨_, rfl, ?_⟩, rfl, rfl, rfl, rfl⟩
        have hf := findL_ok b.data.toList a.data.toList 0
        have : findL b.data.toList a.data.toList 0 = Lib.index a.data.toList b.data.toList := by
          rw [hf]
          split
          · exact Eq.symm (by assumption)
          · simp
        rw [this]
        exact .int _ _
    · cases hv
  · rw [if_neg e] at h
    cases h
theorem cell_keep {base : Nat} {w w' : World} {a : Addr} (ha : a.block < base) (h : Below base w w') : w'.cell? a = w.cell? a := by
  unfold World.cell?
  rw [h.block _ ha]
theorem ctxE {base : Nat} (hb : 2 < base) : Ctx Go.Proofs.Tryz.prog T0 base EE where
  lp := by
    intro k x h
    unfold T0 at h
    dsimp only at h
    exact h
  rf := rfE
  tb := tbE
  cmp := cmpE
  ext := extE
  prim := primE
  depth := of_decide_eq_true (by kernel_rfl)
  keep := fun w w' hE h => by
    obtain ⟨m, hm⟩ := hE
    exact ⟨m, by rw [cell_keep (by simp only; omega) h]; exact hm⟩
theorem moA : ACall T0 (moreC mo) := by
  intro f args st out st' h
  unfold moreC mo at h
  cases h
theorem moC (base : Nat) : CallOk1 Go.Proofs.Tryz.prog T0 base EE (moreC mo) := by
  intro f args st out st' h
  unfold moreC mo at h
  cases h
end Go.Proofs.YtdpkhapcgbheeaaGreatDoor.Ev
