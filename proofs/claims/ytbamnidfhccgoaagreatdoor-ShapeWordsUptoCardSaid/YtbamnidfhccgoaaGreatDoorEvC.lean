/- What the evaluator of law12 takes from the program. -/
import Derived.Test.YtbamnidfhccgoaaGreatDoorEvH
import Derived.Test.YtbamnidfhccgoaaGreatDoorShpAs
namespace Go.Proofs.YtbamnidfhccgoaaGreatDoor.Ev
open Go.RowKit Go.Extern
set_option linter.unusedSimpArgs false
set_option linter.unusedVariables false

theorem ng12 : (Tryz.prog.funcs.toList.all fun fn => !(fn.name == "runtime.NumGoroutine")) = true := by kernel_rfl
theorem mix12 : Tryz.prog.follows .mixedOrders = true := by kernel_rfl
theorem tb_keep {P : Program} {T : Tb} {k : Tr (List Nat)} (h : TbOk P T) : TbOk P { T with keep := k } := ⟨h.ty, h.fn, h.ng, h.mixed⟩
theorem tb12 : TbOk Tryz.prog T0 := by
  unfold T0
  exact tb_keep (tb_ok mix12 ng12)

/-! ### What is compared -/
noncomputable def cmpB (t : Nat) : Bool := !(Tryz.prog.stoodInHeld t) && (!(Tryz.prog.eqGuardType Tryz.prog.depth t) && match Tryz.prog.underlying t with
  | some (.struct fs) => fs.toList.all fun f => !(f.name == "_")
  | _ => true)
theorem cmpB_all : cmpL.all cmpB = true := by kernel_rfl
theorem foldr_get : ∀ (l : List Nat) {t : Nat} {u : Unit}, (l.foldr (fun i t => t.set i (some ())) (.nil : Tr Unit)).get t = some u → t ∈ l
  | [], t, u, h => by cases h
  | i :: l, t, u, h => by
    rw [List.foldr_cons, Tr.get_set] at h
    by_cases e : t = i
    · exact e ▸ List.mem_cons_self
    · rw [if_neg e] at h
      exact List.mem_cons_of_mem _ (foldr_get l h)
theorem cmp12 : CmpOk Tryz.prog T0 := by
  intro t u h
  have hm := foldr_get cmpL h
  have hb := List.all_eq_true.1 cmpB_all t hm
  unfold cmpB at hb
  rw [Bool.and_eq_true, Bool.and_eq_true] at hb
  refine ⟨by simpa using hb.1, by simpa using hb.2.1, fun fs hf f hm => ?_⟩
  have h3 := hb.2.2
  rw [hf] at h3
  have := List.all_eq_true.1 h3 f hm
  simpa using this

/-! ### What is no code of the program's -/
theorem ext_foldr : ∀ (l : List (Nat × Ext)) {f : Nat} {k : Ext}, (l.foldr (fun p t => t.set p.1 (some p.2)) (.nil : Tr Ext)).get f = some k → (f, k) ∈ l
  | [], t, u, h => by cases h
  | i :: l, t, u, h => by
    rw [List.foldr_cons, Tr.get_set] at h
    by_cases e : t = i.1
    · rw [if_pos e] at h
      cases h
      rw [e]
      exact List.mem_cons_self
    · rw [if_neg e] at h
      exact List.mem_cons_of_mem _ (ext_foldr l h)
theorem ext12 : ExtOk Tryz.prog T0 := by
  intro f k h args w
  have hm := ext_foldr _ h
  simp only [List.mem_cons, List.not_mem_nil, or_false, Prod.mk.injEq] at hm
  obtain ⟨rfl, rfl⟩ | ⟨rfl, rfl⟩ | ⟨rfl, rfl⟩ | ⟨rfl, rfl⟩ := hm
  · exact @run_callFunc_extern Tryz.prog 23 _ (extSem .indexByte) Tryz.func23 (by kernel_rfl) (by kernel_rfl) (by kernel_rfl) (by kernel_rfl) args w
  · exact @run_callFunc_extern Tryz.prog 173 _ (extSem .count) Tryz.func173 (by kernel_rfl) (by kernel_rfl) (by kernel_rfl) (by kernel_rfl) args w
  · exact @run_callFunc_extern Tryz.prog 212 _ (extSem .same) Tryz.func212 (by kernel_rfl) (by kernel_rfl) (by kernel_rfl) (by kernel_rfl) args w
  · exact ⟨_, _, by kernel_rfl, @run_callFunc_extern Tryz.prog 213 _ _ Tryz.func213 (by kernel_rfl) (by kernel_rfl) (by kernel_rfl) rfl args w⟩

/-! ### What is known of the worlds -/
def E12 (w : World) : Prop := w.cell? ⟨0, 0, none⟩ = some (.iface 88 (.agg #[.pointer (some ⟨12, 45, none⟩)])) ∧ ∃ m, w.cell? ⟨1, 0, none⟩ = some (.int .i64 m)
theorem prim12 : PrimOk Tryz.prog T0 E12 := by
  intro f k h args v hv w args' ι hE hr
  have h : (Tr.set (.nil : Tr Prim) 117 (some .index)).get f = some k := h
  rw [Tr.get_set] at h
  by_cases e : f = 117
  · rw [if_pos e] at h
    cases h
    subst e
    unfold primV at hv
    split at hv
    · rename_i a b
      obtain ⟨x, y, hx, h1, h2⟩ := hr.two
      cases h1
      cases h2
      have e' : args' = #[.string a, .string b] := by rw [← Array.toList_inj]; exact hx
      cases hz : Nat.blt a.data.toList.length 4294967281 with
      | false => rw [hz] at hv; cases hv
      | true =>
        rw [hz, cond_true] at hv
        cases hv
        have hs : a.size < 4294967281 := by simpa using hz
        obtain ⟨m, hm⟩ := hE.2
        rw [e']
        refine (Tryz.strings_Index a b m w hs hm).mono ?_
        rintro r w' ⟨rfl, rfl⟩
        refine ⟨⟨_, rfl, ?_⟩, rfl, rfl, rfl, rfl⟩
        have hf := findL_ok b.data.toList a.data.toList 0
        have : findL b.data.toList a.data.toList 0 = Lib.index a.data.toList b.data.toList := by
          rw [hf]
          split
          · exact Eq.symm (by assumption)
          · simp
        rw [this]
        exact .int _ _
    · cases hv
  · rw [if_neg e] at h
    cases h
end Go.Proofs.YtbamnidfhccgoaaGreatDoor.Ev
