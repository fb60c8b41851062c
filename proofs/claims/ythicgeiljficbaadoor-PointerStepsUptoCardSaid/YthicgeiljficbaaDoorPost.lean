/- The last step of a law's row, where of the world behind the call no more is known than that what was there is as it was. -/
import Derived.Test.YthicgeiljficbaaDoorRows
import Derived.WalkKit
import Derived.ProofKit
import Derived.Below
import Derived.ChangeSame
namespace Go.Proofs.YthicgeiljficbaaDoor
open Go.RowKit Go.WideShapes Go.ChangeShapes
set_option linter.unusedSimpArgs false
set_option linter.unusedVariables false

theorem post_new {H : Type} {enc : TypeId × Value → H} {P : Program} {f : Func} {s : ChangeSpec} {apart fresh handsOn again : Bool} {W W' : World} {args : Array Value} {v : Value} {ds gs : List (DataW H)} {old pa pv : List MemPlace}
    (hW : DataW.Whole enc P f.params.toList s.vars apart W args.toList ds gs old)
    (hres : ∀ (b : Nat) (sp : Nat → Bool) (hd : Bool), DataW.TrodAll enc P W' b sp hd f.resultTypes.toList (v.resultList f.resultTypes.size) (s.fn H (ds ++ gs)).results [])
    (hargs : ∀ sp : Nat → Bool, (∀ p ∈ old, sp p.block = true) → DataW.TrodAll enc P W' 0 sp true f.params.toList args.toList (s.fn H (ds ++ gs)).args pa)
    (hvars : ∀ sp : Nat → Bool, (∀ p ∈ old, sp p.block = true) → DataW.TrodVars enc P W' sp s.vars (s.fn H (ds ++ gs)).vars pv)
    (hold : old = pa ++ pv) (hb : Below W.heap.size W W')
    (hok : ∀ (j : Nat) (t : TypeId) (r : Value), f.resultTypes[j]? = some t → (v.resultList f.resultTypes.size)[j]? = some r → Value.okWide P W' .any 0 t r) :
    s.post enc P f apart fresh handsOn again W args v W' := by
  have lt : ∀ p ∈ old, p.block < W.heap.size := fun p hp => hW.lt p hp
  have was : ∀ p ∈ old, (fun b => decide (b < W.heap.size)) p.block = true := fun p hp => decide_eq_true (lt p hp)
  have any : ∀ p ∈ old, (fun _ : Nat => true) p.block = true := fun _ _ => rfl
  have kept := hb.frame (· ∈ old)
  have hF := hW
  obtain ⟨_, _, _, _, _, hz, hn⟩ := hF
  refine ⟨ds, gs, old, [], pa, pv, hW, hres _ _ _, hargs _ was, hvars _ was, World.keptBut_mono (fun p hp => ⟨hp, ?_⟩) kept, fun _ => ⟨hok, _, _, ([] ++ pa) ++ pv, ⟨[] ++ pa, pv, trodAll_append (hargs _ any) (hres _ _ _), hvars _ any, rfl, fun b off hp => ?_, fun ha => ?_⟩, fun p hp _ => ?_⟩⟩
  · subst hold
    exact Or.inr (List.mem_append.1 hp)
  · have hin : MemPlace.cell b off ∈ old := by rw [hold]; simpa using hp
    have := hz b off hin
    rwa [← hb.frozen (lt _ hin)] at this
  · have := hn ha
    rw [hold] at this
    simpa using this
  · rw [hold]
    simpa using hp
end Go.Proofs.YthicgeiljficbaaDoor
