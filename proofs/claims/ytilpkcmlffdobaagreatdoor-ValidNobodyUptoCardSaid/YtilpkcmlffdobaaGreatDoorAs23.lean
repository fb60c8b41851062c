/- errors.As at a target of the error's own type: the lines of a worked example of the kit (ToyasAs), turned to this dump's numbers by gen_as2.py. -/
import Derived.Test.YtilpkcmlffdobaaGreatDoorProg
import Derived.WalkKit
import Derived.LaidEql
import Derived.Stop.Asserts
import Derived.RowKitTokens
namespace Go.Proofs.YtilpkcmlffdobaaGreatDoor
open Go.RowKit Go.Extern.Stop Go.Stop Go.Extern
set_option linter.unusedSimpArgs false
set_option linter.unusedVariables false
theorem as_nil (t : Value) (w : World) :
    Calls Tryz.prog 230 #[.nilIface, t] w fun e w' => e = .returned (.bool false) ∧ w' = w := by
  go_enter Tryz.func230, Tryz.ntmps230
  go_wp2
  go_ret
  exact ⟨rfl, rfl⟩

theorem asw_valueOf27 (t : Addr) (w : World) : (ReflectliteValue.unpack (.iface 365 (.pointer (some t)))).run Tryz.prog w
    = .ok (.agg #[.pointer (some ⟨14, 365, none⟩), .pointer (some ⟨w.heap.size, 0, none⟩), .int .u64 150]) (w.alloc (.cells #[.pointer (some t)] 365)) := by kernel_rfl
theorem asw_type27 (a : Addr) (w : World) : (ReflectliteValue.methodAny (ReflectliteValue.valueError "reflectlite.Value.Type" 0) (fun t _ _ _ => ReflectliteType.toType t) #[.agg #[.pointer (some ⟨14, 365, none⟩), .pointer (some a), .int .u64 150]]).run Tryz.prog w
    = .ok (.iface 562 (.agg #[.pointer (some ⟨14, 365, none⟩)])) w := by kernel_rfl
theorem asw_methodKind (h : Value) (w : World) : (Go.method 839 562 (.agg #[h]) "Kind").run Tryz.prog w = .ok (628, h) w := by kernel_rfl
theorem asw_kind27 (w : World) : ((ReflectliteType.abiMethod fun t => (fun a : Nat => Value.int IntKind.u8 (a : Int)) <$> Rtype.kind t) #[.pointer (some ⟨14, 365, none⟩)]).run Tryz.prog w = .ok (.int .u8 22) w := by kernel_rfl
theorem asw_kind25 (w : World) : ((ReflectliteType.abiMethod fun t => (fun a : Nat => Value.int IntKind.u8 (a : Int)) <$> Rtype.kind t) #[.pointer (some ⟨14, 363, none⟩)]).run Tryz.prog w = .ok (.int .u8 22) w := by kernel_rfl

theorem rlm (z : Sem Value) (f : TypeId → Addr → Nat → Nat → Sem Value) (v : Value) :
    ReflectliteValue.method z f #[v] = (do match ← ReflectliteValue.parts v with | none => z | some (t, a, fl) => f t a fl (fl % 32)) := rfl
theorem asw_parts27 (a : Addr) (w : World) : (ReflectliteValue.parts (.agg #[.pointer (some ⟨14, 365, none⟩), .pointer (some a), .int .u64 150])).run Tryz.prog w = .ok (some (365, a, 150)) w := by kernel_rfl
theorem asw_isNil27 (a p : Addr) (W : World) (ha : W.cell? a = some (.pointer (some p))) :
    (ReflectliteValue.method (ReflectliteValue.valueError "reflectlite.Value.IsNil" 0) ReflectliteValue.isNil #[.agg #[.pointer (some ⟨14, 365, none⟩), .pointer (some a), .int .u64 150]]).run Tryz.prog W = .ok (.bool false) W := by
  rw [rlm]
  simp only [Sem.run_bind, asw_parts27, Result.andThen]
  simp [ReflectliteValue.isNil, loadVar, isAgg, underlying, Tryz.underlying365, ha, Result.andThen]

theorem asw_methodElem (h : Value) (w : World) : (Go.method 839 562 (.agg #[h]) "Elem").run Tryz.prog w = .ok (643, .agg #[h]) w := by kernel_rfl
theorem asw_methodImplements (h : Value) (w : World) : (Go.method 839 562 (.agg #[h]) "Implements").run Tryz.prog w = .ok (644, .agg #[h]) w := by kernel_rfl
theorem asw_methodAssignableTo (h : Value) (w : World) : (Go.method 839 562 (.agg #[h]) "AssignableTo").run Tryz.prog w = .ok (641, .agg #[h]) w := by kernel_rfl
theorem asw_elem27 (w : World) : (ReflectliteType.method ReflectliteType.elem #[.agg #[.pointer (some ⟨14, 365, none⟩)]]).run Tryz.prog w = .ok (.iface 562 (.agg #[.pointer (some ⟨14, 363, none⟩)])) w := by kernel_rfl
theorem asw_implements25 (w : World) : (ReflectliteType.relation "Implements" ReflectliteType.implements_ #[.agg #[.pointer (some ⟨14, 363, none⟩)], .iface 562 (.agg #[.pointer (some ⟨14, 303, none⟩)])]).run Tryz.prog w = .ok (.bool true) w := by kernel_rfl
theorem asw_typeOf25 (v : Value) (w : World) : (ReflectliteType.typeOf #[.iface 363 v]).run Tryz.prog w = .ok (.iface 562 (.agg #[.pointer (some ⟨14, 363, none⟩)])) w := by kernel_rfl
theorem asw_assignable25 (w : World) : (ReflectliteType.relation "AssignableTo" ReflectliteType.assignableTo #[.agg #[.pointer (some ⟨14, 363, none⟩)], .iface 562 (.agg #[.pointer (some ⟨14, 363, none⟩)])]).run Tryz.prog w = .ok (.bool true) w := by kernel_rfl
theorem asw_valueOf25 (e : Addr) (w : World) : (ReflectliteValue.unpack (.iface 363 (.pointer (some e)))).run Tryz.prog w
    = .ok (.agg #[.pointer (some ⟨14, 363, none⟩), .pointer (some ⟨w.heap.size, 0, none⟩), .int .u64 150]) (w.alloc (.cells #[.pointer (some e)] 363)) := by kernel_rfl

theorem asw_elemOf27 (w : World) : (Rtype.elem? 365).run Tryz.prog w = .ok (some 363) w := by kernel_rfl
theorem asw_mk25 (p : Addr) (w : World) : (ReflectliteValue.mk 363 p ReflectliteValue.flagAddr).run Tryz.prog w = .ok (.agg #[.pointer (some ⟨14, 363, none⟩), .pointer (some p), .int .u64 406]) w := by kernel_rfl
theorem asw_elemV27 (a p : Addr) (W : World) (ha : W.cell? a = some (.pointer (some p))) :
    (ReflectliteValue.method (ReflectliteValue.valueError "reflectlite.Value.Elem" 0) ReflectliteValue.elem #[.agg #[.pointer (some ⟨14, 365, none⟩), .pointer (some a), .int .u64 150]]).run Tryz.prog W
      = .ok (.agg #[.pointer (some ⟨14, 363, none⟩), .pointer (some p), .int .u64 406]) W := by
  rw [rlm]
  simp only [Sem.run_bind, asw_parts27, Result.andThen]
  simp [ReflectliteValue.elem, loadVar, isAgg, underlying, Tryz.underlying365, ha, Result.andThen, asw_elemOf27, asw_mk25]
theorem rls (v x : Value) : ReflectliteValue.set #[v, x] = (do
    let (some (dst, a, fl), some (src, b, _)) := (← ReflectliteValue.parts v, ← ReflectliteValue.parts x)
      | unsupported (.noEntry "extern/(internal/reflectlite.Value).Set.zeroValue")
    if fl / ReflectliteValue.flagAddr % 2 == 0 then unsupported (.noEntry "extern/(internal/reflectlite.Value).Set.unaddressable")
    let val ← loadVar src b
    if ← Rtype.directlyAssignable dst src then storeVar dst a val
    else if ← Rtype.implements dst src then
      if (← Rtype.kind src) == 20 then
        match val with
        | .nilIface => unsupported (.noEntry "extern/reflectlite: a nil value of one interface type handed on as a value of another")
        | _ => storeVar dst a val
      else storeVar dst a (.iface src val)
    else panicString ("reflectlite.Set: value of type " ++ (← Rtype.spelt src) ++ " is not assignable to type " ++ (← Rtype.spelt dst))
    pure (.tuple #[])) := rfl
theorem asw_parts25a (a : Addr) (w : World) : (ReflectliteValue.parts (.agg #[.pointer (some ⟨14, 363, none⟩), .pointer (some a), .int .u64 406])).run Tryz.prog w = .ok (some (363, a, 406)) w := by kernel_rfl
theorem asw_parts25 (a : Addr) (w : World) : (ReflectliteValue.parts (.agg #[.pointer (some ⟨14, 363, none⟩), .pointer (some a), .int .u64 150])).run Tryz.prog w = .ok (some (363, a, 150)) w := by kernel_rfl
theorem asw_direct25 (w : World) : (Rtype.directlyAssignable 363 363).run Tryz.prog w = .ok true w := by kernel_rfl
theorem asw_size25 (w : World) : (sizeOf 363).run Tryz.prog w = .ok 1 w := by kernel_rfl
theorem asw_set25 (ta b e : Addr) (old : Value) (W : World) (hb : W.cell? b = some (.pointer (some e))) (ht : W.cell? ta = some old) (hf : W.frozen? ta = false) :
    (ReflectliteValue.set #[.agg #[.pointer (some ⟨14, 363, none⟩), .pointer (some ta), .int .u64 406], .agg #[.pointer (some ⟨14, 363, none⟩), .pointer (some b), .int .u64 150]]).run Tryz.prog W
      = .ok (.tuple #[]) (W.setCell ta (.pointer (some e))) := by
  rw [rls]
  simp only [Sem.run_bind, asw_parts25a, asw_parts25, Result.andThen]
  simp [ReflectliteValue.flagAddr, loadVar, isAgg, underlying, Tryz.underlying363, hb, Result.andThen, asw_direct25, storeVar, Value.cells, storeCells, Addr.add]
  rw [run_store Tryz.prog W ta _ _ (by rfl)]
  simp [ht, hf]

set_option maxRecDepth 100000 in
set_option maxHeartbeats 8000000 in
theorem as_hit (e t : Addr) (old : Value) (w : World) (hg : w.cell? ⟨0, 0, none⟩ = some (.iface 562 (.agg #[.pointer (some ⟨14, 303, none⟩)]))) (ht0 : w.cell? t = some old) (hf0 : w.frozen? t = false) :
    Calls Tryz.prog 230 #[.iface 363 (.pointer (some e)), .iface 365 (.pointer (some t))] w fun ev w' => ev = .returned (.bool true) ∧ w' = ((((w.alloc (.cells #[.pointer (some t)] 365)).alloc (.cells #[.pointer (some ⟨14, 365, none⟩), .pointer (some ⟨w.heap.size, 0, none⟩), .int .u64 150] 477)).alloc (.cells #[.pointer (some ⟨14, 365, none⟩), .pointer (some ⟨w.heap.size, 0, none⟩), .int .u64 150] 477)).alloc (.cells #[.pointer (some e)] 363)).setCell t (.pointer (some e)) := by
  have h6 := @run_callFunc_extern Tryz.prog 317 _ (fun args => ReflectliteValue.unpack (args.getD 0 (.tuple #[]))) Tryz.func317 (by kernel_rfl) (by kernel_rfl) (by kernel_rfl) (by kernel_rfl)
  have h7 := @run_callFunc_extern Tryz.prog 318 _ (ReflectliteValue.methodAny (ReflectliteValue.valueError "reflectlite.Value.Type" 0) (fun t _ _ _ => ReflectliteType.toType t)) Tryz.func318 (by kernel_rfl) (by kernel_rfl) (by kernel_rfl) (by kernel_rfl)
  have h8 := @run_callFunc_extern Tryz.prog 319 _ (ReflectliteValue.method (ReflectliteValue.valueError "reflectlite.Value.IsNil" 0) ReflectliteValue.isNil) Tryz.func319 (by kernel_rfl) (by kernel_rfl) (by kernel_rfl) (by kernel_rfl)
  have h27 := @run_callFunc_extern Tryz.prog 628 _ (ReflectliteType.abiMethod fun t => do pure (.int .u8 (← Rtype.kind t))) Tryz.func628 (by kernel_rfl) (by kernel_rfl) (by kernel_rfl) (by kernel_rfl)
  have h37 := @run_callFunc_extern Tryz.prog 643 _ (ReflectliteType.method ReflectliteType.elem) Tryz.func643 (by kernel_rfl) (by kernel_rfl) (by kernel_rfl) (by kernel_rfl)
  have h38 := @run_callFunc_extern Tryz.prog 644 _ (ReflectliteType.relation "Implements" ReflectliteType.implements_) Tryz.func644 (by kernel_rfl) (by kernel_rfl) (by kernel_rfl) (by kernel_rfl)
  have h10 := @run_callFunc_extern Tryz.prog 427 _ ReflectliteType.typeOf Tryz.func427 (by kernel_rfl) (by kernel_rfl) (by kernel_rfl) (by kernel_rfl)
  have h35 := @run_callFunc_extern Tryz.prog 641 _ (ReflectliteType.relation "AssignableTo" ReflectliteType.assignableTo) Tryz.func641 (by kernel_rfl) (by kernel_rfl) (by kernel_rfl) (by kernel_rfl)
  have h11 := @run_callFunc_extern Tryz.prog 428 _ (ReflectliteValue.method (ReflectliteValue.valueError "reflectlite.Value.Elem" 0) ReflectliteValue.elem) Tryz.func428 (by kernel_rfl) (by kernel_rfl) (by kernel_rfl) (by kernel_rfl)
  have h12 := @run_callFunc_extern Tryz.prog 429 _ ReflectliteValue.set Tryz.func429 (by kernel_rfl) (by kernel_rfl) (by kernel_rfl) (by kernel_rfl)
  have tO := asw_typeOf25
  have mA := asw_methodAssignableTo
  have a25 := asw_assignable25
  have v25 := asw_valueOf25
  have f6 := asw_valueOf27
  have f7 := asw_type27
  have mK := asw_methodKind
  have mE := asw_methodElem
  have mI := asw_methodImplements
  have k27 := asw_kind27
  have k25 := asw_kind25
  have e27 := asw_elem27
  have i25 := asw_implements25
  have n8 := asw_isNil27 ⟨w.heap.size, 0, none⟩ t ((w.alloc (.cells #[.pointer (some t)] 365)).alloc (.cells #[.pointer (some ⟨14, 365, none⟩), .pointer (some ⟨w.heap.size, 0, none⟩), .int .u64 150] 477)) (by simp)
  have hlt : 0 < w.heap.size := by
    rcases Nat.eq_zero_or_pos w.heap.size with h0 | h
    · simp [World.cell?, h0] at hg
    · exact h
  have hg2 : ((w.alloc (.cells #[.pointer (some t)] 365)).alloc (.cells #[.pointer (some ⟨14, 365, none⟩), .pointer (some ⟨w.heap.size, 0, none⟩), .int .u64 150] 477)).cell? ⟨0, 0, none⟩ = some (.iface 562 (.agg #[.pointer (some ⟨14, 303, none⟩)])) := by
    rw [World.cell?_alloc_lt _ _ ⟨0, 0, none⟩ (by simp), World.cell?_alloc_lt _ _ ⟨0, 0, none⟩ hlt]; exact hg
  have htl : t.block < w.heap.size := by
    rcases Nat.lt_or_ge t.block w.heap.size with h | h
    · exact h
    · simp [World.cell?, Array.getElem?_eq_none h] at ht0
  have el := asw_elemV27 ⟨w.heap.size, 0, none⟩ t (((w.alloc (.cells #[.pointer (some t)] 365)).alloc (.cells #[.pointer (some ⟨14, 365, none⟩), .pointer (some ⟨w.heap.size, 0, none⟩), .int .u64 150] 477)).alloc (.cells #[.pointer (some ⟨14, 365, none⟩), .pointer (some ⟨w.heap.size, 0, none⟩), .int .u64 150] 477)) (by rw [World.cell?_alloc_lt _ _ ⟨w.heap.size, 0, none⟩ (by simp; omega)]; simp)
  have st := asw_set25 t ⟨w.heap.size + 1 + 1 + 1, 0, none⟩ e old ((((w.alloc (.cells #[.pointer (some t)] 365)).alloc (.cells #[.pointer (some ⟨14, 365, none⟩), .pointer (some ⟨w.heap.size, 0, none⟩), .int .u64 150] 477)).alloc (.cells #[.pointer (some ⟨14, 365, none⟩), .pointer (some ⟨w.heap.size, 0, none⟩), .int .u64 150] 477)).alloc (.cells #[.pointer (some e)] 363))
    (by rw [World.cell?_alloc_at _ _ _ _ (by simp)]; rfl)
    (by rw [World.cell?_alloc_lt _ _ t (by simp; omega), World.cell?_alloc_lt _ _ t (by simp; omega), World.cell?_alloc_lt _ _ t (by simp; omega), World.cell?_alloc_lt _ _ t htl]; exact ht0)
    (by rw [World.frozen?_alloc_old _ _ t (by simp; omega), World.frozen?_alloc_old _ _ t (by simp; omega), World.frozen?_alloc_old _ _ t (by simp; omega), World.frozen?_alloc_old _ _ t (Nat.ne_of_lt htl)]; exact hf0)
  go_enter Tryz.func230, Tryz.ntmps230
  go_wp2
  refine wp_loop_rounds 1 ?_
  rw [rounds_succ]
  go_wp2
  go_ret
  exact ⟨rfl, rfl⟩
end Go.Proofs.YtilpkcmlffdobaaGreatDoor
