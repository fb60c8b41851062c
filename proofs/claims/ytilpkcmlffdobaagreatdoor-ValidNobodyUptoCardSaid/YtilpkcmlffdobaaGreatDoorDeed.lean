/- gen.deeds: a map of deeds of which the first entries are known, in whatever order its loop goes. Printed by gen_deed.py. -/
import Derived.Test.YtilpkcmlffdobaaGreatDoorMapR
namespace Go.Proofs.YtilpkcmlffdobaaGreatDoor
open Go.RowKit
set_option linter.unusedSimpArgs false
set_option linter.unusedVariables false
set_option linter.unnecessarySimpa false

def plainE : List MapEntry := [⟨.int .i64 4, .int .i64 5, 0⟩, ⟨.int .i64 5, .int .i64 6, 1⟩, ⟨.int .i64 6, .int .i64 7, 2⟩, ⟨.int .i64 7, .int .i64 8, 3⟩, ⟨.int .i64 8, .int .i64 9, 4⟩, ⟨.int .i64 9, .int .i64 10, 5⟩, ⟨.int .i64 10, .int .i64 11, 6⟩, ⟨.int .i64 12, .int .i64 13, 7⟩, ⟨.int .i64 13, .int .i64 14, 8⟩, ⟨.int .i64 15, .int .i64 16, 9⟩, ⟨.int .i64 16, .int .i64 17, 10⟩]
def deedE : List MapEntry := [⟨.int .i64 1, .func (.func 107) #[] #[], 0⟩, ⟨.int .i64 2, .func (.func 108) #[] #[], 1⟩, ⟨.int .i64 3, .func (.func 108) #[] #[], 2⟩, ⟨.int .i64 11, .func (.func 109) #[] #[], 3⟩, ⟨.int .i64 14, .func (.func 110) #[] #[], 4⟩, ⟨.int .i64 17, .func (.func 111) #[] #[], 5⟩, ⟨.int .i64 18, .func (.func 112) #[] #[], 6⟩, ⟨.int .i64 19, .func (.func 113) #[] #[], 7⟩, ⟨.int .i64 25, .func (.func 113) #[] #[], 8⟩, ⟨.int .i64 20, .func (.func 114) #[] #[], 9⟩, ⟨.int .i64 21, .func (.func 114) #[] #[], 10⟩, ⟨.int .i64 22, .func (.func 115) #[] #[], 11⟩, ⟨.int .i64 23, .func (.func 116) #[] #[], 12⟩, ⟨.int .i64 24, .func (.func 117) #[] #[], 13⟩, ⟨.int .i64 27, .func (.func 118) #[] #[], 14⟩, ⟨.int .i64 28, .func (.func 119) #[] #[], 15⟩, ⟨.int .i64 29, .func (.func 120) #[] #[], 16⟩, ⟨.int .i64 30, .func (.func 121) #[] #[], 17⟩, ⟨.int .i64 31, .func (.func 122) #[] #[], 18⟩, ⟨.int .i64 32, .func (.func 123) #[] #[], 19⟩, ⟨.int .i64 33, .func (.func 124) #[] #[], 20⟩, ⟨.int .i64 34, .func (.func 125) #[] #[], 21⟩, ⟨.int .i64 35, .func (.func 125) #[] #[], 22⟩]

theorem plain_mem : ∀ e ∈ plainE, ∃ n c, e.key = .int .i64 n ∧ e.val = .int .i64 c ∧ ∀ d ∈ deedE, ∃ m, d.key = .int .i64 m ∧ m ≠ n := by
  intro e he
  simp only [plainE, List.mem_cons, List.not_mem_nil, or_false] at he
  rcases he with rfl | rfl | rfl | rfl | rfl | rfl | rfl | rfl | rfl | rfl | rfl <;> refine ⟨_, _, rfl, rfl, fun d hd => ?_⟩ <;>
    (simp only [deedE, List.mem_cons, List.not_mem_nil, or_false] at hd
     rcases hd with rfl | rfl | rfl | rfl | rfl | rfl | rfl | rfl | rfl | rfl | rfl | rfl | rfl | rfl | rfl | rfl | rfl | rfl | rfl | rfl | rfl | rfl | rfl <;> exact ⟨_, rfl, by decide⟩)
theorem plain_old : ∀ e ∈ plainE.toArray.toList, e.born < 11 := by
  intro e he
  simp only [plainE, List.mem_cons, List.not_mem_nil, or_false] at he
  rcases he with rfl | rfl | rfl | rfl | rfl | rfl | rfl | rfl | rfl | rfl | rfl <;> decide
theorem plain_nodup : (plainE.toArray.toList.map (·.born)).Nodup := by decide

/-- what is known of the map that is filled -/
def Filled (w : World) (O : Nat) : Prop := PreMap w O deedE
theorem Filled.keep {w w' : World} {O : Nat} (h : Filled w O) (e : w'.heap[O]? = w.heap[O]?) : Filled w' O := by
  obtain ⟨es, clock, l2, h1, h2⟩ := h
  exact ⟨es, clock, l2, e.trans h1, h2⟩

set_option maxRecDepth 100000 in
set_option maxHeartbeats 4000000 in
theorem plain_l (w : World) : Calls Tryz.prog 126 #[] w fun e w' => e = .returned (.map (some w.heap.size)) ∧ w'.heap[w.heap.size]? = some (.map plainE.toArray 11) ∧ w'.heap.size = w.heap.size + 1 ∧ Below w.heap.size w w' := by
  have hmm := @run_makeMap Tryz.prog
  have hb : (w.alloc (.map #[] 0)).heap[w.heap.size]? = some (.map ([] : List MapEntry).toArray 0) := heap_alloc_new w _
  have HB : Below w.heap.size w (w.alloc (.map #[] 0)) := (Below.refl _ _).alloc (Nat.le_refl _) _
  have hs : (w.alloc (.map #[] 0)).heap.size = w.heap.size + 1 := by simp
  go_enter Tryz.func126, Tryz.ntmps126
  go_wp2_with (first
    | (refine wpList_ins Tryz.underlying251 Tryz.underlying141 rfl _ _ _ rfl _ rfl _ rfl _ rfl _ _ hb rfl (Nat.le_refl _) HB ?_; intro w' hb' HB' hs'; have hs2 := hs'.trans hs; clear hb HB hs hs'; have hb := hb'; have HB := HB'; have hs := hs2; clear hb' HB' hs2)
    | go_in)
  go_ret
  exact ⟨rfl, hb, by omega, HB⟩

set_option maxRecDepth 100000 in
set_option maxHeartbeats 4000000 in
theorem deeds_l (w : World) : Calls Tryz.prog 40 #[] w fun e w' => ∃ c arr clock l1 l2, e = .returned (.map (some c)) ∧ w.heap.size ≤ c ∧ w'.heap[c]? = some (.map arr clock) ∧ arr.toList = l1 ++ l2 ∧ l1.map (fun m => (m.key, m.val)) = deedE.map (fun m => (m.key, m.val)) ∧ Below w.heap.size w w' := by
  have hmm := @run_makeMap Tryz.prog
  have HH : Hid ((w.alloc (.map #[] 0)).heap[w.heap.size]? = some (.map ([] : List MapEntry).toArray 0)) := heap_alloc_new w _
  have HB : Hid (Below w.heap.size w (w.alloc (.map #[] 0))) := (Below.refl _ _).alloc (Nat.le_refl _) _
  have HS : Hid ((w.alloc (.map #[] 0)).heap.size = w.heap.size + 1) := by unfold Hid; simp
  go_enter Tryz.func40, Tryz.ntmps40
  go_wp2_with (first
    | (refine wpList_insF Tryz.underlying151 Tryz.underlying141 rfl _ _ _ rfl _ rfl _ _ HH.out rfl (Nat.le_refl _) HB.out ?_; intro w' hb' HB' hs'; have hs2 := Lib.hid (hs'.trans HS.out); have hh2 := Lib.hid hb'; have hB2 := Lib.hid HB'; clear HH HB HS hs' hb' HB'; have HH := hh2; have HB := hB2; have HS := hs2; clear hh2 hB2 hs2)
    | (go_at_call 126; refine (plain_l _).mono ?_; rintro e w2 ⟨rfl, hM, hs2, HB2⟩; have HS2 := Lib.hid hs2; clear hs2; have hrg := run_range_map w2 251 141 156 w'.heap.size plainE.toArray 11 Tryz.underlying251 hM)
    | go_in)
  have HF : Filled w' w.heap.size := ⟨_, _, [], HH.out, rfl, fun e h => by cases h⟩
  have HF2 : Filled w2 w.heap.size := HF.keep (HB2.block _ (by have := HS.out; omega))
  have HB3 : Below w.heap.size w w2 := HB.out.trans (HB2.mono (by have := HS.out; omega))
  have HZ : Hid (w.heap.size < w'.heap.size ∧ w'.heap.size < w2.heap.size) := ⟨by have := HS.out; omega, by have := HS2.out; omega⟩
  clear HF HB HB2 HH HS HS2
  go_loopw [2] (fun _ wr => ∃ seen c0, wr.heap[w'.heap.size]? = some (.map plainE.toArray 11) ∧ wr.heap[w2.heap.size]? = some (.mapIter (some w'.heap.size) 11 seen c0) ∧ 11 ≤ c0 ∧ Filled wr w.heap.size ∧ Below w.heap.size w wr ∧ w2.heap.size < wr.heap.size)
    (fun _ wr => wr.rangeLeft w'.heap.size w2.heap.size)
  case atStart =>
    obtain ⟨z1, z2⟩ := HZ.out
    exact ⟨#[], 11, (heap_alloc_old w2 _ z2).trans hM, heap_alloc_new w2 _, Nat.le_refl _, HF2.keep (heap_alloc_old w2 _ (by omega)), HB3.alloc (by omega) _, by simp⟩
  case round =>
    obtain ⟨seen, c0, hM', hR, hc0, hF, hB, hlt⟩ := hrel
    have HL := Lib.hid hlt
    clear hlt hrg hM HF2 HB3
    have hne2 : w2.heap.size ≠ w'.heap.size := by have := HZ.out.2; omega
    go_wp2_with (first
      | (at_next; refine wpList_next_is rfl _ rfl w2.heap.size w'.heap.size 11 c0 seen plainE.toArray 11 rfl hR hM' hne2 plain_old hc0 plain_nodup ?_ ?_)
      | go_in)
    · go_wp2_with fail
      go_ret
      obtain ⟨es, clock, l2, h1, h2, -⟩ := hF
      exact ⟨_, es, clock, deedE, l2, rfl, Nat.le_refl _, h1, h2, rfl, hB⟩
    · intro e w3 hel hem hR3 hoth hs3 ho3 ht3 hp3 hen
      obtain ⟨n, c, hk, hv, hne⟩ := plain_mem e (by simpa using hem)
      rw [hk, hv] at hen ⊢
      have hM3 := (hoth w'.heap.size (Ne.symm hne2)).trans hM'
      have hF3 := hF.keep (hoth w.heap.size (by have := HZ.out; omega))
      have hB3 : Below w.heap.size w w3 := ⟨ho3.trans hB.os, ht3.trans hB.tape, hp3.trans hB.output, by have := hB.size; omega, fun k hk => (hoth k (by have := HZ.out; omega)).trans (hB.block k hk)⟩
      have HL3 : Hid (w2.heap.size < w3.heap.size) := by have := HL.out; unfold Hid; omega
      have HSH : Hid ((leftOf plainE.toArray (seen.push e.born)).size < (leftOf plainE.toArray seen).size) := left_shrinks _ _ e (by simpa using hel)
      have HRL : Hid (wr.rangeLeft w'.heap.size w2.heap.size = (leftOf plainE.toArray seen).size) := by
        unfold Hid World.rangeLeft
        rw [hM', hR]
      have HR3 := Lib.hid hR3
      have HM3 := Lib.hid hM3
      have HF3 := Lib.hid hF3
      have HB4 := Lib.hid hB3
      clear hoth hs3 ho3 ht3 hp3 hel hem hM' hR hF hB hR3 hM3 hF3 hB3 hc0
      generalize e.born = eb at *
      clear hk hv
      go_wp2_with (first
        | (at_mapUpdate; refine wpList_upd (w0 := w) (B := w.heap.size) Tryz.underlying151 Tryz.underlying141 rfl _ _ _ rfl w.heap.size rfl n rfl _ rfl deedE ?_ hne (Nat.le_refl _) ?_ ?_)
        | go_in)
      · exact HF3.out.keep (heap_alloc_old w3 _ (by have := HZ.out; have := HL3.out; omega))
      · exact HB4.out.alloc (by have := HZ.out; have := HL3.out; omega) _
      · intro w5 hF5 hB5 hoth5 hs5
        have HF5 := Lib.hid hF5
        have HB5 := Lib.hid hB5
        have HM5 : Hid (w5.heap[w'.heap.size]? = some (.map plainE.toArray 11)) := (hoth5 _ (by have := HZ.out; omega)).trans ((heap_alloc_old w3 _ (by have := HZ.out; have := HL3.out; omega)).trans HM3.out)
        have HR5 : Hid (w5.heap[w2.heap.size]? = some (.mapIter (some w'.heap.size) 11 (seen.push eb) 11)) := (hoth5 _ (by have := HZ.out; omega)).trans ((heap_alloc_old w3 _ (by have := HL3.out; omega)).trans HR3.out)
        have HL5 : Hid (w2.heap.size < w5.heap.size) := by have := HL3.out; unfold Hid; (try simp at hs5); omega
        clear hF5 hB5 hoth5 hs5
        go_wp2_with fail
        go_roundw
        case measure =>
          rw [HRL.out]
          unfold World.rangeLeft
          rw [HM5.out, HR5.out]
          exact HSH.out
        case rel => exact ⟨_, 11, HM5.out, HR5.out, Nat.le_refl _, HF5.out, HB5.out, HL5.out⟩
end Go.Proofs.YtilpkcmlffdobaaGreatDoor
