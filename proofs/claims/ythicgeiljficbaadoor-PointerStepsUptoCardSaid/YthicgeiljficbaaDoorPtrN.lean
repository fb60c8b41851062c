/- pointer.Find over values that are read as trees. -/
import Derived.Test.YthicgeiljficbaaDoorPtrM
namespace Go.Proofs.YthicgeiljficbaaDoor
open Go.RowKit Go.Proofs.YthicgeiljficbaaDoor.Ref Go.Proofs.YthicgeiljficbaaDoorW.PrintWords Go.Proofs.YthicgeiljficbaaDoorW.PrintLast
set_option linter.unusedSimpArgs false
set_option linter.unusedVariables false
set_option linter.unnecessarySimpa false
attribute [local go_sem] vcs

/-- an object's keys have values, all the way down -/
inductive OkT : S28 → Prop
  | mk (x : S28) (h1 : x.f0 = 6 → x.f4.length = x.f3.length) (h2 : ∀ y, y ∈ x.f3 → OkT y) : OkT x
theorem OkT.same {x : S28} (h : OkT x) : x.f0 = 6 → x.f4.length = x.f3.length := by cases h; assumption
theorem OkT.keys {x : S28} (h : OkT x) (h6 : x.f0 = 6) : x.f4.length ≤ x.f3.length := Nat.le_of_eq (h.same h6)
theorem OkT.sub {x y : S28} (h : OkT x) (hy : y ∈ x.f3) : OkT y := by
  cases h with
  | mk _ _ h2 => exact h2 y hy
theorem getV_mem {ks : List ByteArray} {xs : List S28} {key : ByteArray} {y : S28} (hl : ks.length ≤ xs.length) (h : getV ks xs key = some y) : y ∈ xs := by
  unfold getV at h
  split at h
  · obtain ⟨_, h2⟩ := idxOfS_range ks key
    have hlt : (Lib.idxOfS ks key).toNat < xs.length := by omega
    simp only [Option.some.injEq] at h
    rw [← h]
    simp [List.getD, hlt]
  · simp at h
theorem stepV_mem {x y : S28} {p : List UInt8} (hx : x.f0 = 6 → x.f4.length ≤ x.f3.length) (h : stepV x p = some y) : y ∈ x.f3 := by
  unfold stepV at h
  split at h
  · rename_i h6; exact getV_mem (hx h6) h
  · split at h
    · split at h
      · rename_i n hn
        split at h
        · split at h
          · split at h
            · rename_i h0 h1
              simp only [Option.some.injEq] at h
              rw [← h]
              have hlt : n.toNat < x.f3.length := by omega
              simp [List.getD, hlt]
            · simp at h
          · simp at h
        · simp at h
      · simp at h
    · simp at h

theorem wVal_len (w : List UInt8) : (wVal w).length ≤ 4 * w.length + 3 := by
  have h1 := replaceAll_len [126, 49] [47] w (by decide)
  have h2 := replaceAll_len [126, 48] [126] (Lib.replaceAll w [126, 49] [47]) (by decide)
  unfold wVal
  omega
theorem parseP_len {l : List UInt8} {ws : List (List UInt8)} (h : parseP l = some ws) : ws.length ≤ l.length ∧ ∀ p, p ∈ ws → p.length ≤ 4 * l.length + 3 := by
  cases l with
  | nil =>
    rw [parseP] at h
    cases h
    exact ⟨Nat.le_refl _, fun p hp => absurd hp (by simp)⟩
  | cons c t =>
    rw [parseP] at h
    by_cases h1 : c = 47
    · rw [if_pos h1] at h
      by_cases h2 : (spl 47 (t.count 47) t).all wOk = true
      · rw [if_pos h2] at h
        have hc := List.count_le_length (a := 47) (l := t)
        have hlen := spl_length 47 t
        have hfl := spl_flat 47 (t.count 47) t
        generalize spl 47 (t.count 47) t = ss at *
        cases h
        refine ⟨by rw [List.length_map, List.length_cons]; omega, fun p hp => ?_⟩
        obtain ⟨q, hq, rfl⟩ := List.mem_map.1 hp
        obtain ⟨j, hj, rfl⟩ := List.getElem_of_mem hq
        have h1 := elem_le hj
        have h2 := wVal_len ss[j]
        rw [List.length_cons]
        omega
      · rw [if_neg h2] at h; cases h
    · rw [if_neg h1] at h; cases h

def walkV (x : S28) : List (List UInt8) → Option S28
  | [] => some x
  | p :: ps => match stepV x p with
    | some y => walkV y ps
    | none => none
def findV (x : S28) (l : List UInt8) : Option S28 × Int := match parseP l with
  | none => (none, 70)
  | some ws => match walkV x ws with
    | some y => (some y, 0)
    | none => (none, 71)
/-- what Find tells -/
def Told (o : Option S28 × Int) (w0 w : World) (e : Ending) (w' : World) : Prop :=
  ∃ v5 v6, e = .returned (.tuple #[.agg (vcs (o.1.getD z28) v5 v6).toArray, .int .i64 o.2]) ∧ VK w0 (o.1.getD z28) v5 v6 ∧ Below w.heap.size w w'
theorem cell_aside (w : World) (a : Addr) (v : Value) (b o : Nat) (h : b ≠ a.block) : (w.setCell a v).cell? ⟨b, o, none⟩ = w.cell? ⟨b, o, none⟩ := by
  unfold World.cell?
  rw [heap_aside _ _ _ _ h]
def zcs : List Value := [.int .i64 0, .bool false, .string ⟨#[]⟩, .int .i64 0, .string ⟨#[]⟩, .slice none 0 0, .slice none 0 0]

set_option maxRecDepth 100000 in
set_option maxHeartbeats 4000000 in
theorem find_l (x : S28) (v5 v6 : Value) (l : List UInt8) (hl : l.length ≤ 67108864) (w0 w : World) (hx : VK w0 x v5 v6) (h0 : Below w0.heap.size w0 w) (he : EnvV w) (hok : OkT x) :
    Calls Tryd.prog 12 #[.agg (vcs x v5 v6).toArray, .string (str l)] w (Told (findV x l) w0 w) := by
  have hb0 : ∀ a b : Obj, Below w.heap.size w ((w.alloc a).alloc b) := fun a b => ((Below.refl _ _).alloc (Nat.le_refl _) _).alloc (by simp) _
  have HP := Lib.hid (fun a b : Obj => parse_l l hl ((w.alloc a).alloc b) (he.call (hb0 a b)).2.1)
  have HE := Lib.hid he
  have HX := Lib.hid hx
  have HB0 := Lib.hid hb0
  have HOK := Lib.hid hok
  have H0 := Lib.hid h0
  have hz0 := h0.size
  have he8 := he.1
  have HF : Hid (findV x l = match parseP l with
    | none => (none, 70)
    | some ws => match walkV x ws with
      | some y => (some y, 0)
      | none => (none, 71)) := rfl
  obtain ⟨A5, c5, A6, c6, rfl, rfl⟩ := hx.open
  clear hx hb0 he h0 hok
  generalize findV x l = F at *
  have HPL : Hid (∀ ws, parseP l = some ws → ws.length ≤ 67108865 ∧ ∀ p, p ∈ ws → p.length ≤ 1073741824) := by
    intro ws h
    obtain ⟨h1, h2⟩ := parseP_len h
    exact ⟨by omega, fun p hp => by have := h2 p hp; omega⟩
  generalize hpp : parseP l = pp at *
  clear hpp
  show Calls Tryd.prog 12 #[.agg #[.int .i64 x.f0, .bool x.f1.f0, .string x.f1.f1, .int .i64 x.f1.f2, .string x.f2, .slice A5 x.f3.length c5, .slice A6 x.f4.length c6], .string (str l)] w _
  go_enter Tryd.func12, Tryd.ntmps12
  go_wp2_with fail
  refine (HP.out _ _).mono ?_
  rintro e w1 ⟨v, rfl, ht, hvb, hb⟩
  have hz := hb.size
  simp only [World.size_alloc] at hz
  have hk := Blk.call (Blk.new (w.alloc _) zcs 28) hb
  have hk2 := Blk.call (Blk.alloc (Blk.new w [.int .i64 x.f0, .bool x.f1.f0, .string x.f1.f1, .int .i64 x.f1.f2, .string x.f2, .slice A5 x.f3.length c5, .slice A6 x.f4.length c6] 28) _) hb
  rw [World.size_alloc] at hk
  have HB1 := Lib.hid ((HB0.out _ _).trans (hb.mono (by simp; omega)))
  have HK := Lib.hid hk
  have HK2 := Lib.hid hk2
  have HE1 := Lib.hid (HE.out.call HB1.out)
  clear hb hk hk2
  cases pp with
  | none =>
    obtain ⟨⟨a0, a1, a2, a3, a4, a5, a6⟩, ⟨f0, f1, f2, f3, f4, f5, f6⟩, hs⟩ := HK.out.seven
    obtain ⟨va, vc, rfl, -⟩ := ht.form
    clear ht HPL
    go_wp2_with fail
    refine bodyPost_ret (v := .tuple #[.agg (vcs z28 (.slice none 0 0) (.slice none 0 0)).toArray, .int .i64 70]) (by simp [results, Tryd.results12, go_sem, vcs, z28, z24, a0, a1, a2, a3, a4, a5, a6, hs]) rfl ?_
    rw [HF.out]
    refine ⟨_, _, rfl, VK.zero _, ?_⟩
    repeat (first | (with_reducible exact HB1.out) | (with_reducible refine Below.setCell ?_ ?_ _))
    all_goals (show _ ≤ w.heap.size + 1; omega)
  | some ws =>
    obtain ⟨hw1, hw2⟩ := HPL.out ws rfl
    have ht' : Txts w1 v ws := ht
    obtain ⟨va, vc, rfl, hcells⟩ := ht'.form
    have HC := Lib.hid hcells
    clear ht ht' hcells HPL
    go_wp2_with fail
    have HW2 := Lib.hid hw2
    clear hw2
    have HF' : Hid (F = match walkV x ws with | some y => (some y, 0) | none => (none, 71)) := HF.out
    clear HF
    go_loopw [23] (fun i wr => ∃ (k : Nat) (y : S28) (u5 u6 : Value), k ≤ ws.length ∧ i = .int .i64 k ∧ Hid (walkV x ws = walkV y (ws.drop k)) ∧ Hid (OkT y) ∧ Hid (VK w0 y u5 u6) ∧ Hid (Blk wr w.heap.size (vcs y u5 u6) 28) ∧ Hid (Blk wr (w.heap.size + 1) zcs 28) ∧ Hid (Below w.heap.size w wr) ∧ Hid (∀ b o, b < w1.heap.size → b ≠ w.heap.size → wr.cell? ⟨b, o, none⟩ = w1.cell? ⟨b, o, none⟩) ∧ w1.heap.size ≤ wr.heap.size) (fun i _ => ws.length - (intOf i).toNat)
    case atStart => exact ⟨0, x, _, _, Nat.zero_le _, rfl, rfl, HOK.out, HX.out, HK2.out, HK.out, HB1.out, fun _ _ _ _ => rfl, Nat.le_refl _⟩
    case round =>
      obtain ⟨k, y, u5, u6, hk, rfl, HWk, HOy, HVy, HY, HZ, HB, HCR, hzr⟩ := hrel
      obtain ⟨B5, d5, B6, d6, rfl, rfl⟩ := HVy.out.open
      obtain ⟨⟨a0, a1, a2, a3, a4, a5, a6⟩, ⟨f0, f1, f2, f3, f4, f5, f6⟩, hs⟩ := HZ.out.seven
      obtain ⟨⟨b0, b1, b2, b3, b4, b5, b6⟩, -, -⟩ := HY.out.seven
      by_cases hlt : k < ws.length
      · obtain ⟨b, off, rfl, hbl, hcs⟩ := HC.out (by omega)
        have hcell : wr.cell? ⟨b, off + k, none⟩ = some (.string (str ws[k])) := by
          have hge := hvb _ _ _ rfl
          rw [HCR.out b _ hbl (by simp only [World.size_alloc] at hge; show b ≠ w.heap.size; omega)]
          exact hcs k hlt
        have hplen := HW2.out ws[k] (List.getElem_mem hlt)
        have HS := Lib.hid (step_l y _ _ ws[k] hplen w0 wr HVy.out (H0.out.trans (HB.out.mono hz0)) (HE.out.call HB.out) HOy.out.keys)
        have HWk2 : Hid (walkV x ws = match stepV y ws[k] with | some z => walkV z (ws.drop (k + 1)) | none => none) := by
          unfold Hid
          rw [HWk.out, List.drop_eq_getElem_cons hlt]
          rfl
        have HM : Hid (∀ z, stepV y ws[k] = some z → OkT z) := fun z hz => HOy.out.sub (stepV_mem HOy.out.keys hz)
        clear hplen hcs
        generalize ws[k] = p at *
        generalize stepV y p = o at *
        go_wp2_with fail
        refine HS.out.mono ?_
        rintro e w2 ⟨e5, e6, rfl, hV, hb2⟩
        obtain ⟨D5, g5, D6, g6, rfl, rfl⟩ := hV.open
        have hz2 := hb2.size
        have HV2 := Lib.hid hV
        have HY2 := Lib.hid (HY.out.call hb2)
        have HZ2 := Lib.hid (HZ.out.call hb2)
        have HB2 := Lib.hid (HB.out.trans (hb2.mono HB.out.size))
        have HCR2 : Hid (∀ b o, b < w1.heap.size → b ≠ w.heap.size → w2.cell? ⟨b, o, none⟩ = w1.cell? ⟨b, o, none⟩) := fun b o h1 h2 => (hb2.cell (p := ⟨b, o, none⟩) (by show b < _; omega)).trans (HCR.out b o h1 h2)
        obtain ⟨⟨q0, q1, q2, q3, q4, q5, q6⟩, ⟨r0, r1, r2, r3, r4, r5, r6⟩, hs2⟩ := HZ2.out.seven
        obtain ⟨⟨t0, t1, t2, t3, t4, t5, t6⟩, ⟨v0, v1, v2, v3, v4, v5, v6⟩, hs3⟩ := HY2.out.seven
        have hlt1 : w.heap.size < w2.heap.size := by omega
        have hlt2 : w.heap.size + 1 < w2.heap.size := by omega
        clear hb2 hV a0 a1 a2 a3 a4 a5 a6 f0 f1 f2 f3 f4 f5 f6 hs b0 b1 b2 b3 b4 b5 b6
        cases o with
        | none =>
          have HN : Hid (F = (none, 71)) := by
            unfold Hid
            rw [HF'.out, HWk2.out]
          clear HWk2 HM
          go_wp2_with fail
          refine bodyPost_ret (v := .tuple #[.agg (vcs z28 (.slice none 0 0) (.slice none 0 0)).toArray, .int .i64 71]) (by simp [results, Tryd.results12, go_sem, vcs, z28, z24, q0, q1, q2, q3, q4, q5, q6, hs2, hlt1, hlt2]) rfl ?_
          rw [HN.out]
          refine ⟨_, _, rfl, VK.zero _, ?_⟩
          repeat (first | (with_reducible exact HB2.out) | (with_reducible refine Below.setCell ?_ ?_ _) | (with_reducible refine Below.alloc ?_ ?_ _))
          all_goals first | (simp; done) | (simp; omega)
        | some z =>
          have HWz : Hid (walkV x ws = walkV z (ws.drop (k + 1))) := HWk2.out
          have HOz := Lib.hid (HM.out z rfl)
          clear HWk2 HM
          go_wp2_with fail
          go_roundw
          case measure => simp only [intOf]; omega
          case rel =>
            refine ⟨k + 1, z, _, _, by omega, by go_num, HWz.out, HOz.out, HV2.out, ?_, ?_, ?_, ?_, ?_⟩
            · exact ((((((((HY2.out.set 0 (.int .i64 z.f0)).set 1 (.bool z.f1.f0)).set 2 (.string z.f1.f1)).set 3 (.int .i64 z.f1.f2)).set 4 (.string z.f2)).set 5 (.slice D5 z.f3.length g5)).set 6 (.slice D6 z.f4.length g6)).alloc _).shut rfl
            · exact ((((((((HZ2.out.other _ (by simp)).other _ (by simp)).other _ (by simp)).other _ (by simp)).other _ (by simp)).other _ (by simp)).other _ (by simp)).alloc _)
            · refine Lib.hid ?_
              repeat (first | (with_reducible exact HB2.out) | (with_reducible refine Below.setCell ?_ ?_ _) | (with_reducible refine Below.alloc ?_ ?_ _))
              all_goals first | (simp; done) | (simp; omega)
            · intro b o h1 h2
              rw [World.cell?_alloc_lt _ _ _ (by simp; omega)]
              rw [cell_aside _ _ _ _ _ h2, cell_aside _ _ _ _ _ h2, cell_aside _ _ _ _ _ h2, cell_aside _ _ _ _ _ h2, cell_aside _ _ _ _ _ h2, cell_aside _ _ _ _ _ h2, cell_aside _ _ _ _ _ h2]
              exact HCR2.out b o h1 h2
            · simp; omega
      · obtain rfl : k = ws.length := by omega
        have HN : Hid (F = (some y, 0)) := by
          unfold Hid
          rw [HF'.out, HWk.out, List.drop_length]
          rfl
        go_wp2_with fail
        refine bodyPost_ret (v := .tuple #[.agg (vcs y (.slice B5 y.f3.length d5) (.slice B6 y.f4.length d6)).toArray, .int .i64 0]) (by simp [results, Tryd.results12, go_sem, vcs, a0, a1, a2, a3, a4, a5, a6, hs]) rfl ?_
        rw [HN.out]
        refine ⟨_, _, rfl, HVy.out, ?_⟩
        repeat (first | (with_reducible exact HB.out) | (with_reducible refine Below.setCell ?_ ?_ _))
        all_goals (show _ ≤ w.heap.size + 1; omega)
end Go.Proofs.YthicgeiljficbaaDoor
