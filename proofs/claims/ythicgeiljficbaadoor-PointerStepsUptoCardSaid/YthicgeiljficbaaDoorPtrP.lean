/- pointer.All over values that are read as trees. -/
import Derived.Test.YthicgeiljficbaaDoorPtrO
import Derived.Deep.RegionHeld3
namespace Go.Proofs.YthicgeiljficbaaDoor
open Go.RowKit Go.Proofs.YthicgeiljficbaaDoor.Ref Go.Proofs.YthicgeiljficbaaDoorW.PrintWords Go.Proofs.YthicgeiljficbaaDoorW.PrintLast
set_option linter.unusedSimpArgs false
set_option linter.unusedVariables false
set_option linter.unnecessarySimpa false
attribute [local go_sem] vcs

/-- how a member or an element is named -/
def nameP (k : Int) (ks : List ByteArray) (i : Nat) : List UInt8 := if k = 6 then (ks.getD i ByteArray.empty).data.toList else Lib.itoa i
mutual
/-- all pointers from here on -/
def allP (at_ : List UInt8) : S28 → List (List UInt8)
  | ⟨k, _, _, l, ks⟩ => at_ :: allL at_ k ks 0 l
def allL (at_ : List UInt8) (k : Int) (ks : List ByteArray) (i : Nat) : List S28 → List (List UInt8)
  | [] => []
  | y :: ys => allP (at_ ++ escPart (nameP k ks i)) y ++ allL at_ k ks (i + 1) ys
end
theorem allP_eq (a : List UInt8) (x : S28) : allP a x = a :: allL a x.f0 x.f4 0 x.f3 := by cases x; rw [allP]
theorem allL_drop (a : List UInt8) (k : Int) (ks : List ByteArray) (l : List S28) (i : Nat) (h : i < l.length) :
    allL a k ks i (l.drop i) = allP (a ++ escPart (nameP k ks i)) (l.getD i z28) ++ allL a k ks (i + 1) (l.drop (i + 1)) := by
  rw [List.drop_eq_getElem_cons h, allL]
  simp [List.getD, h]
theorem mem_allL {a : List UInt8} {k : Int} {ks : List ByteArray} {l : List S28} {i : Nat} (h : i < l.length) {p : List UInt8} (hp : p ∈ allP (a ++ escPart (nameP k ks i)) (l.getD i z28)) : p ∈ allL a k ks 0 l := by
  have : ∀ (j : Nat) (l2 : List S28) (n : Nat), n < l2.length → p ∈ allP (a ++ escPart (nameP k ks (j + n))) (l2.getD n z28) → p ∈ allL a k ks j l2 := by
    intro j l2
    induction l2 generalizing j with
    | nil => intro n hn; simp at hn
    | cons y ys ih =>
      intro n hn hm
      rw [allL]
      cases n with
      | zero => exact List.mem_append.2 (.inl (by simpa using hm))
      | succ n =>
        refine List.mem_append.2 (.inr (ih (j + 1) n (by simpa using hn) ?_))
        have e : j + 1 + n = j + (n + 1) := by omega
        rw [e]
        simpa using hm
  exact this 0 l i h (by simpa using hp)
theorem self_mem (a : List UInt8) (x : S28) : a ∈ allP a x := by rw [allP_eq]; simp

theorem rep_ge (c : UInt8) (new l : List UInt8) (h : 1 ≤ new.length) : l.length ≤ (rep c new l).length := by
  induction l with
  | nil => simp
  | cons b l ih =>
    have e : rep c new (b :: l) = (if b = c then new else [b]) ++ rep c new l := rfl
    rw [e, List.length_append, List.length_cons]
    split
    · omega
    · simp only [List.length_cons, List.length_nil]; omega
theorem escPart_ge (l : List UInt8) : l.length ≤ (escPart l).length := by
  have h1 := rep_ge 126 [126, 48] l (by decide)
  have h2 := rep_ge 47 [126, 49] (rep 126 [126, 48] l) (by decide)
  unfold escPart
  rw [List.length_cons]
  omega
theorem add_str (a b : List UInt8) (h : a.length + b.length ≤ 1073741824) (w : World) : (binOp .add 9 (.string (str a)) (.string (str b))).run Tryd.prog w = .ok (.string (str (a ++ b))) w := by
  have h2 : a.length + b.length ≤ 9223372036854775807 := by omega
  go_simp

/-- likewise, but for block Bo, where the slice's own variable lies -/
structure FrB (Bo : Nat) (v v' : Value) (w w' : World) : Prop where
  os : w'.os = w.os
  tape : w'.tape = w.tape
  output : w'.output = w.output
  size : w.heap.size ≤ w'.heap.size
  keep : ∀ k, k < w.heap.size → k ≠ Bo → v.ownBlock ≠ some k → w'.heap[k]? = w.heap[k]?
  own : ∀ k, v'.ownBlock = some k → v.ownBlock = some k ∨ w.heap.size ≤ k
theorem Fr.frB {v v' : Value} {w w' : World} (h : Fr v v' w w') (Bo : Nat) : FrB Bo v v' w w' := ⟨h.os, h.tape, h.output, h.size, fun k hk _ hne => h.keep k hk hne, h.own⟩
theorem FrB.of_below {Bo : Nat} {v : Value} {w w' : World} (h : Below w.heap.size w w') : FrB Bo v v w w' := (Fr.of_below h).frB Bo
theorem FrB.trans {Bo : Nat} {v1 v2 v3 : Value} {w1 w2 w3 : World} (h : FrB Bo v1 v2 w1 w2) (k : FrB Bo v2 v3 w2 w3) : FrB Bo v1 v3 w1 w3 where
  os := k.os.trans h.os
  tape := k.tape.trans h.tape
  output := k.output.trans h.output
  size := Nat.le_trans h.size k.size
  keep i hi hb hne := (k.keep i (Nat.lt_of_lt_of_le hi h.size) hb (fun e => (h.own i e).elim hne (by omega))).trans (h.keep i hi hb hne)
  own i hi := by
    rcases k.own i hi with h2 | h2
    · exact h.own i h2
    · exact .inr (Nat.le_trans h.size h2)
theorem FrB.set {Bo : Nat} {v v' : Value} {w w' : World} (h : FrB Bo v v' w w') (u : Value) (o : Nat) : FrB Bo v v' w (w'.setCell ⟨Bo, o, none⟩ u) :=
  ⟨h.os, h.tape, h.output, by simpa using h.size, fun k hk hb hne => (heap_aside _ _ _ _ hb).trans (h.keep k hk hb hne), h.own⟩
theorem FrB.blk {Bo b : Nat} {v v' : Value} {w w' : World} {cs : List Value} {T : TypeId} (h : FrB Bo v v' w w') (hk : Blk w b cs T) (hb : b ≠ Bo) (hv : v.ownBlock ≠ some b) : Blk w' b cs T := (h.keep b hk.lt hb hv).trans hk
/-- what lies below a block B stays, if the slice's variable and its row lie from B on -/
theorem FrB.below {Bo B : Nat} {v v' : Value} {w w' : World} (h : FrB Bo v v' w w') (hB : B ≤ Bo) (hv : ∀ k, v.ownBlock = some k → B ≤ k) (hs : B ≤ w.heap.size) : Below B w w' :=
  ⟨h.os, h.tape, h.output, h.size, fun k hk => h.keep k (by omega) (by omega) (fun e => by have := hv k e; omega)⟩
theorem Row.own_ne {w : World} {B b : Nat} {e T : TypeId} {size n : Nat} {v : Value} {xs cs : List Value} (h : Row w B e size v n xs) (hk : Blk w b cs T) (hT : e ≠ T) : v.ownBlock ≠ some b := by
  rcases h.2 with ⟨rfl, -⟩ | ⟨g, cap, cur, rfl, -, hh, -⟩
  · simp [Value.ownBlock]
  · intro hb
    simp only [Value.ownBlock, Option.some.injEq] at hb
    subst hb
    unfold Blk at hk
    rw [hh] at hk
    injection hk with hk
    injection hk with _ h2 _
    exact hT h2
theorem Row.base {w : World} {B : Nat} {e : TypeId} {size n : Nat} {v : Value} {xs : List Value} (h : Row w B e size v n xs) : ∀ k, v.ownBlock = some k → B ≤ k := by
  intro k hk
  rcases h.2 with ⟨rfl, -⟩ | ⟨g, cap, cur, rfl, hg, -⟩
  · simp [Value.ownBlock] at hk
  · simp only [Value.ownBlock, Option.some.injEq] at hk
    omega

/-- a store into a block of another type -/
theorem Row.aside' {w : World} {B b : Nat} {e T : TypeId} {size n : Nat} {v : Value} {xs cs : List Value} (h : Row w B e size v n xs) (o : Nat) (x : Value) {w' : World} (hk : Blk w' b cs T) (hT : e ≠ T) (hw : w' = w.setCell ⟨b, o, none⟩ x := by rfl) : Row w' B e size v n xs := by
  subst hw
  refine ⟨h.1, h.2.imp id ?_⟩
  rintro ⟨g, cap, cur, hv, hg, hh, h3⟩
  refine ⟨g, cap, cur, hv, hg, (heap_aside w ⟨b, o, none⟩ x g ?_).trans hh, h3⟩
  rintro rfl
  unfold Blk at hk
  simp only [World.setCell, Array.getElem?_modify] at hk
  rw [if_pos trivial, hh] at hk
  simp only [Option.map_some, Option.some.injEq] at hk
  injection hk with _ h2 _
  exact hT h2
def fnW (Bo Bw : Nat) : Value := .func (.func 32) #[] #[.pointer (some ⟨Bo, 0, none⟩), .pointer (some ⟨Bw, 0, none⟩)]
/-- what a walk does: the pointers are put behind those that were there -/
def Walked (B Bo : Nat) (v : Value) (xs : List (List UInt8)) (w : World) (e : Ending) (w' : World) : Prop :=
  e = .returned (.tuple #[]) ∧ ∃ v', Blk w' Bo [v'] 26 ∧ Row w' B 9 1 v' xs.length (strs xs) ∧ FrB Bo v v' w w'

set_option maxRecDepth 100000 in
set_option maxHeartbeats 1000000 in
theorem walk_l (w0 : World) (B Bo Bw : Nat) (hB0 : w0.heap.size ≤ B) (hBo0 : w0.heap.size ≤ Bo) (hBw0 : w0.heap.size ≤ Bw) (hne : Bw ≠ Bo) (h8 : 8 ≤ w0.heap.size) (x : S28) (hx : OkT x) :
    ∀ (a : List UInt8) (v5 v6 v : Value) (xs : List (List UInt8)) (w : World), VK w0 x v5 v6 → Below w0.heap.size w0 w → EnvV w → Blk w Bo [v] 26 → Blk w Bw [fnW Bo Bw] 63 → Row w B 9 1 v xs.length (strs xs) → B ≤ w.heap.size →
      (∀ p, p ∈ allP a x → p.length ≤ 268435456) → xs.length + (allP a x).length ≤ 1099511627776 →
      Calls Tryd.prog 32 #[.string (str a), .agg (vcs x v5 v6).toArray, .pointer (some ⟨Bo, 0, none⟩), .pointer (some ⟨Bw, 0, none⟩)] w (Walked B Bo v (xs ++ allP a x) w) := by
  induction hx with
  | mk x h1 h2 ih =>
  intro a v5 v6 v xs w hx h0 he ho hw hr hB hlen hcnt
  obtain ⟨i0, hi, hy0, hy1, hy2⟩ := info_parts info_str
  obtain ⟨va, vcap, rfl, hvc⟩ := hr.shape
  have hrl : (strs xs).length = xs.length := strs_length xs
  have HO := Lib.hid ho
  have HW := Lib.hid hw
  have HR := Lib.hid hr
  have HE := Lib.hid he
  have H0 := Lib.hid h0
  have HX := Lib.hid hx
  have IH := Lib.hid ih
  have H1 := Lib.hid h1
  have HL := Lib.hid hlen
  have hcell := ho.cell 0
  simp only [List.getElem?_cons_zero] at hcell
  have hlo := ho.lt
  have hne1 : (Value.slice va xs.length vcap).ownBlock ≠ some Bo := hr.own_ne ho (by decide)
  have hne2 : (Value.slice va xs.length vcap).ownBlock ≠ some Bw := hr.own_ne hw (by decide)
  obtain ⟨A5, c5, A6, c6, rfl, rfl⟩ := hx.open
  have HXS : Hid (xs ++ allP a x = (xs ++ [a]) ++ allL a x.f0 x.f4 0 x.f3) := by
    unfold Hid
    rw [allP_eq]
    simp
  have hn1 : xs.length + 1 ≤ 1099511627776 := by
    rw [allP_eq] at hcnt
    simp only [List.length_cons] at hcnt
    omega
  have HCN := Lib.hid hcnt
  clear hx h0 he ho hw hr ih h1 h2 hlen hcnt
  show Calls Tryd.prog 32 #[.string (str a), .agg #[.int .i64 x.f0, .bool x.f1.f0, .string x.f1.f1, .int .i64 x.f1.f2, .string x.f2, .slice A5 x.f3.length c5, .slice A6 x.f4.length c6], .pointer (some ⟨Bo, 0, none⟩), .pointer (some ⟨Bw, 0, none⟩)] w _
  go_enter Tryd.func32, Tryd.ntmps32
  go_wp2_with (at_builtin; refine wpList_append_fr _ rfl _ _ 26 rfl B 9 i0 (.string ⟨#[]⟩) 1 16 Tryd.underlying26 hi hy0 hy1 hy2 rfl _ _ _ rfl ((HR.out.alloc _).alloc _) ⟨w.heap.size + 1, 0, none⟩ 1 1 [.string (str a)] rfl rfl ?c1 ?c2 (by decide) ?c3 ?c4 ?c5 ?c6)
  case c1 => intro j u h; have := cell_one_new (w.alloc (boxed x (.slice A5 x.f3.length c5) (.slice A6 x.f4.length c6))) (.string (str a)) 9 j u h; rw [World.size_alloc] at this; exact this
  case c2 => intro u hu; simp at hu; subst hu; rfl
  case c3 => unfold maxLen; omega
  case c4 => omega
  case c5 => simp; omega
  case c6 =>
    intro v1 w1 hr1 hf1
    obtain ⟨va1, cap1, rfl, -⟩ := hr1.shape
    have hz1 := hf1.size
    simp only [World.size_alloc] at hz1
    have hbx : Blk ((w.alloc (boxed x (.slice A5 x.f3.length c5) (.slice A6 x.f4.length c6))).alloc (.cells #[.string (str a)] 9)) w.heap.size (vcs x (.slice A5 x.f3.length c5) (.slice A6 x.f4.length c6)) 28 := (Blk.new w (vcs x (.slice A5 x.f3.length c5) (.slice A6 x.f4.length c6)) 28).alloc _
    have hrow2 := (HR.out.alloc (boxed x (.slice A5 x.f3.length c5) (.slice A6 x.f4.length c6))).alloc (.cells #[.string (str a)] 9)
    have hne5 := hrow2.own_ne hbx (by decide)
    have hF1 := ((FrB.of_below (Bo := Bo) (v := .slice va xs.length vcap) (((Below.refl w.heap.size w).alloc (Nat.le_refl _) (boxed x (.slice A5 x.f3.length c5) (.slice A6 x.f4.length c6))).alloc (by simp) (.cells #[.string (str a)] 9)))).trans (hf1.frB Bo)
    have hX1 := (hf1.frB Bo).blk hbx (by omega) hne5
    have hO1 : Blk w1 Bo [.slice va xs.length vcap] 26 := (hf1.keep Bo (by simp; omega) hne1).trans ((HO.out.alloc _).alloc _)
    have hW1 : Blk w1 Bw [fnW Bo Bw] 63 := (hf1.keep Bw (by have := HW.out.lt; simp; omega) hne2).trans ((HW.out.alloc _).alloc _)
    have hX2 : Blk (w1.setCell ⟨Bo, 0, none⟩ (.slice va1 (xs.length + 1) cap1)) w.heap.size (vcs x (.slice A5 x.f3.length c5) (.slice A6 x.f4.length c6)) 28 := hX1.other _ (by show w.heap.size ≠ Bo; omega)
    have hO2 := hO1.set 0 (.slice va1 (xs.length + 1) cap1)
    have hW2 : Blk (w1.setCell ⟨Bo, 0, none⟩ (.slice va1 (xs.length + 1) cap1)) Bw [fnW Bo Bw] 63 := hW1.other _ hne
    have hF2 := hF1.set (.slice va1 (xs.length + 1) cap1) 0
    have hoc := hO1.cell 0
    have hof := hO1.froz 0
    have hos := hO1.shape
    simp only [List.getElem?_cons_zero] at hoc
    have hx5 := hX2.cell 5
    have hx5 : (w1.setCell ⟨Bo, 0, none⟩ (.slice va1 (xs.length + 1) cap1)).cell? ⟨w.heap.size, 5, none⟩ = some (.slice A5 x.f3.length c5) := hx5
    have HF2 := Lib.hid hF2
    have HO2 := Lib.hid hO2
    have HW2 := Lib.hid hW2
    have HX2 := Lib.hid hX2
    have HR1 := Lib.hid hr1
    clear hr1 hf1 hbx hrow2 hne5 hF1 hX1 hO1 hW1 hX2 hO2 hW2 hF2
    go_wp2_with fail
    go_loopw [16] (fun i wr => ∃ (k : Nat) (done : List (List UInt8)) (v' : Value), k ≤ x.f3.length ∧ i = .int .i64 k ∧ Hid (xs ++ allP a x = done ++ allL a x.f0 x.f4 k (x.f3.drop k)) ∧ Hid (Blk wr Bo [v'] 26) ∧ Hid (Blk wr Bw [fnW Bo Bw] 63) ∧ Hid (Blk wr w.heap.size (vcs x (.slice A5 x.f3.length c5) (.slice A6 x.f4.length c6)) 28) ∧ Hid (Row wr B 9 1 v' done.length (strs done)) ∧ Hid (FrB Bo (.slice va xs.length vcap) v' w wr)) (fun i _ => x.f3.length - (intOf i).toNat)
    case atStart => exact ⟨0, xs ++ [a], _, Nat.zero_le _, rfl, HXS.out, HO2.out, HW2.out, HX2.out, by rw [strs_append, List.length_append]; exact HR1.out.aside' _ _ HO2.out (by decide), HF2.out⟩
    case round =>
      obtain ⟨k, done, v', hk, rfl, HD, HOr, HWr, HXr, HRr, HFr⟩ := hrel
      have hzr := HFr.out.size
      have hBoL : Bo < wr.heap.size := HOr.out.lt
      by_cases hlt : k < x.f3.length
      · have hbw := HFr.out.below hBo0 (fun j hj => Nat.le_trans hB0 (HR.out.base j hj)) (by omega)
        have hbr := H0.out.trans hbw
        have HEr := Lib.hid (HE.out.below hbw h8)
        obtain ⟨A5', c5', A6', c6', e5, e6, hl5, hC5, hl6, hC6⟩ := HX.out
        cases e5
        cases e6
        obtain ⟨b, off, rfl, hbl, hv⟩ := C_vals hC5 (by omega)
        obtain ⟨u5, u6, hK, hcells⟩ := hv k hlt
        have k0 := (hbr.cell (p := ⟨b, off + k * 7, none⟩) hbl).trans (hcells 0 _ rfl)
        have k1 := (hbr.cell (p := ⟨b, off + k * 7 + 1, none⟩) hbl).trans (hcells 1 _ rfl)
        have k2 := (hbr.cell (p := ⟨b, off + k * 7 + 2, none⟩) hbl).trans (hcells 2 _ rfl)
        have k3 := (hbr.cell (p := ⟨b, off + k * 7 + 3, none⟩) hbl).trans (hcells 3 _ rfl)
        have k4 := (hbr.cell (p := ⟨b, off + k * 7 + 4, none⟩) hbl).trans (hcells 4 _ rfl)
        have k5 := (hbr.cell (p := ⟨b, off + k * 7 + 5, none⟩) hbl).trans (hcells 5 _ rfl)
        have k6 := (hbr.cell (p := ⟨b, off + k * 7 + 6, none⟩) hbl).trans (hcells 6 _ rfl)
        have hmem : x.f3.getD k z28 ∈ x.f3 := by simp [List.getD, hlt]
        have hmx : x.f3.length ≤ 9223372036854775807 := hC5.2.1
        have hdr := allL_drop a x.f0 x.f4 x.f3 k hlt
        have hsub : ∀ q, q ∈ allP (a ++ escPart (nameP x.f0 x.f4 k)) (x.f3.getD k z28) → q.length ≤ 268435456 := fun q hq => HL.out q (by rw [allP_eq]; exact List.mem_cons_of_mem _ (mem_allL hlt hq))
        have hself := hsub _ (self_mem _ _)
        have hge := escPart_ge (nameP x.f0 x.f4 k)
        rw [List.length_append] at hself
        have hlen2 := congrArg List.length HD.out
        rw [hdr] at hlen2
        simp only [List.length_append] at hlen2
        have hcn := HCN.out
        have IHy := IH.out _ hmem (a ++ escPart (nameP x.f0 x.f4 k)) u5 u6 v' done
        have HDn : Hid (xs ++ allP a x = (done ++ allP (a ++ escPart (nameP x.f0 x.f4 k)) (x.f3.getD k z28)) ++ allL a x.f0 x.f4 (k + 1) (x.f3.drop (k + 1))) := by
          unfold Hid
          rw [HD.out, hdr, List.append_assoc]
        have HREC : Hid (∀ W, Below wr.heap.size wr W → Calls Tryd.prog 32 #[.string (str (a ++ escPart (nameP x.f0 x.f4 k))), .agg (vcs (x.f3.getD k z28) u5 u6).toArray, .pointer (some ⟨Bo, 0, none⟩), .pointer (some ⟨Bw, 0, none⟩)] W (Walked B Bo v' (done ++ allP (a ++ escPart (nameP x.f0 x.f4 k)) (x.f3.getD k z28)) W)) := by
          intro W hW
          refine IHy W hK (hbr.trans (hW.mono (by omega))) (HEr.out.call hW) (HOr.out.call hW) (HWr.out.call hW) (HRr.out.call hW) (by have := hW.size; omega) hsub ?_
          omega
        clear IHy hsub hdr hlen2 hcn hcells hv hbr hbw
        have HCK : Hid (x.f0 = 6 → ∃ b6 o6, A6 = some ⟨b6, o6, none⟩ ∧ b6 < w0.heap.size ∧ x.f4.length = x.f3.length ∧ w0.cell? ⟨b6, o6 + k, none⟩ = some (.string (str (nameP x.f0 x.f4 k)))) := by
          intro h6
          have hs := H1.out h6
          obtain ⟨b6, o6, hA, hb6, hc⟩ := C_strs hC6 (by omega)
          refine ⟨b6, o6, hA, hb6, hs, ?_⟩
          rw [hc k (by omega), nameP, if_pos h6, str_self]
        have HNK : Hid (x.f0 ≠ 6 → nameP x.f0 x.f4 k = Lib.itoa k) := fun h6 => by rw [nameP, if_neg h6]
        clear hC5 hC6
        have HI := Lib.hid (fun o : Obj => itoa_l k (by omega) (by omega) (wr.alloc o) (HEr.out.call ((Below.refl _ _).alloc (Nat.le_refl _) _)))
        obtain ⟨B5, d5, B6, d6, rfl, rfl⟩ := hK.open
        have HKy := Lib.hid hK
        clear hK
        generalize nameP x.f0 x.f4 k = p at *
        generalize x.f3.getD k z28 = y at *
        go_wp2_with fail
        refine (HI.out _).mono ?_
        rintro e w4 ⟨rfl, hb4⟩
        have hz4 := hb4.size
        simp only [World.size_alloc] at hz4
        have HB4 := Lib.hid (((Below.refl wr.heap.size wr).alloc (Nat.le_refl _) _).trans (hb4.mono (by simp)))
        have hY4 := (Blk.new wr (vcs y (.slice B5 y.f3.length d5) (.slice B6 y.f4.length d6)) 28).call hb4
        have HY4 := Lib.hid hY4
        have hX4 := HXr.out.call HB4.out
        have x0 := hX4.cell 0
        have x6 := hX4.cell 6
        have x0 : w4.cell? ⟨w.heap.size, 0, none⟩ = some (.int .i64 x.f0) := x0
        have x6 : w4.cell? ⟨w.heap.size, 6, none⟩ = some (.slice A6 x.f4.length c6) := x6
        have fn4 : w4.cell? ⟨Bw, 0, none⟩ = some (.func (.func 32) #[] #[.pointer (some ⟨Bo, 0, none⟩), .pointer (some ⟨Bw, 0, none⟩)]) := (HWr.out.call HB4.out).cell 0
        obtain ⟨⟨y0, y1, y2, y3, y4, y5, y6⟩, -, -⟩ := hY4.seven
        have hz4' : wr.heap.size ≤ w4.drew.heap.size := by show wr.heap.size ≤ w4.heap.size; omega
        have hpl : p.length ≤ 268435456 := by omega
        have HPT : Hid (∀ W, Below wr.heap.size wr W → Calls Tryd.prog 33 #[.string (str p)] W (New (.string (str (escPart p))) W)) := fun W hW => part_l p hpl W (HEr.out.call hW).2.1
        have hadd : ∀ wx, (Op.stringOp .add (str a) (str (escPart p))).run Tryd.prog wx = .ok (.string (str (a ++ escPart p))) wx := fun wx => by rw [run_string_add_sum wx _ _ (by rw [str_size, str_size]; omega), str_append]
        have hal : a.length + (escPart p).length ≤ 9223372036854775807 := by omega
        have H04 : Hid (Below w0.heap.size w0 w4) := (H0.out.trans ((HFr.out.below hBo0 (fun j hj => Nat.le_trans hB0 (HR.out.base j hj)) (by omega)))).trans (HB4.out.mono (by omega))
        have hrt : Hid (∀ w6 v6, Blk w6 Bo [v6] 26 → FrB Bo v' v6 wr w6 → Blk w6 Bw [fnW Bo Bw] 63 ∧ Blk w6 w.heap.size (vcs x (.slice (some ⟨b, off, none⟩) x.f3.length c5) (.slice A6 x.f4.length c6)) 28) := fun w6 v6 _ hf => ⟨hf.blk HWr.out hne (HRr.out.own_ne HWr.out (by decide)), hf.blk HXr.out (by have := HOr.out.lt; omega) (HRr.out.own_ne HXr.out (by decide))⟩
        clear hb4 hY4 hX4 k0 k1 k2 k3 k4 k5 k6 hself hge hmem hpl
        by_cases h6 : x.f0 = 6
        · obtain ⟨b6, o6, rfl, hb6, hl6, hkc⟩ := HCK.out h6
          have hkc4 := (H04.out.cell (p := ⟨b6, o6 + k, none⟩) hb6).trans hkc
          have hk6 : k < x.f4.length := by omega
          have hmx6 : x.f4.length ≤ 9223372036854775807 := by omega
          have ht : (x.f0 == 6) = true := by simpa using h6
          clear hkc h6 hl6
          go_wp2_with fail
          go_region_held3 (fun w' => w'.cell? ⟨Bw, 0, none⟩ = some (.func (.func 32) #[] #[.pointer (some ⟨Bo, 0, none⟩), .pointer (some ⟨Bw, 0, none⟩)]) ∧ w'.cell? ⟨wr.heap.size, 0, none⟩ = some (.int .i64 y.f0) ∧ w'.cell? ⟨wr.heap.size, 1, none⟩ = some (.bool y.f1.f0) ∧ w'.cell? ⟨wr.heap.size, 2, none⟩ = some (.string y.f1.f1) ∧ w'.cell? ⟨wr.heap.size, 3, none⟩ = some (.int .i64 y.f1.f2) ∧ w'.cell? ⟨wr.heap.size, 4, none⟩ = some (.string y.f2) ∧ w'.cell? ⟨wr.heap.size, 5, none⟩ = some (.slice B5 y.f3.length d5) ∧ w'.cell? ⟨wr.heap.size, 6, none⟩ = some (.slice B6 y.f4.length d6)) (first | exact ⟨fn6, q0, q1, q2, q3, q4, q5, q6⟩ | exact ⟨fn5, z0, z1, z2, z3, z4, z5, z6⟩ | exact ⟨fn4, y0, y1, y2, y3, y4, y5, y6⟩) (first
            | (go_at_call 33; refine (HPT.out _ HB4.out.drew).mono ?_; rintro e w5 ⟨rfl, hb5⟩; have hz5 := hb5.size; have HB5 := Lib.hid (HB4.out.drew.trans (hb5.mono hz4')); have fn5 : w5.cell? ⟨Bw, 0, none⟩ = some (.func (.func 32) #[] #[.pointer (some ⟨Bo, 0, none⟩), .pointer (some ⟨Bw, 0, none⟩)]) := (HWr.out.call HB5.out).cell 0; have HY5 := Lib.hid (HY4.out.drew.call hb5); obtain ⟨⟨z0, z1, z2, z3, z4, z5, z6⟩, -, -⟩ := HY5.out.seven; clear hb5)
            | (go_at_call 32; refine (HREC.out _ HB5.out).mono ?_; rintro e w6 ⟨rfl, v6, ho6, hr6, hf6⟩; have HO6 := Lib.hid ho6; have HR6 := Lib.hid hr6; have HF6 := Lib.hid ((FrB.of_below HB5.out).trans hf6); have fn6 : w6.cell? ⟨Bw, 0, none⟩ = some (.func (.func 32) #[] #[.pointer (some ⟨Bo, 0, none⟩), .pointer (some ⟨Bw, 0, none⟩)]) := (HF6.out.blk HWr.out hne (HRr.out.own_ne HWr.out (by decide))).cell 0; obtain ⟨⟨q0, q1, q2, q3, q4, q5, q6⟩, -, -⟩ := (hf6.blk HY5.out (by omega) ((HRr.out.call HB5.out).own_ne HY5.out (by decide))).seven; clear ho6 hr6 hf6))
          go_wp2_with fail
          go_roundw
          case measure => simp only [intOf]; omega
          case rel => exact ⟨k + 1, _, v6, by omega, by go_num, HDn.out, HO6.out, (hrt.out _ _ HO6.out HF6.out).1, (hrt.out _ _ HO6.out HF6.out).2, HR6.out, HFr.out.trans HF6.out⟩
        · have ht : (x.f0 == 6) = false := by simpa using h6
          have hp := HNK.out h6
          subst hp
          clear h6
          go_wp2_with fail
          go_region_held3 (fun w' => w'.cell? ⟨Bw, 0, none⟩ = some (.func (.func 32) #[] #[.pointer (some ⟨Bo, 0, none⟩), .pointer (some ⟨Bw, 0, none⟩)]) ∧ w'.cell? ⟨wr.heap.size, 0, none⟩ = some (.int .i64 y.f0) ∧ w'.cell? ⟨wr.heap.size, 1, none⟩ = some (.bool y.f1.f0) ∧ w'.cell? ⟨wr.heap.size, 2, none⟩ = some (.string y.f1.f1) ∧ w'.cell? ⟨wr.heap.size, 3, none⟩ = some (.int .i64 y.f1.f2) ∧ w'.cell? ⟨wr.heap.size, 4, none⟩ = some (.string y.f2) ∧ w'.cell? ⟨wr.heap.size, 5, none⟩ = some (.slice B5 y.f3.length d5) ∧ w'.cell? ⟨wr.heap.size, 6, none⟩ = some (.slice B6 y.f4.length d6)) (first | exact ⟨fn6, q0, q1, q2, q3, q4, q5, q6⟩ | exact ⟨fn5, z0, z1, z2, z3, z4, z5, z6⟩ | exact ⟨fn4, y0, y1, y2, y3, y4, y5, y6⟩) (first
            | (go_at_call 33; refine (HPT.out _ HB4.out.drew).mono ?_; rintro e w5 ⟨rfl, hb5⟩; have hz5 := hb5.size; have HB5 := Lib.hid (HB4.out.drew.trans (hb5.mono hz4')); have fn5 : w5.cell? ⟨Bw, 0, none⟩ = some (.func (.func 32) #[] #[.pointer (some ⟨Bo, 0, none⟩), .pointer (some ⟨Bw, 0, none⟩)]) := (HWr.out.call HB5.out).cell 0; have HY5 := Lib.hid (HY4.out.drew.call hb5); obtain ⟨⟨z0, z1, z2, z3, z4, z5, z6⟩, -, -⟩ := HY5.out.seven; clear hb5)
            | (go_at_call 32; refine (HREC.out _ HB5.out).mono ?_; rintro e w6 ⟨rfl, v6, ho6, hr6, hf6⟩; have HO6 := Lib.hid ho6; have HR6 := Lib.hid hr6; have HF6 := Lib.hid ((FrB.of_below HB5.out).trans hf6); have fn6 : w6.cell? ⟨Bw, 0, none⟩ = some (.func (.func 32) #[] #[.pointer (some ⟨Bo, 0, none⟩), .pointer (some ⟨Bw, 0, none⟩)]) := (HF6.out.blk HWr.out hne (HRr.out.own_ne HWr.out (by decide))).cell 0; obtain ⟨⟨q0, q1, q2, q3, q4, q5, q6⟩, -, -⟩ := (hf6.blk HY5.out (by omega) ((HRr.out.call HB5.out).own_ne HY5.out (by decide))).seven; clear ho6 hr6 hf6))
          go_wp2_with fail
          go_roundw
          case measure => simp only [intOf]; omega
          case rel => exact ⟨k + 1, _, v6, by omega, by go_num, HDn.out, HO6.out, (hrt.out _ _ HO6.out HF6.out).1, (hrt.out _ _ HO6.out HF6.out).2, HR6.out, HFr.out.trans HF6.out⟩
      · obtain rfl : k = x.f3.length := by omega
        have HDf : Hid (xs ++ allP a x = done) := by
          unfold Hid
          rw [HD.out, List.drop_length, allL, List.append_nil]
        go_wp2_with fail
        refine bodyPost_ret (v := .tuple #[]) (by simp [results, Tryd.results32, go_sem]) rfl ?_
        refine ⟨rfl, v', HOr.out, ?_, HFr.out⟩
        rw [HDf.out]
        exact HRr.out
end Go.Proofs.YthicgeiljficbaaDoor
