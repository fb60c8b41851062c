/- Package uri over lists of bytes: what Resolve takes from a base. -/
import Derived.Test.YthicgeiljficbaaUriH
import Derived.Deep.RegionWith
import Derived.Deep.RegionHeld3
namespace Go.Proofs.Ythicgeiljficbaa
open Go.RowKit
set_option linter.unusedSimpArgs false
set_option linter.unusedVariables false
set_option linter.unnecessarySimpa false

def ucells (u : U) : List Value := [.string (str u.sch), .string (str u.auth), .string (str u.path), .string (str u.qry), .string (str u.frag), .bool u.ha, .bool u.hq, .bool u.hf]

/-- up to the last slash, with it -/
def upto (l : List UInt8) : List UInt8 := l.take (Lib.lastIndexByte (str l) 47 + 1).toNat
/-- the path at a base, where the reference has no authority and a path -/
def joinPath (b u : U) : List UInt8 :=
  if u.path.headD 0 = 47 then dotsL u.path
  else if b.ha && b.path.isEmpty then dotsL (47 :: u.path)
  else dotsL (upto b.path ++ u.path)
def fromU (b u : U) : U :=
  if u.ha then ⟨b.sch, u.auth, dotsL u.path, u.qry, u.frag, u.ha, u.hq, u.hf⟩
  else if u.path = [] then ⟨b.sch, b.auth, b.path, if u.hq then u.qry else b.qry, u.frag, b.ha, if u.hq then u.hq else b.hq, u.hf⟩
  else ⟨b.sch, b.auth, joinPath b u, u.qry, u.frag, b.ha, u.hq, u.hf⟩

/-- what a method that changes *p leaves -/
def Sets (p : Nat) (u : U) (w : World) (e : Ending) (w' : World) : Prop := e = .returned (.tuple #[]) ∧ Blk w' p (ucells u) 57 ∧ Below p w w'

theorem lastidx_l (l : List UInt8) (hs : l.length ≤ 4294967200) (w : World) :
    Calls Try.prog 40 #[.string (str l), .int .u8 47] w (Ans (.int .i64 (Lib.lastIndexByte (str l) 47)) w) :=
  (Try.strings_LastIndexByte (str l) 47 (by rw [str_size]; omega) w).mono fun _ _ h => ⟨h.1, h.2.symm⟩

set_option maxRecDepth 100000 in
set_option maxHeartbeats 4000000 in
theorem from_auth (p : Nat) (bs ba bp bq bf s a pa q f : List UInt8) (bha bhq bhf hq hf : Bool) (hp : pa.length ≤ 1073741824) (w : World) (h : Blk w p [.string (str s), .string (str a), .string (str pa), .string (str q), .string (str f), .bool true, .bool hq, .bool hf] 57) :
    Calls Try.prog 27 #[.pointer (some ⟨p, 0, none⟩), .agg #[.string (str bs), .string (str ba), .string (str bp), .string (str bq), .string (str bf), .bool bha, .bool bhq, .bool bhf]] w
      (Sets p ⟨bs, a, dotsL pa, q, f, true, hq, hf⟩ w) := by
  have pc := h.cell; have pf := h.froz; have hz := h.lt
  have HP := Lib.hid h
  clear h
  go_enter Try.func27, Try.ntmps27
  go_wp2_with fail
  refine (dots_any _ hp _).mono ?_
  rintro e w1 ⟨rfl, hb⟩
  have P1 := ((HP.out.set 0 (.string (str bs))).alloc (.cells #[.string (str bs), .string (str ba), .string (str bp), .string (str bq), .string (str bf), .bool bha, .bool bhq, .bool bhf] 27)).call hb
  have B1 : Below p w w1 := (((Below.refl p w).setCell (p := ⟨p, 0, none⟩) (Nat.le_refl _) _).alloc (by simp; omega) _).call hb (by simp; omega)
  simp only [List.set] at P1
  clear hb pc pf HP
  have pc := P1.cell; have pf := P1.froz
  have HP := Lib.hid P1; have HB := Lib.hid B1
  clear P1 B1
  go_wp2_with fail
  go_end0
  refine ⟨rfl, HP.out.set 2 _, HB.out.setCell (p := ⟨p, 2, none⟩) (Nat.le_refl _) _⟩

set_option maxRecDepth 100000 in
set_option maxHeartbeats 4000000 in
theorem from_empty_q (p : Nat) (bs ba bp bq bf s a pa q f : List UInt8) (bha bhq bhf hf : Bool) (hpa : pa = []) (w : World) (h : Blk w p [.string (str s), .string (str a), .string (str pa), .string (str q), .string (str f), .bool false, .bool true, .bool hf] 57) :
    Calls Try.prog 27 #[.pointer (some ⟨p, 0, none⟩), .agg #[.string (str bs), .string (str ba), .string (str bp), .string (str bq), .string (str bf), .bool bha, .bool bhq, .bool bhf]] w
      (Sets p ⟨bs, ba, bp, q, f, bha, true, hf⟩ w) := by
  have pc := h.cell; have pf := h.froz; have hz := h.lt
  have HP := Lib.hid h
  clear h
  have hse : (str pa).toList.isEmpty = true := by rw [hpa, str_toList]; rfl
  clear hpa
  go_enter Try.func27, Try.ntmps27
  go_wp2_with fail
  obtain ⟨W, hW⟩ : ∃ W, W = (w.setCell ⟨p, 0, none⟩ (.string (str bs))).alloc (.cells #[.string (str bs), .string (str ba), .string (str bp), .string (str bq), .string (str bf), .bool bha, .bool bhq, .bool bhf] 27) := ⟨_, rfl⟩
  have P1 := (HP.out.set 0 (.string (str bs))).alloc (.cells #[.string (str bs), .string (str ba), .string (str bp), .string (str bq), .string (str bf), .bool bha, .bool bhq, .bool bhf] 27)
  have V1 := Blk.new (w.setCell ⟨p, 0, none⟩ (.string (str bs))) [.string (str bs), .string (str ba), .string (str bp), .string (str bq), .string (str bf), .bool bha, .bool bhq, .bool bhf] 27
  have B1 : Below p w ((w.setCell ⟨p, 0, none⟩ (.string (str bs))).alloc (.cells #[.string (str bs), .string (str ba), .string (str bp), .string (str bq), .string (str bf), .bool bha, .bool bhq, .bool bhf] 27)) := ((Below.refl p w).setCell (p := ⟨p, 0, none⟩) (Nat.le_refl _) _).alloc (by simp; omega) _
  simp only [List.set, World.size_setCell] at P1 V1
  rw [← hW] at P1 V1 B1 ⊢
  clear hW pc pf HP
  have pc := P1.cell; have pf := P1.froz; have vc := V1.cell; have vf := V1.froz
  have HP := Lib.hid P1; have HB := Lib.hid B1; have HV := Lib.hid V1
  clear P1 B1 V1
  go_region
  go_wp2_with fail
  go_end0
  refine ⟨rfl, (((HP.out.set 1 _).set 5 _).set 2 _).drew, ?_⟩
  repeat (first | (with_reducible refine Below.setCell ?_ ?_ _) | (with_reducible refine Below.drew ?_))
  all_goals first | (with_reducible exact HB.out) | exact Nat.le_refl _ | (simp; done)

set_option maxRecDepth 100000 in
set_option maxHeartbeats 4000000 in
theorem from_empty (p : Nat) (bs ba bp bq bf s a pa q f : List UInt8) (bha bhq bhf hf : Bool) (hpa : pa = []) (w : World) (h : Blk w p [.string (str s), .string (str a), .string (str pa), .string (str q), .string (str f), .bool false, .bool false, .bool hf] 57) :
    Calls Try.prog 27 #[.pointer (some ⟨p, 0, none⟩), .agg #[.string (str bs), .string (str ba), .string (str bp), .string (str bq), .string (str bf), .bool bha, .bool bhq, .bool bhf]] w
      (Sets p ⟨bs, ba, bp, bq, f, bha, bhq, hf⟩ w) := by
  have pc := h.cell; have pf := h.froz; have hz := h.lt
  have HP := Lib.hid h
  clear h
  have hse : (str pa).toList.isEmpty = true := by rw [hpa, str_toList]; rfl
  clear hpa
  go_enter Try.func27, Try.ntmps27
  go_wp2_with fail
  obtain ⟨W, hW⟩ : ∃ W, W = (w.setCell ⟨p, 0, none⟩ (.string (str bs))).alloc (.cells #[.string (str bs), .string (str ba), .string (str bp), .string (str bq), .string (str bf), .bool bha, .bool bhq, .bool bhf] 27) := ⟨_, rfl⟩
  have P1 := (HP.out.set 0 (.string (str bs))).alloc (.cells #[.string (str bs), .string (str ba), .string (str bp), .string (str bq), .string (str bf), .bool bha, .bool bhq, .bool bhf] 27)
  have V1 := Blk.new (w.setCell ⟨p, 0, none⟩ (.string (str bs))) [.string (str bs), .string (str ba), .string (str bp), .string (str bq), .string (str bf), .bool bha, .bool bhq, .bool bhf] 27
  have B1 : Below p w ((w.setCell ⟨p, 0, none⟩ (.string (str bs))).alloc (.cells #[.string (str bs), .string (str ba), .string (str bp), .string (str bq), .string (str bf), .bool bha, .bool bhq, .bool bhf] 27)) := ((Below.refl p w).setCell (p := ⟨p, 0, none⟩) (Nat.le_refl _) _).alloc (by simp; omega) _
  simp only [List.set, World.size_setCell] at P1 V1
  rw [← hW] at P1 V1 B1 ⊢
  clear hW pc pf HP
  have pc := P1.cell; have pf := P1.froz; have vc := V1.cell; have vf := V1.froz
  have HP := Lib.hid P1; have HB := Lib.hid B1; have HV := Lib.hid V1
  clear P1 B1 V1
  go_region
  go_wp2_with fail
  go_region
  go_wp2_with fail
  go_end0
  refine ⟨rfl, (((((HP.out.set 1 _).set 5 _).set 2 _).set 3 _).set 6 _).drew.drew, ?_⟩
  repeat (first | (with_reducible refine Below.setCell ?_ ?_ _) | (with_reducible refine Below.drew ?_))
  all_goals first | (with_reducible exact HB.out) | exact Nat.le_refl _ | (simp; done)

set_option maxRecDepth 100000 in
set_option maxHeartbeats 4000000 in
theorem from_slash (p : Nat) (bs ba bp bq bf s a pa q f : List UInt8) (bha bhq bhf hq hf : Bool) (c : UInt8) (t : List UInt8) (hpa : pa = c :: t) (hc0 : ((c.toNat : Int) == 47) = true) (hp : pa.length ≤ 1073741824) (w : World) (h : Blk w p [.string (str s), .string (str a), .string (str pa), .string (str q), .string (str f), .bool false, .bool hq, .bool hf] 57) :
    Calls Try.prog 27 #[.pointer (some ⟨p, 0, none⟩), .agg #[.string (str bs), .string (str ba), .string (str bp), .string (str bq), .string (str bf), .bool bha, .bool bhq, .bool bhf]] w
      (Sets p ⟨bs, ba, dotsL pa, q, f, bha, hq, hf⟩ w) := by
  have pc := h.cell; have pf := h.froz; have hz := h.lt
  have HP := Lib.hid h
  clear h
  have hse : (str pa).toList.isEmpty = false := by rw [hpa, str_toList]; rfl
  have hpl : 0 < pa.length := by rw [hpa]; simp
  have hc : (((pa[0]'hpl).toNat : Int) == 47) = true := by subst hpa; exact hc0
  clear hpa hc0
  go_enter Try.func27, Try.ntmps27
  go_wp2_with fail
  obtain ⟨W, hW⟩ : ∃ W, W = (w.setCell ⟨p, 0, none⟩ (.string (str bs))).alloc (.cells #[.string (str bs), .string (str ba), .string (str bp), .string (str bq), .string (str bf), .bool bha, .bool bhq, .bool bhf] 27) := ⟨_, rfl⟩
  have P1 := (HP.out.set 0 (.string (str bs))).alloc (.cells #[.string (str bs), .string (str ba), .string (str bp), .string (str bq), .string (str bf), .bool bha, .bool bhq, .bool bhf] 27)
  have V1 := Blk.new (w.setCell ⟨p, 0, none⟩ (.string (str bs))) [.string (str bs), .string (str ba), .string (str bp), .string (str bq), .string (str bf), .bool bha, .bool bhq, .bool bhf] 27
  have B1 : Below p w ((w.setCell ⟨p, 0, none⟩ (.string (str bs))).alloc (.cells #[.string (str bs), .string (str ba), .string (str bp), .string (str bq), .string (str bf), .bool bha, .bool bhq, .bool bhf] 27)) := ((Below.refl p w).setCell (p := ⟨p, 0, none⟩) (Nat.le_refl _) _).alloc (by simp; omega) _
  simp only [List.set, World.size_setCell] at P1 V1
  rw [← hW] at P1 V1 B1 ⊢
  clear hW pc pf HP
  have pc := P1.cell; have pf := P1.froz; have vc := V1.cell; have vf := V1.froz
  have HP := Lib.hid P1; have HB := Lib.hid B1; have HV := Lib.hid V1
  clear P1 B1 V1
  go_region
  go_wp2_with fail
  refine (dots_any _ hp _).mono ?_
  rintro e w1 ⟨rfl, hb⟩
  have P1 := (((HP.out.set 1 (.string (str ba))).set 5 (.bool bha)).drew).call hb
  have B1 : Below p w w1 := RowKit.Below.call (((HB.out.setCell (p := ⟨p, 1, none⟩) (Nat.le_refl _) _).setCell (p := ⟨p, 5, none⟩) (Nat.le_refl _) _).drew) hb (by have := HB.out.size; simp; omega)
  simp only [List.set] at P1
  clear hb pc pf vc vf HP HB HV
  have pc := P1.cell; have pf := P1.froz
  have HP := Lib.hid P1; have HB := Lib.hid B1
  clear P1 B1
  go_wp2_with fail
  go_end0
  refine ⟨rfl, HP.out.set 2 _, ?_⟩
  repeat (first | (with_reducible refine Below.setCell ?_ ?_ _) | (with_reducible refine Below.drew ?_))
  all_goals first | (with_reducible exact HB.out) | exact Nat.le_refl _ | (simp; done)

set_option maxRecDepth 100000 in
set_option maxHeartbeats 4000000 in
theorem from_root (p : Nat) (bs ba bp bq bf s a pa q f : List UInt8) (bhq bhf hq hf : Bool) (hbp : bp = []) (c : UInt8) (t : List UInt8) (hpa : pa = c :: t) (hc0 : ((c.toNat : Int) == 47) = false) (hp : pa.length ≤ 1073741000) (w : World) (h : Blk w p [.string (str s), .string (str a), .string (str pa), .string (str q), .string (str f), .bool false, .bool hq, .bool hf] 57) :
    Calls Try.prog 27 #[.pointer (some ⟨p, 0, none⟩), .agg #[.string (str bs), .string (str ba), .string (str bp), .string (str bq), .string (str bf), .bool true, .bool bhq, .bool bhf]] w
      (Sets p ⟨bs, ba, dotsL (47 :: pa), q, f, true, hq, hf⟩ w) := by
  have pc := h.cell; have pf := h.froz; have hz := h.lt
  have HP := Lib.hid h
  clear h
  have hse : (str pa).toList.isEmpty = false := by rw [hpa, str_toList]; rfl
  have hpl : 0 < pa.length := by rw [hpa]; simp
  have hc : (((pa[0]'hpl).toNat : Int) == 47) = false := by subst hpa; exact hc0
  clear hpa hc0
  have hbe : (str bp).toList.isEmpty = true := by rw [hbp, str_toList]; rfl
  clear hbp
  go_enter Try.func27, Try.ntmps27
  go_wp2_with fail
  obtain ⟨W, hW⟩ : ∃ W, W = (w.setCell ⟨p, 0, none⟩ (.string (str bs))).alloc (.cells #[.string (str bs), .string (str ba), .string (str bp), .string (str bq), .string (str bf), .bool true, .bool bhq, .bool bhf] 27) := ⟨_, rfl⟩
  have P1 := (HP.out.set 0 (.string (str bs))).alloc (.cells #[.string (str bs), .string (str ba), .string (str bp), .string (str bq), .string (str bf), .bool true, .bool bhq, .bool bhf] 27)
  have V1 := Blk.new (w.setCell ⟨p, 0, none⟩ (.string (str bs))) [.string (str bs), .string (str ba), .string (str bp), .string (str bq), .string (str bf), .bool true, .bool bhq, .bool bhf] 27
  have B1 : Below p w ((w.setCell ⟨p, 0, none⟩ (.string (str bs))).alloc (.cells #[.string (str bs), .string (str ba), .string (str bp), .string (str bq), .string (str bf), .bool true, .bool bhq, .bool bhf] 27)) := ((Below.refl p w).setCell (p := ⟨p, 0, none⟩) (Nat.le_refl _) _).alloc (by simp; omega) _
  simp only [List.set, World.size_setCell] at P1 V1
  rw [← hW] at P1 V1 B1 ⊢
  clear hW pc pf HP
  have pc := P1.cell; have pf := P1.froz; have vc := V1.cell; have vf := V1.froz
  have HP := Lib.hid P1; have HB := Lib.hid B1; have HV := Lib.hid V1
  clear P1 B1 V1
  go_region
  go_wp2_with fail
  refine (dots_any _ (by simp only [List.length_cons]; omega) _).mono ?_
  rintro e w1 ⟨rfl, hb⟩
  have P1 := (((HP.out.set 1 (.string (str ba))).set 5 (.bool true)).drew).call hb
  have B1 : Below p w w1 := RowKit.Below.call (((HB.out.setCell (p := ⟨p, 1, none⟩) (Nat.le_refl _) _).setCell (p := ⟨p, 5, none⟩) (Nat.le_refl _) _).drew) hb (by have := HB.out.size; simp; omega)
  simp only [List.set] at P1
  clear hb pc pf vc vf HP HB HV
  have pc := P1.cell; have pf := P1.froz
  have HP := Lib.hid P1; have HB := Lib.hid B1
  clear P1 B1
  go_wp2_with fail
  go_end0
  refine ⟨rfl, HP.out.set 2 _, ?_⟩
  repeat (first | (with_reducible refine Below.setCell ?_ ?_ _) | (with_reducible refine Below.drew ?_))
  all_goals first | (with_reducible exact HB.out) | exact Nat.le_refl _ | (simp; done)

theorem lastIdx_ge (l : List UInt8) : -1 ≤ Lib.lastIndexByte (str l) 47 := by
  rcases Lib.lastIdx_spec (str l) 47 (str l).size with ⟨h, -⟩ | ⟨i, -, h, -⟩
  · unfold Lib.lastIndexByte; omega
  · unfold Lib.lastIndexByte; omega
theorem lastIdx_lt (l : List UInt8) : Lib.lastIndexByte (str l) 47 + 1 ≤ l.length := by
  rcases Lib.lastIdx_spec (str l) 47 (str l).size with ⟨h, -⟩ | ⟨i, hi, h, -⟩
  · unfold Lib.lastIndexByte; omega
  · unfold Lib.lastIndexByte; rw [str_size] at hi h; rw [str_size]; omega

theorem slice_to {n : Nat} (l : List UInt8) (h : n ≤ l.length) (wx : World) : (Instr.slice 9 (.string (str l)) none (some (.int .i64 (n : Int))) none).run Try.prog wx = .ok (.string (str (l.take n))) wx := by
  have hs : (str l).size = l.length := str_size l
  go_simp

theorem add_str (a b : List UInt8) (h : a.length + b.length ≤ 1073741824) (wx : World) : (binOp .add 9 (.string (str a)) (.string (str b))).run Try.prog wx = .ok (.string (str (a ++ b))) wx := by
  have h2 : a.length + b.length ≤ 9223372036854775807 := by omega
  go_simp

end Go.Proofs.Ythicgeiljficbaa
