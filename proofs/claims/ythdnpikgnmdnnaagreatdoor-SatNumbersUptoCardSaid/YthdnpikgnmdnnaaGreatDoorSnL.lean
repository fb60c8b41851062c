/- caliperlaw19.SatNumbers answers true at every two numbers: run over unknown numbers, for each answer of dec.Compare. -/
import Derived.Test.YthdnpikgnmdnnaaGreatDoorDecC
import Derived.Test.YthdnpikgnmdnnaaGreatDoorEvD
import Derived.Test.YthdnpikgnmdnnaaGreatDoorSnRow
import Derived.Shelf.Strings.SlTrimAscii
import Derived.Test.YthdnpikgnmdnnaaGreatDoorShelf
namespace Go.Proofs.YthdnpikgnmdnnaaGreatDoor.Ev
open Go.RowKit
set_option linter.unusedSimpArgs false
set_option linter.unusedVariables false
set_option linter.unusedSectionVars false

noncomputable def ansL (c e : Int) : List (Nat × (List Value × Value)) := [(5, ([dA, dB], .tuple #[.int .i64 c, .int .i64 e])), (6, ([], .bool true))]
noncomputable def lawB (L : List (Nat × (List Value × Value))) : Bool := chkV (.bool true) (exec (symT T0 L fun _ _ => none) 100000 (.call 3 [dA, dB]) (st0 T0.n0))
set_option maxRecDepth 100000 in
theorem law_bad : lawB (ansL 0 2) = true := by kernel_rfl
set_option maxRecDepth 100000 in
theorem law_lt : lawB (ansL (-1) 0 ++ ansC 0 0) = true := by kernel_rfl
set_option maxRecDepth 100000 in
theorem law_eq : lawB (ansL 0 0 ++ ansC 0 0) = true := by kernel_rfl
set_option maxRecDepth 100000 in
theorem law_gt : lawB (ansL 1 0 ++ ansC 0 0) = true := by kernel_rfl

theorem heads8 [Tok] {E : World → Prop} (hE : ∀ w, E w → 8 ≤ w.heap.size) (ι : Ren) (w : World) (args' : Array Value) (h : E w) (ha : All2 (Rv ι) ([] : List Value) args'.toList) :
    Calls Tryz.prog 6 args' w fun e w' => ∃ v', e = .returned v' ∧ Rv ι (.bool true) v' ∧ Below w.heap.size w w' := by
  have e : args' = #[] := by apply Array.toList_inj.1; exact ha.nil_inv
  rw [e]
  exact (heads_l w (hE w h)).mono fun e w' ⟨h1, h2⟩ => ⟨_, h1, .bool _, h2⟩

theorem sn_any (n1 : Bool) (s1 : ByteArray) (x1 : Int) (n2 : Bool) (s2 : ByteArray) (x2 : Int) {k1 k2 : Int} (h1 : k1 = 0 ∨ k1 = 2) (h2 : k2 = 0 ∨ k2 = 2)
    (K1 : ∀ w, Calls Tryz.prog 12 #[dv n1 s1 x1] w (New (.int .i64 k1) w)) (K2 : ∀ w, Calls Tryz.prog 12 #[dv n2 s2 x2] w (New (.int .i64 k2) w)) (w : World) (hw : E8 w) :
    Calls Tryz.prog 3 #[dv n1 s1 x1, dv n2 s2 x2] w (New (.bool true) w) := by
  obtain ⟨c, e, hce, C⟩ := compare_ex n1 s1 x1 n2 s2 x2 h1 h2 K1 K2
  letI tk := tokI n1 n2 s1 s2 x1 x2
  have hv : ∀ n, Tok.val n = tk9 n1 n2 s1 s2 x1 x2 n := fun n => rfl
  have aL : ∀ {M : List (Nat × (List Value × Value))}, AnsOk Tryz.prog E8 M → AnsOk Tryz.prog E8 (ansL c e ++ M) := fun hM =>
    ans_cons (fun ι w args' hE h => by
      obtain ⟨y, z, rfl, r1, r2⟩ := two_arg h
      rw [rv_dA hv r1, rv_dB hv r2]
      exact (C w hE).mono fun e w' ⟨h1, h2⟩ => ⟨_, h1, rv_closed ι 40 _ rfl, h2⟩) (ans_cons (heads8 fun w h => h) hM)
  have go : ∀ {L : List (Nat × (List Value × Value))}, lawB L = true → AnsOk Tryz.prog E8 L → Calls Tryz.prog 3 #[dv n1 s1 x1, dv n2 s2 x2] w (New (.bool true) w) := fun hb hL =>
    sym_ans ctx8 hL (tk_none _ _) hw (by rw [n0C]; exact hw) hb rfl (of_decide_eq_true (by kernel_rfl)) fun ι => args_ab hv
  rcases hce with ⟨rfl, tc, rfl, rfl⟩ | ⟨rfl, rfl⟩
  · have aC : AnsOk Tryz.prog E8 (ansC 0 0) := ans_cons (ans_dA hv K1) (ans_cons (ans_dB hv K2) (ans_nil _ _))
    rcases tc with rfl | rfl | rfl
    · exact go law_lt (aL aC)
    · exact go law_eq (aL aC)
    · exact go law_gt (aL aC)
  · exact go law_bad (by have := aL (ans_nil Tryz.prog E8); rw [List.append_nil] at this; exact this)
end Go.Proofs.YthdnpikgnmdnnaaGreatDoor.Ev

namespace Go.Proofs.YthdnpikgnmdnnaaGreatDoor
open Go.RowKit
theorem trim_l (s : ByteArray) (hs : s.size ≤ 1048576) : ∃ r : ByteArray, ∀ w, Calls Tryz.prog 35 #[.string s, .string ⟨#[48, 49, 50, 51, 52, 53, 54, 55, 56, 57]⟩] w (New (.string r) w) := by
  refine ⟨_, fun w => Any.strings_Trim_laid Tryz.lays160 (by kernel_rfl) s ⟨#[48, 49, 50, 51, 52, 53, 54, 55, 56, 57]⟩ w (by omega) (by decide) (ascii_of_all (by decide))⟩
theorem sn_l (n1 : Bool) (s1 : ByteArray) (x1 : Int) (n2 : Bool) (s2 : ByteArray) (x2 : Int) (W : World) (h : s1.size ≤ 1048576 ∧ s2.size ≤ 1048576) (hE : EnvV W) :
    Calls Tryz.prog 3 #[dv n1 s1 x1, dv n2 s2 x2] W (New (.bool true) W) := by
  obtain ⟨k1, h1, K1⟩ := chk_ex n1 s1 x1 (trim_l s1 h.1)
  obtain ⟨k2, h2, K2⟩ := chk_ex n2 s2 x2 (trim_l s2 h.2)
  exact Ev.sn_any n1 s1 x1 n2 s2 x2 h1 h2 K1 K2 W hE
end Go.Proofs.YthdnpikgnmdnnaaGreatDoor
