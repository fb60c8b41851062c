/- Package uri: the tests of bytes; scheme; plain. -/
import Derived.Test.YthicgeiljficbaaIdxB
import Derived.IntWalk
import Derived.Lib.ConvBytes
namespace Go.Proofs.Ythicgeiljficbaa
open Go.RowKit
set_option linter.unusedSimpArgs false
set_option linter.unusedVariables false
set_option linter.unnecessarySimpa false

def alphaB (c : Int) : Bool := decide (97 ≤ c) && decide (c ≤ 122) || decide (65 ≤ c) && decide (c ≤ 90)
def digitB (c : Int) : Bool := decide (48 ≤ c) && decide (c ≤ 57)
def low (c : Int) : Int := bits BinOp.or IntKind.u8 c 32
def hexB (c : Int) : Bool := digitB c || (decide (97 ≤ low c) && decide (low c ≤ 102)) && alphaB c

set_option maxHeartbeats 400000 in
theorem alpha_any (c : Int) (w : World) :
    Calls Try.prog 30 #[.int .u8 c] w (Ans (.bool (alphaB c)) w) := by
  go_enter Try.func30, Try.ntmps30
  go_wp2
  all_goals go_ret
  all_goals refine ⟨?_, rfl⟩
  all_goals simp [alphaB, *]
  all_goals omega

set_option maxHeartbeats 400000 in
theorem digit_any (c : Int) (w : World) :
    Calls Try.prog 31 #[.int .u8 c] w (Ans (.bool (digitB c)) w) := by
  go_enter Try.func31, Try.ntmps31
  go_wp2
  all_goals go_ret
  all_goals refine ⟨?_, rfl⟩
  all_goals simp [digitB, *]
  all_goals omega

theorem ret_bool {a b : Bool} (h : a = b) : Ending.returned (.bool a) = .returned (.bool b) := by rw [h]

set_option maxHeartbeats 400000 in
theorem hex_any (c : Int) (w : World) :
    Calls Try.prog 32 #[.int .u8 c] w (Ans (.bool (hexB c)) w) := by
  go_enter Try.func32, Try.ntmps32
  go_wp2_with (first | (go_at_call 31; refine (digit_any _ _).mono ?_; rintro e w' ⟨rfl, rfl⟩) | (go_at_call 30; refine (alpha_any _ _).mono ?_; rintro e w' ⟨rfl, rfl⟩))
  all_goals go_ret
  all_goals refine ⟨ret_bool ?_, rfl⟩
  all_goals simp [hexB, low, *]
  all_goals (intro h1; have := of_decide_eq_true h1; exfalso; omega)

/-- is byte c let in a part, where others are, too? -/
def okB (others : List UInt8) (c : UInt8) : Bool :=
  alphaB c.toNat || digitB c.toNat || decide (0 ≤ Lib.indexByte [45, 46, 95, 126, 33, 36, 38, 39, 40, 41, 42, 43, 44, 59, 61, 58, 64] c) || decide (0 ≤ Lib.indexByte others c)
def plainB (others : List UInt8) : List UInt8 → Bool
  | [] => true
  | c :: l => if c = 37 then (match l with | a :: b :: l => hexB a.toNat && hexB b.toNat && plainB others l | _ => false) else okB others c && plainB others l

/-- may the k-th byte of a scheme be c? -/
def schOk (k : Nat) (c : Int) : Bool := alphaB c || (decide (0 < k) && (digitB c || decide (0 ≤ Lib.indexByte [43, 45, 46] c.toNat.toUInt8)))
def schB (l : List UInt8) : Bool := (List.range l.length).all fun k => schOk k ((l.getD k 0).toNat : Int)
theorem schB_true {l : List UInt8} (h : ∀ j, j < l.length → schOk j ((l.getD j 0).toNat : Int) = true) : schB l = true := by
  unfold schB
  rw [List.all_eq_true]
  intro k hk
  exact h k (List.mem_range.1 hk)
theorem schB_false {l : List UInt8} (j : Nat) (hj : j < l.length) (h : schOk j ((l.getD j 0).toNat : Int) = false) : schB l = false := by
  unfold schB
  rw [List.all_eq_false]
  exact ⟨j, List.mem_range.2 hj, by rw [h]; decide⟩

/-- '[]byte(s)': a row of its own, whose cells are the bytes -/
theorem conv_bytes (s : ByteArray) (w : World) : ∃ cap W', (convert 9 46 (.string s)).run Try.prog w = .ok (.slice (some ⟨w.heap.size, 0, none⟩) s.size cap) W' ∧
    Below w.heap.size w W' ∧ w.heap.size < W'.heap.size ∧ ∀ j, j < s.size → W'.cell? ⟨w.heap.size, j, none⟩ = some (.int .u8 (s.data.toList.getD j 0).toNat) := by
  refine ⟨_, _, Lib.run_convert_string_bytes w 9 46 5 s Try.underlying9 Try.underlying46 Try.underlying5, ?_, ?_, ?_⟩
  · refine ⟨?_, ?_, ?_, ?_, fun k hk => Lib.bytesWorld_at_old w _ s k hk⟩
    · simp [Lib.bytesWorld, World.freeze, World.alloc, World.drew, -World.alloc_eq, -World.drew_eq]
    · simp [Lib.bytesWorld, World.freeze, World.alloc, World.drew, -World.alloc_eq, -World.drew_eq]
    · simp [Lib.bytesWorld, World.freeze, World.alloc, World.drew, -World.alloc_eq, -World.drew_eq]
    · rw [Lib.bytesWorld_size]; omega
  · rw [Lib.bytesWorld_size]; omega
  · exact fun j hj => Lib.bytesWorld_cell w _ s j hj

set_option maxHeartbeats 400000 in
theorem scheme_any (s : ByteArray) (hs : s.size ≤ 140737488351232) (w : World) :
    Calls Try.prog 15 #[.string s] w (New (.bool (schB s.data.toList)) w) := by
  obtain ⟨cap, W, hconv, hb, hlt, hc⟩ := conv_bytes s w
  have HC := Lib.hid hc
  have HB := Lib.hid hb
  clear hc hb hlt
  go_enter Try.func15, Try.ntmps15
  go_wp2_with fail
  clear hconv
  go_loop [3, 4, 8] (fun _ _ i => ∃ k : Nat, k ≤ s.size ∧ i = .int .i64 k ∧ Hid (∀ j, j < k → schOk j ((s.data.toList.getD j 0).toNat : Int) = true)) (fun _ _ i => s.size - (intOf i).toNat)
  case atStart => exact ⟨0, Nat.zero_le _, rfl, fun j hj => absurd hj (Nat.not_lt_zero _)⟩
  case round =>
    obtain ⟨k, hk, rfl, hok⟩ := hrel
    by_cases hlt : k < s.size
    · have hcell := HC.out k hlt
      obtain ⟨c, hcd⟩ : ∃ c : UInt8, s.data.toList.getD k 0 = c := ⟨_, rfl⟩
      rw [hcd] at hcell
      go_wp2_with (first | (go_at_call 31; refine (digit_any _ _).mono ?_; rintro e w' ⟨rfl, rfl⟩) | (go_at_call 30; refine (alpha_any _ _).mono ?_; rintro e w' ⟨rfl, rfl⟩) | (go_at_call 22; refine (Try.strings_IndexByte _ _ _).mono ?_; rintro e w' ⟨rfl, hw⟩; rw [hw]))
      all_goals first
        | (go_ret
           refine ⟨ret_bool (Eq.symm (schB_false k (by rw [← Lib.size_eq]; exact hlt) ?_)), HB.out⟩
           rw [hcd]
           simp_all [schOk]
           try omega)
        | (go_round
           case measure => simp [intOf]; omega
           case rel =>
             refine ⟨k + 1, by omega, by go_num, ?_⟩
             intro j hj
             by_cases e : j = k
             · subst e
               rw [hcd]
               simp_all [schOk]
               try omega
             · exact hok.out j (by omega))
    · obtain rfl : k = s.size := by omega
      go_wp2_with fail
      go_ret
      exact ⟨by rw [schB_true (by rw [← Lib.size_eq]; exact hok.out)]; rfl, HB.out⟩

end Go.Proofs.Ythicgeiljficbaa
