/- caliperref12.in, Same, Name; shape.Same, Name: what they answer of every text. -/
import Derived.Test.YtbamnidfhccgoaaGreatDoorTxt
import Derived.Test.YtbamnidfhccgoaaGreatDoorBlkT
import Derived.Test.YtbamnidfhccgoaaGreatDoorShelf
namespace Go.Proofs.YtbamnidfhccgoaaGreatDoor
open Go.RowKit
set_option linter.unusedSimpArgs false
set_option linter.unusedVariables false
set_option linter.unnecessarySimpa false

/-! ### A word of a row -/
/-- where the word at hand begins -/
def stOf (R : List UInt8) : Nat → Nat
  | 0 => 0
  | k + 1 => if R.getD k 32 = 32 then k + 1 else stOf R k
/-- the words that lie behind -/
def doneOf (R : List UInt8) : Nat → List (List UInt8)
  | 0 => []
  | k + 1 => if R.getD k 32 = 32 then doneOf R k ++ [(R.drop (stOf R k)).take (k - stOf R k)] else doneOf R k
def inB (R l : List UInt8) : Bool := decide (l ∈ doneOf R (R.length + 1))
theorem stOf_le (R : List UInt8) : ∀ k, stOf R k ≤ k
  | 0 => Nat.le_refl _
  | k + 1 => by
    rw [stOf]
    split
    · exact Nat.le_refl _
    · exact Nat.le_succ_of_le (stOf_le R k)
theorem doneOf_mono (R : List UInt8) (l : List UInt8) (k : Nat) (h : l ∈ doneOf R k) : ∀ d, l ∈ doneOf R (k + d)
  | 0 => h
  | d + 1 => by
    have ih := doneOf_mono R l k h d
    rw [show k + (d + 1) = (k + d) + 1 by omega, doneOf]
    split
    · exact List.mem_append_left _ ih
    · exact ih

set_option maxRecDepth 100000 in
set_option maxHeartbeats 2000000 in
theorem in_l (l R : List UInt8) (hR : R.length ≤ 1000000) (w : World) : Calls Tryz.prog 10 #[.string (str l), .string (str R)] w (Ans (.bool (inB R l)) w) := by
  have hs := str_size R
  have e2 := str_toList l
  have HD : Hid (inB R l = decide (l ∈ doneOf R (R.length + 1))) := rfl
  generalize inB R l = b at *
  obtain ⟨n, hn⟩ : ∃ n, R.length = n := ⟨_, rfl⟩
  have HN := Lib.hid hn
  rw [hn] at hs hR
  clear hn
  go_enter Tryz.func10, Tryz.ntmps10
  go_wp2_with fail
  go_loopw [5, 6] (fun f i wr => ∃ k : Nat, k ≤ n + 1 ∧ i = .int .i64 k ∧ f = .int .i64 (stOf R k) ∧ Hid (∀ x ∈ doneOf R k, x ≠ l) ∧ wr = w) (fun _ i _ => n + 1 - (intOf i).toNat)
  case atStart => exact ⟨0, Nat.zero_le _, rfl, rfl, (fun x hx => by cases hx), rfl⟩
  case round =>
    obtain ⟨k, hk, rfl, rfl, HX, rfl⟩ := hrel
    have hst := stOf_le R k
    have HS1 : Hid (stOf R (k + 1) = if R.getD k 32 = 32 then k + 1 else stOf R k) := rfl
    have HD1 : Hid (doneOf R (k + 1) = if R.getD k 32 = 32 then doneOf R k ++ [(R.drop (stOf R k)).take (k - stOf R k)] else doneOf R k) := rfl
    generalize stOf R k = s at *
    by_cases h1 : k ≤ n
    · by_cases h2 : k < n
      · have hgd : R.getD k 32 = R.getD k 0 := by
          have : k < R.length := by rw [HN.out]; exact h2
          simp [List.getD, this]
        rw [hgd] at HS1 HD1
        obtain ⟨c, hc⟩ : ∃ c, R.getD k 0 = c := ⟨_, rfl⟩
        rw [hc] at HS1 HD1
        have hc2 : R[k]?.getD 0 = c := by simpa [List.getD] using hc
        have hcl := c.toNat_lt
        by_cases h3 : c = 32
        · subst h3
          rw [if_pos rfl] at HS1 HD1
          have ht : ((32 : UInt8).toNat : Int) = 32 := rfl
          have e1 := str_toList ((R.drop s).take (k - s))
          obtain ⟨pc, hpc⟩ : ∃ pc, (R.drop s).take (k - s) = pc := ⟨_, rfl⟩
          rw [hpc] at HD1
          rw [hpc] at e1
          by_cases h4 : (pc == l) = true
          · have h4' : pc = l := by simpa using h4
            have hb : b = true := by
              rw [HD.out, HN.out]
              refine decide_eq_true ?_
              have := doneOf_mono R l (k + 1) (by rw [HD1.out, h4']; simp) (n - k)
              rw [show k + 1 + (n - k) = n + 1 by omega] at this
              exact this
            subst hb
            go_wp2_with fail
            go_ret
            exact ⟨rfl, rfl⟩
          · have h4f : (pc == l) = false := by simpa using h4
            have HX1 : Hid (∀ x ∈ doneOf R (k + 1), x ≠ l) := by
              intro x hx
              rw [HD1.out] at hx
              rcases List.mem_append.1 hx with hx | hx
              · exact HX.out x hx
              · rw [List.mem_singleton.1 hx]; simpa using h4
            go_wp2_with fail
            go_roundw
            case measure => simp only [intOf]; omega
            case rel => exact ⟨k + 1, by omega, by go_num, by rw [HS1.out]; go_num, HX1.out, by trivial⟩
        · have h3' : ¬ ((c.toNat : Int) = 32) := by
            intro e
            apply h3
            have : c.toNat = (32 : UInt8).toNat := by have : (32 : UInt8).toNat = 32 := rfl; omega
            exact UInt8.toNat_inj.1 this
          rw [if_neg h3] at HS1 HD1
          have HX1 : Hid (∀ x ∈ doneOf R (k + 1), x ≠ l) := by unfold Hid; rw [HD1.out]; exact HX.out
          go_wp2_with fail
          go_roundw
          case measure => simp only [intOf]; omega
          case rel => exact ⟨k + 1, by omega, by go_num, by rw [HS1.out], HX1.out, by trivial⟩
      · obtain rfl : k = n := by omega
        have hgd : R.getD k 32 = 32 := by
          have : ¬ k < R.length := by rw [HN.out]; omega
          simp [List.getD, this]
        rw [hgd] at HS1 HD1
        rw [if_pos rfl] at HS1 HD1
        have e1 := str_toList ((R.drop s).take (k - s))
        obtain ⟨pc, hpc⟩ : ∃ pc, (R.drop s).take (k - s) = pc := ⟨_, rfl⟩
        rw [hpc] at HD1
        rw [hpc] at e1
        by_cases h4 : (pc == l) = true
        · have h4' : pc = l := by simpa using h4
          have hb : b = true := by
            rw [HD.out, HN.out]
            refine decide_eq_true ?_
            have := doneOf_mono R l (k + 1) (by rw [HD1.out, h4']; simp) (k - k)
            rw [show k + 1 + (k - k) = k + 1 by omega] at this
            exact this
          subst hb
          go_wp2_with fail
          go_ret
          exact ⟨rfl, rfl⟩
        · have h4f : (pc == l) = false := by simpa using h4
          have HX1 : Hid (∀ x ∈ doneOf R (k + 1), x ≠ l) := by
            intro x hx
            rw [HD1.out] at hx
            rcases List.mem_append.1 hx with hx | hx
            · exact HX.out x hx
            · rw [List.mem_singleton.1 hx]; simpa using h4
          go_wp2_with fail
          go_roundw
          case measure => simp only [intOf]; omega
          case rel => exact ⟨k + 1, by omega, by go_num, by rw [HS1.out]; go_num, HX1.out, by trivial⟩
    · obtain rfl : k = n + 1 := by omega
      have hb : b = false := by
        rw [HD.out, HN.out]
        exact decide_eq_false fun h => HX.out l h rfl
      subst hb
      go_wp2_with fail
      go_ret
      exact ⟨rfl, rfl⟩

/-! ### The words that ask of the same instance -/
def words : List (List UInt8) := [[36, 114, 101, 102], [36, 100, 121, 110, 97, 109, 105, 99, 82, 101, 102], [97, 108, 108, 79, 102], [97, 110, 121, 79, 102], [100, 101, 112, 101, 110, 100, 101, 110, 116, 83, 99, 104, 101, 109, 97, 115], [101, 108, 115, 101], [105, 102], [110, 111, 116], [111, 110, 101, 79, 102], [116, 104, 101, 110]]
def rowL : List UInt8 := [36, 114, 101, 102, 32, 36, 100, 121, 110, 97, 109, 105, 99, 82, 101, 102, 32, 97, 108, 108, 79, 102, 32, 97, 110, 121, 79, 102, 32, 100, 101, 112, 101, 110, 100, 101, 110, 116, 83, 99, 104, 101, 109, 97, 115, 32, 101, 108, 115, 101, 32, 105, 102, 32, 110, 111, 116, 32, 111, 110, 101, 79, 102, 32, 116, 104, 101, 110]
set_option maxRecDepth 100000 in
theorem done_row : doneOf rowL (rowL.length + 1) = words := by decide +kernel
def sameB (l : List UInt8) : Bool := decide (l ∈ words)
theorem in_row (l : List UInt8) : inB rowL l = sameB l := by unfold inB sameB; rw [done_row]

set_option maxRecDepth 100000 in
theorem sameR_l (l : List UInt8) (w : World) : Calls Tryz.prog 5 #[.string (str l)] w (Ans (.bool (sameB l)) w) := by
  have HI := in_l l rowL (by decide) w
  rw [in_row] at HI
  have HI' := Lib.hid HI
  clear HI
  generalize sameB l = b at *
  go_enter Tryz.func5, Tryz.ntmps5
  go_wp2_with fail
  refine HI'.out.mono ?_
  rintro e w' ⟨rfl, rfl⟩
  go_wp2_with fail
  go_ret
  exact ⟨rfl, rfl⟩

theorem same_words (l : List UInt8) : Lib.containsS (words.map str) (str l) = sameB l := by
  rw [Bool.eq_iff_iff, Lib.containsS_iff]
  unfold sameB
  rw [decide_eq_true_iff]
  constructor
  · intro h
    obtain ⟨x, hx, he⟩ := List.mem_map.1 h
    have : x = l := by rw [← str_toList x, ← str_toList l, he]
    rw [← this]; exact hx
  · intro h; exact List.mem_map.2 ⟨l, h, rfl⟩

set_option maxRecDepth 100000 in
set_option maxHeartbeats 2000000 in
theorem same_l (l : List UInt8) (w : World) : Calls Tryz.prog 4 #[.string (str l)] w (New (.bool (sameB l)) w) := by
  have hw := same_words l
  have HC : Hid (∀ W, (∀ j, j < 10 → W.cell? ⟨w.heap.size, 0 + j, none⟩ = some (.string ((words.map str).getD j ByteArray.empty))) → Calls Tryz.prog 9 #[.slice (some ⟨w.heap.size, 0, none⟩) 10 10, .string (str l)] W (Ans (.bool (sameB l)) W)) := by
    intro W hc
    have := Tryz.slices_Contains_string w.heap.size 0 10 10 (words.map str) (str l) W (by decide) (by decide) hc
    rw [show (words.map str).take 10 = words.map str from rfl, hw] at this
    exact this.mono fun _ _ h => ⟨h.1, h.2.symm⟩
  generalize sameB l = b at *
  clear hw
  go_enter Tryz.func4, Tryz.ntmps4
  go_wp2_with fail
  refine (HC.out _ ?_).mono ?_
  · intro j hj
    rw [Nat.zero_add]
    refine ((Blk.new w ((words.map str).map Value.string) 9).cell j).trans ?_
    have hl : j < words.length := hj
    simp [List.getD, hl]
  · rintro e w' ⟨rfl, rfl⟩
    go_wp2_with fail
    go_ret
    exact ⟨rfl, (Below.refl _ _).alloc (Nat.le_refl _) _⟩

/-! ### Names -/
def okI (k : Nat) (c : Int) : Bool := (decide (97 ≤ c) && decide (c ≤ 122)) || (decide (65 ≤ c) && decide (c ≤ 90)) || decide (c = 95) || (decide (k ≠ 0) && (decide (c = 45) || decide (c = 46) || (decide (48 ≤ c) && decide (c ≤ 57))))
def okAt (k : Nat) (c : UInt8) : Bool := okI k c.toNat
def nameB (l : List UInt8) : Bool := decide (l ≠ []) && (List.range l.length).all fun k => okAt k (l.getD k 0)
theorem name_no {l : List UInt8} {k : Nat} (hk : k < l.length) (h : okAt k (l.getD k 0) = false) : nameB l = false := by
  unfold nameB
  rw [Bool.and_eq_false_iff]
  right
  rw [List.all_eq_false]
  exact ⟨k, List.mem_range.2 hk, by rw [h]; simp⟩
theorem name_yes {l : List UInt8} (h : ∀ k, k < l.length → okAt k (l.getD k 0) = true) : nameB l = decide (l ≠ []) := by
  unfold nameB
  have : ((List.range l.length).all fun k => okAt k (l.getD k 0)) = true := List.all_eq_true.2 fun k hk => h k (List.mem_range.1 hk)
  rw [this, Bool.and_true]

set_option maxRecDepth 100000 in
set_option maxHeartbeats 4000000 in
theorem nameR_l (l : List UInt8) (hl : l.length ≤ 1048576) (w : World) : Calls Tryz.prog 7 #[.string (str l)] w (Ans (.bool (nameB l)) w) := by
  have hs := str_size l
  have e2 := str_toList l
  have HNo : Hid (∀ k, k < l.length → okAt k (l.getD k 0) = false → nameB l = false) := fun k => name_no
  have HYes : Hid ((∀ k, k < l.length → okAt k (l.getD k 0) = true) → nameB l = decide (l ≠ [])) := name_yes
  generalize nameB l = b at *
  obtain ⟨n, hn⟩ : ∃ n, l.length = n := ⟨_, rfl⟩
  rw [hn] at HNo HYes hl hs
  clear hn
  go_enter Tryz.func7, Tryz.ntmps7
  go_wp2_with fail
  go_loopw [3] (fun i wr => ∃ k : Nat, k ≤ n ∧ i = .int .i64 k ∧ Hid (∀ j, j < k → okAt j (l.getD j 0) = true) ∧ wr = w) (fun i _ => n - (intOf i).toNat)
  case atStart => exact ⟨0, Nat.zero_le _, rfl, (fun j hj => absurd hj (Nat.not_lt_zero _)), rfl⟩
  case round =>
    obtain ⟨k, hk, rfl, HX, rfl⟩ := hrel
    by_cases hlt : k < n
    · obtain ⟨c, hc⟩ : ∃ c, l.getD k 0 = c := ⟨_, rfl⟩
      have hc2 : l[k]?.getD 0 = c := by simpa [List.getD] using hc
      have hcl := c.toNat_lt
      have HX1 : Hid (okAt k c = true → ∀ j, j < k + 1 → okAt j (l.getD j 0) = true) := fun h j hj => by
        rcases Nat.lt_or_ge j k with h1 | h1
        · exact HX.out j h1
        · obtain rfl : j = k := by omega
          rw [hc]; exact h
      have HN1 : Hid (okAt k c = false → b = false) := fun h => HNo.out k hlt (by rw [hc]; exact h)
      have HO : Hid (okAt k c = okI k c.toNat) := rfl
      generalize okAt k c = o at *
      go_wp2_with fail
      all_goals first
        | (have hb : b = false := HN1.out (by rw [HO.out]; unfold okI; simp_all <;> omega); subst hb; go_ret; exact ⟨rfl, rfl⟩)
        | (have hok := HX1.out (by rw [HO.out]; unfold okI; simp_all <;> omega); go_roundw; (case measure => (simp only [intOf]; omega)); (case rel => first | exact ⟨k + 1, by omega, by go_num, hok, by trivial⟩ | exact ⟨1, by omega, by go_num, hok, by trivial⟩))
    · obtain rfl : k = n := by omega
      have hb : b = !l.isEmpty := by
        rw [HYes.out HX.out]
        cases l <;> simp
      have hse : (str l).toList.isEmpty = l.isEmpty := by rw [e2]
      go_wp2_with fail
      go_ret
      exact ⟨by rw [hb]; rfl, rfl⟩

/-! ### shape.Name -/
theorem conv_bytes (s : ByteArray) (w : World) : ∃ cap W', (convert 9 27 (.string s)).run Tryz.prog w = .ok (.slice (some ⟨w.heap.size, 0, none⟩) s.size cap) W' ∧
    Below w.heap.size w W' ∧ w.heap.size < W'.heap.size ∧ ∀ j, j < s.size → W'.cell? ⟨w.heap.size, j, none⟩ = some (.int .u8 (s.data.toList.getD j 0).toNat) := by
  refine ⟨_, _, Lib.run_convert_string_bytes w 9 27 5 s Tryz.underlying9 Tryz.underlying27 Tryz.underlying5, ?_, ?_, ?_⟩
  · refine ⟨?_, ?_, ?_, ?_, fun k hk => Lib.bytesWorld_at_old w _ s k hk⟩
    · simp [Lib.bytesWorld, World.freeze, World.alloc, World.drew, -World.alloc_eq, -World.drew_eq]
    · simp [Lib.bytesWorld, World.freeze, World.alloc, World.drew, -World.alloc_eq, -World.drew_eq]
    · simp [Lib.bytesWorld, World.freeze, World.alloc, World.drew, -World.alloc_eq, -World.drew_eq]
    · rw [Lib.bytesWorld_size]; omega
  · rw [Lib.bytesWorld_size]; omega
  · exact fun j hj => Lib.bytesWorld_cell w _ s j hj

def low (c : Int) : Int := bits BinOp.or IntKind.u8 c 32
def digL : List UInt8 := [48, 49, 50, 51, 52, 53, 54, 55, 56, 57, 45, 46]
theorem all_bytes {p : UInt8 → Prop} (h : ∀ n : Fin 256, p (UInt8.ofNat n)) (c : UInt8) : p c := by
  have := h ⟨c.toNat, c.toNat_lt⟩
  simpa using this
def okN (k : Nat) (c : Int) : Bool := (decide (97 ≤ low c) && decide (low c ≤ 122) && decide (c < 128)) || decide (c = 95) || (decide (k ≠ 0) && decide (0 ≤ Lib.indexByte digL c.toNat.toUInt8))
set_option maxRecDepth 100000 in
theorem okN_0 (c : UInt8) : okN 0 c.toNat = okI 0 c.toNat := by
  refine all_bytes (p := fun c => okN 0 c.toNat = okI 0 c.toNat) ?_ c
  decide +kernel
set_option maxRecDepth 100000 in
theorem okN_1 (c : UInt8) : okN 1 c.toNat = okI 1 c.toNat := by
  refine all_bytes (p := fun c => okN 1 c.toNat = okI 1 c.toNat) ?_ c
  decide +kernel
theorem okN_is (k : Nat) (c : UInt8) : okN k c.toNat = okAt k c := by
  unfold okAt
  cases k with
  | zero => exact okN_0 c
  | succ k =>
    have h : ∀ x, okN (k + 1) x = okN 1 x := fun x => by unfold okN; simp
    have g : ∀ x, okI (k + 1) x = okI 1 x := fun x => by unfold okI; simp
    rw [h, g]
    exact okN_1 c

set_option maxRecDepth 100000 in
set_option maxHeartbeats 8000000 in
theorem name_l (l : List UInt8) (hl : l.length ≤ 1048576) (w : World) : Calls Tryz.prog 6 #[.string (str l)] w (New (.bool (nameB l)) w) := by
  obtain ⟨cap, W, hconv, hb, hlt, hc⟩ := conv_bytes (str l) w
  rw [str_data] at hc
  rw [str_size] at hc hconv
  have HB0 := Lib.hid hb
  have HC := Lib.hid hc
  have e2 := str_toList l
  have HNo : Hid (∀ k, k < l.length → okAt k (l.getD k 0) = false → nameB l = false) := fun k => name_no
  have HYes : Hid ((∀ k, k < l.length → okAt k (l.getD k 0) = true) → nameB l = decide (l ≠ [])) := name_yes
  clear hc hb
  generalize nameB l = b at *
  obtain ⟨n, hn⟩ : ∃ n, l.length = n := ⟨_, rfl⟩
  rw [hn] at HNo HYes hl hconv
  have HN := Lib.hid hn
  clear hn
  have hi : ∀ l : List UInt8, (⟨#[48, 49, 50, 51, 52, 53, 54, 55, 56, 57, 45, 46]⟩ : ByteArray).data.toList = digL := fun _ => rfl
  go_enter Tryz.func6, Tryz.ntmps6
  go_wp2_with fail
  go_loopw [9] (fun i wr => ∃ k : Nat, k ≤ n ∧ i = .int .i64 k ∧ Hid (∀ j, j < k → okAt j (l.getD j 0) = true) ∧ wr = W) (fun i _ => n - (intOf i).toNat)
  case atStart => exact ⟨0, Nat.zero_le _, rfl, (fun j hj => absurd hj (Nat.not_lt_zero _)), rfl⟩
  case round =>
    obtain ⟨k, hk, rfl, HX, rfl⟩ := hrel
    by_cases hlt2 : k < n
    · have hcell := HC.out k (by rw [HN.out]; exact hlt2)
      obtain ⟨c, hc⟩ : ∃ c, l.getD k 0 = c := ⟨_, rfl⟩
      rw [hc] at hcell
      have hcl := c.toNat_lt
      have HX1 : Hid (okAt k c = true → ∀ j, j < k + 1 → okAt j (l.getD j 0) = true) := fun h j hj => by
        rcases Nat.lt_or_ge j k with h1 | h1
        · exact HX.out j h1
        · obtain rfl : j = k := by omega
          rw [hc]; exact h
      have HN1 : Hid (okAt k c = false → b = false) := fun h => HNo.out k hlt2 (by rw [hc]; exact h)
      have HO : Hid (okAt k c = okN k c.toNat) := (okN_is k c).symm
      generalize okAt k c = o at *
      go_wp2_with (first | (go_at_call 11; refine (Tryz.strings_IndexByte _ _ _).mono ?_; rintro e w' ⟨rfl, hw⟩; rw [hw]))
      all_goals first
        | (have hb : b = false := HN1.out (by rw [HO.out]; unfold okN low; simp_all <;> omega); subst hb; go_ret; exact ⟨rfl, HB0.out⟩)
        | (have hok := HX1.out (by rw [HO.out]; unfold okN low; simp_all <;> omega); go_roundw; (case measure => (simp only [intOf]; omega)); (case rel => first | exact ⟨k + 1, by omega, by go_num, hok, by trivial⟩ | exact ⟨1, by omega, by go_num, hok, by trivial⟩))
        | skip
    · obtain rfl : k = n := by omega
      have hb : b = !l.isEmpty := by
        rw [HYes.out HX.out]
        cases l <;> simp
      have hse : (str l).toList.isEmpty = l.isEmpty := by rw [e2]
      go_wp2_with fail
      go_ret
      exact ⟨by rw [hb]; rfl, HB0.out⟩
end Go.Proofs.YtbamnidfhccgoaaGreatDoor
