/- caliperref07.Unescape: walked by hand. -/
import Derived.Test.YthicgeiljficbaaDoorPtrU
import Derived.Test.YthicgeiljficbaaDoorPtrV
import Derived.Deep.RegionLaw
namespace Go.Proofs.YthicgeiljficbaaDoor
open Go.RowKit
set_option linter.unusedSimpArgs false
set_option linter.unusedVariables false
set_option linter.unnecessarySimpa false

theorem digitR_l (c : UInt8) (w : World) : Calls Tryd.prog 65 #[.int .u8 c.toNat] w (Ans (.bool (decide (48 ≤ (c.toNat : Int) ∧ (c.toNat : Int) ≤ 57))) w) := by
  have hc := c.toNat_lt
  by_cases h1 : 48 ≤ (c.toNat : Int)
  · by_cases h2 : (c.toNat : Int) ≤ 57
    · rw [decide_eq_true ⟨h1, h2⟩]
      go_enter Tryd.func65, Tryd.ntmps65
      go_wp2
      go_ret
      exact ⟨rfl, rfl⟩
    · rw [decide_eq_false (fun h => h2 h.2)]
      go_enter Tryd.func65, Tryd.ntmps65
      go_wp2
      go_ret
      exact ⟨rfl, rfl⟩
  · rw [decide_eq_false (fun h => h1 h.1)]
    go_enter Tryd.func65, Tryd.ntmps65
    go_wp2
    go_ret
    exact ⟨rfl, rfl⟩
/-- a hexadecimal digit's value; -1: none -/
def hexI (c : UInt8) : Int := match hexV c with
  | some n => n
  | none => -1
theorem hexI_range (c : UInt8) : -1 ≤ hexI c ∧ hexI c ≤ 15 := by
  unfold hexI
  cases h : hexV c with
  | none => simp
  | some n => have := hexV_lt h; simp only; omega
theorem hexI_is (c : UInt8) : hexI c = if 48 ≤ (c.toNat : Int) ∧ (c.toNat : Int) ≤ 57 then (c.toNat : Int) - 48 else if 97 ≤ (c.toNat : Int) ∧ (c.toNat : Int) ≤ 102 then (c.toNat : Int) - 87 else if 65 ≤ (c.toNat : Int) ∧ (c.toNat : Int) ≤ 70 then (c.toNat : Int) - 55 else -1 := by
  refine all_bytes (p := fun c => hexI c = if 48 ≤ (c.toNat : Int) ∧ (c.toNat : Int) ≤ 57 then (c.toNat : Int) - 48 else if 97 ≤ (c.toNat : Int) ∧ (c.toNat : Int) ≤ 102 then (c.toNat : Int) - 87 else if 65 ≤ (c.toNat : Int) ∧ (c.toNat : Int) ≤ 70 then (c.toNat : Int) - 55 else -1) ?_ c
  decide +kernel
theorem hexR_l (c : UInt8) (w : World) : Calls Tryd.prog 45 #[.int .u8 c.toNat] w (Ans (.int .i64 (hexI c)) w) := by
  have hc := c.toNat_lt
  have HD := digitR_l c
  have HX := Lib.hid (hexI_is c)
  by_cases h1 : 48 ≤ (c.toNat : Int) ∧ (c.toNat : Int) ≤ 57
  · rw [HX.out, if_pos h1]
    rw [decide_eq_true h1] at HD
    obtain ⟨g1, g2⟩ := h1
    have HD' := Lib.hid HD
    clear HD
    go_enter Tryd.func45, Tryd.ntmps45
    go_wp2_with (go_at_call 65; refine (HD'.out _).mono ?_; rintro e w' ⟨rfl, rfl⟩)
    go_ret
    exact ⟨rfl, rfl⟩
  · rw [HX.out, if_neg h1]
    rw [decide_eq_false h1] at HD
    have HD' := Lib.hid HD
    clear HD
    by_cases h2 : 97 ≤ (c.toNat : Int) ∧ (c.toNat : Int) ≤ 102
    · rw [if_pos h2]
      obtain ⟨g1, g2⟩ := h2
      clear h1
      go_enter Tryd.func45, Tryd.ntmps45
      go_wp2_with (go_at_call 65; refine (HD'.out _).mono ?_; rintro e w' ⟨rfl, rfl⟩)
      go_ret
      exact ⟨ret_int (by omega), rfl⟩
    · rw [if_neg h2]
      have hw : (97 ≤ (c.toNat : Int) ∧ ¬ (c.toNat : Int) ≤ 102) ∨ (¬ 97 ≤ (c.toNat : Int)) := by omega
      by_cases h3 : 65 ≤ (c.toNat : Int) ∧ (c.toNat : Int) ≤ 70
      · rw [if_pos h3]
        obtain ⟨g1, g2⟩ := h3
        clear h1 h2
        go_enter Tryd.func45, Tryd.ntmps45
        go_wp2_with (go_at_call 65; refine (HD'.out _).mono ?_; rintro e w' ⟨rfl, rfl⟩)
        go_ret
        exact ⟨ret_int (by omega), rfl⟩
      · rw [if_neg h3]
        clear hw
        go_enter Tryd.func45, Tryd.ntmps45
        go_wp2_with (go_at_call 65; refine (HD'.out _).mono ?_; rintro e w' ⟨rfl, rfl⟩)
        all_goals first | (exfalso; omega) | (go_ret; exact ⟨rfl, rfl⟩)

theorem step_append_row {P : Program} {ops : Array Oper} {o : Oper} {a : Act} {w : World} {K : Act → World → Prop} {Q : Exit → Act → World → Prop} {E : Prop}
    (hg : o.guard = none) (s x : Operand) (t : TypeId) (ho : o.op = .call { callee := .builtin .append, args := #[s, x], argTypes := #[t, t] })
    (B : Nat) (e : TypeId) (i : TypeInfo) (z : Value) (size bytes : Nat) (ht : P.underlying t = some (.slice e)) (hi : P.info? e = some i) (hz : i.zero = some z)
    (hsize : i.size = size) (hby : i.bytes = bytes) (hzs : z.cells.size = size)
    (v : Value) (n : Nat) (xs : List Value) (hs : a.eval s = v) (hown : Row w B e size v n xs)
    (ad : Addr) (m c : Nat) (news : List Value) (hx : a.eval x = .slice (some ad) m c) (hl : news.length = m * size) (hnews : ∀ j u, news[j]? = some u → w.cell? (ad.add j) = some u) (h1 : ∀ u ∈ news, u.oneCell' = true)
    (hm : 0 < m) (h63 : n + m ≤ maxLen) (hbytes : (n + m) * bytes ≤ 140737488355328) (hbase : B ≤ w.heap.size)
    (h : ∀ v' w', Row w' B e size v' (n + m) (xs ++ news) → Below B w w' → K (a.put o.dst v') w') : if Region.wanted o (yielded ops a.tmps) = true then Oper.wp P o a w K Q else E := by
  have hw : Region.wanted o (yielded ops a.tmps) = true := by simp [Region.wanted, hg]
  rw [if_pos hw]
  obtain ⟨v', w', hr, h2, h3⟩ := run_append_row (P := P) w B t o.type e i z size bytes ht hi hz hsize hby hzs v n xs hown ad m c news hl hnews h1 hm h63 hbytes hbase
  unfold Oper.wp execOp
  simp only [ho, resolve, invoke, builtin, Sem.run_bind, Sem.run_pure, Result.andThen_ok, List.map_toArray, List.map_cons, List.map_nil, hs, hx, hr]
  exact h _ _ h2 h3
theorem step_call_quiet {P : Program} {ops : Array Oper} {o : Oper} {a : Act} {w : World} {K : Act → World → Prop} {Q : Exit → Act → World → Prop} {E : Prop}
    (hg : o.guard = none) (f : FuncId) (x : Operand) (t : TypeId) (ho : o.op = .call { callee := .value (.func f), args := #[x], argTypes := #[t] })
    (u v : Value) (hx : a.eval x = u) (he : (callFunc f #[u]).run P w = .ok (.enter f #[u]) w) (hc : Calls P f #[u] w fun e w' => e = .returned v ∧ w = w') (h : K (a.put o.dst v) w) : if Region.wanted o (yielded ops a.tmps) = true then Oper.wp P o a w K Q else E := by
  have hw : Region.wanted o (yielded ops a.tmps) = true := by simp [Region.wanted, hg]
  rw [if_pos hw]
  unfold Oper.wp execOp
  simp only [ho, resolve, invoke, Sem.run_bind, Sem.run_pure, Result.andThen_ok, List.map_toArray, List.map_cons, List.map_nil, hx]
  simp only [Act.eval, Deferred.ofValue, Sem.run_bind, Sem.run_pure, Result.andThen_ok, Array.append_empty, Array.empty_append, he]
  refine hc.mono ?_
  rintro e w' ⟨rfl, rfl⟩
  exact h
theorem enter_hex (u : Value) (w : World) : (callFunc 45 #[u]).run Tryd.prog w = .ok (.enter 45 #[u]) w := by
  unfold callFunc
  simp [Tryd.func45, go_sem]
  rfl
theorem Row.cap {w : World} {B : Nat} {e : TypeId} {size n m c : Nat} {v : Value} {a : Option Addr} {xs : List Value} (h : Row w B e size v n xs) (hv : v = .slice a m c) : m ≤ c := by
  obtain ⟨a', cap, rfl, hc⟩ := h.shape
  cases hv
  exact hc
theorem one_cell_u8 (n : Int) : ∀ u ∈ [Value.int .u8 n], u.oneCell' = true := by intro u hu; simp at hu; subst hu; rfl
theorem hexN_I (a b : UInt8) : hexN 0 [a, b] = if hexI a < 0 then none else if hexI b < 0 then none else some (16 * hexI a + hexI b).toNat := by
  unfold hexN hexI
  cases ha : hexV a with
  | none => simp
  | some m =>
    simp only [hexN]
    cases hb : hexV b with
    | none => simp
    | some n => simp; omega

set_option maxRecDepth 100000 in
set_option maxHeartbeats 2000000 in
theorem unescapeR_l (l : List UInt8) (hl : l.length ≤ 67108864) (w : World) : Calls Tryd.prog 25 #[.string (str l)] w (Unesced (unesB l) w) := by
  obtain ⟨i0, hi, hy0, hy1, hy2⟩ := info_parts info_byte
  have hsz := str_size l
  obtain ⟨n, hn⟩ : ∃ n, l.length = n := ⟨_, rfl⟩
  rw [hn] at hsz hl
  have HN := Lib.hid hn
  generalize hu : unesB l = u
  have HU := Lib.hid hu
  clear hu hn
  have HX := Lib.hid hexR_l
  go_enter Tryd.func25, Tryd.ntmps25
  go_wp2_with fail
  go_loopw [4, 5] (fun v i wr => ∃ (k : Nat) (out : List UInt8), k ≤ n ∧ i = .int .i64 k ∧ out.length ≤ k ∧ Hid (Row wr w.heap.size 5 1 v out.length (byts out)) ∧ Hid (Below w.heap.size w wr) ∧ Hid (unesc l = (unesc (l.drop k)).map (out ++ ·))) (fun _ i _ => n - (intOf i).toNat)
  case atStart => exact ⟨0, [], Nat.zero_le _, rfl, Nat.zero_le _, Row.nil _ _ _ _, Below.refl _ _, Lib.hid (by simp)⟩
  case round =>
    obtain ⟨k, out, hk, rfl, hol, HR, HB, HH⟩ := hrel
    by_cases hlt : k < n
    · have hdrop : l.drop k = l.getD k 0 :: l.drop (k + 1) := drop_two (by rw [HN.out]; exact hlt)
      obtain ⟨c, hcd⟩ : ∃ c : UInt8, l.getD k 0 = c := ⟨_, rfl⟩
      have hby : (str l)[k]'(by rw [hsz]; exact hlt) = c := by rw [← hcd, ← getD_byte, str_data]
      rw [hcd] at hdrop
      have hh := HH.out
      rw [hdrop] at hh
      have hdk : l.length = n := HN.out
      clear HH hdrop hcd
      have HERR : Hid (unesc l = none → u = none) := by
        intro h
        rw [← HU.out]
        simp [unesB, h]
      by_cases hc : c = 37
      · subst hc
        by_cases hs : n ≤ k + 2
        · have hf : Hid (u = none) := by
            apply HERR.out
            rw [hh]
            have : (l.drop (k + 1)).length < 2 := by rw [List.length_drop]; omega
            rw [unesc_short this]
            rfl
          clear hh hdk
          go_wp2_with fail
          rw [hf.out]
          refine bodyPost_ret (v := .tuple #[.string ⟨#[]⟩, .int .i64 70]) (by simp [results, Tryd.results25, go_sem]) rfl ⟨HB.out, rfl⟩
        · obtain ⟨a, b, t, htd⟩ : ∃ a b t, l.drop (k + 1) = a :: b :: t := by
            have : 2 ≤ (l.drop (k + 1)).length := by rw [List.length_drop]; omega
            match hq : l.drop (k + 1), this with
            | a :: b :: t, _ => exact ⟨a, b, t, rfl⟩
          have ht3 : l.drop (k + 2 + 1) = t := by
            have : l.drop (k + 2 + 1) = (l.drop (k + 1)).drop 2 := by rw [List.drop_drop]
            rw [this, htd]; rfl
          have hga : l.getD (k + 1) 0 = a := by
            have : (l.drop (k + 1))[0]? = l[k + 1]? := by simp
            rw [htd] at this
            rw [List.getD, ← this]; rfl
          have hgb : l.getD (k + 2) 0 = b := by
            have : (l.drop (k + 1))[1]? = l[k + 2]? := by simp
            rw [htd] at this
            rw [List.getD, ← this]; rfl
          have hby2 : (str l)[k + 1]'(by rw [hsz]; omega) = a := by rw [← hga, ← getD_byte, str_data]
          have hby3 : (str l)[k + 2]'(by rw [hsz]; omega) = b := by rw [← hgb, ← getD_byte, str_data]
          rw [htd, unesc_two, hexN_I] at hh
          have HA := Lib.hid (hexR_l a)
          have HC := Lib.hid (hexR_l b)
          have ra := hexI_range a
          have rb := hexI_range b
          have hgb' : l[k + 2]?.getD 0 = b := by rw [← List.getD_eq_getElem?_getD, hgb]
          have hga' : l[k + 1]?.getD 0 = a := by rw [← List.getD_eq_getElem?_getD, hga]
          clear hga hgb htd
          generalize hexI a = x at *
          generalize hexI b = y at *
          obtain ⟨ra1, ra2⟩ := ra
          obtain ⟨rb1, rb2⟩ := rb
          by_cases hx : x < 0
          · have hf : Hid (u = none) := HERR.out (by rw [hh, if_pos hx]; rfl)
            clear hh
            go_wp2_with (go_at_call 45; refine (HA.out _).mono ?_; rintro e w2 ⟨rfl, rfl⟩)
            rw [hf.out]
            refine bodyPost_ret (v := .tuple #[.string ⟨#[]⟩, .int .i64 70]) (by simp [results, Tryd.results25, go_sem]) rfl ⟨HB.out, rfl⟩
          · by_cases hy : y < 0
            · have hf : Hid (u = none) := HERR.out (by rw [hh, if_neg hx, if_pos hy]; rfl)
              clear hh
              go_wp2_with (go_at_call 45; first | ((with_reducible refine (HA.out _).mono ?_); rintro e w2 ⟨rfl, rfl⟩) | ((with_reducible refine (HC.out _).mono ?_); rintro e w2 ⟨rfl, rfl⟩))
              rw [hf.out]
              refine bodyPost_ret (v := .tuple #[.string ⟨#[]⟩, .int .i64 70]) (by simp [results, Tryd.results25, go_sem]) rfl ⟨HB.out, rfl⟩
            · rw [if_neg hx, if_neg hy] at hh
              have hm : (16 * x + y).toNat < 256 := by omega
              have hmv : 16 * x + y = ((UInt8.ofNat (16 * x + y).toNat).toNat : Int) := by
                rw [UInt8.toNat_ofNat']
                omega
              have hh2 : Hid (unesc l = (unesc (l.drop (k + 2 + 1))).map ((out ++ [UInt8.ofNat (16 * x + y).toNat]) ++ ·)) := by
                unfold Hid
                rw [ht3, hh]
                show Option.map _ (Option.map _ _) = _
                rw [Option.map_map]
                congr 1
                funext x
                simp
              have HMV := Lib.hid hmv
              have hwr1 : IntKind.i64.wrap (16 * x) = 16 * x := IntWalk.i64_in _ (by omega)
              have hwr2 : IntKind.i64.wrap (16 * x + y) = 16 * x + y := IntWalk.i64_in _ (by omega)
              have hwr3 : IntKind.u8.wrap (16 * x + y) = 16 * x + y := by show (16 * x + y) % 256 = _; omega
              have hx0 : 0 ≤ x := by omega
              have hy0' : 0 ≤ y := by omega
              clear hh hmv hx hy
              go_wp2_with (go_at_call 45; first | ((with_reducible refine (HA.out _).mono ?_); rintro e w2 ⟨rfl, rfl⟩) | ((with_reducible refine (HC.out _).mono ?_); rintro e w2 ⟨rfl, rfl⟩))
              have hk1 : k + 1 < n := by omega
              have hk2 : k + 2 < n := by omega
              have s1 : IntKind.i64.wrap ((k : Int) + 1) = (k : Int) + 1 := IntWalk.i64_in _ (by omega)
              have s2 : (0 : Int) ≤ (k : Int) + 1 := by omega
              have s3 : ((k : Int) + 1).toNat = k + 1 := by omega
              have s4 : (k : Int) + 1 < n := by omega
              have t1 : IntKind.i64.wrap ((k : Int) + 2) = (k : Int) + 2 := IntWalk.i64_in _ (by omega)
              have t2 : (0 : Int) ≤ (k : Int) + 2 := by omega
              have t3 : ((k : Int) + 2).toNat = k + 2 := by omega
              have t4 : (k : Int) + 2 < n := by omega
              have hq1 : out.length + 1 ≤ maxLen := by unfold maxLen; omega
              have hq2 : (out.length + 1) * 1 ≤ 140737488355328 := by omega
              have HQ3 : Hid (∀ o : Obj, w.heap.size ≤ (wr.drew.alloc o).heap.size) := fun o => by have := HB.out.size; simp; omega
              go_region_law (first
                | ((with_reducible refine step_call_quiet rfl 45 (.tmp 49) _ rfl (.int .u8 a.toNat) (.int .i64 x) (by simp [Act.eval, Act.put]) (enter_hex _ _) (HA.out _) ?_))
                | ((with_reducible refine step_call_quiet rfl 45 (.tmp 55) _ rfl (.int .u8 b.toNat) (.int .i64 y) (by simp [Act.eval, Act.put]) (enter_hex _ _) (HC.out _) ?_))
                | (refine step_append_row rfl (.tmp 45) (.tmp 59) 51 rfl w.heap.size 5 i0 (.int .u8 0) 1 1 Tryd.underlying51 hi hy0 hy1 hy2 rfl _ _ _ (by first | (simp [Act.eval, Act.put]; done) | (simp [Act.eval, Act.put]; rfl)) (HR.out.drew.alloc _) ⟨wr.heap.size, 0, none⟩ 1 1 [.int .u8 (16 * x + y)] (by simp [Act.eval, Act.put]) rfl (cell_one_new _ _ _) (one_cell_u8 _) (by decide) hq1 hq2 (HQ3.out _) ?_; intro v6 w6 hown hb6; have HR6 := Lib.hid hown; have HB6 := Lib.hid ((HB.out.drew.alloc HB.out.size _).trans hb6); clear hown hb6))
              all_goals
                have HR7 : Hid (Row w6 w.heap.size 5 1 v6 (out ++ [UInt8.ofNat (16 * x + y).toNat]).length (byts (out ++ [UInt8.ofNat (16 * x + y).toNat]))) := by
                  unfold Hid
                  rw [byts_append, List.length_append]
                  show Row w6 w.heap.size 5 1 v6 (out.length + 1) (byts out ++ [.int .u8 ((UInt8.ofNat (16 * x + y).toNat).toNat : Int)])
                  rw [← HMV.out]
                  exact HR6.out
                go_wp2_with fail
                go_roundw
                case measure => simp only [intOf]; omega
                case rel => exact ⟨k + 2 + 1, out ++ [UInt8.ofNat (16 * x + y).toNat], by omega, by go_num, by simp; omega, HR7.out, HB6.out, hh2.out⟩
      · have hh2 : Hid (unesc l = (unesc (l.drop (k + 1))).map ((out ++ [c]) ++ ·)) := by
          unfold Hid
          rw [hh, unesc_other hc, Option.map_map]
          congr 1
          funext x
          simp
        have hcn : ¬ (c.toNat : Int) = 37 := by
          intro h
          apply hc
          apply UInt8.toNat_inj.1
          show c.toNat = 37
          omega
        clear hh
        go_wp2_with (at_builtin; refine wpList_append_row _ rfl _ _ 51 rfl w.heap.size 5 i0 (.int .u8 0) 1 1 Tryd.underlying51 hi hy0 hy1 hy2 rfl _ _ _ rfl (HR.out.alloc _) ⟨wr.heap.size, 0, none⟩ 1 1 [.int .u8 c.toNat] rfl rfl ?c1 ?c2 (by decide) ?c3 ?c4 ?c5 ?c6)
        case c1 => exact cell_one_new _ _ _
        case c2 => intro u hu; simp at hu; subst hu; rfl
        case c3 => unfold maxLen; omega
        case c4 => omega
        case c5 => have := HB.out.size; simp; omega
        case c6 =>
          intro v6 w6 hown hb
          have HR6 : Hid (Row w6 w.heap.size 5 1 v6 (out ++ [c]).length (byts (out ++ [c]))) := by
            unfold Hid
            rw [byts_append, List.length_append]
            exact hown
          have hz := HB.out.size
          have HB6 := Lib.hid ((HB.out.alloc hz _).trans hb)
          clear hown hb
          go_wp2_with fail
          go_roundw
          case measure => simp only [intOf]; omega
          case rel => exact ⟨k + 1, out ++ [c], by omega, by go_num, by simp; omega, HR6.out, HB6.out, hh2.out⟩
    · obtain rfl : k = n := by omega
      have hun : unesc l = some out := by
        have : l.length = k := HN.out
        rw [HH.out, List.drop_eq_nil_of_le (by omega)]
        simp [unesc]
      have hub : u = if utfB out then some out else none := by rw [← HU.out]; simp [unesB, hun]
      have HG := Lib.hid (goodR_l _ out wr (Byts.row HR.out) (by omega) (fun a n cap h => Row.cap HR.out h))
      clear hun HH
      cases hb : utfB out with
      | false =>
        have HU2 : Hid (u = none) := by rw [hb] at hub; exact hub
        rw [hb] at HG
        clear hub
        go_wp2_with (go_at_call 23; refine HG.out.mono ?_; rintro e w' ⟨hbg, gn, rfl⟩)
        rw [HU2.out]
        refine bodyPost_ret (v := .tuple #[.string ⟨#[]⟩, .int .i64 70]) (by simp [results, Tryd.results25, go_sem]) rfl ⟨HB.out.trans (hbg.mono HB.out.size), rfl⟩
      | true =>
        have HU2 : Hid (u = some out) := by rw [hb] at hub; exact hub
        rw [hb] at HG
        clear hub
        go_wp2_with (go_at_call 23; refine HG.out.mono ?_; rintro e w' ⟨hbg, gn, rfl⟩; have hconv := conv_byts ((Byts.row HR.out).call hbg); have HBG := Lib.hid hbg; clear hbg)
        rw [HU2.out]
        refine bodyPost_ret (v := .tuple #[.string (str out), .int .i64 0]) (by simp [results, Tryd.results25, go_sem]) rfl ⟨HB.out.trans (HBG.out.mono HB.out.size), rfl⟩
end Go.Proofs.YthicgeiljficbaaDoor
