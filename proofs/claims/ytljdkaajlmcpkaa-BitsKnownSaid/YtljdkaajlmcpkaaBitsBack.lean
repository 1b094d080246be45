/-
  BitsBack: the walk.
-/
import Derived.Test.YtljdkaajlmcpkaaBits12
import Derived.Deep.CutBlock
namespace Go.Proofs.Ytljdkaajlmcpkaa
open Go.RowKit

theorem flat_take_le (ps : List (Nat × Nat)) (i : Nat) : (flat (ps.take i)).length ≤ (flat ps).length := by
  have e1 : flat ps = flat (ps.take i) ++ flat (ps.drop i) := by
    rw [flat, flat, flat, ← List.flatMap_append, List.take_append_drop i ps]
  rw [e1, List.length_append]
  omega
/-- At which bit a reader stands, read off the world. -/
def rdAt (w : World) (r : Nat) : Nat := match w.cell? ⟨r, 2, none⟩ with
  | some (.int _ a) => a.toNat
  | _ => 0
theorem RI.at {w0 w : World} {r : Nat} {s : List UInt8} {a : Nat} (h : RI w0 w r s a) : rdAt w r = a := by
  obtain ⟨g, h1, _⟩ := h
  obtain ⟨c, hS⟩ := h1.S
  unfold rdAt
  rw [hS.cell 2 rfl]
  rfl
theorem zeros_take (L : List Bool) (z a : Nat) (h1 : L.length ≤ a) (h2 : a + 1 ≤ L.length + z) : valL (((L ++ List.replicate z false).drop a).take 1) = 0 := by
  rw [List.drop_append, List.drop_of_length_le h1, List.nil_append, List.drop_replicate]
  obtain ⟨m, hm⟩ : ∃ m, z - (a - L.length) = m + 1 := ⟨z - (a - L.length) - 1, by omega⟩
  rw [hm]
  rfl
set_option maxRecDepth 100000 in
set_option maxHeartbeats 800000 in
theorem bitsBack_walk (a1 : Option Addr) (len1 cap1 : Nat) (z1 : List Int) (a2 : Option Addr) (len2 cap2 : Nat) (z2 : List Int) (w : World) (hr1 : IsRow .u64 w a1 len1 cap1 z1) (hr2 : IsRow .u8 w a2 len2 cap2 z2) :
    Calls Try.prog 3 #[.slice a1 len1 cap1, .slice a2 len2 cap2] w fun e w' => e = .returned (.bool true) ∧ Below w.heap.size w w' := by
  have HR1 := Lib.hid hr1
  have HR2 := Lib.hid hr2
  have I0 : Hid (BB w (w.alloc (.cells #[.slice none 0 0, .int .i64 0] TWr)) w.heap.size (.slice none 0 0) (.slice none 0 0) (.slice none 0 0) [] [] []) := Lib.hid
    ⟨⟨Blk.new w [.slice none 0 0, .int .i64 0] TWr, Row.nil _ _ _, by simp [Value.ownBlock]⟩, Row.nil _ _ _, Row.nil _ _ _, (Below.refl _ _).alloc (Nat.le_refl _) _, Nat.le_refl _, by simp [Value.ownBlock], by simp [Value.ownBlock], by simp [Value.ownBlock], by simp [Apart, Value.ownBlock], by simp [Apart, Value.ownBlock], by simp [Apart, Value.ownBlock], by simp [Value.ownBlock], by simp [Value.ownBlock]⟩
  clear hr1 hr2
  go_enter Try.func3, Try.ntmps3
  go_upto_block 0 with fail
  go_cut [6, 7, 8] (fun vl vk al wc => ∃ ps : List (Nat × Nat), al = .int .i64 ((flat ps).length : Int) ∧ ps.length ≤ 60 ∧ (flat ps).length ≤ 3840 ∧ Hid (∀ p ∈ ps, 1 ≤ p.2 ∧ p.2 ≤ 64 ∧ p.1 < 2 ^ p.2) ∧ Hid (∃ v, BB w wc w.heap.size v vl vk (flat ps) (numsV ps) (widsV ps)))
  case first =>
    go_wp2_with fail
    go_loopw [6, 7, 8, 9] (fun vl vk al i wr => ∃ ps : List (Nat × Nat), i = .int .i64 (ps.length : Int) ∧ al = .int .i64 ((flat ps).length : Int) ∧ ps.length ≤ 60 ∧ (flat ps).length ≤ 64 * ps.length ∧ Hid (∀ p ∈ ps, 1 ≤ p.2 ∧ p.2 ≤ 64 ∧ p.1 < 2 ^ p.2) ∧ Hid (∃ v, BB w wr w.heap.size v vl vk (flat ps) (numsV ps) (widsV ps))) (fun _ _ _ i _ => 60 - (intOf i).toNat)
    case atStart => exact ⟨[], rfl, rfl, by decide, by decide, Lib.hid (fun p hp => by cases hp), Lib.hid ⟨_, I0.out⟩⟩
    case round =>
      obtain ⟨ps, rfl, rfl, hp60, hpl, HP, HB⟩ := hrel
      clear I0
      obtain ⟨i, hi⟩ : ∃ i, ps.length = i := ⟨_, rfl⟩
      rw [hi] at hp60 hpl ⊢
      by_cases h1 : i < len1
      · have h1' : (i : Int) < len1 := by omega
        by_cases h2 : i < len2
        · have h2' : (i : Int) < len2 := by omega
          by_cases h3 : i < 60
          · have h3' : (i : Int) < 60 := by omega
            obtain ⟨b1, o1, rfl, hb1, hc1⟩ := HR1.out.at h1
            obtain ⟨b2, o2, rfl, hb2, hc2⟩ := HR2.out.at h2
            obtain ⟨v, hB⟩ := HB.out
            have hx := (hB.bel.cell (p := ⟨b1, o1 + i, none⟩) hb1).trans (hc1 i h1)
            have hd := (hB.bel.cell (p := ⟨b2, o2 + i, none⟩) hb2).trans (hc2 i h2)
            have hxr : 0 ≤ z1.getD i 0 ∧ z1.getD i 0 ≤ 18446744073709551615 := by
              have hm : z1.getD i 0 ∈ z1 := by
                rw [List.getD_eq_getElem?_getD, List.getElem?_eq_getElem (by have := HR1.out.len_le.1; omega)]
                exact List.getElem_mem _
              exact bounds_u64 (HR1.out.wf _ hm)
            have hdr : 0 ≤ z2.getD i 0 ∧ z2.getD i 0 ≤ 255 := by
              have hm : z2.getD i 0 ∈ z2 := by
                rw [List.getD_eq_getElem?_getD, List.getElem?_eq_getElem (by have := HR2.out.len_le.1; omega)]
                exact List.getElem_mem _
              exact bounds_u8 (HR2.out.wf _ hm)
            obtain ⟨x, hx0⟩ : ∃ x : Nat, z1.getD i 0 = x := ⟨(z1.getD i 0).toNat, by omega⟩
            obtain ⟨d, hd0⟩ : ∃ d : Nat, z2.getD i 0 = d := ⟨(z2.getD i 0).toNat, by omega⟩
            rw [hx0] at hx hxr
            rw [hd0] at hd hdr
            obtain ⟨b, hb⟩ : ∃ b : Nat, 1 + d % 64 = b := ⟨_, rfl⟩
            have hb0 : 1 + (d : Int) % 64 = b := by omega
            have HB2 := Lib.hid hB
            clear hB hc1 hc2 hx0 hd0 HB
            by_cases hb64 : b < 64
            · have hb64' : (b : Int) < 64 := by omega
              have hpp := Nat.two_pow_pos b
              have hp64 : 2 ^ b ≤ 2 ^ 63 := Nat.pow_le_pow_right (by omega) (by omega)
              have hpc : (2 : Int) ^ b = ((2 ^ b : Nat) : Int) := by simp
              obtain ⟨pw, hpw⟩ : ∃ pw : Nat, 2 ^ b = pw := ⟨_, rfl⟩
              rw [hpw] at hpp hp64 hpc
              have hpw2 : IntKind.u64.wrap ((2 : Int) ^ b) = pw := by rw [IntKind.wrap_u64, hpc]; omega
              have hpw3 : (pw : Int) ≠ 0 := by omega
              obtain ⟨y, hy⟩ : ∃ y, x % pw = y := ⟨_, rfl⟩
              have hy2 : (x : Int) % pw = y := by omega
              have hyb : y < 2 ^ b := by rw [hpw, ← hy]; exact Nat.mod_lt _ hpp
              clear hpc hpw
              go_wp2_with fail
              refine (put_ok w.heap.size v (flat ps) y b (by omega) (by omega) hyb _ HB2.out.W (by omega)).mono ?_
              rintro e w4 ⟨rfl, k4⟩
              obtain ⟨v4, h4⟩ := HB2.out.put k4
              obtain ⟨g5, c5, w5, hr5, h5⟩ := h4.pushl (by rw [numsV_length]; omega) (y : Int)
              obtain ⟨g6, c6, w6, hr6, h6⟩ := h5.pushk (by rw [widsV_length]; omega) (b : Int)
              rw [numsV_snoc ps y b, widsV_snoc ps y b, ← flat_snoc] at h6
              rw [numsV_length, hi] at hr5 h6
              rw [widsV_length, hi] at hr6 h6
              have HF := Lib.hid h6
              have hfl : (flat (ps ++ [(y, b)])).length = (flat ps).length + b := by rw [flat_snoc, List.length_append, bitsL_length]
              clear h4 h5 h6 k4 HB2
              go_wp2_with (first
                | (at_builtin; refine wpList_append_known rfl (.tmp 56) (.tmp 58) 22 rfl _ _ _ _ rfl rfl hr5 ?_)
                | (at_builtin; refine wpList_append_known rfl (.tmp 60) (.tmp 62) 28 rfl _ _ _ _ rfl rfl hr6 ?_))
              exact ⟨⟨ps ++ [(y, b)], by rw [List.length_append, hi]; rfl, by rw [hfl]; rfl, by rw [List.length_append, hi]; exact h3, by rw [hfl, List.length_append, hi, List.length_singleton]; omega, Lib.hid (fun p hp => by
                rcases List.mem_append.1 hp with hp | hp
                · exact HP.out p hp
                · obtain rfl : p = (y, b) := by simpa using hp
                  exact ⟨by show 1 ≤ b; omega, by show b ≤ 64; omega, hyb⟩), Lib.hid ⟨v4, HF.out⟩⟩, by simp [intOf]; omega⟩
            · have hb64' : ¬ (b : Int) < 64 := by omega
              obtain ⟨y, hy⟩ : ∃ y, x = y := ⟨_, rfl⟩
              have hyb : y < 2 ^ b := by
                have e : b = 64 := by omega
                rw [e, ← hy]
                omega
              subst hy
              go_wp2_with fail
              refine (put_ok w.heap.size v (flat ps) x b (by omega) (by omega) hyb _ HB2.out.W (by omega)).mono ?_
              rintro e w4 ⟨rfl, k4⟩
              obtain ⟨v4, h4⟩ := HB2.out.put k4
              obtain ⟨g5, c5, w5, hr5, h5⟩ := h4.pushl (by rw [numsV_length]; omega) (x : Int)
              obtain ⟨g6, c6, w6, hr6, h6⟩ := h5.pushk (by rw [widsV_length]; omega) (b : Int)
              rw [numsV_snoc ps x b, widsV_snoc ps x b, ← flat_snoc] at h6
              rw [numsV_length, hi] at hr5 h6
              rw [widsV_length, hi] at hr6 h6
              have HF := Lib.hid h6
              have hfl : (flat (ps ++ [(x, b)])).length = (flat ps).length + b := by rw [flat_snoc, List.length_append, bitsL_length]
              clear h4 h5 h6 k4 HB2
              go_wp2_with (first
                | (at_builtin; refine wpList_append_known rfl (.tmp 56) (.tmp 58) 22 rfl _ _ _ _ rfl rfl hr5 ?_)
                | (at_builtin; refine wpList_append_known rfl (.tmp 60) (.tmp 62) 28 rfl _ _ _ _ rfl rfl hr6 ?_))
              exact ⟨⟨ps ++ [(x, b)], by rw [List.length_append, hi]; rfl, by rw [hfl]; rfl, by rw [List.length_append, hi]; exact h3, by rw [hfl, List.length_append, hi, List.length_singleton]; omega, Lib.hid (fun p hp => by
                rcases List.mem_append.1 hp with hp | hp
                · exact HP.out p hp
                · obtain rfl : p = (x, b) := by simpa using hp
                  exact ⟨by show 1 ≤ b; omega, by show b ≤ 64; omega, hyb⟩), Lib.hid ⟨v4, HF.out⟩⟩, by simp [intOf]; omega⟩
          · have h3' : ¬ (i : Int) < 60 := by omega
            go_wp2_with fail
            go_meet
            case rel => exact ⟨ps, rfl, by omega, by omega, HP, HB⟩
        · have h2' : ¬ (i : Int) < len2 := by omega
          go_wp2_with fail
          go_meet
          case rel => exact ⟨ps, rfl, by omega, by omega, HP, HB⟩
      · have h1' : ¬ (i : Int) < len1 := by omega
        go_wp2_with fail
        go_meet
        case rel => exact ⟨ps, rfl, by omega, by omega, HP, HB⟩
  case rest =>
    clear I0 HR1 HR2
    obtain ⟨ps, rfl, hp60, hpl, HP, HB⟩ := hcut
    obtain ⟨v, hB⟩ := HB.out
    obtain ⟨S, hS⟩ := bytes_as (packL (flat ps))
    obtain ⟨n, hn⟩ : ∃ n, (flat ps).length = n := ⟨_, rfl⟩
    obtain ⟨q, hq⟩ : ∃ q, (n + 7) / 8 = q := ⟨_, rfl⟩
    have hSq : S.size = q := by rw [bytes_as_size hS, packL_length, hn, hq]
    have HT := Lib.hid hS
    have hTx := fun w h => wrText_is w.heap.size v (flat ps) S hS w h
    rw [hn] at hpl ⊢
    have hu : ubits S.data.toList = flat ps ++ List.replicate (8 * q - n) false := by rw [hS, ubits_packL, hn, hq]
    have HU := Lib.hid hu
    obtain ⟨al, capl, hvl⟩ := hB.rl.form
    obtain ⟨ak, capk, hvk⟩ := hB.rk.form
    rw [numsV_length] at hvl
    rw [widsV_length] at hvk
    have HBB := Lib.hid hB
    subst hvl hvk
    clear HB hB hu hS hTx
    have hq1 : ((n : Int) + 7) / 8 = q := by omega
    have hq2 : n ≤ 8 * q := by omega
    have hq3 : q ≤ 481 := by omega
    go_wp2_with fail
    refine (wrText_is w.heap.size v (flat ps) S HT.out _ HBB.out.W).mono ?_
    rintro e w2 ⟨rfl, q2⟩
    have Q2 : Hid (Below w.heap.size w w2) := Lib.hid (HBB.out.bel.trans (q2.mono HBB.out.bel.size))
    have RL : Hid (Row 29 w2 0 (.slice al ps.length capl) (numsV ps)) := Lib.hid (HBB.out.rl.wrote (Wrote.ofBelow q2 (fun _ => False)) (fun _ _ e => e))
    have RK : Hid (Row 3 w2 0 (.slice ak ps.length capk) (widsV ps)) := Lib.hid (HBB.out.rk.wrote (Wrote.ofBelow q2 (fun _ => False)) (fun _ _ e => e))
    clear q2 HBB
    go_wp2_with fail
    refine (new_in w2 S (by omega) _ (Below.refl _ _)).mono ?_
    rintro e w3 ⟨r, rfl, R3, -⟩
    go_wp2_with fail
    refine (left_in w2 r _ 0 (8 * q) _ R3 (by rw [len_bytes]; omega) (by rw [len_bytes, hSq]; rfl)).mono ?_
    rintro e w4 ⟨rfl, q4⟩
    have R4 := Lib.hid (R3.out.below q4)
    clear q4 R3
    go_wp2_with fail
    go_loopw [14] (fun iv wr => ∃ i : Nat, i ≤ ps.length ∧ iv = .int .i64 i ∧ Hid (RI w2 wr r S.data.toList (flat (ps.take i)).length)) (fun iv _ => ps.length - (intOf iv).toNat)
    case atStart => exact ⟨0, by omega, rfl, R4⟩
    case round =>
      obtain ⟨i, hi, rfl, HR⟩ := hrel
      clear R4
      by_cases hlt : i < ps.length
      · have hlt' : (i : Int) < ps.length := by omega
        obtain ⟨p1, p2, p3⟩ := HP.out ps[i] (List.getElem_mem hlt)
        have htk := flat_take ps i hlt (List.replicate (8 * q - n) false)
        have hsc := flat_take_succ ps i hlt
        have hle := flat_take_le ps (i + 1)
        rw [hsc, List.length_append, bitsL_length] at hle
        rw [← HU.out] at htk
        have hx : Hid (valL (((ubits S.data.toList).drop (flat (ps.take i)).length).take ps[i].2) = ps[i].1) := Lib.hid (by rw [htk]; exact valL_bitsL _ _ p3)
        have hlen' : (flat (ps.take i)).length + ps[i].2 = (flat (ps.take (i + 1))).length := by rw [hsc, List.length_append, bitsL_length]
        have hRI : RI w2 wr r S.data.toList (flat (ps.take i)).length := HR.out
        have hbw : Below w2.heap.size w2 wr := by obtain ⟨g, _, h, _⟩ := hRI; exact h
        have RL2 := RL.out.wrote (Wrote.ofBelow hbw (fun _ => False)) (fun _ _ e => e)
        have RK2 := RK.out.wrote (Wrote.ofBelow hbw (fun _ => False)) (fun _ _ e => e)
        obtain ⟨g1, c1, hv1, -, -, -, -⟩ := RL2.at (by rw [numsV_length]; omega)
        obtain ⟨g2, c2, hv2, -, -, -, -⟩ := RK2.at (by rw [widsV_length]; omega)
        rw [numsV_length] at hv1
        rw [widsV_length] at hv2
        simp at hv1 hv2
        obtain ⟨rfl, rfl⟩ := hv1
        obtain ⟨rfl, rfl⟩ := hv2
        have ck : wr.cell? ⟨g2, i, none⟩ = some (.int .i64 (ps[i].2 : Int)) := by
          rw [RK2.cell i (by rw [widsV_length]; exact hlt), widsV, List.getElem?_map, List.getElem?_eq_getElem hlt]
          rfl
        have TK := Lib.hid (take_in w2 r S.data.toList _ ps[i].2 _ ps[i].1 wr HR (by rw [len_bytes]; omega) p1 p2 (by rw [len_bytes, hSq]; omega) hlen' hx)
        have RL2 := Lib.hid RL.out
        obtain ⟨X, hX⟩ : ∃ X, ps[i].1 = X := ⟨_, rfl⟩
        obtain ⟨K, hK⟩ : ∃ K, ps[i].2 = K := ⟨_, rfl⟩
        have CL : Hid (∀ wz, Below w2.heap.size w2 wz → wz.cell? ⟨g1, i, none⟩ = some (.int .u64 (X : Int))) := Lib.hid (fun wz hz => by
          have RZ := RL.out.wrote (Wrote.ofBelow hz (fun _ => False)) (fun _ _ e => e)
          rw [RZ.cell i (by rw [numsV_length]; exact hlt), numsV, List.getElem?_map, List.getElem?_eq_getElem hlt, ← hX]
          rfl)
        rw [hK] at ck
        rw [hX, hK] at TK
        clear hRI hbw RK2 hX hK htk hsc hle hlen' hx p1 p2 p3
        go_wp2_with fail
        refine TK.out.mono ?_
        rintro e w5 ⟨rfl, R5⟩
        have hb5 : Below w2.heap.size w2 w5 := by obtain ⟨g, _, h, _⟩ := R5.out; exact h
        have cl := CL.out _ hb5
        clear hb5 ck TK HR RL2
        go_wp2_with fail
        exact ⟨⟨i + 1, by omega, by go_num, R5⟩, by simp [intOf]; omega⟩
      · obtain rfl : i = ps.length := by omega
        have hlt' : ¬ ((ps.length : Int) < ps.length) := by omega
        rw [List.take_length, hn] at HR
        go_wp2_with fail
        go_loopw [] (fun wr => ∃ a : Nat, n ≤ a ∧ a ≤ 8 * q ∧ Hid (RI w2 wr r S.data.toList a)) (fun wr => 8 * q - rdAt wr r)
        case atStart => exact ⟨n, by omega, by omega, HR⟩
        case round =>
          obtain ⟨a, ha1, ha2, HA⟩ := hrel
          clear HR
          have hat := HA.out.at
          have LF := Lib.hid (left_in w2 r S.data.toList a ((8 * q - a : Nat) : Int) wr HA (by rw [len_bytes]; omega) (by rw [len_bytes, hSq]; omega))
          by_cases hlt : a < 8 * q
          · obtain ⟨m, hm⟩ : ∃ m, 8 * q - a = m := ⟨_, rfl⟩
            have hm0 : (0 : Int) < m := by omega
            rw [hm] at LF
            have hx : Hid (valL (((ubits S.data.toList).drop a).take 1) = 0) := Lib.hid (by rw [HU.out]; exact zeros_take _ _ _ (by omega) (by omega))
            go_wp2_with fail
            refine LF.out.mono ?_
            rintro e w5 ⟨rfl, q5⟩
            have R5 := Lib.hid (HA.out.below q5)
            clear q5 HA LF
            go_wp2_with fail
            refine (take_in w2 r S.data.toList a 1 (a + 1) 0 _ R5 (by rw [len_bytes]; omega) (by omega) (by omega) (by rw [len_bytes, hSq]; omega) rfl hx).mono ?_
            rintro e w6 ⟨rfl, R6⟩
            have hat6 := R6.out.at
            clear R5
            go_wp2_with fail
            exact ⟨⟨a + 1, by omega, by omega, R6⟩, by rw [hat, hat6]; omega⟩
          · have hm0 : 8 * q - a = 0 := by omega
            rw [hm0] at LF
            go_wp2_with fail
            refine LF.out.mono ?_
            rintro e w5 ⟨rfl, q5⟩
            have Q5 : Hid (Below w.heap.size w w5) := Lib.hid (by
              obtain ⟨g, _, h, _⟩ := HA.out
              exact Q2.out.trans ((h.trans (q5.mono h.size)).mono Q2.out.size))
            clear q5 HA LF
            go_wp2_with fail
            refine (works01 _).mono ?_
            rintro e w6 ⟨rfl, q6⟩
            go_wp2_with fail
            go_returns
            exact ⟨rfl, bthen Q5.out q6⟩

end Go.Proofs.Ytljdkaajlmcpkaa
