/-
  CountTurned: the walk.
-/
import Derived.Test.YtbdlkkbjkbjanaaCountLaw
import Derived.Test.YtbdlkkbjkbjanaaCountAdds
namespace Go.Proofs.Ytbdlkkbjkbjanaa
open Go.RowKit

theorem SRow.below {w w' : World} {a : Option Addr} {len : Nat} {xs : List Int} (h : SRow w a len xs) (k : Below w.heap.size w w') : SRow w' a len xs :=
  ⟨h.hl, h.hm, h.wf, fun j hj => by
    obtain ⟨b, off, h1, h2⟩ := h.rd j hj
    exact ⟨b, off, h1, fun i hi => (k.cell (p := ⟨b, off + i, Option.none⟩) (World.block_lt_of_cell? w _ (h2 i hi))).trans (h2 i hi)⟩⟩

theorem up_law {a B : Int} (ha : 0 ≤ a) (ha2 : a ≤ 4294967295) (hB : 1 ≤ B) (hB2 : B ≤ 65536) :
    ∃ n, upA a B = (n, 0) ∧ 0 ≤ n ∧ n ≤ 4294967296 ∧ a ≤ n * B ∧ n * B ≤ 4295100000 ∧ (n = 0 ∨ (n - 1) * B < a) ∧ 0 ≤ (n - 1) * B + B := by
  obtain ⟨f1, f2, f3, f4, -, f6⟩ := up_facts ha (by omega) hB
  have f7 : a % B < B := Int.emod_lt_of_pos _ (by omega)
  have hu : upA a B = (if a / B * B < a then a / B + 1 else a / B, 0) := by unfold upA; rw [if_neg (by omega)]
  by_cases hc : a / B * B < a
  · refine ⟨a / B + 1, by rw [hu, if_pos hc], by omega, by omega, ?_, ?_, .inr ?_, ?_⟩
    · rw [Int.add_mul]; omega
    · rw [Int.add_mul]; omega
    · rw [show a / B + 1 - 1 = a / B by omega]; exact hc
    · rw [show a / B + 1 - 1 = a / B by omega]; omega
  · have he : a / B * B = a := by omega
    refine ⟨a / B, by rw [hu, if_neg hc], by omega, by omega, by omega, by omega, ?_, ?_⟩
    · by_cases h0 : a / B = 0
      · exact .inl h0
      · right
        rw [Int.sub_mul]; omega
    · rw [Int.sub_mul]; omega

set_option maxRecDepth 100000 in
set_option maxHeartbeats 400000 in
theorem countTurned_walk (a0 : Option Addr) (len0 cap0 : Nat) (z0 : List Int) (a b : Int) (w : World) (hr0 : IsRow .i64 w a0 len0 cap0 z0) (h1 : 0 ≤ a) (h2 : a ≤ 4294967295) (h3 : 0 ≤ b) (h4 : b ≤ 65535) :
    Calls Try.prog 11 #[.slice a0 len0 cap0, .int .u32 a, .int .u16 b] w fun e w' => e = .returned (.bool true) ∧ Below w.heap.size w w' := by
  have hlen := hr0.len_le.2
  unfold maxLen at hlen
  have hcap : len0 ≤ cap0 := by
    rcases hr0 with ⟨_, rfl, rfl, _⟩ | ⟨_, _, h, _⟩
    · omega
    · exact h
  by_cases hl : len0 ≤ 100
  · have hs := hr0.srow len0 (Nat.le_refl _)
    have HR := Lib.hid hr0
    obtain ⟨xs, hxs⟩ : ∃ xs, xs = z0.take len0 := ⟨_, rfl⟩
    rw [← hxs] at hs
    have hxl := hs.hl
    have HN : Hid (∃ n, upA a (b + 1) = (n, 0) ∧ 0 ≤ n ∧ n ≤ 4294967296 ∧ a ≤ n * (b + 1) ∧ n * (b + 1) ≤ 4295100000 ∧ (n = 0 ∨ (n - 1) * (b + 1) < a) ∧ 0 ≤ (n - 1) * (b + 1) + (b + 1)) := Lib.hid (up_law h1 h2 (by omega) (by omega))
    clear hr0 hxs
    go_enter Try.func11, Try.ntmps11
    go_wp2_with fail
    refine (works04 _).mono ?_
    rintro e w1 ⟨rfl, q1⟩
    have Q1 := Lib.hid q1
    obtain ⟨B, hB⟩ : ∃ B, B = w1.heap.size := ⟨_, rfl⟩
    have hBw : w.heap.size ≤ B := by rw [hB]; exact q1.size
    go_wp2_with fail
    go_loopw [7, 8] (fun v i wr => ∃ k : Nat, k ≤ len0 ∧ i = .int .i64 ((len0 : Int) - 1 - k) ∧ Hid (Below w.heap.size w wr) ∧ B ≤ wr.heap.size ∧ Hid (Ints wr B v (xs.reverse.take k))) (fun _ i _ => (intOf i + 1).toNat)
    case atStart => exact ⟨0, by omega, by go_num, Q1, by omega, Lib.hid (Ints.nil _ _)⟩
    case round =>
      obtain ⟨k, hk, rfl, hb, hBr, hi⟩ := hrel
      clear q1
      by_cases hlt : k < len0
      · obtain ⟨b2, off, hae, hb2, -⟩ := HR.out.at (j := len0 - 1 - k) (by omega)
        subst hae
        obtain ⟨b3, off3, he, hcl⟩ := hs.rd (len0 - 1 - k) (by omega)
        obtain ⟨rfl, rfl⟩ : b2 = b3 ∧ off = off3 := by
          injection he with he
          injection he with e1 e2
          exact ⟨e1, e2⟩
        clear he
        obtain ⟨x, hx⟩ : ∃ x, x = xs.getD (len0 - 1 - k) 0 := ⟨_, rfl⟩
        have hcm := hcl (len0 - 1 - k) (by omega)
        rw [← hx] at hcm
        have hcw := (hb.out.cell (p := ⟨b2, off + (len0 - 1 - k), none⟩) hb2).trans hcm
        have hts : xs.reverse.take (k + 1) = xs.reverse.take k ++ [x] := by
          rw [List.take_succ_eq_append_getElem (by simp; omega), List.getElem_reverse, hx, List.getD_eq_getElem?_getD, List.getElem?_eq_getElem (by omega)]
          simp [hxl]
        have HTS := Lib.hid hts
        have hln : (xs.reverse.take k).length = k := by rw [List.length_take, List.length_reverse]; omega
        have HLN := Lib.hid hln
        have hi2 : (0 : Int) ≤ (len0 : Int) - 1 - k := by omega
        have hn2 : ((len0 : Int) - 1 - k).toNat = len0 - 1 - k := by omega
        have hi3 : (len0 : Int) - 1 - k < (len0 : Int) := by omega
        have hl100 : (len0 : Int) ≤ 100 := by omega
        clear hcl hx hts hcm hln
        go_wp2_with (at_builtin; refine wpList_push rfl (.tmp 33) (.tmp 38) rfl wr B u7 (xs.reverse.take k) x k HLN.out rfl hi.out hBr rfl (by omega) ?_; intro g cap w2 hi1 hg1 hat1 hl1 hb1; have hs1 := hg1.size; have HI1 := Lib.hid hi1; have HG1 := Lib.hid hg1; clear hg1 hi1 hat1)
        exact ⟨⟨k + 1, by omega, by go_num, Lib.hid (hb.out.grown HG1.out hb.out.size (fun j hj => Nat.le_trans hBw (hi.out.lt j hj).1)), by omega, by rw [HTS.out]; exact HI1⟩, by simp [intOf]; omega⟩
      · obtain rfl : k = len0 := by omega
        have hrev : xs.reverse.take k = xs.reverse := List.take_of_length_le (by rw [List.length_reverse]; omega)
        rw [hrev] at hi
        obtain ⟨a9, cap9, rfl, hs9⟩ := hi.out.srow (by rw [List.length_reverse, hxl]; unfold maxLen; omega) (fun x hx => hs.wf x (by simpa using hx))
        have hrl : xs.reverse.length = k := by rw [List.length_reverse, hxl]
        rw [hrl] at hs9
        have hsr := hs.below hb.out
        have h11 : b + 1 ≤ 65536 := by omega
        have h10 : -9223372036854775808 ≤ a := by omega
        have h12 : a ≤ 9223372036854775807 := by omega
        have h13 : -9223372036854775808 ≤ b + 1 := by omega
        have h14 : b + 1 ≤ 9223372036854775807 := by omega
        have SA := Lib.hid (sumA_reverse xs)
        have TA := Lib.hid (timesA_reverse xs)
        obtain ⟨p, hp⟩ : ∃ p, p = sumA xs := ⟨_, rfl⟩
        obtain ⟨t, ht⟩ : ∃ t, t = timesA xs := ⟨_, rfl⟩
        rw [← hp] at SA
        rw [← ht] at TA
        have hx1 : (k : Int) - 1 - (k : Int) < 0 := by omega
        clear hrev hi
        rw [hrl]
        go_wp2_with fail
        refine (csum _ _ _ _ _ hsr).mono ?_
        rw [← hp]
        rintro e _ ⟨rfl, rfl⟩
        go_wp2_with fail
        refine (csum _ _ _ _ _ hs9).mono ?_
        rw [SA.out]
        rintro e _ ⟨rfl, rfl⟩
        go_wp2_with fail
        refine (ctimes _ _ _ _ _ hsr).mono ?_
        rw [← ht]
        rintro e w2 ⟨rfl, hw2⟩
        go_wp2_with fail
        refine (ctimes _ _ _ _ _ (hs9.kept hw2)).mono ?_
        rw [TA.out]
        rintro e w3 ⟨rfl, hw3⟩
        go_wp2_with fail
        refine (cup a (b + 1) _ h10 h12 h13 h14).mono ?_
        obtain ⟨n, hn, n1, n2, n3, n4, n5, n6⟩ := HN.out
        rw [hn]
        rintro e _ ⟨rfl, rfl⟩
        have HB3 := Lib.hid (Wrote.below (Wrote.below hb.out hw2 (fun _ hi => hi.elim)) hw3 (fun _ hi => hi.elim))
        have n7 : 0 ≤ n * (b + 1) := by omega
        clear hn hw2 hw3 hs9 hsr hs SA TA
        by_cases h0 : n = 0
        · subst h0
          go_wp2_with fail
          go_returns
          exact ⟨rfl, HB3.out⟩
        · have h01 : (n == 0) = false := by simpa using h0
          have n8 : (n - 1) * (b + 1) < a := by rcases n5 with h | h; · exact absurd h h0
                                                · exact h
          have n9 : -65536 ≤ (n - 1) * (b + 1) := by omega
          clear n5 h0
          go_wp2_with fail
          go_returns
          exact ⟨rfl, HB3.out⟩
  · have hs := hr0.srow 100 (by omega)
    have hgt : (100 : Int) < len0 := by omega
    have hcap2 : (100 : Int) ≤ cap0 := by omega
    obtain ⟨b2, off, ha9, hb2, -⟩ := hr0.at (j := 0) (by omega)
    subst ha9
    have HR := Lib.hid hr0
    obtain ⟨xs, hxs⟩ : ∃ xs, xs = z0.take 100 := ⟨_, rfl⟩
    rw [← hxs] at hs
    have hxl := hs.hl
    have HN : Hid (∃ n, upA a (b + 1) = (n, 0) ∧ 0 ≤ n ∧ n ≤ 4294967296 ∧ a ≤ n * (b + 1) ∧ n * (b + 1) ≤ 4295100000 ∧ (n = 0 ∨ (n - 1) * (b + 1) < a) ∧ 0 ≤ (n - 1) * (b + 1) + (b + 1)) := Lib.hid (up_law h1 h2 (by omega) (by omega))
    clear hr0 hxs
    go_enter Try.func11, Try.ntmps11
    go_wp2_with fail
    refine (works04 _).mono ?_
    rintro e w1 ⟨rfl, q1⟩
    have Q1 := Lib.hid q1
    obtain ⟨B, hB⟩ : ∃ B, B = w1.heap.size := ⟨_, rfl⟩
    have hBw : w.heap.size ≤ B := by rw [hB]; exact q1.size
    go_wp2_with fail
    go_loopw [7, 8] (fun v i wr => ∃ k : Nat, k ≤ 100 ∧ i = .int .i64 ((100 : Int) - 1 - k) ∧ Hid (Below w.heap.size w wr) ∧ B ≤ wr.heap.size ∧ Hid (Ints wr B v (xs.reverse.take k))) (fun _ i _ => (intOf i + 1).toNat)
    case atStart => exact ⟨0, by omega, by go_num, Q1, by omega, Lib.hid (Ints.nil _ _)⟩
    case round =>
      obtain ⟨k, hk, rfl, hb, hBr, hi⟩ := hrel
      clear q1
      by_cases hlt : k < 100
      · skip
        obtain ⟨b3, off3, he, hcl⟩ := hs.rd (100 - 1 - k) (by omega)
        obtain ⟨rfl, rfl⟩ : b2 = b3 ∧ off = off3 := by
          injection he with he
          injection he with e1 e2
          exact ⟨e1, e2⟩
        clear he
        obtain ⟨x, hx⟩ : ∃ x, x = xs.getD (100 - 1 - k) 0 := ⟨_, rfl⟩
        have hcm := hcl (100 - 1 - k) (by omega)
        rw [← hx] at hcm
        have hcw := (hb.out.cell (p := ⟨b2, off + (100 - 1 - k), none⟩) hb2).trans hcm
        have hts : xs.reverse.take (k + 1) = xs.reverse.take k ++ [x] := by
          rw [List.take_succ_eq_append_getElem (by simp; omega), List.getElem_reverse, hx, List.getD_eq_getElem?_getD, List.getElem?_eq_getElem (by omega)]
          simp [hxl]
        have HTS := Lib.hid hts
        have hln : (xs.reverse.take k).length = k := by rw [List.length_take, List.length_reverse]; omega
        have HLN := Lib.hid hln
        have hi2 : (0 : Int) ≤ (100 : Int) - 1 - k := by omega
        have hn2 : ((100 : Int) - 1 - k).toNat = 100 - 1 - k := by omega
        have hi3 : (100 : Int) - 1 - k < (100 : Int) := by omega
        have hl100 : (100 : Int) ≤ 100 := by omega
        clear hcl hx hts hcm hln
        go_wp2_with (at_builtin; refine wpList_push rfl (.tmp 33) (.tmp 38) rfl wr B u7 (xs.reverse.take k) x k HLN.out rfl hi.out hBr rfl (by omega) ?_; intro g cap w2 hi1 hg1 hat1 hl1 hb1; have hs1 := hg1.size; have HI1 := Lib.hid hi1; have HG1 := Lib.hid hg1; clear hg1 hi1 hat1)
        exact ⟨⟨k + 1, by omega, by go_num, Lib.hid (hb.out.grown HG1.out hb.out.size (fun j hj => Nat.le_trans hBw (hi.out.lt j hj).1)), by omega, by rw [HTS.out]; exact HI1⟩, by simp [intOf]; omega⟩
      · obtain rfl : k = 100 := by omega
        have hrev : xs.reverse.take 100 = xs.reverse := List.take_of_length_le (by rw [List.length_reverse]; omega)
        rw [hrev] at hi
        obtain ⟨a9, cap9, rfl, hs9⟩ := hi.out.srow (by rw [List.length_reverse, hxl]; unfold maxLen; omega) (fun x hx => hs.wf x (by simpa using hx))
        have hrl : xs.reverse.length = 100 := by rw [List.length_reverse, hxl]
        rw [hrl] at hs9
        have hsr := hs.below hb.out
        have h11 : b + 1 ≤ 65536 := by omega
        have h10 : -9223372036854775808 ≤ a := by omega
        have h12 : a ≤ 9223372036854775807 := by omega
        have h13 : -9223372036854775808 ≤ b + 1 := by omega
        have h14 : b + 1 ≤ 9223372036854775807 := by omega
        have SA := Lib.hid (sumA_reverse xs)
        have TA := Lib.hid (timesA_reverse xs)
        obtain ⟨p, hp⟩ : ∃ p, p = sumA xs := ⟨_, rfl⟩
        obtain ⟨t, ht⟩ : ∃ t, t = timesA xs := ⟨_, rfl⟩
        rw [← hp] at SA
        rw [← ht] at TA
        have hx1 : (100 : Int) - 1 - (100 : Int) < 0 := by omega
        clear hrev hi
        rw [hrl]
        go_wp2_with fail
        refine (csum _ _ _ _ _ hsr).mono ?_
        rw [← hp]
        rintro e _ ⟨rfl, rfl⟩
        go_wp2_with fail
        refine (csum _ _ _ _ _ hs9).mono ?_
        rw [SA.out]
        rintro e _ ⟨rfl, rfl⟩
        go_wp2_with fail
        refine (ctimes _ _ _ _ _ hsr).mono ?_
        rw [← ht]
        rintro e w2 ⟨rfl, hw2⟩
        go_wp2_with fail
        refine (ctimes _ _ _ _ _ (hs9.kept hw2)).mono ?_
        rw [TA.out]
        rintro e w3 ⟨rfl, hw3⟩
        go_wp2_with fail
        refine (cup a (b + 1) _ h10 h12 h13 h14).mono ?_
        obtain ⟨n, hn, n1, n2, n3, n4, n5, n6⟩ := HN.out
        rw [hn]
        rintro e _ ⟨rfl, rfl⟩
        have HB3 := Lib.hid (Wrote.below (Wrote.below hb.out hw2 (fun _ hi => hi.elim)) hw3 (fun _ hi => hi.elim))
        have n7 : 0 ≤ n * (b + 1) := by omega
        clear hn hw2 hw3 hs9 hsr hs SA TA
        by_cases h0 : n = 0
        · subst h0
          go_wp2_with fail
          go_returns
          exact ⟨rfl, HB3.out⟩
        · have h01 : (n == 0) = false := by simpa using h0
          have n8 : (n - 1) * (b + 1) < a := by rcases n5 with h | h; · exact absurd h h0
                                                · exact h
          have n9 : -65536 ≤ (n - 1) * (b + 1) := by omega
          clear n5 h0
          go_wp2_with fail
          go_returns
          exact ⟨rfl, HB3.out⟩

end Go.Proofs.Ytbdlkkbjkbjanaa
