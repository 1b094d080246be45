/-
  CountRises: the walk.
-/
import Derived.Test.YtbdlkkbjkbjanaaCountAdds
namespace Go.Proofs.Ytbdlkkbjkbjanaa
open Go.RowKit

set_option maxRecDepth 100000 in
set_option maxHeartbeats 400000 in
theorem countRises_walk (a0 : Option Addr) (len0 cap0 : Nat) (z0 : List Int) (w : World) (hr0 : IsRow .u64 w a0 len0 cap0 z0) :
    Calls Try.prog 10 #[.slice a0 len0 cap0] w fun e w' => e = .returned (.bool true) ∧ Below w.heap.size w w' := by
  have hlen := hr0.len_le.2
  unfold maxLen at hlen
  have hz := zeroC
  go_enter Try.func10, Try.ntmps10
  go_wp2_with fail
  refine (works04 _).mono ?_
  rintro e w1 ⟨rfl, q1⟩
  have ha := Lib.hid (CntIn.made w w1 q1)
  obtain ⟨c, hc⟩ : ∃ c, c = w1.heap.size := ⟨_, rfl⟩
  go_wp2_with fail
  rw [← hc] at ha ⊢
  obtain ⟨wz, hwz⟩ : ∃ wz, wz = w1.alloc (.cells #[.int .u64 0] TCnt) := ⟨_, rfl⟩
  rw [← hwz] at ha ⊢
  clear hc hwz hz q1
  go_loopw [4, 5, 6] (fun x o i wr => ∃ (k : Nat) (m ex : Int) (ov : Bool), k ≤ len0 ∧ k ≤ 300 ∧ i = .int .i64 k ∧ x = .int .u64 ex ∧ o = .bool ov ∧ 0 ≤ ex ∧ ex ≤ 9223372036854775807 ∧ (ov = true → m = 9223372036854775807) ∧ (ov = false → m = ex) ∧ Hid (CntIn w wr c m)) (fun _ _ i _ => 300 - (intOf i).toNat)
  case atStart => exact ⟨0, 0, 0, false, by omega, by omega, rfl, rfl, rfl, by omega, by omega, fun h => (by cases h), fun _ => rfl, ha⟩
  case round =>
    obtain ⟨k, m, ex, ov, hk, hk2, rfl, rfl, rfl, he1, he2, ho1, ho2, hp⟩ := hrel
    clear ha
    have hm1 := hp.out.c1
    have hm2 := hp.out.c2
    by_cases hlt : k < len0
    · by_cases hlt2 : k < 300
      · obtain ⟨b2, off, rfl, hb2, hcl⟩ := hr0.at (j := k) (by omega)
        obtain ⟨hx1, hx2⟩ := u64_rng hr0 hlt
        have hcm := hcl k (by omega)
        generalize z0.getD k 0 = x at hx1 hx2 hcm
        have hcw := (hp.out.bel.cell (p := ⟨b2, off + k, none⟩) hb2).trans hcm
        have HM := Lib.hid hcm
        clear hcl hcm
        cases ov with
        | true =>
          obtain rfl := ho1 rfl
          have had : addC 9223372036854775807 x = 9223372036854775807 := by unfold addC; split <;> omega
          clear ho1 ho2
          go_wp2_with fail
          refine (ycn w c _ _ hp).mono ?_
          rintro e _ ⟨rfl, rfl⟩
          go_wp2_with fail
          refine (ycadd w c _ x _ _ hp hx1 hx2 had).mono ?_
          rintro e w2 ⟨rfl, h2⟩
          have hcw2 := (h2.out.bel.cell (p := ⟨b2, off + k, none⟩) hb2).trans HM.out
          clear had
          go_wp2_with fail
          refine (ycn w c _ _ h2).mono ?_
          rintro e _ ⟨rfl, rfl⟩
          go_wp2_with fail
          exact ⟨⟨k + 1, _, ex, true, by omega, by omega, by go_num, rfl, rfl, by omega, by omega, fun _ => rfl, fun h => (by cases h), h2⟩, by simp [intOf]; omega⟩
        | false =>
          obtain rfl := ho2 rfl
          clear ho1 ho2
          by_cases hov : x ≤ 9223372036854775807 - m
          · have had : addC m x = m + x := by unfold addC; rw [if_neg (by omega)]
            have hx3 : x ≤ 9223372036854775807 := by omega
            have hx4 : m + x ≤ 9223372036854775807 := by omega
            have hx5 : 0 ≤ m + x := by omega
            go_wp2_with fail
            refine (ycn w c _ _ hp).mono ?_
            rintro e _ ⟨rfl, rfl⟩
            go_wp2_with fail
            refine (ycadd w c _ x _ _ hp hx1 hx2 had).mono ?_
            rintro e w2 ⟨rfl, h2⟩
            have hcw2 := (h2.out.bel.cell (p := ⟨b2, off + k, none⟩) hb2).trans HM.out
            clear had
            go_wp2_with fail
            refine (ycn w c _ _ h2).mono ?_
            rintro e _ ⟨rfl, rfl⟩
            have hbb : (decide (9223372036854775807 < x) || decide (9223372036854775807 < m + x)) = false := by rw [decide_eq_false (by omega), decide_eq_false (by omega)]; rfl
            go_upto_if 46 with (fail)
            clear hbb
            go_wp2_with fail
            exact ⟨⟨k + 1, _, m + x, false, by omega, by omega, by go_num, rfl, rfl, by omega, by omega, fun h => (by cases h), fun _ => rfl, h2⟩, by simp [intOf]; omega⟩
          · have had : addC m x = 9223372036854775807 := by unfold addC; rw [if_pos (by omega)]
            by_cases hx3 : x ≤ 9223372036854775807
            · have hx4 : 9223372036854775807 < m + x := by omega
              have hx5 : m + x ≤ 18446744073709551615 := by omega
              go_wp2_with fail
              refine (ycn w c _ _ hp).mono ?_
              rintro e _ ⟨rfl, rfl⟩
              go_wp2_with fail
              refine (ycadd w c _ x _ _ hp hx1 hx2 had).mono ?_
              rintro e w2 ⟨rfl, h2⟩
              have hcw2 := (h2.out.bel.cell (p := ⟨b2, off + k, none⟩) hb2).trans HM.out
              clear had
              go_wp2_with fail
              refine (ycn w c _ _ h2).mono ?_
              rintro e _ ⟨rfl, rfl⟩
              go_wp2_with fail
              exact ⟨⟨k + 1, _, m, true, by omega, by omega, by go_num, rfl, rfl, by omega, by omega, fun _ => rfl, fun h => (by cases h), h2⟩, by simp [intOf]; omega⟩
            · have hx4 : 9223372036854775807 < x := by omega
              go_wp2_with fail
              refine (ycn w c _ _ hp).mono ?_
              rintro e _ ⟨rfl, rfl⟩
              go_wp2_with fail
              refine (ycadd w c _ x _ _ hp hx1 hx2 had).mono ?_
              rintro e w2 ⟨rfl, h2⟩
              have hcw2 := (h2.out.bel.cell (p := ⟨b2, off + k, none⟩) hb2).trans HM.out
              clear had
              go_wp2_with fail
              refine (ycn w c _ _ h2).mono ?_
              rintro e _ ⟨rfl, rfl⟩
              go_wp2_with fail
              exact ⟨⟨k + 1, _, m, true, by omega, by omega, by go_num, rfl, rfl, by omega, by omega, fun _ => rfl, fun h => (by cases h), h2⟩, by simp [intOf]; omega⟩
      · go_wp2_with fail
        go_returns
        exact ⟨rfl, hp.out.bel⟩
    · go_wp2_with fail
      go_returns
      exact ⟨rfl, hp.out.bel⟩

end Go.Proofs.Ytbdlkkbjkbjanaa
