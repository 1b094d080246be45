/-
  BucketWaits: the walk.
-/
import Derived.Test.YtcknfjchmokboaaBucket
namespace Go.Proofs.Ytcknfjchmokboaa
open Go.RowKit

set_option maxRecDepth 100000 in
set_option maxHeartbeats 1000000 in
theorem waits_walk (a0 a1 a2 : Int) (w : World) (h0 : 0 ≤ a0 ∧ a0 ≤ 65535) (h1 : 0 ≤ a1 ∧ a1 ≤ 65535) (h2 : 0 ≤ a2 ∧ a2 ≤ 65535) :
    Calls Try.prog 10 #[.int .u16 a0, .int .u16 a1, .int .u16 a2] w fun e w' => e = .returned (.bool true) ∧ Below w.heap.size w w' := by
  obtain ⟨h01, h02⟩ := h0
  obtain ⟨h11, h12⟩ := h1
  obtain ⟨h21, h22⟩ := h2
  go_enter Try.func10, Try.ntmps10
  go_wp2_with fail
  refine (bnew_yes (1 + a0) (1 + a1 % 500) _ (by omega) (by omega) (by omega) (by omega)).mono ?_
  rintro e w1 ⟨rfl, q1, s1⟩
  obtain ⟨B, hB⟩ : ∃ B, B = w.heap.size := ⟨_, rfl⟩
  rw [← hB] at s1
  have Q1 := Lib.hid q1
  have S1 := Lib.hid s1
  have hBl : w.heap.size ≤ B := by omega
  rw [← hB]
  clear hB q1 s1
  have hmy : mayB (1 + a0) (1 + a0) = true := mayB_yes (by omega) (by omega)
  have hpl : payL (1 + a0) (1 + a0) = 0 := by unfold payL; rw [hmy]; simp
  go_wp2_with fail
  refine (bpay _ _ _ _ _ _ S1.out (by omega)).mono ?_
  rintro e w2 ⟨rfl, g, s⟩
  rw [hmy]
  rw [hpl] at s
  have S2 := Lib.hid s
  have Q2 := Lib.hid (own_grown Q1.out g hBl)
  clear s g hmy hpl
  go_wp2_with fail
  refine (bleft _ _ _ _ _ S2.out).mono ?_
  rintro e _ ⟨rfl, rfl⟩
  obtain ⟨m, hm⟩ : ∃ m, m = 1 + a0 := ⟨_, rfl⟩
  obtain ⟨r, hr⟩ : ∃ r, r = 1 + a1 % 500 := ⟨_, rfl⟩
  rw [← hm, ← hr]
  rw [← hm, ← hr] at S2
  have hm1 : 1 ≤ m := by omega
  have hm2 : m ≤ 65536 := by omega
  have hr1 : 1 ≤ r := by omega
  have hr2 : r ≤ 500 := by omega
  clear hm hr S1 Q1
  have hk0 := Int.emod_nonneg a2 (show m ≠ 0 by omega)
  have hk1 := Int.emod_lt_of_pos a2 (show 0 < m by omega)
  go_wp2_with fail
  obtain ⟨k, hk⟩ : ∃ k, k = 1 + a2 % m := ⟨_, rfl⟩
  rw [← hk]
  have hk2 : 1 ≤ k := by omega
  have hk3 : k ≤ m := by omega
  clear hk hk0 hk1 h01 h02 h11 h12
  go_loopw [11] (fun i wr => ∃ (j p : Int), i = .int .i64 j ∧ 1 ≤ j ∧ j - 1 ≤ p ∧ p < k ∧ Hid (p = (j - 1) * r) ∧ Hid (St3 TB wr B m r p) ∧ Hid (Below w.heap.size w wr)) (fun i _ => (70001 - intOf i).toNat)
  case atStart => exact ⟨1, 0, rfl, by omega, by omega, by omega, Lib.hid (by simp), S2, Q2⟩
  case round =>
    obtain ⟨j, p, rfl, hj, hjp, hpk, HP, S, Q⟩ := hrel
    clear S2 Q2
    have hno : mayB k p = false := mayB_no (by omega)
    go_wp2_with fail
    refine (bmay _ _ _ _ _ _ S.out).mono ?_
    rintro e _ ⟨rfl, rfl⟩
    rw [hno]
    go_wp2_with fail
    refine (btick _ _ _ _ _ S.out (by omega) (by omega)).mono ?_
    rintro e w3 ⟨rfl, g, s⟩
    have S3 := Lib.hid s
    have Q3 := Lib.hid (own_grown Q.out g hBl)
    clear s g hno
    obtain ⟨q, hq⟩ : ∃ q, j * r = q := ⟨_, rfl⟩
    have hq2 : q = p + r := by rw [← hq, HP.out, Int.sub_mul]; omega
    have hq3 : q ≤ 70000 := by omega
    have hq4 : 0 ≤ q := by omega
    have Hq2 := Lib.hid hq2
    clear hq2
    by_cases hqk : k ≤ q
    · have hty : mayB k (tickL m r p) = true := mayB_yes hk2 (by unfold tickL; rw [← Hq2.out]; split <;> omega)
      have htl : 0 ≤ tickL m r p ∧ tickL m r p ≤ 10000000 := by unfold tickL; rw [← Hq2.out]; split <;> omega
      have HT := Lib.hid htl
      clear htl
      by_cases hmq : m < q
      all_goals
        go_wp2_with fail
        refine (bmay _ _ _ _ _ _ S3.out).mono ?_
        rintro e _ ⟨rfl, rfl⟩
        rw [hty]
        go_wp2_with fail
        refine (bpay _ _ _ _ _ _ S3.out HT.out).mono ?_
        rintro e w4 ⟨rfl, g, s⟩
        rw [hty]
        have Q4 := Lib.hid (own_grown Q3.out g hBl)
        clear s g
        go_wp2_with fail
        refine (works21 _).mono ?_
        rintro e w5 ⟨rfl, q5⟩
        go_wp2_with fail
        go_returns
        exact ⟨rfl, bthen Q4.out q5⟩
    · have hmq : ¬ m < q := by omega
      have hte : tickL m r p = q := by unfold tickL; rw [← Hq2.out, if_neg hmq]
      rw [hte] at S3
      have Hq := Lib.hid hq
      go_wp2_with fail
      refine ⟨⟨j + 1, q, rfl, by omega, by have := Hq2.out; omega, by omega, ?_, S3, Q3⟩, by simp [intOf]; omega⟩
      exact Lib.hid (by rw [← Hq.out]; congr 1; omega)

end Go.Proofs.Ytcknfjchmokboaa
