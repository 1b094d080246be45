/-
  BudgetKeeps: the walk.
-/
import Derived.Test.YtbdlkkbjkbjanaaBudget2
namespace Go.Proofs.Ytbdlkkbjkbjanaa
open Go.RowKit

set_option maxRecDepth 100000 in
set_option maxHeartbeats 400000 in
theorem budgetKeeps_walk (a0 a1 : Int) (w : World) (h1 : 0 ≤ a0) (h2 : a0 ≤ 65535) (h3 : 0 ≤ a1) (h4 : a1 ≤ 65535) :
    Calls Try.prog 5 #[.int .u16 a0, .int .u16 a1] w fun e w' => e = .returned (.bool true) ∧ Below w.heap.size w w' := by
  obtain ⟨g, hg⟩ : ∃ g : Int, g = 1 + a0 := ⟨_, rfl⟩
  obtain ⟨cost, hc⟩ : ∃ cost : Int, cost = 1 + a1 % 33282 := ⟨_, rfl⟩
  have hc1 : 1 ≤ cost := by omega
  have hc2 : cost ≤ 33282 := by omega
  have hg1 : 1 ≤ g := by omega
  have hg2 : g ≤ 65536 := by omega
  have hg0 : (g == 0) = false := by simp; omega
  obtain ⟨q, hq⟩ : ∃ q : Int, q = (cost + g - 1) / g := ⟨_, rfl⟩
  have hq0 : 0 ≤ q := by rw [hq]; exact Int.ediv_nonneg (by omega) (by omega)
  have hq1 : q ≤ 100000 := by rw [hq]; exact Int.le_trans (Int.ediv_le_self _ (by omega)) (by omega)
  have HQ := Lib.hid hq
  have HG := Lib.hid hg
  have HC := Lib.hid hc
  clear hq hg hc
  go_enter Try.func5, Try.ntmps5
  go_wp2_with fail
  refine (works20 _).mono ?_
  rintro e w1 ⟨rfl, q1⟩
  go_wp2_with fail
  rw [← HG.out, ← HC.out]
  refine (unew g _ (by omega) (by omega)).mono ?_
  rintro e w2 ⟨rfl, q2, u2⟩
  obtain ⟨s, hs⟩ : ∃ s, s = w1.heap.size := ⟨_, rfl⟩
  have H2 : Hid (BudIn w w2 (s + 1) s g 0 0 0) := Lib.hid (by rw [hs]; exact ⟨u2, bthen q1 q2, q1.size⟩)
  rw [← hs]
  clear hs u2 q1 q2
  go_wp2_with fail
  go_loopw [8] (fun i wr => ∃ (k : Nat) (l gr : Int), (k : Int) ≤ q ∧ i = .int .i64 k ∧ Hid (l = k * g) ∧ Hid (BudIn w wr (s + 1) s g l gr 0)) (fun i _ => (q - intOf i).toNat)
  case atStart => exact ⟨0, 0, 0, by omega, rfl, Lib.hid (by simp), H2⟩
  case round =>
    obtain ⟨k, l, gr, hk, rfl, hl, hp⟩ := hrel
    clear H2
    have hk3 : (k : Int) ≤ 100000 := by omega
    by_cases hlt : (k : Int) < q
    · have hlc : l < cost := by
        rw [hl.out]
        have h5 : (k : Int) + 1 ≤ (cost + g - 1) / g := by rw [← HQ.out]; omega
        have h6 := (Int.le_ediv_iff_mul_le (by omega)).1 h5
        rw [Int.add_mul, Int.one_mul] at h6
        omega
      have hlt2 : (k : Int) < (cost + g - 1) / g := by rw [← HQ.out]; exact hlt
      have ht : tickN g l = g := by unfold tickN; rw [if_pos (by omega)]
      go_wp2_with fail
      refine (yleft w _ _ _ _ _ _ _ hp).mono ?_
      rintro e w3 ⟨rfl, h3⟩
      go_wp2_with fail
      refine (ytick w _ _ g l (l + g) gr _ 0 _ h3 (by rw [ht]) rfl).mono ?_
      rintro e w4 ⟨rfl, h4⟩
      go_wp2_with fail
      refine ⟨⟨k + 1, l + g, _, by omega, by go_num, Lib.hid (by rw [hl.out]; push_cast; rw [Int.add_mul, Int.one_mul]), h4⟩, by simp [intOf]; omega⟩
    · have hlc : cost ≤ l := by
        rw [hl.out]
        have h5 : (cost + g - 1) / g < (k : Int) + 1 := by rw [← HQ.out]; omega
        have h6 := (Int.ediv_lt_iff_lt_mul (by omega)).1 h5
        rw [Int.add_mul, Int.one_mul] at h6
        omega
      have hlt2 : ¬ (k : Int) < (cost + g - 1) / g := by rw [← HQ.out]; exact hlt
      have hlt3 : (cost + g - 1) / g ≤ (k : Int) := by omega
      go_wp2_with fail
      refine (ypay w _ _ cost g l (l - cost) gr 0 _ true _ hp (mayP_yes hc1 hlc) (by unfold leftP; rw [if_pos (mayP_yes hc1 hlc)]) rfl).mono ?_
      rintro e w3 ⟨rfl, h3⟩
      go_wp2_with fail
      go_returns
      exact ⟨rfl, h3.out.bel⟩

end Go.Proofs.Ytbdlkkbjkbjanaa
