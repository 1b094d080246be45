/-
  aerialref04.Times, Up; count.Up; aeriallaw04's sum, times, up.
-/
import Derived.Test.YtbdlkkbjkbjanaaSums2
namespace Go.Proofs.Ytbdlkkbjkbjanaa
open Go.RowKit

set_option maxRecDepth 100000 in
set_option maxHeartbeats 400000 in
theorem rtimes (a : Option Addr) (len cap : Nat) (xs : List Int) (w : World) (h : SRow w a len xs) :
    Calls Try.prog 31 #[.slice a len cap] w fun e w' => e = .returned (pairV (timesA xs)) ∧ w = w' := by
  have H := Lib.hid h
  obtain ⟨hl, hlen, hwf, hrd⟩ := h
  have HRD := Lib.hid hrd
  have HWF := Lib.hid hwf
  clear hrd hwf
  unfold maxLen at hlen
  cases hn : negL xs with
  | true =>
    have HS : Hid (timesA xs = (0, 2)) := Lib.hid (by unfold timesA; rw [foldA_neg hn, foldA_neg hn]; simp)
    go_enter Try.func31, Try.ntmps31
    go_wp2_with fail
    refine (rneg a len cap xs _ H.out).mono ?_
    rw [hn]
    rintro e _ ⟨rfl, rfl⟩
    go_wp2
    go_returns
    exact ⟨by rw [HS.out]; rfl, rfl⟩
  | false =>
    have HN := Lib.hid hn
    have hpos : Hid (∀ j, j < len → 0 ≤ xs.getD j 0) := Lib.hid (fun j hj => by
      rcases Int.lt_or_le (xs.getD j 0) 0 with h | h
      · rw [negL_of (by omega) h] at hn; cases hn
      · exact h)
    go_enter Try.func31, Try.ntmps31
    go_wp2_with fail
    refine (rneg a len cap xs _ H.out).mono ?_
    rw [HN.out]
    rintro e _ ⟨rfl, rfl⟩
    clear hn
    go_wp2
    go_loop [4] (fun i => ∃ k : Nat, k ≤ len ∧ i = .int .i64 k ∧ Hid (∀ j, j < k → xs.getD j 0 ≠ 0)) (fun i => len - (intOf i).toNat)
    case atStart => exact ⟨0, by omega, rfl, Lib.hid (fun j hj => by omega)⟩
    case round =>
      obtain ⟨k, hk, rfl, hnz⟩ := hrel
      rename w = w => hww
      clear hww
      by_cases hlt : k < len
      · obtain ⟨b, off, rfl, hcl⟩ := HRD.out k hlt
        obtain ⟨x, hx⟩ : ∃ x, x = xs.getD k 0 := ⟨_, rfl⟩
        have hcm := hcl k hlt
        rw [← hx] at hcm
        have hlt2 : (k : Int) < len := by omega
        by_cases hz : x = 0
        · subst hz
          have HZ : Hid (timesA xs = (0, 0)) := Lib.hid (by unfold timesA; rw [if_pos (hasZ_of (k := k) (by omega) hx.symm), fold_zero_val, HN.out]; rfl)
          clear hcl hx
          go_wp2
          go_returns
          exact ⟨by rw [HZ.out]; rfl, rfl⟩
        · have hz2 : (x == 0) = false := by simpa using hz
          have HP : Hid (∀ j, j < k + 1 → xs.getD j 0 ≠ 0) := Lib.hid (fun j hj => by
            rcases Nat.lt_or_ge j k with h | h
            · exact hnz.out j h
            · have : j = k := by omega
              rw [this, ← hx]; exact hz)
          clear hcl hx
          go_wp2
          exact ⟨⟨k + 1, by omega, by go_num, HP⟩, by simp [intOf]; omega⟩
      · obtain rfl : k = len := by omega
        have HZ : Hid (timesA xs = foldA stTimes 1 xs) := Lib.hid (by unfold timesA; rw [if_neg (by rw [hasZ_not (fun j hj => hnz.out j (by omega))]; decide)])
        go_wp2
        go_loop [5, 6] (fun n i => ∃ (q : Nat) (m : Int), q ≤ k ∧ i = .int .i64 q ∧ n = .int .i64 m ∧ 0 ≤ m ∧ m ≤ 9223372036854775807 ∧ Hid (runF stTimes m (xs.drop q) = runF stTimes 1 xs)) (fun _ i => k - (intOf i).toNat)
        case atStart => exact ⟨0, 1, by omega, rfl, rfl, by omega, by omega, Lib.hid rfl⟩
        case round =>
          obtain ⟨q, m, hq, rfl, rfl, hm1, hm2, hr⟩ := hrel
          rename w = w => hww
          clear hww
          by_cases hlt3 : q < k
          · obtain ⟨b, off, rfl, hcl⟩ := HRD.out q hlt3
            obtain ⟨x, hx⟩ : ∃ x, x = xs.getD q 0 := ⟨_, rfl⟩
            have hcm := hcl q hlt3
            rw [← hx] at hcm
            have hlt4 : (q : Int) < k := by omega
            have hx3 : x ≠ 0 := by rw [hx]; exact hnz.out q hlt3
            have hx1 : 1 ≤ x := by have := hpos.out q hlt3; omega
            have hx2 : x ≤ 9223372036854775807 := by rw [hx]; exact (HWF.out _ (getD_mem (by omega))).2
            have hx0 : (x == 0) = false := by simpa using hx3
            have hq1 : 0 ≤ 9223372036854775807 / x := Int.ediv_nonneg (by omega) (by omega)
            have hq2 : 9223372036854775807 / x ≤ 9223372036854775807 := Int.ediv_le_self _ (by omega)
            have hd := drop_getD (xs := xs) (k := q) (by omega)
            rw [← hx] at hd
            clear hcl hx
            by_cases hs : m ≤ 9223372036854775807 / x
            · obtain ⟨m1, m2⟩ := mul_le_max (by omega) hm1 hs
              have HS : Hid (runF stTimes (m * x) (xs.drop (q + 1)) = runF stTimes 1 xs) := Lib.hid (by rw [← hr.out, hd, runF_some (by unfold stTimes; rw [if_pos hs])])
              clear hd
              go_wp2
              exact ⟨⟨q + 1, m * x, by omega, by go_num, rfl, m1, m2, HS⟩, by simp [intOf]; omega⟩
            · have HS : Hid (runF stTimes 1 xs = none) := Lib.hid (by rw [← hr.out, hd, runF_none (by unfold stTimes; rw [if_neg hs])])
              have hs2 : 9223372036854775807 / x < m := by omega
              clear hd hs
              go_wp2
              go_returns
              exact ⟨by rw [HZ.out, foldA_none HN.out HS.out]; rfl, rfl⟩
          · obtain rfl : q = k := by omega
            have HF : Hid (runF stTimes 1 xs = some m) := Lib.hid (by rw [← hr.out, List.drop_of_length_le (by omega)]; rfl)
            go_wp2
            go_returns
            exact ⟨by rw [HZ.out, foldA_some HN.out HF.out]; rfl, rfl⟩

theorem up_facts {a b : Int} (ha : 0 ≤ a) (h2 : a ≤ 9223372036854775807) (hb : 1 ≤ b) : 0 ≤ a / b ∧ a / b ≤ a ∧ 0 ≤ a / b * b ∧ a / b * b ≤ a ∧ (a / b * b < a → a / b + 1 ≤ 9223372036854775807) ∧ a % b = a - a / b * b := by
  have h1 : 0 ≤ a / b := Int.ediv_nonneg ha (by omega)
  have h3 : a / b ≤ a := Int.ediv_le_self _ ha
  have h4 : 0 ≤ a / b * b := Int.mul_nonneg h1 (by omega)
  have h5 : a / b * b + a % b = a := by rw [Int.mul_comm]; exact Int.mul_ediv_add_emod a b
  have h6 : 0 ≤ a % b := Int.emod_nonneg _ (by omega)
  refine ⟨h1, h3, h4, by omega, fun h => ?_, by omega⟩
  rcases Int.lt_or_le (a / b) a with h7 | h7
  · omega
  · have : a / b * 1 ≤ a / b * b := Int.mul_le_mul_of_nonneg_left hb h1
    omega

set_option maxRecDepth 100000 in
set_option maxHeartbeats 400000 in
theorem cup (a b : Int) (w : World) (h1 : -9223372036854775808 ≤ a) (h2 : a ≤ 9223372036854775807) (h3 : -9223372036854775808 ≤ b) (h4 : b ≤ 9223372036854775807) :
    Calls Try.prog 32 #[.int .i64 a, .int .i64 b] w fun e w' => e = .returned (pairV (upA a b)) ∧ w = w' := by
  by_cases ha : a < 0
  · have HU : Hid (upA a b = (0, 2)) := Lib.hid (by unfold upA; rw [if_pos (.inl ha)])
    go_enter Try.func32, Try.ntmps32
    go_wp2
    go_returns
    exact ⟨by rw [HU.out]; rfl, rfl⟩
  · by_cases hb : b < 1
    · have HU : Hid (upA a b = (0, 2)) := Lib.hid (by unfold upA; rw [if_pos (.inr hb)])
      have ha0 : 0 ≤ a := by omega
      go_enter Try.func32, Try.ntmps32
      go_wp2
      go_returns
      exact ⟨by rw [HU.out]; rfl, rfl⟩
    · have ha0 : 0 ≤ a := by omega
      have hb1 : 1 ≤ b := by omega
      have hb0 : (b == 0) = false := by simp; omega
      have HU : Hid (upA a b = (if a / b * b < a then a / b + 1 else a / b, 0)) := Lib.hid (by unfold upA; rw [if_neg (by omega)])
      obtain ⟨f1, f2, f3, f4, f5, -⟩ := up_facts ha0 h2 hb1
      have f6 : a / b ≤ 9223372036854775807 := by omega
      have f7 : a / b * b ≤ 9223372036854775807 := by omega
      by_cases hc : a / b * b < a
      · have f8 := f5 hc
        clear f5
        go_enter Try.func32, Try.ntmps32
        go_wp2
        go_returns
        exact ⟨by rw [HU.out, if_pos hc]; rfl, rfl⟩
      · have hc2 : a ≤ a / b * b := by omega
        clear f5
        go_enter Try.func32, Try.ntmps32
        go_wp2
        go_returns
        exact ⟨by rw [HU.out, if_neg (by omega)]; rfl, rfl⟩

set_option maxRecDepth 100000 in
set_option maxHeartbeats 400000 in
theorem rup (a b : Int) (w : World) (h1 : -9223372036854775808 ≤ a) (h2 : a ≤ 9223372036854775807) (h3 : -9223372036854775808 ≤ b) (h4 : b ≤ 9223372036854775807) :
    Calls Try.prog 33 #[.int .i64 a, .int .i64 b] w fun e w' => e = .returned (pairV (upA a b)) ∧ w = w' := by
  by_cases ha : a < 0
  · have HU : Hid (upA a b = (0, 2)) := Lib.hid (by unfold upA; rw [if_pos (.inl ha)])
    go_enter Try.func33, Try.ntmps33
    go_wp2
    go_returns
    exact ⟨by rw [HU.out]; rfl, rfl⟩
  · by_cases hb : b < 1
    · have HU : Hid (upA a b = (0, 2)) := Lib.hid (by unfold upA; rw [if_pos (.inr hb)])
      have ha0 : 0 ≤ a := by omega
      go_enter Try.func33, Try.ntmps33
      go_wp2
      go_returns
      exact ⟨by rw [HU.out]; rfl, rfl⟩
    · have ha0 : 0 ≤ a := by omega
      have hb1 : 1 ≤ b := by omega
      have hb0 : (b == 0) = false := by simp; omega
      have HU : Hid (upA a b = (if a / b * b < a then a / b + 1 else a / b, 0)) := Lib.hid (by unfold upA; rw [if_neg (by omega)])
      obtain ⟨f1, f2, f3, f4, f5, f9⟩ := up_facts ha0 h2 hb1
      have f6 : a / b ≤ 9223372036854775807 := by omega
      by_cases hc : a / b * b < a
      · have f8 := f5 hc
        have hm : 0 < a % b := by omega
        clear f5 f9
        go_enter Try.func33, Try.ntmps33
        go_wp2
        go_returns
        exact ⟨by rw [HU.out, if_pos hc]; rfl, rfl⟩
      · have hm : a % b ≤ 0 := by omega
        clear f5 f9
        go_enter Try.func33, Try.ntmps33
        go_wp2
        go_returns
        exact ⟨by rw [HU.out, if_neg (by omega)]; rfl, rfl⟩

end Go.Proofs.Ytbdlkkbjkbjanaa
