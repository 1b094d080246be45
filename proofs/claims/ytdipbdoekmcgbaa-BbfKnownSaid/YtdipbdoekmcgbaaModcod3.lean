/-
  aerialref05: Is, Kbch, Field by contract.
-/
import Derived.Test.YtdipbdoekmcgbaaModcod2
namespace Go.Proofs.Ytdipbdoekmcgbaa
open Go.RowKit

def rateN (num : Int) : Int :=
  if num < 1 then -1 else if num ≤ 11 then num - 1 else if num ≤ 17 then ([4, 5, 6, 8, 9, 10] : List Int).getD (num - 12).toNat 0
  else if num ≤ 23 then ([5, 6, 7, 8, 9, 10] : List Int).getD (num - 18).toNat 0 else if num ≤ 28 then ([6, 7, 8, 9, 10] : List Int).getD (num - 24).toNat 0 else -1
set_option maxRecDepth 100000 in
set_option maxHeartbeats 400000 in
theorem rate_is (num : Int) (w : World) : Calls Try.prog 48 #[.int .i64 num] w fun e w' => e = .returned (.int .i64 (rateN num)) ∧ Below w.heap.size w w' := by
  rcases (by omega : num < 1 ∨ (1 ≤ num ∧ num ≤ 11) ∨ (12 ≤ num ∧ num ≤ 17) ∨ (18 ≤ num ∧ num ≤ 23) ∨ (24 ≤ num ∧ num ≤ 28) ∨ 28 < num) with h | ⟨h, h'⟩ | ⟨h, h'⟩ | ⟨h, h'⟩ | ⟨h, h'⟩ | h
  · rw [show rateN num = -1 by unfold rateN; rw [if_pos h]]
    go_enter Try.func48, Try.ntmps48
    go_wp2_with fail
    go_returns
    exact ⟨rfl, Below.refl _ _⟩
  · rw [show rateN num = num - 1 by unfold rateN; rw [if_neg (by omega), if_pos (by omega)]]
    go_enter Try.func48, Try.ntmps48
    go_wp2_with fail
    go_returns
    exact ⟨rfl, Below.refl _ _⟩
  · obtain ⟨j, rfl⟩ : ∃ j : Nat, num = 12 + j := ⟨(num - 12).toNat, by omega⟩
    have hj : j < 6 := by omega
    rw [show rateN (12 + j) = ([4, 5, 6, 8, 9, 10] : List Int).getD j 0 by unfold rateN; rw [if_neg (by omega), if_neg (by omega), if_pos (by omega)]; congr 1; omega]
    go_enter Try.func48, Try.ntmps48
    go_wp2_with fail
    go_returns
    refine ⟨?_, (Below.refl _ _).alloc (Nat.le_refl _) _⟩
    rcases (by omega : j = 0 ∨ j = 1 ∨ j = 2 ∨ j = 3 ∨ j = 4 ∨ j = 5) with rfl | rfl | rfl | rfl | rfl | rfl
    all_goals rfl
  · obtain ⟨j, rfl⟩ : ∃ j : Nat, num = 18 + j := ⟨(num - 18).toNat, by omega⟩
    have hj : j < 6 := by omega
    rw [show rateN (18 + j) = ([5, 6, 7, 8, 9, 10] : List Int).getD j 0 by unfold rateN; rw [if_neg (by omega), if_neg (by omega), if_neg (by omega), if_pos (by omega)]; congr 1; omega]
    go_enter Try.func48, Try.ntmps48
    go_wp2_with fail
    go_returns
    refine ⟨?_, (Below.refl _ _).alloc (Nat.le_refl _) _⟩
    rcases (by omega : j = 0 ∨ j = 1 ∨ j = 2 ∨ j = 3 ∨ j = 4 ∨ j = 5) with rfl | rfl | rfl | rfl | rfl | rfl
    all_goals rfl
  · obtain ⟨j, rfl⟩ : ∃ j : Nat, num = 24 + j := ⟨(num - 24).toNat, by omega⟩
    have hj : j < 5 := by omega
    rw [show rateN (24 + j) = ([6, 7, 8, 9, 10] : List Int).getD j 0 by unfold rateN; rw [if_neg (by omega), if_neg (by omega), if_neg (by omega), if_neg (by omega), if_pos (by omega)]; congr 1; omega]
    go_enter Try.func48, Try.ntmps48
    go_wp2_with fail
    go_returns
    refine ⟨?_, (Below.refl _ _).alloc (Nat.le_refl _) _⟩
    rcases (by omega : j = 0 ∨ j = 1 ∨ j = 2 ∨ j = 3 ∨ j = 4) with rfl | rfl | rfl | rfl | rfl
    all_goals rfl
  · have h1 : ¬ num < 1 := by omega
    rw [show rateN num = -1 by unfold rateN; rw [if_neg h1, if_neg (by omega), if_neg (by omega), if_neg (by omega), if_neg (by omega)]]
    go_enter Try.func48, Try.ntmps48
    go_wp2_with fail
    go_returns
    exact ⟨rfl, Below.refl _ _⟩

theorem rate_range (num : Int) : -1 ≤ rateN num ∧ rateN num ≤ 10 := by
  by_cases h : num < 1 ∨ 28 < num
  · have e : rateN num = -1 := by
      unfold rateN
      rcases h with h | h
      · rw [if_pos h]
      · rw [if_neg (by omega), if_neg (by omega), if_neg (by omega), if_neg (by omega), if_neg (by omega)]
    omega
  · obtain ⟨n, rfl⟩ : ∃ n : Nat, num = n := ⟨num.toNat, by omega⟩
    exact (by decide +kernel : ∀ n : Nat, n < 29 → -1 ≤ rateN n ∧ rateN n ≤ 10) n (by omega)
theorem is05 (num : Int) (short : Bool) : (decide (0 ≤ rateN num) && !(short && decide (rateN num = 10))) = decide (0 < bitsN num short) := by
  by_cases h : num < 1 ∨ 28 < num
  · have e : rateN num = -1 := by
      unfold rateN
      rcases h with h | h
      · rw [if_pos h]
      · rw [if_neg (by omega), if_neg (by omega), if_neg (by omega), if_neg (by omega), if_neg (by omega)]
    have e2 : bitsN num short = 0 := by unfold bitsN; rw [if_pos h]
    rw [e, e2]
    cases short <;> rfl
  · obtain ⟨n, rfl⟩ : ∃ n : Nat, num = n := ⟨num.toNat, by omega⟩
    exact (by decide +kernel : ∀ n : Nat, n < 29 → 1 ≤ n → ∀ short : Bool, (decide (0 ≤ rateN n) && !(short && decide (rateN n = 10))) = decide (0 < bitsN n short)) n (by omega) (by omega) short
theorem kbch05 (num : Int) (short : Bool) (h : 0 < bitsN num short) : 0 ≤ rateN num ∧ (short = true → rateN num ≤ 9) ∧ (if short then modShort else modLong).getD (rateN num).toNat 0 = bitsN num short := by
  by_cases hn : num < 1 ∨ 28 < num
  · have e2 : bitsN num short = 0 := by unfold bitsN; rw [if_pos hn]
    omega
  · obtain ⟨n, rfl⟩ : ∃ n : Nat, num = n := ⟨num.toNat, by omega⟩
    exact (by decide +kernel : ∀ n : Nat, n < 29 → 1 ≤ n → ∀ short : Bool, 0 < bitsN n short → 0 ≤ rateN n ∧ (short = true → rateN n ≤ 9) ∧ (if short then modShort else modLong).getD (rateN n).toNat 0 = bitsN n short) n (by omega) (by omega) short h

set_option maxRecDepth 100000 in
set_option maxHeartbeats 400000 in
theorem ref_is (num : Int) (short pilots : Bool) (w : World) : Calls Try.prog 38 #[modeV num short pilots] w fun e w' => e = .returned (.bool (decide (0 < bitsN num short))) ∧ Below w.heap.size w w' := by
  rw [← is05]
  unfold modeV
  have hR := rate_is num
  have hrr := rate_range num
  generalize rateN num = r at *
  cases short
  all_goals
    go_enter Try.func38, Try.ntmps38
    go_wp2_with fail
    refine (hR _).mono ?_
    rintro e w2 ⟨rfl, q2⟩
    have B := (Blk.new w [.int .i64 num, .bool _, .bool pilots] 41).below q2 (by simp)
    have c0 := B.cell 0 rfl
    have c1 := B.cell 1 rfl
    have hq : Below w.heap.size w w2 := bthen ((Below.refl _ _).alloc (Nat.le_refl _) _) q2
    clear q2
    by_cases hr : 0 ≤ r
  · go_wp2_with fail
    go_returns
    exact ⟨by simp [hr], hq⟩
  · go_wp2_with fail
    go_returns
    exact ⟨by rw [decide_eq_false (by omega)]; rfl, hq⟩
  · go_wp2_with fail
    refine (hR _).mono ?_
    rintro e w3 ⟨rfl, q3⟩
    go_wp2_with fail
    go_returns
    exact ⟨by simp [hr]; rfl, bthen hq q3⟩
  · go_wp2_with fail
    go_returns
    exact ⟨by rw [decide_eq_false (by omega)]; rfl, hq⟩

theorem modLong_at : ∀ j < 11, ([16008, 21408, 25728, 32208, 38688, 43040, 48408, 51648, 53840, 57472, 58192] : List Int)[j]? = some (modLong.getD j 0) := by decide
set_option maxRecDepth 100000 in
set_option maxHeartbeats 400000 in
theorem ref_kbch_long (num : Int) (pilots : Bool) (w : World) (h : 0 < bitsN num false) : Calls Try.prog 41 #[modeV num false pilots] w fun e w' => e = .returned (.int .i64 (bitsN num false)) ∧ Below w.heap.size w w' := by
  obtain ⟨h1, h2, h3⟩ := kbch05 num false h
  have hrr := rate_range num
  have hR := rate_is num
  rw [← h3]
  obtain ⟨j, hj⟩ : ∃ j : Nat, rateN num = j := ⟨(rateN num).toNat, by omega⟩
  rw [hj] at hR hrr h2 ⊢
  have hj2 : j < 11 := by omega
  clear h1 h2 h3 hj hrr h
  have hx := modLong_at j hj2
  rw [show (if false = true then modShort else modLong) = modLong from rfl, Int.toNat_natCast]
  generalize modLong.getD j 0 = x at *
  unfold modeV
  go_enter Try.func41, Try.ntmps41
  go_wp2_with fail
  refine (hR _).mono ?_
  rintro e w2 ⟨rfl, q2⟩
  have c : w2.cell? ⟨w.heap.size + 1, j, none⟩ = some (.int .i64 x) := by
    have := ((Blk.new (w.alloc (.cells #[.int .i64 num, .bool false, .bool pilots] 41)) (([16008, 21408, 25728, 32208, 38688, 43040, 48408, 51648, 53840, 57472, 58192] : List Int).map (Value.int .i64)) 3).below q2 (by simp)).cell j (v := .int .i64 x) (by rw [List.getElem?_map, hx]; rfl)
    rw [show (w.alloc (.cells #[.int .i64 num, .bool false, .bool pilots] 41)).heap.size = w.heap.size + 1 by simp] at this
    exact this
  have hq : Below w.heap.size w w2 := bthen (((Below.refl _ _).alloc (Nat.le_refl _) _).alloc (by simp) _) q2
  clear q2 hx
  go_wp2_with fail
  go_returns
  exact ⟨rfl, hq⟩

theorem modShort_at : ∀ j < 10, ([3072, 5232, 6312, 7032, 9552, 10632, 11712, 12432, 13152, 14232] : List Int)[j]? = some (modShort.getD j 0) := by decide
set_option maxRecDepth 100000 in
set_option maxHeartbeats 400000 in
theorem ref_kbch_short (num : Int) (pilots : Bool) (w : World) (h : 0 < bitsN num true) : Calls Try.prog 41 #[modeV num true pilots] w fun e w' => e = .returned (.int .i64 (bitsN num true)) ∧ Below w.heap.size w w' := by
  obtain ⟨h1, h2, h3⟩ := kbch05 num true h
  have hrr := rate_range num
  have hR := rate_is num
  rw [← h3]
  obtain ⟨j, hj⟩ : ∃ j : Nat, rateN num = j := ⟨(rateN num).toNat, by omega⟩
  rw [hj] at hR hrr h2 ⊢
  have hj2 : j < 10 := by have := h2 rfl; omega
  clear h1 h2 h3 hj hrr h
  have hx := modShort_at j hj2
  rw [show (if true = true then modShort else modLong) = modShort from rfl, Int.toNat_natCast]
  generalize modShort.getD j 0 = x at *
  unfold modeV
  go_enter Try.func41, Try.ntmps41
  go_wp2_with fail
  refine (hR _).mono ?_
  rintro e w2 ⟨rfl, q2⟩
  have c : w2.cell? ⟨w.heap.size + 1, j, none⟩ = some (.int .i64 x) := by
    have := ((Blk.new (w.alloc (.cells #[.int .i64 num, .bool true, .bool pilots] 41)) (([3072, 5232, 6312, 7032, 9552, 10632, 11712, 12432, 13152, 14232] : List Int).map (Value.int .i64)) 3).below q2 (by simp)).cell j (v := .int .i64 x) (by rw [List.getElem?_map, hx]; rfl)
    rw [show (w.alloc (.cells #[.int .i64 num, .bool true, .bool pilots] 41)).heap.size = w.heap.size + 1 by simp] at this
    exact this
  have hq : Below w.heap.size w w2 := bthen (((Below.refl _ _).alloc (Nat.le_refl _) _).alloc (by simp) _) q2
  clear q2 hx
  go_wp2_with fail
  go_returns
  exact ⟨rfl, hq⟩

theorem ref_kbch (num : Int) (short pilots : Bool) (w : World) (h : 0 < bitsN num short) : Calls Try.prog 41 #[modeV num short pilots] w fun e w' => e = .returned (.int .i64 (bitsN num short)) ∧ Below w.heap.size w w' := by
  cases short
  · exact ref_kbch_long num pilots w h
  · exact ref_kbch_short num pilots w h

set_option maxRecDepth 100000 in
set_option maxHeartbeats 400000 in
theorem ref_field (num : Int) (short pilots : Bool) (w : World) (h : 0 < bitsN num short) : Calls Try.prog 39 #[modeV num short pilots] w fun e w' => e = .returned (.int .i64 (bitsN num short / 8 - 10)) ∧ Below w.heap.size w w' := by
  have hr0 := bitsN_range num short
  have hK := fun w => ref_kbch num short pilots w h
  generalize bitsN num short = r at *
  unfold modeV at *
  go_enter Try.func39, Try.ntmps39
  go_wp2_with fail
  refine (hK _).mono ?_
  rintro e w2 ⟨rfl, q2⟩
  go_wp2_with fail
  go_returns
  exact ⟨rfl, bthen ((Below.refl _ _).alloc (Nat.le_refl _) _) q2⟩

end Go.Proofs.Ytdipbdoekmcgbaa
