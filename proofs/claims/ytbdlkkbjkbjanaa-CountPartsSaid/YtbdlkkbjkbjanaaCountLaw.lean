/-
  What sums and products come to: plain laws. No program.
-/
import Derived.Test.YtbdlkkbjkbjanaaSums2
import Derived.Test.YtbdlkkbjkbjanaaInts
namespace Go.Proofs.Ytbdlkkbjkbjanaa
open Go.RowKit

def prodL : List Int → Int
  | [] => 1
  | x :: l => x * prodL l
theorem prodL_append (l m : List Int) : prodL (l ++ m) = prodL l * prodL m := by
  induction l with
  | nil => simp [prodL]
  | cons x l ih => simp [prodL, ih, Int.mul_assoc]
theorem prodL_reverse (l : List Int) : prodL l.reverse = prodL l := by
  induction l with
  | nil => rfl
  | cons x l ih => rw [List.reverse_cons, prodL_append, ih]; simp [prodL, Int.mul_comm]
theorem prodL_pos {l : List Int} (h : ∀ x ∈ l, 1 ≤ x) : 1 ≤ prodL l := by
  induction l with
  | nil => simp [prodL]
  | cons x l ih =>
    have h1 := h x (by simp)
    have h2 := ih (fun y hy => h y (by simp [hy]))
    have : 1 * 1 ≤ x * prodL l := Int.mul_le_mul h1 h2 (by omega) (by omega)
    simpa [prodL] using this
theorem sum_nonneg {l : List Int} (h : ∀ x ∈ l, 0 ≤ x) : 0 ≤ l.sum := by
  induction l with
  | nil => simp
  | cons x l ih =>
    rw [List.sum_cons]
    have h1 := h x (by simp)
    have h2 := ih (fun y hy => h y (by simp [hy]))
    omega
theorem sum_rev (l : List Int) : l.reverse.sum = l.sum := by
  induction l with
  | nil => rfl
  | cons x l ih => rw [List.reverse_cons, List.sum_append, ih]; simp [Int.add_comm]
theorem run_sum : ∀ (l : List Int) (n : Int), (∀ x ∈ l, 0 ≤ x) → n ≤ 9223372036854775807 → runF stSum n l = if n + l.sum ≤ 9223372036854775807 then some (n + l.sum) else none
  | [], n, _, hn => by simp [runF]; exact hn
  | x :: l, n, h, hn => by
    have h1 := h x (by simp)
    have hl : ∀ y ∈ l, 0 ≤ y := fun y hy => h y (by simp [hy])
    have h2 := sum_nonneg hl
    rw [List.sum_cons]
    by_cases hx : x ≤ 9223372036854775807 - n
    · rw [runF_some (m := n + x) (by unfold stSum; rw [if_pos hx]), run_sum l _ hl (by omega), Int.add_assoc]
    · rw [runF_none (by unfold stSum; rw [if_neg hx]), if_neg (by omega)]
theorem run_times : ∀ (l : List Int) (n : Int), (∀ x ∈ l, 1 ≤ x) → 1 ≤ n → n ≤ 9223372036854775807 → runF stTimes n l = if n * prodL l ≤ 9223372036854775807 then some (n * prodL l) else none
  | [], n, _, _, hn => by simp [runF, prodL]; exact hn
  | x :: l, n, h, hn, hn2 => by
    have h1 := h x (by simp)
    have hl : ∀ y ∈ l, 1 ≤ y := fun y hy => h y (by simp [hy])
    have h2 := prodL_pos hl
    have hnx : 1 ≤ n * x := by have : 1 * 1 ≤ n * x := Int.mul_le_mul hn h1 (by omega) (by omega); simpa using this
    have hge : n * x ≤ n * x * prodL l := by have := Int.mul_le_mul_of_nonneg_left h2 (show 0 ≤ n * x by omega); simpa using this
    have hp : n * prodL (x :: l) = n * x * prodL l := by rw [Int.mul_assoc]; rfl
    rw [hp]
    by_cases hx : n ≤ 9223372036854775807 / x
    · have hm := (mul_le_max (by omega) (by omega) hx).2
      rw [runF_some (m := n * x) (by unfold stTimes; rw [if_pos hx]), run_times l _ hl hnx hm]
    · have hm : ¬ n * x ≤ 9223372036854775807 := fun k => hx ((Int.le_ediv_iff_mul_le (by omega)).2 k)
      rw [runF_none (by unfold stTimes; rw [if_neg hx]), if_neg (by omega)]

theorem nonneg_of {l : List Int} (h : negL l = false) : ∀ x ∈ l, 0 ≤ x := by
  intro x hx
  unfold negL at h
  rw [List.any_eq_false] at h
  have := h x hx
  simpa using this
theorem pos_of {l : List Int} (h : negL l = false) (hz : hasZ l = false) : ∀ x ∈ l, 1 ≤ x := by
  intro x hx
  have h1 := nonneg_of h x hx
  unfold hasZ at hz
  rw [List.any_eq_false] at hz
  have := hz x hx
  simp at this
  omega
theorem sumA_eq (l : List Int) : sumA l = if negL l then (0, 2) else if l.sum ≤ 9223372036854775807 then (l.sum, 0) else (0, 14) := by
  unfold sumA foldA
  by_cases h : negL l = true
  · rw [if_pos h, if_pos h]
  · rw [if_neg h, if_neg h]
    have h' : negL l = false := by simpa using h
    rw [run_sum l 0 (nonneg_of h') (by omega), Int.zero_add]
    by_cases hs : l.sum ≤ 9223372036854775807
    · rw [if_pos hs, if_pos hs]
    · rw [if_neg hs, if_neg hs]
theorem timesA_eq (l : List Int) : timesA l = if negL l then (0, 2) else if hasZ l then (0, 0) else if prodL l ≤ 9223372036854775807 then (prodL l, 0) else (0, 14) := by
  unfold timesA
  by_cases h : negL l = true
  · rw [if_pos h, foldA_neg h, foldA_neg h]; simp
  · have h' : negL l = false := by simpa using h
    rw [if_neg h]
    by_cases hz : hasZ l = true
    · rw [if_pos hz, if_pos hz, fold_zero_val, h']; rfl
    · have hz' : hasZ l = false := by simpa using hz
      rw [if_neg hz, if_neg hz]
      unfold foldA
      rw [if_neg h, run_times l 1 (pos_of h' hz') (by omega) (by omega), Int.one_mul]
      by_cases hs : prodL l ≤ 9223372036854775807
      · rw [if_pos hs, if_pos hs]
      · rw [if_neg hs, if_neg hs]
theorem negL_reverse (l : List Int) : negL l.reverse = negL l := by unfold negL; rw [List.any_reverse]
theorem hasZ_reverse (l : List Int) : hasZ l.reverse = hasZ l := by unfold hasZ; rw [List.any_reverse]
theorem sumA_reverse (l : List Int) : sumA l.reverse = sumA l := by rw [sumA_eq, sumA_eq, negL_reverse, sum_rev]
theorem timesA_reverse (l : List Int) : timesA l.reverse = timesA l := by rw [timesA_eq, timesA_eq, negL_reverse, hasZ_reverse, prodL_reverse]

/-- A slice that the call made, read as a row. -/
theorem Ints.srow {w : World} {B : Nat} {v : Value} {xs : List Int} (h : Ints w B v xs) (hm : xs.length ≤ maxLen) (hwf : ∀ x ∈ xs, -9223372036854775808 ≤ x ∧ x ≤ 9223372036854775807) :
    ∃ a cap, v = .slice a xs.length cap ∧ SRow w a xs.length xs := by
  have h0 := h
  rcases h.2 with ⟨hv, hx⟩ | ⟨g, cap, cur, hv, _⟩
  · have hx' : xs = [] := by simpa using hx
    subst hx'
    exact ⟨none, 0, hv, rfl, by decide, fun x hx => (by cases hx), fun j hj => (by simp at hj)⟩
  · subst hv
    exact ⟨some ⟨g, 0, none⟩, cap, rfl, rfl, hm, hwf, fun j hj => ⟨g, 0, rfl, fun i hi => by rw [Nat.zero_add]; exact h0.cell i hi⟩⟩

end Go.Proofs.Ytbdlkkbjkbjanaa
