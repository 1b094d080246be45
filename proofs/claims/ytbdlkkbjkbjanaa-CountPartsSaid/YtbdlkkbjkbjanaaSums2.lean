/-
  count.Sum, Times, Up; aerialref04's; each by its contract.
-/
import Derived.Test.YtbdlkkbjkbjanaaSums
namespace Go.Proofs.Ytbdlkkbjkbjanaa
open Go.RowKit

abbrev pairV (p : Int × Int) : Value := .tuple #[.int .i64 p.1, .int .i64 p.2]
def sumA (xs : List Int) : Int × Int := foldA stSum 0 xs
def hasZ (xs : List Int) : Bool := xs.any (fun x => x == 0)
def timesA (xs : List Int) : Int × Int := if hasZ xs then foldA stZero 0 xs else foldA stTimes 1 xs
def upA (a b : Int) : Int × Int := if a < 0 ∨ b < 1 then (0, 2) else (if a / b * b < a then a / b + 1 else a / b, 0)
theorem hasZ_of {xs : List Int} {k : Nat} (hk : k < xs.length) (h : xs.getD k 0 = 0) : hasZ xs = true := by
  unfold hasZ
  rw [List.any_eq_true]
  exact ⟨xs.getD k 0, getD_mem hk, by rw [h]; rfl⟩
theorem hasZ_not {xs : List Int} (h : ∀ j, j < xs.length → xs.getD j 0 ≠ 0) : hasZ xs = false := by
  unfold hasZ
  rw [List.any_eq_false]
  intro x hx
  obtain ⟨j, hj, rfl⟩ := List.getElem_of_mem hx
  have := h j hj
  rw [List.getD_eq_getElem?_getD, List.getElem?_eq_getElem hj] at this
  simpa using this
theorem nz_of {xs : List Int} (h : ∀ j, j < xs.length → xs.getD j 0 ≠ 0) : ∀ x ∈ xs, x ≠ 0 := by
  intro x hx
  obtain ⟨j, hj, rfl⟩ := List.getElem_of_mem hx
  have := h j hj
  rw [List.getD_eq_getElem?_getD, List.getElem?_eq_getElem hj] at this
  simpa using this
theorem fold_zero_val (xs : List Int) : foldA stZero 0 xs = if negL xs then (0, 2) else (0, 0) := by
  unfold foldA
  have h : ∀ l : List Int, runF stZero 0 l = some 0 := by
    intro l
    induction l with
    | nil => rfl
    | cons x l ih => exact ih
  rw [h]

set_option maxRecDepth 100000 in
set_option maxHeartbeats 400000 in
theorem csum (a : Option Addr) (len cap : Nat) (xs : List Int) (w : World) (h : SRow w a len xs) :
    Calls Try.prog 28 #[.slice a len cap] w fun e w' => e = .returned (pairV (sumA xs)) ∧ w = w' := by
  go_enter Try.func28, Try.ntmps28
  go_wp2_with fail
  refine (fold_sum a len cap xs _ h).mono ?_
  rintro e _ ⟨rfl, rfl⟩
  go_wp2
  go_returns
  exact ⟨rfl, rfl⟩

set_option maxRecDepth 100000 in
set_option maxHeartbeats 400000 in
theorem ctimes (a : Option Addr) (len cap : Nat) (xs : List Int) (w : World) (h : SRow w a len xs) :
    Calls Try.prog 30 #[.slice a len cap] w fun e w' => e = .returned (pairV (timesA xs)) ∧ Wrote (fun _ => False) w w' := by
  have H := Lib.hid h
  obtain ⟨hl, hlen, -, hrd⟩ := h
  have HRD := Lib.hid hrd
  clear hrd
  unfold maxLen at hlen
  go_enter Try.func30, Try.ntmps30
  go_wp2
  go_loop [8] (fun i => ∃ k : Nat, k ≤ len ∧ i = .int .i64 k ∧ Hid (∀ j, j < k → xs.getD j 0 ≠ 0)) (fun i => len - (intOf i).toNat)
  case atStart => exact ⟨0, by omega, rfl, Lib.hid (fun j hj => by omega)⟩
  case round =>
    obtain ⟨k, hk, rfl, hnz⟩ := hrel
    rename w = w => hww
    clear hww
    by_cases hlt : k < len
    · obtain ⟨b, off, rfl, hcl⟩ := HRD.out k hlt
      obtain ⟨x, hx⟩ : ∃ x, x = xs.getD k 0 := ⟨_, rfl⟩
      have hcm := hcl k hlt
      rw [← hx] at hcm
      have hlt2 : (k : Int) < len := by omega
      by_cases hz : x = 0
      · subst hz
        have HZ : Hid (timesA xs = foldA stZero 0 xs) := Lib.hid (by unfold timesA; rw [if_pos (hasZ_of (k := k) (by omega) hx.symm)])
        clear hcl hx
        go_wp2_with fail
        refine (fold_zero _ len cap xs _ H.out).mono ?_
        rintro e _ ⟨rfl, rfl⟩
        go_wp2
        go_returns
        exact ⟨by rw [HZ.out]; rfl, Wrote.refl _ _⟩
      · have hz2 : (x == 0) = false := by simpa using hz
        have HP : Hid (∀ j, j < k + 1 → xs.getD j 0 ≠ 0) := Lib.hid (fun j hj => by
          rcases Nat.lt_or_ge j k with h | h
          · exact hnz.out j h
          · have : j = k := by omega
            rw [this, ← hx]; exact hz)
        clear hcl hx
        go_wp2
        exact ⟨⟨k + 1, by omega, by go_num, HP⟩, by simp [intOf]; omega⟩
    · obtain rfl : k = len := by omega
      have HZ : Hid (timesA xs = foldA stTimes 1 xs) := Lib.hid (by unfold timesA; rw [if_neg (by rw [hasZ_not (fun j hj => hnz.out j (by omega))]; decide)])
      go_wp2_with fail
      refine (fold_times _ k cap xs _ H.out (nz_of (fun j hj => hnz.out j (by omega)))).mono ?_
      rintro e w2 ⟨rfl, hb⟩
      go_wp2
      go_returns
      exact ⟨by rw [HZ.out]; rfl, hb⟩

set_option maxRecDepth 100000 in
set_option maxHeartbeats 400000 in
theorem rneg (a : Option Addr) (len cap : Nat) (xs : List Int) (w : World) (h : SRow w a len xs) :
    Calls Try.prog 48 #[.slice a len cap] w fun e w' => e = .returned (.bool (negL xs)) ∧ w = w' := by
  obtain ⟨hl, hlen, -, hrd⟩ := h
  have HRD := Lib.hid hrd
  clear hrd
  unfold maxLen at hlen
  go_enter Try.func48, Try.ntmps48
  go_wp2
  go_loop [3] (fun i => ∃ k : Nat, k ≤ len ∧ i = .int .i64 k ∧ Hid (∀ j, j < k → 0 ≤ xs.getD j 0)) (fun i => len - (intOf i).toNat)
  case atStart => exact ⟨0, by omega, rfl, Lib.hid (fun j hj => by omega)⟩
  case round =>
    obtain ⟨k, hk, rfl, hpos⟩ := hrel
    by_cases hlt : k < len
    · obtain ⟨b, off, rfl, hcl⟩ := HRD.out k hlt
      obtain ⟨x, hx⟩ : ∃ x, x = xs.getD k 0 := ⟨_, rfl⟩
      have hcm := hcl k hlt
      rw [← hx] at hcm
      have hlt2 : (k : Int) < len := by omega
      by_cases hneg : x < 0
      · have HN := Lib.hid (negL_of (xs := xs) (k := k) (by omega) (by rw [← hx]; exact hneg))
        clear hcl hx
        go_wp2
        go_returns
        exact ⟨by rw [HN.out]; rfl, rfl⟩
      · have HP : Hid (∀ j, j < k + 1 → 0 ≤ xs.getD j 0) := Lib.hid (fun j hj => by
          rcases Nat.lt_or_ge j k with h | h
          · exact hpos.out j h
          · have : j = k := by omega
            rw [this, ← hx]; omega)
        have hneg2 : 0 ≤ x := by omega
        clear hcl hx
        go_wp2
        exact ⟨⟨k + 1, by omega, by go_num, HP⟩, by simp [intOf]; omega⟩
    · obtain rfl : k = len := by omega
      have HNF := Lib.hid (negL_not (xs := xs) (fun j hj => hpos.out j (by omega)))
      go_wp2
      go_returns
      exact ⟨by rw [HNF.out]; rfl, rfl⟩

set_option maxRecDepth 100000 in
set_option maxHeartbeats 400000 in
theorem rsum (a : Option Addr) (len cap : Nat) (xs : List Int) (w : World) (h : SRow w a len xs) :
    Calls Try.prog 29 #[.slice a len cap] w fun e w' => e = .returned (pairV (sumA xs)) ∧ w = w' := by
  have H := Lib.hid h
  obtain ⟨hl, hlen, hwf, hrd⟩ := h
  have HRD := Lib.hid hrd
  have HWF := Lib.hid hwf
  clear hrd hwf
  unfold maxLen at hlen
  cases hn : negL xs with
  | true =>
    have HS : Hid (sumA xs = (0, 2)) := Lib.hid (foldA_neg hn)
    go_enter Try.func29, Try.ntmps29
    go_wp2_with fail
    refine (rneg a len cap xs _ H.out).mono ?_
    rw [hn]
    rintro e _ ⟨rfl, rfl⟩
    go_wp2
    go_returns
    exact ⟨by rw [HS.out]; rfl, rfl⟩
  | false =>
    have HN := Lib.hid hn
    have hpos : Hid (∀ j, j < len → 0 ≤ xs.getD j 0) := Lib.hid (fun j hj => by
      rcases Int.lt_or_le (xs.getD j 0) 0 with h | h
      · rw [negL_of (by omega) h] at hn; cases hn
      · exact h)
    go_enter Try.func29, Try.ntmps29
    go_wp2_with fail
    refine (rneg a len cap xs _ H.out).mono ?_
    rw [HN.out]
    rintro e _ ⟨rfl, rfl⟩
    clear hn
    go_wp2
    go_loop [4, 5] (fun n i => ∃ (q : Nat) (m : Int), q ≤ len ∧ i = .int .i64 q ∧ n = .int .i64 (9223372036854775807 - m) ∧ 0 ≤ m ∧ m ≤ 9223372036854775807 ∧ Hid (runF stSum m (xs.drop q) = runF stSum 0 xs)) (fun _ i => len - (intOf i).toNat)
    case atStart => exact ⟨0, 0, by omega, rfl, rfl, by omega, by omega, Lib.hid rfl⟩
    case round =>
      obtain ⟨q, m, hq, rfl, rfl, hm1, hm2, hr⟩ := hrel
      rename w = w => hww
      clear hww
      by_cases hlt3 : q < len
      · obtain ⟨b, off, rfl, hcl⟩ := HRD.out q hlt3
        obtain ⟨x, hx⟩ : ∃ x, x = xs.getD q 0 := ⟨_, rfl⟩
        have hcm := hcl q hlt3
        rw [← hx] at hcm
        have hlt4 : (q : Int) < len := by omega
        have hx1 : 0 ≤ x := by rw [hx]; exact hpos.out q hlt3
        have hx2 : x ≤ 9223372036854775807 := by rw [hx]; exact (HWF.out _ (getD_mem (by omega))).2
        have hd := drop_getD (xs := xs) (k := q) (by omega)
        rw [← hx] at hd
        clear hcl hx
        by_cases hs : x ≤ 9223372036854775807 - m
        · have HS : Hid (runF stSum (m + x) (xs.drop (q + 1)) = runF stSum 0 xs) := Lib.hid (by rw [← hr.out, hd, runF_some (by unfold stSum; rw [if_pos hs])])
          clear hd
          go_wp2
          exact ⟨⟨q + 1, m + x, by omega, by go_num, by go_num, by omega, by omega, HS⟩, by simp [intOf]; omega⟩
        · have HS : Hid (runF stSum 0 xs = none) := Lib.hid (by rw [← hr.out, hd, runF_none (by unfold stSum; rw [if_neg hs])])
          have hs2 : 9223372036854775807 - m < x := by omega
          clear hd
          go_wp2
          go_returns
          exact ⟨by rw [sumA, foldA_none HN.out HS.out]; rfl, rfl⟩
      · obtain rfl : q = len := by omega
        have HF : Hid (runF stSum 0 xs = some m) := Lib.hid (by rw [← hr.out, List.drop_of_length_le (by omega)]; rfl)
        have hmm : 9223372036854775807 - (9223372036854775807 - m) = m := by omega
        go_wp2
        go_returns
        refine ⟨?_, rfl⟩
        rw [sumA, foldA_some HN.out HF.out]
        go_num

end Go.Proofs.Ytbdlkkbjkbjanaa
