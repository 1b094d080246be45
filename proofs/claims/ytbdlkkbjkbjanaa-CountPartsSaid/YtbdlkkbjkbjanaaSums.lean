/-
  count.Sum, count.Times: the folds, each by its contract.
-/
import Derived.Test.YtbdlkkbjkbjanaaCount
namespace Go.Proofs.Ytbdlkkbjkbjanaa
open Go.RowKit

/-- A slice of int that can be read: its elements are xs. -/
structure SRow (w : World) (a : Option Addr) (len : Nat) (xs : List Int) : Prop where
  hl : xs.length = len
  hm : len ≤ maxLen
  wf : ∀ x ∈ xs, -9223372036854775808 ≤ x ∧ x ≤ 9223372036854775807
  rd : ∀ j, j < len → ∃ b off, a = some ⟨b, off, none⟩ ∧ ∀ i, i < len → w.cell? ⟨b, off + i, none⟩ = some (.int .i64 (xs.getD i 0))

/-- A fold that may stop. -/
def runF (st : Int → Int → Option Int) : Int → List Int → Option Int
  | n, [] => some n
  | n, x :: l => match st n x with | none => none | some m => runF st m l
def negL (xs : List Int) : Bool := xs.any (fun x => decide (x < 0))
/-- What a fold answers. -/
def foldA (st : Int → Int → Option Int) (n : Int) (xs : List Int) : Int × Int :=
  if negL xs then (0, 2) else match runF st n xs with | some m => (m, 0) | none => (0, 14)
def stSum (n x : Int) : Option Int := if x ≤ 9223372036854775807 - n then some (n + x) else none
def stTimes (n x : Int) : Option Int := if n ≤ 9223372036854775807 / x then some (n * x) else none
def stZero (_ _ : Int) : Option Int := some 0
theorem negL_of {xs : List Int} {k : Nat} (hk : k < xs.length) (h : xs.getD k 0 < 0) : negL xs = true := by
  unfold negL
  rw [List.any_eq_true]
  refine ⟨xs[k], List.getElem_mem _, ?_⟩
  rw [List.getD_eq_getElem?_getD, List.getElem?_eq_getElem hk] at h
  simpa using h
theorem negL_not {xs : List Int} (h : ∀ j, j < xs.length → 0 ≤ xs.getD j 0) : negL xs = false := by
  unfold negL
  rw [List.any_eq_false]
  intro x hx
  obtain ⟨j, hj, rfl⟩ := List.getElem_of_mem hx
  have := h j hj
  rw [List.getD_eq_getElem?_getD, List.getElem?_eq_getElem hj] at this
  simpa using this
theorem drop_getD {xs : List Int} {k : Nat} (hk : k < xs.length) : xs.drop k = xs.getD k 0 :: xs.drop (k + 1) := by
  rw [List.drop_eq_getElem_cons hk, List.getD_eq_getElem?_getD, List.getElem?_eq_getElem hk]
  rfl
theorem getD_mem {xs : List Int} {k : Nat} (hk : k < xs.length) : xs.getD k 0 ∈ xs := by
  rw [List.getD_eq_getElem?_getD, List.getElem?_eq_getElem hk]
  exact List.getElem_mem _
theorem runF_some {st : Int → Int → Option Int} {n m x : Int} {l : List Int} (h : st n x = some m) : runF st n (x :: l) = runF st m l := by
  show (match st n x with | none => none | some m => runF st m l) = _
  rw [h]
theorem runF_none {st : Int → Int → Option Int} {n x : Int} {l : List Int} (h : st n x = none) : runF st n (x :: l) = none := by
  show (match st n x with | none => none | some m => runF st m l) = _
  rw [h]
theorem foldA_neg {st : Int → Int → Option Int} {n : Int} {xs : List Int} (h : negL xs = true) : foldA st n xs = (0, 2) := by unfold foldA; rw [if_pos h]
theorem foldA_some {st : Int → Int → Option Int} {n m : Int} {xs : List Int} (h : negL xs = false) (k : runF st n xs = some m) : foldA st n xs = (m, 0) := by unfold foldA; rw [if_neg (by rw [h]; decide), k]
theorem foldA_none {st : Int → Int → Option Int} {n : Int} {xs : List Int} (h : negL xs = false) (k : runF st n xs = none) : foldA st n xs = (0, 14) := by unfold foldA; rw [if_neg (by rw [h]; decide), k]
theorem mul_le_max {n x : Int} (hx : 0 < x) (hn : 0 ≤ n) (h : n ≤ 9223372036854775807 / x) : 0 ≤ n * x ∧ n * x ≤ 9223372036854775807 :=
  ⟨Int.mul_nonneg hn (by omega), (Int.le_ediv_iff_mul_le hx).1 h⟩

set_option maxRecDepth 100000 in
set_option maxHeartbeats 400000 in
theorem sum_do (n x : Int) (w : World) (h1 : 0 ≤ n) (h2 : n ≤ 9223372036854775807) (h3 : 0 ≤ x) (h4 : x ≤ 9223372036854775807) :
    Calls Try.prog 47 #[.int .i64 n, .int .i64 x] w fun e w' => (∃ y, (x ≤ 9223372036854775807 - n → y = n + x) ∧ e = .returned (.tuple #[.int .i64 y, .bool (decide (x ≤ 9223372036854775807 - n))])) ∧ w = w' := by
  by_cases h : x ≤ 9223372036854775807 - n
  · go_enter Try.func47, Try.ntmps47
    go_wp2
    go_returns
    exact ⟨⟨n + x, fun _ => rfl, by rw [decide_eq_true h]; rfl⟩, rfl⟩
  · have hw : wrap64 (n + x) = n + x - 18446744073709551616 := by unfold wrap64; omega
    go_enter Try.func47, Try.ntmps47
    go_wp2
    go_returns
    exact ⟨⟨_, fun k => absurd k (by omega), by rw [decide_eq_false (by omega)]; rfl⟩, rfl⟩

set_option maxRecDepth 100000 in
set_option maxHeartbeats 400000 in
theorem zero_do (n x : Int) (w : World) : Calls Try.prog 49 #[.int .i64 n, .int .i64 x] w fun e w' => e = .returned (.tuple #[.int .i64 0, .bool true]) ∧ w = w' := by
  go_enter Try.func49, Try.ntmps49
  go_wp2
  go_returns
  exact ⟨rfl, rfl⟩

set_option maxRecDepth 100000 in
set_option maxHeartbeats 400000 in
theorem times_do (n x : Int) (w : World) (h1 : 0 ≤ n) (h3 : 1 ≤ x) (h4 : x ≤ 9223372036854775807) :
    Calls Try.prog 50 #[.int .i64 n, .int .i64 x] w fun e w' => (∃ y, (n ≤ 9223372036854775807 / x → y = n * x) ∧ e = .returned (.tuple #[.int .i64 y, .bool (decide (n ≤ 9223372036854775807 / x))])) ∧ Wrote (fun _ => False) w w' := by
  have hx0 : (x == 0) = false := by simp; omega
  have hq1 : 0 ≤ 9223372036854775807 / x := Int.ediv_nonneg (by omega) (by omega)
  have hq2 : 9223372036854775807 / x ≤ 9223372036854775807 := Int.ediv_le_self _ (by omega)
  by_cases h : n ≤ 9223372036854775807 / x
  · obtain ⟨m1, m2⟩ := mul_le_max (by omega) h1 h
    go_enter Try.func50, Try.ntmps50
    go_wp2
    go_quiet (fail)
    go_wp2
    go_returns
    exact ⟨⟨n * x, fun _ => rfl, by rw [decide_eq_true h]; rfl⟩, ⟨rfl, rfl, rfl, Nat.le_refl _, fun _ _ _ => rfl⟩⟩
  · obtain ⟨y, hy⟩ : ∃ y, y = wrap64 (n * x) := ⟨_, rfl⟩
    go_enter Try.func50, Try.ntmps50
    go_wp2
    go_quiet (fail)
    go_wp2
    go_returns
    exact ⟨⟨_, fun k => absurd k (by omega), by rw [decide_eq_false (by omega)]; rfl⟩, ⟨rfl, rfl, rfl, Nat.le_refl _, fun _ _ _ => rfl⟩⟩

set_option maxRecDepth 100000 in
set_option maxHeartbeats 400000 in
theorem fold_sum (a : Option Addr) (len cap : Nat) (xs : List Int) (w : World) (h : SRow w a len xs) :
    Calls Try.prog 46 #[.int .i64 0, .slice a len cap, .func (.func 47) #[] #[]] w fun e w' => e = .returned (.tuple #[.int .i64 (foldA stSum 0 xs).1, .int .i64 (foldA stSum 0 xs).2]) ∧ w = w' := by
  obtain ⟨hl, hlen, hwf, hrd⟩ := h
  have HWF := Lib.hid hwf
  have HRD := Lib.hid hrd
  clear hwf hrd
  unfold maxLen at hlen
  go_enter Try.func46, Try.ntmps46
  go_wp2
  go_loop [18] (fun i => ∃ k : Nat, k ≤ len ∧ i = .int .i64 k ∧ Hid (∀ j, j < k → 0 ≤ xs.getD j 0)) (fun i => len - (intOf i).toNat)
  case atStart => exact ⟨0, by omega, rfl, Lib.hid (fun j hj => by omega)⟩
  case round =>
    obtain ⟨k, hk, rfl, hpos⟩ := hrel
    by_cases hlt : k < len
    · obtain ⟨b, off, rfl, hcl⟩ := HRD.out k hlt
      obtain ⟨x, hx⟩ : ∃ x, x = xs.getD k 0 := ⟨_, rfl⟩
      have hcm := hcl k hlt
      rw [← hx] at hcm
      have hlt2 : (k : Int) < len := by omega
      by_cases hneg : x < 0
      · have HN := Lib.hid (foldA_neg (st := stSum) (n := 0) (negL_of (xs := xs) (k := k) (by omega) (by rw [← hx]; exact hneg)))
        clear hcl hx
        go_wp2
        go_returns
        exact ⟨by rw [HN.out]; rfl, rfl⟩
      · have HP : Hid (∀ j, j < k + 1 → 0 ≤ xs.getD j 0) := Lib.hid (fun j hj => by
          rcases Nat.lt_or_ge j k with h | h
          · exact hpos.out j h
          · have : j = k := by omega
            rw [this, ← hx]; omega)
        have hneg2 : 0 ≤ x := by omega
        clear hcl hx
        go_wp2
        exact ⟨⟨k + 1, by omega, by go_num, HP⟩, by simp [intOf]; omega⟩
    · obtain rfl : k = len := by omega
      rename w = w => hww
      clear hww
      have HNF := Lib.hid (negL_not (xs := xs) (fun j hj => hpos.out j (by omega)))
      go_wp2
      go_loop [11, 29] (fun n i => ∃ (q : Nat) (m : Int), q ≤ k ∧ i = .int .i64 q ∧ n = .int .i64 m ∧ 0 ≤ m ∧ m ≤ 9223372036854775807 ∧ Hid (runF stSum m (xs.drop q) = runF stSum 0 xs)) (fun _ i => k - (intOf i).toNat)
      case atStart => exact ⟨0, 0, by omega, rfl, rfl, by omega, by omega, Lib.hid rfl⟩
      case round =>
        obtain ⟨q, m, hq, rfl, rfl, hm1, hm2, hr⟩ := hrel
        by_cases hlt3 : q < k
        · obtain ⟨b, off, rfl, hcl⟩ := HRD.out q hlt3
          obtain ⟨x, hx⟩ : ∃ x, x = xs.getD q 0 := ⟨_, rfl⟩
          have hcm := hcl q hlt3
          rw [← hx] at hcm
          have hlt4 : (q : Int) < k := by omega
          have hx1 : 0 ≤ x := by rw [hx]; exact hpos.out q hlt3
          have hx2 : x ≤ 9223372036854775807 := by rw [hx]; exact (HWF.out _ (getD_mem (by omega))).2
          have hd := drop_getD (xs := xs) (k := q) (by omega)
          rw [← hx] at hd
          skip
          clear hcl hx
          go_wp2_with fail
          refine (sum_do m x _ hm1 hm2 hx1 hx2).mono ?_
          rintro e _ ⟨⟨y, hy, rfl⟩, rfl⟩
          by_cases hs : x ≤ 9223372036854775807 - m
          · obtain rfl := hy hs
            have HS : Hid (runF stSum (m + x) (xs.drop (q + 1)) = runF stSum 0 xs) := Lib.hid (by rw [← hr.out, hd, runF_some (by unfold stSum; rw [if_pos hs])])
            clear hd hy
            rw [decide_eq_true hs]
            go_wp2
            exact ⟨⟨q + 1, m + x, by omega, by go_num, rfl, by omega, by omega, HS⟩, by simp [intOf]; omega⟩
          · have HS : Hid (runF stSum 0 xs = none) := Lib.hid (by rw [← hr.out, hd, runF_none (by unfold stSum; rw [if_neg hs])])
            clear hd hy
            rw [decide_eq_false hs]
            go_wp2
            go_returns
            exact ⟨by rw [foldA_none HNF.out HS.out]; rfl, rfl⟩
        · obtain rfl : q = k := by omega
          have HF : Hid (runF stSum 0 xs = some m) := Lib.hid (by rw [← hr.out, List.drop_of_length_le (by omega)]; rfl)
          rename w = w => hww; clear hww
          go_wp2
          go_returns
          exact ⟨by rw [foldA_some HNF.out HF.out]; rfl, rfl⟩

set_option maxRecDepth 100000 in
set_option maxHeartbeats 400000 in
theorem fold_zero (a : Option Addr) (len cap : Nat) (xs : List Int) (w : World) (h : SRow w a len xs) :
    Calls Try.prog 46 #[.int .i64 0, .slice a len cap, .func (.func 49) #[] #[]] w fun e w' => e = .returned (.tuple #[.int .i64 (foldA stZero 0 xs).1, .int .i64 (foldA stZero 0 xs).2]) ∧ w = w' := by
  obtain ⟨hl, hlen, hwf, hrd⟩ := h
  have HWF := Lib.hid hwf
  have HRD := Lib.hid hrd
  clear hwf hrd
  unfold maxLen at hlen
  go_enter Try.func46, Try.ntmps46
  go_wp2
  go_loop [18] (fun i => ∃ k : Nat, k ≤ len ∧ i = .int .i64 k ∧ Hid (∀ j, j < k → 0 ≤ xs.getD j 0)) (fun i => len - (intOf i).toNat)
  case atStart => exact ⟨0, by omega, rfl, Lib.hid (fun j hj => by omega)⟩
  case round =>
    obtain ⟨k, hk, rfl, hpos⟩ := hrel
    by_cases hlt : k < len
    · obtain ⟨b, off, rfl, hcl⟩ := HRD.out k hlt
      obtain ⟨x, hx⟩ : ∃ x, x = xs.getD k 0 := ⟨_, rfl⟩
      have hcm := hcl k hlt
      rw [← hx] at hcm
      have hlt2 : (k : Int) < len := by omega
      by_cases hneg : x < 0
      · have HN := Lib.hid (foldA_neg (st := stZero) (n := 0) (negL_of (xs := xs) (k := k) (by omega) (by rw [← hx]; exact hneg)))
        clear hcl hx
        go_wp2
        go_returns
        exact ⟨by rw [HN.out]; rfl, rfl⟩
      · have HP : Hid (∀ j, j < k + 1 → 0 ≤ xs.getD j 0) := Lib.hid (fun j hj => by
          rcases Nat.lt_or_ge j k with h | h
          · exact hpos.out j h
          · have : j = k := by omega
            rw [this, ← hx]; omega)
        have hneg2 : 0 ≤ x := by omega
        clear hcl hx
        go_wp2
        exact ⟨⟨k + 1, by omega, by go_num, HP⟩, by simp [intOf]; omega⟩
    · obtain rfl : k = len := by omega
      rename w = w => hww
      clear hww
      have HNF := Lib.hid (negL_not (xs := xs) (fun j hj => hpos.out j (by omega)))
      go_wp2
      go_loop [11, 29] (fun n i => ∃ (q : Nat) (m : Int), q ≤ k ∧ i = .int .i64 q ∧ n = .int .i64 m ∧ 0 ≤ m ∧ m ≤ 9223372036854775807 ∧ Hid (runF stZero m (xs.drop q) = runF stZero 0 xs)) (fun _ i => k - (intOf i).toNat)
      case atStart => exact ⟨0, 0, by omega, rfl, rfl, by omega, by omega, Lib.hid rfl⟩
      case round =>
        obtain ⟨q, m, hq, rfl, rfl, hm1, hm2, hr⟩ := hrel
        by_cases hlt3 : q < k
        · obtain ⟨b, off, rfl, hcl⟩ := HRD.out q hlt3
          obtain ⟨x, hx⟩ : ∃ x, x = xs.getD q 0 := ⟨_, rfl⟩
          have hcm := hcl q hlt3
          rw [← hx] at hcm
          have hlt4 : (q : Int) < k := by omega
          have hx1 : 0 ≤ x := by rw [hx]; exact hpos.out q hlt3
          have hx2 : x ≤ 9223372036854775807 := by rw [hx]; exact (HWF.out _ (getD_mem (by omega))).2
          have hd := drop_getD (xs := xs) (k := q) (by omega)
          rw [← hx] at hd
          skip
          clear hcl hx
          have HS : Hid (runF stZero 0 (xs.drop (q + 1)) = runF stZero 0 xs) := Lib.hid (by rw [← hr.out, hd]; rfl)
          clear hd
          go_wp2_with fail
          refine (zero_do m x _).mono ?_
          rintro e _ ⟨rfl, rfl⟩
          go_wp2
          exact ⟨⟨q + 1, 0, by omega, by go_num, rfl, by omega, by omega, HS⟩, by simp [intOf]; omega⟩
        · obtain rfl : q = k := by omega
          have HF : Hid (runF stZero 0 xs = some m) := Lib.hid (by rw [← hr.out, List.drop_of_length_le (by omega)]; rfl)
          rename w = w => hww; clear hww
          go_wp2
          go_returns
          exact ⟨by rw [foldA_some HNF.out HF.out]; rfl, rfl⟩

set_option maxRecDepth 100000 in
set_option maxHeartbeats 400000 in
theorem fold_times (a : Option Addr) (len cap : Nat) (xs : List Int) (w : World) (h : SRow w a len xs) (hnz : ∀ x ∈ xs, x ≠ 0) :
    Calls Try.prog 46 #[.int .i64 1, .slice a len cap, .func (.func 50) #[] #[]] w fun e w' => e = .returned (.tuple #[.int .i64 (foldA stTimes 1 xs).1, .int .i64 (foldA stTimes 1 xs).2]) ∧ Wrote (fun _ => False) w w' := by
  obtain ⟨hl, hlen, hwf, hrd⟩ := h
  have HWF := Lib.hid hwf
  have HRD := Lib.hid hrd
  clear hwf hrd
  unfold maxLen at hlen
  go_enter Try.func46, Try.ntmps46
  go_wp2
  go_loop [18] (fun i => ∃ k : Nat, k ≤ len ∧ i = .int .i64 k ∧ Hid (∀ j, j < k → 0 ≤ xs.getD j 0)) (fun i => len - (intOf i).toNat)
  case atStart => exact ⟨0, by omega, rfl, Lib.hid (fun j hj => by omega)⟩
  case round =>
    obtain ⟨k, hk, rfl, hpos⟩ := hrel
    by_cases hlt : k < len
    · obtain ⟨b, off, rfl, hcl⟩ := HRD.out k hlt
      obtain ⟨x, hx⟩ : ∃ x, x = xs.getD k 0 := ⟨_, rfl⟩
      have hcm := hcl k hlt
      rw [← hx] at hcm
      have hlt2 : (k : Int) < len := by omega
      by_cases hneg : x < 0
      · have HN := Lib.hid (foldA_neg (st := stTimes) (n := 1) (negL_of (xs := xs) (k := k) (by omega) (by rw [← hx]; exact hneg)))
        clear hcl hx
        go_wp2
        go_returns
        exact ⟨by rw [HN.out]; rfl, Wrote.refl _ _⟩
      · have HP : Hid (∀ j, j < k + 1 → 0 ≤ xs.getD j 0) := Lib.hid (fun j hj => by
          rcases Nat.lt_or_ge j k with h | h
          · exact hpos.out j h
          · have : j = k := by omega
            rw [this, ← hx]; omega)
        have hneg2 : 0 ≤ x := by omega
        clear hcl hx
        go_wp2
        exact ⟨⟨k + 1, by omega, by go_num, HP⟩, by simp [intOf]; omega⟩
    · obtain rfl : k = len := by omega
      rename w = w => hww
      clear hww
      have HNF := Lib.hid (negL_not (xs := xs) (fun j hj => hpos.out j (by omega)))
      go_wp2
      go_loopw [11, 29] (fun n i wr => ∃ (q : Nat) (m : Int), q ≤ k ∧ i = .int .i64 q ∧ n = .int .i64 m ∧ 0 ≤ m ∧ m ≤ 9223372036854775807 ∧ Hid (runF stTimes m (xs.drop q) = runF stTimes 1 xs) ∧ Wrote (fun _ => False) w wr) (fun _ i _ => k - (intOf i).toNat)
      case atStart => exact ⟨0, 1, by omega, rfl, rfl, by omega, by omega, Lib.hid rfl, Wrote.refl _ _⟩
      case round =>
        obtain ⟨q, m, hq, rfl, rfl, hm1, hm2, hr, hb⟩ := hrel
        by_cases hlt3 : q < k
        · obtain ⟨b, off, rfl, hcl⟩ := HRD.out q hlt3
          obtain ⟨x, hx⟩ : ∃ x, x = xs.getD q 0 := ⟨_, rfl⟩
          have hcm := hcl q hlt3
          rw [← hx] at hcm
          have hlt4 : (q : Int) < k := by omega
          have hx1 : 0 ≤ x := by rw [hx]; exact hpos.out q hlt3
          have hx2 : x ≤ 9223372036854775807 := by rw [hx]; exact (HWF.out _ (getD_mem (by omega))).2
          have hd := drop_getD (xs := xs) (k := q) (by omega)
          rw [← hx] at hd
          have hcm := hb.cell hcm (fun h => h)
          have hx3 : 1 ≤ x := by have := hnz x (by rw [hx]; exact getD_mem (by omega)); omega
          clear hcl hx
          go_wp2_with fail
          refine (times_do m x _ hm1 hx3 hx2).mono ?_
          rintro e w2 ⟨⟨y, hy, rfl⟩, hb2⟩
          have hb3 := hb.trans hb2
          by_cases hs : m ≤ 9223372036854775807 / x
          · obtain rfl := hy hs
            obtain ⟨m1, m2⟩ := mul_le_max (by omega) hm1 hs
            have HS : Hid (runF stTimes (m * x) (xs.drop (q + 1)) = runF stTimes 1 xs) := Lib.hid (by rw [← hr.out, hd, runF_some (by unfold stTimes; rw [if_pos hs])])
            clear hd hy
            rw [decide_eq_true hs]
            go_wp2
            exact ⟨⟨q + 1, m * x, by omega, by go_num, rfl, m1, m2, HS, hb3⟩, by simp [intOf]; omega⟩
          · have HS : Hid (runF stTimes 1 xs = none) := Lib.hid (by rw [← hr.out, hd, runF_none (by unfold stTimes; rw [if_neg hs])])
            clear hd hy
            rw [decide_eq_false hs]
            go_wp2
            go_returns
            exact ⟨by rw [foldA_none HNF.out HS.out]; rfl, hb3⟩
        · obtain rfl : q = k := by omega
          have HF : Hid (runF stTimes 1 xs = some m) := Lib.hid (by rw [← hr.out, List.drop_of_length_le (by omega)]; rfl)
          skip
          go_wp2
          go_returns
          exact ⟨by rw [foldA_some HNF.out HF.out]; rfl, hb⟩

end Go.Proofs.Ytbdlkkbjkbjanaa
