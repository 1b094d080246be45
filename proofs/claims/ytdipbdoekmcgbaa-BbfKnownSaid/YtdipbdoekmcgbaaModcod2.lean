/-
  modcod: row, bits, Is, Kbch, Field by contract.
-/
import Derived.Test.YtdipbdoekmcgbaaModcod
namespace Go.Proofs.Ytdipbdoekmcgbaa
open Go.RowKit

def modAt (num : Int) (i : Nat) : Int := modTab.getD (4 * num.toNat + i) 0
def modRow (num : Int) : Value := .agg #[.int .i64 (modAt num 0), .int .i64 (modAt num 1), .int .i64 (modAt num 2), .int .i64 (modAt num 3)]
def bitsN (num : Int) (short : Bool) : Int := if num < 1 ∨ 28 < num then 0 else modAt num (if short then 2 else 1)
theorem zeroRow (w : World) : (zeroValue 71).run Try.prog w = .ok (.agg #[.int .i64 0, .int .i64 0, .int .i64 0, .int .i64 0]) w := by kernel_rfl

set_option maxRecDepth 100000 in
theorem row_at (num : Int) (h1 : 1 ≤ num) (h2 : num ≤ 28) : ∀ w : World, (Instr.index 74 (.agg (modTab.map (Value.int .i64)).toArray) (.int .i64 num)).run Try.prog w = .ok (modRow num) w := by
  rcases (by omega : num = 1 ∨ num = 2 ∨ num = 3 ∨ num = 4 ∨ num = 5 ∨ num = 6 ∨ num = 7 ∨ num = 8 ∨ num = 9 ∨ num = 10 ∨ num = 11 ∨ num = 12 ∨ num = 13 ∨ num = 14 ∨ num = 15 ∨ num = 16 ∨ num = 17 ∨ num = 18 ∨ num = 19 ∨ num = 20 ∨ num = 21 ∨ num = 22 ∨ num = 23 ∨ num = 24 ∨ num = 25 ∨ num = 26 ∨ num = 27 ∨ num = 28) with rfl | rfl | rfl | rfl | rfl | rfl | rfl | rfl | rfl | rfl | rfl | rfl | rfl | rfl | rfl | rfl | rfl | rfl | rfl | rfl | rfl | rfl | rfl | rfl | rfl | rfl | rfl | rfl
  all_goals exact fun w => by kernel_rfl

theorem bitsN_range (num : Int) (short : Bool) : 0 ≤ bitsN num short ∧ bitsN num short ≤ 58192 := by
  unfold bitsN
  split
  · exact ⟨by omega, by omega⟩
  · rename_i h
    obtain ⟨n, rfl⟩ : ∃ n : Nat, num = n := ⟨num.toNat, by omega⟩
    have key : ∀ n : Nat, n < 29 → ∀ b : Bool, 0 ≤ modAt (n : Int) (if b then 2 else 1) ∧ modAt (n : Int) (if b then 2 else 1) ≤ 58192 := by decide +kernel
    exact key n (by omega) short
set_option maxRecDepth 100000 in
set_option maxHeartbeats 400000 in
theorem row_no (num : Int) (w : World) (h : num < 1 ∨ 28 < num) : Calls Try.prog 49 #[.int .i64 num] w fun e w' => e = .returned (.tuple #[.agg #[.int .i64 0, .int .i64 0, .int .i64 0, .int .i64 0], .bool false]) ∧ Below w.heap.size w w' := by
  go_enter Try.func49, Try.ntmps49
  rcases h with h | h
  all_goals
    go_wp2_with fail
    have B := Blk.new w [.int .i64 0, .int .i64 0, .int .i64 0, .int .i64 0] 71
    have g0 := B.cell 0 rfl
    have g1 := B.cell 1 rfl
    have g2 := B.cell 2 rfl
    have g3 := B.cell 3 rfl
    refine bodyPost_ret (by simp [results, Try.results49, go_sem, g0, g1, g2, g3]; try rfl) rfl ?_
    exact ⟨rfl, (Below.refl _ _).alloc (Nat.le_refl _) _⟩

set_option maxRecDepth 100000 in
set_option maxHeartbeats 400000 in
theorem row_is (num : Int) (w : World) (h1 : 1 ≤ num) (h2 : num ≤ 28) : Calls Try.prog 49 #[.int .i64 num] w fun e w' => e = .returned (.tuple #[modRow num, .bool true]) ∧ Below w.heap.size w w' := by
  have hri := row_at num h1 h2
  unfold modRow at hri ⊢
  obtain ⟨r0, h0⟩ : ∃ r, modAt num 0 = r := ⟨_, rfl⟩
  obtain ⟨r1, h1'⟩ : ∃ r, modAt num 1 = r := ⟨_, rfl⟩
  obtain ⟨r2, h2'⟩ : ∃ r, modAt num 2 = r := ⟨_, rfl⟩
  obtain ⟨r3, h3⟩ : ∃ r, modAt num 3 = r := ⟨_, rfl⟩
  rw [h0, h1', h2', h3] at hri ⊢
  go_enter Try.func49, Try.ntmps49
  go_wp2_with fail
  refine (rows_walk _).mono ?_
  rintro e w2 ⟨rfl, q2⟩
  obtain ⟨cs, hcs⟩ : ∃ cs, (modTab.map (Value.int .i64)).toArray = cs := ⟨_, rfl⟩
  rw [hcs]
  rw [hcs] at hri
  have B := (Blk.new w [.int .i64 0, .int .i64 0, .int .i64 0, .int .i64 0] 71).below q2 (by simp)
  have e0 := B.cell 0 rfl
  have e1 := B.cell 1 rfl
  have e2 := B.cell 2 rfl
  have e3 := B.cell 3 rfl
  have f0 := B.free 0
  have f1 := B.free 1
  have f2 := B.free 2
  have f3 := B.free 3
  go_wp2_with fail
  have B2 := (((B.set 0 (.int .i64 r0)).set 1 (.int .i64 r1)).set 2 (.int .i64 r2)).set 3 (.int .i64 r3)
  have g0 := B2.cell 0 rfl
  have g1 := B2.cell 1 rfl
  have g2 := B2.cell 2 rfl
  have g3 := B2.cell 3 rfl
  refine bodyPost_ret (by simp [results, Try.results49, go_sem, g0, g1, g2, g3]; try rfl) rfl ?_
  have hq : Below w.heap.size w w2 := bthen ((Below.refl _ _).alloc (Nat.le_refl _) _) q2
  exact ⟨rfl, (((hq.setCell (Nat.le_refl _) _).setCell (Nat.le_refl _) _).setCell (Nat.le_refl _) _).setCell (Nat.le_refl _) _⟩

/-- Either way. -/
theorem row_any (num : Int) (w : World) : Calls Try.prog 49 #[.int .i64 num] w fun e w' => (∃ a d : Int, ∃ b : Bool, e = .returned (.tuple #[.agg #[.int .i64 a, .int .i64 (bitsN num false), .int .i64 (bitsN num true), .int .i64 d], .bool b])) ∧ Below w.heap.size w w' := by
  by_cases h : num < 1 ∨ 28 < num
  · refine (row_no num w h).mono ?_
    rintro e w' ⟨rfl, q⟩
    exact ⟨⟨0, 0, false, by unfold bitsN; rw [if_pos h, if_pos h]⟩, q⟩
  · refine (row_is num w (by omega) (by omega)).mono ?_
    rintro e w' ⟨rfl, q⟩
    exact ⟨⟨_, _, true, by unfold bitsN modRow; rw [if_neg h, if_neg h]; rfl⟩, q⟩

def modeV (num : Int) (short pilots : Bool) : Value := .agg #[.int .i64 num, .bool short, .bool pilots]

set_option maxRecDepth 100000 in
set_option maxHeartbeats 400000 in
theorem bits_is (num : Int) (short pilots : Bool) (w : World) : Calls Try.prog 45 #[modeV num short pilots] w fun e w' => e = .returned (.int .i64 (bitsN num short)) ∧ Below w.heap.size w w' := by
  unfold modeV
  go_enter Try.func45, Try.ntmps45
  go_wp2_with fail
  refine (row_any num _).mono ?_
  rintro e w2 ⟨⟨a, d, b, rfl⟩, q2⟩
  obtain ⟨r1, h1⟩ : ∃ r, bitsN num false = r := ⟨_, rfl⟩
  obtain ⟨r2, h2⟩ : ∃ r, bitsN num true = r := ⟨_, rfl⟩
  rw [h1, h2]
  have B := (Blk.new w [.int .i64 num, .bool short, .bool pilots] 41).below q2 (by simp)
  have c1 := B.cell 1 rfl
  have hsz := B.lt
  have hq : Below w.heap.size w w2 := bthen ((Below.refl _ _).alloc (Nat.le_refl _) _) q2
  clear q2
  cases short
  all_goals
    go_wp2_with fail
    go_returns
    exact ⟨by first | (rw [h1]; rfl) | (rw [h2]; rfl), hq.alloc hq.size _⟩

set_option maxRecDepth 100000 in
set_option maxHeartbeats 400000 in
theorem mod_is (num : Int) (short pilots : Bool) (w : World) : Calls Try.prog 42 #[modeV num short pilots] w fun e w' => e = .returned (.bool (decide (0 < bitsN num short))) ∧ Below w.heap.size w w' := by
  unfold modeV
  go_enter Try.func42, Try.ntmps42
  go_wp2_with fail
  refine (bits_is num short pilots _).mono ?_
  rintro e w2 ⟨rfl, q2⟩
  obtain ⟨r, hr⟩ : ∃ r, bitsN num short = r := ⟨_, rfl⟩
  rw [hr]
  go_wp2_with fail
  go_returns
  exact ⟨by rw [hr]; rfl, bthen ((Below.refl _ _).alloc (Nat.le_refl _) _) q2⟩

set_option maxRecDepth 100000 in
set_option maxHeartbeats 400000 in
theorem kbch_one (num : Int) (short pilots : Bool) (b : Nat) (w : World) (h : Blk w b [.int .i64 num, .bool short, .bool pilots] 41) : Calls Try.prog 46 #[.pointer (some ⟨b, 0, none⟩)] w fun e w' => e = .returned (.int .i64 (bitsN num short)) ∧ Below w.heap.size w w' := by
  have c0 := h.cell 0 rfl
  have c1 := h.cell 1 rfl
  have c2 := h.cell 2 rfl
  go_enter Try.func46, Try.ntmps46
  go_wp2_with fail
  refine (bits_is num short pilots _).mono ?_
  rintro e w2 ⟨rfl, q2⟩
  go_wp2_with fail
  go_returns
  exact ⟨rfl, q2⟩

set_option maxRecDepth 100000 in
set_option maxHeartbeats 400000 in
theorem field_one (num : Int) (short pilots : Bool) (b : Nat) (w : World) (h : Blk w b [.int .i64 num, .bool short, .bool pilots] 41) : Calls Try.prog 44 #[.pointer (some ⟨b, 0, none⟩)] w fun e w' => e = .returned (.int .i64 (bitsN num short / 8 - 10)) ∧ Below w.heap.size w w' := by
  have c0 := h.cell 0 rfl
  have c1 := h.cell 1 rfl
  have c2 := h.cell 2 rfl
  have hr0 := bitsN_range num short
  go_enter Try.func44, Try.ntmps44
  go_wp2_with fail
  refine (bits_is num short pilots _).mono ?_
  rintro e w2 ⟨rfl, q2⟩
  obtain ⟨r, hr⟩ : ∃ r, bitsN num short = r := ⟨_, rfl⟩
  rw [hr] at hr0 ⊢
  go_wp2_with fail
  go_returns
  exact ⟨by rw [hr]; rfl, q2⟩

set_option maxRecDepth 100000 in
set_option maxHeartbeats 400000 in
theorem told_kbch (num : Int) (short pilots : Bool) (b : Nat) (w : World) (h : Blk w b [.int .i64 num, .bool short, .bool pilots] 41) : Calls Try.prog 43 #[modeV num short pilots, .func (Fn.func 46) #[] #[.pointer (some ⟨b, 0, none⟩)]] w fun e w' => e = .returned (.tuple #[.int .i64 (if 0 < bitsN num short then bitsN num short else 0), .int .i64 (if 0 < bitsN num short then 0 else 15)]) ∧ Below w.heap.size w w' := by
  have H := Lib.hid h
  clear h
  unfold modeV
  by_cases hp : 0 < bitsN num short
  · rw [if_pos hp, if_pos hp]
    go_enter Try.func43, Try.ntmps43
    go_wp2_with fail
    refine (mod_is num short pilots _).mono ?_
    rintro e w2 ⟨rfl, q2⟩
    rw [decide_eq_true hp]
    go_wp2_with fail
    refine (kbch_one num short pilots b _ ((H.out.alloc _).below q2 (H.out.alloc _).lt)).mono ?_
    rintro e w3 ⟨rfl, q3⟩
    go_wp2_with fail
    go_returns
    exact ⟨rfl, bthen (bthen ((Below.refl _ _).alloc (Nat.le_refl _) _) q2) q3⟩
  · rw [if_neg hp, if_neg hp]
    go_enter Try.func43, Try.ntmps43
    go_wp2_with fail
    refine (mod_is num short pilots _).mono ?_
    rintro e w2 ⟨rfl, q2⟩
    rw [decide_eq_false (show ¬ 0 < bitsN num short by omega)]
    go_wp2_with fail
    go_returns
    exact ⟨rfl, bthen ((Below.refl _ _).alloc (Nat.le_refl _) _) q2⟩

set_option maxRecDepth 100000 in
set_option maxHeartbeats 400000 in
theorem mod_kbch (num : Int) (short pilots : Bool) (w : World) : Calls Try.prog 27 #[modeV num short pilots] w fun e w' => e = .returned (.tuple #[.int .i64 (if 0 < bitsN num short then bitsN num short else 0), .int .i64 (if 0 < bitsN num short then 0 else 15)]) ∧ Below w.heap.size w w' := by
  obtain ⟨E1, hE1⟩ : ∃ E : Int, (if 0 < bitsN num short then bitsN num short else 0) = E := ⟨_, rfl⟩
  obtain ⟨E2, hE2⟩ : ∃ E : Int, (if 0 < bitsN num short then 0 else 15) = E := ⟨_, rfl⟩
  have ht := fun b w h => told_kbch num short pilots b w h
  rw [hE1, hE2] at *
  unfold modeV at *
  go_enter Try.func27, Try.ntmps27
  go_wp2_with fail
  refine (ht _ _ (Blk.new w [.int .i64 num, .bool short, .bool pilots] 41)).mono ?_
  rintro e w2 ⟨rfl, q2⟩
  go_wp2_with fail
  go_returns
  exact ⟨rfl, bthen ((Below.refl _ _).alloc (Nat.le_refl _) _) q2⟩

set_option maxRecDepth 100000 in
set_option maxHeartbeats 400000 in
theorem told_field (num : Int) (short pilots : Bool) (b : Nat) (w : World) (h : Blk w b [.int .i64 num, .bool short, .bool pilots] 41) : Calls Try.prog 43 #[modeV num short pilots, .func (Fn.func 44) #[] #[.pointer (some ⟨b, 0, none⟩)]] w fun e w' => e = .returned (.tuple #[.int .i64 (if 0 < bitsN num short then (bitsN num short / 8 - 10) else 0), .int .i64 (if 0 < bitsN num short then 0 else 15)]) ∧ Below w.heap.size w w' := by
  have H := Lib.hid h
  clear h
  unfold modeV
  by_cases hp : 0 < bitsN num short
  · rw [if_pos hp, if_pos hp]
    go_enter Try.func43, Try.ntmps43
    go_wp2_with fail
    refine (mod_is num short pilots _).mono ?_
    rintro e w2 ⟨rfl, q2⟩
    rw [decide_eq_true hp]
    go_wp2_with fail
    refine (field_one num short pilots b _ ((H.out.alloc _).below q2 (H.out.alloc _).lt)).mono ?_
    rintro e w3 ⟨rfl, q3⟩
    go_wp2_with fail
    go_returns
    exact ⟨rfl, bthen (bthen ((Below.refl _ _).alloc (Nat.le_refl _) _) q2) q3⟩
  · rw [if_neg hp, if_neg hp]
    go_enter Try.func43, Try.ntmps43
    go_wp2_with fail
    refine (mod_is num short pilots _).mono ?_
    rintro e w2 ⟨rfl, q2⟩
    rw [decide_eq_false (show ¬ 0 < bitsN num short by omega)]
    go_wp2_with fail
    go_returns
    exact ⟨rfl, bthen ((Below.refl _ _).alloc (Nat.le_refl _) _) q2⟩

set_option maxRecDepth 100000 in
set_option maxHeartbeats 400000 in
theorem mod_field (num : Int) (short pilots : Bool) (w : World) : Calls Try.prog 26 #[modeV num short pilots] w fun e w' => e = .returned (.tuple #[.int .i64 (if 0 < bitsN num short then (bitsN num short / 8 - 10) else 0), .int .i64 (if 0 < bitsN num short then 0 else 15)]) ∧ Below w.heap.size w w' := by
  obtain ⟨E1, hE1⟩ : ∃ E : Int, (if 0 < bitsN num short then (bitsN num short / 8 - 10) else 0) = E := ⟨_, rfl⟩
  obtain ⟨E2, hE2⟩ : ∃ E : Int, (if 0 < bitsN num short then 0 else 15) = E := ⟨_, rfl⟩
  have ht := fun b w h => told_field num short pilots b w h
  rw [hE1, hE2] at *
  unfold modeV at *
  go_enter Try.func26, Try.ntmps26
  go_wp2_with fail
  refine (ht _ _ (Blk.new w [.int .i64 num, .bool short, .bool pilots] 41)).mono ?_
  rintro e w2 ⟨rfl, q2⟩
  go_wp2_with fail
  go_returns
  exact ⟨rfl, bthen ((Below.refl _ _).alloc (Nat.le_refl _) _) q2⟩

end Go.Proofs.Ytdipbdoekmcgbaa
