/-
  aerialref14.Unpack: by contract.
-/
import Derived.Test.YtdipbdoekmcgbaaBbf4
namespace Go.Proofs.Ytdipbdoekmcgbaa
open Go.RowKit

set_option maxRecDepth 100000 in
set_option maxHeartbeats 400000 in
theorem runpack_no (num : Int) (short pilots : Bool) (s : ByteArray) (h : ¬ 0 < bitsN num short) (w : World) :
    Calls Try.prog 24 #[modeV num short pilots, .string s] w fun e w' => e = .returned (.tuple #[.string ⟨#[]⟩, .int .i64 15]) ∧ Below w.heap.size w w' := by
  have hS := fun w => ref_is num short pilots w
  simp only [decide_eq_false h] at hS
  clear h
  unfold modeV at *
  go_enter Try.func24, Try.ntmps24
  go_wp2_with fail
  refine (hS _).mono ?_
  rintro e w2 ⟨rfl, q2⟩
  have Q2 : Hid (Below w.heap.size w w2) := Lib.hid (bthen ((Below.refl _ _).alloc (Nat.le_refl _) _) q2)
  clear q2
  go_wp2_with fail
  go_returns
  exact ⟨rfl, Q2.out⟩
set_option maxRecDepth 100000 in
set_option maxHeartbeats 400000 in
theorem runpack_form (num : Int) (short pilots : Bool) (s : ByteArray) (m : Nat) (h : 0 < bitsN num short) (hm : bitsN num short / 8 = m) (hs : s.size ≠ m) (w : World) :
    Calls Try.prog 24 #[modeV num short pilots, .string s] w fun e w' => e = .returned (.tuple #[.string ⟨#[]⟩, .int .i64 4]) ∧ Below w.heap.size w w' := by
  have hS := fun w => ref_is num short pilots w
  simp only [decide_eq_true h] at hS
  have hK := fun w => ref_kbch num short pilots w h
  have hr := bitsN_range num short
  obtain ⟨r, hr0⟩ : ∃ r : Int, bitsN num short = r := ⟨_, rfl⟩
  rw [hr0] at hm hr
  simp only [hr0] at hK
  have hne : (s.size : Int) ≠ m := by omega
  clear hr0 h
  unfold modeV at *
  go_enter Try.func24, Try.ntmps24
  go_wp2_with fail
  refine (hS _).mono ?_
  rintro e w2 ⟨rfl, q2⟩
  have B2 := (Blk.new w [.int .i64 num, .bool short, .bool pilots] 41).below q2 (by simp)
  have c0 := B2.cell 0 rfl
  have c1 := B2.cell 1 rfl
  have c2 := B2.cell 2 rfl
  have Q2 : Hid (Below w.heap.size w w2) := Lib.hid (bthen ((Below.refl _ _).alloc (Nat.le_refl _) _) q2)
  clear q2
  go_wp2_with fail
  refine (hK _).mono ?_
  rintro e w3 ⟨rfl, q3⟩
  have Q3 : Hid (Below w.heap.size w w3) := Lib.hid (bthen Q2.out q3)
  clear q3 Q2
  go_wp2_with fail
  go_returns
  exact ⟨rfl, Q3.out⟩
set_option maxRecDepth 100000 in
set_option maxHeartbeats 400000 in
theorem runpack_err (num : Int) (short pilots : Bool) (s : ByteArray) (m : Nat) (k : Int) (h : 0 < bitsN num short) (hm : bitsN num short / 8 = m) (hs : s.size = m) (hd : Hid (hdecode (s.extract 0 10) = (headV 0 0 0 0 0, k))) (hk : k ≠ 0) (w : World) :
    Calls Try.prog 24 #[modeV num short pilots, .string s] w fun e w' => e = .returned (.tuple #[.string ⟨#[]⟩, .int .i64 k]) ∧ Below w.heap.size w w' := by
  have hS := fun w => ref_is num short pilots w
  simp only [decide_eq_true h] at hS
  have hK := fun w => ref_kbch num short pilots w h
  have hr := bitsN_range num short
  have hle := bitsN_least num short h
  obtain ⟨r, hr0⟩ : ∃ r : Int, bitsN num short = r := ⟨_, rfl⟩
  rw [hr0] at hm hr hle
  simp only [hr0] at hK
  have h10 : (10 : Int) ≤ s.size := by omega
  have h10' : 10 ≤ s.size := by omega
  have hsm : (s.size : Int) = m := by omega
  clear hr0 h hle hs
  unfold modeV at *
  go_enter Try.func24, Try.ntmps24
  go_wp2_with fail
  refine (hS _).mono ?_
  rintro e w2 ⟨rfl, q2⟩
  have B2 := (Blk.new w [.int .i64 num, .bool short, .bool pilots] 41).below q2 (by simp)
  have c0 := B2.cell 0 rfl
  have c1 := B2.cell 1 rfl
  have c2 := B2.cell 2 rfl
  have Q2 : Hid (Below w.heap.size w w2) := Lib.hid (bthen ((Below.refl _ _).alloc (Nat.le_refl _) _) q2)
  clear q2
  go_wp2_with fail
  refine (hK _).mono ?_
  rintro e w3 ⟨rfl, q3⟩
  have Q3 : Hid (Below w.heap.size w w3) := Lib.hid (bthen Q2.out q3)
  clear q3 Q2
  go_wp2_with fail
  refine (rdecE _ _ k hd _).mono ?_
  rintro e w4 ⟨rfl, q4⟩
  have Q4 : Hid (Below w.heap.size w w4) := Lib.hid (bthen Q3.out q4)
  clear q4 Q3
  go_wp2_with fail
  go_returns
  exact ⟨rfl, Q4.out.alloc Q4.out.size _⟩
set_option maxRecDepth 100000 in
set_option maxHeartbeats 400000 in
theorem runpack_good (num : Int) (short pilots : Bool) (s : ByteArray) (m n : Nat) (h : 0 < bitsN num short) (hm : bitsN num short / 8 = m) (hs : s.size = m) (hd : Hid (hdecode (s.extract 0 10) = (headV 24576 0 ((8 * n : Nat) : Int) 0 0, 0))) (hn : n + 10 ≤ m) (w : World) :
    Calls Try.prog 24 #[modeV num short pilots, .string s] w fun e w' => e = .returned (.tuple #[.string (s.extract 10 (10 + n)), .int .i64 0]) ∧ Below w.heap.size w w' := by
  have hS := fun w => ref_is num short pilots w
  simp only [decide_eq_true h] at hS
  have hFd := fun w => ref_field num short pilots w h
  simp only [hm] at hFd
  have hK := fun w => ref_kbch num short pilots w h
  have hr := bitsN_range num short
  have hle := bitsN_least num short h
  obtain ⟨r, hr0⟩ : ∃ r : Int, bitsN num short = r := ⟨_, rfl⟩
  rw [hr0] at hm hr hle
  simp only [hr0] at hK
  have h10 : (10 : Int) ≤ s.size := by omega
  have h10' : 10 ≤ s.size := by omega
  have hsm : (s.size : Int) = m := by omega
  have hm2 : m ≤ 7274 := by omega
  have hn2 : (n : Int) ≤ m - 10 := by omega
  clear hr0 h hle hs
  unfold modeV at *
  go_enter Try.func24, Try.ntmps24
  go_wp2_with fail
  refine (hS _).mono ?_
  rintro e w2 ⟨rfl, q2⟩
  have B2 := (Blk.new w [.int .i64 num, .bool short, .bool pilots] 41).below q2 (by simp)
  have c0 := B2.cell 0 rfl
  have c1 := B2.cell 1 rfl
  have c2 := B2.cell 2 rfl
  have Q2 : Hid (Below w.heap.size w w2) := Lib.hid (bthen ((Below.refl _ _).alloc (Nat.le_refl _) _) q2)
  clear q2
  go_wp2_with fail
  refine (hK _).mono ?_
  rintro e w3 ⟨rfl, q3⟩
  have B3 := B2.below q3 B2.lt
  have Q3 : Hid (Below w.heap.size w w3) := Lib.hid (bthen Q2.out q3)
  clear q3 Q2 B2 c0 c1 c2
  go_wp2_with fail
  refine (rdecE _ _ 0 hd _).mono ?_
  rintro e w4 ⟨rfl, q4⟩
  have B4 := B3.below q4 B3.lt
  have Q4 : Hid (Below w.heap.size w w4) := Lib.hid (bthen Q3.out q4)
  clear q4 Q3 B3
  go_upto_region 10 with fail
  obtain ⟨w5, hw5, B5, q5⟩ := head_newA w4 24576 0 (8 * n) 0 0
  rw [hw5]
  clear hw5
  have hne : Nonempty (WIn (Below w5.heap.size w5)) := ⟨⟨w5, Below.refl _ _⟩⟩
  have M5 := B4.below q5.out B4.lt
  have hi0 : ∀ y : WIn (Below w5.heap.size w5), y.val.cell? ⟨w4.heap.size, 0, none⟩ = some (.int .i64 24576) := fun y => (B5.out.below y.property B5.out.lt).cell 0 rfl
  have hi1 : ∀ y : WIn (Below w5.heap.size w5), y.val.cell? ⟨w4.heap.size, 1, none⟩ = some (.int .i64 0) := fun y => (B5.out.below y.property B5.out.lt).cell 1 rfl
  have hi2 : ∀ y : WIn (Below w5.heap.size w5), y.val.cell? ⟨w4.heap.size, 2, none⟩ = some (.int .i64 (8 * n)) := fun y => (B5.out.below y.property B5.out.lt).cell 2 rfl
  have hi3 : ∀ y : WIn (Below w5.heap.size w5), y.val.cell? ⟨w4.heap.size, 3, none⟩ = some (.int .i64 0) := fun y => (B5.out.below y.property B5.out.lt).cell 3 rfl
  have hi4 : ∀ y : WIn (Below w5.heap.size w5), y.val.cell? ⟨w4.heap.size, 4, none⟩ = some (.int .i64 0) := fun y => (B5.out.below y.property B5.out.lt).cell 4 rfl
  have hm0 : ∀ y : WIn (Below w5.heap.size w5), y.val.cell? ⟨w.heap.size, 0, none⟩ = some (.int .i64 num) := fun y => (M5.below y.property M5.lt).cell 0 rfl
  have hm1 : ∀ y : WIn (Below w5.heap.size w5), y.val.cell? ⟨w.heap.size, 1, none⟩ = some (.bool short) := fun y => (M5.below y.property M5.lt).cell 1 rfl
  have hm3 : ∀ y : WIn (Below w5.heap.size w5), y.val.cell? ⟨w.heap.size, 2, none⟩ = some (.bool pilots) := fun y => (M5.below y.property M5.lt).cell 2 rfl
  refine wp_region_inv (Below w5.heap.size w5) (by kernel_rfl) (by kernel_rfl) (Below.refl _ _).drew ?_
  repeat (go_big_quiet_step (first | (go_at_call 40; exact quiet_call _ (rhead_is n (by omega) _)) | (go_at_call 39; exact quiet_call _ (hFd _))))
  refine wpQuiet_nil ?_
  intro w6 q6
  have Q6 : Hid (Below w.heap.size w w6) := Lib.hid (Q4.out.trans ((q5.out.trans (q6.mono q5.out.size)).mono Q4.out.size))
  clear q6 hi0 hi1 hi2 hi3 hi4 hne hm0 hm1 hm3
  go_wp2_with fail
  go_returns
  exact ⟨rfl, Q6.out⟩

set_option maxRecDepth 100000 in
set_option maxHeartbeats 400000 in
theorem runpack_over (num : Int) (short pilots : Bool) (s : ByteArray) (m n : Nat) (h : 0 < bitsN num short) (hm : bitsN num short / 8 = m) (hs : s.size = m) (hd : Hid (hdecode (s.extract 0 10) = (headV 24576 0 ((8 * n : Nat) : Int) 0 0, 0))) (hn : ¬ n + 10 ≤ m) (h7 : n ≤ 7264) (w : World) :
    Calls Try.prog 24 #[modeV num short pilots, .string s] w fun e w' => e = .returned (.tuple #[.string ⟨#[]⟩, .int .i64 4]) ∧ Below w.heap.size w w' := by
  have hS := fun w => ref_is num short pilots w
  simp only [decide_eq_true h] at hS
  have hFd := fun w => ref_field num short pilots w h
  simp only [hm] at hFd
  have hK := fun w => ref_kbch num short pilots w h
  have hr := bitsN_range num short
  have hle := bitsN_least num short h
  obtain ⟨r, hr0⟩ : ∃ r : Int, bitsN num short = r := ⟨_, rfl⟩
  rw [hr0] at hm hr hle
  simp only [hr0] at hK
  have h10 : (10 : Int) ≤ s.size := by omega
  have h10' : 10 ≤ s.size := by omega
  have hsm : (s.size : Int) = m := by omega
  have hm2 : m ≤ 7274 := by omega
  have hn2 : (m : Int) - 10 < n := by omega
  clear hr0 h hle hs
  unfold modeV at *
  go_enter Try.func24, Try.ntmps24
  go_wp2_with fail
  refine (hS _).mono ?_
  rintro e w2 ⟨rfl, q2⟩
  have B2 := (Blk.new w [.int .i64 num, .bool short, .bool pilots] 41).below q2 (by simp)
  have c0 := B2.cell 0 rfl
  have c1 := B2.cell 1 rfl
  have c2 := B2.cell 2 rfl
  have Q2 : Hid (Below w.heap.size w w2) := Lib.hid (bthen ((Below.refl _ _).alloc (Nat.le_refl _) _) q2)
  clear q2
  go_wp2_with fail
  refine (hK _).mono ?_
  rintro e w3 ⟨rfl, q3⟩
  have B3 := B2.below q3 B2.lt
  have Q3 : Hid (Below w.heap.size w w3) := Lib.hid (bthen Q2.out q3)
  clear q3 Q2 B2 c0 c1 c2
  go_wp2_with fail
  refine (rdecE _ _ 0 hd _).mono ?_
  rintro e w4 ⟨rfl, q4⟩
  have B4 := B3.below q4 B3.lt
  have Q4 : Hid (Below w.heap.size w w4) := Lib.hid (bthen Q3.out q4)
  clear q4 Q3 B3
  go_upto_region 10 with fail
  obtain ⟨w5, hw5, B5, q5⟩ := head_newA w4 24576 0 (8 * n) 0 0
  rw [hw5]
  clear hw5
  have hne : Nonempty (WIn (Below w5.heap.size w5)) := ⟨⟨w5, Below.refl _ _⟩⟩
  have M5 := B4.below q5.out B4.lt
  have hi0 : ∀ y : WIn (Below w5.heap.size w5), y.val.cell? ⟨w4.heap.size, 0, none⟩ = some (.int .i64 24576) := fun y => (B5.out.below y.property B5.out.lt).cell 0 rfl
  have hi1 : ∀ y : WIn (Below w5.heap.size w5), y.val.cell? ⟨w4.heap.size, 1, none⟩ = some (.int .i64 0) := fun y => (B5.out.below y.property B5.out.lt).cell 1 rfl
  have hi2 : ∀ y : WIn (Below w5.heap.size w5), y.val.cell? ⟨w4.heap.size, 2, none⟩ = some (.int .i64 (8 * n)) := fun y => (B5.out.below y.property B5.out.lt).cell 2 rfl
  have hi3 : ∀ y : WIn (Below w5.heap.size w5), y.val.cell? ⟨w4.heap.size, 3, none⟩ = some (.int .i64 0) := fun y => (B5.out.below y.property B5.out.lt).cell 3 rfl
  have hi4 : ∀ y : WIn (Below w5.heap.size w5), y.val.cell? ⟨w4.heap.size, 4, none⟩ = some (.int .i64 0) := fun y => (B5.out.below y.property B5.out.lt).cell 4 rfl
  have hm0 : ∀ y : WIn (Below w5.heap.size w5), y.val.cell? ⟨w.heap.size, 0, none⟩ = some (.int .i64 num) := fun y => (M5.below y.property M5.lt).cell 0 rfl
  have hm1 : ∀ y : WIn (Below w5.heap.size w5), y.val.cell? ⟨w.heap.size, 1, none⟩ = some (.bool short) := fun y => (M5.below y.property M5.lt).cell 1 rfl
  have hm3 : ∀ y : WIn (Below w5.heap.size w5), y.val.cell? ⟨w.heap.size, 2, none⟩ = some (.bool pilots) := fun y => (M5.below y.property M5.lt).cell 2 rfl
  refine wp_region_inv (Below w5.heap.size w5) (by kernel_rfl) (by kernel_rfl) (Below.refl _ _).drew ?_
  repeat (go_big_quiet_step (first | (go_at_call 40; exact quiet_call _ (rhead_is n (by omega) _)) | (go_at_call 39; exact quiet_call _ (hFd _))))
  refine wpQuiet_nil ?_
  intro w6 q6
  have Q6 : Hid (Below w.heap.size w w6) := Lib.hid (Q4.out.trans ((q5.out.trans (q6.mono q5.out.size)).mono Q4.out.size))
  clear q6 hi0 hi1 hi2 hi3 hi4 hne hm0 hm1 hm3
  go_wp2_with fail
  go_returns
  exact ⟨rfl, Q6.out⟩

set_option maxRecDepth 100000 in
set_option maxHeartbeats 400000 in
theorem runpack_bad (num : Int) (short pilots : Bool) (s : ByteArray) (m A B C D E : Nat) (h : 0 < bitsN num short) (hm : bitsN num short / 8 = m) (hs : s.size = m) (hd : Hid (hdecode (s.extract 0 10) = (headV A B C D E, 0))) (hC : C ≤ 58112) (hbad : ¬ (A = 24576 ∧ B = 0 ∧ C = 8 * (C / 8) ∧ D = 0 ∧ E = 0)) (w : World) :
    Calls Try.prog 24 #[modeV num short pilots, .string s] w fun e w' => e = .returned (.tuple #[.string ⟨#[]⟩, .int .i64 4]) ∧ Below w.heap.size w w' := by
  have hS := fun w => ref_is num short pilots w
  simp only [decide_eq_true h] at hS
  have hFd := fun w => ref_field num short pilots w h
  simp only [hm] at hFd
  have hK := fun w => ref_kbch num short pilots w h
  have hr := bitsN_range num short
  have hle := bitsN_least num short h
  obtain ⟨r, hr0⟩ : ∃ r : Int, bitsN num short = r := ⟨_, rfl⟩
  rw [hr0] at hm hr hle
  simp only [hr0] at hK
  have h10 : (10 : Int) ≤ s.size := by omega
  have h10' : 10 ≤ s.size := by omega
  have hsm : (s.size : Int) = m := by omega
  have hm2 : m ≤ 7274 := by omega
  obtain ⟨q, hq⟩ : ∃ q : Nat, C / 8 = q := ⟨_, rfl⟩
  have hq2 : (C : Int) / 8 = q := by omega
  rw [hq] at hbad
  have hnq : ∀ w, (binOp .neq THead (headV A B C D E) (headV 24576 0 (8 * q) 0 0)).run Try.prog w = .ok (.bool true) w := fun w => by
    have e : (decide ((A : Int) = 24576) && decide ((B : Int) = 0) && decide ((C : Int) = 8 * q) && decide ((D : Int) = 0) && decide ((E : Int) = 0)) = false := by
      simp only [← Bool.decide_and]
      exact decide_eq_false (by omega)
    rw [head_neq, e]
    rfl
  have hHd := fun w => rhead_is q (by omega) w
  simp only [Int.natCast_mul, Int.cast_ofNat_Int] at hHd
  clear hr0 h hle hs hm2 hbad
  unfold modeV at *
  go_enter Try.func24, Try.ntmps24
  go_wp2_with fail
  refine (hS _).mono ?_
  rintro e w2 ⟨rfl, q2⟩
  have B2 := (Blk.new w [.int .i64 num, .bool short, .bool pilots] 41).below q2 (by simp)
  have c0 := B2.cell 0 rfl
  have c1 := B2.cell 1 rfl
  have c2 := B2.cell 2 rfl
  have Q2 : Hid (Below w.heap.size w w2) := Lib.hid (bthen ((Below.refl _ _).alloc (Nat.le_refl _) _) q2)
  clear q2
  go_wp2_with fail
  refine (hK _).mono ?_
  rintro e w3 ⟨rfl, q3⟩
  have B3 := B2.below q3 B2.lt
  have Q3 : Hid (Below w.heap.size w w3) := Lib.hid (bthen Q2.out q3)
  clear q3 Q2 B2 c0 c1 c2
  go_wp2_with fail
  refine (rdecE _ _ 0 hd _).mono ?_
  rintro e w4 ⟨rfl, q4⟩
  have B4 := B3.below q4 B3.lt
  have Q4 : Hid (Below w.heap.size w w4) := Lib.hid (bthen Q3.out q4)
  clear q4 Q3 B3
  go_upto_region 10 with fail
  obtain ⟨w5, hw5, B5, q5⟩ := head_newA w4 A B C D E
  rw [hw5]
  clear hw5
  have hne : Nonempty (WIn (Below w5.heap.size w5)) := ⟨⟨w5, Below.refl _ _⟩⟩
  have M5 := B4.below q5.out B4.lt
  have hi0 : ∀ y : WIn (Below w5.heap.size w5), y.val.cell? ⟨w4.heap.size, 0, none⟩ = some (.int .i64 A) := fun y => (B5.out.below y.property B5.out.lt).cell 0 rfl
  have hi1 : ∀ y : WIn (Below w5.heap.size w5), y.val.cell? ⟨w4.heap.size, 1, none⟩ = some (.int .i64 B) := fun y => (B5.out.below y.property B5.out.lt).cell 1 rfl
  have hi2 : ∀ y : WIn (Below w5.heap.size w5), y.val.cell? ⟨w4.heap.size, 2, none⟩ = some (.int .i64 C) := fun y => (B5.out.below y.property B5.out.lt).cell 2 rfl
  have hi3 : ∀ y : WIn (Below w5.heap.size w5), y.val.cell? ⟨w4.heap.size, 3, none⟩ = some (.int .i64 D) := fun y => (B5.out.below y.property B5.out.lt).cell 3 rfl
  have hi4 : ∀ y : WIn (Below w5.heap.size w5), y.val.cell? ⟨w4.heap.size, 4, none⟩ = some (.int .i64 E) := fun y => (B5.out.below y.property B5.out.lt).cell 4 rfl
  have hm0 : ∀ y : WIn (Below w5.heap.size w5), y.val.cell? ⟨w.heap.size, 0, none⟩ = some (.int .i64 num) := fun y => (M5.below y.property M5.lt).cell 0 rfl
  have hm1 : ∀ y : WIn (Below w5.heap.size w5), y.val.cell? ⟨w.heap.size, 1, none⟩ = some (.bool short) := fun y => (M5.below y.property M5.lt).cell 1 rfl
  have hm3 : ∀ y : WIn (Below w5.heap.size w5), y.val.cell? ⟨w.heap.size, 2, none⟩ = some (.bool pilots) := fun y => (M5.below y.property M5.lt).cell 2 rfl
  refine wp_region_inv (Below w5.heap.size w5) (by kernel_rfl) (by kernel_rfl) (Below.refl _ _).drew ?_
  repeat (go_big_quiet_step (first | (go_at_call 40; exact quiet_call _ (hHd _)) | (go_at_call 39; exact quiet_call _ (hFd _))))
  refine wpQuiet_nil ?_
  intro w6 q6
  have Q6 : Hid (Below w.heap.size w w6) := Lib.hid (Q4.out.trans ((q5.out.trans (q6.mono q5.out.size)).mono Q4.out.size))
  clear q6 hi0 hi1 hi2 hi3 hi4 hne hm0 hm1 hm3
  go_wp2_with fail
  go_returns
  exact ⟨rfl, Q6.out⟩

/-- What Unpack answers. -/
def UnpackIs (num : Int) (short : Bool) (s t : ByteArray) (k : Int) : Prop :=
  (¬ 0 < bitsN num short ∧ t = ⟨#[]⟩ ∧ k = 15) ∨ ∃ m : Nat, 0 < bitsN num short ∧ bitsN num short / 8 = m ∧ ((s.size ≠ m ∧ t = ⟨#[]⟩ ∧ k = 4) ∨ (s.size = m ∧ (
    (k ≠ 0 ∧ hdecode (s.extract 0 10) = (headV 0 0 0 0 0, k) ∧ t = ⟨#[]⟩) ∨
    (∃ n : Nat, n + 10 ≤ m ∧ hdecode (s.extract 0 10) = (headV 24576 0 ((8 * n : Nat) : Int) 0 0, 0) ∧ t = s.extract 10 (10 + n) ∧ k = 0) ∨
    (∃ n : Nat, ¬ n + 10 ≤ m ∧ n ≤ 7264 ∧ hdecode (s.extract 0 10) = (headV 24576 0 ((8 * n : Nat) : Int) 0 0, 0) ∧ t = ⟨#[]⟩ ∧ k = 4) ∨
    (∃ A B C D E : Nat, C ≤ 58112 ∧ ¬ (A = 24576 ∧ B = 0 ∧ C = 8 * (C / 8) ∧ D = 0 ∧ E = 0) ∧ hdecode (s.extract 0 10) = (headV A B C D E, 0) ∧ t = ⟨#[]⟩ ∧ k = 4))))
theorem unpack_has (num : Int) (short : Bool) (s : ByteArray) : ∃ t k, UnpackIs num short s t k := by
  by_cases h0 : 0 < bitsN num short
  · have hr := bitsN_range num short
    obtain ⟨m, hm⟩ : ∃ m : Nat, bitsN num short / 8 = m := ⟨(bitsN num short / 8).toNat, by omega⟩
    by_cases hs : s.size = m
    · obtain ⟨a, b, c, d, e, k, hd⟩ := hdecode_has (s.extract 0 10)
      have hd := hd.out
      by_cases hk : k = 0
      · subst hk
        have he := (henc_dec _ _ _ _ _ _ hd).1
        obtain ⟨A, B, C, D, E, rfl, rfl, rfl, rfl, rfl, _, _, hC, _, _⟩ := head_nat he
        by_cases hg : A = 24576 ∧ B = 0 ∧ C = 8 * (C / 8) ∧ D = 0 ∧ E = 0
        · obtain ⟨rfl, rfl, hc, rfl, rfl⟩ := hg
          rw [hc] at hd
          by_cases hn : C / 8 + 10 ≤ m
          · exact ⟨_, _, .inr ⟨m, h0, hm, .inr ⟨hs, .inr (.inl ⟨C / 8, hn, hd, rfl, rfl⟩)⟩⟩⟩
          · exact ⟨_, _, .inr ⟨m, h0, hm, .inr ⟨hs, .inr (.inr (.inl ⟨C / 8, hn, by omega, hd, rfl, rfl⟩))⟩⟩⟩
        · exact ⟨_, _, .inr ⟨m, h0, hm, .inr ⟨hs, .inr (.inr (.inr ⟨A, B, C, D, E, hC, hg, hd, rfl, rfl⟩))⟩⟩⟩
      · exact ⟨_, k, .inr ⟨m, h0, hm, .inr ⟨hs, .inl ⟨hk, by rw [hd, hdecode_zero _ _ _ hd hk], rfl⟩⟩⟩⟩
    · exact ⟨_, _, .inr ⟨m, h0, hm, .inl ⟨hs, rfl, rfl⟩⟩⟩
  · exact ⟨_, _, .inl ⟨h0, rfl, rfl⟩⟩
theorem unpackE (num : Int) (short pilots : Bool) (s t : ByteArray) (k : Int) (h : Hid (UnpackIs num short s t k)) (w : World) :
    Calls Try.prog 23 #[modeV num short pilots, .string s] w fun e w' => e = .returned (.tuple #[.string t, .int .i64 k]) ∧ Below w.heap.size w w' := by
  rcases h.out with ⟨h0, rfl, rfl⟩ | ⟨m, h0, hm, ⟨hs, rfl, rfl⟩ | ⟨hs, ⟨hk, hd, rfl⟩ | ⟨n, hn, hd, rfl, rfl⟩ | ⟨n, hn, h7, hd, rfl, rfl⟩ | ⟨A, B, C, D, E, hC, hg, hd, rfl, rfl⟩⟩⟩
  · exact unpack_no num short pilots s h0 w
  · exact unpack_form num short pilots s m h0 hm hs w
  · exact unpack_err num short pilots s m k h0 hm hs (Lib.hid hd) hk w
  · exact unpack_good num short pilots s m n h0 hm hs (Lib.hid hd) hn w
  · exact unpack_over num short pilots s m n h0 hm hs (Lib.hid hd) hn h7 w
  · exact unpack_bad num short pilots s m A B C D E h0 hm hs (Lib.hid hd) hC hg w
theorem runpackE (num : Int) (short pilots : Bool) (s t : ByteArray) (k : Int) (h : Hid (UnpackIs num short s t k)) (w : World) :
    Calls Try.prog 24 #[modeV num short pilots, .string s] w fun e w' => e = .returned (.tuple #[.string t, .int .i64 k]) ∧ Below w.heap.size w w' := by
  rcases h.out with ⟨h0, rfl, rfl⟩ | ⟨m, h0, hm, ⟨hs, rfl, rfl⟩ | ⟨hs, ⟨hk, hd, rfl⟩ | ⟨n, hn, hd, rfl, rfl⟩ | ⟨n, hn, h7, hd, rfl, rfl⟩ | ⟨A, B, C, D, E, hC, hg, hd, rfl, rfl⟩⟩⟩
  · exact runpack_no num short pilots s h0 w
  · exact runpack_form num short pilots s m h0 hm hs w
  · exact runpack_err num short pilots s m k h0 hm hs (Lib.hid hd) hk w
  · exact runpack_good num short pilots s m n h0 hm hs (Lib.hid hd) hn w
  · exact runpack_over num short pilots s m n h0 hm hs (Lib.hid hd) hn h7 w
  · exact runpack_bad num short pilots s m A B C D E h0 hm hs (Lib.hid hd) hC hg w

end Go.Proofs.Ytdipbdoekmcgbaa
