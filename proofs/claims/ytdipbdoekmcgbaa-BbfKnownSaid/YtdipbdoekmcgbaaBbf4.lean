/-
  bbf.Unpack: by contract.
-/
import Derived.Test.YtdipbdoekmcgbaaBbf3
import Derived.Laws.StructEq
namespace Go.Proofs.Ytdipbdoekmcgbaa
open Go.RowKit

theorem head_neq (a b c d e a' b' c' d' e' : Int) (w : World) : (binOp .neq THead (headV a b c d e) (headV a' b' c' d' e')).run Try.prog w = .ok (.bool (!(decide (a = a') && decide (b = b') && decide (c = c') && decide (d = d') && decide (e = e')))) w := by
  have hS : Try.prog.underlying THead = some (.struct (Try.prog.fieldsOf THead)) := by kernel_rfl
  rw [run_neq_struct, show (10000 : Nat) = 9999 + 1 from rfl, run_equalIn_agg w 9999 THead _ _ hS (by kernel_rfl)]
  simp only [Program.fieldsOf, Try.underlying23]
  go_simp
  by_cases h1 : a = a' <;> by_cases h2 : b = b' <;> by_cases h3 : c = c' <;> by_cases h4 : d = d' <;> by_cases h5 : e = e' <;> simp [h1, h2, h3, h4, h5]
set_option maxRecDepth 100000 in
set_option maxHeartbeats 400000 in
theorem unpack_no (num : Int) (short pilots : Bool) (s : ByteArray) (h : ¬ 0 < bitsN num short) (w : World) :
    Calls Try.prog 23 #[modeV num short pilots, .string s] w fun e w' => e = .returned (.tuple #[.string ⟨#[]⟩, .int .i64 15]) ∧ Below w.heap.size w w' := by
  have hS := fun w => sizes_no num short pilots h w
  clear h
  unfold modeV at *
  go_enter Try.func23, Try.ntmps23
  go_wp2_with fail
  refine (hS _).mono ?_
  rintro e w2 ⟨rfl, q2⟩
  have Q2 : Hid (Below w.heap.size w w2) := Lib.hid (bthen ((Below.refl _ _).alloc (Nat.le_refl _) _) q2)
  clear q2
  go_wp2_with fail
  go_returns
  exact ⟨rfl, Q2.out⟩
set_option maxRecDepth 100000 in
set_option maxHeartbeats 400000 in
theorem unpack_form (num : Int) (short pilots : Bool) (s : ByteArray) (m : Nat) (h : 0 < bitsN num short) (hm : bitsN num short / 8 = m) (hs : s.size ≠ m) (w : World) :
    Calls Try.prog 23 #[modeV num short pilots, .string s] w fun e w' => e = .returned (.tuple #[.string ⟨#[]⟩, .int .i64 4]) ∧ Below w.heap.size w w' := by
  have hS := fun w => sizes_is num short pilots h w
  simp only [hm] at hS
  have hne : (s.size : Int) ≠ m := by omega
  clear hm h
  unfold modeV at *
  go_enter Try.func23, Try.ntmps23
  go_wp2_with fail
  refine (hS _).mono ?_
  rintro e w2 ⟨rfl, q2⟩
  have Q2 : Hid (Below w.heap.size w w2) := Lib.hid (bthen ((Below.refl _ _).alloc (Nat.le_refl _) _) q2)
  clear q2
  go_wp2_with fail
  go_returns
  exact ⟨rfl, Q2.out⟩
set_option maxRecDepth 100000 in
set_option maxHeartbeats 400000 in
theorem unpack_err (num : Int) (short pilots : Bool) (s : ByteArray) (m : Nat) (k : Int) (h : 0 < bitsN num short) (hm : bitsN num short / 8 = m) (hs : s.size = m) (hd : Hid (hdecode (s.extract 0 10) = (headV 0 0 0 0 0, k))) (hk : k ≠ 0) (w : World) :
    Calls Try.prog 23 #[modeV num short pilots, .string s] w fun e w' => e = .returned (.tuple #[.string ⟨#[]⟩, .int .i64 k]) ∧ Below w.heap.size w w' := by
  have hS := fun w => sizes_is num short pilots h w
  have hle := bitsN_least num short h
  simp only [hm] at hS
  have h10 : (10 : Int) ≤ s.size := by omega
  have h10' : 10 ≤ s.size := by omega
  have hsm : (s.size : Int) = m := by omega
  clear hm h
  unfold modeV at *
  go_enter Try.func23, Try.ntmps23
  go_wp2_with fail
  refine (hS _).mono ?_
  rintro e w2 ⟨rfl, q2⟩
  have Q2 : Hid (Below w.heap.size w w2) := Lib.hid (bthen ((Below.refl _ _).alloc (Nat.le_refl _) _) q2)
  clear q2
  go_wp2_with fail
  refine (hdecE _ _ k hd _).mono ?_
  rintro e w3 ⟨rfl, q3⟩
  have Q3 : Hid (Below w.heap.size w w3) := Lib.hid (bthen Q2.out q3)
  clear q3 Q2
  go_wp2_with fail
  go_returns
  exact ⟨rfl, Q3.out.alloc Q3.out.size _⟩
theorem head_newA (w : World) (a b c d e : Int) : ∃ w1, w.alloc (Obj.cells #[Value.int IntKind.i64 a, Value.int IntKind.i64 b, Value.int IntKind.i64 c, Value.int IntKind.i64 d, Value.int IntKind.i64 e] THead) = w1 ∧ Hid (Blk w1 w.heap.size (headC a b c d e) THead) ∧ Hid (Below w.heap.size w w1) :=
  ⟨_, rfl, Lib.hid (Blk.new w (headC a b c d e) THead), Lib.hid ((Below.refl _ _).alloc (Nat.le_refl _) _)⟩
set_option maxRecDepth 100000 in
set_option maxHeartbeats 400000 in
theorem unpack_good (num : Int) (short pilots : Bool) (s : ByteArray) (m n : Nat) (h : 0 < bitsN num short) (hm : bitsN num short / 8 = m) (hs : s.size = m) (hd : Hid (hdecode (s.extract 0 10) = (headV 24576 0 ((8 * n : Nat) : Int) 0 0, 0))) (hn : n + 10 ≤ m) (w : World) :
    Calls Try.prog 23 #[modeV num short pilots, .string s] w fun e w' => e = .returned (.tuple #[.string (s.extract 10 (10 + n)), .int .i64 0]) ∧ Below w.heap.size w w' := by
  have hS := fun w => sizes_is num short pilots h w
  have hle := bitsN_least num short h
  have hr := bitsN_range num short
  simp only [hm] at hS
  have h10 : (10 : Int) ≤ s.size := by omega
  have h10' : 10 ≤ s.size := by omega
  have hsm : (s.size : Int) = m := by omega
  have hm2 : m ≤ 7274 := by omega
  have hn2 : (n : Int) ≤ m - 10 := by omega
  clear hm h
  unfold modeV at *
  go_enter Try.func23, Try.ntmps23
  go_wp2_with fail
  refine (hS _).mono ?_
  rintro e w2 ⟨rfl, q2⟩
  have Q2 : Hid (Below w.heap.size w w2) := Lib.hid (bthen ((Below.refl _ _).alloc (Nat.le_refl _) _) q2)
  clear q2
  go_wp2_with fail
  refine (hdecE _ _ 0 hd _).mono ?_
  rintro e w3 ⟨rfl, q3⟩
  have Q3 : Hid (Below w.heap.size w w3) := Lib.hid (bthen Q2.out q3)
  clear q3 Q2
  go_upto_region 10 with fail
  obtain ⟨w4, hw4, B4, q4⟩ := head_newA w3 24576 0 (8 * n) 0 0
  rw [hw4]
  clear hw4
  have hne : Nonempty (WIn (Below w4.heap.size w4)) := ⟨⟨w4, Below.refl _ _⟩⟩
  have hi0 : ∀ y : WIn (Below w4.heap.size w4), y.val.cell? ⟨w3.heap.size, 0, none⟩ = some (.int .i64 24576) := fun y => (B4.out.below y.property B4.out.lt).cell 0 rfl
  have hi1 : ∀ y : WIn (Below w4.heap.size w4), y.val.cell? ⟨w3.heap.size, 1, none⟩ = some (.int .i64 0) := fun y => (B4.out.below y.property B4.out.lt).cell 1 rfl
  have hi2 : ∀ y : WIn (Below w4.heap.size w4), y.val.cell? ⟨w3.heap.size, 2, none⟩ = some (.int .i64 (8 * n)) := fun y => (B4.out.below y.property B4.out.lt).cell 2 rfl
  have hi3 : ∀ y : WIn (Below w4.heap.size w4), y.val.cell? ⟨w3.heap.size, 3, none⟩ = some (.int .i64 0) := fun y => (B4.out.below y.property B4.out.lt).cell 3 rfl
  have hi4 : ∀ y : WIn (Below w4.heap.size w4), y.val.cell? ⟨w3.heap.size, 4, none⟩ = some (.int .i64 0) := fun y => (B4.out.below y.property B4.out.lt).cell 4 rfl
  refine wp_region_inv (Below w4.heap.size w4) (by kernel_rfl) (by kernel_rfl) (Below.refl _ _).drew ?_
  repeat (go_big_quiet_step ((go_at_call 36; exact quiet_call _ (head_is n (by omega) _))))
  refine wpQuiet_nil ?_
  intro w5 q5
  have Q5 : Hid (Below w.heap.size w w5) := Lib.hid (Q3.out.trans ((q4.out.trans (q5.mono q4.out.size)).mono Q3.out.size))
  clear q5 hi0 hi1 hi2 hi3 hi4 hne
  go_wp2_with fail
  go_returns
  exact ⟨rfl, Q5.out⟩

set_option maxRecDepth 100000 in
set_option maxHeartbeats 400000 in
theorem unpack_over (num : Int) (short pilots : Bool) (s : ByteArray) (m n : Nat) (h : 0 < bitsN num short) (hm : bitsN num short / 8 = m) (hs : s.size = m) (hd : Hid (hdecode (s.extract 0 10) = (headV 24576 0 ((8 * n : Nat) : Int) 0 0, 0))) (hn : ¬ n + 10 ≤ m) (h7 : n ≤ 7264) (w : World) :
    Calls Try.prog 23 #[modeV num short pilots, .string s] w fun e w' => e = .returned (.tuple #[.string ⟨#[]⟩, .int .i64 4]) ∧ Below w.heap.size w w' := by
  have hS := fun w => sizes_is num short pilots h w
  have hle := bitsN_least num short h
  have hr := bitsN_range num short
  simp only [hm] at hS
  have h10 : (10 : Int) ≤ s.size := by omega
  have h10' : 10 ≤ s.size := by omega
  have hsm : (s.size : Int) = m := by omega
  have hm2 : m ≤ 7274 := by omega
  have hn2 : (m : Int) - 10 < n := by omega
  clear hm h
  unfold modeV at *
  go_enter Try.func23, Try.ntmps23
  go_wp2_with fail
  refine (hS _).mono ?_
  rintro e w2 ⟨rfl, q2⟩
  have Q2 : Hid (Below w.heap.size w w2) := Lib.hid (bthen ((Below.refl _ _).alloc (Nat.le_refl _) _) q2)
  clear q2
  go_wp2_with fail
  refine (hdecE _ _ 0 hd _).mono ?_
  rintro e w3 ⟨rfl, q3⟩
  have Q3 : Hid (Below w.heap.size w w3) := Lib.hid (bthen Q2.out q3)
  clear q3 Q2
  go_upto_region 10 with fail
  obtain ⟨w4, hw4, B4, q4⟩ := head_newA w3 24576 0 (8 * n) 0 0
  rw [hw4]
  clear hw4
  have hne : Nonempty (WIn (Below w4.heap.size w4)) := ⟨⟨w4, Below.refl _ _⟩⟩
  have hi0 : ∀ y : WIn (Below w4.heap.size w4), y.val.cell? ⟨w3.heap.size, 0, none⟩ = some (.int .i64 24576) := fun y => (B4.out.below y.property B4.out.lt).cell 0 rfl
  have hi1 : ∀ y : WIn (Below w4.heap.size w4), y.val.cell? ⟨w3.heap.size, 1, none⟩ = some (.int .i64 0) := fun y => (B4.out.below y.property B4.out.lt).cell 1 rfl
  have hi2 : ∀ y : WIn (Below w4.heap.size w4), y.val.cell? ⟨w3.heap.size, 2, none⟩ = some (.int .i64 (8 * n)) := fun y => (B4.out.below y.property B4.out.lt).cell 2 rfl
  have hi3 : ∀ y : WIn (Below w4.heap.size w4), y.val.cell? ⟨w3.heap.size, 3, none⟩ = some (.int .i64 0) := fun y => (B4.out.below y.property B4.out.lt).cell 3 rfl
  have hi4 : ∀ y : WIn (Below w4.heap.size w4), y.val.cell? ⟨w3.heap.size, 4, none⟩ = some (.int .i64 0) := fun y => (B4.out.below y.property B4.out.lt).cell 4 rfl
  refine wp_region_inv (Below w4.heap.size w4) (by kernel_rfl) (by kernel_rfl) (Below.refl _ _).drew ?_
  repeat (go_big_quiet_step ((go_at_call 36; exact quiet_call _ (head_is n (by omega) _))))
  refine wpQuiet_nil ?_
  intro w5 q5
  have Q5 : Hid (Below w.heap.size w w5) := Lib.hid (Q3.out.trans ((q4.out.trans (q5.mono q4.out.size)).mono Q3.out.size))
  clear q5 hi0 hi1 hi2 hi3 hi4 hne
  go_wp2_with fail
  go_returns
  exact ⟨rfl, Q5.out⟩

set_option maxRecDepth 100000 in
set_option maxHeartbeats 400000 in
theorem unpack_bad (num : Int) (short pilots : Bool) (s : ByteArray) (m A B C D E : Nat) (h : 0 < bitsN num short) (hm : bitsN num short / 8 = m) (hs : s.size = m) (hd : Hid (hdecode (s.extract 0 10) = (headV A B C D E, 0))) (hC : C ≤ 58112) (hbad : ¬ (A = 24576 ∧ B = 0 ∧ C = 8 * (C / 8) ∧ D = 0 ∧ E = 0)) (w : World) :
    Calls Try.prog 23 #[modeV num short pilots, .string s] w fun e w' => e = .returned (.tuple #[.string ⟨#[]⟩, .int .i64 4]) ∧ Below w.heap.size w w' := by
  have hS := fun w => sizes_is num short pilots h w
  have hle := bitsN_least num short h
  have hr := bitsN_range num short
  simp only [hm] at hS
  have h10 : (10 : Int) ≤ s.size := by omega
  have h10' : 10 ≤ s.size := by omega
  have hsm : (s.size : Int) = m := by omega
  have hm2 : m ≤ 7274 := by omega
  clear hm h
  obtain ⟨q, hq⟩ : ∃ q : Nat, C / 8 = q := ⟨_, rfl⟩
  have hq2 : (C : Int) / 8 = q := by omega
  rw [hq] at hbad
  have hnq : ∀ w, (binOp .neq THead (headV A B C D E) (headV 24576 0 (8 * q) 0 0)).run Try.prog w = .ok (.bool true) w := fun w => by
    have e : (decide ((A : Int) = 24576) && decide ((B : Int) = 0) && decide ((C : Int) = 8 * q) && decide ((D : Int) = 0) && decide ((E : Int) = 0)) = false := by
      simp only [← Bool.decide_and]
      exact decide_eq_false (by omega)
    rw [head_neq, e]
    rfl
  have hHd := fun w => head_is q (by omega) w
  simp only [Int.natCast_mul, Int.cast_ofNat_Int] at hHd
  unfold modeV at *
  go_enter Try.func23, Try.ntmps23
  go_wp2_with fail
  refine (hS _).mono ?_
  rintro e w2 ⟨rfl, q2⟩
  have Q2 : Hid (Below w.heap.size w w2) := Lib.hid (bthen ((Below.refl _ _).alloc (Nat.le_refl _) _) q2)
  clear q2
  go_wp2_with fail
  refine (hdecE _ _ 0 hd _).mono ?_
  rintro e w3 ⟨rfl, q3⟩
  have Q3 : Hid (Below w.heap.size w w3) := Lib.hid (bthen Q2.out q3)
  clear q3 Q2
  go_upto_region 10 with fail
  obtain ⟨w4, hw4, B4, q4⟩ := head_newA w3 A B C D E
  rw [hw4]
  clear hw4
  have hne : Nonempty (WIn (Below w4.heap.size w4)) := ⟨⟨w4, Below.refl _ _⟩⟩
  have hi0 : ∀ y : WIn (Below w4.heap.size w4), y.val.cell? ⟨w3.heap.size, 0, none⟩ = some (.int .i64 A) := fun y => (B4.out.below y.property B4.out.lt).cell 0 rfl
  have hi1 : ∀ y : WIn (Below w4.heap.size w4), y.val.cell? ⟨w3.heap.size, 1, none⟩ = some (.int .i64 B) := fun y => (B4.out.below y.property B4.out.lt).cell 1 rfl
  have hi2 : ∀ y : WIn (Below w4.heap.size w4), y.val.cell? ⟨w3.heap.size, 2, none⟩ = some (.int .i64 C) := fun y => (B4.out.below y.property B4.out.lt).cell 2 rfl
  have hi3 : ∀ y : WIn (Below w4.heap.size w4), y.val.cell? ⟨w3.heap.size, 3, none⟩ = some (.int .i64 D) := fun y => (B4.out.below y.property B4.out.lt).cell 3 rfl
  have hi4 : ∀ y : WIn (Below w4.heap.size w4), y.val.cell? ⟨w3.heap.size, 4, none⟩ = some (.int .i64 E) := fun y => (B4.out.below y.property B4.out.lt).cell 4 rfl
  clear hbad hr hle hm2
  refine wp_region_inv (Below w4.heap.size w4) (by kernel_rfl) (by kernel_rfl) (Below.refl _ _).drew ?_
  repeat (go_big_quiet_step ((go_at_call 36; exact quiet_call _ (hHd _))))
  refine wpQuiet_nil ?_
  intro w5 q5
  have Q5 : Hid (Below w.heap.size w w5) := Lib.hid (Q3.out.trans ((q4.out.trans (q5.mono q4.out.size)).mono Q3.out.size))
  clear q5 hi0 hi1 hi2 hi3 hi4 hne
  go_wp2_with fail
  go_returns
  exact ⟨rfl, Q5.out⟩

end Go.Proofs.Ytdipbdoekmcgbaa
