/-
  BbfModes: the walk.
-/
import Derived.Test.YtdipbdoekmcgbaaBbf7
namespace Go.Proofs.Ytdipbdoekmcgbaa
open Go.RowKit

structure MM (w0 w : World) (b : Nat) (num : Int) (short pilots : Bool) : Prop where
  M : Blk w b [.int .i64 num, .bool short, .bool pilots] 41
  q : Below w0.heap.size w0 w
theorem MM.below {w0 w w' : World} {b : Nat} {num : Int} {short pilots : Bool} (h : MM w0 w b num short pilots) (k : Below w.heap.size w w') : MM w0 w' b num short pilots := ⟨h.M.below k h.M.lt, bthen h.q k⟩
theorem MM.new {w0 w : World} (num : Int) (short pilots : Bool) (h : Below w0.heap.size w0 w) : MM w0 (w.alloc (.cells #[.int .i64 num, .bool short, .bool pilots] 41)) w.heap.size num short pilots := ⟨Blk.new _ _ _, h.alloc h.size _⟩
theorem pack_size (num : Int) (short : Bool) (f S : ByteArray) (k : Int) (h : packS num short f = (S, k)) : (k ≠ 0 ∧ S = ⟨#[]⟩) ∨ (k = 0 ∧ 0 < bitsN num short ∧ ((bitsN num short / 8).toNat : Int) = bitsN num short / 8 ∧ f.size + 10 ≤ (bitsN num short / 8).toNat ∧ S.data.toList = frameL (bitsN num short / 8).toNat f.data.toList) := by
  have hr := bitsN_range num short
  unfold packS at h
  by_cases h0 : 0 < bitsN num short
  · rw [if_pos h0] at h
    by_cases h1 : f.size + 10 ≤ (bitsN num short / 8).toNat
    · rw [if_pos h1] at h
      injection h with e1 e2
      exact .inr ⟨e2.symm, h0, by omega, h1, by rw [← e1]⟩
    · rw [if_neg h1] at h
      injection h with e1 e2
      exact .inl ⟨by omega, e1.symm⟩
  · rw [if_neg h0] at h
    injection h with e1 e2
    exact .inl ⟨by omega, e1.symm⟩
theorem bitsN_mod (num : Int) (short : Bool) : bitsN num short % 8 = 0 := by
  by_cases hn : num < 1 ∨ 28 < num
  · have e : bitsN num short = 0 := by unfold bitsN; rw [if_pos hn]
    omega
  · have h : ∀ n : Nat, n < 29 → ∀ s : Bool, 1 ≤ n → bitsN n s % 8 = 0 := by decide +kernel
    obtain ⟨n, rfl⟩ : ∃ n : Nat, num = n := ⟨num.toNat, by omega⟩
    exact h n (by omega) short (by omega)

set_option maxRecDepth 100000 in
set_option maxHeartbeats 4000000 in
theorem bbfModes_walk (a b : Int) (a0 : 0 ≤ a) (a1 : a ≤ 255) (b0 : 0 ≤ b) (b1 : b ≤ 255) (f : ByteArray) (w : World) : Calls Try.prog 11 #[.int .u8 a, .int .u8 b, .string f] w fun r w' => r = .returned (.bool true) ∧ Below w.heap.size w w' := by
  have hc : ∃ f1 : ByteArray, (((f.size : Int) ≤ 1500 ∧ f1 = f) ∨ ((1500 : Int) < (f.size : Int) ∧ f.extract 0 1500 = f1)) ∧ f1.size ≤ 1500 := by
    by_cases h : (f.size : Int) ≤ 1500
    · exact ⟨f, .inl ⟨h, rfl⟩, by omega⟩
    · exact ⟨_, .inr ⟨by omega, rfl⟩, by rw [ByteArray.size_extract]; omega⟩
  obtain ⟨f1, hc, hf1⟩ := hc
  obtain ⟨n1, s1, p1, hM1⟩ := mode_has a a0 a1
  obtain ⟨n2, s2, p2, hM2⟩ := mode_has b b0 b1
  obtain ⟨S, k, hp⟩ : ∃ S k, packS n1 s1 f1 = (S, k) := ⟨_, _, rfl⟩
  have hps := pack_size n1 s1 f1 S k hp
  have HP := Lib.hid hp
  clear hp
  have hK1 := mod_kbch n1 s1 p1
  have hK2 := mod_kbch n2 s2 p2
  obtain ⟨B1, hB1⟩ : ∃ B, decide (0 < bitsN n1 s1) = B := ⟨_, rfl⟩
  obtain ⟨B2, hB2⟩ : ∃ B, decide (0 < bitsN n2 s2) = B := ⟨_, rfl⟩
  obtain ⟨x, hx⟩ : ∃ x, bitsN n1 s1 = x := ⟨_, rfl⟩
  obtain ⟨y, hy⟩ : ∃ y, bitsN n2 s2 = y := ⟨_, rfl⟩
  have l1 := bitsN_least n1 s1
  have l2 := bitsN_least n2 s2
  rw [hx] at hK1 l1 hps
  rw [hy] at hK2 l2
  rw [hB1] at hM1
  rw [hB2] at hM2
  -- what the second mode makes of it
  have hU : ∃ t kk, UnpackIs n2 s2 S t kk ∧ ((¬ 0 < y ∧ B2 = false ∧ t = ⟨#[]⟩ ∧ kk = 15) ∨ (0 < y ∧ B2 = true ∧ k ≠ 0 ∧ S = ⟨#[]⟩ ∧ t = ⟨#[]⟩ ∧ kk = 4) ∨ (0 < y ∧ B2 = true ∧ k = 0 ∧ B1 = true ∧ 0 < x ∧ x ≠ y ∧ t = ⟨#[]⟩ ∧ kk = 4) ∨ (0 < y ∧ B2 = true ∧ k = 0 ∧ B1 = true ∧ 0 < x ∧ x = y ∧ t = f1 ∧ kk = 0)) := by
    by_cases hy0 : 0 < y
    · have e2 : B2 = true := by rw [← hB2, hy]; exact decide_eq_true hy0
      have h2 := l2 (by omega)
      obtain ⟨m, hm⟩ : ∃ m : Nat, y / 8 = m := ⟨(y / 8).toNat, by omega⟩
      rcases hps with ⟨hk, hS⟩ | ⟨hk, hx0, hxm, hfit, hSL⟩
      · refine ⟨⟨#[]⟩, 4, .inr ⟨m, by omega, by omega, .inl ⟨?_, rfl, rfl⟩⟩, .inr (.inl ⟨hy0, e2, hk, hS, rfl, rfl⟩)⟩
        rw [hS]
        show (0 : Nat) ≠ m
        omega
      · have e1 : B1 = true := by rw [← hB1, hx]; exact decide_eq_true hx0
        have hSs : S.size = (x / 8).toNat := by rw [← len_bytes, hSL, frameL_length _ _ (by rw [len_bytes]; omega)]
        by_cases hxy : x = y
        · refine ⟨f1, 0, unpack_frame n2 s2 m S f1 (by omega) (by omega) (by omega) ?_, .inr (.inr (.inr ⟨hy0, e2, hk, e1, hx0, hxy, rfl, rfl⟩))⟩
          rw [hSL, hxy, hm]
          rfl
        · refine ⟨⟨#[]⟩, 4, .inr ⟨m, by omega, by omega, .inl ⟨?_, rfl, rfl⟩⟩, .inr (.inr (.inl ⟨hy0, e2, hk, e1, hx0, hxy, rfl, rfl⟩))⟩
          have d1 := bitsN_mod n1 s1
          have d2 := bitsN_mod n2 s2
          rw [hx] at d1
          rw [hy] at d2
          omega
    · exact ⟨⟨#[]⟩, 15, .inl ⟨by omega, rfl, rfl⟩, .inl ⟨hy0, by rw [← hB2, hy]; exact decide_eq_false hy0, rfl, rfl⟩⟩
  obtain ⟨t, kk, hU, hcase⟩ := hU
  have HU := Lib.hid hU
  have hM1 := Lib.hid hM1
  have hM2 := Lib.hid hM2
  have hK1 := Lib.hid hK1
  have hK2 := Lib.hid hK2
  clear hU hps l1 l2 hB1 hB2 hx hy
  have HPE := Lib.hid (packE n1 s1 p1 f1 S k HP)
  have HUE := Lib.hid (unpackE n2 s2 p2 S t kk HU)
  clear HP HU
  unfold modeV at *
  go_enter Try.func11, Try.ntmps11
  rcases hc with ⟨hc, rfl⟩ | ⟨hc, hc2⟩
  all_goals
    go_wp2_with fail
    refine (works14 _).mono ?_
    rintro e w1 ⟨rfl, q1⟩
    have Q1 := Lib.hid q1
    clear q1
    go_wp2_with fail
    refine (hM1.out _).mono ?_
    rintro e w2 ⟨rfl, q2⟩
    have A2 := Lib.hid (MM.new n1 s1 p1 (bthen Q1.out q2))
    obtain ⟨b7, hb7⟩ : ∃ b, w2.heap.size = b := ⟨_, rfl⟩
    obtain ⟨w3, hw3⟩ : ∃ w3, w2.alloc (.cells #[.int .i64 n1, .bool s1, .bool p1] 41) = w3 := ⟨_, rfl⟩
    rw [hb7, hw3] at A2
    clear q2 Q1
    go_wp2_with fail
    refine (hM2.out _).mono ?_
    rintro e w4 ⟨rfl, q4⟩
    have A4 := Lib.hid (A2.out.below q4)
    have A5 := Lib.hid (A4.out.below ((Below.refl _ _).alloc (Nat.le_refl _) (.cells #[.int .i64 n2, .bool s2, .bool p2] 41)))
    have C5 := Lib.hid (MM.new n2 s2 p2 A4.out.q)
    obtain ⟨b9, hb9⟩ : ∃ b, w4.heap.size = b := ⟨_, rfl⟩
    obtain ⟨w5, hw5⟩ : ∃ w5, w4.alloc (.cells #[.int .i64 n2, .bool s2, .bool p2] 41) = w5 := ⟨_, rfl⟩
    rw [hb9, hw5] at C5
    rw [hw5] at A5
    clear q4 A4 A2
    have c0 := A5.out.M.cell 0 rfl
    have c1 := A5.out.M.cell 1 rfl
    have c2 := A5.out.M.cell 2 rfl
    go_wp2_with fail
    refine (HPE.out _).mono ?_
    rintro e w6 ⟨rfl, q6⟩
    have A6 := Lib.hid (A5.out.below q6)
    have C6 := Lib.hid (C5.out.below q6)
    clear q6 A5 C5 c0 c1 c2
    have c0 := C6.out.M.cell 0 rfl
    have c1 := C6.out.M.cell 1 rfl
    have c2 := C6.out.M.cell 2 rfl
    go_wp2_with fail
    refine (HUE.out _).mono ?_
    rintro e w7 ⟨rfl, q7⟩
    have A7 := Lib.hid (A6.out.below q7)
    have C7 := Lib.hid (C6.out.below q7)
    clear q7 A6 C6 c0 c1 c2 hw5 hw3 hb7 hb9
    rcases hcase with ⟨hy0, rfl, rfl, rfl⟩ | ⟨hy0, rfl, hk, rfl, rfl, rfl⟩ | ⟨hy0, rfl, rfl, rfl, hx0, hxy, rfl, rfl⟩ | ⟨hy0, rfl, rfl, rfl, hx0, rfl, rfl, rfl⟩
    · go_wp2_with fail
      go_returns
      exact ⟨rfl, A7.out.q⟩
    · cases B1
      · go_wp2_with fail
        go_returns
        exact ⟨rfl, A7.out.q⟩
      · go_wp2_with fail
        go_returns
        exact ⟨rfl, A7.out.q⟩
    · have hkx : (if 0 < x then x else 0) = x := if_pos hx0
      have hky : (if 0 < y then y else 0) = y := if_pos hy0
      rw [hkx] at hK1
      rw [hky] at hK2
      have c0 := A7.out.M.cell 0 rfl
      have c1 := A7.out.M.cell 1 rfl
      have c2 := A7.out.M.cell 2 rfl
      go_wp2_with fail
      refine (hK1.out _).mono ?_
      rintro e w8 ⟨rfl, q8⟩
      have A8 := Lib.hid (A7.out.below q8)
      have C8 := Lib.hid (C7.out.below q8)
      clear q8 A7 C7 c0 c1 c2
      have c0 := C8.out.M.cell 0 rfl
      have c1 := C8.out.M.cell 1 rfl
      have c2 := C8.out.M.cell 2 rfl
      go_wp2_with fail
      refine (hK2.out _).mono ?_
      rintro e w9 ⟨rfl, q9⟩
      have A9 := Lib.hid (A8.out.below q9)
      clear q9 A8 C8 c0 c1 c2
      go_wp2_with fail
      go_returns
      exact ⟨rfl, A9.out.q⟩
    · have hkx : (if 0 < x then x else 0) = x := if_pos hx0
      rw [hkx] at hK1 hK2
      have c0 := A7.out.M.cell 0 rfl
      have c1 := A7.out.M.cell 1 rfl
      have c2 := A7.out.M.cell 2 rfl
      go_wp2_with fail
      refine (hK1.out _).mono ?_
      rintro e w8 ⟨rfl, q8⟩
      have A8 := Lib.hid (A7.out.below q8)
      have C8 := Lib.hid (C7.out.below q8)
      clear q8 A7 C7 c0 c1 c2
      have c0 := C8.out.M.cell 0 rfl
      have c1 := C8.out.M.cell 1 rfl
      have c2 := C8.out.M.cell 2 rfl
      go_wp2_with fail
      refine (hK2.out _).mono ?_
      rintro e w9 ⟨rfl, q9⟩
      have A9 := Lib.hid (A8.out.below q9)
      clear q9 A8 C8 c0 c1 c2
      go_wp2_with fail
      go_returns
      exact ⟨rfl, A9.out.q⟩

end Go.Proofs.Ytdipbdoekmcgbaa
