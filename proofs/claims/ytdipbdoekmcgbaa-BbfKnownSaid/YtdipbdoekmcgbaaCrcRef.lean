/-
  aerialref02.Sum by its contract: it answers crcL of its bytes, and writes nothing.
-/
import Derived.Test.YtdipbdoekmcgbaaCrc
namespace Go.Proofs.Ytdipbdoekmcgbaa
open Go.RowKit

theorem i64_xor_nat (a b : Nat) (ha : a < 9223372036854775808) (hb : b < 9223372036854775808) : bits .xor .i64 (a : Int) (b : Int) = ((a ^^^ b : Nat) : Int) := by
  have hx : a ^^^ b < 2 ^ 63 := Nat.xor_lt_two_pow (by omega) (by omega)
  show IntKind.i64.wrap ((BitVec.ofInt 64 (a : Int) ^^^ BitVec.ofInt 64 (b : Int)).toNat : Int) = _
  have o (a : Nat) (ha : a < 9223372036854775808) : (BitVec.ofInt 64 (a : Int)).toNat = a := by
    rw [BitVec.ofInt_natCast, BitVec.toNat_ofNat]; exact Nat.mod_eq_of_lt (by omega)
  rw [BitVec.toNat_xor, o a ha, o b hb, IntKind.wrap_i64]
  omega

theorem cstep_facts64 : ∀ n : Nat, n < 256 → bits BinOp.xor IntKind.i64 (2 * (n : Int) % 256) 213 = (((2 * n % 256) ^^^ 213 : Nat) : Int) := by decide +kernel
set_option maxRecDepth 100000 in
set_option maxHeartbeats 400000 in
theorem refsum (s : ByteArray) (w : World) (hs : s.size ≤ maxLen) :
    Calls Try.prog 31 #[.string s] w fun e w' => e = .returned (.int .u8 (crcL s.data.toList)) ∧ w = w' := by
  unfold maxLen at hs
  go_enter Try.func31, Try.ntmps31
  go_wp2
  go_loop [3, 4] (fun n i => ∃ k : Nat, k ≤ s.size ∧ i = .int .i64 k ∧ n = .int .i64 (crcL (s.data.toList.take k))) (fun _ i => s.size - (intOf i).toNat)
  case atStart => exact ⟨0, Nat.zero_le _, rfl, rfl⟩
  case round =>
    obtain ⟨k, hk, rfl, rfl⟩ := hrel
    by_cases hlt : k < s.size
    · have hlt1 : (k : Int) < (s.size : Int) := by omega
      have hcl := crcL_lt (s.data.toList.take k)
      have hsl := s[k].toNat_lt
      have hx := i64_xor_nat (crcL (s.data.toList.take k)) s[k].toNat (by omega) (by omega)
      have hxl : crcL (s.data.toList.take k) ^^^ s[k].toNat < 256 := Nat.xor_lt_two_pow (n := 8) (crcL_lt _) s[k].toNat_lt
      have hsn := Lib.hid (crcL_snoc (s.data.toList.take k) s[k])
      have hts := Lib.hid (take_snoc s k hlt)
      go_wp2
      clear hx
      generalize hn0 : crcL (s.data.toList.take k) ^^^ s[k].toNat = n0 at *
      clear hn0
      go_loop [3, 5] (fun n i => ∃ j : Nat, j ≤ 8 ∧ i = .int .i64 j ∧ n = .int .i64 (citer j n0)) (fun _ i => 8 - (intOf i).toNat)
      case atStart => exact ⟨0, by omega, rfl, rfl⟩
      case round =>
        obtain ⟨j, hj, rfl, rfl⟩ := hrel
        by_cases hl : j < 8
        · have hlt2 := citer_lt j hxl
          have hx := cstep_facts64 _ hlt2
          have hp : citer (j + 1) n0 = cstep (citer j n0) := rfl
          generalize hc : citer j n0 = c at *
          clear hc
          have HP := Lib.hid hp
          rename w = w => hww
          clear hww
          clear hp
          by_cases h1 : 128 ≤ c
          · go_wp2
            exact ⟨⟨j + 1, by omega, by go_num, by rw [HP.out, cstep, if_pos h1]⟩, by simp [intOf]; omega⟩
          · go_wp2
            exact ⟨⟨j + 1, by omega, by go_num, by rw [HP.out, cstep, if_neg h1]; go_num⟩, by simp [intOf]; omega⟩
        · go_wp2
          obtain rfl : j = 8 := by omega
          exact ⟨⟨k + 1, by omega, by go_num, by rw [hts.out, hsn.out]⟩, by simp [intOf]; omega⟩
    · have e := Lib.hid (List.take_of_length_le (l := s.data.toList) (i := k) (by simp; omega))
      have hcl := crcL_lt (s.data.toList.take k)
      go_wp2
      go_returns
      refine ⟨?_, rfl⟩
      rw [e.out]
      rfl

end Go.Proofs.Ytdipbdoekmcgbaa
