/-
  crc8.Sum by its contract: it answers crcL of its bytes, and writes nothing that was there.
-/
import Derived.Test.YtdipbdoekmcgbaaCrcPure
namespace Go.Proofs.Ytdipbdoekmcgbaa
open Go.RowKit

set_option maxHeartbeats 400000 in
theorem step_any (b : Nat) (n : Nat) (w : World) (hn : n < 256) (hc : w.heap[b]? = some (.cells #[.int .u8 n] 5 (0, 0))) :
    Calls Try.prog 47 #[.pointer (some ⟨b, 0, none⟩)] w fun e w' => e = .returned (.tuple #[]) ∧ w.grownBy w' (some b) ∧ w'.heap[b]? = some (.cells #[.int .u8 (cstep n)] 5 (0, 0)) := by
  have hcell := cell_of_one hc
  have hfree := free_of_one hc
  have HF := Lib.hid (cstep_facts n hn)
  go_enter Try.func47, Try.ntmps47
  go_wp2
  all_goals go_returns
  · have hd : (bits BinOp.and IntKind.u8 (n : Int) 128 != 0) = true := by assumption
    obtain ⟨_, h2, h3⟩ := HF.out
    have h4 : 128 ≤ n := by rw [h2] at hd; simpa using hd
    refine ⟨rfl, grown_trans (setCell_grown _ _ _ _) (setCell_grown _ _ _ _), ?_⟩
    rw [one_setCell (one_setCell hc), h3, cstep, if_pos h4]
  · have hd : (bits BinOp.and IntKind.u8 (n : Int) 128 != 0) = false := by assumption
    obtain ⟨_, h2, h3⟩ := HF.out
    have h4 : ¬ 128 ≤ n := by rw [h2] at hd; simpa using hd
    refine ⟨rfl, setCell_grown _ _ _ _, ?_⟩
    rw [one_setCell hc, cstep, if_neg h4]
    simp [Int.mul_comm]


set_option maxHeartbeats 400000 in
theorem sum_any (s : ByteArray) (w : World) (hs : s.size ≤ maxLen) :
    Calls Try.prog 28 #[.string s] w fun e w' => e = .returned (.int .u8 (crcL s.data.toList)) ∧ Below w.heap.size w w' := by
  have hmf : ∀ (fn : Fn) (first cap : Array Value) (w : World), (Instr.makeFunc fn first cap).run Try.prog w = .ok (.func fn first cap) w := fun _ _ _ _ => rfl
  unfold maxLen at hs
  go_enter Try.func28, Try.ntmps28
  go_wp2
  go_loopw [9] (fun i wr => ∃ k : Nat, k ≤ s.size ∧ i = .int .i64 k ∧ Below w.heap.size w wr ∧ wr.heap[w.heap.size]? = some (.cells #[.int .u8 (crcL (s.data.toList.take k))] 5 (0, 0))) (fun i _ => s.size - (intOf i).toNat)
  case atStart => exact ⟨0, Nat.zero_le _, rfl, (Below.refl _ _).alloc (Nat.le_refl _) _, heap_alloc_new w _⟩
  case round =>
    obtain ⟨k, hk, rfl, hb, hc⟩ := hrel
    have hcell := cell_of_one hc
    have hfree := free_of_one hc
    by_cases hlt : k < s.size
    · have hlt1 : (k : Int) < (s.size : Int) := by omega
      have hx := xor_u8 (crcL (s.data.toList.take k)) s[k].toNat (crcL_lt _) s[k].toNat_lt
      have hsn := Lib.hid (crcL_snoc (s.data.toList.take k) s[k])
      have hts := Lib.hid (take_snoc s k hlt)
      have hxl : crcL (s.data.toList.take k) ^^^ s[k].toNat < 256 := Nat.xor_lt_two_pow (n := 8) (crcL_lt _) s[k].toNat_lt
      go_wp2
      go_region
      go_wp2
      clear hx hcell hfree
      obtain ⟨wo, hwo⟩ : ∃ wo : World, wo = (wr.setCell ⟨w.heap.size, 0, none⟩ (.int .u8 ((crcL (s.data.toList.take k) ^^^ s[k].toNat : Nat) : Int))).drew := ⟨_, rfl⟩
      have hc2 : wo.heap[w.heap.size]? = some (.cells #[.int .u8 ((crcL (s.data.toList.take k) ^^^ s[k].toNat : Nat) : Int)] 5 (0, 0)) := by rw [hwo]; exact one_setCell hc
      have hb2 : Below w.heap.size w wo := by rw [hwo]; exact (hb.setCell (Nat.le_refl _) _).drew
      rw [← hwo]
      clear hwo hc hb
      rename_i wold _
      go_loopw [17] (fun i wr => ∃ j : Nat, j ≤ 8 ∧ i = .int .i64 j ∧ Below w.heap.size w wr ∧ wr.heap[w.heap.size]? = some (.cells #[.int .u8 (citer j (crcL (s.data.toList.take k) ^^^ s[k].toNat))] 5 (0, 0))) (fun i _ => 8 - (intOf i).toNat)
      case atStart => exact ⟨0, by omega, rfl, hb2, hc2⟩
      case round =>
        obtain ⟨j, hj, rfl, hb3, hc3⟩ := hrel
        clear hc2 hb2
        by_cases hl : j < 8
        · go_wp2_with (go_at_call 47; refine (step_any _ _ _ (citer_lt _ hxl) hc3).mono ?_; rintro e w' ⟨rfl, hg, hc4⟩)
          exact ⟨⟨j + 1, by omega, by go_num, hb3.grown hg (by have := lt_of_block hc3; omega) (fun k hk => by cases hk; exact Nat.le_refl _), hc4⟩, by simp [intOf]; omega⟩
        · go_wp2
          obtain rfl : j = 8 := by omega
          refine ⟨⟨k + 1, by omega, by go_num, hb3, ?_⟩, by simp [intOf]; omega⟩
          rw [hc3, hts.out, hsn.out]
    · go_wp2
      go_returns
      refine ⟨?_, hb⟩
      rw [List.take_of_length_le (by simp; omega)]
      rfl
end Go.Proofs.Ytdipbdoekmcgbaa
