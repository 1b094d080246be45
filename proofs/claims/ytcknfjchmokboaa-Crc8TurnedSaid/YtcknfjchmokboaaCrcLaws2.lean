/-
  Crc8Is, Crc8Turned: the walks.
-/
import Derived.Test.YtcknfjchmokboaaCrcLaws
import Derived.Test.YtcknfjchmokboaaCrcRef
namespace Go.Proofs.Ytcknfjchmokboaa
open Go.RowKit

set_option maxRecDepth 100000 in
set_option maxHeartbeats 400000 in
theorem crc8Is_walk (s : ByteArray) (w : World) (hs : s.size ≤ maxLen) : Calls Try.prog 3 #[.string s] w fun e w' => e = .returned (.bool true) ∧ Below w.heap.size w w' := by
  have hs2 := hs
  unfold maxLen at hs2
  go_enter Try.func3, Try.ntmps3
  go_wp2_with fail
  all_goals
    refine (sum_any _ _ (by first | exact hs | (simp [maxLen]; omega))).mono ?_
    rintro e w1 ⟨rfl, b1⟩
    go_wp2_with fail
    refine (refsum _ _ (by first | exact hs | (simp [maxLen]; omega))).mono ?_
    rintro e _ ⟨rfl, rfl⟩
    go_wp2_with fail
    refine (works02 _).mono ?_
    rintro e w2 ⟨rfl, b2⟩
    go_wp2_with fail
    go_returns
    exact ⟨rfl, bthen b1 b2⟩

set_option maxRecDepth 100000 in
set_option maxHeartbeats 400000 in
theorem crc8Turned_walk (s : ByteArray) (at1 bits1 : Int) (w : World) (hs : s.size ≤ maxLen) (ha : 0 ≤ at1 ∧ at1 ≤ 65535) (hb : 0 ≤ bits1 ∧ bits1 ≤ 255) :
    Calls Try.prog 4 #[.string s, .int .u16 at1, .int .u8 bits1] w fun e w' => e = .returned (.bool true) ∧ Below w.heap.size w w' := by
  obtain ⟨at2, rfl⟩ := Int.eq_ofNat_of_zero_le ha.1
  obtain ⟨bt, rfl⟩ := Int.eq_ofNat_of_zero_le hb.1
  have hs2 := hs
  unfold maxLen at hs2
  obtain ⟨ha1, ha2⟩ := ha
  obtain ⟨hb1, hb2⟩ := hb
  obtain ⟨t0, ht0⟩ : ∃ t0 : ByteArray, t0 = if (s.size : Int) ≤ 5000 then s else s.extract 0 5000 := ⟨_, rfl⟩
  have ht1 : t0.size ≤ 5000 := by rw [ht0]; split; omega; (simp; omega)
  have hcut : Calls Try.prog 4 #[.string s, .int .u16 at2, .int .u8 bt] w fun e w' => e = .returned (.bool true) ∧ Below w.heap.size w w' := by
    go_enter Try.func4, Try.ntmps4
    go_wp2_with fail
    refine (works02 _).mono ?_
    rintro e w1 ⟨rfl, b1⟩
    by_cases hle : (s.size : Int) ≤ 5000
    all_goals
      first | rw [if_pos hle] at ht0 | rw [if_neg hle] at ht0
      subst ht0
      go_wp2_with fail
      refine (closed_any _ _ (by omega)).mono ?_
      rintro e w2 ⟨he, b2⟩
      obtain ⟨t, ht, rfl⟩ : ∃ t : ByteArray, t.data.toList = _ ∧ e = .returned (.string t) := ⟨_, closedB_list _, he⟩
      clear he
      have hlen := len_bytes t
      have htl : t.data.toList.length ≤ 5001 ∧ 0 < t.data.toList.length := by
        rw [ht, List.length_append, List.length_singleton]
        rw [len_bytes]
        omega
      rw [hlen] at htl
      obtain ⟨hts1, hts2⟩ := htl
      have hz : crcL t.data.toList = 0 := by rw [ht]; exact crcL_closed _
      have b3 := bytesW_below w2 t
      have hi := bytesW_is w2 t
      have hsz := Lib.hid (bytesW_size w2 t)
      have hst := string_run hi t.size (bytesCap w2 t) hlen
      have hbr := bytes_run w2 t
      clear ht
      generalize bytesW w2 t = w3 at *
      generalize bytesCap w2 t = cap at *
      have Hlen := Lib.hid hlen
      clear hlen
      have Hi := Lib.hid hi
      clear hi
      have hp1 : (0 : Int) < (t.size : Int) := by omega
      have hp2 : (t.size : Int) ≤ 5001 := by omega
      go_wp2_with fail
      refine (sum_any _ _ (by rw [size_mk, Hlen.out]; unfold maxLen; omega)).mono ?_
      rintro e w4 ⟨rfl, b4⟩
      have HZ := Lib.hid hz
      obtain ⟨f, hf⟩ : ∃ f : Nat, (f : Int) = (at2 : Int) % (8 * (t.size : Int)) := ⟨((at2 : Int) % (8 * (t.size : Int))).toNat, Int.toNat_of_nonneg (Int.emod_nonneg _ (by omega))⟩
      have hfl : f < 8 * t.size := by
        have := Int.emod_lt_of_pos (at2 : Int) (show 0 < 8 * (t.size : Int) by omega)
        omega
      have hf2 := hf.symm
      clear hf
      go_wp2_with fail
      rw [hf2]
      clear hf2 hst hbr hz
      have HS := hsz.out
      have hB : w.heap.size ≤ w2.heap.size := Nat.le_trans b1.size b2.size
      have Hi4 : IsBytes w4 w2.heap.size t.data.toList := Hi.out.below b4 (by omega)
      have hbw : Below w.heap.size w w4 := bthen b1 (bthen b2 (bthen b3 b4))
      clear HS hsz
      have Hb0 := Lib.hid (And.intro Hi4 hbw)
      clear Hi4 hbw Hi b4
      clear b1 b2 b3
      generalize w2.heap.size = B at *
      go_loopw [9, 10] (fun tu i wr => ∃ (k : Nat) (L : List UInt8), k ≤ 8 ∧ f + k ≤ 8 * t.size ∧ i = .int .i64 k ∧ tu = .bool (anyBit bt k) ∧ L.length = t.size ∧ crcL L = burst bt (8 * t.size - f) k ∧ IsBytes wr B L ∧ Below w.heap.size w wr) (fun _ i _ => 8 - (intOf i).toNat)
      case atStart => exact ⟨0, t.data.toList, by omega, by omega, rfl, rfl, Hlen.out, HZ.out, Hb0.out.1, Hb0.out.2⟩
      case round =>
        obtain ⟨k, L, hk1, hk2, rfl, rfl, hL, hcr, hib, hbl⟩ := hrel
        have HL := Lib.hid hL
        have HC := Lib.hid hcr
        have HI := Lib.hid hib
        have hLs : L.length < 5002 := by omega
        clear hL hcr hib
        by_cases h8 : k < 8
        · by_cases hlt : f + k < 8 * t.size
          · have hlt2 : (f : Int) + (k : Int) < 8 * (t.size : Int) := by omega
            have hdv : (f + k) / 8 < L.length := by rw [HL.out]; omega
            have hce := (HI.out _ hdv).1
            have hfe := (HI.out _ hdv).2
            go_wp2
            · have hbit : (bits BinOp.and IntKind.u8 ((bt : Int) / 2 ^ k) 1 == 1) = true := by assumption
              rw [bit_fact bt k (by omega) h8] at hbit
              go_region
              go_wp2
              clear hce hfe
              rw [xor_bit]
              refine ⟨⟨k + 1, L.set ((f + k) / 8) (L[(f + k) / 8] ^^^ bitByte (f + k)), by omega, by omega, by go_num, ?_, ?_, ?_, ?_, ?_⟩, by simp [intOf]; omega⟩
              · rw [anyBit_hit bt k hbit]
              · rw [List.length_set, HL.out]
              · exact crcL_turn L bt f k t.size HL.out hlt HC.out hdv hbit
              · exact (HI.out.set _ hdv _).drew
              · exact (hbl.setCell hB _).drew
            · have hbit : (bits BinOp.and IntKind.u8 ((bt : Int) / 2 ^ k) 1 == 1) = false := by assumption
              rw [bit_fact bt k (by omega) h8] at hbit
              refine ⟨⟨k + 1, L, by omega, by omega, by go_num, ?_, HL.out, ?_, HI.out, hbl⟩, by simp [intOf]; omega⟩
              · rw [anyBit_miss bt k hbit]
              · rw [burst_same bt _ k hbit, HC.out]
          · have hst := string_run HI.out t.size cap HL.out
            have hge : 8 * (t.size : Int) ≤ (f : Int) + (k : Int) := by omega
            have hK : min 8 (8 * t.size - f) = k := by omega
            have hz := burst_zero bt (8 * t.size - f) (by omega) (by omega)
            rw [hK, ← HC.out] at hz
            have HZ2 := Lib.hid hz
            clear hz hK
            go_wp2_with fail
            refine (sum_any _ _ (by rw [size_mk, HL.out]; unfold maxLen; omega)).mono ?_
            rintro e w5 ⟨rfl, b5⟩
            go_wp2_with fail
            go_returns
            exact ⟨congrArg (fun b => Ending.returned (Value.bool b)) (beq_zero_cast _ _ HZ2.out), bthen hbl b5⟩
        · have hst := string_run HI.out t.size cap HL.out
          obtain rfl : k = 8 := by omega
          have hK : min 8 (8 * t.size - f) = 8 := by omega
          have hz := burst_zero bt (8 * t.size - f) (by omega) (by omega)
          rw [hK, ← HC.out] at hz
          have HZ2 := Lib.hid hz
          clear hz hK
          go_wp2_with fail
          refine (sum_any _ _ (by rw [size_mk, HL.out]; unfold maxLen; omega)).mono ?_
          rintro e w5 ⟨rfl, b5⟩
          go_wp2_with fail
          go_returns
          exact ⟨congrArg (fun b => Ending.returned (Value.bool b)) (beq_zero_cast _ _ HZ2.out), bthen hbl b5⟩
  exact hcut

end Go.Proofs.Ytcknfjchmokboaa
