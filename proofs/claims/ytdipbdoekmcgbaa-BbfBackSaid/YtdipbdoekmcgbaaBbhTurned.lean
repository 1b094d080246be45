/-
  BbhTurned: the walk.
-/
import Derived.Test.YtdipbdoekmcgbaaBbhBack
import Derived.Deep.CutBlock
namespace Go.Proofs.Ytdipbdoekmcgbaa
open Go.RowKit

/-- The bits the other way round. -/
def rev8 (n : Nat) : Nat := (n / 128 % 2) + 2 * (n / 64 % 2) + 4 * (n / 32 % 2) + 8 * (n / 16 % 2) + 16 * (n / 8 % 2) + 32 * (n / 4 % 2) + 64 * (n / 2 % 2) + 128 * (n % 2)
theorem rev8_facts : ∀ n : Nat, n < 256 → rev8 n < 256 ∧ (anyBit (rev8 n) 8 = decide (n ≠ 0)) := by decide +kernel
theorem and_fact : ∀ n : Nat, n < 256 → ∀ k : Nat, k < 8 → bits BinOp.and IntKind.u8 ((n : Int) / 2 ^ (7 - k)) 1 = if (rev8 n).testBit k then 1 else 0 := by decide +kernel
theorem shl_fact : ∀ r : Nat, r < 8 → (2 : Int) ^ (7 - r) % (256 : Int) = Int.ofNat (128 >>> r) := by decide +kernel
/-- What is turned at place q, in round k. -/
def maskB (n k q : Nat) : UInt8 := if (rev8 n).testBit k then bitByte q else 0
theorem mask_fact (n k q : Nat) (hn : n < 256) (hk : k < 8) : bits BinOp.and IntKind.u8 ((n : Int) / 2 ^ (7 - k)) 1 * 2 ^ (7 - q % 8) % 256 = ((maskB n k q).toNat : Int) := by
  rw [and_fact n hn k hk]
  unfold maskB
  split
  · rw [Int.one_mul, shl_fact (q % 8) (by omega), bitByte_toNat]
    rfl
  · simp
theorem hdecode_turned (L : List UInt8) (hL : L.length = 10) (hc : crcL L ≠ 0) : hdecode ⟨L.toArray⟩ = (headV 0 0 0 0 0, 10) := by
  obtain ⟨b0, b1, b2, b3, b4, b5, b6, b7, b8, b9, e⟩ := str10 ⟨L.toArray⟩ hL
  have el : L = [b0, b1, b2, b3, b4, b5, b6, b7, b8] ++ [b9] := congrArg (fun s : ByteArray => s.data.toList) e
  have h8 : (S10 b0 b1 b2 b3 b4 b5 b6 b7 b8 b9).size = 10 := rfl
  have h7 : crcL ((S10 b0 b1 b2 b3 b4 b5 b6 b7 b8 b9).extract 0 9).data.toList ≠ ((S10 b0 b1 b2 b3 b4 b5 b6 b7 b8 b9).data.toList.getD 9 0).toNat := by
    rw [ex09]
    intro h
    apply hc
    rw [el, crcL_snoc]
    have h' : crcL [b0, b1, b2, b3, b4, b5, b6, b7, b8] = b9.toNat := h
    rw [h', Nat.xor_self, citer_zero]
  rw [e]
  unfold hdecode
  rw [if_neg (fun h => h h8), if_pos h7]
theorem turned10 (n f : Nat) (L : List UInt8) (hf : f < 73) (hn : n < 256) (h0 : n ≠ 0) (hc : crcL L = burst (rev8 n) (80 - f) 8) : crcL L ≠ 0 := by
  have hz := burst_zero (rev8 n) (80 - f) (rev8_facts n hn).1 (by omega)
  rw [show min 8 (80 - f) = 8 by omega, ← hc, (rev8_facts n hn).2, decide_eq_true h0] at hz
  simpa using hz

set_option maxRecDepth 100000 in
set_option maxHeartbeats 1600000 in
theorem bbhTurned_walk (a b c0 d0 e : Int) (u0 u1 : Int) (h0 : 0 ≤ a ∧ a ≤ 65535) (h1 : 0 ≤ b ∧ b ≤ 65535) (h2 : 0 ≤ c0 ∧ c0 ≤ 65535) (h3 : 0 ≤ d0 ∧ d0 ≤ 65535) (h4 : 0 ≤ e ∧ e ≤ 65535) (hu0 : 0 ≤ u0 ∧ u0 ≤ 255) (hu1 : 0 ≤ u1 ∧ u1 ≤ 255) (w : World) :
    Calls Try.prog 6 #[.agg #[.int .u16 a, .int .u16 b, .int .u16 c0, .int .u16 d0, .int .u16 e], .int .u8 u0, .int .u8 u1] w fun r w' => r = .returned (.bool true) ∧ Below w.heap.size w w' := by
  have hok := of_ok (c := c0) (d := d0) h0 h1 h4
  have hof := fun w => of_is a b c0 d0 e h0 h1 h2 h3 h4 w
  have HOF := Lib.hid hof
  have AR : Hid (Blk (w.alloc (.cells #[.int .u16 a, .int .u16 b, .int .u16 c0, .int .u16 d0, .int .u16 e] 35)) w.heap.size [.int .u16 a, .int .u16 b, .int .u16 c0, .int .u16 d0, .int .u16 e] 35) := Lib.hid (Blk.new w [.int .u16 a, .int .u16 b, .int .u16 c0, .int .u16 d0, .int .u16 e] _)
  generalize hcc : c0 % 58113 = c at *
  generalize hdd : d0 % 256 = d at *
  clear hcc hdd
  obtain ⟨S, hS⟩ := hen_of hok
  have hde := Lib.hid (hdec_of hok hS.out).1
  have hsn := (hdec_of hok hS.out).2
  have hsz : (S.size : Int) = 10 := by omega
  have hz : Hid (crcL S.data.toList = 0) := Lib.hid (by
    obtain ⟨A, B, C, D, E, e0, e1, e2, e3, e4, l0, l1, l2, l3, l4⟩ := head_nat hok
    have hx := hS.out
    rw [e0, e1, e2, e3, e4] at hok hx
    rw [hencode_nat A B C D E hok] at hx
    injection hx with hx _
    rw [← hx]
    exact crcL_closed _)
  obtain ⟨f, hf, hf73⟩ : ∃ f : Nat, u0 % 73 = f ∧ f < 73 := ⟨(u0 % 73).toNat, by omega, by omega⟩
  obtain ⟨bt, rfl⟩ : ∃ bt : Nat, u1 = bt := ⟨u1.toNat, by omega⟩
  have HOK := Lib.hid hok
  clear hof hok h0 h1 h2 h3 h4
  go_enter Try.func6, Try.ntmps6
  go_wp2_with fail
  refine (HOF.out _).mono ?_
  rintro r w1 ⟨rfl, q1⟩
  have A1 := Lib.hid (AR.out.below q1 AR.out.lt)
  have b1 : Hid (Below w.heap.size w w1) := Lib.hid (((Below.refl _ _).alloc (Nat.le_refl _) _).trans (q1.mono (by simp)))
  clear q1 AR
  go_wp2_with fail
  refine (hencE a b c d e S 0 hS _).mono ?_
  rintro r w5 ⟨rfl, q2⟩
  have A5 := Lib.hid (A1.out.below q2 A1.out.lt)
  have b5 : Hid (Below w.heap.size w w5) := Lib.hid (b1.out.trans (q2.mono b1.out.size))
  clear q2 A1 b1
  have hbr := bytes_run w5 S
  have hbw := Lib.hid (bytesW_below w5 S)
  have hbi := Lib.hid (bytesW_is w5 S)
  generalize bytesW w5 S = w6 at *
  generalize bytesCap w5 S = cap at *
  have A6 := Lib.hid (A5.out.below hbw.out A5.out.lt)
  have b6 : Hid (Below w.heap.size w w6) := Lib.hid (b5.out.trans (hbw.out.mono b5.out.size))
  have hB : w.heap.size ≤ w5.heap.size := b5.out.size
  have hC : w.heap.size < w5.heap.size := A5.out.lt
  go_wp2_with fail
  rw [hf]
  clear hbr hf
  generalize w5.heap.size = B at *
  go_loopw [11, 12] (fun i kk wr => ∃ (k : Nat) (L : List UInt8), k ≤ 8 ∧ i = .int .i64 k ∧ Hid (L.length = 10) ∧ Hid (crcL L = burst (rev8 bt) (80 - f) k) ∧ Hid (bt = 0 → L = S.data.toList) ∧ Hid (IsBytes wr B L) ∧ Hid (Below w.heap.size w wr) ∧ Hid (Blk wr w.heap.size [.int .u16 a, .int .u16 b, .int .u16 c0, .int .u16 d0, .int .u16 e] 35)) (fun i _ _ => 8 - (intOf i).toNat)
  case atStart => exact ⟨0, S.data.toList, by omega, rfl, Lib.hid (by rw [len_bytes, hsn]), hz, Lib.hid (fun _ => rfl), hbi, b6, A6⟩
  case round =>
    obtain ⟨k, L, hk1, rfl, HL, HC, H0, HI, hbl, CC⟩ := hrel
    clear hz hbi b6 A6 hbw A5 b5
    by_cases h8 : k < 8
    · have hdv : (f + k) / 8 < L.length := by rw [HL.out]; omega
      have hce := (HI.out _ hdv).1
      have hfe := (HI.out _ hdv).2
      have h88 : ((f : Int) + k) / 8 < 10 := by omega
      have h89 : (0 : Int) ≤ 7 - (k : Int) := by omega
      have h90 : (0 : Int) ≤ 7 - ((f : Int) + k) % 8 := by omega
      go_upto_region 10 with fail
      go_region
      go_wp2_with fail
      rw [mask_fact bt k (f + k) (by omega) h8, xorU]
      have hset := HI.out.set _ hdv (L[(f + k) / 8] ^^^ maskB bt k (f + k))
      by_cases ht : (rev8 bt).testBit k = true
      · have hm : maskB bt k (f + k) = bitByte (f + k) := by unfold maskB; rw [if_pos ht]
        rw [hm] at hset ⊢
        refine ⟨⟨k + 1, L.set ((f + k) / 8) (L[(f + k) / 8] ^^^ bitByte (f + k)), by omega, by go_num, Lib.hid (by rw [List.length_set, HL.out]), Lib.hid (crcL_turn L (rev8 bt) f k 10 HL.out (by omega) HC.out hdv ht), Lib.hid (fun e0 => ?_), Lib.hid hset.drew, Lib.hid (hbl.out.setCell hB _).drew, Lib.hid (CC.out.other (by omega)).drew⟩, by simp [intOf]; omega⟩
        subst e0
        exact absurd ht (by rw [show rev8 0 = 0 from rfl, Nat.zero_testBit]; decide)
      · have ht' : (rev8 bt).testBit k = false := by simpa using ht
        have hm : maskB bt k (f + k) = 0 := by unfold maskB; rw [if_neg ht]
        rw [hm] at hset ⊢
        have hL : L.set ((f + k) / 8) (L[(f + k) / 8] ^^^ 0) = L := by simp
        rw [hL] at hset
        exact ⟨⟨k + 1, L, by omega, by go_num, HL, Lib.hid (by rw [burst_same (rev8 bt) _ k ht', HC.out]), H0, Lib.hid hset.drew, Lib.hid (hbl.out.setCell hB _).drew, Lib.hid (CC.out.other (by omega)).drew⟩, by simp [intOf]; omega⟩
    · obtain ⟨T, hT⟩ := bytes_as L
      have hst := string_run_as HI.out (n := 10) cap HL.out hT
      have e8 : k = 8 := by omega
      by_cases hb0 : bt = 0
      · have hbi : (bt : Int) = 0 := by omega
        have hT2 : Hid (hdecode T = (headV a b c d e, 0)) := Lib.hid (by
          have e1 : T = S := ByteArray.ext (Array.toList_inj.1 (by rw [hT, H0.out hb0]))
          rw [e1]
          exact hde.out)
        clear e8 hT
        go_wp2_with fail
        refine (hdecE T _ 0 hT2 _).mono ?_
        rintro r w7 ⟨rfl, q7⟩
        obtain ⟨w8, hw8⟩ : ∃ w8, w7.alloc (.cells #[.int .i64 a, .int .i64 b, .int .i64 c, .int .i64 d, .int .i64 e] THead) = w8 := ⟨_, rfl⟩
        have A8 : Hid (Blk w8 w.heap.size [.int .u16 a, .int .u16 b, .int .u16 c0, .int .u16 d0, .int .u16 e] 35) := Lib.hid (by rw [← hw8]; exact (CC.out.below q7 CC.out.lt).alloc _)
        have H8 : Hid (Blk w8 w7.heap.size (headC a b c d e) THead) := Lib.hid (by rw [← hw8]; exact Blk.new w7 (headC a b c d e) THead)
        have b8 : Hid (Below w.heap.size w w8) := Lib.hid (by rw [← hw8]; exact (hbl.out.trans (q7.mono hbl.out.size)).alloc (Nat.le_trans hbl.out.size q7.size) _)
        clear q7
        go_upto_region 13 with fail
        clear hw8
        have hi0 : ∀ y : WIn (Below w8.heap.size w8), y.val.cell? ⟨w7.heap.size, 0, none⟩ = some (.int .i64 a) := fun y => (H8.out.below y.property H8.out.lt).cell 0 rfl
        have hi1 : ∀ y : WIn (Below w8.heap.size w8), y.val.cell? ⟨w7.heap.size, 1, none⟩ = some (.int .i64 b) := fun y => (H8.out.below y.property H8.out.lt).cell 1 rfl
        have hi2 : ∀ y : WIn (Below w8.heap.size w8), y.val.cell? ⟨w7.heap.size, 2, none⟩ = some (.int .i64 c) := fun y => (H8.out.below y.property H8.out.lt).cell 2 rfl
        have hi3 : ∀ y : WIn (Below w8.heap.size w8), y.val.cell? ⟨w7.heap.size, 3, none⟩ = some (.int .i64 d) := fun y => (H8.out.below y.property H8.out.lt).cell 3 rfl
        have hi4 : ∀ y : WIn (Below w8.heap.size w8), y.val.cell? ⟨w7.heap.size, 4, none⟩ = some (.int .i64 e) := fun y => (H8.out.below y.property H8.out.lt).cell 4 rfl
        have hj0 : ∀ y : WIn (Below w8.heap.size w8), y.val.cell? ⟨w.heap.size, 0, none⟩ = some (.int .u16 a) := fun y => (A8.out.below y.property A8.out.lt).cell 0 rfl
        have hj1 : ∀ y : WIn (Below w8.heap.size w8), y.val.cell? ⟨w.heap.size, 1, none⟩ = some (.int .u16 b) := fun y => (A8.out.below y.property A8.out.lt).cell 1 rfl
        have hj2 : ∀ y : WIn (Below w8.heap.size w8), y.val.cell? ⟨w.heap.size, 2, none⟩ = some (.int .u16 c0) := fun y => (A8.out.below y.property A8.out.lt).cell 2 rfl
        have hj3 : ∀ y : WIn (Below w8.heap.size w8), y.val.cell? ⟨w.heap.size, 3, none⟩ = some (.int .u16 d0) := fun y => (A8.out.below y.property A8.out.lt).cell 3 rfl
        have hj4 : ∀ y : WIn (Below w8.heap.size w8), y.val.cell? ⟨w.heap.size, 4, none⟩ = some (.int .u16 e) := fun y => (A8.out.below y.property A8.out.lt).cell 4 rfl
        have hne : Nonempty (WIn (Below w8.heap.size w8)) := ⟨⟨w8, Below.refl _ _⟩⟩
        refine wp_region_inv (Below w8.heap.size w8) (by kernel_rfl) (by kernel_rfl) (Below.refl _ _).drew ?_
        repeat (go_big_quiet_step (first
          | (go_at_call 19; exact quiet_call _ (HOF.out _))
          | (go_at_call 16; exact quiet_call _ (works13 _))))
        refine wpQuiet_nil ?_
        intro w9 q9
        go_wp2_with fail
        go_returns
        exact ⟨rfl, b8.out.trans (q9.mono b8.out.size)⟩
      · have hbi : ¬ (bt : Int) = 0 := by omega
        have hT2 : Hid (hdecode T = (headV 0 0 0 0 0, 10)) := Lib.hid (by
          have e1 : T = ⟨L.toArray⟩ := by rw [← hT]
          rw [e1]
          exact hdecode_turned L HL.out (turned10 bt f L hf73 (by omega) hb0 (by rw [← e8]; exact HC.out)))
        clear e8 hT
        go_wp2_with fail
        refine (hdecE T _ 10 hT2 _).mono ?_
        rintro r w7 ⟨rfl, q7⟩
        have b7 : Hid (Below w.heap.size w w7) := Lib.hid (hbl.out.trans (q7.mono hbl.out.size))
        go_wp2_with fail
        refine (works13 _).mono ?_
        rintro r w9 ⟨rfl, q9⟩
        go_wp2_with fail
        go_returns
        exact ⟨rfl, (b7.out.alloc b7.out.size _).trans (q9.mono (b7.out.alloc b7.out.size _).size)⟩

end Go.Proofs.Ytdipbdoekmcgbaa
