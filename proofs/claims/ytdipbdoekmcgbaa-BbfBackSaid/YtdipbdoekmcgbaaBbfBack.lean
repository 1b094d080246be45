/-
  BbfBack: the walk. (Printed by mkback.py.)
-/
import Derived.Test.YtdipbdoekmcgbaaBbfModes
import Derived.Test.YtdipbdoekmcgbaaBbhTurned
namespace Go.Proofs.Ytdipbdoekmcgbaa
open Go.RowKit

/-- The block of what is turned, and the mode's. -/
structure K2 (w0 w : World) (b5 b7 : Nat) (t0 t1 t2 : Int) (num : Int) (short pilots : Bool) : Prop where
  X : Blk w b5 [.int .u8 t0, .int .u8 t1, .int .u8 t2] 45
  M : Blk w b7 [.int .i64 num, .bool short, .bool pilots] 41
  q : Below w0.heap.size w0 w
section
variable {w0 w w' : World} {b5 b7 : Nat} {t0 t1 t2 num : Int} {short pilots : Bool}
theorem K2.below (h : K2 w0 w b5 b7 t0 t1 t2 num short pilots) (k : Below w.heap.size w w') : K2 w0 w' b5 b7 t0 t1 t2 num short pilots := ⟨h.X.below k h.X.lt, h.M.below k h.M.lt, bthen h.q k⟩
theorem K2.set (h : K2 w0 w b5 b7 t0 t1 t2 num short pilots) {B : Nat} (hB : w0.heap.size ≤ B) (h5 : b5 ≠ B) (h7 : b7 ≠ B) (o : Nat) (v : Value) : K2 w0 (w.setCell ⟨B, o, none⟩ v).drew b5 b7 t0 t1 t2 num short pilots := ⟨(h.X.other h5).drew, (h.M.other h7).drew, (h.q.setCell hB _).drew⟩
end
theorem turned_sum (num : Int) (short : Bool) (m : Nat) (T : ByteArray) (G : List UInt8) (hT : T.data.toList = G) (h0 : 0 < bitsN num short) (hm : bitsN num short / 8 = m) (hG : G.length = m) (h10 : 10 ≤ m) (hc : crcL (G.take 10) ≠ 0) : UnpackIs num short T ⟨#[]⟩ 10 := by
  refine .inr ⟨m, h0, hm, .inr ⟨by rw [bytes_as_size hT, hG], .inl ⟨by decide, ?_, rfl⟩⟩⟩
  have e : T.extract 0 10 = ⟨(G.take 10).toArray⟩ := by
    apply ba_list
    rw [ext_list, hT, List.drop_zero]
  rw [e]
  exact hdecode_turned _ (by rw [List.length_take]; omega) hc
theorem set_last (H f R : List UInt8) (m : Nat) (hH : H.length = 10) (hf : f.length + 10 < m) (x : UInt8) : (H ++ f ++ R).set (m - 1) x = H ++ f ++ R.set (m - 1 - 10 - f.length) x := by
  rw [List.set_append_right _ _ (by rw [List.length_append]; omega), List.length_append, hH]
  congr 2
  omega

set_option maxRecDepth 100000 in
set_option maxHeartbeats 8000000 in
theorem bbfBack_walk (n : Int) (n0 : 0 ≤ n) (n1 : n ≤ 255) (f : ByteArray) (t0 t1 t2 : Int) (h0 : 0 ≤ t0 ∧ t0 ≤ 255) (h1 : 0 ≤ t1 ∧ t1 ≤ 255) (h2 : 0 ≤ t2 ∧ t2 ≤ 255) (w : World) :
    Calls Try.prog 10 #[.int .u8 n, .string f, .agg #[.int .u8 t0, .int .u8 t1, .int .u8 t2]] w fun r w' => r = .returned (.bool true) ∧ Below w.heap.size w w' := by
  obtain ⟨num, s, p, hM⟩ := mode_has n n0 n1
  obtain ⟨bt, rfl⟩ : ∃ bt : Nat, t1 = bt := ⟨t1.toNat, by omega⟩
  obtain ⟨U, rfl⟩ : ∃ U : UInt8, t2 = (U.toNat : Int) := ⟨UInt8.ofNat t2.toNat, by rw [UInt8.toNat_ofNat']; omega⟩
  obtain ⟨ff, hff, hff80⟩ : ∃ ff : Nat, t0 % 80 = ff ∧ ff < 80 := ⟨(t0 % 80).toNat, by omega, by omega⟩
  have hbt : bt < 256 := by omega
  by_cases hx : 0 < bitsN num s
  · have l1 := bitsN_least num s hx
    have l2 := bitsN_mod num s
    have l3 := bitsN_range num s
    obtain ⟨m, hm⟩ : ∃ m : Nat, bitsN num s / 8 = m := ⟨(bitsN num s / 8).toNat, by omega⟩
    obtain ⟨M, hMm⟩ : ∃ M : Nat, M + 10 = m := ⟨m - 10, by omega⟩
    have hMb : 374 ≤ M ∧ M ≤ 7264 := by omega
    have hF := Lib.hid (mod_field num s p)
    have hK := Lib.hid (mod_kbch num s p)
    rw [if_pos hx, if_pos hx, show bitsN num s / 8 - 10 = (M : Int) by omega] at hF
    rw [if_pos hx, if_pos hx] at hK
    obtain ⟨X, hX⟩ : ∃ X, bitsN num s = X := ⟨_, rfl⟩
    have hX8 : 8 * (m : Int) = X := by omega
    rw [hX] at hK
    rw [decide_eq_true hx] at hM
    have hM := Lib.hid hM
    have HX := Lib.hid hx
    have HM := Lib.hid hm
    clear hx hX l1 l2 l3 hm
    -- the field
    have hc : ∃ fs : ByteArray, (((f.size : Int) ≤ M ∧ (f.size : Int) ≤ 7300 ∧ fs = f) ∨ ((M : Int) < (f.size : Int) ∧ f.extract 0 M = fs ∧ fs.size = M)) ∧ fs.size ≤ M := by
      by_cases h : (f.size : Int) ≤ M
      · exact ⟨f, .inl ⟨h, by omega, rfl⟩, by omega⟩
      · exact ⟨_, .inr ⟨by omega, rfl, by rw [ByteArray.size_extract]; omega⟩, by rw [ByteArray.size_extract]; omega⟩
    obtain ⟨fs, hc, hfs⟩ := hc
    obtain ⟨S, hS⟩ := bytes_as (frameL m fs.data.toList)
    have hSs : S.size = m := by rw [bytes_as_size hS]; exact frameL_length _ _ (by rw [len_bytes]; omega)
    have HP := Lib.hid (packE num s p fs S 0 (Lib.hid (packS_good num s m S fs HX.out HM.out (by omega) hS)))
    have HU := Lib.hid (unpackE num s p S fs 0 (Lib.hid (unpack_frame num s m S fs HX.out HM.out (by omega) hS)))
    have HS := Lib.hid hS
    clear hS
    unfold modeV at *
    have A0 : Hid (Blk (w.alloc (.cells #[.int .u8 t0, .int .u8 bt, (.int .u8 (U.toNat : Int))] 45)) w.heap.size [.int .u8 t0, .int .u8 bt, (.int .u8 (U.toNat : Int))] 45) := Lib.hid (Blk.new w [.int .u8 t0, .int .u8 bt, (.int .u8 (U.toNat : Int))] _)
    go_enter Try.func10, Try.ntmps10
    go_wp2_with fail
    refine (works14 _).mono ?_
    rintro r w1 ⟨rfl, q1⟩
    have A1 := Lib.hid (A0.out.below q1 A0.out.lt)
    have b1 : Hid (Below w.heap.size w w1) := Lib.hid (((Below.refl _ _).alloc (Nat.le_refl _) _).trans (q1.mono (by simp)))
    clear q1 A0
    go_wp2_with fail
    refine (hM.out _).mono ?_
    rintro r w2 ⟨rfl, q2⟩
    obtain ⟨b7, hb7⟩ : ∃ b, w2.heap.size = b := ⟨_, rfl⟩
    obtain ⟨w3, hw3⟩ : ∃ w3, w2.alloc (.cells #[.int .i64 num, .bool s, .bool p] 41) = w3 := ⟨_, rfl⟩
    have K : Hid (K2 w w3 w.heap.size b7 t0 bt (U.toNat : Int) num s p) := Lib.hid (by
      rw [← hw3, ← hb7]
      exact ⟨(A1.out.below q2 A1.out.lt).alloc _, Blk.new w2 _ _, (bthen b1.out q2).alloc (bthen b1.out q2).size _⟩)
    clear q2 A1 b1
    have c0 := K.out.M.cell 0 rfl
    have c1 := K.out.M.cell 1 rfl
    have c2 := K.out.M.cell 2 rfl
    go_wp2_with fail
    refine (hF.out _).mono ?_
    rintro r w4 ⟨rfl, q⟩
    have K4 := Lib.hid (K.out.below q)
    clear q c0 c1 c2 K
    have c0 := K4.out.M.cell 0 rfl
    have c1 := K4.out.M.cell 1 rfl
    have c2 := K4.out.M.cell 2 rfl
    clear hw3 hb7
    rcases hc with ⟨hc, hc7, rfl⟩ | ⟨hc, hc2, hfe⟩
    · go_wp2_with fail
      refine (HP.out _).mono ?_
      rintro r w5 ⟨rfl, q⟩
      have K5 := Lib.hid (K4.out.below q)
      clear q c0 c1 c2 K4
      have c0 := K5.out.M.cell 0 rfl
      have c1 := K5.out.M.cell 1 rfl
      have c2 := K5.out.M.cell 2 rfl
      go_wp2_with fail
      refine (hK.out _).mono ?_
      rintro r w6 ⟨rfl, q⟩
      have K6 := Lib.hid (K5.out.below q)
      clear q c0 c1 c2 K5
      have c0 := K6.out.M.cell 0 rfl
      have c1 := K6.out.M.cell 1 rfl
      have c2 := K6.out.M.cell 2 rfl
      have hm0 : ((m : Int) = 0) = False := eq_false (by omega)
      go_wp2_with fail
      refine (HU.out _).mono ?_
      rintro r w7 ⟨rfl, q⟩
      have K7 := Lib.hid (K6.out.below q)
      clear q c0 c1 c2 K6
      have c0 := K7.out.M.cell 0 rfl
      have c1 := K7.out.M.cell 1 rfl
      have c2 := K7.out.M.cell 2 rfl
      have hbr := bytes_run w7 S
      have hbw := Lib.hid (bytesW_below w7 S)
      have hbi := Lib.hid (bytesW_is w7 S)
      have hBw : w7.heap.size < (bytesW w7 S).heap.size := by rw [bytesW_size]; omega
      have K8 := Lib.hid (K7.out.below hbw.out)
      have hB : w.heap.size ≤ w7.heap.size := K7.out.q.size
      have hB5 : w.heap.size < w7.heap.size := K7.out.X.lt
      have hB7 : b7 < w7.heap.size := K7.out.M.lt
      generalize bytesW w7 S = w8 at *
      generalize bytesCap w7 S = cap at *
      obtain ⟨B, hBe⟩ : ∃ B, w7.heap.size = B := ⟨_, rfl⟩
      rw [hBe] at hbr hbi hB hB5 hB7 hBw
      clear hbw K7 c0 c1 c2 hBe
      have c0 := K8.out.M.cell 0 rfl
      have c1 := K8.out.M.cell 1 rfl
      have c2 := K8.out.M.cell 2 rfl
      obtain ⟨L0, hL0⟩ : ∃ L, S.data.toList = L := ⟨_, rfl⟩
      have HL0 : Hid (L0 = frameL m fs.data.toList) := Lib.hid (by rw [← hL0]; exact HS.out)
      have hl0 : L0.length = m := by rw [← hL0, len_bytes]; exact hSs
      rw [hL0] at hbi
      have hz0 : Hid (crcL (L0.take 10) = 0) := Lib.hid (by
        rw [HL0.out, frameL, List.append_assoc, List.take_append_of_le_length (by rw [headB_len]; omega), List.take_of_length_le (by rw [headB_len]; omega)]
        exact crcL_closed _)
      clear hL0
      by_cases hlt : fs.size < M
      · have hlt' : (fs.size : Int) < M := by omega
        have e1 : (0 : Int) ≤ (m : Int) - 1 := by omega
        have e2 : (m : Int) - 1 < m := by omega
        have e3 : ((m : Int) - 1).toNat = m - 1 := by omega
        have hi1 : m - 1 < L0.length := by omega
        have hce := (hbi.out _ hi1).1
        have hfe := (hbi.out _ hi1).2
        have hx2 := K8.out.X.cell 2 rfl
        obtain ⟨L1, hL1⟩ : ∃ L, L0.set (m - 1) (L0[m - 1] ^^^ U) = L := ⟨_, rfl⟩
        obtain ⟨T1, hT1⟩ := bytes_as L1
        have hl1 : L1.length = m := by rw [← hL1, List.length_set]; exact hl0
        have hb1 : Hid (IsBytes (w8.setCell ⟨B, m - 1, none⟩ (.int .u8 (bits BinOp.xor IntKind.u8 (L0[m - 1].toNat : Int) (U.toNat : Int)))).drew B L1) := Lib.hid (by rw [xorU, ← hL1]; exact (hbi.out.set _ hi1 _).drew)
        have hst := string_run_as hb1.out (n := m) cap hl1 hT1
        have hz1 : Hid (crcL (L1.take 10) = 0) := Lib.hid (by rw [← hL1, List.take_set_of_le (by omega)]; exact hz0.out)
        have HU1 := Lib.hid (unpackE num s p T1 fs 0 (Lib.hid (unpack_front num s m T1 fs HX.out HM.out (by omega) (by rw [bytes_as_size hT1, hl1]) ((List.replicate (m - 10 - fs.size) 0).set (m - 1 - 10 - fs.size) (L0[m - 1] ^^^ U)) (by
          obtain ⟨y, hy⟩ : ∃ y, L0[m - 1] ^^^ U = y := ⟨_, rfl⟩
          rw [hT1, ← hL1, hy, HL0.out, frameL, set_last _ _ _ m (headB_len _ _ _ _ _) (by rw [len_bytes]; omega), len_bytes]))))
        have K9 := Lib.hid (K8.out.set hB (by omega) (by omega) (m - 1) (.int .u8 (bits BinOp.xor IntKind.u8 (L0[m - 1].toNat : Int) (U.toNat : Int))))
        unfold modeV at HU1
        clear hL1 hT1
        go_upto_region 19 with fail
        go_region
        clear c0 c1 c2
        have c0 := K9.out.M.cell 0 rfl
        have c1 := K9.out.M.cell 1 rfl
        have c2 := K9.out.M.cell 2 rfl
        go_wp2_with fail
        refine (HU1.out _).mono ?_
        rintro r w10 ⟨rfl, q⟩
        have K10 := Lib.hid (K9.out.below q)
        have hb10 := Lib.hid (hb1.out.below q (by simp; omega))
        clear q c0 c1 c2 hst hb1 K9 K8 hce hfe hx2 hbi
        have c0 := K10.out.M.cell 0 rfl
        have c1 := K10.out.M.cell 1 rfl
        have c2 := K10.out.M.cell 2 rfl
        have hx0 := K10.out.X.cell 0 rfl
        go_wp2_with fail
        rw [hff]
        clear hx0 hff
        go_loopw [23, 24] (fun tu i wr => ∃ (k : Nat) (L : List UInt8), k ≤ 8 ∧ ff + k ≤ 80 ∧ i = .int .i64 k ∧ tu = .bool (anyBit bt k) ∧ Hid (L.length = m) ∧ Hid (crcL (L.take 10) = burst bt (80 - ff) k) ∧ Hid (IsBytes wr B L) ∧ Hid (K2 w wr w.heap.size b7 t0 bt (U.toNat : Int) num s p)) (fun _ i _ => 8 - (intOf i).toNat)
        case atStart => exact ⟨0, L1, by omega, by omega, rfl, rfl, Lib.hid hl1, Lib.hid hz1.out, hb10, K10⟩
        case round =>
          obtain ⟨k, L, hk1, hk2, rfl, rfl, HL, HC, HI, HK⟩ := hrel
          clear hb10 K10 hz1 c0 c1 c2
          by_cases h8 : k < 8
          · by_cases h80 : ff + k < 80
            · have h80' : (ff : Int) + k < 80 := by omega
              have hdv : (ff + k) / 8 < L.length := by rw [HL.out]; omega
              have hce := (HI.out _ hdv).1
              have hfe := (HI.out _ hdv).2
              have hx1 := HK.out.X.cell 1 rfl
              have h88 : ((ff : Int) + k) / 8 < m := by omega
              have hb := bit_fact bt k hbt h8
              by_cases ht : bt.testBit k = true
              · rw [ht] at hb
                go_upto_region 28 with fail
                go_region
                go_wp2_with fail
                rw [xor_bit]
                refine ⟨⟨k + 1, L.set ((ff + k) / 8) (L[(ff + k) / 8] ^^^ bitByte (ff + k)), by omega, by omega, by go_num, by rw [anyBit_hit bt k ht], Lib.hid (by rw [List.length_set, HL.out]), Lib.hid ?_, Lib.hid (HI.out.set _ hdv _).drew, Lib.hid (HK.out.set hB (by omega) (by omega) _ _)⟩, by simp [intOf]; omega⟩
                have e10 : (L.take 10).length = 10 := by rw [List.length_take, HL.out]; omega
                have hd : (ff + k) / 8 < (L.take 10).length := by rw [e10]; omega
                have hh := crcL_turn (L.take 10) bt ff k 10 e10 (by omega) HC.out hd ht
                rw [List.getElem_take] at hh
                rw [List.take_set]
                exact hh
              · have ht' : bt.testBit k = false := by simpa using ht
                rw [ht'] at hb
                go_wp2_with fail
                exact ⟨⟨k + 1, L, by omega, by omega, by go_num, by rw [anyBit_miss bt k ht'], HL, Lib.hid (by rw [burst_same bt _ k ht', HC.out]), HI, HK⟩, by simp [intOf]; omega⟩
            · have h80' : ¬ (ff : Int) + k < 80 := by omega
              have hK : min 8 (80 - ff) = k := by omega
              obtain ⟨T, hT⟩ := bytes_as L
              have hst := string_run_as HI.out (n := m) cap HL.out hT
              have hz := burst_zero bt (80 - ff) hbt (by omega)
              rw [hK, ← HC.out] at hz
              have c0 := HK.out.M.cell 0 rfl
              have c1 := HK.out.M.cell 1 rfl
              have c2 := HK.out.M.cell 2 rfl
              cases hab : anyBit bt k with
              | true =>
                rw [hab] at hz
                have hc10 : crcL (L.take 10) ≠ 0 := by
                  intro e
                  rw [e] at hz
                  exact absurd hz (by decide)
                have HE := Lib.hid (unpackE num s p T ⟨#[]⟩ 10 (Lib.hid (turned_sum num s m T L hT HX.out HM.out HL.out (by omega) hc10)))
                unfold modeV at HE
                clear hz hK hT hc10
                go_wp2_with fail
                refine (HE.out _).mono ?_
                rintro r w12 ⟨rfl, q⟩
                go_wp2_with fail
                go_returns
                exact ⟨rfl, bthen HK.out.q q⟩
              | false =>
                obtain ⟨t9, k9, h9⟩ := unpack_has num s T
                have HE := Lib.hid (unpackE num s p T t9 k9 (Lib.hid h9))
                unfold modeV at HE
                clear hz hK hT h9
                go_wp2_with fail
                refine (HE.out _).mono ?_
                rintro r w12 ⟨rfl, q⟩
                go_wp2_with fail
                go_returns
                exact ⟨rfl, bthen HK.out.q q⟩
          · have hK : min 8 (80 - ff) = k := by omega
            obtain ⟨T, hT⟩ := bytes_as L
            have hst := string_run_as HI.out (n := m) cap HL.out hT
            have hz := burst_zero bt (80 - ff) hbt (by omega)
            rw [hK, ← HC.out] at hz
            have c0 := HK.out.M.cell 0 rfl
            have c1 := HK.out.M.cell 1 rfl
            have c2 := HK.out.M.cell 2 rfl
            cases hab : anyBit bt k with
            | true =>
              rw [hab] at hz
              have hc10 : crcL (L.take 10) ≠ 0 := by
                intro e
                rw [e] at hz
                exact absurd hz (by decide)
              have HE := Lib.hid (unpackE num s p T ⟨#[]⟩ 10 (Lib.hid (turned_sum num s m T L hT HX.out HM.out HL.out (by omega) hc10)))
              unfold modeV at HE
              clear hz hK hT hc10
              go_wp2_with fail
              refine (HE.out _).mono ?_
              rintro r w12 ⟨rfl, q⟩
              go_wp2_with fail
              go_returns
              exact ⟨rfl, bthen HK.out.q q⟩
            | false =>
              obtain ⟨t9, k9, h9⟩ := unpack_has num s T
              have HE := Lib.hid (unpackE num s p T t9 k9 (Lib.hid h9))
              unfold modeV at HE
              clear hz hK hT h9
              go_wp2_with fail
              refine (HE.out _).mono ?_
              rintro r w12 ⟨rfl, q⟩
              go_wp2_with fail
              go_returns
              exact ⟨rfl, bthen HK.out.q q⟩
      · have hlt' : ¬ (fs.size : Int) < M := by omega
        have hx0 := K8.out.X.cell 0 rfl
        go_wp2_with fail
        rw [hff]
        clear hx0 hff
        go_loopw [23, 24] (fun tu i wr => ∃ (k : Nat) (L : List UInt8), k ≤ 8 ∧ ff + k ≤ 80 ∧ i = .int .i64 k ∧ tu = .bool (anyBit bt k) ∧ Hid (L.length = m) ∧ Hid (crcL (L.take 10) = burst bt (80 - ff) k) ∧ Hid (IsBytes wr B L) ∧ Hid (K2 w wr w.heap.size b7 t0 bt (U.toNat : Int) num s p)) (fun _ i _ => 8 - (intOf i).toNat)
        case atStart => exact ⟨0, L0, by omega, by omega, rfl, rfl, Lib.hid hl0, Lib.hid hz0.out, hbi, K8⟩
        case round =>
          obtain ⟨k, L, hk1, hk2, rfl, rfl, HL, HC, HI, HK⟩ := hrel
          clear hbi K8 hz0 c0 c1 c2
          by_cases h8 : k < 8
          · by_cases h80 : ff + k < 80
            · have h80' : (ff : Int) + k < 80 := by omega
              have hdv : (ff + k) / 8 < L.length := by rw [HL.out]; omega
              have hce := (HI.out _ hdv).1
              have hfe := (HI.out _ hdv).2
              have hx1 := HK.out.X.cell 1 rfl
              have h88 : ((ff : Int) + k) / 8 < m := by omega
              have hb := bit_fact bt k hbt h8
              by_cases ht : bt.testBit k = true
              · rw [ht] at hb
                go_upto_region 28 with fail
                go_region
                go_wp2_with fail
                rw [xor_bit]
                refine ⟨⟨k + 1, L.set ((ff + k) / 8) (L[(ff + k) / 8] ^^^ bitByte (ff + k)), by omega, by omega, by go_num, by rw [anyBit_hit bt k ht], Lib.hid (by rw [List.length_set, HL.out]), Lib.hid ?_, Lib.hid (HI.out.set _ hdv _).drew, Lib.hid (HK.out.set hB (by omega) (by omega) _ _)⟩, by simp [intOf]; omega⟩
                have e10 : (L.take 10).length = 10 := by rw [List.length_take, HL.out]; omega
                have hd : (ff + k) / 8 < (L.take 10).length := by rw [e10]; omega
                have hh := crcL_turn (L.take 10) bt ff k 10 e10 (by omega) HC.out hd ht
                rw [List.getElem_take] at hh
                rw [List.take_set]
                exact hh
              · have ht' : bt.testBit k = false := by simpa using ht
                rw [ht'] at hb
                go_wp2_with fail
                exact ⟨⟨k + 1, L, by omega, by omega, by go_num, by rw [anyBit_miss bt k ht'], HL, Lib.hid (by rw [burst_same bt _ k ht', HC.out]), HI, HK⟩, by simp [intOf]; omega⟩
            · have h80' : ¬ (ff : Int) + k < 80 := by omega
              have hK : min 8 (80 - ff) = k := by omega
              obtain ⟨T, hT⟩ := bytes_as L
              have hst := string_run_as HI.out (n := m) cap HL.out hT
              have hz := burst_zero bt (80 - ff) hbt (by omega)
              rw [hK, ← HC.out] at hz
              have c0 := HK.out.M.cell 0 rfl
              have c1 := HK.out.M.cell 1 rfl
              have c2 := HK.out.M.cell 2 rfl
              cases hab : anyBit bt k with
              | true =>
                rw [hab] at hz
                have hc10 : crcL (L.take 10) ≠ 0 := by
                  intro e
                  rw [e] at hz
                  exact absurd hz (by decide)
                have HE := Lib.hid (unpackE num s p T ⟨#[]⟩ 10 (Lib.hid (turned_sum num s m T L hT HX.out HM.out HL.out (by omega) hc10)))
                unfold modeV at HE
                clear hz hK hT hc10
                go_wp2_with fail
                refine (HE.out _).mono ?_
                rintro r w12 ⟨rfl, q⟩
                go_wp2_with fail
                go_returns
                exact ⟨rfl, bthen HK.out.q q⟩
              | false =>
                obtain ⟨t9, k9, h9⟩ := unpack_has num s T
                have HE := Lib.hid (unpackE num s p T t9 k9 (Lib.hid h9))
                unfold modeV at HE
                clear hz hK hT h9
                go_wp2_with fail
                refine (HE.out _).mono ?_
                rintro r w12 ⟨rfl, q⟩
                go_wp2_with fail
                go_returns
                exact ⟨rfl, bthen HK.out.q q⟩
          · have hK : min 8 (80 - ff) = k := by omega
            obtain ⟨T, hT⟩ := bytes_as L
            have hst := string_run_as HI.out (n := m) cap HL.out hT
            have hz := burst_zero bt (80 - ff) hbt (by omega)
            rw [hK, ← HC.out] at hz
            have c0 := HK.out.M.cell 0 rfl
            have c1 := HK.out.M.cell 1 rfl
            have c2 := HK.out.M.cell 2 rfl
            cases hab : anyBit bt k with
            | true =>
              rw [hab] at hz
              have hc10 : crcL (L.take 10) ≠ 0 := by
                intro e
                rw [e] at hz
                exact absurd hz (by decide)
              have HE := Lib.hid (unpackE num s p T ⟨#[]⟩ 10 (Lib.hid (turned_sum num s m T L hT HX.out HM.out HL.out (by omega) hc10)))
              unfold modeV at HE
              clear hz hK hT hc10
              go_wp2_with fail
              refine (HE.out _).mono ?_
              rintro r w12 ⟨rfl, q⟩
              go_wp2_with fail
              go_returns
              exact ⟨rfl, bthen HK.out.q q⟩
            | false =>
              obtain ⟨t9, k9, h9⟩ := unpack_has num s T
              have HE := Lib.hid (unpackE num s p T t9 k9 (Lib.hid h9))
              unfold modeV at HE
              clear hz hK hT h9
              go_wp2_with fail
              refine (HE.out _).mono ?_
              rintro r w12 ⟨rfl, q⟩
              go_wp2_with fail
              go_returns
              exact ⟨rfl, bthen HK.out.q q⟩
    · have hc3 : ¬ (f.size : Int) ≤ M := by omega
      by_cases hc7 : (f.size : Int) ≤ 7300
      · go_wp2_with fail
        refine (HP.out _).mono ?_
        rintro r w5 ⟨rfl, q⟩
        have K5 := Lib.hid (K4.out.below q)
        clear q c0 c1 c2 K4
        have c0 := K5.out.M.cell 0 rfl
        have c1 := K5.out.M.cell 1 rfl
        have c2 := K5.out.M.cell 2 rfl
        go_wp2_with fail
        refine (hK.out _).mono ?_
        rintro r w6 ⟨rfl, q⟩
        have K6 := Lib.hid (K5.out.below q)
        clear q c0 c1 c2 K5
        have c0 := K6.out.M.cell 0 rfl
        have c1 := K6.out.M.cell 1 rfl
        have c2 := K6.out.M.cell 2 rfl
        have hm0 : ((m : Int) = 0) = False := eq_false (by omega)
        go_wp2_with fail
        refine (HU.out _).mono ?_
        rintro r w7 ⟨rfl, q⟩
        have K7 := Lib.hid (K6.out.below q)
        clear q c0 c1 c2 K6
        have c0 := K7.out.M.cell 0 rfl
        have c1 := K7.out.M.cell 1 rfl
        have c2 := K7.out.M.cell 2 rfl
        have hbr := bytes_run w7 S
        have hbw := Lib.hid (bytesW_below w7 S)
        have hbi := Lib.hid (bytesW_is w7 S)
        have hBw : w7.heap.size < (bytesW w7 S).heap.size := by rw [bytesW_size]; omega
        have K8 := Lib.hid (K7.out.below hbw.out)
        have hB : w.heap.size ≤ w7.heap.size := K7.out.q.size
        have hB5 : w.heap.size < w7.heap.size := K7.out.X.lt
        have hB7 : b7 < w7.heap.size := K7.out.M.lt
        generalize bytesW w7 S = w8 at *
        generalize bytesCap w7 S = cap at *
        obtain ⟨B, hBe⟩ : ∃ B, w7.heap.size = B := ⟨_, rfl⟩
        rw [hBe] at hbr hbi hB hB5 hB7 hBw
        clear hbw K7 c0 c1 c2 hBe
        have c0 := K8.out.M.cell 0 rfl
        have c1 := K8.out.M.cell 1 rfl
        have c2 := K8.out.M.cell 2 rfl
        obtain ⟨L0, hL0⟩ : ∃ L, S.data.toList = L := ⟨_, rfl⟩
        have HL0 : Hid (L0 = frameL m fs.data.toList) := Lib.hid (by rw [← hL0]; exact HS.out)
        have hl0 : L0.length = m := by rw [← hL0, len_bytes]; exact hSs
        rw [hL0] at hbi
        have hz0 : Hid (crcL (L0.take 10) = 0) := Lib.hid (by
          rw [HL0.out, frameL, List.append_assoc, List.take_append_of_le_length (by rw [headB_len]; omega), List.take_of_length_le (by rw [headB_len]; omega)]
          exact crcL_closed _)
        clear hL0
        have hlt' : ¬ (fs.size : Int) < M := by omega
        have hx0 := K8.out.X.cell 0 rfl
        go_wp2_with fail
        rw [hff]
        clear hx0 hff
        go_loopw [23, 24] (fun tu i wr => ∃ (k : Nat) (L : List UInt8), k ≤ 8 ∧ ff + k ≤ 80 ∧ i = .int .i64 k ∧ tu = .bool (anyBit bt k) ∧ Hid (L.length = m) ∧ Hid (crcL (L.take 10) = burst bt (80 - ff) k) ∧ Hid (IsBytes wr B L) ∧ Hid (K2 w wr w.heap.size b7 t0 bt (U.toNat : Int) num s p)) (fun _ i _ => 8 - (intOf i).toNat)
        case atStart => exact ⟨0, L0, by omega, by omega, rfl, rfl, Lib.hid hl0, Lib.hid hz0.out, hbi, K8⟩
        case round =>
          obtain ⟨k, L, hk1, hk2, rfl, rfl, HL, HC, HI, HK⟩ := hrel
          clear hbi K8 hz0 c0 c1 c2
          by_cases h8 : k < 8
          · by_cases h80 : ff + k < 80
            · have h80' : (ff : Int) + k < 80 := by omega
              have hdv : (ff + k) / 8 < L.length := by rw [HL.out]; omega
              have hce := (HI.out _ hdv).1
              have hfe := (HI.out _ hdv).2
              have hx1 := HK.out.X.cell 1 rfl
              have h88 : ((ff : Int) + k) / 8 < m := by omega
              have hb := bit_fact bt k hbt h8
              by_cases ht : bt.testBit k = true
              · rw [ht] at hb
                go_upto_region 28 with fail
                go_region
                go_wp2_with fail
                rw [xor_bit]
                refine ⟨⟨k + 1, L.set ((ff + k) / 8) (L[(ff + k) / 8] ^^^ bitByte (ff + k)), by omega, by omega, by go_num, by rw [anyBit_hit bt k ht], Lib.hid (by rw [List.length_set, HL.out]), Lib.hid ?_, Lib.hid (HI.out.set _ hdv _).drew, Lib.hid (HK.out.set hB (by omega) (by omega) _ _)⟩, by simp [intOf]; omega⟩
                have e10 : (L.take 10).length = 10 := by rw [List.length_take, HL.out]; omega
                have hd : (ff + k) / 8 < (L.take 10).length := by rw [e10]; omega
                have hh := crcL_turn (L.take 10) bt ff k 10 e10 (by omega) HC.out hd ht
                rw [List.getElem_take] at hh
                rw [List.take_set]
                exact hh
              · have ht' : bt.testBit k = false := by simpa using ht
                rw [ht'] at hb
                go_wp2_with fail
                exact ⟨⟨k + 1, L, by omega, by omega, by go_num, by rw [anyBit_miss bt k ht'], HL, Lib.hid (by rw [burst_same bt _ k ht', HC.out]), HI, HK⟩, by simp [intOf]; omega⟩
            · have h80' : ¬ (ff : Int) + k < 80 := by omega
              have hK : min 8 (80 - ff) = k := by omega
              obtain ⟨T, hT⟩ := bytes_as L
              have hst := string_run_as HI.out (n := m) cap HL.out hT
              have hz := burst_zero bt (80 - ff) hbt (by omega)
              rw [hK, ← HC.out] at hz
              have c0 := HK.out.M.cell 0 rfl
              have c1 := HK.out.M.cell 1 rfl
              have c2 := HK.out.M.cell 2 rfl
              cases hab : anyBit bt k with
              | true =>
                rw [hab] at hz
                have hc10 : crcL (L.take 10) ≠ 0 := by
                  intro e
                  rw [e] at hz
                  exact absurd hz (by decide)
                have HE := Lib.hid (unpackE num s p T ⟨#[]⟩ 10 (Lib.hid (turned_sum num s m T L hT HX.out HM.out HL.out (by omega) hc10)))
                unfold modeV at HE
                clear hz hK hT hc10
                go_wp2_with fail
                refine (HE.out _).mono ?_
                rintro r w12 ⟨rfl, q⟩
                go_wp2_with fail
                go_returns
                exact ⟨rfl, bthen HK.out.q q⟩
              | false =>
                obtain ⟨t9, k9, h9⟩ := unpack_has num s T
                have HE := Lib.hid (unpackE num s p T t9 k9 (Lib.hid h9))
                unfold modeV at HE
                clear hz hK hT h9
                go_wp2_with fail
                refine (HE.out _).mono ?_
                rintro r w12 ⟨rfl, q⟩
                go_wp2_with fail
                go_returns
                exact ⟨rfl, bthen HK.out.q q⟩
          · have hK : min 8 (80 - ff) = k := by omega
            obtain ⟨T, hT⟩ := bytes_as L
            have hst := string_run_as HI.out (n := m) cap HL.out hT
            have hz := burst_zero bt (80 - ff) hbt (by omega)
            rw [hK, ← HC.out] at hz
            have c0 := HK.out.M.cell 0 rfl
            have c1 := HK.out.M.cell 1 rfl
            have c2 := HK.out.M.cell 2 rfl
            cases hab : anyBit bt k with
            | true =>
              rw [hab] at hz
              have hc10 : crcL (L.take 10) ≠ 0 := by
                intro e
                rw [e] at hz
                exact absurd hz (by decide)
              have HE := Lib.hid (unpackE num s p T ⟨#[]⟩ 10 (Lib.hid (turned_sum num s m T L hT HX.out HM.out HL.out (by omega) hc10)))
              unfold modeV at HE
              clear hz hK hT hc10
              go_wp2_with fail
              refine (HE.out _).mono ?_
              rintro r w12 ⟨rfl, q⟩
              go_wp2_with fail
              go_returns
              exact ⟨rfl, bthen HK.out.q q⟩
            | false =>
              obtain ⟨t9, k9, h9⟩ := unpack_has num s T
              have HE := Lib.hid (unpackE num s p T t9 k9 (Lib.hid h9))
              unfold modeV at HE
              clear hz hK hT h9
              go_wp2_with fail
              refine (HE.out _).mono ?_
              rintro r w12 ⟨rfl, q⟩
              go_wp2_with fail
              go_returns
              exact ⟨rfl, bthen HK.out.q q⟩
      · go_wp2_with fail
        refine (HP.out _).mono ?_
        rintro r w5 ⟨rfl, q⟩
        have K5 := Lib.hid (K4.out.below q)
        clear q c0 c1 c2 K4
        have c0 := K5.out.M.cell 0 rfl
        have c1 := K5.out.M.cell 1 rfl
        have c2 := K5.out.M.cell 2 rfl
        go_wp2_with fail
        refine (hK.out _).mono ?_
        rintro r w6 ⟨rfl, q⟩
        have K6 := Lib.hid (K5.out.below q)
        clear q c0 c1 c2 K5
        have c0 := K6.out.M.cell 0 rfl
        have c1 := K6.out.M.cell 1 rfl
        have c2 := K6.out.M.cell 2 rfl
        have hm0 : ((m : Int) = 0) = False := eq_false (by omega)
        go_wp2_with fail
        refine (HU.out _).mono ?_
        rintro r w7 ⟨rfl, q⟩
        have K7 := Lib.hid (K6.out.below q)
        clear q c0 c1 c2 K6
        have c0 := K7.out.M.cell 0 rfl
        have c1 := K7.out.M.cell 1 rfl
        have c2 := K7.out.M.cell 2 rfl
        have hbr := bytes_run w7 S
        have hbw := Lib.hid (bytesW_below w7 S)
        have hbi := Lib.hid (bytesW_is w7 S)
        have hBw : w7.heap.size < (bytesW w7 S).heap.size := by rw [bytesW_size]; omega
        have K8 := Lib.hid (K7.out.below hbw.out)
        have hB : w.heap.size ≤ w7.heap.size := K7.out.q.size
        have hB5 : w.heap.size < w7.heap.size := K7.out.X.lt
        have hB7 : b7 < w7.heap.size := K7.out.M.lt
        generalize bytesW w7 S = w8 at *
        generalize bytesCap w7 S = cap at *
        obtain ⟨B, hBe⟩ : ∃ B, w7.heap.size = B := ⟨_, rfl⟩
        rw [hBe] at hbr hbi hB hB5 hB7 hBw
        clear hbw K7 c0 c1 c2 hBe
        have c0 := K8.out.M.cell 0 rfl
        have c1 := K8.out.M.cell 1 rfl
        have c2 := K8.out.M.cell 2 rfl
        obtain ⟨L0, hL0⟩ : ∃ L, S.data.toList = L := ⟨_, rfl⟩
        have HL0 : Hid (L0 = frameL m fs.data.toList) := Lib.hid (by rw [← hL0]; exact HS.out)
        have hl0 : L0.length = m := by rw [← hL0, len_bytes]; exact hSs
        rw [hL0] at hbi
        have hz0 : Hid (crcL (L0.take 10) = 0) := Lib.hid (by
          rw [HL0.out, frameL, List.append_assoc, List.take_append_of_le_length (by rw [headB_len]; omega), List.take_of_length_le (by rw [headB_len]; omega)]
          exact crcL_closed _)
        clear hL0
        have hlt' : ¬ (fs.size : Int) < M := by omega
        have hx0 := K8.out.X.cell 0 rfl
        go_wp2_with fail
        rw [hff]
        clear hx0 hff
        go_loopw [23, 24] (fun tu i wr => ∃ (k : Nat) (L : List UInt8), k ≤ 8 ∧ ff + k ≤ 80 ∧ i = .int .i64 k ∧ tu = .bool (anyBit bt k) ∧ Hid (L.length = m) ∧ Hid (crcL (L.take 10) = burst bt (80 - ff) k) ∧ Hid (IsBytes wr B L) ∧ Hid (K2 w wr w.heap.size b7 t0 bt (U.toNat : Int) num s p)) (fun _ i _ => 8 - (intOf i).toNat)
        case atStart => exact ⟨0, L0, by omega, by omega, rfl, rfl, Lib.hid hl0, Lib.hid hz0.out, hbi, K8⟩
        case round =>
          obtain ⟨k, L, hk1, hk2, rfl, rfl, HL, HC, HI, HK⟩ := hrel
          clear hbi K8 hz0 c0 c1 c2
          by_cases h8 : k < 8
          · by_cases h80 : ff + k < 80
            · have h80' : (ff : Int) + k < 80 := by omega
              have hdv : (ff + k) / 8 < L.length := by rw [HL.out]; omega
              have hce := (HI.out _ hdv).1
              have hfe := (HI.out _ hdv).2
              have hx1 := HK.out.X.cell 1 rfl
              have h88 : ((ff : Int) + k) / 8 < m := by omega
              have hb := bit_fact bt k hbt h8
              by_cases ht : bt.testBit k = true
              · rw [ht] at hb
                go_upto_region 28 with fail
                go_region
                go_wp2_with fail
                rw [xor_bit]
                refine ⟨⟨k + 1, L.set ((ff + k) / 8) (L[(ff + k) / 8] ^^^ bitByte (ff + k)), by omega, by omega, by go_num, by rw [anyBit_hit bt k ht], Lib.hid (by rw [List.length_set, HL.out]), Lib.hid ?_, Lib.hid (HI.out.set _ hdv _).drew, Lib.hid (HK.out.set hB (by omega) (by omega) _ _)⟩, by simp [intOf]; omega⟩
                have e10 : (L.take 10).length = 10 := by rw [List.length_take, HL.out]; omega
                have hd : (ff + k) / 8 < (L.take 10).length := by rw [e10]; omega
                have hh := crcL_turn (L.take 10) bt ff k 10 e10 (by omega) HC.out hd ht
                rw [List.getElem_take] at hh
                rw [List.take_set]
                exact hh
              · have ht' : bt.testBit k = false := by simpa using ht
                rw [ht'] at hb
                go_wp2_with fail
                exact ⟨⟨k + 1, L, by omega, by omega, by go_num, by rw [anyBit_miss bt k ht'], HL, Lib.hid (by rw [burst_same bt _ k ht', HC.out]), HI, HK⟩, by simp [intOf]; omega⟩
            · have h80' : ¬ (ff : Int) + k < 80 := by omega
              have hK : min 8 (80 - ff) = k := by omega
              obtain ⟨T, hT⟩ := bytes_as L
              have hst := string_run_as HI.out (n := m) cap HL.out hT
              have hz := burst_zero bt (80 - ff) hbt (by omega)
              rw [hK, ← HC.out] at hz
              have c0 := HK.out.M.cell 0 rfl
              have c1 := HK.out.M.cell 1 rfl
              have c2 := HK.out.M.cell 2 rfl
              cases hab : anyBit bt k with
              | true =>
                rw [hab] at hz
                have hc10 : crcL (L.take 10) ≠ 0 := by
                  intro e
                  rw [e] at hz
                  exact absurd hz (by decide)
                have HE := Lib.hid (unpackE num s p T ⟨#[]⟩ 10 (Lib.hid (turned_sum num s m T L hT HX.out HM.out HL.out (by omega) hc10)))
                unfold modeV at HE
                clear hz hK hT hc10
                go_wp2_with fail
                refine (HE.out _).mono ?_
                rintro r w12 ⟨rfl, q⟩
                go_wp2_with fail
                go_returns
                exact ⟨rfl, bthen HK.out.q q⟩
              | false =>
                obtain ⟨t9, k9, h9⟩ := unpack_has num s T
                have HE := Lib.hid (unpackE num s p T t9 k9 (Lib.hid h9))
                unfold modeV at HE
                clear hz hK hT h9
                go_wp2_with fail
                refine (HE.out _).mono ?_
                rintro r w12 ⟨rfl, q⟩
                go_wp2_with fail
                go_returns
                exact ⟨rfl, bthen HK.out.q q⟩
          · have hK : min 8 (80 - ff) = k := by omega
            obtain ⟨T, hT⟩ := bytes_as L
            have hst := string_run_as HI.out (n := m) cap HL.out hT
            have hz := burst_zero bt (80 - ff) hbt (by omega)
            rw [hK, ← HC.out] at hz
            have c0 := HK.out.M.cell 0 rfl
            have c1 := HK.out.M.cell 1 rfl
            have c2 := HK.out.M.cell 2 rfl
            cases hab : anyBit bt k with
            | true =>
              rw [hab] at hz
              have hc10 : crcL (L.take 10) ≠ 0 := by
                intro e
                rw [e] at hz
                exact absurd hz (by decide)
              have HE := Lib.hid (unpackE num s p T ⟨#[]⟩ 10 (Lib.hid (turned_sum num s m T L hT HX.out HM.out HL.out (by omega) hc10)))
              unfold modeV at HE
              clear hz hK hT hc10
              go_wp2_with fail
              refine (HE.out _).mono ?_
              rintro r w12 ⟨rfl, q⟩
              go_wp2_with fail
              go_returns
              exact ⟨rfl, bthen HK.out.q q⟩
            | false =>
              obtain ⟨t9, k9, h9⟩ := unpack_has num s T
              have HE := Lib.hid (unpackE num s p T t9 k9 (Lib.hid h9))
              unfold modeV at HE
              clear hz hK hT h9
              go_wp2_with fail
              refine (HE.out _).mono ?_
              rintro r w12 ⟨rfl, q⟩
              go_wp2_with fail
              go_returns
              exact ⟨rfl, bthen HK.out.q q⟩
  · have e0 : decide (0 < bitsN num s) = false := decide_eq_false hx
    rw [e0] at hM
    have hM := Lib.hid hM
    have HP := Lib.hid (packE num s p ⟨#[]⟩ ⟨#[]⟩ 15 (Lib.hid (packS_no num s _ hx)))
    have HU := Lib.hid (unpackE num s p ⟨#[]⟩ ⟨#[]⟩ 15 (Lib.hid (.inl ⟨hx, rfl, rfl⟩)))
    unfold modeV at *
    have A0 : Hid (Blk (w.alloc (.cells #[.int .u8 t0, .int .u8 bt, .int .u8 U.toNat] 45)) w.heap.size [.int .u8 t0, .int .u8 bt, .int .u8 U.toNat] 45) := Lib.hid (Blk.new w [.int .u8 t0, .int .u8 bt, .int .u8 U.toNat] _)
    clear e0 hx
    go_enter Try.func10, Try.ntmps10
    go_wp2_with fail
    refine (works14 _).mono ?_
    rintro r w1 ⟨rfl, q1⟩
    have A1 := Lib.hid (A0.out.below q1 A0.out.lt)
    have b1 : Hid (Below w.heap.size w w1) := Lib.hid (((Below.refl _ _).alloc (Nat.le_refl _) _).trans (q1.mono (by simp)))
    clear q1 A0
    go_wp2_with fail
    refine (hM.out _).mono ?_
    rintro r w2 ⟨rfl, q2⟩
    obtain ⟨b7, hb7⟩ : ∃ b, w2.heap.size = b := ⟨_, rfl⟩
    obtain ⟨w3, hw3⟩ : ∃ w3, w2.alloc (.cells #[.int .i64 num, .bool s, .bool p] 41) = w3 := ⟨_, rfl⟩
    have K : Hid (K2 w w3 w.heap.size b7 t0 bt (U.toNat : Int) num s p) := Lib.hid (by
      rw [← hw3, ← hb7]
      exact ⟨(A1.out.below q2 A1.out.lt).alloc _, Blk.new w2 _ _, (bthen b1.out q2).alloc (bthen b1.out q2).size _⟩)
    clear q2 A1 b1
    have c0 := K.out.M.cell 0 rfl
    have c1 := K.out.M.cell 1 rfl
    have c2 := K.out.M.cell 2 rfl
    go_wp2_with fail
    refine (HP.out _).mono ?_
    rintro r w4 ⟨rfl, q⟩
    have K4 := Lib.hid (K.out.below q)
    clear q c0 c1 c2 K
    have c0 := K4.out.M.cell 0 rfl
    have c1 := K4.out.M.cell 1 rfl
    have c2 := K4.out.M.cell 2 rfl
    clear hw3 hb7
    go_wp2_with fail
    refine (HU.out _).mono ?_
    rintro r w5 ⟨rfl, q⟩
    have K5 := Lib.hid (K4.out.below q)
    clear q c0 c1 c2 K4
    have c0 := K5.out.M.cell 0 rfl
    have c1 := K5.out.M.cell 1 rfl
    have c2 := K5.out.M.cell 2 rfl
    go_wp2_with fail
    go_returns
    exact ⟨rfl, K5.out.q⟩
end Go.Proofs.Ytdipbdoekmcgbaa
