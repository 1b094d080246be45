/-
  ReportBack: the walk.
-/
import Derived.Test.YtljdkaajlmcpkaaReport7
import Derived.Test.YtljdkaajlmcpkaaCrcPlain
import Derived.Deep.CutBlock
namespace Go.Proofs.Ytljdkaajlmcpkaa
open Go.RowKit

theorem decode_zero (s : ByteArray) (v : Value) (k : Int) (h : decode s = (v, k)) (hk : k ≠ 0) : v = repV 0 0 0 := by
  unfold decode at h
  split at h
  · injection h with h _; exact h.symm
  · split at h
    · injection h with h _; exact h.symm
    · injection h with h1 h2
      rw [← h1, decV, if_neg (by rw [h2]; exact hk)]
theorem decode_turned8 (b0 b1 b2 b3 b4 b5 b6 b7 : UInt8) (hc : crcL ([b0, b1, b2, b3, b4, b5, b6] ++ [b7]) ≠ 0) : decode (S8 b0 b1 b2 b3 b4 b5 b6 b7) = (repV 0 0 0, 10) := by
  have h8 : (S8 b0 b1 b2 b3 b4 b5 b6 b7).size = 8 := rfl
  have h7 : crcL ((S8 b0 b1 b2 b3 b4 b5 b6 b7).extract 0 7).data.toList ≠ ((S8 b0 b1 b2 b3 b4 b5 b6 b7).data.toList.getD 7 0).toNat := by
    rw [ex07]
    intro e
    apply hc
    rw [crcL_snoc]
    have e' : crcL [b0, b1, b2, b3, b4, b5, b6] = b7.toNat := e
    rw [e', Nat.xor_self, citer_zero]
  unfold decode
  rw [if_neg (fun h => h h8), if_pos h7]
/-- Bytes that are told to be no report's. -/
theorem decode_turned (L : List UInt8) (hL : L.length = 8) (hc : crcL L ≠ 0) : decode ⟨L.toArray⟩ = (repV 0 0 0, 10) := by
  obtain ⟨b0, b1, b2, b3, b4, b5, b6, b7, e⟩ := str8 ⟨L.toArray⟩ hL
  have el : L = [b0, b1, b2, b3, b4, b5, b6] ++ [b7] := congrArg (fun s : ByteArray => s.data.toList) e
  rw [e]
  exact decode_turned8 _ _ _ _ _ _ _ _ (by rw [← el]; exact hc)
theorem turned_ne (bt f k : Nat) (L : List UInt8) (hf : f < 64) (hK : min 8 (64 - f) = k) (hb : bt < 256) (hc : crcL L = burst bt (64 - f) k) (ha : anyBit bt k = true) : crcL L ≠ 0 := by
  have hz := burst_zero bt (64 - f) hb (by omega)
  rw [hK, ha, ← hc] at hz
  simpa using hz
theorem ofNat_id {b : UInt8} {n : Nat} (h : n = b.toNat) : UInt8.ofNat n = b := by
  subst h
  exact UInt8.ofNat_toNat
/-- Bytes that are taken are laid again just so. -/
theorem enc_dec (s : ByteArray) (t q x : Int) (h : decode s = (repV t q x, 0)) : repE t q x = 0 ∧ q < 4294967296 ∧ encode t q x = (s, 0) ∧ s.size = 8 := by
  by_cases h8 : s.size = 8
  · obtain ⟨b0, b1, b2, b3, b4, b5, b6, b7, rfl⟩ := str8 s h8
    have l0 := b0.toNat_lt
    have l1 := b1.toNat_lt
    have l2 := b2.toNat_lt
    have l3 := b3.toNat_lt
    have l4 := b4.toNat_lt
    have l5 := b5.toNat_lt
    have l6 := b6.toNat_lt
    unfold decode at h
    rw [if_neg (by simp [ByteArray.size]), ex07, ex01, ex15, ex57] at h
    split at h
    · injection h with _ h2
      simp at h2
    · rename_i hc
      have hc' : crcL [b0, b1, b2, b3, b4, b5, b6] = b7.toNat := Classical.byContradiction fun e => hc e
      have n1 : numL [b0] = b0.toNat := by simp [numL]
      have n2 : numL [b1, b2, b3, b4] = ((b1.toNat * 256 + b2.toNat) * 256 + b3.toNat) * 256 + b4.toNat := by simp [numL]
      have n3 : numL [b5, b6] = b5.toNat * 256 + b6.toNat := by simp [numL]
      injection h with hv he
      change decV (numL [b0]) (numL [b1, b2, b3, b4]) (numL [b5, b6]) = repV t q x at hv
      change repE (numL [b0]) (numL [b1, b2, b3, b4]) ((numL [b5, b6] : Int) - 5000) = 0 at he
      rw [n1, n2, n3] at hv he
      rw [decV, if_pos he] at hv
      obtain ⟨T, hT⟩ : ∃ T, T = b0.toNat := ⟨_, rfl⟩
      obtain ⟨Q, hQ⟩ : ∃ Q, Q = ((b1.toNat * 256 + b2.toNat) * 256 + b3.toNat) * 256 + b4.toNat := ⟨_, rfl⟩
      obtain ⟨X, hX⟩ : ∃ X, X = b5.toNat * 256 + b6.toNat := ⟨_, rfl⟩
      rw [← hT, ← hQ, ← hX] at hv he
      simp at hv
      obtain ⟨rfl, rfl, rfl⟩ := hv
      have hz := repE_zero he
      refine ⟨he, by omega, ?_, rfl⟩
      unfold encode
      rw [if_pos he]
      have e1 : ((T : Int)).toNat = T := rfl
      have e2 : ((Q : Int)).toNat = Q := rfl
      have e3 : ((X : Int) - 5000 + 5000).toNat = X := by omega
      rw [e1, e2, e3]
      have hl : repL T Q X = [b0, b1, b2, b3, b4, b5, b6] := by
        show [UInt8.ofNat T, UInt8.ofNat (Q / 16777216), UInt8.ofNat (Q / 65536 % 256), UInt8.ofNat (Q / 256 % 256), UInt8.ofNat (Q % 256), UInt8.ofNat (X / 256), UInt8.ofNat (X % 256)] = _
        rw [ofNat_id (b := b0) (by omega), ofNat_id (b := b1) (by omega), ofNat_id (b := b2) (by omega), ofNat_id (b := b3) (by omega), ofNat_id (b := b4) (by omega), ofNat_id (b := b5) (by omega), ofNat_id (b := b6) (by omega)]
      have hb : repB T Q X = S8 b0 b1 b2 b3 b4 b5 b6 b7 := by
        rw [repB, hl, hc', ofNat_id (b := b7) rfl]
        rfl
      rw [hb]
  · unfold decode at h
    rw [if_pos h8] at h
    injection h with _ h2
    simp at h2

set_option maxRecDepth 100000 in
set_option maxHeartbeats 1600000 in
theorem reportBack_walk (t q x : Int) (s : ByteArray) (u0 u1 : Int) (hq : q < 4294967296) (hu0 : 0 ≤ u0 ∧ u0 ≤ 255) (hu1 : 0 ≤ u1 ∧ u1 ≤ 255) (w : World) :
    Calls Try.prog 7 #[repV t q x, .string s, .agg #[.int .u8 u0, .int .u8 u1]] w fun e w' => e = .returned (.bool true) ∧ Below w.heap.size w w' := by
  obtain ⟨S, k, hen⟩ : ∃ S k, encode t q x = (S, k) := ⟨_, _, rfl⟩
  have hk : Hid (repE t q x = k) := Lib.hid (by rw [← encode_err, hen])
  have HEN := Lib.hid hen
  clear hen
  obtain ⟨f, hf, hf64⟩ : ∃ f : Nat, u0 % 64 = f ∧ f < 64 := ⟨(u0 % 64).toNat, by omega, by omega⟩
  obtain ⟨bt, rfl⟩ : ∃ bt : Nat, u1 = bt := ⟨u1.toNat, by omega⟩
  obtain ⟨w1, hw1⟩ : ∃ w1, (w.alloc (.cells #[.int .i64 t, .int .u32 q, .int .i64 x] TRep)).alloc (.cells #[.int .u8 u0, .int .u8 (bt : Int)] 60) = w1 := ⟨_, rfl⟩
  have B1 : Hid (Blk w1 w.heap.size [.int .i64 t, .int .u32 q, .int .i64 x] TRep) := Lib.hid (by rw [← hw1]; exact (Blk.new w [.int .i64 t, .int .u32 q, .int .i64 x] TRep).alloc _)
  have C1 : Hid (Blk w1 (w.heap.size + 1) [.int .u8 u0, .int .u8 (bt : Int)] 60) := Lib.hid (by
    rw [← hw1]
    have := Blk.new (w.alloc (.cells #[.int .i64 t, .int .u32 q, .int .i64 x] TRep)) [.int .u8 u0, .int .u8 (bt : Int)] 60
    rw [World.size_alloc] at this
    exact this)
  have b1 : Hid (Below w.heap.size w w1) := Lib.hid (by rw [← hw1]; exact ((Below.refl _ _).alloc (Nat.le_refl _) _).alloc (by simp) _)
  go_enter Try.func7, Try.ntmps7
  go_wp2_with fail
  clear hw1
  refine (works18 _).mono ?_
  rintro e w2 ⟨rfl, q2⟩
  have B2 := Lib.hid (B1.out.below q2 B1.out.lt)
  have C2 := Lib.hid (C1.out.below q2 C1.out.lt)
  have b2 : Hid (Below w.heap.size w w2) := Lib.hid (b1.out.trans (q2.mono b1.out.size))
  have c0 := B2.out.cell 0 rfl
  have c1 := B2.out.cell 1 rfl
  have c2 := B2.out.cell 2 rfl
  clear q2 B1 b1 C1
  go_wp2_with fail
  refine (encE t q x S k HEN.out hq _).mono ?_
  rintro e w3 ⟨rfl, q3⟩
  have B3 := Lib.hid (B2.out.below q3 B2.out.lt)
  have C3 := Lib.hid (C2.out.below q3 C2.out.lt)
  have b3 : Hid (Below w.heap.size w w3) := Lib.hid (b2.out.trans (q3.mono b2.out.size))
  clear q3 B2 b2 C2 c0 c1 c2
  go_upto_if 29 with (fail)
  go_cut [17] (fun p wc => Hid (Below w.heap.size w wc))
  case first =>
    by_cases h1 : k = 0
    · subst h1
      have hd : Hid (decode S = (repV t q x, 0)) := Lib.hid (by have := decode_encode t q x hq hk.out; rw [HEN.out] at this; exact this)
      have hS8 : S.size = 8 := by have := encode_size t q x hk.out; rw [HEN.out] at this; exact this
      have hz : Hid (crcL S.data.toList = 0) := Lib.hid (by
        have a := HEN.out
        unfold encode at a
        rw [if_pos hk.out] at a
        injection a with a _
        rw [← a]
        exact crcL_closed _)
      have hS8' : (S.size : Int) = 8 := by omega
      go_wp2_with fail
      refine (dcE S _ _ hd _).mono ?_
      rintro e w4 ⟨rfl, q4⟩
      obtain ⟨w5, hw5⟩ : ∃ w5, w4.alloc (.cells #[.int .i64 t, .int .u32 q, .int .i64 x] TRep) = w5 := ⟨_, rfl⟩
      have D5 : Hid (Blk w5 w4.heap.size [.int .i64 t, .int .u32 q, .int .i64 x] TRep) := Lib.hid (by rw [← hw5]; exact Blk.new w4 [.int .i64 t, .int .u32 q, .int .i64 x] TRep)
      have b5 : Hid (Below w.heap.size w w5) := Lib.hid (by rw [← hw5]; exact (b3.out.trans (q4.mono b3.out.size)).alloc (Nat.le_trans b3.out.size q4.size) _)
      have B5 : Hid (Blk w5 w.heap.size [.int .i64 t, .int .u32 q, .int .i64 x] TRep) := Lib.hid (by rw [← hw5]; exact (B3.out.below q4 B3.out.lt).alloc _)
      have C5 : Hid (Blk w5 (w.heap.size + 1) [.int .u8 u0, .int .u8 (bt : Int)] 60) := Lib.hid (by rw [← hw5]; exact (C3.out.below q4 C3.out.lt).alloc _)
      have d0 := D5.out.cell 0 rfl
      have d1 := D5.out.cell 1 rfl
      have d2 := D5.out.cell 2 rfl
      have c0 := B5.out.cell 0 rfl
      have c1 := B5.out.cell 1 rfl
      have c2 := B5.out.cell 2 rfl
      have hbr := bytes_run w5 S
      have hbw := Lib.hid (bytesW_below w5 S)
      have hbi := Lib.hid (bytesW_is w5 S)
      have hbs := Lib.hid (bytesW_size w5 S)
      clear q4
      generalize bytesW w5 S = w6 at *
      generalize bytesCap w5 S = cap at *
      have C6 := Lib.hid (C5.out.below hbw.out C5.out.lt)
      have b6 : Hid (Below w.heap.size w w6) := Lib.hid (b5.out.trans (hbw.out.mono b5.out.size))
      have hB : w.heap.size ≤ w5.heap.size := b5.out.size
      have hC : w.heap.size + 1 < w5.heap.size := C5.out.lt
      have t0 := C6.out.cell 0 rfl
      go_wp2_with fail
      rw [hf]
      clear d0 d1 d2 c0 c1 c2 hbr t0 hw5 hf
      generalize w5.heap.size = B at *
      go_loopw [13, 14] (fun tu i wr => ∃ (k : Nat) (L : List UInt8), k ≤ 8 ∧ f + k ≤ 64 ∧ i = .int .i64 k ∧ tu = .bool (anyBit bt k) ∧ Hid (L.length = 8) ∧ Hid (crcL L = burst bt (64 - f) k) ∧ Hid (IsBytes wr B L) ∧ Hid (Below w.heap.size w wr) ∧ Hid (Blk wr (w.heap.size + 1) [.int .u8 u0, .int .u8 (bt : Int)] 60)) (fun _ i _ => 8 - (intOf i).toNat)
      case atStart => exact ⟨0, S.data.toList, by omega, by omega, rfl, rfl, Lib.hid (by rw [len_bytes, hS8]), hz, hbi, b6, C6⟩
      case round =>
        obtain ⟨k, L, hk1, hk2, rfl, rfl, HL, HC, HI, hbl, CC⟩ := hrel
        clear hz hbi b6 C6 hbs hbw B5 C5 D5 b5
        by_cases h8 : k < 8
        · by_cases hlt : f + k < 64
          · have hlt2 : (f : Int) + (k : Int) < 64 := by omega
            have hdv : (f + k) / 8 < L.length := by rw [HL.out]; omega
            have hce := (HI.out _ hdv).1
            have hfe := (HI.out _ hdv).2
            have t1 := CC.out.cell 1 rfl
            have h88 : ((f : Int) + k) / 8 < 8 := by omega
            go_wp2
            · have hbit : (bits BinOp.and IntKind.u8 ((bt : Int) / 2 ^ k) 1 == 1) = true := by assumption
              rw [bit_fact bt k (by omega) h8] at hbit
              go_region
              go_wp2
              clear hce hfe
              rw [xor_bit]
              refine ⟨⟨k + 1, L.set ((f + k) / 8) (L[(f + k) / 8] ^^^ bitByte (f + k)), by omega, by omega, by go_num, by rw [anyBit_hit bt k hbit], Lib.hid (by rw [List.length_set, HL.out]), Lib.hid (crcL_turn L bt f k 8 HL.out hlt HC.out hdv hbit), Lib.hid (HI.out.set _ hdv _).drew, Lib.hid (hbl.out.setCell hB _).drew, Lib.hid (CC.out.other (by omega)).drew⟩, by simp [intOf]; omega⟩
            · have hbit : (bits BinOp.and IntKind.u8 ((bt : Int) / 2 ^ k) 1 == 1) = false := by assumption
              rw [bit_fact bt k (by omega) h8] at hbit
              refine ⟨⟨k + 1, L, by omega, by omega, by go_num, by rw [anyBit_miss bt k hbit], HL, Lib.hid (by rw [burst_same bt _ k hbit, HC.out]), HI, hbl, CC⟩, by simp [intOf]; omega⟩
          · have hge : 64 ≤ (f : Int) + (k : Int) := by omega
            obtain ⟨T, hT⟩ := bytes_as L
            have hst := string_run_as HI.out (n := 8) cap HL.out hT
            have HT : Hid (anyBit bt k = true → decode T = (repV 0 0 0, 10)) := Lib.hid (fun ha => by
              rw [show T = ⟨L.toArray⟩ by rw [← hT]]
              exact decode_turned L HL.out (turned_ne bt f k L hf64 (by omega) (by omega) HC.out ha))
            obtain ⟨t2, q2, x2, k2, hd2⟩ := decode_has T
            cases hab : anyBit bt k with
            | true =>
              go_wp2_with fail
              refine (dcE T _ 10 (Lib.hid (HT.out hab)) _).mono ?_
              rintro e w7 ⟨rfl, q7⟩
              have b7 : Hid (Below w.heap.size w w7) := Lib.hid (hbl.out.trans (q7.mono hbl.out.size))
              go_wp2_with fail
              go_meet
              case rel => exact Lib.hid (b7.out.alloc b7.out.size _)
            | false =>
              go_wp2_with fail
              refine (dcE T _ k2 hd2 _).mono ?_
              rintro e w7 ⟨rfl, q7⟩
              have b7 : Hid (Below w.heap.size w w7) := Lib.hid (hbl.out.trans (q7.mono hbl.out.size))
              go_wp2_with fail
              go_meet
              case rel => exact Lib.hid (b7.out.alloc b7.out.size _)
        · obtain ⟨T, hT⟩ := bytes_as L
          have hst := string_run_as HI.out (n := 8) cap HL.out hT
          have HT : Hid (anyBit bt k = true → decode T = (repV 0 0 0, 10)) := Lib.hid (fun ha => by
            rw [show T = ⟨L.toArray⟩ by rw [← hT]]
            exact decode_turned L HL.out (turned_ne bt f k L hf64 (by omega) (by omega) HC.out ha))
          obtain ⟨t2, q2, x2, k2, hd2⟩ := decode_has T
          cases hab : anyBit bt k with
          | true =>
            go_wp2_with fail
            refine (dcE T _ 10 (Lib.hid (HT.out hab)) _).mono ?_
            rintro e w7 ⟨rfl, q7⟩
            have b7 : Hid (Below w.heap.size w w7) := Lib.hid (hbl.out.trans (q7.mono hbl.out.size))
            go_wp2_with fail
            go_meet
            case rel => exact Lib.hid (b7.out.alloc b7.out.size _)
          | false =>
            go_wp2_with fail
            refine (dcE T _ k2 hd2 _).mono ?_
            rintro e w7 ⟨rfl, q7⟩
            have b7 : Hid (Below w.heap.size w w7) := Lib.hid (hbl.out.trans (q7.mono hbl.out.size))
            go_wp2_with fail
            go_meet
            case rel => exact Lib.hid (b7.out.alloc b7.out.size _)
    · obtain rfl : S = ⟨#[]⟩ := by
        have a := HEN.out
        unfold encode at a
        rw [if_neg (by rw [hk.out]; exact h1)] at a
        injection a with a _
        exact a.symm
      have c0 := B3.out.cell 0 rfl
      have c1 := B3.out.cell 1 rfl
      have c2 := B3.out.cell 2 rfl
      go_wp2_with fail
      refine (chE t q x k hk _).mono ?_
      rintro e w4 ⟨rfl, q4⟩
      go_wp2_with fail
      go_meet
      case rel => exact Lib.hid (b3.out.trans (q4.mono b3.out.size))
  case rest =>
    clear B3 C3 b3 hk HEN hf hf64
    by_cases hs1 : (s.size : Int) ≤ 100
    · obtain ⟨t2, q2, x2, k2, hd⟩ := decode_has s
      by_cases hk2 : k2 = 0
      · subst hk2
        have hED := Lib.hid (enc_dec s t2 q2 x2 hd.out)
        go_wp2_with fail
        refine (dcE s _ 0 hd _).mono ?_
        rintro e w4 ⟨rfl, q4⟩
        obtain ⟨w5, hw5⟩ : ∃ w5, w4.alloc (.cells #[.int .i64 t2, .int .u32 q2, .int .i64 x2] TRep) = w5 := ⟨_, rfl⟩
        have D5 : Hid (Blk w5 w4.heap.size [.int .i64 t2, .int .u32 q2, .int .i64 x2] TRep) := Lib.hid (by rw [← hw5]; exact Blk.new w4 [.int .i64 t2, .int .u32 q2, .int .i64 x2] TRep)
        have b5 : Hid (Below w.heap.size w w5) := Lib.hid (by rw [← hw5]; exact (hcut.out.trans (q4.mono hcut.out.size)).alloc (Nat.le_trans hcut.out.size q4.size) _)
        have d0 := D5.out.cell 0 rfl
        have d1 := D5.out.cell 1 rfl
        have d2 := D5.out.cell 2 rfl
        clear q4 hcut
        go_wp2_with fail
        clear hw5
        refine (encE t2 q2 x2 s 0 hED.out.2.2.1 hED.out.2.1 _).mono ?_
        rintro e w6 ⟨rfl, q6⟩
        have D6 := Lib.hid (D5.out.below q6 D5.out.lt)
        have d0 := D6.out.cell 0 rfl
        have d1 := D6.out.cell 1 rfl
        have d2 := D6.out.cell 2 rfl
        go_wp2_with fail
        refine (chE t2 q2 x2 0 (Lib.hid hED.out.1) _).mono ?_
        rintro e w7 ⟨rfl, q7⟩
        go_wp2_with fail
        go_returns
        exact ⟨rfl, b5.out.trans ((bthen q6 q7).mono b5.out.size)⟩
      · have hz := decode_zero s _ k2 hd.out hk2
        simp at hz
        obtain ⟨rfl, rfl, rfl⟩ := hz
        go_wp2_with fail
        refine (dcE s _ k2 hd _).mono ?_
        rintro e w4 ⟨rfl, q4⟩
        go_wp2_with fail
        go_returns
        exact ⟨rfl, (hcut.out.trans (q4.mono hcut.out.size)).alloc (Nat.le_trans hcut.out.size q4.size) _⟩
    · have hs2 : (100 : Int) < s.size := by omega
      obtain ⟨S', hS'⟩ : ∃ S', s.extract 0 100 = S' := ⟨_, rfl⟩
      have hd : Hid (decode S' = (repV 0 0 0, 4)) := Lib.hid (by
        unfold decode
        rw [if_pos (by rw [← hS']; simp; omega)])
      go_wp2_with fail
      refine (dcE S' _ 4 hd _).mono ?_
      rintro e w4 ⟨rfl, q4⟩
      go_wp2_with fail
      go_returns
      exact ⟨rfl, (hcut.out.trans (q4.mono hcut.out.size)).alloc (Nat.le_trans hcut.out.size q4.size) _⟩

end Go.Proofs.Ytljdkaajlmcpkaa
