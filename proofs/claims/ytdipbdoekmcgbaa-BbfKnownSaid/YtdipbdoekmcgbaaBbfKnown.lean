/-
  BbfKnown: the walk. (Printed by mkknownf.py.)
-/
import Derived.Test.YtdipbdoekmcgbaaBbfModes
namespace Go.Proofs.Ytdipbdoekmcgbaa
open Go.RowKit

def headsC : List Value := [.int .i64 24577, .int .i64 0, .int .i64 16, .int .i64 0, .int .i64 0, .int .i64 24576, .int .i64 1, .int .i64 16, .int .i64 0, .int .i64 0, .int .i64 24576, .int .i64 0, .int .i64 16, .int .i64 1, .int .i64 0, .int .i64 24576, .int .i64 0, .int .i64 16, .int .i64 0, .int .i64 1, .int .i64 24576, .int .i64 0, .int .i64 17, .int .i64 0, .int .i64 0, .int .i64 24576, .int .i64 0, .int .i64 3000, .int .i64 0, .int .i64 0, .int .i64 0, .int .i64 0, .int .i64 0, .int .i64 0, .int .i64 0]
theorem append_list (a b : ByteArray) : (a ++ b).data.toList = a.data.toList ++ b.data.toList := by rw [ByteArray.data_append, Array.toList_append]
theorem head_front (a b c d e : Nat) (Z : ByteArray) (h0 : a ≤ 65535) (h1 : b ≤ 65535) (h2 : c ≤ 58112) (h3 : d ≤ 255) (h4 : e ≤ 65535) : hdecode ((headB a b c d e ++ Z).extract 0 10) = (headV a b c d e, 0) := by
  have hl := headB_len a b c d e
  have ex : (headB a b c d e ++ Z).extract 0 10 = headB a b c d e := by
    apply ba_list
    rw [ext_list, append_list, List.drop_zero, List.take_append_of_le_length (by omega), List.take_of_length_le (by omega)]
  rw [ex]
  exact hdec_enc a b c d e h0 h1 h2 h3 h4
theorem heads_at (Z : ByteArray) (hZ : Z.size = 374) (i : Nat) (hi : i < 7) : ∃ (a b c d e : Nat) (S : ByteArray), headsC[i * 5]? = some (.int .i64 a) ∧ headsC[i * 5 + 1]? = some (.int .i64 b) ∧ headsC[i * 5 + 2]? = some (.int .i64 c) ∧ headsC[i * 5 + 3]? = some (.int .i64 d) ∧ headsC[i * 5 + 4]? = some (.int .i64 e)
    ∧ S.size = 10 ∧ hencode a b c d e = (S, 0) ∧ UnpackIs 1 true (S ++ Z) ⟨#[]⟩ 4 := by
  rcases (by omega : i = 0 ∨ i = 1 ∨ i = 2 ∨ i = 3 ∨ i = 4 ∨ i = 5 ∨ i = 6) with rfl | rfl | rfl | rfl | rfl | rfl | rfl
  · refine ⟨24577, 0, 16, 0, 0, headB 24577 0 16 0 0, rfl, rfl, rfl, rfl, rfl, rfl, hencode_nat 24577 0 16 0 0 (by decide +kernel), .inr ⟨384, by rw [bits1]; decide, by rw [bits1]; decide, .inr ⟨by rw [bytes_as_size (append_list _ Z), List.length_append, headB_len, len_bytes, hZ], ?_⟩⟩⟩
    have hd := head_front 24577 0 16 0 0 Z (by decide) (by decide) (by decide) (by decide) (by decide)
    exact (.inr (.inr (.inr ⟨24577, 0, 16, 0, 0, by decide, by decide, hd, rfl, rfl⟩)))
  · refine ⟨24576, 1, 16, 0, 0, headB 24576 1 16 0 0, rfl, rfl, rfl, rfl, rfl, rfl, hencode_nat 24576 1 16 0 0 (by decide +kernel), .inr ⟨384, by rw [bits1]; decide, by rw [bits1]; decide, .inr ⟨by rw [bytes_as_size (append_list _ Z), List.length_append, headB_len, len_bytes, hZ], ?_⟩⟩⟩
    have hd := head_front 24576 1 16 0 0 Z (by decide) (by decide) (by decide) (by decide) (by decide)
    exact (.inr (.inr (.inr ⟨24576, 1, 16, 0, 0, by decide, by decide, hd, rfl, rfl⟩)))
  · refine ⟨24576, 0, 16, 1, 0, headB 24576 0 16 1 0, rfl, rfl, rfl, rfl, rfl, rfl, hencode_nat 24576 0 16 1 0 (by decide +kernel), .inr ⟨384, by rw [bits1]; decide, by rw [bits1]; decide, .inr ⟨by rw [bytes_as_size (append_list _ Z), List.length_append, headB_len, len_bytes, hZ], ?_⟩⟩⟩
    have hd := head_front 24576 0 16 1 0 Z (by decide) (by decide) (by decide) (by decide) (by decide)
    exact (.inr (.inr (.inr ⟨24576, 0, 16, 1, 0, by decide, by decide, hd, rfl, rfl⟩)))
  · refine ⟨24576, 0, 16, 0, 1, headB 24576 0 16 0 1, rfl, rfl, rfl, rfl, rfl, rfl, hencode_nat 24576 0 16 0 1 (by decide +kernel), .inr ⟨384, by rw [bits1]; decide, by rw [bits1]; decide, .inr ⟨by rw [bytes_as_size (append_list _ Z), List.length_append, headB_len, len_bytes, hZ], ?_⟩⟩⟩
    have hd := head_front 24576 0 16 0 1 Z (by decide) (by decide) (by decide) (by decide) (by decide)
    exact (.inr (.inr (.inr ⟨24576, 0, 16, 0, 1, by decide, by decide, hd, rfl, rfl⟩)))
  · refine ⟨24576, 0, 17, 0, 0, headB 24576 0 17 0 0, rfl, rfl, rfl, rfl, rfl, rfl, hencode_nat 24576 0 17 0 0 (by decide +kernel), .inr ⟨384, by rw [bits1]; decide, by rw [bits1]; decide, .inr ⟨by rw [bytes_as_size (append_list _ Z), List.length_append, headB_len, len_bytes, hZ], ?_⟩⟩⟩
    have hd := head_front 24576 0 17 0 0 Z (by decide) (by decide) (by decide) (by decide) (by decide)
    exact (.inr (.inr (.inr ⟨24576, 0, 17, 0, 0, by decide, by decide, hd, rfl, rfl⟩)))
  · refine ⟨24576, 0, 3000, 0, 0, headB 24576 0 3000 0 0, rfl, rfl, rfl, rfl, rfl, rfl, hencode_nat 24576 0 3000 0 0 (by decide +kernel), .inr ⟨384, by rw [bits1]; decide, by rw [bits1]; decide, .inr ⟨by rw [bytes_as_size (append_list _ Z), List.length_append, headB_len, len_bytes, hZ], ?_⟩⟩⟩
    have hd := head_front 24576 0 3000 0 0 Z (by decide) (by decide) (by decide) (by decide) (by decide)
    exact (.inr (.inr (.inl ⟨375, by decide, by decide, hd, rfl, rfl⟩)))
  · refine ⟨0, 0, 0, 0, 0, headB 0 0 0 0 0, rfl, rfl, rfl, rfl, rfl, rfl, hencode_nat 0 0 0 0 0 (by decide +kernel), .inr ⟨384, by rw [bits1]; decide, by rw [bits1]; decide, .inr ⟨by rw [bytes_as_size (append_list _ Z), List.length_append, headB_len, len_bytes, hZ], ?_⟩⟩⟩
    have hd := head_front 0 0 0 0 0 Z (by decide) (by decide) (by decide) (by decide) (by decide)
    exact (.inr (.inr (.inr ⟨0, 0, 0, 0, 0, by decide, by decide, hd, rfl, rfl⟩)))
theorem bits28 : bitsN 28 false = 58192 := by decide +kernel
theorem bits27 : bitsN 27 false = 57472 := by decide +kernel
theorem bits0 : bitsN 0 false = 0 := by decide +kernel

set_option maxRecDepth 100000 in
set_option maxHeartbeats 4000000 in
theorem bbfKnown_walk (w : World) : Calls Try.prog 12 #[] w fun e w' => e = .returned (.bool true) ∧ Below w.heap.size w w' := by
  obtain ⟨Z, hZ⟩ := bytes_as (List.replicate 374 (0 : UInt8))
  have hZs : Z.size = 374 := by rw [bytes_as_size hZ, List.length_replicate]
  obtain ⟨S1, hS1⟩ := bytes_as (frameL 384 Z.data.toList)
  obtain ⟨S2, hS2⟩ := bytes_as (frameL 384 (⟨#[]⟩ : ByteArray).data.toList)
  obtain ⟨S3, hS3⟩ := bytes_as (frameL 7274 (⟨#[120]⟩ : ByteArray).data.toList)
  have hs2 : S2.size = 384 := by rw [bytes_as_size hS2]; exact frameL_length _ _ (by decide)
  have hs3 : S3.size = 7274 := by rw [bytes_as_size hS3]; exact frameL_length _ _ (by decide)
  have P1 := Lib.hid (packE 1 true true Z S1 0 (Lib.hid (packS_good 1 true 384 S1 Z (by rw [bits1]; decide) (by rw [bits1]; decide) (by omega) hS1)))
  have U1 := Lib.hid (unpackE 1 true true S1 Z 0 (Lib.hid (unpack_frame 1 true 384 S1 Z (by rw [bits1]; decide) (by rw [bits1]; decide) (by omega) hS1)))
  have P2 := Lib.hid (packE 1 true true ⟨#[]⟩ S2 0 (Lib.hid (packS_good 1 true 384 S2 ⟨#[]⟩ (by rw [bits1]; decide) (by rw [bits1]; decide) (by decide) hS2)))
  have U2 := Lib.hid (unpackE 1 true true S2 ⟨#[]⟩ 0 (Lib.hid (unpack_frame 1 true 384 S2 ⟨#[]⟩ (by rw [bits1]; decide) (by rw [bits1]; decide) (by decide) hS2)))
  have P3 := Lib.hid (packE 28 false false ⟨#[120]⟩ S3 0 (Lib.hid (packS_good 28 false 7274 S3 ⟨#[120]⟩ (by rw [bits28]; decide) (by rw [bits28]; decide) (by decide) hS3)))
  have U3 := Lib.hid (unpackE 27 false false S3 ⟨#[]⟩ 4 (Lib.hid (.inr ⟨7184, by rw [bits27]; decide, by rw [bits27]; decide, .inl ⟨by rw [hs3]; decide, rfl, rfl⟩⟩)))
  have U4 := Lib.hid (unpackE 0 false false ⟨#[]⟩ ⟨#[]⟩ 15 (Lib.hid (.inl ⟨by rw [bits0]; decide, rfl, rfl⟩)))
  have U5 := Lib.hid (unpackE 1 true true ⟨#[]⟩ ⟨#[]⟩ 4 (Lib.hid (.inr ⟨384, by rw [bits1]; decide, by rw [bits1]; decide, .inl ⟨by decide, rfl, rfl⟩⟩)))
  have hmk : ∀ w, (Instr.makeSlice 32 (.int .i64 374) (.int .i64 374)).run Try.prog w = .ok (.slice (some ⟨w.heap.size, 0, none⟩) 374 374) (makeW w 374) := fun w => make_run w 374 (by decide)
  have HCV : Hid (∀ c (x : World), (convert 32 9 (.slice (some ⟨x.heap.size, 0, none⟩) 374 c)).run Try.prog (makeW x 374) = .ok (.string Z) (makeW x 374)) := Lib.hid (fun c x => string_run_as (makeW_is x 374) c (by simp) hZ)
  have HH := Lib.hid (heads_at Z hZs)
  clear hZ hS1 hS2 hS3
  have hcv := fun c => HCV.out c (w.alloc (.cells #[.int .i64 1, .bool true, .bool true] 41))
  rw [World.size_alloc] at hcv
  have M0 := Lib.hid (MM.new 1 true true (Below.refl w.heap.size w))
  have M1 := Lib.hid (M0.out.below (makeW_below _ 374))
  unfold modeV at *
  go_enter Try.func12, Try.ntmps12
  have c0 := M1.out.M.cell 0 rfl
  have c1 := M1.out.M.cell 1 rfl
  have c2 := M1.out.M.cell 2 rfl
  go_wp2_with fail
  refine (P1.out _).mono ?_
  rintro r w2 ⟨rfl, q⟩
  have M2 := Lib.hid (M1.out.below q)
  clear q c0 c1 c2 M1
  have c0 := M2.out.M.cell 0 rfl
  have c1 := M2.out.M.cell 1 rfl
  have c2 := M2.out.M.cell 2 rfl
  clear hcv
  go_wp2_with fail
  refine (U1.out _).mono ?_
  rintro r w3 ⟨rfl, q⟩
  have M3 := Lib.hid (M2.out.below q)
  clear q c0 c1 c2 M2
  have c0 := M3.out.M.cell 0 rfl
  have c1 := M3.out.M.cell 1 rfl
  have c2 := M3.out.M.cell 2 rfl
  go_wp2_with fail
  refine (P2.out _).mono ?_
  rintro r w4 ⟨rfl, q⟩
  have M4 := Lib.hid (M3.out.below q)
  clear q c0 c1 c2 M3
  have c0 := M4.out.M.cell 0 rfl
  have c1 := M4.out.M.cell 1 rfl
  have c2 := M4.out.M.cell 2 rfl
  go_wp2_with fail
  refine (U2.out _).mono ?_
  rintro r w5 ⟨rfl, q⟩
  have M5 := Lib.hid (M4.out.below q)
  clear q c0 c1 c2 M4
  have c0 := M5.out.M.cell 0 rfl
  have c1 := M5.out.M.cell 1 rfl
  have c2 := M5.out.M.cell 2 rfl
  go_wp2_with fail
  refine (works14 _).mono ?_
  rintro r w6 ⟨rfl, q⟩
  have M6 := Lib.hid (M5.out.below q)
  clear q c0 c1 c2 M5
  have c0 := M6.out.M.cell 0 rfl
  have c1 := M6.out.M.cell 1 rfl
  have c2 := M6.out.M.cell 2 rfl
  obtain ⟨bh, hbh⟩ : ∃ b, w6.heap.size = b := ⟨_, rfl⟩
  have K0 : Hid (MM w (w6.alloc (.cells headsC.toArray THead)) w.heap.size 1 true true ∧ Blk (w6.alloc (.cells headsC.toArray THead)) bh headsC THead) := Lib.hid ⟨M6.out.below ((Below.refl _ _).alloc (Nat.le_refl _) _), by rw [← hbh]; exact Blk.new w6 headsC THead⟩
  clear M6 c0 c1 c2
  go_wp2_with fail
  clear hbh
  go_loopw [12] (fun iv wr => ∃ i : Nat, i ≤ 7 ∧ iv = .int .i64 i ∧ Hid (MM w wr w.heap.size 1 true true ∧ Blk wr bh headsC THead)) (fun iv _ => 7 - (intOf iv).toNat)
  case atStart => exact ⟨0, by omega, rfl, K0⟩
  case round =>
    obtain ⟨i, hi7, rfl, HK⟩ := hrel
    clear K0
    by_cases h7 : i < 7
    · have h7' : (i : Int) < 7 := by omega
      obtain ⟨a, b, c, d, e, S, k0, k1, k2, k3, k4, hS, hE, hU⟩ := HH.out i h7
      have d0 := HK.out.2.cell _ k0
      have d1 := HK.out.2.cell _ k1
      have d2 := HK.out.2.cell _ k2
      have d3 := HK.out.2.cell _ k3
      have d4 := HK.out.2.cell _ k4
      have EE := Lib.hid (hencE a b c d e S 0 (Lib.hid hE))
      have UU := Lib.hid (unpackE 1 true true (S ++ Z) ⟨#[]⟩ 4 (Lib.hid hU))
      unfold modeV at UU
      clear k0 k1 k2 k3 k4 hE hU
      go_wp2_with fail
      refine (EE.out _).mono ?_
      rintro r w8 ⟨rfl, q⟩
      have M8 := Lib.hid (HK.out.1.below q)
      have B8 := Lib.hid (HK.out.2.below q HK.out.2.lt)
      clear q d0 d1 d2 d3 d4 HK
      have MD := Lib.hid (M8.out.below ((Below.refl _ _).drew))
      have MW := Lib.hid (MD.out.below (makeW_below w8.drew 374))
      have BW := Lib.hid (B8.out.below ((((Below.refl _ _).drew).trans (makeW_below w8.drew 374)) : Below w8.heap.size w8 (makeW w8.drew 374)) B8.out.lt)
      have hcv2 : ∀ c, (convert 32 9 (.slice (some ⟨w8.heap.size, 0, none⟩) 374 c)).run Try.prog (makeW w8.drew 374) = .ok (.string Z) (makeW w8.drew 374) := fun c => HCV.out c w8.drew
      have c0 := MD.out.M.cell 0 rfl
      have c1 := MD.out.M.cell 1 rfl
      have c2 := MD.out.M.cell 2 rfl
      have c3 := MW.out.M.cell 0 rfl
      have c4 := MW.out.M.cell 1 rfl
      have c5 := MW.out.M.cell 2 rfl
      go_wp2_with fail
      refine wp_region_noPanic ?_
      refine wp_region_held_drew (S := (fun x => x.cell? ⟨w.heap.size, 0, none⟩ = some (.int .i64 1) ∧ x.cell? ⟨w.heap.size, 1, none⟩ = some (.bool true) ∧ x.cell? ⟨w.heap.size, 2, none⟩ = some (.bool true))) (by kernel_rfl) (⟨c0, c1, c2⟩) (fun hHeld => ?_)
      refine wpAnyH_takeD (i := 0) (v := ?_) rfl (by kernel_rfl) (by kernel_rfl) (by kernel_rfl) (fun _ _ _ h => h) (Or.inl ⟨by rfl, ?_⟩) hHeld ?_
      rotate_left
      · rintro w ⟨s0, s1, s2⟩
        go_simp
        try with_reducible rfl
      try simp only [Act.put, List.setIfInBounds_toArray, List.set_cons_zero, List.set_cons_succ]
      refine wpAnyH_takeD (i := 1) (v := ?_) rfl (by kernel_rfl) (by kernel_rfl) (by kernel_rfl) (fun _ _ _ h => h) (Or.inl ⟨by rfl, ?_⟩) hHeld ?_
      rotate_left
      · rintro w ⟨s0, s1, s2⟩
        go_simp
        try with_reducible rfl
      try simp only [Act.put, List.setIfInBounds_toArray, List.set_cons_zero, List.set_cons_succ]
      refine wpAnyH_one (i := 2) rfl (by kernel_rfl) (fun K hK => ?_)
      go_simp
      refine hK.out _ _ ⟨c3, c4, c5⟩ (fun hHeld => ?_)
      clear hK K
      try simp only [Act.put, List.setIfInBounds_toArray, List.set_cons_zero, List.set_cons_succ]
      refine wpAnyH_one (i := 3) rfl (by kernel_rfl) (fun K hK => ?_)
      go_simp
      refine hK.out _ _ ⟨c3, c4, c5⟩ (fun hHeld => ?_)
      clear hK K
      try simp only [Act.put, List.setIfInBounds_toArray, List.set_cons_zero, List.set_cons_succ]
      refine wpAnyH_takeD (i := 4) (v := ?_) rfl (by kernel_rfl) (by kernel_rfl) (by kernel_rfl) (fun _ _ _ h => h) (Or.inl ⟨by rfl, ?_⟩) hHeld ?_
      rotate_left
      · rintro w ⟨s0, s1, s2⟩
        go_simp
        try with_reducible rfl
      try simp only [Act.put, List.setIfInBounds_toArray, List.set_cons_zero, List.set_cons_succ]
      refine wpAnyH_one (i := 5) rfl (by kernel_rfl) (fun K hK => ?_)
      go_simp
      refine (UU.out _).mono ?_
      rintro r w9 ⟨rfl, q⟩
      have M9 := Lib.hid (MW.out.below q)
      have B9 := Lib.hid (BW.out.below q BW.out.lt)
      refine hK.out _ _ (⟨M9.out.M.cell 0 rfl, M9.out.M.cell 1 rfl, M9.out.M.cell 2 rfl⟩) (fun hHeld => ?_)
      clear hK K
      try simp only [Act.put, List.setIfInBounds_toArray, List.set_cons_zero, List.set_cons_succ]
      refine wpAnyH_takeD (i := 6) (v := ?_) rfl (by kernel_rfl) (by kernel_rfl) (by kernel_rfl) (fun _ _ _ h => h) (Or.inl ⟨by rfl, ?_⟩) hHeld ?_
      rotate_left
      · rintro w ⟨s0, s1, s2⟩
        go_simp
        try with_reducible rfl
      try simp only [Act.put, List.setIfInBounds_toArray, List.set_cons_zero, List.set_cons_succ]
      refine wpAnyH_takeD (i := 7) (v := ?_) rfl (by kernel_rfl) (by kernel_rfl) (by kernel_rfl) (fun _ _ _ h => h) (Or.inl ⟨by rfl, ?_⟩) hHeld ?_
      rotate_left
      · rintro w ⟨s0, s1, s2⟩
        go_simp
        try with_reducible rfl
      try simp only [Act.put, List.setIfInBounds_toArray, List.set_cons_zero, List.set_cons_succ]
      refine wpAnyH_takeD (i := 8) (v := ?_) rfl (by kernel_rfl) (by kernel_rfl) (by kernel_rfl) (fun _ _ _ h => h) (Or.inl ⟨by rfl, ?_⟩) hHeld ?_
      rotate_left
      · rintro w ⟨s0, s1, s2⟩
        go_simp
        try with_reducible rfl
      try simp only [Act.put, List.setIfInBounds_toArray, List.set_cons_zero, List.set_cons_succ]
      refine wpAnyH_takeD (i := 9) (v := ?_) rfl (by kernel_rfl) (by kernel_rfl) (by kernel_rfl) (fun _ _ _ h => h) (Or.inl ⟨by rfl, ?_⟩) hHeld ?_
      rotate_left
      · rintro w ⟨s0, s1, s2⟩
        go_simp
        try with_reducible rfl
      try simp only [Act.put, List.setIfInBounds_toArray, List.set_cons_zero, List.set_cons_succ]
      refine wpAnyH_takeD (i := 10) (v := ?_) rfl (by kernel_rfl) (by kernel_rfl) (by kernel_rfl) (fun _ _ _ h => h) (Or.inl ⟨by rfl, ?_⟩) hHeld ?_
      rotate_left
      · rintro w ⟨s0, s1, s2⟩
        go_simp
        try with_reducible rfl
      try simp only [Act.put, List.setIfInBounds_toArray, List.set_cons_zero, List.set_cons_succ]
      refine wpAnyH_done (by kernel_rfl) ?_ _
      refine NoPanic.normal ?_
      clear q hHeld hcv2 c0 c1 c2 c3 c4 c5 MD MW BW M8 B8
      go_wp2_with fail
      exact ⟨⟨i + 1, by omega, by go_num, Lib.hid ⟨M9.out, B9.out⟩⟩, by simp [intOf]; omega⟩
    · have h7' : ¬ (i : Int) < 7 := by omega
      have A1 := Lib.hid HK.out.1
      clear HK
      have c0 := A1.out.M.cell 0 rfl
      have c1 := A1.out.M.cell 1 rfl
      have c2 := A1.out.M.cell 2 rfl
      go_wp2_with fail
      refine (P3.out _).mono ?_
      rintro r w8 ⟨rfl, q⟩
      have A2 := Lib.hid (A1.out.below q)
      clear q c0 c1 c2 A1
      have c0 := A2.out.M.cell 0 rfl
      have c1 := A2.out.M.cell 1 rfl
      have c2 := A2.out.M.cell 2 rfl
      go_wp2_with fail
      refine (U3.out _).mono ?_
      rintro r w9 ⟨rfl, q⟩
      have A3 := Lib.hid (A2.out.below q)
      clear q c0 c1 c2 A2
      have c0 := A3.out.M.cell 0 rfl
      have c1 := A3.out.M.cell 1 rfl
      have c2 := A3.out.M.cell 2 rfl
      go_wp2_with fail
      refine (U4.out _).mono ?_
      rintro r w10 ⟨rfl, q⟩
      have A4 := Lib.hid (A3.out.below q)
      clear q c0 c1 c2 A3
      have c0 := A4.out.M.cell 0 rfl
      have c1 := A4.out.M.cell 1 rfl
      have c2 := A4.out.M.cell 2 rfl
      go_wp2_with fail
      refine (U5.out _).mono ?_
      rintro r w11 ⟨rfl, q⟩
      have A5 := Lib.hid (A4.out.below q)
      clear q c0 c1 c2 A4
      have c0 := A5.out.M.cell 0 rfl
      have c1 := A5.out.M.cell 1 rfl
      have c2 := A5.out.M.cell 2 rfl
      go_wp2_with fail
      go_returns
      exact ⟨rfl, A5.out.q⟩

end Go.Proofs.Ytdipbdoekmcgbaa
