/-
  A frame gives its field back; aeriallaw14.works.
-/
import Derived.Test.YtdipbdoekmcgbaaBbf5
namespace Go.Proofs.Ytdipbdoekmcgbaa
open Go.RowKit

theorem ba_list {a b : ByteArray} (h : a.data.toList = b.data.toList) : a = b := by
  apply ByteArray.ext
  exact Array.toList_inj.1 h
theorem ext_list (a : ByteArray) (i j : Nat) : (a.extract i j).data.toList = (a.data.toList.drop i).take (j - i) := by
  rw [ByteArray.data_extract, Array.toList_extract, List.extract_eq_take_drop]
/-- A text that begins with a field's header and the field is a frame of it, whatever stands behind. -/
theorem unpack_front (num : Int) (short : Bool) (m : Nat) (F f : ByteArray) (h0 : 0 < bitsN num short) (hm : bitsN num short / 8 = m) (hf : f.size + 10 ≤ m) (hs : F.size = m) (R : List UInt8)
    (hF : F.data.toList = (headB 24576 0 (8 * f.size) 0 0).data.toList ++ f.data.toList ++ R) : UnpackIs num short F f 0 := by
  have hr := bitsN_range num short
  have hl := headB_len 24576 0 (8 * f.size) 0 0
  refine .inr ⟨m, h0, hm, .inr ⟨hs, .inr (.inl ⟨f.size, hf, ?_, ?_, rfl⟩)⟩⟩
  · have e : F.extract 0 10 = headB 24576 0 (8 * f.size) 0 0 := by
      apply ba_list
      rw [ext_list, hF, List.drop_zero, List.append_assoc, List.take_append_of_le_length (by omega), List.take_of_length_le (by omega)]
    rw [e]
    exact hdec_enc 24576 0 (8 * f.size) 0 0 (by decide) (by decide) (by omega) (by decide) (by decide)
  · apply ba_list
    rw [ext_list, hF, List.append_assoc, List.drop_append, List.drop_of_length_le (by omega), hl, List.nil_append, Nat.sub_self, List.drop_zero, Nat.add_sub_cancel_left, List.take_append_of_le_length (by rw [len_bytes]; omega), List.take_of_length_le (by rw [len_bytes]; omega)]
theorem unpack_frame (num : Int) (short : Bool) (m : Nat) (F f : ByteArray) (h0 : 0 < bitsN num short) (hm : bitsN num short / 8 = m) (hf : f.size + 10 ≤ m) (hF : F.data.toList = frameL m f.data.toList) : UnpackIs num short F f 0 := by
  refine unpack_front num short m F f h0 hm hf ?_ (List.replicate (m - 10 - f.size) 0) ?_
  · rw [← len_bytes, hF, frameL_length _ _ (by rw [len_bytes]; omega)]
  · rw [hF, frameL, len_bytes]
theorem packS_good (num : Int) (short : Bool) (m : Nat) (F f : ByteArray) (h0 : 0 < bitsN num short) (hm : bitsN num short / 8 = m) (hf : f.size + 10 ≤ m) (hF : F.data.toList = frameL m f.data.toList) : packS num short f = (F, 0) := by
  have e : (bitsN num short / 8).toNat = m := by omega
  unfold packS
  rw [if_pos h0, e, if_pos hf, ← hF]
theorem packS_long (num : Int) (short : Bool) (m : Nat) (f : ByteArray) (h0 : 0 < bitsN num short) (hm : bitsN num short / 8 = m) (hf : ¬ f.size + 10 ≤ m) : packS num short f = (⟨#[]⟩, 3) := by
  have e : (bitsN num short / 8).toNat = m := by omega
  unfold packS
  rw [if_pos h0, e, if_neg hf]
theorem packS_no (num : Int) (short : Bool) (f : ByteArray) (h0 : ¬ 0 < bitsN num short) : packS num short f = (⟨#[]⟩, 15) := by
  unfold packS
  rw [if_neg h0]

abbrev hiB : ByteArray := ⟨#[104, 105]⟩
theorem bits1 : bitsN 1 true = 3072 := by decide +kernel
theorem bits11 : bitsN 11 true = 0 := by decide +kernel
theorem hi_frame : ∃ S : ByteArray, S.data.toList = frameL 384 hiB.data.toList ∧ S.size = 384 ∧ S.extract 0 9 = ⟨#[96, 0, 0, 0, 0, 16, 0, 0, 0]⟩ ∧ S.extract 10 14 = ⟨#[104, 105, 0, 0]⟩ := by
  obtain ⟨S, hS⟩ := bytes_as (frameL 384 hiB.data.toList)
  refine ⟨S, hS, ?_, ?_, ?_⟩
  · rw [bytes_as_size hS]; exact frameL_length _ _ (by decide)
  · apply ba_list
    rw [ext_list, hS]
    rfl
  · apply ba_list
    rw [ext_list, hS]
    rfl

set_option maxRecDepth 100000 in
set_option maxHeartbeats 400000 in
theorem works14 (w : World) : Calls Try.prog 22 #[] w fun e w' => e = .returned (.bool true) ∧ Below w.heap.size w w' := by
  obtain ⟨S, hS, hsz, h9, h14⟩ := hi_frame
  obtain ⟨Z, hZ⟩ := bytes_as (List.replicate 375 (0 : UInt8))
  have hZs : Z.size = 375 := by rw [bytes_as_size hZ, List.length_replicate]
  have p1 : Hid (packS 1 true hiB = (S, 0)) := Lib.hid (packS_good 1 true 384 S hiB (by rw [bits1]; decide) (by rw [bits1]; decide) (by decide) hS)
  have p2 : Hid (packS 1 true Z = (⟨#[]⟩, 3)) := Lib.hid (packS_long 1 true 384 Z (by rw [bits1]; decide) (by rw [bits1]; decide) (by omega))
  have p3 : Hid (packS 11 true ⟨#[]⟩ = (⟨#[]⟩, 15)) := Lib.hid (packS_no 11 true _ (by rw [bits11]; decide))
  have p4 : Hid (UnpackIs 1 true (S.extract 0 383) ⟨#[]⟩ 4) := Lib.hid (.inr ⟨384, by rw [bits1]; decide, by rw [bits1]; decide, .inl ⟨by rw [ByteArray.size_extract, hsz]; decide, rfl, rfl⟩⟩)
  have p5 : Hid (UnpackIs 1 true S hiB 0) := Lib.hid (unpack_frame 1 true 384 S hiB (by rw [bits1]; decide) (by rw [bits1]; decide) (by decide) hS)
  have hmk : ∀ w, (Instr.makeSlice 32 (.int .i64 375) (.int .i64 375)).run Try.prog w = .ok (.slice (some ⟨w.heap.size, 0, none⟩) 375 375) (makeW w 375) := fun w => make_run w 375 (by decide)
  have hcv : ∀ c (x : World), (convert 32 9 (.slice (some ⟨x.heap.size, 0, none⟩) 375 c)).run Try.prog (makeW x 375) = .ok (.string Z) (makeW x 375) := fun c x => string_run_as (makeW_is x 375) c (by simp) hZ
  clear hS
  go_enter Try.func22, Try.ntmps22
  go_wp2_with fail
  refine (packE 1 true false hiB S 0 p1 _).mono ?_
  rintro e w2 ⟨rfl, q2⟩
  have hw1 : w.heap.size < w2.heap.size := by have := q2.size; simp at this; omega
  have B2 := (Blk.new w [.int .i64 1, .bool true, .bool false] 41).below q2 (by simp)
  have c0 := B2.cell 0 rfl
  have c1 := B2.cell 1 rfl
  have c2 := B2.cell 2 rfl
  have Q2 : Hid (Below w.heap.size w w2) := Lib.hid (bthen ((Below.refl _ _).alloc (Nat.le_refl _) _) q2)
  clear q2
  go_upto_region 5 with fail
  have hcv2 : ∀ c, (convert 32 9 (.slice (some ⟨w2.heap.size, 0, none⟩) 375 c)).run Try.prog (makeW w2.drew 375) = .ok (.string Z) (makeW w2.drew 375) := fun c => hcv c w2.drew
  have BM := B2.drew.below (makeW_below w2.drew 375) B2.lt
  have c3 := BM.cell 0 rfl
  have c4 := BM.cell 1 rfl
  have c5 := BM.cell 2 rfl
  refine wp_region_noPanic ?_
  refine wp_region_held_drew (S := (fun x => x.cell? ⟨w.heap.size, 0, none⟩ = some (.int .i64 1) ∧ x.cell? ⟨w.heap.size, 1, none⟩ = some (.bool true) ∧ x.cell? ⟨w.heap.size, 2, none⟩ = some (.bool false))) (by kernel_rfl) (⟨c0, c1, c2⟩) (fun hHeld => ?_)
  refine wpAnyH_takeD (i := 0) (v := ?_) rfl (by kernel_rfl) (by kernel_rfl) (by kernel_rfl) (fun _ _ _ h => h) (Or.inl ⟨by rfl, ?_⟩) hHeld ?_
  rotate_left
  · rintro w ⟨s0, s1, s2⟩
    go_simp
    try with_reducible rfl
  try simp only [Act.put, List.setIfInBounds_toArray, List.set_cons_zero, List.set_cons_succ]
  refine wpAnyH_one (i := 1) rfl (by kernel_rfl) (fun K hK => ?_)
  go_simp
  refine hK.out _ _ ⟨c3, c4, c5⟩ (fun hHeld => ?_)
  clear hK K
  try simp only [Act.put, List.setIfInBounds_toArray, List.set_cons_zero, List.set_cons_succ]
  refine wpAnyH_one (i := 2) rfl (by kernel_rfl) (fun K hK => ?_)
  go_simp
  refine hK.out _ _ ⟨c3, c4, c5⟩ (fun hHeld => ?_)
  clear hK K
  try simp only [Act.put, List.setIfInBounds_toArray, List.set_cons_zero, List.set_cons_succ]
  refine wpAnyH_one (i := 3) rfl (by kernel_rfl) (fun K hK => ?_)
  go_simp
  refine (packE 1 true false Z _ 3 p2 _).mono ?_
  rintro e w3 ⟨rfl, q3⟩
  have B3 := BM.below q3 BM.lt
  have c6 := B3.cell 0 rfl
  have c7 := B3.cell 1 rfl
  have c8 := B3.cell 2 rfl
  refine hK.out _ _ (⟨c6, c7, c8⟩) (fun hHeld => ?_)
  clear hK K
  try simp only [Act.put, List.setIfInBounds_toArray, List.set_cons_zero, List.set_cons_succ]
  refine wpAnyH_rest (fun x => x = w3) 4 _ (fun x h => by rw [h]; exact ⟨c6, c7, c8⟩) rfl (by simp only [List.drop_succ_cons, List.drop_zero]) (by kernel_rfl) (by kernel_rfl) ?_
  have hne : Nonempty (WIn (fun x => x = w3)) := ⟨⟨w3, rfl⟩⟩
  repeat (go_big_quiet_step (fail))
  refine wpQuiet_nil ?_
  rintro x rfl
  refine NoPanic.normal ?_
  have B4 := BM.below q3 BM.lt
  have Q3 : Hid (Below w.heap.size w x) := Lib.hid (bthen (Q2.out.drew.trans ((makeW_below w2.drew 375).mono Q2.out.size)) q3)
  clear q3 BM c0 c1 c2 c3 c4 c5 hHeld Q2 hne
  go_wp2_with fail
  refine (packE 11 true false ⟨#[]⟩ _ 15 p3 _).mono ?_
  rintro e w5 ⟨rfl, q5⟩
  have B5 := B4.below q5 B4.lt
  have c0 := B5.cell 0 rfl
  have c1 := B5.cell 1 rfl
  have c2 := B5.cell 2 rfl
  have Q5 : Hid (Below w.heap.size w w5) := Lib.hid (bthen Q3.out q5)
  clear q5 Q3 B4
  go_wp2_with fail
  have hne : Nonempty (WIn (Below w5.heap.size w5)) := ⟨⟨w5, Below.refl _ _⟩⟩
  have hm0 : ∀ y : WIn (Below w5.heap.size w5), y.val.cell? ⟨w.heap.size, 0, none⟩ = some (.int .i64 1) := fun y => (B5.below y.property B5.lt).cell 0 rfl
  have hm1 : ∀ y : WIn (Below w5.heap.size w5), y.val.cell? ⟨w.heap.size, 1, none⟩ = some (.bool true) := fun y => (B5.below y.property B5.lt).cell 1 rfl
  have hm3 : ∀ y : WIn (Below w5.heap.size w5), y.val.cell? ⟨w.heap.size, 2, none⟩ = some (.bool false) := fun y => (B5.below y.property B5.lt).cell 2 rfl
  refine wp_region_inv (Below w5.heap.size w5) (by kernel_rfl) (by kernel_rfl) (Below.refl _ _).drew ?_
  repeat (go_big_quiet_step ((go_at_call 23; exact quiet_call _ (unpackE 1 true false _ _ 4 p4 _))))
  refine wpQuiet_nil ?_
  intro w6 q6
  have B6 := B5.below q6 B5.lt
  have c0 := B6.cell 0 rfl
  have c1 := B6.cell 1 rfl
  have c2 := B6.cell 2 rfl
  have Q6 : Hid (Below w.heap.size w w6) := Lib.hid (bthen Q5.out q6)
  clear q6 Q5 B5 hm0 hm1 hm3 hne
  go_wp2_with fail
  refine (unpackE 1 true false _ _ 0 p5 _).mono ?_
  rintro e w7 ⟨rfl, q7⟩
  have Q7 : Hid (Below w.heap.size w w7) := Lib.hid (bthen Q6.out q7)
  clear q7 Q6 B6 c0 c1 c2
  go_wp2_with fail
  go_returns
  exact ⟨rfl, Q7.out⟩

end Go.Proofs.Ytdipbdoekmcgbaa
