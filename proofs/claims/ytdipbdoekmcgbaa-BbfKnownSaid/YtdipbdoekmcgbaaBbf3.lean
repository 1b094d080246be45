/-
  aerialref14.Pack: by contract.
-/
import Derived.Test.YtdipbdoekmcgbaaBbf2
namespace Go.Proofs.Ytdipbdoekmcgbaa
open Go.RowKit

set_option maxRecDepth 100000 in
set_option maxHeartbeats 400000 in
theorem rpack_no (num : Int) (short pilots : Bool) (f : ByteArray) (h : ¬ 0 < bitsN num short) (w : World) :
    Calls Try.prog 21 #[modeV num short pilots, .string f] w fun e w' => e = .returned (.tuple #[.string ⟨#[]⟩, .int .i64 15]) ∧ Below w.heap.size w w' := by
  have hS := fun w => ref_is num short pilots w
  simp only [decide_eq_false h] at hS
  clear h
  unfold modeV at *
  go_enter Try.func21, Try.ntmps21
  go_wp2_with fail
  refine (hS _).mono ?_
  rintro e w2 ⟨rfl, q2⟩
  have Q2 : Hid (Below w.heap.size w w2) := Lib.hid (bthen ((Below.refl _ _).alloc (Nat.le_refl _) _) q2)
  clear q2
  go_wp2_with fail
  go_returns
  exact ⟨rfl, Q2.out⟩

set_option maxRecDepth 100000 in
set_option maxHeartbeats 400000 in
theorem rpack_is (num : Int) (short pilots : Bool) (f : ByteArray) (m : Nat) (F : ByteArray) (h : 0 < bitsN num short) (hm : bitsN num short / 8 = m) (hf : f.size + 10 ≤ m) (hF : F.data.toList = frameL m f.data.toList) (w : World) :
    Calls Try.prog 21 #[modeV num short pilots, .string f] w fun e w' => e = .returned (.tuple #[.string F, .int .i64 0]) ∧ Below w.heap.size w w' := by
  have hS := fun w => ref_is num short pilots w
  simp only [decide_eq_true h] at hS
  have hFd := fun w => ref_field num short pilots w h
  have hK := fun w => ref_kbch num short pilots w h
  have hr := bitsN_range num short
  have hle := bitsN_least num short h
  simp only [hm] at hFd
  have hm2 : m ≤ 7274 := by omega
  have hm3 : 384 ≤ m := by omega
  obtain ⟨r, hr0⟩ : ∃ r : Int, bitsN num short = r := ⟨_, rfl⟩
  rw [hr0] at hm
  simp only [hr0] at hK
  have hfm : (f.size : Int) ≤ (m : Int) - 10 := by omega
  obtain ⟨H, hH⟩ : ∃ H, headB 24576 0 (8 * f.size) 0 0 = H := ⟨_, rfl⟩
  have hHs : H.size = 10 := by rw [← hH]; rfl
  have HE : Hid (hencode (24576 : Nat) (0 : Nat) ((8 * f.size : Nat) : Int) (0 : Nat) (0 : Nat) = (H, 0)) := Lib.hid (by
    rw [← hH]
    exact hencode_nat 24576 0 (8 * f.size) 0 0 (headE_ok _ _ _ _ _ (by decide) (by decide) (by omega) (by decide) (by decide)))
  unfold modeV at *
  clear h hr hle hr0
  go_enter Try.func21, Try.ntmps21
  go_wp2_with fail
  refine (hS _).mono ?_
  rintro e w2 ⟨rfl, q2⟩
  have B2 := (Blk.new w [.int .i64 num, .bool short, .bool pilots] 41).below q2 (by simp)
  have c0 := B2.cell 0 rfl
  have c1 := B2.cell 1 rfl
  have c2 := B2.cell 2 rfl
  have Q2 : Hid (Below w.heap.size w w2) := Lib.hid (bthen ((Below.refl _ _).alloc (Nat.le_refl _) _) q2)
  clear q2
  go_wp2_with fail
  refine (hFd _).mono ?_
  rintro e w3 ⟨rfl, q3⟩
  have B3 := B2.below q3 B2.lt
  have c0 := B3.cell 0 rfl
  have c1 := B3.cell 1 rfl
  have c2 := B3.cell 2 rfl
  have Q3 : Hid (Below w.heap.size w w3) := Lib.hid (bthen Q2.out q3)
  clear q3 B2 Q2
  go_wp2_with fail
  refine (rhead_is f.size (by omega) _).mono ?_
  rintro e w4 ⟨rfl, q4⟩
  have B4 := B3.below q4 B3.lt
  have c0 := B4.cell 0 rfl
  have c1 := B4.cell 1 rfl
  have c2 := B4.cell 2 rfl
  have Q4 : Hid (Below w.heap.size w w4) := Lib.hid (bthen Q3.out q4)
  clear q4 B3 Q3
  go_wp2_with fail
  refine (rencE _ _ _ _ _ H 0 HE _).mono ?_
  rintro e w5 ⟨rfl, q5⟩
  have B5 := B4.below q5 B4.lt
  have c0 := B5.cell 0 rfl
  have c1 := B5.cell 1 rfl
  have c2 := B5.cell 2 rfl
  have Q5 : Hid (Below w.heap.size w w5) := Lib.hid (bthen Q4.out q5)
  clear q5 B4 Q4
  go_wp2_with fail
  have hsz : (H ++ f).size = f.size + 10 := by rw [ByteArray.size_append]; omega
  obtain ⟨z, hz⟩ : ∃ z : Nat, (m : Int) - ((f.size : Int) + 10) = z := ⟨m - (f.size + 10), by omega⟩
  have hmk := fun w => make_run w z (by omega)
  refine (hK _).mono ?_
  rintro e w6 ⟨rfl, q6⟩
  have Q6 : Hid (Below w.heap.size w w6) := Lib.hid (bthen Q5.out q6)
  clear q6 B5 Q5 c0 c1 c2
  obtain ⟨Z, hZ⟩ := bytes_as (List.replicate z (0 : UInt8))
  have hcv : ∀ c, (convert 32 9 (.slice (some ⟨w6.heap.size, 0, none⟩) z c)).run Try.prog (makeW w6 z) = .ok (.string Z) (makeW w6 z) := fun c => string_run_as (makeW_is w6 z) c (by simp) hZ
  have hZs : Z.size = z := by rw [bytes_as_size hZ, List.length_replicate]
  go_wp2_with fail
  go_returns
  have HF : H ++ f ++ Z = F := by
    apply ByteArray.ext
    apply Array.toList_inj.1
    rw [hF, ByteArray.data_append, ByteArray.data_append, Array.toList_append, Array.toList_append, hZ, frameL, len_bytes, hH, show m - 10 - f.size = z by omega]
  exact ⟨by rw [← HF]; rfl, Q6.out.trans ((makeW_below w6 z).mono Q6.out.size)⟩

set_option maxRecDepth 100000 in
set_option maxHeartbeats 400000 in
theorem rpack_long (num : Int) (short pilots : Bool) (f : ByteArray) (m : Nat) (h : 0 < bitsN num short) (hm : bitsN num short / 8 = m) (hf : ¬ f.size + 10 ≤ m) (w : World) :
    Calls Try.prog 21 #[modeV num short pilots, .string f] w fun e w' => e = .returned (.tuple #[.string ⟨#[]⟩, .int .i64 3]) ∧ Below w.heap.size w w' := by
  have hS := fun w => ref_is num short pilots w
  simp only [decide_eq_true h] at hS
  have hFd := fun w => ref_field num short pilots w h
  simp only [hm] at hFd
  have hfm : (m : Int) - 10 < f.size := by omega
  clear hm h
  unfold modeV at *
  go_enter Try.func21, Try.ntmps21
  go_wp2_with fail
  refine (hS _).mono ?_
  rintro e w2 ⟨rfl, q2⟩
  have B2 := (Blk.new w [.int .i64 num, .bool short, .bool pilots] 41).below q2 (by simp)
  have c0 := B2.cell 0 rfl
  have c1 := B2.cell 1 rfl
  have c2 := B2.cell 2 rfl
  have Q2 : Hid (Below w.heap.size w w2) := Lib.hid (bthen ((Below.refl _ _).alloc (Nat.le_refl _) _) q2)
  clear q2
  go_wp2_with fail
  refine (hFd _).mono ?_
  rintro e w3 ⟨rfl, q3⟩
  have Q3 : Hid (Below w.heap.size w w3) := Lib.hid (bthen Q2.out q3)
  clear q3 B2 Q2
  go_wp2_with fail
  go_returns
  exact ⟨rfl, Q3.out⟩
theorem rpackE (num : Int) (short pilots : Bool) (f : ByteArray) (s : ByteArray) (k : Int) (h : Hid (packS num short f = (s, k))) (w : World) :
    Calls Try.prog 21 #[modeV num short pilots, .string f] w fun e w' => e = .returned (.tuple #[.string s, .int .i64 k]) ∧ Below w.heap.size w w' := by
  have h := h.out
  unfold packS at h
  by_cases h0 : 0 < bitsN num short
  · rw [if_pos h0] at h
    have hr := bitsN_range num short
    by_cases h1 : f.size + 10 ≤ (bitsN num short / 8).toNat
    · rw [if_pos h1] at h
      injection h with h2 h3
      subst h3
      exact rpack_is num short pilots f _ s h0 (by omega) h1 (by rw [← h2]) w
    · rw [if_neg h1] at h
      injection h with h2 h3
      subst h2 h3
      exact rpack_long num short pilots f _ h0 (by omega) h1 w
  · rw [if_neg h0] at h
    injection h with h2 h3
    subst h2 h3
    exact rpack_no num short pilots f h0 w

end Go.Proofs.Ytdipbdoekmcgbaa
