/-
  bbf.Pack: by contract.
-/
import Derived.Test.YtdipbdoekmcgbaaBbf1
namespace Go.Proofs.Ytdipbdoekmcgbaa
open Go.RowKit

theorem u8_one : (Try.prog.info? 5).map (·.size) = some 1 := by kernel_rfl
set_option maxRecDepth 100000 in
set_option maxHeartbeats 400000 in
theorem lay_is (p g at1 n : Nat) (s : ByteArray) (l : List UInt8) (w : World) (hp : w.cell? ⟨p, 0, none⟩ = some (.slice (some ⟨g, 0, none⟩) n n)) (hb : IsBytes w g l) (hl : l.length = n) (hn : n ≤ 100000) (hat : at1 + s.size ≤ n) (hlt : at1 < n) (k : Nat) (hk : at1 + s.size = k) :
    Calls Try.prog 37 #[.int .i64 at1, .string s, .pointer (some ⟨p, 0, none⟩)] w fun e w' => e = .returned (.int .i64 k) ∧ w' = w.setCells g at1 (bvals s.data.toList) := by
  have hcp : ∀ ty c, (Builtin.copy_ #[32, 9] ty #[.slice (some ⟨g, at1, none⟩) (n - at1) c, .string s]).run Try.prog w = .ok (.int .i64 s.size) (w.setCells g at1 (bvals s.data.toList)) := fun ty c =>
    run_copy_string w 32 9 ty 5 g at1 (n - at1) c s Try.underlying32 u8_one (by omega) (fun j hj => by rw [(hb (at1 + j) (by omega)).1]; rfl) (fun j hj => (hb (at1 + j) (by omega)).2)
  have hat1 : (at1 : Int) ≤ n := by omega
  have hne : n ≠ at1 := by omega
  go_enter Try.func37, Try.ntmps37
  go_wp2_with fail
  go_returns
  exact ⟨by rw [← hk]; push_cast; rfl, rfl⟩

/-- The bytes of a frame. -/
def frameL (whole : Nat) (f : List UInt8) : List UInt8 := (headB 24576 0 (8 * f.length) 0 0).data.toList ++ f ++ List.replicate (whole - 10 - f.length) 0
theorem headB_size (a b c d e : Nat) : (headB a b c d e).size = 10 := rfl
theorem headB_len (a b c d e : Nat) : (headB a b c d e).data.toList.length = 10 := rfl
theorem frameL_length (whole : Nat) (f : List UInt8) (h : 10 + f.length ≤ whole) : (frameL whole f).length = whole := by
  unfold frameL
  rw [List.length_append, List.length_append, headB_len, List.length_replicate]
  omega
theorem frame_laid (whole : Nat) (f : List UInt8) (h : 10 + f.length ≤ whole) :
    (let l1 := (List.replicate whole (0 : UInt8)).take 0 ++ (headB 24576 0 (8 * f.length) 0 0).data.toList ++ (List.replicate whole (0 : UInt8)).drop (0 + (headB 24576 0 (8 * f.length) 0 0).data.toList.length)
     l1.take 10 ++ f ++ l1.drop (10 + f.length)) = frameL whole f := by
  have hl := headB_len 24576 0 (8 * f.length) 0 0
  unfold frameL
  generalize (headB 24576 0 (8 * f.length) 0 0).data.toList = H at *
  show (_ ++ H ++ _ : List UInt8).take 10 ++ f ++ (_ ++ H ++ _ : List UInt8).drop (10 + f.length) = _
  rw [List.take_zero, List.nil_append, List.drop_replicate, List.take_append_of_le_length (by omega), List.take_of_length_le (by omega), List.drop_append, List.drop_of_length_le (by omega), List.nil_append, List.drop_replicate]
  congr 2
  omega

set_option maxRecDepth 100000 in
set_option maxHeartbeats 400000 in
theorem pack_is (num : Int) (short pilots : Bool) (f : ByteArray) (m : Nat) (F : ByteArray) (h : 0 < bitsN num short) (hm : bitsN num short / 8 = m) (hf : f.size + 10 ≤ m) (hF : F.data.toList = frameL m f.data.toList) (w : World) :
    Calls Try.prog 20 #[modeV num short pilots, .string f] w fun e w' => e = .returned (.tuple #[.string F, .int .i64 0]) ∧ Below w.heap.size w w' := by
  have hS := fun w => sizes_is num short pilots h w
  have hr := bitsN_range num short
  simp only [hm] at hS
  have hle := bitsN_least num short h
  have hm2 : m ≤ 7274 := by omega
  have hm3 : 384 ≤ m := by omega
  have hmk := fun w => make_run w m (by omega)
  have hmf := makeFunc_run
  have hfm : (f.size : Int) ≤ (m : Int) - 10 := by omega
  obtain ⟨H, hH⟩ : ∃ H, headB 24576 0 (8 * f.size) 0 0 = H := ⟨_, rfl⟩
  have hHs : H.size = 10 := by rw [← hH]; rfl
  have HE : Hid (hencode (24576 : Nat) (0 : Nat) ((8 * f.size : Nat) : Int) (0 : Nat) (0 : Nat) = (H, 0)) := Lib.hid (by
    rw [← hH]
    exact hencode_nat 24576 0 (8 * f.size) 0 0 (headE_ok _ _ _ _ _ (by decide) (by decide) (by omega) (by decide) (by decide)))
  have HL : Hid (∀ w b, IsBytes w b (List.replicate m 0) → IsBytes (w.setCells b 0 (bvals H.data.toList)) b ((List.replicate m (0 : UInt8)).take 0 ++ H.data.toList ++ (List.replicate m (0 : UInt8)).drop (0 + H.data.toList.length))) :=
    Lib.hid (fun w b hb => hb.splice 0 (by rw [len_bytes, List.length_replicate]; omega))
  have hHd : headB 24576 0 (8 * f.size) 0 0 = H := hH
  clear hr hm h hH hle
  unfold modeV at *
  go_enter Try.func20, Try.ntmps20
  go_wp2_with fail
  refine (hS _).mono ?_
  rintro e w2 ⟨rfl, q2⟩
  have Q2 : Hid (Below w.heap.size w w2) := Lib.hid (bthen ((Below.refl _ _).alloc (Nat.le_refl _) _) q2)
  clear q2
  go_wp2_with fail
  refine (head_is f.size (by omega) _).mono ?_
  rintro e w3 ⟨rfl, q3⟩
  have Q3 : Hid (Below w.heap.size w w3) := Lib.hid (bthen Q2.out q3)
  clear q3 Q2
  go_wp2_with fail
  refine (hencE _ _ _ _ _ H 0 HE _).mono ?_
  rintro e w4 ⟨rfl, q4⟩
  have Q4 : Hid (Below w.heap.size w w4) := Lib.hid (bthen Q3.out q4)
  clear q4 Q3
  go_wp2_with fail
  have P5 := (makeW_is w4 m).below ((Below.refl _ _).alloc (Nat.le_refl _) (.cells #[.slice (some ⟨w4.heap.size, 0, none⟩) m m] 32)) (by rw [makeW_size]; omega)
  have C5 := Blk.new (makeW w4 m) [.slice (some ⟨w4.heap.size, 0, none⟩) m m] 32
  have hsz := makeW_size w4 m
  have hp : w.heap.size ≤ w4.heap.size := Q4.out.size
  have Q5 : Hid (Below w.heap.size w ((makeW w4 m).alloc (Obj.cells #[Value.slice (some { block := w4.heap.size, off := 0 }) m m] 32))) := Lib.hid ((Q4.out.trans ((makeW_below w4 m).mono hp)).alloc (by omega) _)
  refine (lay_is (makeW w4 m).heap.size w4.heap.size 0 m H _ _ (C5.cell 0 rfl) P5 (by simp) (by omega) (by omega) (by omega) 10 (by omega)).mono ?_
  rintro e w5 ⟨rfl, hw5⟩
  have P6 := HL.out _ _ P5
  have C6 := C5.kept (setCells_wrote (· = w4.heap.size) w4.heap.size rfl (bvals H.data.toList) 0 _) (by omega)
  have Q6 : Hid (Below w.heap.size w w5) := Lib.hid (by rw [hw5]; exact setCells_below _ _ _ Q5.out hp)
  rw [← hw5] at P6 C6
  rw [hsz] at C6
  clear P5 C5 Q5 Q4 HL
  have c6 := C6.cell 0 rfl
  clear hw5
  go_wp2_with fail
  refine (lay_is (w4.heap.size + 1) w4.heap.size 10 m f _ _ c6 P6 (by rw [List.length_append, List.length_append, List.length_take, List.length_drop, List.length_replicate, len_bytes]; omega) (by omega) (by omega) (by omega) (10 + f.size) rfl).mono ?_
  rintro e w6 ⟨rfl, hw6⟩
  have P7 := P6.splice 10 (m := f.data.toList) (by rw [List.length_append, List.length_append, List.length_take, List.length_drop, List.length_replicate, len_bytes, len_bytes]; omega)
  rw [← hw6] at P7
  have C7 := C6.kept (setCells_wrote (· = w4.heap.size) w4.heap.size rfl (bvals f.data.toList) 10 _) (by omega)
  rw [← hw6] at C7
  have Q7 : Hid (Below w.heap.size w w6) := Lib.hid (by rw [hw6]; exact setCells_below _ _ _ Q6.out hp)
  have hfl : F.data.toList.length = m := by rw [hF]; exact frameL_length m _ (by rw [len_bytes]; omega)
  have hcv : ∀ c, (convert 32 9 (.slice (some ⟨w4.heap.size, 0, none⟩) m c)).run Try.prog w6 = .ok (.string F) w6 := fun c => by
    refine string_run_as (l := F.data.toList) ?_ c hfl rfl
    have hfr := frame_laid m f.data.toList (by rw [len_bytes]; omega)
    rw [len_bytes, hHd] at hfr
    rw [hF, ← hfr]
    rw [len_bytes] at P7
    exact P7
  have c7 := C7.cell 0 rfl
  clear hw6 P6 P7 C6 C7 Q6
  go_wp2_with fail
  go_returns
  exact ⟨rfl, Q7.out⟩

set_option maxRecDepth 100000 in
set_option maxHeartbeats 400000 in
theorem pack_no (num : Int) (short pilots : Bool) (f : ByteArray) (h : ¬ 0 < bitsN num short) (w : World) :
    Calls Try.prog 20 #[modeV num short pilots, .string f] w fun e w' => e = .returned (.tuple #[.string ⟨#[]⟩, .int .i64 15]) ∧ Below w.heap.size w w' := by
  have hS := fun w => sizes_no num short pilots h w
  clear h
  unfold modeV at *
  go_enter Try.func20, Try.ntmps20
  go_wp2_with fail
  refine (hS _).mono ?_
  rintro e w2 ⟨rfl, q2⟩
  have Q2 : Hid (Below w.heap.size w w2) := Lib.hid (bthen ((Below.refl _ _).alloc (Nat.le_refl _) _) q2)
  clear q2
  go_wp2_with fail
  go_returns
  exact ⟨rfl, Q2.out⟩
set_option maxRecDepth 100000 in
set_option maxHeartbeats 400000 in
theorem pack_long (num : Int) (short pilots : Bool) (f : ByteArray) (m : Nat) (h : 0 < bitsN num short) (hm : bitsN num short / 8 = m) (hf : ¬ f.size + 10 ≤ m) (w : World) :
    Calls Try.prog 20 #[modeV num short pilots, .string f] w fun e w' => e = .returned (.tuple #[.string ⟨#[]⟩, .int .i64 3]) ∧ Below w.heap.size w w' := by
  have hS := fun w => sizes_is num short pilots h w
  simp only [hm] at hS
  have hfm : (m : Int) - 10 < f.size := by omega
  clear hm h
  unfold modeV at *
  go_enter Try.func20, Try.ntmps20
  go_wp2_with fail
  refine (hS _).mono ?_
  rintro e w2 ⟨rfl, q2⟩
  have Q2 : Hid (Below w.heap.size w w2) := Lib.hid (bthen ((Below.refl _ _).alloc (Nat.le_refl _) _) q2)
  clear q2
  go_wp2_with fail
  go_returns
  exact ⟨rfl, Q2.out⟩

/-- What Pack answers. -/
def packS (num : Int) (short : Bool) (f : ByteArray) : ByteArray × Int :=
  if 0 < bitsN num short then if f.size + 10 ≤ (bitsN num short / 8).toNat then (⟨(frameL (bitsN num short / 8).toNat f.data.toList).toArray⟩, 0) else (⟨#[]⟩, 3) else (⟨#[]⟩, 15)
theorem packE (num : Int) (short pilots : Bool) (f : ByteArray) (s : ByteArray) (k : Int) (h : Hid (packS num short f = (s, k))) (w : World) :
    Calls Try.prog 20 #[modeV num short pilots, .string f] w fun e w' => e = .returned (.tuple #[.string s, .int .i64 k]) ∧ Below w.heap.size w w' := by
  have h := h.out
  unfold packS at h
  by_cases h0 : 0 < bitsN num short
  · rw [if_pos h0] at h
    have hr := bitsN_range num short
    by_cases h1 : f.size + 10 ≤ (bitsN num short / 8).toNat
    · rw [if_pos h1] at h
      injection h with h2 h3
      subst h3
      exact pack_is num short pilots f _ s h0 (by omega) h1 (by rw [← h2]) w
    · rw [if_neg h1] at h
      injection h with h2 h3
      subst h2 h3
      exact pack_long num short pilots f _ h0 (by omega) h1 w
  · rw [if_neg h0] at h
    injection h with h2 h3
    subst h2 h3
    exact pack_no num short pilots f h0 w

end Go.Proofs.Ytdipbdoekmcgbaa
