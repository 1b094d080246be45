/-
  What any header's bytes are, what any bytes say; aeriallaw13: works, of.
-/
import Derived.Test.YtdipbdoekmcgbaaBbh3
namespace Go.Proofs.Ytdipbdoekmcgbaa
open Go.RowKit

def hencode (a b c d e : Int) : ByteArray × Int := if headE a b c d e = 0 then (headB a.toNat b.toNat c.toNat d.toNat e.toNat, 0) else (⟨#[]⟩, headE a b c d e)
def hdecode (s : ByteArray) : Value × Int :=
  if s.size ≠ 10 then (headV 0 0 0 0 0, 4)
  else if crcL (s.extract 0 9).data.toList ≠ (s.data.toList.getD 9 0).toNat then (headV 0 0 0 0 0, 10)
  else (hdecV (numAtL s 0 2) (numAtL s 2 2) (numAtL s 4 2) (numAtL s 6 1) (numAtL s 7 2), headE (numAtL s 0 2) (numAtL s 2 2) (numAtL s 4 2) (numAtL s 6 1) (numAtL s 7 2))
theorem headE_zero {a b c d e : Int} (h : headE a b c d e = 0) : (0 ≤ a ∧ a ≤ 65535) ∧ (0 ≤ b ∧ b ≤ 65535) ∧ (0 ≤ c ∧ c ≤ 58112) ∧ (0 ≤ d ∧ d ≤ 255) ∧ (0 ≤ e ∧ e ≤ 65535) := by
  unfold headE at h
  split at h
  · rename_i hm
    exact of_decide_eq_true hm
  · simp at h
theorem headE_two {a b c d e : Int} (h : headE a b c d e ≠ 0) : headE a b c d e = 2 := by
  unfold headE at *
  split
  · rename_i hm
    rw [if_pos hm] at h
    exact absurd rfl h
  · rfl
theorem head_nat {a b c d e : Int} (h : headE a b c d e = 0) : ∃ A B C D E : Nat, a = A ∧ b = B ∧ c = C ∧ d = D ∧ e = E ∧ A ≤ 65535 ∧ B ≤ 65535 ∧ C ≤ 58112 ∧ D ≤ 255 ∧ E ≤ 65535 := by
  have := headE_zero h
  exact ⟨a.toNat, b.toNat, c.toNat, d.toNat, e.toNat, by omega, by omega, by omega, by omega, by omega, by omega, by omega, by omega, by omega, by omega⟩
theorem hencode_nat (A B C D E : Nat) (h : headE A B C D E = 0) : hencode A B C D E = (headB A B C D E, 0) := by
  unfold hencode
  rw [if_pos h]
  rfl
theorem hencode_spec (a b c d e : Int) (w : World) : Calls Try.prog 13 #[headV a b c d e] w fun r w' => r = .returned (.tuple #[.string (hencode a b c d e).1, .int .i64 (hencode a b c d e).2]) ∧ Below w.heap.size w w' := by
  by_cases h : headE a b c d e = 0
  · obtain ⟨A, B, C, D, E, rfl, rfl, rfl, rfl, rfl, h0, h1, h2, h3, h4⟩ := head_nat h
    rw [hencode_nat A B C D E h]
    exact hencode_is A B C D E h0 h1 h2 h3 h4 w
  · unfold hencode
    rw [if_neg h]
    exact hencode_no a b c d e h w
theorem hdecode_spec (s : ByteArray) (w : World) : Calls Try.prog 17 #[.string s] w fun r w' => r = .returned (.tuple #[(hdecode s).1, .int .i64 (hdecode s).2]) ∧ Below w.heap.size w w' := by
  unfold hdecode
  by_cases h8 : s.size = 10
  · rw [if_neg (by simpa using h8)]
    have e7 : (s.data.toList.getD 9 0).toNat = (s[9]'(by omega)).toNat := by
      rw [List.getD_eq_getElem?_getD, List.getElem?_eq_getElem (by rw [len_bytes]; omega)]
      rfl
    by_cases hc : crcL (s.extract 0 9).data.toList = (s.data.toList.getD 9 0).toNat
    · rw [if_neg (fun h => h hc)]
      exact hdecode_any s (crcL (s.extract 0 9).data.toList) (numAtL s 0 2) (numAtL s 2 2) (numAtL s 4 2) (numAtL s 6 1) (numAtL s 7 2) h8 (Lib.hid rfl) (by rw [hc, e7]) (Lib.hid rfl) (Lib.hid rfl) (Lib.hid rfl) (Lib.hid rfl) (Lib.hid rfl) w
    · rw [if_pos hc]
      exact hdecode_sum s (crcL (s.extract 0 9).data.toList) (s.data.toList.getD 9 0).toNat h8 (Lib.hid rfl) e7.symm hc w
  · rw [if_pos h8]
    exact hdecode_form s h8 w
theorem hencE (a b c d e : Int) (s : ByteArray) (k : Int) (h : Hid (hencode a b c d e = (s, k))) (w : World) : Calls Try.prog 13 #[headV a b c d e] w fun r w' => r = .returned (.tuple #[.string s, .int .i64 k]) ∧ Below w.heap.size w w' := by
  have := hencode_spec a b c d e w
  rw [h.out] at this
  exact this
theorem hdecE (s : ByteArray) (v : Value) (k : Int) (h : Hid (hdecode s = (v, k))) (w : World) : Calls Try.prog 17 #[.string s] w fun r w' => r = .returned (.tuple #[v, .int .i64 k]) ∧ Below w.heap.size w w' := by
  have := hdecode_spec s w
  rw [h.out] at this
  exact this
theorem hchkE (a b c d e k : Int) (h : Hid (headE a b c d e = k)) (w : World) : Calls Try.prog 15 #[headV a b c d e] w fun r w' => r = .returned (.int .i64 k) ∧ Below w.heap.size w w' := by
  obtain rfl := h.out
  exact hcheck_is a b c d e w
theorem hencode_err (a b c d e : Int) : (hencode a b c d e).2 = headE a b c d e := by
  unfold hencode
  split
  · rename_i h; exact h.symm
  · rfl

abbrev S10 (b0 b1 b2 b3 b4 b5 b6 b7 b8 b9 : UInt8) : ByteArray := ⟨#[b0, b1, b2, b3, b4, b5, b6, b7, b8, b9]⟩
theorem str10 (s : ByteArray) (h : s.size = 10) : ∃ b0 b1 b2 b3 b4 b5 b6 b7 b8 b9, s = S10 b0 b1 b2 b3 b4 b5 b6 b7 b8 b9 := by
  obtain ⟨⟨l⟩⟩ := s
  have hl : l.length = 10 := h
  match l, hl with
  | [b0, b1, b2, b3, b4, b5, b6, b7, b8, b9], _ => exact ⟨b0, b1, b2, b3, b4, b5, b6, b7, b8, b9, rfl⟩
section
variable (b0 b1 b2 b3 b4 b5 b6 b7 b8 b9 : UInt8)
theorem ex09 : (S10 b0 b1 b2 b3 b4 b5 b6 b7 b8 b9).extract 0 9 = ⟨#[b0, b1, b2, b3, b4, b5, b6, b7, b8]⟩ := by apply ByteArray.ext; simp
theorem num2 (x y : UInt8) : numL [x, y] = x.toNat * 256 + y.toNat := by simp [numL]
theorem num1 (x : UInt8) : numL [x] = x.toNat := by simp [numL]
theorem at02 : numAtL (S10 b0 b1 b2 b3 b4 b5 b6 b7 b8 b9) 0 2 = b0.toNat * 256 + b1.toNat := num2 b0 b1
theorem at22 : numAtL (S10 b0 b1 b2 b3 b4 b5 b6 b7 b8 b9) 2 2 = b2.toNat * 256 + b3.toNat := num2 b2 b3
theorem at42 : numAtL (S10 b0 b1 b2 b3 b4 b5 b6 b7 b8 b9) 4 2 = b4.toNat * 256 + b5.toNat := num2 b4 b5
theorem at61 : numAtL (S10 b0 b1 b2 b3 b4 b5 b6 b7 b8 b9) 6 1 = b6.toNat := num1 b6
theorem at72 : numAtL (S10 b0 b1 b2 b3 b4 b5 b6 b7 b8 b9) 7 2 = b7.toNat * 256 + b8.toNat := num2 b7 b8
end
theorem headB_as (a b c d e : Nat) : headB a b c d e = S10 (UInt8.ofNat (a / 256)) (UInt8.ofNat (a % 256)) (UInt8.ofNat (b / 256)) (UInt8.ofNat (b % 256)) (UInt8.ofNat (c / 256)) (UInt8.ofNat (c % 256)) (UInt8.ofNat d) (UInt8.ofNat (e / 256)) (UInt8.ofNat (e % 256)) (UInt8.ofNat (crcL (headL a b c d e))) := rfl
theorem hdec_enc (a b c d e : Nat) (h0 : a ≤ 65535) (h1 : b ≤ 65535) (h2 : c ≤ 58112) (h3 : d ≤ 255) (h4 : e ≤ 65535) : hdecode (headB a b c d e) = (headV a b c d e, 0) := by
  have hc := crcL_lt (headL a b c d e)
  have n1 : numAtL (headB a b c d e) 0 2 = a := by rw [headB_as, at02, ofNat_small (by omega), ofNat_small (by omega)]; omega
  have n2 : numAtL (headB a b c d e) 2 2 = b := by rw [headB_as, at22, ofNat_small (by omega), ofNat_small (by omega)]; omega
  have n3 : numAtL (headB a b c d e) 4 2 = c := by rw [headB_as, at42, ofNat_small (by omega), ofNat_small (by omega)]; omega
  have n4 : numAtL (headB a b c d e) 6 1 = d := by rw [headB_as, at61, ofNat_small (by omega)]
  have n5 : numAtL (headB a b c d e) 7 2 = e := by rw [headB_as, at72, ofNat_small (by omega), ofNat_small (by omega)]; omega
  have h7 : crcL ((headB a b c d e).extract 0 9).data.toList = ((headB a b c d e).data.toList.getD 9 0).toNat := by
    rw [show (headB a b c d e).data.toList.getD 9 0 = UInt8.ofNat (crcL (headL a b c d e)) from rfl, ofNat_small hc, headB_as, ex09]
    rfl
  have h8 : (headB a b c d e).size = 10 := rfl
  unfold hdecode hdecV
  rw [if_neg (fun h => h h8), if_neg (fun h => h h7), n1, n2, n3, n4, n5, headE_ok a b c d e h0 h1 h2 h3 h4, if_pos rfl]
theorem hdecode_zero (s : ByteArray) (v : Value) (k : Int) (h : hdecode s = (v, k)) (hk : k ≠ 0) : v = headV 0 0 0 0 0 := by
  unfold hdecode at h
  split at h
  · injection h with h _; exact h.symm
  · split at h
    · injection h with h _; exact h.symm
    · injection h with h1 h2
      rw [← h1, hdecV, if_neg (by rw [h2]; exact hk)]
theorem hdecode_has (s : ByteArray) : ∃ a b c d e k, Hid (hdecode s = (headV a b c d e, k)) := by
  unfold hdecode
  split
  · exact ⟨0, 0, 0, 0, 0, _, Lib.hid rfl⟩
  · split
    · exact ⟨0, 0, 0, 0, 0, _, Lib.hid rfl⟩
    · unfold hdecV
      split
      · exact ⟨_, _, _, _, _, _, Lib.hid rfl⟩
      · exact ⟨0, 0, 0, 0, 0, _, Lib.hid rfl⟩
/-- Bytes that are taken are laid again just so. -/
theorem henc_dec (s : ByteArray) (a b c d e : Int) (h : hdecode s = (headV a b c d e, 0)) : headE a b c d e = 0 ∧ hencode a b c d e = (s, 0) ∧ s.size = 10 := by
  by_cases h8 : s.size = 10
  · obtain ⟨b0, b1, b2, b3, b4, b5, b6, b7, b8, b9, rfl⟩ := str10 s h8
    have l0 := b0.toNat_lt
    have l1 := b1.toNat_lt
    have l2 := b2.toNat_lt
    have l3 := b3.toNat_lt
    have l4 := b4.toNat_lt
    have l5 := b5.toNat_lt
    have l6 := b6.toNat_lt
    have l7 := b7.toNat_lt
    have l8 := b8.toNat_lt
    unfold hdecode at h
    rw [if_neg (fun h => h h8), ex09, at02, at22, at42, at61, at72] at h
    split at h
    · injection h with _ h2
      simp at h2
    · rename_i hc
      have hc' : crcL [b0, b1, b2, b3, b4, b5, b6, b7, b8] = b9.toNat := Classical.byContradiction fun e => hc e
      injection h with hv he
      rw [hdecV, if_pos he] at hv
      obtain ⟨A, hA⟩ : ∃ A, A = b0.toNat * 256 + b1.toNat := ⟨_, rfl⟩
      obtain ⟨B, hB⟩ : ∃ B, B = b2.toNat * 256 + b3.toNat := ⟨_, rfl⟩
      obtain ⟨C, hC⟩ : ∃ C, C = b4.toNat * 256 + b5.toNat := ⟨_, rfl⟩
      obtain ⟨D, hD⟩ : ∃ D, D = b6.toNat := ⟨_, rfl⟩
      obtain ⟨E, hE⟩ : ∃ E, E = b7.toNat * 256 + b8.toNat := ⟨_, rfl⟩
      rw [← hA, ← hB, ← hC, ← hD, ← hE] at hv he
      injection hv with hv
      simp at hv
      obtain ⟨rfl, rfl, rfl, rfl, rfl⟩ := hv
      refine ⟨he, ?_, rfl⟩
      rw [hencode_nat A B C D E he]
      have hl : headL A B C D E = [b0, b1, b2, b3, b4, b5, b6, b7, b8] := by
        show [UInt8.ofNat (A / 256), UInt8.ofNat (A % 256), UInt8.ofNat (B / 256), UInt8.ofNat (B % 256), UInt8.ofNat (C / 256), UInt8.ofNat (C % 256), UInt8.ofNat D, UInt8.ofNat (E / 256), UInt8.ofNat (E % 256)] = _
        rw [ofNat_id (b := b0) (by omega), ofNat_id (b := b1) (by omega), ofNat_id (b := b2) (by omega), ofNat_id (b := b3) (by omega), ofNat_id (b := b4) (by omega), ofNat_id (b := b5) (by omega), ofNat_id (b := b6) (by omega), ofNat_id (b := b7) (by omega), ofNat_id (b := b8) (by omega)]
      have hb : headB A B C D E = S10 b0 b1 b2 b3 b4 b5 b6 b7 b8 b9 := by
        rw [headB, hl, hc', ofNat_id (b := b9) rfl]
        rfl
      rw [hb]
  · unfold hdecode at h
    rw [if_pos h8] at h
    injection h with _ h2
    simp at h2

set_option maxRecDepth 100000 in
set_option maxHeartbeats 400000 in
theorem of_is (a b c d e : Int) (h0 : 0 ≤ a ∧ a ≤ 65535) (h1 : 0 ≤ b ∧ b ≤ 65535) (h2 : 0 ≤ c ∧ c ≤ 65535) (h3 : 0 ≤ d ∧ d ≤ 65535) (h4 : 0 ≤ e ∧ e ≤ 65535) (w : World) :
    Calls Try.prog 19 #[.agg #[.int .u16 a, .int .u16 b, .int .u16 c, .int .u16 d, .int .u16 e]] w fun r w' => r = .returned (headV a b (c % 58113) (d % 256) e) ∧ Below w.heap.size w w' := by
  go_enter Try.func19, Try.ntmps19
  go_wp2
  go_returns
  exact ⟨rfl, ((Below.refl _ _).alloc (Nat.le_refl _) _).alloc (by simp) _⟩

set_option maxRecDepth 100000 in
set_option maxHeartbeats 400000 in
theorem works13 (w : World) : Calls Try.prog 16 #[] w fun e w' => e = .returned (.bool true) ∧ Below w.heap.size w w' := by
  obtain ⟨S, hS⟩ : ∃ S : ByteArray, S = headB 4200 0 2992 0 0 := ⟨_, rfl⟩
  obtain ⟨S9, hS9⟩ : ∃ S : ByteArray, S = ⟨#[16, 104, 0, 0, 11, 176, 0, 0, 0]⟩ := ⟨_, rfl⟩
  have hsn : S.size = 10 := by rw [hS]; rfl
  have hsz : (S.size : Int) = 10 := by omega
  have hen : Hid (hencode 4200 0 2992 0 0 = (S, 0)) := Lib.hid (by rw [hS]; exact hencode_nat 4200 0 2992 0 0 (by decide))
  have hde : Hid (hdecode S = (headV 4200 0 2992 0 0, 0)) := Lib.hid (by rw [hS]; exact hdec_enc 4200 0 2992 0 0 (by decide) (by decide) (by decide) (by decide) (by decide))
  have e9 : S.extract 0 9 = S9 := by rw [hS, hS9, headB_as, ex09]; decide +kernel
  have hlit : S9.toList = [16, 104, 0, 0, 11, 176, 0, 0, 0] := by rw [hS9]; decide +kernel
  have h9 : (9 : Int) ≤ S.size := by omega
  clear hS hS9
  go_enter Try.func16, Try.ntmps16
  go_wp2_with fail
  refine (hencE 4200 0 2992 0 0 S 0 hen _).mono ?_
  rintro r w1 ⟨rfl, q1⟩
  have H1 := Lib.hid ((Blk.new w (headC 4200 0 2992 0 0) THead).below q1 (by simp))
  have b1 : Hid (Below w.heap.size w w1) := Lib.hid (((Below.refl _ _).alloc (Nat.le_refl _) _).trans (q1.mono (by simp)))
  clear q1
  go_wp2_with fail
  refine (hdecE S _ 0 hde _).mono ?_
  rintro r w2 ⟨rfl, q2⟩
  have H2 := (H1.out.below q2 H1.out.lt).alloc (.cells (headC 4200 0 2992 0 0).toArray THead)
  have b2 : Hid (Below w.heap.size w w2) := Lib.hid (b1.out.trans (q2.mono b1.out.size))
  have c0 := H2.cell 0 rfl
  have c1 := H2.cell 1 rfl
  have c2 := H2.cell 2 rfl
  have c3 := H2.cell 3 rfl
  have c4 := H2.cell 4 rfl
  clear q2 H2
  go_wp2_with fail
  go_returns
  exact ⟨rfl, b2.out.alloc b2.out.size _⟩

end Go.Proofs.Ytdipbdoekmcgbaa
