/-
  aerialref13.May, two; bbh.Encode, aerialref13.Encode: by contract.
-/
import Derived.Test.YtdipbdoekmcgbaaBbh1
import Derived.Test.YtdipbdoekmcgbaaHeld
namespace Go.Proofs.Ytdipbdoekmcgbaa
open Go.RowKit

set_option maxRecDepth 100000 in
set_option maxHeartbeats 1600000 in
theorem may_is (a b c d e : Int) (w : World) : Calls Try.prog 29 #[headV a b c d e] w fun r w' => r = .returned (.bool (mayB a 65535 b 65535 c 58112 d 255 e 65535)) ∧ Below w.heap.size w w' := by
  by_cases h0 : 0 ≤ a
  rotate_left
  · have n0 : a < 0 := by omega
    have HE : Hid (mayB a 65535 b 65535 c 58112 d 255 e 65535 = false) := Lib.hid (may_no (by omega))
    clear h0
    go_enter Try.func29, Try.ntmps29
    go_wp2
    go_returns
    exact ⟨by rw [HE.out]; rfl, (Below.refl _ _).alloc (Nat.le_refl _) _⟩
  by_cases h1 : a ≤ 65535
  rotate_left
  · have n1 : 65535 < a := by omega
    have HE : Hid (mayB a 65535 b 65535 c 58112 d 255 e 65535 = false) := Lib.hid (may_no (by omega))
    clear h1
    go_enter Try.func29, Try.ntmps29
    go_wp2
    go_returns
    exact ⟨by rw [HE.out]; rfl, (Below.refl _ _).alloc (Nat.le_refl _) _⟩
  by_cases h2 : 0 ≤ b
  rotate_left
  · have n2 : b < 0 := by omega
    have HE : Hid (mayB a 65535 b 65535 c 58112 d 255 e 65535 = false) := Lib.hid (may_no (by omega))
    clear h2
    go_enter Try.func29, Try.ntmps29
    go_wp2
    go_returns
    exact ⟨by rw [HE.out]; rfl, (Below.refl _ _).alloc (Nat.le_refl _) _⟩
  by_cases h3 : b ≤ 65535
  rotate_left
  · have n3 : 65535 < b := by omega
    have HE : Hid (mayB a 65535 b 65535 c 58112 d 255 e 65535 = false) := Lib.hid (may_no (by omega))
    clear h3
    go_enter Try.func29, Try.ntmps29
    go_wp2
    go_returns
    exact ⟨by rw [HE.out]; rfl, (Below.refl _ _).alloc (Nat.le_refl _) _⟩
  by_cases h4 : 0 ≤ c
  rotate_left
  · have n4 : c < 0 := by omega
    have HE : Hid (mayB a 65535 b 65535 c 58112 d 255 e 65535 = false) := Lib.hid (may_no (by omega))
    clear h4
    go_enter Try.func29, Try.ntmps29
    go_wp2
    go_returns
    exact ⟨by rw [HE.out]; rfl, (Below.refl _ _).alloc (Nat.le_refl _) _⟩
  by_cases h5 : c ≤ 58112
  rotate_left
  · have n5 : 58112 < c := by omega
    have HE : Hid (mayB a 65535 b 65535 c 58112 d 255 e 65535 = false) := Lib.hid (may_no (by omega))
    clear h5
    go_enter Try.func29, Try.ntmps29
    go_wp2
    go_returns
    exact ⟨by rw [HE.out]; rfl, (Below.refl _ _).alloc (Nat.le_refl _) _⟩
  by_cases h6 : 0 ≤ d
  rotate_left
  · have n6 : d < 0 := by omega
    have HE : Hid (mayB a 65535 b 65535 c 58112 d 255 e 65535 = false) := Lib.hid (may_no (by omega))
    clear h6
    go_enter Try.func29, Try.ntmps29
    go_wp2
    go_returns
    exact ⟨by rw [HE.out]; rfl, (Below.refl _ _).alloc (Nat.le_refl _) _⟩
  by_cases h7 : d ≤ 255
  rotate_left
  · have n7 : 255 < d := by omega
    have HE : Hid (mayB a 65535 b 65535 c 58112 d 255 e 65535 = false) := Lib.hid (may_no (by omega))
    clear h7
    go_enter Try.func29, Try.ntmps29
    go_wp2
    go_returns
    exact ⟨by rw [HE.out]; rfl, (Below.refl _ _).alloc (Nat.le_refl _) _⟩
  by_cases h8 : 0 ≤ e
  rotate_left
  · have n8 : e < 0 := by omega
    have HE : Hid (mayB a 65535 b 65535 c 58112 d 255 e 65535 = false) := Lib.hid (may_no (by omega))
    clear h8
    go_enter Try.func29, Try.ntmps29
    go_wp2
    go_returns
    exact ⟨by rw [HE.out]; rfl, (Below.refl _ _).alloc (Nat.le_refl _) _⟩
  by_cases h9 : e ≤ 65535
  rotate_left
  · have n9 : 65535 < e := by omega
    have HE : Hid (mayB a 65535 b 65535 c 58112 d 255 e 65535 = false) := Lib.hid (may_no (by omega))
    have hd : decide (e ≤ 65535) = false := decide_eq_false h9
    have HD := Lib.hid hd
    clear h9 hd
    go_enter Try.func29, Try.ntmps29
    go_wp2
    go_returns
    exact ⟨by rw [HE.out, ← HD.out]; rfl, (Below.refl _ _).alloc (Nat.le_refl _) _⟩
  have HE : Hid (mayB a 65535 b 65535 c 58112 d 255 e 65535 = true) := Lib.hid (may_yes ⟨⟨h0, h1⟩, ⟨h2, h3⟩, ⟨h4, h5⟩, ⟨h6, h7⟩, ⟨h8, h9⟩⟩)
  go_enter Try.func29, Try.ntmps29
  go_wp2
  go_returns
  exact ⟨by rw [HE.out]; rfl, (Below.refl _ _).alloc (Nat.le_refl _) _⟩

/-- The nine bytes ahead of the sum. -/
def headN (a b c d e : Nat) : List Nat := [a / 256, a % 256, b / 256, b % 256, c / 256, c % 256, d, e / 256, e % 256]
def headL (a b c d e : Nat) : List UInt8 := (headN a b c d e).map UInt8.ofNat
def headS (a b c d e : Nat) : ByteArray := ⟨(headL a b c d e).toArray⟩
def headB (a b c d e : Nat) : ByteArray := ⟨(headL a b c d e ++ [UInt8.ofNat (crcL (headL a b c d e))]).toArray⟩
theorem headE_ok (a b c d e : Nat) (h0 : a ≤ 65535) (h1 : b ≤ 65535) (h2 : c ≤ 58112) (h3 : d ≤ 255) (h4 : e ≤ 65535) : headE a b c d e = 0 := by
  unfold headE
  rw [if_pos (may_yes (by omega))]

set_option maxRecDepth 100000 in
set_option maxHeartbeats 400000 in
theorem hencode_no (a b c d e : Int) (h : headE a b c d e ≠ 0) (w : World) : Calls Try.prog 13 #[headV a b c d e] w fun r w' => r = .returned (.tuple #[.string ⟨#[]⟩, .int .i64 (headE a b c d e)]) ∧ Below w.heap.size w w' := by
  go_enter Try.func13, Try.ntmps13
  go_wp2_with fail
  refine (hcheck_is a b c d e _).mono ?_
  rintro r w1 ⟨rfl, b1⟩
  go_wp2_with fail
  go_returns
  exact ⟨rfl, ((Below.refl _ _).alloc (Nat.le_refl _) _).trans (b1.mono (by simp))⟩

set_option maxRecDepth 100000 in
set_option maxHeartbeats 800000 in
theorem hencode_is (a b c d e : Nat) (h0 : a ≤ 65535) (h1 : b ≤ 65535) (h2 : c ≤ 58112) (h3 : d ≤ 255) (h4 : e ≤ 65535) (w : World) :
    Calls Try.prog 13 #[headV a b c d e] w fun r w' => r = .returned (.tuple #[.string (headB a b c d e), .int .i64 0]) ∧ Below w.heap.size w w' := by
  have HE := headE_ok a b c d e h0 h1 h2 h3 h4
  go_enter Try.func13, Try.ntmps13
  go_wp2_with fail
  refine (hcheck_is a b c d e _).mono ?_
  rw [HE]
  rintro r w1 ⟨rfl, q1⟩
  clear HE
  have B1 : Blk w1 w.heap.size (headC a b c d e) THead := (Blk.new w (headC a b c d e) THead).below q1 (by simp)
  have c0 := B1.cell 0 rfl
  have c1 := B1.cell 1 rfl
  have c2 := B1.cell 2 rfl
  have c3 := B1.cell 3 rfl
  have c4 := B1.cell 4 rfl
  have b0 : Below w.heap.size w w1 := ((Below.refl _ _).alloc (Nat.le_refl _) _).trans (q1.mono (by simp))
  clear B1 q1
  obtain ⟨w2, hw2⟩ : ∃ w2, w2 = w1.alloc (.cells (((headN a b c d e ++ [0]).map (fun n : Nat => Value.int .u8 n))).toArray 53) := ⟨_, rfl⟩
  have B2 : Blk w2 w1.heap.size ((headN a b c d e ++ [0]).map (fun n : Nat => Value.int .u8 n)) 53 := by rw [hw2]; exact Blk.new w1 _ _
  have hcv : (convert 32 9 (.slice (some ⟨w1.heap.size, 0, none⟩) 9 10)).run Try.prog (w1.alloc (.cells #[.int .u8 ((a : Int) / 256), .int .u8 ((a : Int) % 256), .int .u8 ((b : Int) / 256), .int .u8 ((b : Int) % 256), .int .u8 ((c : Int) / 256), .int .u8 ((c : Int) % 256), .int .u8 d, .int .u8 ((e : Int) / 256), .int .u8 ((e : Int) % 256), .int .u8 0] 53)) = .ok (.string (headS a b c d e)) w2 := by
    have h := conv_nat w2 w1.heap.size (headN a b c d e) [0] 53 B2 9 10 rfl
    rw [hw2] at h ⊢
    exact h
  have b2 : Below w1.heap.size w1 w2 := by rw [hw2]; exact (Below.refl _ _).alloc (Nat.le_refl _) _
  clear hw2
  have HB2 := Lib.hid B2
  clear B2
  go_wp2_with fail
  refine (sum_any (headS a b c d e) _ (by show 9 ≤ maxLen; decide)).mono ?_
  rintro r w3 ⟨rfl, b3⟩
  have hcr := crcL_lt (headL a b c d e)
  rw [show (headS a b c d e).data.toList = headL a b c d e from rfl]
  generalize hc : crcL (headL a b c d e) = k at hcr
  have HC := Lib.hid hc
  have B3 := Lib.hid (HB2.out.below b3 HB2.out.lt)
  have c9 : w3.cell? ⟨w1.heap.size, 9, none⟩ = some (.int .u8 0) := B3.out.cell 9 rfl
  have f9 : w3.frozen? ⟨w1.heap.size, 9, none⟩ = false := B3.out.free 9
  have B4 : Blk (w3.setCell ⟨w1.heap.size, 9, none⟩ (.int .u8 k)) w1.heap.size ((headN a b c d e ++ [k]).map (fun n : Nat => Value.int .u8 n)) 53 := B3.out.set 9 _
  have hcv2 := conv_nat _ w1.heap.size (headN a b c d e ++ [k]) [] 53 (by rw [List.append_nil]; exact B4) 10 10 rfl
  have hrb : (⟨((headN a b c d e ++ [k]).map UInt8.ofNat).toArray⟩ : ByteArray) = headB a b c d e := by
    rw [headB, HC.out, List.map_append]
    rfl
  rw [hrb] at hcv2
  have b4 : Hid (Below w.heap.size w (w3.setCell ⟨w1.heap.size, 9, none⟩ (.int .u8 k))) := Lib.hid (((b0.trans (b2.mono b0.size)).trans (b3.mono (Nat.le_trans b0.size b2.size))).setCell b0.size _)
  clear B4 hrb hc b2 b3 b0 HB2
  go_wp2
  go_returns
  exact ⟨rfl, b4.out⟩

end Go.Proofs.Ytdipbdoekmcgbaa
