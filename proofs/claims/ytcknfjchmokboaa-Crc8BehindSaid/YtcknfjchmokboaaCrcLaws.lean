/-
  Chapter 02: works, closed, and the walks of the statements on crc8.
-/
import Derived.Test.YtcknfjchmokboaaCrc
import Derived.Test.YtcknfjchmokboaaCrcPlain
import Derived.Test.YtcknfjchmokboaaBytes
namespace Go.Proofs.Ytcknfjchmokboaa
open Go.RowKit

set_option maxRecDepth 100000 in
set_option maxHeartbeats 400000 in
theorem works02 (w : World) : Calls Try.prog 15 #[] w fun e w' => e = .returned (.bool true) ∧ Below w.heap.size w w' := by
  have c0 : crcL [] = 0 := by decide +kernel
  have c1 : crcL [0] = 0 := by decide +kernel
  have c2 : crcL [1] = 213 := by decide +kernel
  have c3 : crcL [49, 50, 51, 52, 53, 54, 55, 56, 57] = 188 := by decide +kernel
  go_enter Try.func15, Try.ntmps15
  go_wp2_with fail
  refine (sum_any _ _ (by decide)).mono ?_
  rintro e w1 ⟨rfl, b1⟩
  go_wp2_with fail
  refine (sum_any _ _ (by decide)).mono ?_
  rintro e w2 ⟨rfl, b2⟩
  go_wp2_with fail
  refine (sum_any _ _ (by decide)).mono ?_
  rintro e w3 ⟨rfl, b3⟩
  go_wp2_with fail
  refine (sum_any _ _ (by decide)).mono ?_
  rintro e w4 ⟨rfl, b4⟩
  go_wp2_with fail
  go_returns
  exact ⟨rfl, ((b1.trans (b2.mono b1.size)).trans (b3.mono (Nat.le_trans b1.size b2.size))).trans (b4.mono (Nat.le_trans b1.size (Nat.le_trans b2.size b3.size)))⟩

/-- Bytes with their sum behind them. -/
def closedB (s : ByteArray) : ByteArray := s ++ ⟨#[UInt8.ofNat (crcL s.data.toList)]⟩
theorem closedB_list (s : ByteArray) : (closedB s).data.toList = s.data.toList ++ [UInt8.ofNat (crcL s.data.toList)] := by simp [closedB]
theorem closedB_size (s : ByteArray) : (closedB s).size = s.size + 1 := by rw [← len_bytes, closedB_list, List.length_append, len_bytes]; rfl

set_option maxRecDepth 100000 in
set_option maxHeartbeats 400000 in
theorem closed_any (s : ByteArray) (w : World) (hs : s.size ≤ 6000) :
    Calls Try.prog 16 #[.string s] w fun e w' => e = .returned (.string (closedB s)) ∧ Below w.heap.size w w' := by
  have hcv := conv_one
  go_enter Try.func16, Try.ntmps16
  go_wp2_with fail
  refine (sum_any _ _ (by unfold maxLen; omega)).mono ?_
  rintro e w1 ⟨rfl, b1⟩
  go_wp2
  go_returns
  exact ⟨rfl, b1.alloc b1.size _⟩

set_option maxRecDepth 100000 in
set_option maxHeartbeats 400000 in
theorem known02 (w : World) : Calls Try.prog 7 #[] w fun e w' => e = .returned (.bool true) ∧ Below w.heap.size w w' := by
  have c0 : crcL [2] = 127 := by decide +kernel
  have c1 : crcL [128] = 239 := by decide +kernel
  have c2 : crcL [1, 0] = 11 := by decide +kernel
  have c3 : crcL [49, 50, 51, 52, 53, 54, 55, 56, 57, 188] = 0 := by decide +kernel
  go_enter Try.func7, Try.ntmps7
  go_wp2_with fail
  refine (works02 _).mono ?_
  rintro e w0 ⟨rfl, b0⟩
  go_wp2_with fail
  refine (sum_any _ _ (by decide)).mono ?_
  rintro e w1 ⟨rfl, b1⟩
  go_wp2_with fail
  refine (sum_any _ _ (by decide)).mono ?_
  rintro e w2 ⟨rfl, b2⟩
  go_wp2_with fail
  refine (sum_any _ _ (by decide)).mono ?_
  rintro e w3 ⟨rfl, b3⟩
  go_wp2_with fail
  refine (sum_any _ _ (by decide)).mono ?_
  rintro e w4 ⟨rfl, b4⟩
  go_wp2_with fail
  go_returns
  exact ⟨rfl, bthen b0 (bthen b1 (bthen b2 (bthen b3 b4)))⟩

end Go.Proofs.Ytcknfjchmokboaa
