/-
  BbhLaid: the walk.
-/
import Derived.Test.YtdipbdoekmcgbaaBbh5
namespace Go.Proofs.Ytdipbdoekmcgbaa
open Go.RowKit

set_option maxRecDepth 100000 in
set_option maxHeartbeats 800000 in
theorem bbhLaid_walk (a b c d e : Int) (w : World) : Calls Try.prog 3 #[headV a b c d e] w fun r w' => r = .returned (.bool true) ∧ Below w.heap.size w w' := by
  obtain ⟨S, k, hS⟩ : ∃ S k, hencode a b c d e = (S, k) := ⟨_, _, rfl⟩
  have HS := Lib.hid hS
  have HK : Hid (headE a b c d e = k) := Lib.hid (by rw [← hencode_err, hS])
  clear hS
  obtain ⟨w1, hw1⟩ : ∃ w1, w.alloc (.cells #[.int .i64 a, .int .i64 b, .int .i64 c, .int .i64 d, .int .i64 e] THead) = w1 := ⟨_, rfl⟩
  have B1 : Hid (Blk w1 w.heap.size (headC a b c d e) THead) := Lib.hid (by rw [← hw1]; exact Blk.new w (headC a b c d e) THead)
  have b1 : Hid (Below w.heap.size w w1) := Lib.hid (by rw [← hw1]; exact (Below.refl _ _).alloc (Nat.le_refl _) _)
  have c0 := B1.out.cell 0 rfl
  have c1 := B1.out.cell 1 rfl
  have c2 := B1.out.cell 2 rfl
  have c3 := B1.out.cell 3 rfl
  have c4 := B1.out.cell 4 rfl
  go_enter Try.func3, Try.ntmps3
  go_wp2_with fail
  clear hw1
  refine (hencE a b c d e S k HS _).mono ?_
  rintro r w2 ⟨rfl, q2⟩
  have B2 := Lib.hid (B1.out.below q2 B1.out.lt)
  have b2 : Hid (Below w.heap.size w w2) := Lib.hid (b1.out.trans (q2.mono b1.out.size))
  have c0 := B2.out.cell 0 rfl
  have c1 := B2.out.cell 1 rfl
  have c2 := B2.out.cell 2 rfl
  have c3 := B2.out.cell 3 rfl
  have c4 := B2.out.cell 4 rfl
  clear q2 B1 b1
  go_wp2_with fail
  refine (rencE a b c d e S k HS _).mono ?_
  rintro r w3 ⟨rfl, q3⟩
  have B3 := Lib.hid (B2.out.below q3 B2.out.lt)
  have b3 : Hid (Below w.heap.size w w3) := Lib.hid (b2.out.trans (q3.mono b2.out.size))
  have c0 := B3.out.cell 0 rfl
  have c1 := B3.out.cell 1 rfl
  have c2 := B3.out.cell 2 rfl
  have c3 := B3.out.cell 3 rfl
  have c4 := B3.out.cell 4 rfl
  clear q3 B2 b2
  go_wp2_with fail
  refine (hchkE a b c d e k HK _).mono ?_
  rintro r w4 ⟨rfl, q4⟩
  go_wp2_with fail
  refine (works13 _).mono ?_
  rintro r w5 ⟨rfl, q5⟩
  go_wp2_with fail
  go_returns
  exact ⟨rfl, b3.out.trans ((bthen q4 q5).mono b3.out.size)⟩

end Go.Proofs.Ytdipbdoekmcgbaa
