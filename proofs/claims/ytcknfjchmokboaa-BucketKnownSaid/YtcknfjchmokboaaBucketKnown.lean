/-
  BucketKnown: the walk.
-/
import Derived.Test.YtcknfjchmokboaaBucket
namespace Go.Proofs.Ytcknfjchmokboaa
open Go.RowKit

set_option maxRecDepth 100000 in
set_option maxHeartbeats 1000000 in
theorem known21 (w : World) : Calls Try.prog 11 #[] w fun e w' => e = .returned (.bool true) ∧ Below w.heap.size w w' := by
  go_enter Try.func11, Try.ntmps11
  go_wp2_with fail
  refine (bnew_yes 100 30 _ (by decide) (by decide) (by decide) (by decide)).mono ?_
  rintro e w1 ⟨rfl, q1, s1⟩
  obtain ⟨B, hB⟩ : ∃ B, B = w.heap.size := ⟨_, rfl⟩
  rw [← hB] at s1
  have Q1 := Lib.hid q1
  have S1 := Lib.hid s1
  have hBl : w.heap.size ≤ B := by omega
  rw [← hB]
  clear hB q1 s1
  go_wp2_with fail
  refine (bleft _ _ _ _ _ S1.out).mono ?_
  rintro e _ ⟨rfl, rfl⟩
  go_wp2_with fail
  refine (bmay _ _ _ _ _ _ S1.out).mono ?_
  rintro e _ ⟨rfl, rfl⟩
  rw [show mayB (0) 100 = false from by decide]
  go_wp2_with fail
  refine (bmay _ _ _ _ _ _ S1.out).mono ?_
  rintro e _ ⟨rfl, rfl⟩
  rw [show mayB (-1) 100 = false from by decide]
  go_wp2_with fail
  refine (bpay _ _ _ _ _ _ S1.out (by decide)).mono ?_
  rintro e w2 ⟨rfl, g, s⟩
  rw [show mayB (0) 100 = false from by decide]
  rw [show payL (0) 100 = 100 from by decide] at s
  have S2 := Lib.hid s
  have Q2 := Lib.hid (own_grown Q1.out g hBl)
  clear s g
  go_wp2_with fail
  refine (bpay _ _ _ _ _ _ S2.out (by decide)).mono ?_
  rintro e w3 ⟨rfl, g, s⟩
  rw [show mayB (-5) 100 = false from by decide]
  rw [show payL (-5) 100 = 100 from by decide] at s
  have S3 := Lib.hid s
  have Q3 := Lib.hid (own_grown Q2.out g hBl)
  clear s g
  go_wp2_with fail
  refine (bpay _ _ _ _ _ _ S3.out (by decide)).mono ?_
  rintro e w4 ⟨rfl, g, s⟩
  rw [show mayB (101) 100 = false from by decide]
  rw [show payL (101) 100 = 100 from by decide] at s
  have S4 := Lib.hid s
  have Q4 := Lib.hid (own_grown Q3.out g hBl)
  clear s g
  go_wp2_with fail
  refine (bpay _ _ _ _ _ _ S4.out (by decide)).mono ?_
  rintro e w5 ⟨rfl, g, s⟩
  rw [show mayB (80) 100 = true from by decide]
  rw [show payL (80) 100 = 20 from by decide] at s
  have S5 := Lib.hid s
  have Q5 := Lib.hid (own_grown Q4.out g hBl)
  clear s g
  go_wp2_with fail
  refine (bleft _ _ _ _ _ S5.out).mono ?_
  rintro e _ ⟨rfl, rfl⟩
  go_wp2_with fail
  refine (btick _ _ _ _ _ S5.out (by decide) (by decide)).mono ?_
  rintro e w6 ⟨rfl, g, s⟩
  rw [show tickL 100 30 20 = 50 from by decide] at s
  have S6 := Lib.hid s
  have Q6 := Lib.hid (own_grown Q5.out g hBl)
  clear s g
  go_wp2_with fail
  refine (bleft _ _ _ _ _ S6.out).mono ?_
  rintro e _ ⟨rfl, rfl⟩
  go_wp2_with fail
  refine (btick _ _ _ _ _ S6.out (by decide) (by decide)).mono ?_
  rintro e w7 ⟨rfl, g, s⟩
  rw [show tickL 100 30 50 = 80 from by decide] at s
  have S7 := Lib.hid s
  have Q7 := Lib.hid (own_grown Q6.out g hBl)
  clear s g
  go_wp2_with fail
  refine (btick _ _ _ _ _ S7.out (by decide) (by decide)).mono ?_
  rintro e w8 ⟨rfl, g, s⟩
  rw [show tickL 100 30 80 = 100 from by decide] at s
  have S8 := Lib.hid s
  have Q8 := Lib.hid (own_grown Q7.out g hBl)
  clear s g
  go_wp2_with fail
  refine (bleft _ _ _ _ _ S8.out).mono ?_
  rintro e _ ⟨rfl, rfl⟩
  go_wp2_with fail
  refine (btick_nil _).mono ?_
  rintro e _ ⟨rfl, rfl⟩
  go_wp2_with fail
  refine (bnew_no 0 1 _ (by decide)).mono ?_
  rintro e _ ⟨rfl, rfl⟩
  go_wp2_with fail
  refine (bnew_no 1 0 _ (by decide)).mono ?_
  rintro e _ ⟨rfl, rfl⟩
  go_wp2_with fail
  refine (bnew_no 10000001 1 _ (by decide)).mono ?_
  rintro e _ ⟨rfl, rfl⟩
  go_wp2_with fail
  refine (bnew_no 1 1000001 _ (by decide)).mono ?_
  rintro e _ ⟨rfl, rfl⟩
  go_wp2_with fail
  refine (bnew_yes 10000000 1000000 _ (by decide) (by decide) (by decide) (by decide)).mono ?_
  rintro e wn ⟨rfl, qn, _⟩
  go_wp2_with fail
  refine (bmay_nil 1 _).mono ?_
  rintro e _ ⟨rfl, rfl⟩
  go_wp2_with fail
  refine (bpay_nil 1 _).mono ?_
  rintro e _ ⟨rfl, rfl⟩
  go_wp2_with fail
  refine (bleft_nil _).mono ?_
  rintro e _ ⟨rfl, rfl⟩
  go_wp2_with fail
  refine (works21 _).mono ?_
  rintro e wm ⟨rfl, qm⟩
  go_wp2_with fail
  go_returns
  exact ⟨rfl, bthen Q8.out (bthen qn qm)⟩

end Go.Proofs.Ytcknfjchmokboaa
