/-
  CountKnown: the walk.
-/
import Derived.Test.YtbdlkkbjkbjanaaCountWorks
namespace Go.Proofs.Ytbdlkkbjkbjanaa
open Go.RowKit

set_option maxRecDepth 100000 in
set_option maxHeartbeats 400000 in
theorem cadd_nil (n : Int) (w : World) : Calls Try.prog 24 #[.pointer none, .int .u64 n] w fun e w' => e = .returned (.tuple #[]) ∧ w = w' := by
  go_enter Try.func24, Try.ntmps24
  go_wp2
  go_returns
  exact ⟨rfl, rfl⟩
set_option maxRecDepth 100000 in
set_option maxHeartbeats 400000 in
theorem cn_nil (w : World) : Calls Try.prog 26 #[.pointer none] w fun e w' => e = .returned (.int .u64 0) ∧ w = w' := by
  go_enter Try.func26, Try.ntmps26
  go_wp2
  go_returns
  exact ⟨rfl, rfl⟩

set_option maxRecDepth 100000 in
set_option maxHeartbeats 400000 in
theorem countKnown_walk (w : World) : Calls Try.prog 13 #[] w fun e w' => e = .returned (.bool true) ∧ Below w.heap.size w w' := by
  have hz := zeroC
  go_enter Try.func13, Try.ntmps13
  go_wp2_with fail
  refine (cadd_nil 3 _).mono ?_
  rintro e _ ⟨rfl, rfl⟩
  have ha := Lib.hid (CntIn.made w w (Below.refl _ _))
  go_wp2_with fail
  refine (ycadd w w.heap.size 0 9223372036854775806 9223372036854775806 _ ha (by decide) (by decide) (by decide)).mono ?_
  rintro e wb ⟨rfl, hb⟩
  go_wp2_with fail
  refine (ycn w w.heap.size 9223372036854775806 _ hb).mono ?_
  rintro e _ ⟨rfl, rfl⟩
  go_wp2_with fail
  refine (ycadd w w.heap.size 9223372036854775806 1 9223372036854775807 _ hb (by decide) (by decide) (by decide)).mono ?_
  rintro e wc ⟨rfl, hc⟩
  go_wp2_with fail
  refine (ycn w w.heap.size 9223372036854775807 _ hc).mono ?_
  rintro e _ ⟨rfl, rfl⟩
  go_wp2_with fail
  refine (ycadd w w.heap.size 9223372036854775807 0 9223372036854775807 _ hc (by decide) (by decide) (by decide)).mono ?_
  rintro e wd ⟨rfl, hd⟩
  go_wp2_with fail
  refine (works04 _).mono ?_
  rintro e w0 ⟨rfl, q0⟩
  have h0 := Lib.hid (hd.out.then (Wrote.ofBelow q0 _))
  clear ha hb hc hd q0
  go_wp2_with fail
  refine (cn_nil _).mono ?_
  rintro e _ ⟨rfl, rfl⟩
  go_wp2_with fail
  refine (ycn w w.heap.size 9223372036854775807 _ h0).mono ?_
  rintro e _ ⟨rfl, rfl⟩
  go_wp2_with fail
  refine (hsum 0 0 _ 0 _ [] _ (SRow.none _) (by decide +kernel)).mono ?_
  rintro r w1 ⟨rfl, q1⟩
  have h1 := Lib.hid (h0.out.then q1)
  clear h0 q1
  go_wp2_with fail
  refine (htimes 1 0 _ 0 _ [] _ (SRow.none _) (by decide +kernel)).mono ?_
  rintro r w2 ⟨rfl, q2⟩
  have h2 := Lib.hid (h1.out.then q2)
  clear h1 q2
  go_wp2_with fail
  refine (hsum 9223372036854775807 0 _ 1 _ [9223372036854775807] _ (SRow.made _ [9223372036854775807] 3 (by decide) (by decide)) (by decide +kernel)).mono ?_
  rintro r w3 ⟨rfl, q3⟩
  have h3 := Lib.hid ((h2.out.then (Wrote.alloc _ _ _)).then q3)
  clear h2 q3
  go_wp2_with fail
  refine (hsum 9223372036854775807 0 _ 3 _ [9223372036854775806, 1, 0] _ (SRow.made _ [9223372036854775806, 1, 0] 3 (by decide) (by decide)) (by decide +kernel)).mono ?_
  rintro r w4 ⟨rfl, q4⟩
  have h4 := Lib.hid ((h3.out.then (Wrote.alloc _ _ _)).then q4)
  clear h3 q4
  go_wp2_with fail
  refine (hsum 0 2 _ 3 _ [9223372036854775807, 9223372036854775807, -1] _ (SRow.made _ [9223372036854775807, 9223372036854775807, -1] 3 (by decide) (by decide)) (by decide +kernel)).mono ?_
  rintro r w5 ⟨rfl, q5⟩
  have h5 := Lib.hid ((h4.out.then (Wrote.alloc _ _ _)).then q5)
  clear h4 q5
  go_wp2_with fail
  refine (htimes 9223372036854775807 0 _ 2 _ [9223372036854775807, 1] _ (SRow.made _ [9223372036854775807, 1] 3 (by decide) (by decide)) (by decide +kernel)).mono ?_
  rintro r w6 ⟨rfl, q6⟩
  have h6 := Lib.hid ((h5.out.then (Wrote.alloc _ _ _)).then q6)
  clear h5 q6
  go_wp2_with fail
  refine (htimes 0 14 _ 2 _ [9223372036854775807, 2] _ (SRow.made _ [9223372036854775807, 2] 3 (by decide) (by decide)) (by decide +kernel)).mono ?_
  rintro r w7 ⟨rfl, q7⟩
  have h7 := Lib.hid ((h6.out.then (Wrote.alloc _ _ _)).then q7)
  clear h6 q7
  go_wp2_with fail
  refine (htimes 0 2 _ 2 _ [0, -1] _ (SRow.made _ [0, -1] 3 (by decide) (by decide)) (by decide +kernel)).mono ?_
  rintro r w8 ⟨rfl, q8⟩
  have h8 := Lib.hid ((h7.out.then (Wrote.alloc _ _ _)).then q8)
  clear h7 q8
  go_wp2_with fail
  refine (htimes 0 14 _ 2 _ [4294967296, 2147483648] _ (SRow.made _ [4294967296, 2147483648] 3 (by decide) (by decide)) (by decide +kernel)).mono ?_
  rintro r w9 ⟨rfl, q9⟩
  have h9 := Lib.hid ((h8.out.then (Wrote.alloc _ _ _)).then q9)
  clear h8 q9
  go_wp2_with fail
  refine (htimes 4611686018427387904 0 _ 2 _ [2147483648, 2147483648] _ (SRow.made _ [2147483648, 2147483648] 3 (by decide) (by decide)) (by decide +kernel)).mono ?_
  rintro r w10 ⟨rfl, q10⟩
  have h10 := Lib.hid ((h9.out.then (Wrote.alloc _ _ _)).then q10)
  clear h9 q10
  go_wp2_with fail
  refine (hup 9223372036854775807 0 9223372036854775807 1 _ (by decide) (by decide) (by decide) (by decide) (by decide +kernel)).mono ?_
  rintro r _ ⟨rfl, rfl⟩
  go_wp2_with fail
  refine (hup 1 0 9223372036854775807 9223372036854775807 _ (by decide) (by decide) (by decide) (by decide) (by decide +kernel)).mono ?_
  rintro r _ ⟨rfl, rfl⟩
  go_wp2_with fail
  refine (hup 2 0 9223372036854775807 9223372036854775806 _ (by decide) (by decide) (by decide) (by decide) (by decide +kernel)).mono ?_
  rintro r _ ⟨rfl, rfl⟩
  go_wp2_with fail
  refine (hup 0 2 (-1) 1 _ (by decide) (by decide) (by decide) (by decide) (by decide +kernel)).mono ?_
  rintro r _ ⟨rfl, rfl⟩
  go_wp2_with fail
  refine (hup 0 2 1 (-1) _ (by decide) (by decide) (by decide) (by decide) (by decide +kernel)).mono ?_
  rintro r _ ⟨rfl, rfl⟩
  go_wp2_with fail
  go_returns
  exact ⟨rfl, h10.out.bel⟩

end Go.Proofs.Ytbdlkkbjkbjanaa
