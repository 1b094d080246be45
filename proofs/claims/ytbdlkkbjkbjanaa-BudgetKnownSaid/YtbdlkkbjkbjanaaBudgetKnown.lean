/-
  BudgetKnown: the walk; budgets that are none.
-/
import Derived.Test.YtbdlkkbjkbjanaaBudget2
namespace Go.Proofs.Ytbdlkkbjkbjanaa
open Go.RowKit

set_option maxRecDepth 100000 in
set_option maxHeartbeats 400000 in
theorem is_nil_bool (f : Value) (w : World) : Calls Try.prog 38 #[.pointer none, f] w fun e w' => e = .returned (.bool false) ∧ w = w' := by
  go_enter Try.func38, Try.ntmps38
  go_wp2
  go_returns
  exact ⟨rfl, rfl⟩
set_option maxRecDepth 100000 in
set_option maxHeartbeats 400000 in
theorem is_nil_int (f : Value) (w : World) : Calls Try.prog 41 #[.pointer none, f] w fun e w' => e = .returned (.int .i64 0) ∧ w = w' := by
  go_enter Try.func41, Try.ntmps41
  go_wp2
  go_returns
  exact ⟨rfl, rfl⟩
set_option maxRecDepth 100000 in
set_option maxHeartbeats 400000 in
theorem is_nil_u64 (f : Value) (w : World) : Calls Try.prog 43 #[.pointer none, f] w fun e w' => e = .returned (.int .u64 0) ∧ w = w' := by
  go_enter Try.func43, Try.ntmps43
  go_wp2
  go_returns
  exact ⟨rfl, rfl⟩
set_option maxRecDepth 100000 in
set_option maxHeartbeats 400000 in
theorem tick_nil (w : World) : Calls Try.prog 17 #[.pointer none] w fun e w' => e = .returned (.tuple #[]) ∧ Below w.heap.size w w' := by
  have hmf := makeFunc_run
  go_enter Try.func17, Try.ntmps17
  go_wp2_with fail
  refine (is_nil_bool _ _).mono ?_
  rintro e _ ⟨rfl, rfl⟩
  go_wp2
  go_returns
  exact ⟨rfl, ((Below.refl _ _).alloc (Nat.le_refl _) _)⟩
set_option maxRecDepth 100000 in
set_option maxHeartbeats 400000 in
theorem pay_nil (w : World) : Calls Try.prog 19 #[.pointer none, .int .i64 1] w fun e w' => e = .returned (.bool false) ∧ Below w.heap.size w w' := by
  have hmf := makeFunc_run
  go_enter Try.func19, Try.ntmps19
  go_wp2_with fail
  refine (is_nil_bool _ _).mono ?_
  rintro e _ ⟨rfl, rfl⟩
  go_wp2
  go_returns
  exact ⟨rfl, ((Below.refl _ _).alloc (Nat.le_refl _) _).alloc (by simp) _⟩
set_option maxRecDepth 100000 in
set_option maxHeartbeats 400000 in
theorem left_nil (w : World) : Calls Try.prog 21 #[.pointer none] w fun e w' => e = .returned (.int .i64 0) ∧ Below w.heap.size w w' := by
  have hmf := makeFunc_run
  go_enter Try.func21, Try.ntmps21
  go_wp2_with fail
  refine (is_nil_int _ _).mono ?_
  rintro e _ ⟨rfl, rfl⟩
  go_wp2
  go_returns
  exact ⟨rfl, ((Below.refl _ _).alloc (Nat.le_refl _) _)⟩
set_option maxRecDepth 100000 in
set_option maxHeartbeats 400000 in
theorem granted_nil (w : World) : Calls Try.prog 22 #[.pointer none] w fun e w' => e = .returned (.int .u64 0) ∧ Below w.heap.size w w' := by
  have hmf := makeFunc_run
  go_enter Try.func22, Try.ntmps22
  go_wp2_with fail
  refine (is_nil_u64 _ _).mono ?_
  rintro e _ ⟨rfl, rfl⟩
  go_wp2
  go_returns
  exact ⟨rfl, ((Below.refl _ _).alloc (Nat.le_refl _) _)⟩
set_option maxRecDepth 100000 in
set_option maxHeartbeats 400000 in
theorem paid_nil (w : World) : Calls Try.prog 23 #[.pointer none] w fun e w' => e = .returned (.int .u64 0) ∧ Below w.heap.size w w' := by
  have hmf := makeFunc_run
  go_enter Try.func23, Try.ntmps23
  go_wp2_with fail
  refine (is_nil_u64 _ _).mono ?_
  rintro e _ ⟨rfl, rfl⟩
  go_wp2
  go_returns
  exact ⟨rfl, ((Below.refl _ _).alloc (Nat.le_refl _) _)⟩

set_option maxRecDepth 100000 in
set_option maxHeartbeats 400000 in
theorem budgetKnown_walk (w : World) : Calls Try.prog 7 #[] w fun e w' => e = .returned (.bool true) ∧ Below w.heap.size w w' := by
  go_enter Try.func7, Try.ntmps7
  go_wp2_with fail
  refine (tick_nil _).mono ?_
  rintro e w0 ⟨rfl, q0⟩
  go_wp2_with fail
  refine (unew 1000000 _ (by decide) (by decide)).mono ?_
  rintro e w1 ⟨rfl, q1, u1⟩
  obtain ⟨s, hs⟩ : ∃ s, s = w0.heap.size := ⟨_, rfl⟩
  have h1 : Hid (BudIn w w1 (s + 1) s 1000000 0 0 0) := Lib.hid (by rw [hs]; exact ⟨u1, bthen q0 q1, q0.size⟩)
  rw [← hs]
  clear hs u1 q0 q1
  go_wp2_with fail
  refine (ytick w _ _ 1000000 0 1000000 0 1000000 0 _ h1 (by decide) (by decide)).mono ?_
  rintro e w2 ⟨rfl, h2⟩
  go_wp2_with fail
  refine (yleft w _ _ _ _ _ _ _ h2).mono ?_
  rintro e w3 ⟨rfl, h3⟩
  go_wp2_with fail
  refine (ytick w _ _ 1000000 1000000 1033282 1000000 1033282 0 _ h3 (by decide) (by decide)).mono ?_
  rintro e w4 ⟨rfl, h4⟩
  go_wp2_with fail
  refine (yleft w _ _ _ _ _ _ _ h4).mono ?_
  rintro e w5 ⟨rfl, h5⟩
  go_wp2_with fail
  refine (ypay w _ _ 0 1000000 1033282 1033282 1033282 0 0 false _ h5 (by decide) (by decide) (by decide)).mono ?_
  rintro e w6 ⟨rfl, h6⟩
  go_wp2_with fail
  refine (ypay w _ _ (-5) 1000000 1033282 1033282 1033282 0 0 false _ h6 (by decide) (by decide) (by decide)).mono ?_
  rintro e w7 ⟨rfl, h7⟩
  go_wp2_with fail
  refine (works20 _).mono ?_
  rintro e w8 ⟨rfl, q8⟩
  have h8 := Lib.hid (h7.out.then q8)
  clear q8 h1 h2 h3 h4 h5 h6 h7
  go_wp2_with fail
  refine (ygranted w _ _ _ _ _ _ _ h8).mono ?_
  rintro e w9 ⟨rfl, h9⟩
  go_wp2_with fail
  refine (ypay w _ _ 1033282 1000000 1033282 0 1033282 0 1033282 true _ h9 (by decide) (by decide) (by decide)).mono ?_
  rintro e w10 ⟨rfl, h10⟩
  go_wp2_with fail
  refine (yleft w _ _ _ _ _ _ _ h10).mono ?_
  rintro e w11 ⟨rfl, h11⟩
  go_wp2_with fail
  refine (ypaid w _ _ _ _ _ _ _ h11).mono ?_
  rintro e w12 ⟨rfl, h12⟩
  go_wp2_with fail
  refine (unew_no 0 _ (by decide)).mono ?_
  rintro e _ ⟨rfl, rfl⟩
  go_wp2_with fail
  refine (unew_no (-1) _ (by decide)).mono ?_
  rintro e _ ⟨rfl, rfl⟩
  go_wp2_with fail
  refine (unew_no 1000001 _ (by decide)).mono ?_
  rintro e _ ⟨rfl, rfl⟩
  go_wp2_with fail
  refine (pay_nil _).mono ?_
  rintro e w13 ⟨rfl, q13⟩
  have h13 := Lib.hid (h12.out.then q13)
  clear q13
  go_wp2_with fail
  refine (left_nil _).mono ?_
  rintro e w14 ⟨rfl, q14⟩
  have h14 := Lib.hid (h13.out.then q14)
  clear q14
  go_wp2_with fail
  refine (granted_nil _).mono ?_
  rintro e w15 ⟨rfl, q15⟩
  have h15 := Lib.hid (h14.out.then q15)
  clear q15
  go_wp2_with fail
  refine (paid_nil _).mono ?_
  rintro e w16 ⟨rfl, q16⟩
  have h16 := Lib.hid (h15.out.then q16)
  clear q16
  go_wp2_with fail
  go_returns
  exact ⟨rfl, h16.out.bel⟩

end Go.Proofs.Ytbdlkkbjkbjanaa
