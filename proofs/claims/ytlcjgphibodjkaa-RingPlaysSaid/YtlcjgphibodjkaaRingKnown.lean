/-
  RingKnown: the walk.
-/
import Derived.Test.YtlcjgphibodjkaaRingWorks
import Derived.Test.YtlcjgphibodjkaaRingRow
import Derived.Test.YtlcjgphibodjkaaRingAllS
import Derived.Test.YtlcjgphibodjkaaRingInI
namespace Go.Proofs.Ytlcjgphibodjkaa
open Go.RowKit

theorem wfirst (w0 : World) (r room : Nat) (x : Value) (xs : List Value) (w : World) (h : Hid (RsIn w0 w r room (x :: xs))) :
    Calls Try.prog 42 #[.pointer (some ⟨r, 0, none⟩)] w fun e w' => e = .returned (.tuple #[x, .bool true]) ∧ w = w' := by
  obtain ⟨B, v, hv⟩ := h.out.ex
  exact ringS.first r B room v x xs w hv
theorem wall (w0 : World) (r room : Nat) (xs : List Value) (w : World) (h : Hid (RsIn w0 w r room xs)) (hn : xs.length ≤ 1000000) :
    Calls Try.prog 43 #[.pointer (some ⟨r, 0, none⟩)] w fun e w' => ∃ a c, e = .returned (.slice a xs.length c) ∧ Below w.heap.size w w' := by
  obtain ⟨B, v, hv⟩ := h.out.ex
  refine (ringS.all r B room v xs w hv hn).mono fun _ _ ⟨v', he, q⟩ => ?_
  have hi := q.own
  rw [Nat.div_one] at hi
  rcases hi.2 with ⟨rfl, h0⟩ | ⟨g, c, cur, rfl, _⟩
  · exact ⟨none, 0, by rw [he, h0], q.bel⟩
  · exact ⟨_, c, he, q.bel⟩

set_option maxRecDepth 100000 in
set_option maxHeartbeats 400000 in
theorem nfirst (w : World) : Calls Try.prog 32 #[.pointer none] w fun e w' => e = .returned (.tuple #[.int .i64 0, .bool false]) ∧ w = w' := by
  go_enter Try.func32, Try.ntmps32
  go_wp2
  go_returns
  exact ⟨rfl, rfl⟩
set_option maxRecDepth 100000 in
set_option maxHeartbeats 400000 in
theorem ntake (w : World) : Calls Try.prog 30 #[.pointer none] w fun e w' => e = .returned (.tuple #[.int .i64 0, .bool false]) ∧ w = w' := by
  go_enter Try.func30, Try.ntmps30
  go_wp2_with fail
  refine (nfirst _).mono ?_
  rintro e _ ⟨rfl, rfl⟩
  go_wp2
  go_returns
  exact ⟨rfl, rfl⟩
set_option maxRecDepth 100000 in
set_option maxHeartbeats 400000 in
theorem nlen (w : World) : Calls Try.prog 35 #[.pointer none] w fun e w' => e = .returned (.int .i64 0) ∧ w = w' := by
  go_enter Try.func35, Try.ntmps35
  go_wp2
  go_returns
  exact ⟨rfl, rfl⟩
set_option maxRecDepth 100000 in
set_option maxHeartbeats 400000 in
theorem nall (w : World) : Calls Try.prog 34 #[.pointer none] w fun e w' => e = .returned (.slice none 0 0) ∧ w = w' := by
  go_enter Try.func34, Try.ntmps34
  go_wp2
  go_returns
  exact ⟨rfl, rfl⟩
set_option maxRecDepth 100000 in
set_option maxHeartbeats 400000 in
theorem nput (x : Value) (w : World) : Calls Try.prog 28 #[.pointer none, x] w fun e w' => e = .returned (.int .i64 1) ∧ w = w' := by
  go_enter Try.func28, Try.ntmps28
  go_wp2
  go_returns
  exact ⟨rfl, rfl⟩

set_option maxRecDepth 100000 in
set_option maxHeartbeats 800000 in
theorem ringKnown_walk (w : World) : Calls Try.prog 10 #[] w fun e w' => e = .returned (.bool true) ∧ Below w.heap.size w w' := by
  go_enter Try.func10, Try.ntmps10
  go_wp2_with fail
  refine (ringS.new 2 _ (by decide) (by decide)).mono ?_
  rintro e w1 ⟨rfl, q1, s1⟩
  have h1 : Hid (RsIn w w1 w.heap.size 2 []) := Lib.hid ⟨⟨_, _, s1⟩, q1, Nat.le_refl _⟩
  clear q1 s1
  go_wp2_with fail
  refine (wput w _ 2 _ _ _ h1 (by decide) (by decide)).mono ?_
  rintro e w2 ⟨rfl, h2⟩
  go_wp2_with fail
  refine (wput w _ 2 _ _ _ h2 (by simp) (by decide)).mono ?_
  rintro e w3 ⟨rfl, h3⟩
  go_wp2_with fail
  refine (wput_full w _ 2 _ _ _ h3 (by simp)).mono ?_
  rintro e w4 ⟨rfl, h4⟩
  go_wp2_with fail
  refine (wlenI w _ 2 _ 2 _ h4 (by simp)).mono ?_
  rintro e _ ⟨rfl, rfl⟩
  go_wp2_with fail
  refine (wfirst w _ 2 _ _ _ h4).mono ?_
  rintro e _ ⟨rfl, rfl⟩
  go_wp2_with fail
  refine (wtake w _ 2 _ _ _ h4).mono ?_
  rintro e w5 ⟨rfl, h5⟩
  go_wp2_with fail
  refine (wput w _ 2 _ _ _ h5 (by simp) (by decide)).mono ?_
  rintro e w6 ⟨rfl, h6⟩
  go_wp2_with fail
  refine (wtake w _ 2 _ _ _ h6).mono ?_
  rintro e w7 ⟨rfl, h7⟩
  go_wp2_with fail
  refine (wtake w _ 2 _ _ _ h7).mono ?_
  rintro e w8 ⟨rfl, h8⟩
  go_wp2_with fail
  refine (wtake_none w _ 2 _ h8).mono ?_
  rintro e _ ⟨rfl, rfl⟩
  clear h1 h2 h3 h4 h5 h6 h7
  go_wp2_with fail
  refine (ntake _).mono ?_
  rintro e _ ⟨rfl, rfl⟩
  go_wp2_with fail
  refine (nfirst _).mono ?_
  rintro e _ ⟨rfl, rfl⟩
  go_wp2_with fail
  refine (wall w _ 2 _ _ h8 (by decide)).mono ?_
  rintro e w9 ⟨a9, c9, rfl, q9⟩
  have q9' := h8.out.bel.trans (q9.mono h8.out.bel.size)
  go_wp2_with fail
  refine (ringI.new_no 0 _ (by decide)).mono ?_
  rintro e _ ⟨rfl, rfl⟩
  go_wp2_with fail
  refine (ringI.new_no 65537 _ (by decide)).mono ?_
  rintro e _ ⟨rfl, rfl⟩
  go_wp2_with fail
  refine (ringI.new_no (-1) _ (by decide)).mono ?_
  rintro e _ ⟨rfl, rfl⟩
  go_wp2_with fail
  refine (ringI.new 65536 _ (by decide) (by decide)).mono ?_
  rintro e w10 ⟨rfl, q10, -⟩
  have q10' := q9'.trans (q10.mono q9'.size)
  go_wp2_with fail
  refine (nlen _).mono ?_
  rintro e _ ⟨rfl, rfl⟩
  go_wp2_with fail
  refine (nall _).mono ?_
  rintro e _ ⟨rfl, rfl⟩
  go_wp2_with fail
  refine (nput _ _).mono ?_
  rintro e _ ⟨rfl, rfl⟩
  go_wp2_with fail
  refine (works15 _).mono ?_
  rintro e w11 ⟨rfl, q11⟩
  go_wp2_with fail
  go_returns
  exact ⟨rfl, q10'.trans (q11.mono q10'.size)⟩

end Go.Proofs.Ytlcjgphibodjkaa
