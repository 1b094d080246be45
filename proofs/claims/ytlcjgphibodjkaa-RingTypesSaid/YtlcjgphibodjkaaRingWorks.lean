/-
  aeriallaw15.works; a ring behind a mark.
-/
import Derived.Test.YtlcjgphibodjkaaRingS
namespace Go.Proofs.Ytlcjgphibodjkaa
open Go.RowKit

/-- A ring of texts that was made behind w0. -/
structure RsIn (w0 w : World) (r room : Nat) (xs : List Value) : Prop where
  ex : ∃ B v, ringS.Ring w r B room v xs
  bel : Below w0.heap.size w0 w
  le : w0.heap.size ≤ r
theorem RsIn.step {w0 w w' : World} {r room B : Nat} {v v' : Value} {xs ys : List Value} (h : RsIn w0 w r room xs) (hr : ringS.Ring w r B room v xs) (k : Wrote (fun k => k = r ∨ sliceAt v k) w w') (hr' : ringS.Ring w' r B room v' ys) : RsIn w0 w' r room ys :=
  ⟨⟨_, _, hr'⟩, Wrote.below h.bel k (fun i hi => by
    rcases hi with rfl | hi
    · exact h.le
    · have := (hr.q.lt i hi).1; have := hr.lt; have := h.le; omega), h.le⟩
theorem wput (w0 : World) (r room : Nat) (xs : List Value) (y : ByteArray) (w : World) (h : Hid (RsIn w0 w r room xs)) (hf : xs.length < room) (hr : room ≤ 65536) :
    Calls Try.prog 13 #[.pointer (some ⟨r, 0, none⟩), .string y] w fun e w' => e = .returned (.int .i64 0) ∧ Hid (RsIn w0 w' r room (xs ++ [.string y])) := by
  obtain ⟨B, v, hv⟩ := h.out.ex
  exact (ringS.put r B room v xs y w hv hf hr).mono fun _ _ ⟨he, _, k, q, _⟩ => ⟨he, Lib.hid (h.out.step hv k q)⟩
theorem wput_full (w0 : World) (r room : Nat) (xs : List Value) (y : Value) (w : World) (h : Hid (RsIn w0 w r room xs)) (hf : room ≤ xs.length) :
    Calls Try.prog 13 #[.pointer (some ⟨r, 0, none⟩), y] w fun e w' => e = .returned (.int .i64 6) ∧ Hid (RsIn w0 w' r room xs) := by
  obtain ⟨B, v, hv⟩ := h.out.ex
  exact (ringS.put_full r B room v xs y w hv hf).mono fun _ _ ⟨he, k⟩ => ⟨he, Lib.hid ⟨⟨B, v, hv.S.kept k (fun h => h), hv.q.kept k (fun _ _ h => h), hv.one, hv.lt, Nat.le_trans hv.hB k.size⟩, Wrote.below h.out.bel k (fun _ h => h.elim), h.out.le⟩⟩
theorem wtake (w0 : World) (r room : Nat) (x : Value) (xs : List Value) (w : World) (h : Hid (RsIn w0 w r room (x :: xs))) :
    Calls Try.prog 15 #[.pointer (some ⟨r, 0, none⟩)] w fun e w' => e = .returned (.tuple #[x, .bool true]) ∧ Hid (RsIn w0 w' r room xs) := by
  obtain ⟨B, v, hv⟩ := h.out.ex
  exact (ringS.take r B room v x xs w hv).mono fun _ _ ⟨he, _, k, q, _⟩ => ⟨he, Lib.hid (h.out.step hv k q)⟩
theorem wlen (w0 : World) (r room : Nat) (xs : List Value) (w : World) (h : Hid (RsIn w0 w r room xs)) :
    Calls Try.prog 16 #[.pointer (some ⟨r, 0, none⟩)] w fun e w' => e = .returned (.int .i64 xs.length) ∧ w = w' := by
  obtain ⟨B, v, hv⟩ := h.out.ex
  exact ringS.len r B room v xs w hv

set_option maxRecDepth 100000 in
set_option maxHeartbeats 400000 in
theorem works15 (w : World) : Calls Try.prog 17 #[] w fun e w' => e = .returned (.bool true) ∧ Below w.heap.size w w' := by
  go_enter Try.func17, Try.ntmps17
  go_wp2_with fail
  refine (ringS.new 2 _ (by decide) (by decide)).mono ?_
  rintro e w1 ⟨rfl, q1, s1⟩
  have h1 : Hid (RsIn w w1 w.heap.size 2 []) := Lib.hid ⟨⟨_, _, s1⟩, q1, Nat.le_refl _⟩
  clear q1 s1
  go_wp2_with fail
  refine (wput w _ 2 _ _ _ h1 (by decide) (by decide)).mono ?_
  rintro e w2 ⟨rfl, h2⟩
  go_wp2_with fail
  refine (wput w _ 2 _ _ _ h2 (by simp) (by decide)).mono ?_
  rintro e w3 ⟨rfl, h3⟩
  go_wp2_with fail
  refine (wput_full w _ 2 _ _ _ h3 (by simp)).mono ?_
  rintro e w4 ⟨rfl, h4⟩
  go_wp2_with fail
  refine (wtake w _ 2 _ _ _ h4).mono ?_
  rintro e w5 ⟨rfl, h5⟩
  go_wp2_with fail
  refine (wput w _ 2 _ _ _ h5 (by simp) (by decide)).mono ?_
  rintro e w6 ⟨rfl, h6⟩
  go_wp2_with fail
  refine (wlen w _ 2 _ _ h6).mono ?_
  rintro e _ ⟨rfl, rfl⟩
  go_wp2_with fail
  go_returns
  exact ⟨rfl, h6.out.bel⟩

end Go.Proofs.Ytlcjgphibodjkaa
