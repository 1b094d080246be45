/-
  FidKnown: the walk.
-/
import Derived.Test.YtlcjgphibodjkaaFidWorks
namespace Go.Proofs.Ytlcjgphibodjkaa
open Go.RowKit

set_option maxRecDepth 100000 in
set_option maxHeartbeats 400000 in
theorem ftake_nil (w : World) : Calls Try.prog 21 #[.pointer none] w fun e w' => e = .returned (.tuple #[.int .i64 0, .int .i64 1]) ∧ Below w.heap.size w w' := by
  go_enter Try.func21, Try.ntmps21
  go_wp2
  go_returns
  exact ⟨rfl, (Below.refl _ _).alloc (Nat.le_refl _) _⟩

set_option maxRecDepth 100000 in
set_option maxHeartbeats 400000 in
theorem with_nil (i e : Int) (u : Bool) (d : Value) (w : World) : Calls Try.prog 44 #[.pointer none, .int .i64 i, .bool u, .int .i64 e, d] w fun x w' => x = .returned (.int .i64 1) ∧ w = w' := by
  go_enter Try.func44, Try.ntmps44
  go_wp2
  go_returns
  exact ⟨rfl, rfl⟩

set_option maxRecDepth 100000 in
set_option maxHeartbeats 400000 in
theorem ffree_nil (i : Int) (w : World) : Calls Try.prog 19 #[.pointer none, .int .i64 i] w fun e w' => e = .returned (.int .i64 1) ∧ Below w.heap.size w w' := by
  have hmf : ∀ (fn : Fn) (first cap : Array Value) (w : World), (Instr.makeFunc fn first cap).run Try.prog w = .ok (.func fn first cap) w := fun _ _ _ _ => rfl
  go_enter Try.func19, Try.ntmps19
  go_wp2_with fail
  refine (with_nil _ _ _ _ _).mono ?_
  rintro e _ ⟨rfl, rfl⟩
  go_wp2
  go_returns
  exact ⟨rfl, ((Below.refl _ _).alloc (Nat.le_refl _) _).alloc (by simp) _⟩

set_option maxRecDepth 100000 in
set_option maxHeartbeats 400000 in
theorem fused_nil (w : World) : Calls Try.prog 23 #[.pointer none] w fun e w' => e = .returned (.int .i64 0) ∧ w = w' := by
  go_enter Try.func23, Try.ntmps23
  go_wp2
  go_loop [3, 5] (fun n i => ∃ k : Nat, k ≤ 256 ∧ i = .int .i64 k ∧ n = .int .i64 0) (fun _ i => 256 - (intOf i).toNat)
  case atStart => exact ⟨0, by omega, rfl, rfl⟩
  case round =>
    obtain ⟨k, hk, rfl, rfl⟩ := hrel
    by_cases hlt : k < 256
    · have hlt2 : (k : Int) < 256 := by omega
      go_wp2
      exact ⟨⟨k + 1, by omega, by go_num, rfl⟩, by simp [intOf]; omega⟩
    · obtain rfl : k = 256 := by omega
      go_wp2
      go_returns
      exact ⟨rfl, rfl⟩

/-- Up to i, i not in it. -/
def up (i : Nat) : List Bool := pl (fun j => decide (j < i))
theorem up_set (i : Nat) : (up i).set i true = up (i + 1) := by
  unfold up
  rw [pl_set]
  refine pl_congr fun j _ => ?_
  by_cases h1 : j = i
  · subst h1; simp
  · rw [if_neg h1]
    exact decide_eq_decide.2 (by omega)
theorem up_v {i : Nat} (h : i < 256) : takeV (up i) i = i := by
  unfold takeV up
  rw [pl_get _ h]
  simp
theorem up_n {i : Nat} (h : i < 256) : takeN (up i) i = (i + 1) % 256 := by
  unfold takeN up
  rw [pl_get _ h]
  simp
theorem up_zero : pl (fun _ => false) = up 0 := pl_congr fun j _ => by simp

theorem ft0 (w0 : World) (b : Nat) (us us' : List Bool) (n n' : Nat) (v e : Int) (w : World) (h : Hid (PoolIn w0 w b us n)) (hn : n < 256) (hv : (takeA us n : Int) = v) (he : takeE us n = e) (hu : us.set n true = us') (hN : takeN us n = n') :
    Calls Try.prog 21 #[.pointer (some ⟨b, 0, none⟩)] w fun r w' => r = .returned (.tuple #[.int .i64 v, .int .i64 e]) ∧ Hid (PoolIn w0 w' b us' n') := by
  subst hv hu hN he
  refine (ftake b us n w h.out.p hn).mono ?_
  rintro r w' ⟨rfl, g, p⟩
  exact ⟨rfl, Lib.hid ⟨p, own_grown h.out.bel g h.out.le, h.out.le⟩⟩
theorem PoolIn.then {w0 w w' : World} {b : Nat} {us : List Bool} {n : Nat} (h : PoolIn w0 w b us n) (hb : Below w.heap.size w w') : PoolIn w0 w' b us n :=
  ⟨h.p.below hb h.p.lt, bthen h.bel hb, h.le⟩

set_option maxRecDepth 100000 in
set_option maxHeartbeats 400000 in
theorem fidKnown_walk (w : World) : Calls Try.prog 7 #[] w fun e w' => e = .returned (.bool true) ∧ Below w.heap.size w w' := by
  go_enter Try.func7, Try.ntmps7
  go_wp2_with fail
  refine (fnw _).mono ?_
  rintro e w1 ⟨rfl, h1⟩
  rw [up_zero] at h1
  go_wp2_with fail
  go_loopw [3] (fun i wr => ∃ k : Nat, k ≤ 256 ∧ i = .int .i64 k ∧ Hid (PoolIn w wr w.heap.size (up k) (k % 256))) (fun i _ => 256 - (intOf i).toNat)
  case atStart => exact ⟨0, by omega, rfl, h1⟩
  case round =>
    obtain ⟨k, hk, rfl, hp⟩ := hrel
    clear h1
    by_cases hlt : k < 256
    · have hm : k % 256 = k := Nat.mod_eq_of_lt hlt
      rw [hm] at hp
      have hlt2 : (k : Int) < 256 := by omega
      go_wp2_with fail
      refine (ftk w _ _ (up (k + 1)) k ((k + 1) % 256) k _ hp hlt (up_v hlt) (up_set k) (up_n hlt)).mono ?_
      rintro e w9 ⟨rfl, h9⟩
      go_wp2_with fail
      exact ⟨⟨k + 1, by omega, by go_num, h9⟩, by simp [intOf]; omega⟩
    · obtain rfl : k = 256 := by omega
      go_wp2_with fail
      refine (ft0 w _ _ (up 256) 0 0 0 18 _ hp (by decide) (by decide +kernel) (by decide +kernel) (by decide +kernel) (by decide +kernel)).mono ?_
      rintro e w2 ⟨rfl, h2⟩
      go_wp2_with fail
      refine (ffr w _ _ (pl (fun j => !decide (j = 5))) 0 5 0 _ h2 (by decide +kernel) (by decide +kernel)).mono ?_
      rintro e w3 ⟨rfl, h3⟩
      go_wp2_with fail
      refine (ftk w _ _ (pl (fun j => !decide (j = 5))) 0 0 (-1) _ h3 (by decide) (by decide +kernel) (by decide +kernel) (by decide +kernel)).mono ?_
      rintro e w4 ⟨rfl, h4⟩
      go_wp2_with fail
      refine (ffr w _ _ (pl (fun j => !decide (j = 5) && !decide (j = 0))) 0 0 0 _ h4 (by decide +kernel) (by decide +kernel)).mono ?_
      rintro e w5 ⟨rfl, h5⟩
      go_wp2_with fail
      refine (ftk w _ _ (pl (fun j => !decide (j = 5))) 0 1 0 _ h5 (by decide) (by decide +kernel) (by decide +kernel) (by decide +kernel)).mono ?_
      rintro e w6 ⟨rfl, h6⟩
      go_wp2_with fail
      refine (ftk w _ _ (pl (fun j => !decide (j = 5))) 1 1 (-1) _ h6 (by decide) (by decide +kernel) (by decide +kernel) (by decide +kernel)).mono ?_
      rintro e w7 ⟨rfl, h7⟩
      clear h2 h3 h4 h5 h6 hp
      go_wp2_with fail
      refine (ftake_nil _).mono ?_
      rintro e w8 ⟨rfl, q8⟩
      have h8 := Lib.hid (h7.out.then q8)
      clear q8 h7
      go_wp2_with fail
      refine (works12 _).mono ?_
      rintro e w9 ⟨rfl, q9⟩
      have h9 := Lib.hid (h8.out.then q9)
      clear q9 h8
      go_wp2_with fail
      refine (fus w _ _ 1 255 _ h9 (by decide +kernel)).mono ?_
      rintro e _ ⟨rfl, rfl⟩
      go_wp2_with fail
      refine (ffree_nil _ _).mono ?_
      rintro e w10 ⟨rfl, q10⟩
      have h10 := Lib.hid (h9.out.then q10)
      clear q10 h9
      go_wp2_with fail
      refine (fused_nil _).mono ?_
      rintro e _ ⟨rfl, rfl⟩
      go_wp2_with fail
      go_returns
      exact ⟨rfl, h10.out.bel⟩

end Go.Proofs.Ytlcjgphibodjkaa
