/-
  aeriallaw12: take, works; pools that are none.
-/
import Derived.Test.YtlcjgphibodjkaaFid
namespace Go.Proofs.Ytlcjgphibodjkaa
open Go.RowKit

def pl (p : Nat → Bool) : List Bool := (List.range 256).map p
theorem pl_length (p : Nat → Bool) : (pl p).length = 256 := by simp [pl]
theorem pl_get (p : Nat → Bool) {i : Nat} (hi : i < 256) : (pl p).getD i false = p i := by
  rw [List.getD_eq_getElem?_getD, pl, List.getElem?_map, List.getElem?_range hi]
  rfl
theorem pl_congr {p q : Nat → Bool} (h : ∀ i < 256, p i = q i) : pl p = pl q := List.map_congr_left (fun i hi => h i (List.mem_range.1 hi))
theorem pl_set (p : Nat → Bool) (i : Nat) (x : Bool) : (pl p).set i x = pl (fun j => if j = i then x else p j) := by
  apply List.ext_getElem (by simp [pl])
  intro j h1 h2
  rw [List.getElem_set]
  simp only [pl, List.getElem_map, List.getElem_range]
  by_cases h : i = j
  · rw [if_pos h, if_pos h.symm]
  · rw [if_neg h, if_neg (fun e => h e.symm)]
theorem pl_rep : List.replicate 256 false = pl (fun _ => false) := by decide +kernel

def takeV (us : List Bool) (n : Nat) : Int := if us.getD n false then -1 else n

/-- A pool that was made behind w0. -/
structure PoolIn (w0 w : World) (b : Nat) (us : List Bool) (n : Nat) : Prop where
  p : IsPool w b us n
  bel : Below w0.heap.size w0 w
  le : w0.heap.size ≤ b
theorem PoolIn.drew {w0 w : World} {b : Nat} {us : List Bool} {n : Nat} (h : PoolIn w0 w b us n) : PoolIn w0 w.drew b us n := ⟨h.p, h.bel.drew, h.le⟩

theorem own_grown {w0 w w' : World} {b : Nat} (h : Below w0.heap.size w0 w) (hg : w.grownBy w' (some b)) (hb : w0.heap.size ≤ b) : Below w0.heap.size w0 w' :=
  h.grown hg h.size (fun k hk => by cases hk; exact hb)

set_option maxRecDepth 100000 in
set_option maxHeartbeats 400000 in
theorem ftk0 (b : Nat) (us : List Bool) (n : Nat) (w : World) (h : IsPool w b us n) (hn : n < 256) :
    Calls Try.prog 25 #[.pointer (some ⟨b, 0, none⟩)] w fun e w' => e = .returned (.int .i64 (takeV us n)) ∧ w.grownBy w' (some b) ∧ IsPool w' b (us.set n true) (takeN us n) := by
  cases hu : us.getD n false with
  | true =>
    have H1 : takeE us n = 18 := by unfold takeE; rw [hu]; rfl
    have H2 : Hid (takeV us n = -1) := Lib.hid (by unfold takeV; rw [hu]; rfl)
    have H := Lib.hid h
    clear h
    go_enter Try.func25, Try.ntmps25
    go_wp2_with fail
    refine (ftake b us n _ H.out hn).mono ?_
    rw [H1]
    rintro e w1 ⟨rfl, g, p⟩
    go_wp2
    go_returns
    exact ⟨by rw [H2.out]; rfl, g, p⟩
  | false =>
    have H1 : takeE us n = 0 := by unfold takeE; rw [hu]; rfl
    have H3 : takeA us n = n := by unfold takeA; rw [hu]; rfl
    have H2 : Hid (takeV us n = n) := Lib.hid (by unfold takeV; rw [hu]; rfl)
    have H := Lib.hid h
    clear h
    go_enter Try.func25, Try.ntmps25
    go_wp2_with fail
    refine (ftake b us n _ H.out hn).mono ?_
    rw [H1, H3]
    rintro e w1 ⟨rfl, g, p⟩
    go_wp2
    go_returns
    exact ⟨by rw [H2.out]; rfl, g, p⟩

/-- One step, by the state ahead and behind. -/
theorem ftk (w0 : World) (b : Nat) (us us' : List Bool) (n n' : Nat) (v : Int) (w : World) (h : Hid (PoolIn w0 w b us n)) (hn : n < 256) (hv : takeV us n = v) (hu : us.set n true = us') (hN : takeN us n = n') :
    Calls Try.prog 25 #[.pointer (some ⟨b, 0, none⟩)] w fun e w' => e = .returned (.int .i64 v) ∧ Hid (PoolIn w0 w' b us' n') := by
  subst hv hu hN
  refine (ftk0 b us n w h.out.p hn).mono ?_
  rintro e w' ⟨rfl, g, p⟩
  exact ⟨rfl, Lib.hid ⟨p, own_grown h.out.bel g h.out.le, h.out.le⟩⟩
theorem ffr (w0 : World) (b : Nat) (us us' : List Bool) (n : Nat) (i v : Int) (w : World) (h : Hid (PoolIn w0 w b us n)) (hv : freeE us i = v) (hu : freeU us i = us') :
    Calls Try.prog 19 #[.pointer (some ⟨b, 0, none⟩), .int .i64 i] w fun e w' => e = .returned (.int .i64 v) ∧ Hid (PoolIn w0 w' b us' n) := by
  subst hv hu
  refine (ffree b us n i w h.out.p).mono ?_
  rintro e w' ⟨rfl, g, p⟩
  exact ⟨rfl, Lib.hid ⟨p, own_grown h.out.bel g h.out.le, h.out.le⟩⟩
theorem fus (w0 : World) (b : Nat) (us : List Bool) (n c : Nat) (w : World) (h : Hid (PoolIn w0 w b us n)) (hc : us.countP id = c) :
    Calls Try.prog 23 #[.pointer (some ⟨b, 0, none⟩)] w fun e w' => e = .returned (.int .i64 c) ∧ w = w' := by
  subst hc
  exact fused b us n w h.out.p
theorem fnw (w : World) : Calls Try.prog 18 #[] w fun e w' => e = .returned (.pointer (some ⟨w.heap.size, 0, none⟩)) ∧ Hid (PoolIn w w' w.heap.size (pl fun _ => false) 0) :=
  (fnew w).mono fun _ _ h => ⟨h.1, Lib.hid ⟨by rw [← pl_rep]; exact h.2.2, h.2.1, Nat.le_refl _⟩⟩

/-- From 1 up to i, i not in it. -/
def lo (i : Nat) : List Bool := pl (fun j => decide (1 ≤ j) && decide (j < i))
theorem lo_set {i : Nat} (h : 1 ≤ i) : (lo i).set i true = lo (i + 1) := by
  unfold lo
  rw [pl_set]
  refine pl_congr fun j _ => ?_
  by_cases h1 : j = i
  · subst h1; simp [h]
  · rw [if_neg h1, show decide (j < i) = decide (j < i + 1) from decide_eq_decide.2 (by omega)]
theorem lo_v {i : Nat} (h : i < 256) : takeV (lo i) i = i := by
  unfold takeV lo
  rw [pl_get _ h]
  simp
theorem lo_n {i : Nat} (h : i < 256) : takeN (lo i) i = (i + 1) % 256 := by
  unfold takeN lo
  rw [pl_get _ h]
  simp

set_option maxRecDepth 100000 in
set_option maxHeartbeats 400000 in
theorem works12 (w : World) : Calls Try.prog 24 #[] w fun e w' => e = .returned (.bool true) ∧ Below w.heap.size w w' := by
  go_enter Try.func24, Try.ntmps24
  go_wp2_with fail
  refine (fnw _).mono ?_
  rintro e w1 ⟨rfl, h1⟩
  go_wp2_with fail
  refine (ftk w _ _ (pl (fun j => decide (j = 0))) 0 1 0 _ h1 (by decide) (by decide +kernel) (by decide +kernel) (by decide +kernel)).mono ?_
  rintro e w2 ⟨rfl, h2⟩
  go_wp2_with fail
  refine (ftk w _ _ (pl (fun j => decide (j < 2))) 1 2 1 _ h2 (by decide) (by decide +kernel) (by decide +kernel) (by decide +kernel)).mono ?_
  rintro e w3 ⟨rfl, h3⟩
  go_wp2_with fail
  refine (ffr w _ _ (pl (fun j => decide (j = 1))) 2 0 0 _ h3 (by decide +kernel) (by decide +kernel)).mono ?_
  rintro e w4 ⟨rfl, h4⟩
  go_wp2_with fail
  refine (ftk w _ _ (lo 3) 2 3 2 _ h4 (by decide) (by decide +kernel) (by decide +kernel) (by decide +kernel)).mono ?_
  rintro e w5 ⟨rfl, h5⟩
  go_wp2_with fail
  refine (fus w _ _ 3 2 _ h5 (by decide +kernel)).mono ?_
  rintro e _ ⟨rfl, rfl⟩
  go_wp2_with fail
  refine (ffr w _ _ (lo 3) 3 0 5 _ h5 (by decide +kernel) (by decide +kernel)).mono ?_
  rintro e w6 ⟨rfl, h6⟩
  go_wp2_with fail
  refine (ffr w _ _ (lo 3) 3 256 2 _ h6 (by decide +kernel) (by decide +kernel)).mono ?_
  rintro e w7 ⟨rfl, h7⟩
  go_wp2_with fail
  refine (ffr w _ _ (lo 3) 3 (-1) 2 _ h7 (by decide +kernel) (by decide +kernel)).mono ?_
  rintro e w8 ⟨rfl, h8⟩
  clear h1 h2 h3 h4 h5 h6 h7
  go_wp2_with fail
  go_loopw [2] (fun i wr => ∃ k : Nat, 3 ≤ k ∧ k ≤ 256 ∧ i = .int .i64 k ∧ Hid (PoolIn w wr w.heap.size (lo k) (k % 256))) (fun i _ => 256 - (intOf i).toNat)
  case atStart => exact ⟨3, by omega, by omega, rfl, h8⟩
  case round =>
    obtain ⟨k, hk, hk2, rfl, hp⟩ := hrel
    clear h8
    by_cases hlt : k < 256
    · have hm : k % 256 = k := Nat.mod_eq_of_lt hlt
      rw [hm] at hp
      have hlt2 : (k : Int) < 256 := by omega
      go_wp2_with fail
      refine (ftk w _ _ (lo (k + 1)) k ((k + 1) % 256) k _ hp hlt (lo_v hlt) (lo_set (by omega)) (lo_n hlt)).mono ?_
      rintro e w9 ⟨rfl, h9⟩
      go_wp2_with fail
      exact ⟨⟨k + 1, by omega, by omega, by go_num, h9⟩, by simp [intOf]; omega⟩
    · obtain rfl : k = 256 := by omega
      go_wp2_with fail
      refine (ftk w _ _ (pl fun _ => true) 0 1 0 _ hp (by decide) (by decide +kernel) (by decide +kernel) (by decide +kernel)).mono ?_
      rintro e w9 ⟨rfl, h9⟩
      go_wp2_with fail
      refine (ffr w _ _ (pl (fun j => !decide (j = 1))) 1 1 0 _ h9 (by decide +kernel) (by decide +kernel)).mono ?_
      rintro e w10 ⟨rfl, h10⟩
      go_wp2_with fail
      refine (ftk w _ _ (pl fun _ => true) 1 2 1 _ h10 (by decide) (by decide +kernel) (by decide +kernel) (by decide +kernel)).mono ?_
      rintro e w11 ⟨rfl, h11⟩
      go_wp2_with fail
      go_returns
      exact ⟨rfl, h11.out.bel⟩

end Go.Proofs.Ytlcjgphibodjkaa
